/- Part 18 of the texts that the law's walk needs. -/
import Derived.Test.YtimabpfjjpjfjaaGreatDoorM02
import Derived.Test.YtimabpfjjpjfjaaGreatDoorM14
import Derived.Test.YtimabpfjjpjfjaaGreatDoorM15
import Derived.Laws.RangeAny
import Derived.Lib.OthersKept
import Derived.Deep.Onto
set_option maxHeartbeats 3200000
set_option maxRecDepth 100000
set_option linter.all false
open Go renaming World→qo
open Go.Value renaming string→qg,int→U,tuple→qj,bool→qk
open Go.Ending renaming returned→qm
open Go.RowKit renaming Below→qz,Hid→qy
open Go.IntKind renaming i64→Z
namespace Go.Proofs.YtimabpfjjpjfjaaGreatDoor
open Tryz
open Tryz renaming prog→qx
namespace ConP
structure DV(P:Bs)(x i:Nat)(acc:List Bs):Prop where
 xi:x≤i
 iP:i≤P.length
 no: ∀j,x≤j→j<i→P.getD j 0≠32
 eq:jz P=acc++jz (P.drop x)
 len:acc.length≤x
theorem YE(P:Bs):DV P 0 0 []:=⟨Y,Y,fun j h1 h2=>by omega,qc,qc⟩
theorem DW{P:Bs}{x i:Nat}{acc:List Bs}(h:DV P x i acc):32∉(P.drop x).take (i-x):=by
 intro hm;obtain⟨k,hk⟩:=List.getElem?_of_mem hm;rw[List.getElem?_take]at hk;split at hk
 ·rw[List.getElem?_drop]at hk;have:=h.no (x+k) Y Y;rw[xz,hk]at this;exact this rfl
 ·cases hk
theorem Pf{P:Bs}{x i:Nat}{acc:List Bs}(h:DV P x i acc)(hi:i<P.length)(hc:P.getD i 0=32):DV P (i+1) (i+1) (acc++[(P.drop x).take (i-x)]):=by
 refine⟨Y,Y,fun j h1 h2=>by omega,?_,by have:=h.len;have:=h.xi;simp;omega⟩
 have e:P.drop x=(P.drop x).take (i-x)++32::P.drop (i+1):=by
  have h1:=List.take_append_drop (i-x) (P.drop x);rw[List.drop_drop,show x+(i-x)=i by have:=h.xi;omega,List.drop_eq_getElem_cons hi]at h1
  have h2:P[i]=32:=by
   rw[xz,qN hi]at hc;exact hc
  rw[h2]at h1;exact h1.symm
 rw[h.eq]
 conv=>lhs;rw[e,Ir _ _ (DW h)]
 simp
theorem KQ{P:Bs}{x i:Nat}{acc:List Bs}(h:DV P x i acc)(n:Nat)(hi:i+n≤P.length)(hc: ∀j,i≤j→j<i+n→P.getD j 0≠32):DV P x (i+n) acc:=
 ⟨by have:=h.xi;omega,hi,fun j h1 h2=>by
  by_cases hj:j<i
  ·exact h.no j h1 hj
  ·exact hc j Y h2,h.eq,h.len⟩
theorem Pg{P:Bs}{x i:Nat}{acc:List Bs}(h:DV P x i acc)(hi:i=P.length):jz P=acc++[P.drop x]:=by
 rw[h.eq];have hs:=DW h;rw[qT (by simp;omega)]at hs;rw[Is _ hs]
theorem DX(s:ByteArray)(pos:Nat)(h:pos<s.size)(ha:128≤(s[pos]'h).toNat):pos+(Utf8.decode s pos).2≤s.size∧ ∀j,pos<j→j<pos+(Utf8.decode s pos).2→128≤(s.get! j).toNat:=by
 have h0:=get_at s pos h;have hn: ¬(s[pos]'h).toNat<128:=Y;simp only[Utf8.decode,h0,hn,if_false]
 have key: ∀k:Nat,(decide (pos+k<s.size)&&((s.get! (pos+k)).toNat/ 64==2))=true→pos+k<s.size∧128≤(s.get! (pos+k)).toNat:=by
  intro k hk;rw[qF,qC,beq_iff_eq]at hk;exact⟨hk.1,Y⟩
 have one: ∀j,pos<j→j<pos+1→128≤(s.get! j).toNat:=fun j h1 h2=>by omega
 split
 ·rename_i hc;rw[qF]at hc;have k1:=key 1 hc.2;split
  ·exact⟨by show pos+2≤_;omega,fun j h1 h2=>by
    have:j<pos+2:=h2;obtain rfl:j=pos+1:=Y;exact k1.2⟩
  ·exact⟨by show pos+1≤_;omega,one⟩
 ·split
  ·rename_i hc;rw[qF,qF]at hc;have k1:=key 1 hc.1.2;have k2:=key 2 hc.2;split
   ·exact⟨by show pos+3≤_;omega,fun j h1 h2=>by
     have:j<pos+3:=h2;rcases(by omega:j=pos+1∨j=pos+2)with rfl|rfl
     ·exact k1.2
     ·exact k2.2⟩
   ·exact⟨by show pos+1≤_;omega,one⟩
  ·split
   ·rename_i hc;rw[qF,qF,qF]at hc;have k1:=key 1 hc.1.1.2;have k2:=key 2 hc.1.2;have k3:=key 3 hc.2;split
    ·exact⟨by show pos+4≤_;omega,fun j h1 h2=>by
      have:j<pos+4:=h2;rcases(by omega:j=pos+1∨j=pos+2∨j=pos+3)with rfl|rfl|rfl
      ·exact k1.2
      ·exact k2.2
      ·exact k3.2⟩
    ·exact⟨by show pos+1≤_;omega,one⟩
   ·exact⟨by show pos+1≤_;omega,one⟩
theorem TT(s:ByteArray)(pos:Nat)(h:pos<s.size): ∃r n,Utf8.decode s pos=(r,n)∧r≤2147483647∧1≤n∧pos+n≤s.size∧((s.data.toList.getD pos 0=32∧r=32∧n=1)∨(r≠32∧ ∀j,pos≤j→j<pos+n→s.data.toList.getD j 0≠32)):=by
 have hle:=decode_le s pos;have hg:=PathW.getD_at s pos h;by_cases ha:(s[pos]'h).toNat<128
 ·have hd:=decode_ascii s pos h ha;refine⟨_,_,hd,Y,Nat.le_refl _,Y,?_⟩;by_cases hb:s[pos]'h=32
  ·left;exact⟨hg.trans hb,by rw[hb];rfl,rfl⟩
  ·right;refine⟨fun e=>hb (UInt8.toNat_inj.1 (by rw[e];rfl)),fun j h1 h2=>?_⟩;obtain rfl:j=pos:=Y;rw[hg];exact hb
 ·have h1:=decode_high s pos h Y;obtain⟨h2,h3⟩:=DX s pos h Y;obtain⟨r,n,hd⟩: ∃r n,Utf8.decode s pos=(r,n):=⟨_,_,rfl⟩;rw[hd]at h1 h2 h3 hle;simp only at h1 h2 h3 hle;refine⟨r,n,hd,hle,h1.2,h2,.inr ⟨Y,fun j hj1 hj2=>?_⟩⟩;have Wa:j<s.size:=Y;rw[PathW.getD_at s j Wa];intro e;by_cases hj:j=pos
  ·subst hj;rw[e]at ha;exact ha qa
  ·have h4:=h3 j Y hj2;have hgj:s.get! j=s[j]:=get_at s j Wa;rw[hgj,e]at h4;revert h4;decide
end ConP
namespace ConW
open Go.RowKit ConP
open PathW (Strs gF ky sc lp iQ dH getD_at)
theorem Gj{B C:Nat}{w:qo}{v:Value}{l:List Bs}(h:Strs B w v l)(hB:C≤B):Strs C w v l:=World.ownsRow.mono h hB
theorem Bv(s:ByteArray)(hs:s.size≤1000000)(w:qo):
 Calls qx 30 #[qg s] w fun e J=> ∃v,e=qm v∧Strs w.heap.size J v (jz s.data.toList)∧qz w.heap.size w J:=by
 obtain⟨i0,hi,hz0,hz1,hz2⟩:=info_parts ky;have hlen:=dH s;have ea:=Hd hlen;clear hlen;go_enter func30,ntmps30;go_wp2_with fail
 obtain⟨B,hB⟩: ∃B,B=w.heap.size:=⟨_,rfl⟩;have acw:(w.iter s 0).heap[B]? =some (.stringIter s 0):=by rw[hB];exact World.iter_heap w s 0
 have acx:qz B w (w.iter s 0):=by rw[hB];exact aa w _
 have agE:=Hd acw;have agF:=Hd acx;have Fq:=Hd hB;rw[←hB];clear acw acx hB;generalize w.iter s 0=w1 at*
 go_loopw [3,4] (fun l a wr=> ∃(x k:Nat) (acc:List Bs),a=U Z (x:Int)∧DV s.data.toList x k acc∧Strs (B+1) wr l acc∧wr.heap[B]? =some (.stringIter s k)∧qz B w wr) (fun _ _ wr=>s.size-wr.iterPos B)
 case atStart=>exact⟨0,0,[],rfl,YE _,⟨rfl,.inl ⟨rfl,rfl⟩⟩,agE.o,agF.o⟩
 case round=>
  obtain⟨x,k,acc,rfl,hI,np,hit,dz⟩:=hrel;obtain⟨oa,cap,rfl⟩:=np.form;have hwB:B<wr.heap.size:=(Array.getElem?_eq_some_iff.1 hit).1;have hxi:=hI.xi;have hip:=hI.iP;have hal:=hI.len;rw[ea.o]at hip;by_cases aN:k<s.size
  ·obtain⟨r,n,hd,hr,hn1,hn2,ff⟩:=TT s k aN
   have hnx: ∀ty,(Instr.next (.pointer (some ⟨B,0,none⟩)) true ty).run qx wr= .ok (qj #[qk true,U Z k,.int .i32 r]) (wr.iterAt B s (k+n)):=fun ty=>by
    have:=Lib.run_next_any_at (P:=qx) wr B s k ty hit aN;rw[hd]at this;exact this
   have acy:=Lib.iterAt_heap wr B s k (k+n) hit;have yd:=Lib.below_iterAt dz (k:=B) (Nat.le_refl _) s (k+n);have TU:(wr.iterAt B s (k+n)).heap.size=wr.heap.size:=Lib.iterAt_size ..
   have Ws:Strs (B+1) (wr.iterAt B s (k+n)) (.slice oa acc.length cap) acc:=by
    rcases np.2 with⟨h1,h2⟩|⟨g,cap',cur,h1,h2,h3,h4⟩
    ·exact⟨np.1,.inl ⟨h1,h2⟩⟩
    ·refine⟨np.1,.inr ⟨g,cap',cur,h1,h2,?_,h4⟩⟩;rw[Lib.iterAt_other _ _ _ _ _ Y];exact h3
   have HSV:qy (Value.string (s.extract x k)=gF ((s.data.toList.drop x).take (k-x))):=Hd (by rw[iQ,sc]);have YF:=Hd acy;have HB:=Hd yd;have ei:qy ((wr.iterAt B s (k+n)).ownsRow (B+1) 9 1 (.slice oa acc.length cap) acc.length (acc.map gF)):=Hd Ws;have sR:=Hd TU;have acz:qy (wr.iterPos B=k):=Hd (by simp[World.iterPos,hit]);clear hit hd acy yd Ws np TU dz;rcases ff with⟨hc,rfl,rfl⟩|⟨hr32,ux⟩
   ·have HI2:=Hd (Pf hI (by rw[ea.o];exact aN) hc);clear hI hc;generalize wr.iterAt B s (k+1)=w2 at*;go_wp2_with(at_builtin;refine bB rfl _ _ 22 rfl (B+1) 9 i0 (qg ⟨#[]⟩) 1 16 underlying22 hi hz0 hz1 hz2 rfl qa _ _ _ (by rfl) ei.o 1 1 (by rfl) rfl (by simp;rfl) (by unfold maxLen;omega) Y (by have:=sR.o;omega) ?_;intro oa2 dd w5 bT bK _;have br:=Hd bT;have gx:=Hd (HB.o.trans (bK.mono Y));have acB:qy (w5.heap[B]? =some (.stringIter s (k+1))):=Hd ((bK.block B Y).trans YF.o);clear bT bK)
    exact⟨⟨k+1,k+1,_,by go_num,HI2.o,Strs.snoc HSV.o br.o,acB.o,gx.o⟩,by rw[acz.o];simp[World.iterPos,acB.o];omega⟩
   ·have hb:((r:Int)==32)=false:=by rw[qP];omega
    have HI2:=Hd (KQ hI n (by rw[ea.o];exact hn2) ux);clear hI ux;generalize wr.iterAt B s (k+n)=w2 at*;go_wp2_with fail
    exact⟨⟨x,k+n,acc,rfl,HI2.o,ei.o,YF.o,HB.o⟩,by rw[acz.o];simp[World.iterPos,YF.o];omega⟩
  ·have hnx: ∀ty,(Instr.next (.pointer (some ⟨B,0,none⟩)) true ty).run qx wr= .ok (qj #[qk false]) wr:=fun ty=>Lib.run_next_end_at wr B s k ty hit aN;have hke:k=s.size:=Y;have HE:=Hd (Pg hI (by rw[ea.o];exact hke));have HSV:qy (Value.string (s.extract x s.size)=gF (s.data.toList.drop x)):=Hd (by rw[iQ,lp]);have HB:=Hd dz;have ei:qy (wr.ownsRow (B+1) 9 1 (.slice oa acc.length cap) acc.length (acc.map gF)):=Hd np;clear hI hit np dz hke
   go_wp2_with(at_builtin;refine bB rfl _ _ 22 rfl (B+1) 9 i0 (qg ⟨#[]⟩) 1 16 underlying22 hi hz0 hz1 hz2 rfl qa _ _ _ (by rfl) ei.o 1 1 (by rfl) rfl (by simp;rfl) (by unfold maxLen;omega) Y Y ?_;intro oa2 dd w5 bT bK _;have br:=Hd bT;have gx:=Hd (HB.o.trans (bK.mono Y));clear bT bK)
   go_ret;exact⟨_,rfl,by rw[HE.o,←Fq.o];exact Gj (Strs.snoc HSV.o br.o) Y,by rw[←Fq.o];exact gx.o⟩
def me:ByteArray:=⟨#[48,49,50,51,52,53,54,55,56,57,97,98,99,100,101,102]⟩
theorem IE: ∀k:Fin 16,me[k.val]'k.isLt=iR k.val:=qa
def Gk(c:UInt8):Int:=match ie c with|some n=>(n:Int)|none=> -1
theorem KR{c:UInt8}(h: ∀k,k<16→c≠iR k):ie c=none:=by
 cases hv:ie c with
 |none=>rfl
 |some n=>
  obtain⟨h1,h2⟩:=wY hv;exact qZ h2.symm (h n h1)
end ConW
namespace ConP
theorem nK: ∀{a r:Bs},jM a=some r→a.length=2*r.length
 |[],r,h=>by simp[jM]at h;subst h;rfl
 |[_],r,h=>by simp[jM]at h
 |c::d::a,r,h=>by
  rw[jM]at h
  cases hc:ie c with
  |none=>simp[hc]at h
  |some x=>
   cases hd:ie d with
   |none=>simp[hc,hd]at h
   |some y=>
    cases hl:jM a with
    |none=>simp[hc,hd,hl]at h
    |some l=>
     simp only[hc,hd,hl,Option.some.injEq]at h;subst h;have:=nK hl;simp;omega
theorem Ph{w:Bs}(h1:w≠[45])(h2:w.length%2=1):tC w=none:=by
 unfold tC;rw[qB h1,qB (by rintro rfl;simp at h2)]
 cases h:jM w with
 |none=>rfl
 |some r=>have:=nK h;omega
end ConP
namespace ConW
open Go.RowKit ConP
open PathW (Strs gF ky sc lp iQ dH)
theorem AN{c:UInt8}(h:ie c=none):Gk c= -1:=by unfold Gk;rw[h]
theorem oD{c:UInt8}{n:Nat}(h:ie c=some n):Gk c=(n:Int):=by unfold Gk;rw[h]
theorem Nd:(prog.info? 5).map (fun i=>(i.zero,i.size,i.bytes))=some (some (.int .u8 0),1,1):=qd
theorem zC(l:Bs):jI l.length (fun j=>l.getD j 0)=bs l:=by
 apply ByteArray.ext;apply Array.toList_inj.1;rw[zn];apply List.ext_getElem?;intro j;rw[List.getElem?_map];by_cases hj:j<l.length
 ·rw[List.getElem?_range hj];show some (l.getD j 0)=l[j]?;rw[xz,qN hj];rfl
 ·have e1:(List.range l.length)[j]? =none:=by rw[List.getElem?_eq_none_iff];simpa using hj
  rw[e1];show none=l[j]?;rw[List.getElem?_eq_none Y]
def Pj(s:ByteArray):Value:=qj #[qg (bs ((tC s.data.toList).getD [])),qk (tC s.data.toList).isSome]
end ConW
namespace ConP
open ConW (me Gk IE KR AN oD)
theorem Pk:me.data.toList=[48,49,50,51,52,53,54,55,56,57,97,98,99,100,101,102]:=rfl
theorem su(c:UInt8):me.data.toList.contains c=(ie c).isSome:=by
 cases h:ie c with
 |some n=>
  obtain⟨h1,h2⟩:=wY h;rw[←h2];have: ∀k:Fin 16,me.data.toList.contains (iR k.val)=true:=qa
  exact this ⟨n,h1⟩
 |none=>
  rw[Pk];show List.contains _ c=false;rw[List.contains_eq_any_beq,List.any_eq_false];intro x hx he;have e:c=x:=by simpa using he
  subst e;simp only[qG,qQ,xt]at hx;rcases hx with rfl|rfl|rfl|rfl|rfl|rfl|rfl|rfl|rfl|rfl|rfl|rfl|rfl|rfl|rfl|rfl<;>exact qZ h qa
theorem KS(c:UInt8):Lib.indexByte me.data.toList c=Gk c:=by
 cases h:ie c with
 |some n=>
  obtain⟨h1,h2⟩:=wY h;rw[oD h,←h2];have: ∀k:Fin 16,Lib.indexByte me.data.toList (iR k.val)=(k.val:Int):=qa
  exact this ⟨n,h1⟩
 |none=>
  rw[AN h];have hc:=su c;rw[h]at hc
  have key: ∀l:Bs,l.contains c=false→Lib.indexByte l c= -1:=by
   intro l
   induction l with
   |nil=>intro _;rfl
   |cons b l ih=>
    intro hl;rw[List.contains_cons,Bool.or_eq_false_iff]at hl;rw[Lib.indexByte,ih hl.2];have:(b==c)=false:=by rw[qP];intro e;have:=hl.1;rw[e]at this;simp at this
    rw[this];rfl
  exact key _ hc
theorem rZ(p:UInt8→Bool): ∀(l:Bs) (c:UInt8),c∈l.takeWhile p→p c=true
 |[],_,h=>by simp at h
 |a::l,c,h=>by
  rw[List.takeWhile_cons]at h
  cases ha:p a with
  |false=>simp[ha]at h
  |true=>
   rw[ha]at h;rcases qG.1 h with rfl|h
   ·exact ha
   ·exact rZ p l c h
theorem DY(p:UInt8→Bool): ∀l:Bs,l.dropWhile p=[]↔ ∀c∈l,p c=true
 |[]=>by simp
 |a::l=>by
  rw[List.dropWhile_cons]
  cases ha:p a with
  |true=>
   rw[qH rfl,DY p l]
   exact⟨fun h c hc=>by rcases qG.1 hc with rfl|hc;exact ha;exact h c hc,fun h c hc=>h c (by simp[hc])⟩
  |false=>
   rw[qB qa];exact⟨fun h=>by simp at h,fun h=>by have:=h a qc;rw[ha]at this;cases this⟩
theorem KT(p:UInt8→Bool)(l:Bs):(l.reverse.dropWhile p).reverse.dropWhile p=[]↔ ∀c∈l,p c=true:=by
 rw[DY];constructor
 ·intro h c hc;have e:=List.takeWhile_append_dropWhile (p:=p) (l:=l.reverse);have hr:c∈l.reverse:=by simpa using hc
  rw[←e,xa]at hr;rcases hr with hr|hr
  ·exact rZ p _ _ hr
  ·exact h c (by simpa using hr)
 ·intro h c hc;have h1:c∈l.reverse.dropWhile p:=by simpa using hc
  have h2:=(List.dropWhile_suffix p).subset h1;exact h c (by simpa using h2)
theorem DZ(l:Bs):Lib.trimS l me.data.toList=[]↔ ∀c∈l,(ie c).isSome=true:=by
 have e:(me.data.toList.contains ·)=fun c=>(ie c).isSome:=by funext c;exact su c
 unfold Lib.trimS Lib.trimLeftS Lib.trimRightS;rw[e];exact KT _ l
theorem Ea: ∀{l:Bs},l.length%2=0→(∀c∈l,(ie c).isSome=true)→ ∃r,jM l=some r
 |[],_,_=>⟨[],rfl⟩
 |[_],h,_=>by simp at h
 |a::b::l,h,hc=>by
  obtain⟨r,hr⟩:=Ea (l:=l) (by simp at h;omega) fun c h=>hc c (by simp[h]);have ha:=hc a qc;have hb:=hc b qc;rw[jM,hr]
  cases hx:ie a with
  |none=>rw[hx]at ha;cases ha
  |some x=>
   cases hy:ie b with
   |none=>rw[hy]at hb;cases hb
   |some y=>exact⟨_,rfl⟩
theorem uG: ∀{l r:Bs},jM l=some r→ ∀c∈l,(ie c).isSome=true
 |[],_,_=>by simp
 |[_],_,h=>by simp[jM]at h
 |a::b::l,r,h=>by
  rw[jM]at h
  cases hx:ie a with
  |none=>simp[hx]at h
  |some x=>
   cases hy:ie b with
   |none=>simp[hx,hy]at h
   |some y=>
    cases hl:jM l with
    |none=>simp[hx,hy,hl]at h
    |some q=>
     intro c hc;rcases qG.1 hc with rfl|hc
     ·rw[hx];rfl
     ·rcases qG.1 hc with rfl|hc
      ·rw[hy];rfl
      ·exact uG hl c hc
theorem IF: ∀{l r:Bs} {i:Nat},jM l=some r→i<r.length→ ∃x y,ie (l.getD (2*i) 0)=some x∧ie (l.getD (2*i+1) 0)=some y∧r.getD i 0=UInt8.ofNat (16*x+y)
 |[],r,i,h,hi=>by simp[jM]at h;subst h;simp at hi
 |[_],r,i,h,_=>by simp[jM]at h
 |a::b::l,r,i,h,hi=>by
  rw[jM]at h
  cases hx:ie a with
  |none=>simp[hx]at h
  |some x=>
   cases hy:ie b with
   |none=>simp[hx,hy]at h
   |some y=>
    cases hl:jM l with
    |none=>simp[hx,hy,hl]at h
    |some q=>
     simp only[hx,hy,hl,Option.some.injEq]at h;subst h
     cases i with
     |zero=>exact⟨x,y,hx,hy,rfl⟩
     |succ i=>
      obtain⟨x',y',h1,h2,h3⟩:=IF (i:=i) hl (by simpa using hi);refine⟨x',y',?_,?_,?_⟩
      ·rw[show 2*(i+1)=2*i+1+1 by omega];simpa using h1
      ·rw[show 2*(i+1)+1=2*i+1+1+1 by omega];simpa using h2
      ·simpa using h3
end ConP
namespace ConW
open Go.RowKit ConP
open PathW (Strs gF ky sc lp iQ dH)
theorem Pm(s:ByteArray)(k:Nat)(h:2*k<s.size)(w:qo):(Instr.index 9 (qg s) (U Z (2*(k:Int)))).run qx w= .ok (.int .u8 (s[2*k].toNat:Int)) w:=by
 rw[run_index_string w 9 s .i64 _ underlying9,dif_pos ⟨Y,Y⟩];have e:(2*(k:Int)).toNat=2*k:=Y;simp only[e]
theorem TV(s:ByteArray)(k:Nat)(h:2*k+1<s.size)(w:qo):(Instr.index 9 (qg s) (U Z (2*(k:Int)+1))).run qx w= .ok (.int .u8 (s[2*k+1].toNat:Int)) w:=by
 rw[run_index_string w 9 s .i64 _ underlying9,dif_pos ⟨Y,Y⟩];have e:(2*(k:Int)+1).toNat=2*k+1:=Y;simp only[e]
theorem YG: ∀x y:Fin 16,IntKind.u8.wrap (bits .or .i64 (IntKind.i64.wrap ((x.val:Int)*16)) (y.val:Int))=((UInt8.ofNat (16*x.val+y.val)).toNat:Int):=by decide+kernel
theorem acC{x y:Nat}(hx:x<16)(hy:y<16):IntKind.u8.wrap (bits .or .i64 (IntKind.i64.wrap ((x:Int)*16)) (y:Int))=((UInt8.ofNat (16*x+y)).toNat:Int):=YG ⟨x,hx⟩ ⟨y,hy⟩
theorem Eb(s:ByteArray)(hs:s.size≤1000000)(w:qo):Calls qx 125 #[qg s,qg ⟨#[48,49,50,51,52,53,54,55,56,57,97,98,99,100,101,102]⟩] w fun e J=>e=qm (qg ⟨(Lib.trimS s.data.toList me.data.toList).toArray⟩)∧qz w.heap.size w J:=
 Any.strings_Trim_laid Tryz.ace qd s me w Y qa (ascii_of_all qa)
theorem AO(c:UInt8)(v:Int)(h:Gk c=v)(w:qo):Calls qx 126 #[qg ⟨#[48,49,50,51,52,53,54,55,56,57,97,98,99,100,101,102]⟩,.int .u8 (c.toNat:Int)] w fun e J=>e=qm (U Z v)∧w=J:=by
 have q:=Tryz.strings_IndexByte me (c.toNat:Int) w;have e:((c.toNat:Int).toNat.toUInt8)=c:=qc;rw[e,KS,h]at q;exact q.mono fun _ _ ⟨h1,h2⟩=>⟨h1,h2.symm⟩
theorem KU(s:ByteArray)(hs:s.size≤1000000)(w:qo):
 Calls qx 82 #[qg s] w fun e J=>e=qm (Pj s)∧qz w.heap.size w J:=by
 have hlen:=dH s;have ea:=Hd hlen;have GET:=Hd (PathW.getD_at s);clear hlen;by_cases h45:s.data.toList=[45]
 ·obtain rfl:s=⟨#[45]⟩:=by apply ByteArray.ext;apply Array.toList_inj.1;exact h45
  go_enter func82,ntmps82;go_wp2_with fail
  go_ret2
  exact⟨rfl,Below.refl _ _⟩
 have bd:(s.toList==[45])=false:=by rw[xq,qP];exact h45
 by_cases h0:s.size=0
 ·have HW:qy (Pj s=qj #[qg ⟨#[]⟩,qk false]):=Hd (by
   have e:s.data.toList=[]:=xe (by rw[ea.o,h0]);unfold Pj;rw[e];rfl)
  obtain⟨n1,n2,n3⟩:=CP h0;clear h0 h45;go_enter func82,ntmps82;go_wp2_with fail
  go_ret2
  exact⟨qX Ending.returned HW.o.symm,Below.refl _ _⟩
 ·obtain⟨n1,n2⟩:=lR (s:=s) Y;by_cases h1:s.size%2=1
  ·have HW:qy (Pj s=qj #[qg ⟨#[]⟩,qk false]):=Hd (by
    unfold Pj;rw[Ph h45 (by rw[ea.o];exact h1)];rfl)
   have h2:((s.size:Int)%2 !=0)=true:=by rw[bne_iff_ne];omega
   clear h0 h1 h45;go_enter func82,ntmps82;go_wp2_with fail
   go_ret2
   exact⟨qX Ending.returned HW.o.symm,Below.refl _ _⟩
  ·have h2:((s.size:Int)%2 !=0)=false:=by rw[bne_eq_false_iff_eq];omega
   obtain⟨n,hn⟩: ∃n,s.size=2*n:=⟨s.size/ 2,Y⟩;by_cases ht:Lib.trimS s.data.toList me.data.toList=[]
   ·obtain⟨r,hr⟩:=Ea (l:=s.data.toList) (by rw[ea.o];omega) ((DZ _).1 ht);have HHP:=Hd hr;have HRL:qy (r.length=n):=Hd (by have:=nK hr;rw[ea.o]at this;omega)
    have HW:qy (Pj s=qj #[qg (bs r),qk true]):=Hd (by
     unfold Pj tC;rw[qB h45,qB (by intro e;have:=ea.o;rw[e]at this;simp at this;omega),hr];rfl)
    have BF:=Hd hn;have HT:=Hd ht;have hdv:(s.size:Int)/ 2=(n:Int):=Y;have hn6:n≤1000000:=Y;clear h0 h1 h45 hr ht hn;go_enter func82,ntmps82;go_wp2_with(go_at_call 125;refine(Eb s hs _).mono ?_;rintro e w1 ⟨rfl,hb1⟩;rw[HT.o];have cq:=Hd hb1;clear hb1;obtain⟨w2,hmk,Wt,yd,TU⟩:=vR (P:=qx) w1 138 5 underlying138 qd n Y;have Pn:=Hd Wt;have az:=Hd (ai cq.o yd);clear Wt yd TU)
    clear hmk hdv bd n1 n2 h2;obtain⟨g,hg⟩: ∃g,g=w1.heap.size:=⟨_,rfl⟩;have HG:qy (w.heap.size≤g):=Hd (by rw[hg];exact cq.o.size);rw[←hg]at Pn;rw[←hg];clear hg cq
    go_loopw [5,27] (fun i c wr=> ∃(k:Nat) (f:Nat→UInt8),k≤n∧c=U Z (k:Int)∧cg wr g n f∧(∀j,j<k→f j=r.getD j 0)∧qz w.heap.size w wr) (fun _ c _=>((n:Int)-intOf c).toNat)
    case atStart=>exact⟨0,_,Y,rfl,Pn.o,fun j hj=>by omega,az.o⟩
    case round=>
     clear Pn az;obtain⟨k,f,hk,rfl,aW,hf,dz⟩:=hrel;have uS:=Hd aW;have HF:=Hd hf;have HB:=Hd dz;clear aW hf dz;by_cases aN:k<n
     ·have hk1:(k:Int)<(n:Int):=by omega
      have hk0:(0:Int)≤(k:Int):=Y;have hs2:=BF.o;have hrl:=HRL.o;have b0:2*k<s.size:=Y;have b1:2*k+1<s.size:=Y;obtain⟨x,y,hx,hy,Wr⟩:=IF HHP.o (i:=k) Y;rw[GET.o _ b0]at hx;rw[GET.o _ b1]at hy;obtain⟨g0,g1⟩:=uS.o k aN;have HX:=Hd (oD hx);have HY:=Hd (oD hy);have hx16:=(wY hx).1;have hy16:=(wY hy).1;have hi1:=Pm s k b0;have hi2:=TV s k b1;have e1:IntKind.i64.wrap (2*(k:Int))=2*(k:Int):=qO _ Y;have e2:IntKind.i64.wrap (2*(k:Int)+1)=2*(k:Int)+1:=qO _ Y;have HXY:=Hd Wr;clear hs2 hrl hx hy Wr;go_wp2_with fail
      go_still_tail 17,qd
      still_call (CE (AO _ _ HX.o _))
      repeat still_step
      still_call (CE (AO _ _ HY.o _))
      repeat still_step
      refine wpStill_nil ?_;change wpList _ _ _ _ _ (World.drew _)
      rw[acC hx16 hy16];obtain⟨v,hv⟩: ∃v,v=UInt8.ofNat (16*x+y):=⟨_,rfl⟩;rw[←hv];rw[←hv]at HXY;obtain⟨g2,g3⟩:=uS.o.drew k aN;have acE:=Hd (uS.o.drew.set k aN v);have cu:qy (qz w.heap.size w (wr.drew.setCell ⟨g,k,none⟩ (.int .u8 (v.toNat:Int)))):=Hd (HB.o.drew.setCell (p:=⟨g,k,none⟩) HG.o _)
      have It:qy (∀j,j<k+1→(if j=k then v else f j)=r.getD j 0):=Hd fun j hj=>by
       by_cases h:j=k
       ·rw[qH h,h,HXY.o]
       ·rw[qB h];exact HF.o j Y
      clear hv g0 g1 hi1 hi2 e1 e2;go_wp2_with fail
      exact⟨⟨k+1,_,Y,qc,acE.o,It.o,cu.o⟩,by simp[intOf];omega⟩
     ·obtain rfl:k=n:=by omega
      have hk1:decide ((k:Int)<(k:Int))=false:=qD Y;have hrl:=HRL.o;have hcv:=oZ (P:=qx) wr 138 9 5 g k k f underlying138 underlying5 underlying9 uS.o
      have he:jI k f=bs r:=by
       rw[←zC r,hrl];unfold jI
       congr 2
       exact List.map_congr_left fun j hj=>HF.o j (by simpa using hj)
      rw[he]at hcv;obtain⟨q,hq⟩: ∃q,q=bs r:=⟨_,rfl⟩;have HW2:qy (Pj s=qj #[qg q,qk true]):=Hd (by rw[hq];exact HW.o);rw[←hq]at hcv;clear aN hk hrl he hq;go_wp2_with fail
      go_ret2
      exact⟨qX Ending.returned HW2.o.symm,HB.o⟩
   ·have HW:qy (Pj s=qj #[qg ⟨#[]⟩,qk false]):=Hd (by
     unfold Pj tC;rw[qB h45];split
     ·rfl
     ·cases hp:jM s.data.toList with
      |none=>rfl
      |some r=>exact qZ ((DZ _).2 (uG hp)) ht)
    obtain⟨q,hq⟩: ∃q:ByteArray,q=⟨(Lib.trimS s.data.toList me.data.toList).toArray⟩:=⟨_,rfl⟩
    have hqs:0<q.size:=by
     rw[hq];show 0<(Lib.trimS s.data.toList me.data.toList).toArray.size;simpa using List.length_pos_iff.2 ht
    obtain⟨m1,m2⟩:=lR hqs;have HQ:=Hd hq;clear h0 h1 h45 ht hn hq hqs;go_enter func82,ntmps82;go_wp2_with(go_at_call 125;refine(Eb s hs _).mono ?_;rintro e w1 ⟨rfl,hb1⟩;rw[←HQ.o];have cq:=Hd hb1;clear hb1)
    go_ret2
    exact⟨qX Ending.returned HW.o.symm,cq.o⟩
