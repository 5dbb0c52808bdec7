/- Part 29 of the texts that the law's walk needs. -/
import Derived.Test.YtimabpfjjpjfjaaGreatDoorM12
import Derived.Test.YtimabpfjjpjfjaaGreatDoorM28
set_option maxHeartbeats 3200000
set_option maxRecDepth 100000
set_option linter.all false
open Go.Value renaming int→U
open Go.IntKind renaming i64→Z
namespace Go.Proofs.YtimabpfjjpjfjaaGreatDoor
open Tryz
namespace bq
open Go.RowKit Go.Shelf Go.Lib Go.Sort
def Zx(x y:Int):Int:=if x=0 then y else x
theorem Zy(b o cap:Nat)(x y:Int)(w:World)(h0:w.cell? ⟨b,o,none⟩=some (U Z x))(h1:w.cell? ⟨b,o+1,none⟩=some (U Z y)):
 Calls prog 338 #[.slice (some ⟨b,o,none⟩) 2 cap] w fun e J=>e= .returned (U Z (Zx x y))∧w=J:=by
 go_enter func338,ntmps338;go_wp2
 go_loop [8] (fun i=>i=U Z 0∨(i=U Z 1∧x=0)∨(i=U Z 2∧x=0∧y=0)) (fun i=>2-(intOf i).toNat)
 case atStart=>exact .inl rfl
 case round=>
  rcases hrel with rfl|⟨rfl,hx⟩|⟨rfl,hx,hy⟩
  ·by_cases hx:x=0
   ·have hz:(x==0)=true:=by simp[hx]
    go_wp2
    go_round
    case rel=>exact .inr (.inl ⟨by go_num,hx⟩)
    case measure=>simp[intOf]
   ·have hz:(x==0)=false:=by simp[hx]
    go_wp2
    go_ret;exact⟨aO (by simp[Zx,hx]),rfl⟩
  ·by_cases hy:y=0
   ·have hz:(y==0)=true:=by simp[hy]
    go_wp2
    go_round
    case rel=>exact .inr (.inr ⟨by go_num,hx,hy⟩)
    case measure=>simp[intOf]
   ·have hz:(y==0)=false:=by simp[hy]
    go_wp2
    go_ret;exact⟨aO (by simp[Zx]),rfl⟩
  ·go_wp2
   go_ret;exact⟨aO (by simp[Zx]),rfl⟩
def Zz(a b:cN.Ha):Int:=Zx (Lib.compareInt a.c b.c) (Lib.compareInt a.n b.n)
def fH(a:cN.Ha):List Value:=[U Z a.c,U Z a.n,U Z a.i]
theorem sI(a b:cN.Ha):ltOf Zz a b=decide (cN.kl a.key b.key):=by
 have hc: ∀x y:Int,(x<y∧Lib.compareInt x y= -1)∨(x=y∧Lib.compareInt x y=0)∨(y<x∧Lib.compareInt x y=1):=fun x y=>by
  unfold Lib.compareInt;rcases Int.lt_trichotomy x y with h|h|h
  ·exact .inl ⟨h,by rw[qH h]⟩
  ·exact .inr (.inl ⟨h,by rw[qB Y,qB Y]⟩)
  ·exact .inr (.inr ⟨h,by rw[qB Y,qH h]⟩)
 rw[Bool.eq_iff_iff,decide_eq_true_iff];unfold ltOf Zz Zx cN.kl cN.Ha.key;rw[decide_eq_true_iff];simp only;rcases hc a.c b.c with⟨h,e⟩|⟨h,e⟩|⟨h,e⟩<;>rw[e]
 ·rw[qB Y];omega
 ·rw[qH rfl];rcases hc a.n b.n with⟨h',e'⟩|⟨h',e'⟩|⟨h',e'⟩<;>rw[e']<;>omega
 ·rw[qB Y];omega
theorem ahu:SWO (ltOf Zz) where
 irrefl a:=by rw[sI];simp[cN.tn]
 trans a b c h1 h2:=by rw[sI]at*;simp only[qC]at*;exact cN.vO h1 h2
 ntrans a b c h1 h2:=by rw[sI]at*;simp only[decide_eq_false_iff_not]at*;unfold cN.kl cN.Ha.key at*;simp only at*;omega
theorem closure(x y:cN.Ha)(W:World):Calls prog 337 #[.agg #[U Z x.c,U Z x.n,U Z x.i],.agg #[U Z y.c,U Z y.n,U Z y.i]] W fun e J=>e= .returned (U Z (Zz x y))∧ ∃q os',J=grow (W.drewN q) os':=by
 have HA:=fun W'=>Tryz.cmp_Compare_int x.c y.c W';have HB:=fun W'=>Tryz.cmp_Compare_int x.n y.n W';have HE:Hid (Zz x y=Zx (Lib.compareInt x.c y.c) (Lib.compareInt x.n y.n)):=Hd rfl;generalize Lib.compareInt x.c y.c=r at HA HE;generalize Lib.compareInt x.n y.n=s at HB HE;generalize Zz x y=t at HE⊢;go_enter func337,ntmps337;go_wp2_with fail
 refine wp_region_still_tail 10 qd qd ?_;change wpStill _ _ (World.drew _) (fun a'=>wpList _ _ _ _ a' (World.drew _)) _ _
 simp only[List.take_succ_cons,List.take_zero,List.drop_succ_cons,List.drop_zero];repeat still_step
 still_call (HA _)
 repeat still_step
 still_call (HB _)
 repeat still_step
 refine wpStill_nil ?_;go_wp2_with(go_at_call 338;refine(Zy _ _ _ r s _ qf qf).mono ?_;rintro e J ⟨rfl,rfl⟩)
 go_ret;exact⟨aO HE.o.symm,1,_,by simp only[alloc_eq_grow,grow_grow];rfl⟩
