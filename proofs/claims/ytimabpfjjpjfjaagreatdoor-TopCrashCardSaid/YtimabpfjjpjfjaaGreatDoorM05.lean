/- Part 5 of the texts that the law's walk needs. -/
import Derived.Test.YtimabpfjjpjfjaaGreatDoorM00
import Derived.Deep.Slices
import Derived.Deep.Fields
import Derived.ChangeSame
import Derived.ChangeShapes
set_option maxHeartbeats 3200000
set_option maxRecDepth 100000
set_option linter.all false
open Go.Value (int)
open Go.IntKind (i64)
namespace Go.Proofs.YtimabpfjjpjfjaaGreatDoor
open Tryz
section
open Go.RowKit Go.ChangeShapes Go.WideShapes Go.Deep
theorem ow(a:Addr)(i j:Nat):a.add (i+(j+1))=⟨(a.add i).block,(a.add i).off+(j+1),none⟩:=by
 unfold Addr.add;by_cases hi:i=0
 ·subst hi;simp
 ·simp[hi];omega
theorem lR{s:ByteArray}(h:0<s.size):s.toList.isEmpty=false∧(!s.toList.isEmpty)=true:=by
 have:s.toList.isEmpty=false:=by
  rw[xq]
  cases hq:s.data.toList with
  |nil=>
   have hl:s.data.toList.length=s.size:=qc;rw[hq]at hl;have:([]:List UInt8).length=0:=rfl
   omega
  |cons a l=>rfl
 exact⟨this,by rw[this];rfl⟩
theorem CP{s:ByteArray}(h:s.size=0):s.toList=[]∧s.toList.isEmpty=true∧(!s.toList.isEmpty)=false:=by
 have:s.toList=[]:=by
  rw[xq];exact xe (by simpa using h)
 exact⟨this,by rw[this];rfl,by rw[this];rfl⟩
theorem abO{v:Int}(h:(Lit.int .u8 v).wf=true):0≤v∧v≤255:=by
 simpa [Lit.wf,IntKind.min,IntKind.max,IntKind.signed,IntKind.bits]using h
theorem bA(a:Addr)(n:Nat):(a.add n).block=a.block:=by unfold Addr.add;split<;>rfl
section
variable{H:Type}{enc:TypeId×Value→H}{P:Program}{w:World}{base:Nat}{spare:Nat→Bool}{held:Bool}
