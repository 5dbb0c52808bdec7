/- Part 28 of the texts that the law's walk needs. -/
import Derived.Test.YtimabpfjjpjfjaaGreatDoorM00
import Derived.Shelf.Strings.Builder1
import Derived.Shelf.Strings.Builder2
import Derived.Shelf.Strings.OnBuilder
import Derived.Shelf.Strings.Trim
import Derived.Shelf.Small.Utf8
import Derived.Shelf.Small.Bits
import Derived.Shelf.Small.Strs
import Derived.Shelf.Small.Wraps
import Derived.Shelf.Strings.BuilderF
import Derived.Shelf.Strings.BuilderK
import Derived.Shelf.Strconv.Atoi
import Derived.Shelf.Strconv.Itoa0
import Derived.Shelf.Strconv.Itoa1
import Derived.Shelf.LaysM
import Derived.Shelf.Strconv.Itoa2
import Derived.Shelf.Strconv.Itoa3
import Derived.Shelf.Strconv.AtoiErrFast
import Derived.Shelf.Strconv.ParseIntEmpty
import Derived.Shelf.Strconv.AtoiFail
import Derived.Shelf.Strconv.Clone
import Derived.Shelf.Strconv.SyntaxError
import Derived.Shelf.LaysC
import Derived.Shelf.Strconv.ToError
import Derived.Shelf.Strconv.AtoiErr
import Derived.Shelf.Strconv.ErrVar
import Derived.Shelf.Strconv.Lower
import Derived.Shelf.Strconv.ParseUint10
import Derived.Shelf.Strconv.ParseUint10Empty
import Derived.Shelf.Strconv.ParseUint10Any
import Derived.Shelf.Strconv.ParseInt10
import Derived.Shelf.Strconv.AtoiLong
import Derived.Shelf.Strconv.AtoiInnerAll
import Derived.Shelf.Strconv.RangeError
import Derived.Shelf.Strconv.ToErrorRange
import Derived.Shelf.Strconv.AtoiAll
import Derived.Shelf.Strconv.ErrVarAll
import Derived.Shelf.Strings.Search1
import Derived.Shelf.Strings.Prefix
import Derived.Shelf.Strings.Runes
import Derived.Shelf.Strings.AsciiSet
import Derived.Shelf.Bits.Mul64
import Derived.Shelf.Unicode.DecodeSlow
import Derived.Ground.SlgmProg
import Derived.Shelf.SortM.Plain
import Derived.Shelf.SortM.SortNone
import Derived.Shelf.SlSortCmp.WholeK
import Derived.Ground.SlsfProg
import Derived.Shelf.SlIterI.Nil
import Derived.Ground.GgzProg
set_option maxHeartbeats 3200000
set_option maxRecDepth 100000
set_option linter.all false
open Go.Value (int)
open Go.IntKind (i64)
namespace Go.Proofs
open Go.Shelf
def Tryz.Ex:Go.Shelf.Ren:=⟨fun|122=>339|215=>153|n=>n,fun|3=>3|4=>4|n=>n,fun|n=>n⟩
theorem Tryz.UJ:Go.Proofs.Lays.n122 prog Tryz.Ex:={
 mixed:=qd
 f122:=cD func339
 f215:=cD func153
 t3:=underlying3
 a3:=isAgg3
 z3:=sizeOf3
 v3:=zeroValue3
 t4:=underlying4
 a4:=isAgg4
 z4:=sizeOf4
 v4:=zeroValue4}
open Go.RowKit in
theorem Tryz.cmp_Compare_int(x y:Int)(w:World):
 Calls prog 339 #[int i64 x,int i64 y] w fun e J=>e= .returned (int i64 (Lib.compareInt x y))∧J=w:=Any.cmp_Compare_int Tryz.UJ x y w
def Tryz.AY:Go.Shelf.Ren:=⟨fun|7=>22|10=>35|n=>n,fun|23=>92|26=>3|3=>95|28=>90|0=>0|27=>89|33=>113|4=>4|n=>n,fun|n=>n⟩
theorem Tryz.WU:Go.Proofs.SlLaysZI.n7 prog Tryz.AY:={
 mixed:=qd
 f7:=⟨Tryz.f22.name,qa,cD func22⟩
 f10:=⟨Tryz.f35.name,qa,cD func35⟩
 t0:=underlying0
 a0:=isAgg0
 z0:=sizeOf0
 v0:=zeroValue0
 t4:=underlying4
 a4:=isAgg4
 z4:=sizeOf4
 v4:=zeroValue4
 t23:=underlying92
 a23:=isAgg92
 z23:=sizeOf92
 v23:=zeroValue92
 t26:=underlying3
 a26:=isAgg3
 z26:=sizeOf3
 v26:=zeroValue3
 t27:=underlying89
 a27:=isAgg89
 z27:=sizeOf89
 v27:=zeroValue89
 t28:=underlying90
 a28:=isAgg90
 z28:=sizeOf90
 v28:=zeroValue90
 t33:=underlying113
 a33:=isAgg113
 z33:=sizeOf113
 v33:=zeroValue113}
def Tryz.uQ:Go.Shelf.Ren:=⟨fun|6=>21|8=>33|9=>34|11=>62|13=>64|12=>63|23=>111|24=>112|14=>102|15=>103|16=>104|17=>105|18=>106|19=>107|20=>108|21=>109|22=>110|25=>148|26=>149|27=>150|28=>151|29=>152|30=>153|31=>224|n=>n,fun|26=>3|28=>90|24=>35|0=>0|3=>3|37=>144|48=>205|50=>207|4=>4|40=>197|39=>196|45=>202|5=>5|9=>9|51=>248|55=>179|57=>349|58=>350|33=>113|n=>n,fun|n=>n⟩
theorem Tryz.UK:Go.Proofs.SlLaysZI.n6 prog Tryz.uQ:={
 mixed:=qd
 f6:=⟨Tryz.f21.name,qa,cD func21⟩
 f8:=⟨Tryz.f33.name,qa,cD func33⟩
 f11:=⟨Tryz.f62.name,qa,cD func62⟩
 t0:=underlying0
 a0:=isAgg0
 z0:=sizeOf0
 v0:=zeroValue0
 t24:=underlying35
 a24:=isAgg35
 z24:=sizeOf35
 v24:=zeroValue35
 t26:=underlying3
 a26:=isAgg3
 z26:=sizeOf3
 v26:=zeroValue3
 t28:=underlying90
 a28:=isAgg90
 z28:=sizeOf90
 v28:=zeroValue90
 i26:=by kernel_rfl}
def Tryz.LB:Go.Shelf.Ren:=⟨fun|5=>34|8=>64|7=>63|19=>111|20=>112|10=>102|11=>103|12=>104|13=>105|14=>106|15=>107|16=>108|17=>109|18=>110|30=>148|31=>149|32=>150|33=>151|34=>152|35=>153|40=>224|n=>n,fun|23=>35|25=>3|3=>3|32=>144|22=>35|0=>0|44=>205|46=>207|4=>4|36=>197|35=>196|41=>202|5=>5|9=>9|53=>248|57=>179|63=>349|64=>350|n=>n,fun|n=>n⟩
theorem Tryz.AZ:Go.Proofs.SlLaysM.n5 prog Tryz.LB:={
 mixed:=qd
 f5:=⟨Tryz.f34.name,qa,cD func34⟩
 f7:=⟨Tryz.f63.name,qa,cD func63⟩
 f8:=cD func64
 f10:=⟨Tryz.f102.name,qa,cD func102⟩
 f11:=⟨Tryz.f103.name,qa,cD func103⟩
 f12:=⟨Tryz.f104.name,qa,cD func104⟩
 f13:=⟨Tryz.f105.name,qa,cD func105⟩
 f14:=⟨Tryz.f106.name,qa,cD func106⟩
 f15:=⟨Tryz.f107.name,qa,cD func107⟩
 f16:=⟨Tryz.f108.name,qa,cD func108⟩
 f17:=⟨Tryz.f109.name,qa,cD func109⟩
 f18:=⟨Tryz.f110.name,qa,cD func110⟩
 f19:=cD func111
 f20:=cD func112
 f30:=⟨Tryz.f148.name,qa,cD func148⟩
 f31:=cD func149
 f32:=cD func150
 f33:=⟨Tryz.f151.name,qa,cD func151⟩
 f34:=⟨Tryz.f152.name,qa,cD func152⟩
 f35:=⟨Tryz.f153.name,qa,cD func153⟩
 f40:=⟨Tryz.f224.name,qa,cD func224⟩
 t0:=underlying0
 a0:=isAgg0
 z0:=sizeOf0
 v0:=zeroValue0
 t3:=underlying3
 a3:=isAgg3
 z3:=sizeOf3
 v3:=zeroValue3
 t4:=underlying4
 a4:=isAgg4
 z4:=sizeOf4
 v4:=zeroValue4
 t5:=underlying5
 a5:=isAgg5
 z5:=sizeOf5
 v5:=zeroValue5
 t9:=underlying9
 a9:=isAgg9
 z9:=sizeOf9
 v9:=zeroValue9
 t22:=underlying35
 a22:=isAgg35
 z22:=sizeOf35
 v22:=zeroValue35
 t23:=underlying35
 a23:=isAgg35
 z23:=sizeOf35
 v23:=zeroValue35
 t25:=underlying3
 a25:=isAgg3
 z25:=sizeOf3
 v25:=zeroValue3
 t32:=underlying144
 a32:=isAgg144
 z32:=sizeOf144
 v32:=zeroValue144
 t35:=underlying196
 a35:=isAgg196
 z35:=sizeOf196
 v35:=zeroValue196
 t36:=underlying197
 a36:=isAgg197
 z36:=sizeOf197
 v36:=zeroValue197
 t41:=underlying202
 a41:=isAgg202
 z41:=sizeOf202
 v41:=zeroValue202
 t44:=underlying205
 a44:=isAgg205
 z44:=sizeOf205
 v44:=zeroValue205
 t46:=underlying207
 a46:=isAgg207
 z46:=sizeOf207
 v46:=zeroValue207
 t53:=underlying248
 a53:=isAgg248
 z53:=sizeOf248
 v53:=zeroValue248
 t57:=underlying179
 a57:=isAgg179
 z57:=sizeOf179
 v57:=zeroValue179
 t63:=underlying349
 a63:=isAgg349
 z63:=sizeOf349
 v63:=zeroValue349
 t64:=underlying350
 a64:=isAgg350
 z64:=sizeOf350
 v64:=zeroValue350}
def Tryz.LC:Go.Shelf.Ren:=⟨fun|6=>336|15=>64|14=>381|28=>111|29=>112|20=>420|21=>421|22=>422|23=>423|24=>424|25=>425|26=>426|27=>427|46=>470|47=>149|48=>150|49=>471|50=>472|57=>496|n=>n,fun|22=>305|24=>400|25=>462|3=>3|39=>144|0=>0|53=>205|55=>207|4=>4|46=>197|45=>196|50=>202|5=>5|9=>9|66=>248|70=>179|76=>349|77=>350|n=>n,fun|n=>n⟩
theorem Tryz.adF:Go.Proofs.SlLaysF0.n6 prog Tryz.LC:={
 mixed:=qd
 f6:=⟨Tryz.f336.name,qa,cD func336⟩
 f14:=⟨Tryz.f381.name,qa,cD func381⟩
 f15:=cD func64
 f20:=⟨Tryz.f420.name,qa,cD func420⟩
 f21:=⟨Tryz.f421.name,qa,cD func421⟩
 f22:=⟨Tryz.f422.name,qa,cD func422⟩
 f23:=⟨Tryz.f423.name,qa,cD func423⟩
 f24:=⟨Tryz.f424.name,qa,cD func424⟩
 f25:=⟨Tryz.f425.name,qa,cD func425⟩
 f26:=⟨Tryz.f426.name,qa,cD func426⟩
 f27:=⟨Tryz.f427.name,qa,cD func427⟩
 f28:=cD func111
 f29:=cD func112
 f46:=⟨Tryz.f470.name,qa,cD func470⟩
 f47:=cD func149
 f48:=cD func150
 f49:=⟨Tryz.f471.name,qa,cD func471⟩
 f50:=⟨Tryz.f472.name,qa,cD func472⟩
 f57:=⟨Tryz.f496.name,qa,cD func496⟩
 t0:=underlying0
 a0:=isAgg0
 z0:=sizeOf0
 v0:=zeroValue0
 t3:=underlying3
 a3:=isAgg3
 z3:=sizeOf3
 v3:=zeroValue3
 t4:=underlying4
 a4:=isAgg4
 z4:=sizeOf4
 v4:=zeroValue4
 t5:=underlying5
 a5:=isAgg5
 z5:=sizeOf5
 v5:=zeroValue5
 t9:=underlying9
 a9:=isAgg9
 z9:=sizeOf9
 v9:=zeroValue9
 t22:=underlying305
 a22:=isAgg305
 z22:=sizeOf305
 v22:=zeroValue305
 t25:=underlying462
 a25:=isAgg462
 z25:=sizeOf462
 v25:=zeroValue462
 t39:=underlying144
 a39:=isAgg144
 z39:=sizeOf144
 v39:=zeroValue144
 t45:=underlying196
 a45:=isAgg196
 z45:=sizeOf196
 v45:=zeroValue196
 t46:=underlying197
 a46:=isAgg197
 z46:=sizeOf197
 v46:=zeroValue197
 t50:=underlying202
 a50:=isAgg202
 z50:=sizeOf202
 v50:=zeroValue202
 t53:=underlying205
 a53:=isAgg205
 z53:=sizeOf205
 v53:=zeroValue205
 t55:=underlying207
 a55:=isAgg207
 z55:=sizeOf207
 v55:=zeroValue207
 t66:=underlying248
 a66:=isAgg248
 z66:=sizeOf248
 v66:=zeroValue248
 t70:=underlying179
 a70:=isAgg179
 z70:=sizeOf179
 v70:=zeroValue179
 t76:=underlying349
 a76:=isAgg349
 z76:=sizeOf349
 v76:=zeroValue349
 t77:=underlying350
 a77:=isAgg350
 z77:=sizeOf350
 v77:=zeroValue350}
