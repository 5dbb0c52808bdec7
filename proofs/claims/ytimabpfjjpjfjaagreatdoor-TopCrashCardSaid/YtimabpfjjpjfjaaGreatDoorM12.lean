/- Part 12 of the texts that the law's walk needs. -/
import Derived.Test.YtimabpfjjpjfjaaGreatDoorM00
import Derived.Shelf.Strings.Builder1
import Derived.Shelf.Strings.Builder2
import Derived.Shelf.Strings.OnBuilder
import Derived.Shelf.Strings.Trim
import Derived.Shelf.Small.Utf8
import Derived.Shelf.Small.Bits
import Derived.Shelf.Small.Strs
import Derived.Shelf.Strings.BuilderF
import Derived.Shelf.Strings.BuilderK
import Derived.Shelf.Strconv.Atoi
import Derived.Shelf.Strconv.Itoa0
import Derived.Shelf.Strconv.Itoa1
import Derived.Shelf.LaysM
import Derived.Shelf.Strconv.Itoa2
import Derived.Shelf.Strconv.Itoa3
import Derived.Shelf.Strconv.AtoiErrFast
import Derived.Shelf.Strconv.ParseIntEmpty
import Derived.Shelf.Strconv.AtoiFail
import Derived.Shelf.Strconv.Clone
import Derived.Shelf.Strconv.SyntaxError
import Derived.Shelf.LaysC
import Derived.Shelf.Strconv.ToError
import Derived.Shelf.Strconv.AtoiErr
import Derived.Shelf.Strconv.ErrVar
import Derived.Shelf.Strconv.Lower
import Derived.Shelf.Strconv.ParseUint10
import Derived.Shelf.Strconv.ParseUint10Empty
import Derived.Shelf.Strconv.ParseUint10Any
import Derived.Shelf.Strconv.ParseInt10
import Derived.Shelf.Strconv.AtoiLong
import Derived.Shelf.Strconv.AtoiInnerAll
import Derived.Shelf.Strconv.RangeError
import Derived.Shelf.Strconv.ToErrorRange
import Derived.Shelf.Strconv.AtoiAll
import Derived.Shelf.Strconv.ErrVarAll
import Derived.Shelf.Strings.Search1
import Derived.Shelf.Strings.Runes
import Derived.Shelf.Strings.AsciiSet
import Derived.Shelf.Bits.Mul64
import Derived.Shelf.Unicode.DecodeSlow
import Derived.Shelf.Strings.SlTrimAscii
import Derived.Shelf.Lays
set_option maxHeartbeats 3200000
set_option maxRecDepth 100000
set_option linter.all false
open Go renaming World→qo,Calls→qw
open Go.Value renaming string→qg
open Go.Ending renaming returned→qm
open Go.Value (int)
open Go.IntKind (i64)
namespace Go.Proofs
open Go.Shelf
def Tryz.uy:Go.Shelf.Ren:=⟨fun|156=>29|165=>48|166=>49|169=>47|240=>76|241=>77|276=>120|277=>121|n=>n,fun|31=>22|9=>9|3=>3|4=>4|0=>0|20=>20|72=>140|76=>147|70=>137|37=>138|75=>142|127=>178|164=>226|5=>5|80=>145|n=>n,fun|n=>n⟩
theorem Tryz.Io:Go.Proofs.Lays.n156 prog Tryz.uy:={
 mixed:=qd
 f156:=cD func29
 f165:=cD func48
 f166:=cD func49
 f169:=cD func47
 f240:=cD func76
 f241:=cD func77
 f276:=cD func120
 f277:=cD func121
 t0:=underlying0
 a0:=isAgg0
 z0:=sizeOf0
 v0:=zeroValue0
 t3:=underlying3
 a3:=isAgg3
 z3:=sizeOf3
 v3:=zeroValue3
 t4:=underlying4
 a4:=isAgg4
 z4:=sizeOf4
 v4:=zeroValue4
 t9:=underlying9
 a9:=isAgg9
 z9:=sizeOf9
 v9:=zeroValue9
 t20:=underlying20
 a20:=isAgg20
 z20:=sizeOf20
 v20:=zeroValue20
 t31:=underlying22
 a31:=isAgg22
 z31:=sizeOf22
 v31:=zeroValue22
 t37:=underlying138
 a37:=isAgg138
 z37:=sizeOf138
 v37:=zeroValue138
 t70:=underlying137
 a70:=isAgg137
 z70:=sizeOf137
 v70:=zeroValue137
 t72:=underlying140
 a72:=isAgg140
 z72:=sizeOf140
 v72:=zeroValue140
 t75:=underlying142
 a75:=isAgg142
 z75:=sizeOf142
 v75:=zeroValue142
 t76:=underlying147
 a76:=isAgg147
 z76:=sizeOf147
 v76:=zeroValue147
 t127:=underlying178
 a127:=isAgg178
 z127:=sizeOf178
 v127:=zeroValue178
 t164:=underlying226
 a164:=isAgg226
 z164:=sizeOf226
 v164:=zeroValue226}
theorem Tryz.kx:Builder.Extra prog Tryz.uy:={
 sizeBuilder:=qd
 liesBuilder:=qd
 t5:=underlying5
 a5:=isAgg5
 z5:=sizeOf5
 v5:=zeroValue5
 infoByte:=qd
 cellsByte:=qd
 sizeByte:=qd
 neB5:=by decide}
open Go.RowKit in
theorem Tryz.strings_Join_none(a:Option Addr)(c:Nat)(sep:ByteArray)(w:qo):
 qw prog 29 #[.slice a 0 c,qg sep] w fun e J=>e=qm (qg ⟨#[]⟩)∧J=w:=Any.strings_Join_none Tryz.Io Tryz.kx a c sep w
open Go.RowKit in
theorem Tryz.strings_Join(bk o c:Nat)(xs:List ByteArray)(sep:ByteArray)(w:qo)(Yd: ∀(j:Nat) x,xs[j]? =some x→w.cell? ⟨bk,o+j,none⟩=some (qg x))(eo:bk<w.heap.size)(hN:xs.length≤140737488355328)(rY:xs.length≤c)(hlen:(Lib.join (xs.map (·.data.toList)) sep.data.toList).length≤140737488355328):
 qw prog 29 #[.slice (some ⟨bk,o,none⟩) xs.length c,qg sep] w fun e J=>e=qm (qg ⟨(Lib.join (xs.map (·.data.toList)) sep.data.toList).toArray⟩)∧Below w.heap.size w J:=Any.strings_Join Tryz.Io Tryz.kx bk o c xs sep w Yd eo hN rY hlen
def Tryz.Dl:Go.Shelf.Ren:=⟨fun|137=>126|217=>172|266=>235|n=>n,fun|9=>9|5=>5|3=>3|n=>n,fun|n=>n⟩
theorem Tryz.Tf:Go.Proofs.Lays.n137 prog Tryz.Dl:={
 mixed:=qd
 f137:=cD func126
 f217:=cD func172
 f266:=cD func235
 t3:=underlying3
 a3:=isAgg3
 z3:=sizeOf3
 v3:=zeroValue3
 t5:=underlying5
 a5:=isAgg5
 z5:=sizeOf5
 v5:=zeroValue5
 t9:=underlying9
 a9:=isAgg9
 z9:=sizeOf9
 v9:=zeroValue9}
open Go.RowKit in
theorem Tryz.strings_IndexByte(s:ByteArray)(c:Int)(w:qo):
 qw prog 126 #[qg s,.int .u8 c] w fun e J=>e=qm (int i64 (Lib.indexByte s.data.toList c.toNat.toUInt8))∧J=w:=Any.strings_IndexByte Tryz.Tf s c w
def Tryz.BB:Go.Shelf.Ren:=⟨fun|171=>27|243=>45|246=>75|283=>116|284=>117|285=>118|286=>119|129=>112|317=>155|318=>156|319=>157|320=>158|337=>226|338=>227|n=>n,fun|3=>3|9=>9|2=>2|4=>4|171=>222|0=>0|53=>207|37=>138|5=>5|173=>224|212=>261|51=>205|20=>20|213=>262|46=>144|232=>419|233=>420|n=>n,fun|17=>1|18=>5|19=>6|n=>n⟩
theorem Tryz.NV:Go.Proofs.LaysM.n171 prog Tryz.BB:={
 mixed:=qd
 f129:=cD func112
 f171:=cD func27
 f243:=cD func45
 f246:=cD func75
 f283:=cD func116
 f284:=cD func117
 f285:=cD func118
 f286:=cD func119
 f317:=cD func155
 f318:=cD func156
 f319:=cD func157
 f320:=cD func158
 f337:=cD func226
 f338:=cD func227
 t0:=underlying0
 a0:=isAgg0
 z0:=sizeOf0
 v0:=zeroValue0
 t2:=underlying2
 a2:=isAgg2
 z2:=sizeOf2
 v2:=zeroValue2
 t3:=underlying3
 a3:=isAgg3
 z3:=sizeOf3
 v3:=zeroValue3
 t4:=underlying4
 a4:=isAgg4
 z4:=sizeOf4
 v4:=zeroValue4
 t5:=underlying5
 a5:=isAgg5
 z5:=sizeOf5
 v5:=zeroValue5
 t9:=underlying9
 a9:=isAgg9
 z9:=sizeOf9
 v9:=zeroValue9
 t20:=underlying20
 a20:=isAgg20
 z20:=sizeOf20
 v20:=zeroValue20
 t37:=underlying138
 a37:=isAgg138
 z37:=sizeOf138
 v37:=zeroValue138
 t46:=underlying144
 a46:=isAgg144
 z46:=sizeOf144
 v46:=zeroValue144
 t51:=underlying205
 a51:=isAgg205
 z51:=sizeOf205
 v51:=zeroValue205
 t53:=underlying207
 a53:=isAgg207
 z53:=sizeOf207
 v53:=zeroValue207
 t171:=underlying222
 a171:=isAgg222
 z171:=sizeOf222
 v171:=zeroValue222
 t173:=underlying224
 a173:=isAgg224
 z173:=sizeOf224
 v173:=zeroValue224
 t212:=underlying261
 a212:=isAgg261
 z212:=sizeOf261
 v212:=zeroValue261
 t213:=underlying262
 a213:=isAgg262
 z213:=sizeOf262
 t232:=underlying419
 a232:=isAgg419
 z232:=sizeOf419
 v232:=zeroValue419
 t233:=underlying420
 a233:=isAgg420
 z233:=sizeOf420
 v233:=zeroValue420
 g17:=qd
 g18:=qd
 g19:=qd
 i0:=qd
 i2:=qd
 i3:=qd
 i4:=qd
 i5:=qd
 i9:=qd
 i20:=qd
 i37:=qd
 i46:=qd
 i51:=qd
 i53:=qd
 i171:=qd
 i173:=qd
 i212:=qd
 i232:=qd
 i233:=qd
 m17:=qd
 m18:=qd
 m19:=by kernel_rfl}
open Go.RowKit Go.Sort Go.Lib in
theorem Tryz.strconv_Itoa(n:Int)(h0: -9223372036854775808≤n)(h1:n≤9223372036854775807)(w:qo)(agt:Lib.TabIs prog w "internal/strconv.uint64pow10" .u64 Lib.pow10Tab):
 qw prog 27 #[int i64 n] w fun e J=>e=qm (qg ⟨(Lib.itoa n).toArray⟩)∧ ∃k os,J=grow (w.drewN k) os:=Any.strconv_Itoa Tryz.NV n h0 h1 w agt
def Tryz.BC:Go.Shelf.Ren:=⟨fun|172=>79|244=>122|245=>123|247=>159|279=>160|280=>161|281=>162|282=>163|287=>228|316=>229|171=>27|205=>230|321=>292|322=>293|243=>45|246=>75|283=>116|284=>117|285=>118|286=>119|129=>112|317=>155|318=>156|319=>157|320=>158|337=>226|338=>227|n=>n,fun|9=>9|3=>3|75=>142|76=>147|4=>4|5=>5|167=>263|37=>138|0=>0|85=>264|2=>2|168=>266|53=>207|175=>353|46=>144|210=>356|127=>178|145=>424|143=>422|21=>21|171=>222|173=>224|212=>261|51=>205|20=>20|213=>262|232=>419|233=>420|80=>145|n=>n,fun|15=>3|16=>4|17=>1|18=>5|19=>6|n=>n⟩
theorem Tryz.wK:Go.Proofs.LaysC.n172 prog Tryz.BC:={
 mixed:=qd
 f129:=cD func112
 f171:=cD func27
 f172:=cD func79
 f205:=cD func230
 f243:=cD func45
 f244:=cD func122
 f245:=cD func123
 f246:=cD func75
 f247:=cD func159
 f279:=cD func160
 f280:=cD func161
 f281:=cD func162
 f282:=cD func163
 f283:=cD func116
 f284:=cD func117
 f285:=cD func118
 f286:=cD func119
 f287:=cD func228
 f316:=cD func229
 f317:=cD func155
 f318:=cD func156
 f319:=cD func157
 f320:=cD func158
 f321:=cD func292
 f322:=cD func293
 f337:=cD func226
 f338:=cD func227
 t0:=underlying0
 a0:=isAgg0
 z0:=sizeOf0
 v0:=zeroValue0
 t2:=underlying2
 a2:=isAgg2
 z2:=sizeOf2
 v2:=zeroValue2
 t3:=underlying3
 a3:=isAgg3
 z3:=sizeOf3
 v3:=zeroValue3
 t4:=underlying4
 a4:=isAgg4
 z4:=sizeOf4
 v4:=zeroValue4
 t5:=underlying5
 a5:=isAgg5
 z5:=sizeOf5
 v5:=zeroValue5
 t9:=underlying9
 a9:=isAgg9
 z9:=sizeOf9
 v9:=zeroValue9
 t20:=underlying20
 a20:=isAgg20
 z20:=sizeOf20
 v20:=zeroValue20
 t21:=underlying21
 a21:=isAgg21
 z21:=sizeOf21
 v21:=zeroValue21
 t37:=underlying138
 a37:=isAgg138
 z37:=sizeOf138
 v37:=zeroValue138
 t46:=underlying144
 a46:=isAgg144
 z46:=sizeOf144
 v46:=zeroValue144
 t51:=underlying205
 a51:=isAgg205
 z51:=sizeOf205
 v51:=zeroValue205
 t53:=underlying207
 a53:=isAgg207
 z53:=sizeOf207
 v53:=zeroValue207
 t75:=underlying142
 a75:=isAgg142
 z75:=sizeOf142
 v75:=zeroValue142
 t76:=underlying147
 a76:=isAgg147
 z76:=sizeOf147
 v76:=zeroValue147
 t85:=underlying264
 a85:=isAgg264
 z85:=sizeOf264
 v85:=zeroValue264
 t127:=underlying178
 a127:=isAgg178
 z127:=sizeOf178
 v127:=zeroValue178
 t143:=underlying422
 a143:=isAgg422
 z143:=sizeOf422
 v143:=zeroValue422
 t145:=underlying424
 a145:=isAgg424
 z145:=sizeOf424
 v145:=zeroValue424
 t167:=underlying263
 a167:=isAgg263
 z167:=sizeOf263
 v167:=zeroValue263
 t168:=underlying266
 a168:=isAgg266
 z168:=sizeOf266
 v168:=zeroValue266
 t171:=underlying222
 a171:=isAgg222
 z171:=sizeOf222
 v171:=zeroValue222
 t173:=underlying224
 a173:=isAgg224
 z173:=sizeOf224
 v173:=zeroValue224
 t175:=underlying353
 a175:=isAgg353
 z175:=sizeOf353
 v175:=zeroValue353
 t210:=underlying356
 a210:=isAgg356
 z210:=sizeOf356
 v210:=zeroValue356
 t212:=underlying261
 a212:=isAgg261
 z212:=sizeOf261
 v212:=zeroValue261
 t213:=underlying262
 a213:=isAgg262
 z213:=sizeOf262
 t232:=underlying419
 a232:=isAgg419
 z232:=sizeOf419
 v232:=zeroValue419
 t233:=underlying420
 a233:=isAgg420
 z233:=sizeOf420
 v233:=zeroValue420
 g15:=qd
 g16:=qd
 g17:=qd
 g18:=qd
 g19:=qd
 t80:=underlying145
 a80:=isAgg145
 z80:=sizeOf145
 v80:=zeroValue145
 i0:=qd
 i2:=qd
 i3:=qd
 i4:=qd
 i5:=qd
 i9:=qd
 i20:=qd
 i21:=qd
 i37:=qd
 i46:=qd
 i51:=qd
 i53:=qd
 i75:=qd
 i76:=qd
 i80:=qd
 i85:=qd
 i127:=qd
 i143:=qd
 i145:=qd
 i167:=qd
 i168:=qd
 i171:=qd
 i173:=qd
 i175:=qd
 i210:=qd
 i212:=qd
 i232:=qd
 i233:=qd
 m15:=qd
 m16:=qd
 m17:=qd
 m18:=qd
 m19:=qd
 c0:=qd
 c2:=qd
 c3:=qd
 c4:=qd
 c5:=qd
 c9:=qd
 c20:=qd
 c21:=qd
 c37:=qd
 c46:=qd
 c51:=qd
 c53:=qd
 c75:=qd
 c76:=qd
 c80:=qd
 c85:=qd
 c127:=qd
 c143:=qd
 c145:=qd
 c167:=qd
 c168:=qd
 c171:=qd
 c173:=qd
 c175:=qd
 c210:=qd
 c212:=qd
 c213:=qd
 c232:=qd
 c233:=by kernel_rfl}
open Go.RowKit in
theorem Tryz.strconv_Atoi_ok(s:ByteArray)(acd:s.size≤9223372036854775806)(v:Int)(h:Lib.atoiAll s.data.toList= .ok v)(w:qo):
 qw prog 79 #[qg s] w fun e J=>e=qm (.tuple #[int i64 v,.nilIface])∧(J=w∨ ∃t,J=Lib.bytesWorld w 5 t):=Any.strconv_Atoi_ok Tryz.wK s acd v h w
open Go.RowKit in
theorem Tryz.strconv_Atoi_syntax(s:ByteArray)(Ye:s.size≤281474976710656)(h:Lib.atoiAll s.data.toList= .«syntax»)(ev:Value)(w:qo)(hv:w.cell? ⟨3,0,none⟩=some ev)(hev:ev= .nilIface∨ ∃te pe,ev= .iface te pe):
 qw prog 79 #[qg s] w fun e J=> ∃N,e=qm (.tuple #[int i64 (0),.iface 266 (.pointer (some ⟨N,0,none⟩))])∧w.heap.size≤N∧J.heap[N]? =some (.cells #[qg ⟨#[65,116,111,105]⟩,qg s,ev] 356 (0,0))∧Below w.heap.size w J:=Any.strconv_Atoi_syntax Tryz.wK s Ye h ev w hv hev
open Go.RowKit in
theorem Tryz.strconv_Atoi_range(s:ByteArray)(Ye:s.size≤281474976710656)(h:Lib.atoiAll s.data.toList= .range)(ev:Value)(w:qo)(hv:w.cell? ⟨4,0,none⟩=some ev)(hev:ev= .nilIface∨ ∃te pe,ev= .iface te pe):
 qw prog 79 #[qg s] w fun e J=> ∃N,e=qm (.tuple #[int i64 (Lib.atoiSat s.data.toList),.iface 266 (.pointer (some ⟨N,0,none⟩))])∧w.heap.size≤N∧J.heap[N]? =some (.cells #[qg ⟨#[65,116,111,105]⟩,qg s,ev] 356 (0,0))∧Below w.heap.size w J:=Any.strconv_Atoi_range Tryz.wK s Ye h ev w hv hev
def Tryz.Kv:Go.Shelf.Ren:=⟨fun|160=>125|232=>166|231=>165|227=>167|234=>169|233=>168|236=>171|235=>170|228=>231|271=>234|151=>233|197=>232|120=>296|152=>295|260=>294|137=>126|119=>352|224=>353|225=>354|217=>172|266=>235|n=>n,fun|9=>9|4=>4|3=>3|5=>5|117=>272|116=>271|0=>0|124=>275|21=>21|105=>359|46=>144|119=>474|139=>477|138=>476|n=>n,fun|3=>8|4=>9|n=>n⟩
theorem Tryz.ace:Go.Proofs.Lays.n160 prog Tryz.Kv:={
 mixed:=qd
 f119:=cD func352
 f120:=cD func296
 f137:=cD func126
 f151:=cD func233
 f152:=cD func295
 f160:=cD func125
 f197:=cD func232
 f217:=cD func172
 f224:=cD func353
 f225:=cD func354
 f227:=cD func167
 f228:=cD func231
 f231:=cD func165
 f232:=cD func166
 f233:=cD func168
 f234:=cD func169
 f235:=cD func170
 f236:=cD func171
 f260:=cD func294
 f266:=cD func235
 f271:=cD func234
 t0:=underlying0
 a0:=isAgg0
 z0:=sizeOf0
 v0:=zeroValue0
 t3:=underlying3
 a3:=isAgg3
 z3:=sizeOf3
 v3:=zeroValue3
 t4:=underlying4
 a4:=isAgg4
 z4:=sizeOf4
 v4:=zeroValue4
 t5:=underlying5
 a5:=isAgg5
 z5:=sizeOf5
 v5:=zeroValue5
 t9:=underlying9
 a9:=isAgg9
 z9:=sizeOf9
 v9:=zeroValue9
 t21:=underlying21
 a21:=isAgg21
 z21:=sizeOf21
 v21:=zeroValue21
 t46:=underlying144
 a46:=isAgg144
 z46:=sizeOf144
 v46:=zeroValue144
 t105:=underlying359
 a105:=isAgg359
 z105:=sizeOf359
 v105:=zeroValue359
 t116:=underlying271
 a116:=isAgg271
 z116:=sizeOf271
 t117:=underlying272
 a117:=isAgg272
 z117:=sizeOf272
 v117:=zeroValue272
 t119:=underlying474
 a119:=isAgg474
 z119:=sizeOf474
 t124:=underlying275
 a124:=isAgg275
 z124:=sizeOf275
 v124:=zeroValue275
 t138:=underlying476
 a138:=isAgg476
 z138:=sizeOf476
 v138:=zeroValue476
 t139:=underlying477
 a139:=isAgg477
 z139:=sizeOf477
 v139:=zeroValue477
 g3:=qd
 g4:=by kernel_rfl}
