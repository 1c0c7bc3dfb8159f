/- Lemmas of the proof; no conditions. -/
import Derived.Shelf.Strconv.ErrVarParseInt
import Derived.Shelf.Strings.SlTrimAscii
import Derived.Shelf.Strings.OnBuilder
import Derived.Shelf.Small.Wraps
import Derived.Shelf.Strings.BuilderRune
import Derived.Shelf.Strconv.Atoi
import Derived.Shelf.Strconv.Itoa4
import Derived.Shelf.Strings.Shaped
import Derived.Shelf.Unicode.Decode
import Derived.Shelf.Unicode.CaseLaid
import Derived.Shelf.Strings.FuncGrows
import Derived.Shelf.Strings.BuilderCap
import Derived.Shelf.Bytes.SlIndexAt
import Derived.Shelf.SlicesE.DeleteFunc
import Derived.Test.YtdoogdbjiijifaaGreatDoorE9Paq
namespace Go.Proofs.YtdoogdbjiijifaaGreatDoor
open Go Go.Shelf Go.RowKit Go.Sort Go.Lib
set_option maxRecDepth 100000
set_option maxHeartbeats 4000000
theorem Krx{a:Option Func}{f g:Func}(h:a=some f)(e:f=g:=by kernel_rfl):a=some g:=h.trans (congrArg some e)
def iM:Go.Shelf.Ren:=⟨fun|159=>195|165=>247|166=>142|167=>248|169=>143|230=>249|204=>250|240=>196|241=>282|197=>220|118=>283|168=>284|270=>285|262=>286|276=>251|277=>304|260=>267|242=>305|313=>306|278=>311|274=>312|275=>313|n=>n,fun|9=>9|4=>4|3=>3|5=>5|72=>180|0=>0|76=>158|75=>157|107=>258|70=>178|20=>20|37=>22|127=>225|21=>21|105=>233|164=>259|162=>313|203=>311|119=>261|46=>278|139=>301|138=>300|51=>285|160=>320|208=>326|206=>324|80=>181|n=>n,fun|13=>7|3=>5|4=>6|n=>n⟩
theorem Aew:Go.Proofs.Lays.n159 Tryz.prog iM:={
 mixed:=by kernel_rfl
 f118:=Krx Tryz.func283
 f159:=Krx Tryz.func195
 f165:=Krx Tryz.func247
 f166:=Krx Tryz.func142
 f167:=Krx Tryz.func248
 f168:=Krx Tryz.func284
 f169:=Krx Tryz.func143
 f197:=Krx Tryz.func220
 f204:=Krx Tryz.func250
 f230:=Krx Tryz.func249
 f240:=Krx Tryz.func196
 f241:=Krx Tryz.func282
 f242:=Krx Tryz.func305
 f260:=Krx Tryz.func267
 f262:=Krx Tryz.func286
 f270:=Krx Tryz.func285
 f274:=Krx Tryz.func312
 f275:=Krx Tryz.func313
 f276:=Krx Tryz.func251
 f277:=Krx Tryz.func304
 f278:=Krx Tryz.func311
 f313:=Krx Tryz.func306
 t0:=Tryz.underlying0
 a0:=Tryz.isAgg0
 z0:=Tryz.sizeOf0
 v0:=Tryz.zeroValue0
 t3:=Tryz.underlying3
 a3:=Tryz.isAgg3
 z3:=Tryz.sizeOf3
 v3:=Tryz.zeroValue3
 t4:=Tryz.underlying4
 a4:=Tryz.isAgg4
 z4:=Tryz.sizeOf4
 v4:=Tryz.zeroValue4
 t5:=Tryz.underlying5
 a5:=Tryz.isAgg5
 z5:=Tryz.sizeOf5
 v5:=Tryz.zeroValue5
 t9:=Tryz.underlying9
 a9:=Tryz.isAgg9
 z9:=Tryz.sizeOf9
 v9:=Tryz.zeroValue9
 t20:=Tryz.underlying20
 a20:=Tryz.isAgg20
 z20:=Tryz.sizeOf20
 v20:=Tryz.zeroValue20
 t21:=Tryz.underlying21
 a21:=Tryz.isAgg21
 z21:=Tryz.sizeOf21
 v21:=Tryz.zeroValue21
 t37:=Tryz.underlying22
 a37:=Tryz.isAgg22
 z37:=Tryz.sizeOf22
 v37:=Tryz.zeroValue22
 t46:=Tryz.underlying278
 a46:=Tryz.isAgg278
 z46:=Tryz.sizeOf278
 v46:=Tryz.zeroValue278
 t51:=Tryz.underlying285
 a51:=Tryz.isAgg285
 z51:=Tryz.sizeOf285
 v51:=Tryz.zeroValue285
 t70:=Tryz.underlying178
 a70:=Tryz.isAgg178
 z70:=Tryz.sizeOf178
 v70:=Tryz.zeroValue178
 t72:=Tryz.underlying180
 a72:=Tryz.isAgg180
 z72:=Tryz.sizeOf180
 v72:=Tryz.zeroValue180
 t75:=Tryz.underlying157
 a75:=Tryz.isAgg157
 z75:=Tryz.sizeOf157
 v75:=Tryz.zeroValue157
 t76:=Tryz.underlying158
 a76:=Tryz.isAgg158
 z76:=Tryz.sizeOf158
 v76:=Tryz.zeroValue158
 t105:=Tryz.underlying233
 a105:=Tryz.isAgg233
 z105:=Tryz.sizeOf233
 v105:=Tryz.zeroValue233
 t107:=Tryz.underlying258
 a107:=Tryz.isAgg258
 z107:=Tryz.sizeOf258
 v107:=Tryz.zeroValue258
 t119:=Tryz.underlying261
 a119:=Tryz.isAgg261
 z119:=Tryz.sizeOf261
 t127:=Tryz.underlying225
 a127:=Tryz.isAgg225
 z127:=Tryz.sizeOf225
 v127:=Tryz.zeroValue225
 t138:=Tryz.underlying300
 a138:=Tryz.isAgg300
 z138:=Tryz.sizeOf300
 v138:=Tryz.zeroValue300
 t139:=Tryz.underlying301
 a139:=Tryz.isAgg301
 z139:=Tryz.sizeOf301
 v139:=Tryz.zeroValue301
 t160:=Tryz.underlying320
 a160:=Tryz.isAgg320
 z160:=Tryz.sizeOf320
 v160:=Tryz.zeroValue320
 t162:=Tryz.underlying313
 a162:=Tryz.isAgg313
 z162:=Tryz.sizeOf313
 v162:=Tryz.zeroValue313
 t164:=Tryz.underlying259
 a164:=Tryz.isAgg259
 z164:=Tryz.sizeOf259
 v164:=Tryz.zeroValue259
 t203:=Tryz.underlying311
 a203:=Tryz.isAgg311
 z203:=Tryz.sizeOf311
 v203:=Tryz.zeroValue311
 t206:=Tryz.underlying324
 a206:=Tryz.isAgg324
 z206:=Tryz.sizeOf324
 v206:=Tryz.zeroValue324
 t208:=Tryz.underlying326
 a208:=Tryz.isAgg326
 z208:=Tryz.sizeOf326
 v208:=Tryz.zeroValue326
 g3:=by kernel_rfl
 g4:=by kernel_rfl
 g13:=by kernel_rfl }
theorem Lo:Builder.Extra Tryz.prog iM:={
 sizeBuilder:=by kernel_rfl
 liesBuilder:=by kernel_rfl
 t5:=Tryz.underlying5
 a5:=Tryz.isAgg5
 z5:=Tryz.sizeOf5
 v5:=Tryz.zeroValue5
 infoByte:=by kernel_rfl
 cellsByte:=by kernel_rfl
 sizeByte:=by kernel_rfl
 neB5:=by decide }
theorem I6(s:ByteArray)(w:World)(hs:s.size<=140737488355328)(zq:∀(j:Nat) (b:UInt8),s.data.toList[j]?=some b->b.toNat<128):
  Calls Tryz.prog 195 #[.string s] w λe w'=>e=.returned (.string ⟨(Lib.toLowerA s.data.toList).toArray⟩)/\Below w.heap.size w w':=Any.strings_ToLower_ascii Aew Lo s w hs zq
def nR:Go.Shelf.Ren:=⟨fun|160=>116|232=>160|231=>159|227=>161|234=>163|233=>162|236=>165|235=>164|228=>219|271=>222|151=>221|197=>220|120=>269|152=>268|260=>267|137=>239|119=>297|224=>275|225=>274|217=>273|266=>300|n=>n,fun|9=>9|4=>4|3=>3|5=>5|117=>199|116=>198|0=>0|124=>202|21=>21|105=>233|46=>278|119=>261|139=>301|138=>300|n=>n,fun|3=>5|4=>6|n=>n⟩
theorem Aev:Go.Proofs.Lays.n160 Tryz.prog nR:={
 mixed:=by kernel_rfl
 f119:=Krx Tryz.func297
 f120:=Krx Tryz.func269
 f137:=Krx Tryz.func239
 f151:=Krx Tryz.func221
 f152:=Krx Tryz.func268
 f160:=Krx Tryz.func116
 f197:=Krx Tryz.func220
 f217:=Krx Tryz.func273
 f224:=Krx Tryz.func275
 f225:=Krx Tryz.func274
 f227:=Krx Tryz.func161
 f228:=Krx Tryz.func219
 f231:=Krx Tryz.func159
 f232:=Krx Tryz.func160
 f233:=Krx Tryz.func162
 f234:=Krx Tryz.func163
 f235:=Krx Tryz.func164
 f236:=Krx Tryz.func165
 f260:=Krx Tryz.func267
 f266:=Krx Tryz.func300
 f271:=Krx Tryz.func222
 t0:=Tryz.underlying0
 a0:=Tryz.isAgg0
 z0:=Tryz.sizeOf0
 v0:=Tryz.zeroValue0
 t3:=Tryz.underlying3
 a3:=Tryz.isAgg3
 z3:=Tryz.sizeOf3
 v3:=Tryz.zeroValue3
 t4:=Tryz.underlying4
 a4:=Tryz.isAgg4
 z4:=Tryz.sizeOf4
 v4:=Tryz.zeroValue4
 t5:=Tryz.underlying5
 a5:=Tryz.isAgg5
 z5:=Tryz.sizeOf5
 v5:=Tryz.zeroValue5
 t9:=Tryz.underlying9
 a9:=Tryz.isAgg9
 z9:=Tryz.sizeOf9
 v9:=Tryz.zeroValue9
 t21:=Tryz.underlying21
 a21:=Tryz.isAgg21
 z21:=Tryz.sizeOf21
 v21:=Tryz.zeroValue21
 t46:=Tryz.underlying278
 a46:=Tryz.isAgg278
 z46:=Tryz.sizeOf278
 v46:=Tryz.zeroValue278
 t105:=Tryz.underlying233
 a105:=Tryz.isAgg233
 z105:=Tryz.sizeOf233
 v105:=Tryz.zeroValue233
 t116:=Tryz.underlying198
 a116:=Tryz.isAgg198
 z116:=Tryz.sizeOf198
 t117:=Tryz.underlying199
 a117:=Tryz.isAgg199
 z117:=Tryz.sizeOf199
 v117:=Tryz.zeroValue199
 t119:=Tryz.underlying261
 a119:=Tryz.isAgg261
 z119:=Tryz.sizeOf261
 t124:=Tryz.underlying202
 a124:=Tryz.isAgg202
 z124:=Tryz.sizeOf202
 v124:=Tryz.zeroValue202
 t138:=Tryz.underlying300
 a138:=Tryz.isAgg300
 z138:=Tryz.sizeOf300
 v138:=Tryz.zeroValue300
 t139:=Tryz.underlying301
 a139:=Tryz.isAgg301
 z139:=Tryz.sizeOf301
 v139:=Tryz.zeroValue301
 g3:=by kernel_rfl
 g4:=by kernel_rfl }
def nT:Go.Shelf.Ren:=⟨fun|137=>239|217=>273|266=>300|n=>n,fun|9=>9|5=>5|3=>3|n=>n,fun|n=>n⟩
theorem Aey:Go.Proofs.Lays.n137 Tryz.prog nT:={
 mixed:=by kernel_rfl
 f137:=Krx Tryz.func239
 f217:=Krx Tryz.func273
 f266:=Krx Tryz.func300
 t3:=Tryz.underlying3
 a3:=Tryz.isAgg3
 z3:=Tryz.sizeOf3
 v3:=Tryz.zeroValue3
 t5:=Tryz.underlying5
 a5:=Tryz.isAgg5
 z5:=Tryz.sizeOf5
 v5:=Tryz.zeroValue5
 t9:=Tryz.underlying9
 a9:=Tryz.isAgg9
 z9:=Tryz.sizeOf9
 v9:=Tryz.zeroValue9 }
theorem Lj(s:ByteArray)(c:Int)(w:World):
  Calls Tryz.prog 239 #[.string s,.int .u8 c] w λe w'=>e=.returned (.int .i64 (Lib.indexByte s.data.toList c.toNat.toUInt8))/\w'=w:=Any.strings_IndexByte Aey s c w
def nV:Go.Shelf.Ren:=⟨fun|103=>55|210=>113|206=>157|n=>n,fun|9=>9|4=>4|24=>95|3=>3|n=>n,fun|n=>n⟩
theorem Ae0:Go.Proofs.Lays.n103 Tryz.prog nV:={
 mixed:=by kernel_rfl
 f103:=Krx Tryz.func55
 f206:=Krx Tryz.func157
 f210:=Krx Tryz.func113
 t3:=Tryz.underlying3
 a3:=Tryz.isAgg3
 z3:=Tryz.sizeOf3
 v3:=Tryz.zeroValue3
 t4:=Tryz.underlying4
 a4:=Tryz.isAgg4
 z4:=Tryz.sizeOf4
 v4:=Tryz.zeroValue4
 t9:=Tryz.underlying9
 a9:=Tryz.isAgg9
 z9:=Tryz.sizeOf9
 v9:=Tryz.zeroValue9
 t24:=Tryz.underlying95
 a24:=Tryz.isAgg95
 z24:=Tryz.sizeOf95
 v24:=Tryz.zeroValue95 }
theorem Lm(s p:ByteArray)(w:World):
  Calls Tryz.prog 55 #[.string s,.string p] w λe w'=>e=.returned (.tuple #[.string ⟨(Lib.trimPrefix s.data.toList p.data.toList).toArray⟩,.bool (Lib.hasPrefix s.data.toList p.data.toList)])/\w'=w:=Any.strings_CutPrefix Ae0 s p w
def nU:Go.Shelf.Ren:=⟨fun|104=>54|211=>112|207=>156|n=>n,fun|9=>9|4=>4|24=>95|3=>3|n=>n,fun|n=>n⟩
theorem Aez:Go.Proofs.Lays.n104 Tryz.prog nU:={
 mixed:=by kernel_rfl
 f104:=Krx Tryz.func54
 f207:=Krx Tryz.func156
 f211:=Krx Tryz.func112
 t3:=Tryz.underlying3
 a3:=Tryz.isAgg3
 z3:=Tryz.sizeOf3
 v3:=Tryz.zeroValue3
 t4:=Tryz.underlying4
 a4:=Tryz.isAgg4
 z4:=Tryz.sizeOf4
 v4:=Tryz.zeroValue4
 t9:=Tryz.underlying9
 a9:=Tryz.isAgg9
 z9:=Tryz.sizeOf9
 v9:=Tryz.zeroValue9
 t24:=Tryz.underlying95
 a24:=Tryz.isAgg95
 z24:=Tryz.sizeOf95
 v24:=Tryz.zeroValue95 }
theorem Ll(s p:ByteArray)(w:World)(hs:s.size<=9223372036854775807):
  Calls Tryz.prog 54 #[.string s,.string p] w λe w'=>e=.returned (.tuple #[.string ⟨(Lib.trimSuffix s.data.toList p.data.toList).toArray⟩,.bool (Lib.hasSuffix s.data.toList p.data.toList)])/\w'=w:=Any.strings_CutSuffix Aez s p w hs
def nQ:Go.Shelf.Ren:=⟨fun|172=>117|244=>166|245=>167|247=>223|279=>224|280=>225|281=>226|282=>227|287=>270|316=>271|171=>83|205=>272|321=>298|322=>299|243=>139|246=>191|283=>241|284=>242|285=>243|286=>244|129=>278|317=>277|318=>279|319=>280|320=>281|337=>302|338=>303|n=>n,fun|9=>9|3=>3|75=>157|76=>158|4=>4|5=>5|167=>236|37=>22|0=>0|85=>237|2=>2|168=>239|53=>249|175=>276|46=>278|210=>280|127=>225|145=>305|143=>303|21=>21|171=>248|173=>252|212=>284|51=>285|20=>20|213=>286|232=>318|233=>319|80=>181|n=>n,fun|15=>2|16=>3|17=>4|18=>8|19=>9|n=>n⟩
theorem Aeu:Go.Proofs.Lays.n172 Tryz.prog nQ:={
 mixed:=by kernel_rfl
 f129:=Krx Tryz.func278
 f171:=Krx Tryz.func83
 f172:=Krx Tryz.func117
 f205:=Krx Tryz.func272
 f243:=Krx Tryz.func139
 f244:=Krx Tryz.func166
 f245:=Krx Tryz.func167
 f246:=Krx Tryz.func191
 f247:=Krx Tryz.func223
 f279:=Krx Tryz.func224
 f280:=Krx Tryz.func225
 f281:=Krx Tryz.func226
 f282:=Krx Tryz.func227
 f283:=Krx Tryz.func241
 f284:=Krx Tryz.func242
 f285:=Krx Tryz.func243
 f286:=Krx Tryz.func244
 f287:=Krx Tryz.func270
 f316:=Krx Tryz.func271
 f317:=Krx Tryz.func277
 f318:=Krx Tryz.func279
 f319:=Krx Tryz.func280
 f320:=Krx Tryz.func281
 f321:=Krx Tryz.func298
 f322:=Krx Tryz.func299
 f337:=Krx Tryz.func302
 f338:=Krx Tryz.func303
 t0:=Tryz.underlying0
 a0:=Tryz.isAgg0
 z0:=Tryz.sizeOf0
 v0:=Tryz.zeroValue0
 t2:=Tryz.underlying2
 a2:=Tryz.isAgg2
 z2:=Tryz.sizeOf2
 v2:=Tryz.zeroValue2
 t3:=Tryz.underlying3
 a3:=Tryz.isAgg3
 z3:=Tryz.sizeOf3
 v3:=Tryz.zeroValue3
 t4:=Tryz.underlying4
 a4:=Tryz.isAgg4
 z4:=Tryz.sizeOf4
 v4:=Tryz.zeroValue4
 t5:=Tryz.underlying5
 a5:=Tryz.isAgg5
 z5:=Tryz.sizeOf5
 v5:=Tryz.zeroValue5
 t9:=Tryz.underlying9
 a9:=Tryz.isAgg9
 z9:=Tryz.sizeOf9
 v9:=Tryz.zeroValue9
 t20:=Tryz.underlying20
 a20:=Tryz.isAgg20
 z20:=Tryz.sizeOf20
 v20:=Tryz.zeroValue20
 t21:=Tryz.underlying21
 a21:=Tryz.isAgg21
 z21:=Tryz.sizeOf21
 v21:=Tryz.zeroValue21
 t37:=Tryz.underlying22
 a37:=Tryz.isAgg22
 z37:=Tryz.sizeOf22
 v37:=Tryz.zeroValue22
 t46:=Tryz.underlying278
 a46:=Tryz.isAgg278
 z46:=Tryz.sizeOf278
 v46:=Tryz.zeroValue278
 t51:=Tryz.underlying285
 a51:=Tryz.isAgg285
 z51:=Tryz.sizeOf285
 v51:=Tryz.zeroValue285
 t53:=Tryz.underlying249
 a53:=Tryz.isAgg249
 z53:=Tryz.sizeOf249
 v53:=Tryz.zeroValue249
 t75:=Tryz.underlying157
 a75:=Tryz.isAgg157
 z75:=Tryz.sizeOf157
 v75:=Tryz.zeroValue157
 t76:=Tryz.underlying158
 a76:=Tryz.isAgg158
 z76:=Tryz.sizeOf158
 v76:=Tryz.zeroValue158
 t85:=Tryz.underlying237
 a85:=Tryz.isAgg237
 z85:=Tryz.sizeOf237
 v85:=Tryz.zeroValue237
 t127:=Tryz.underlying225
 a127:=Tryz.isAgg225
 z127:=Tryz.sizeOf225
 v127:=Tryz.zeroValue225
 t143:=Tryz.underlying303
 a143:=Tryz.isAgg303
 z143:=Tryz.sizeOf303
 v143:=Tryz.zeroValue303
 t145:=Tryz.underlying305
 a145:=Tryz.isAgg305
 z145:=Tryz.sizeOf305
 v145:=Tryz.zeroValue305
 t167:=Tryz.underlying236
 a167:=Tryz.isAgg236
 z167:=Tryz.sizeOf236
 v167:=Tryz.zeroValue236
 t168:=Tryz.underlying239
 a168:=Tryz.isAgg239
 z168:=Tryz.sizeOf239
 v168:=Tryz.zeroValue239
 t171:=Tryz.underlying248
 a171:=Tryz.isAgg248
 z171:=Tryz.sizeOf248
 v171:=Tryz.zeroValue248
 t173:=Tryz.underlying252
 a173:=Tryz.isAgg252
 z173:=Tryz.sizeOf252
 v173:=Tryz.zeroValue252
 t175:=Tryz.underlying276
 a175:=Tryz.isAgg276
 z175:=Tryz.sizeOf276
 v175:=Tryz.zeroValue276
 t210:=Tryz.underlying280
 a210:=Tryz.isAgg280
 z210:=Tryz.sizeOf280
 v210:=Tryz.zeroValue280
 t212:=Tryz.underlying284
 a212:=Tryz.isAgg284
 z212:=Tryz.sizeOf284
 v212:=Tryz.zeroValue284
 t213:=Tryz.underlying286
 a213:=Tryz.isAgg286
 z213:=Tryz.sizeOf286
 t232:=Tryz.underlying318
 a232:=Tryz.isAgg318
 z232:=Tryz.sizeOf318
 v232:=Tryz.zeroValue318
 t233:=Tryz.underlying319
 a233:=Tryz.isAgg319
 z233:=Tryz.sizeOf319
 v233:=Tryz.zeroValue319
 g15:=by kernel_rfl
 g16:=by kernel_rfl
 g17:=by kernel_rfl
 g18:=by kernel_rfl
 g19:=by kernel_rfl }
theorem Sm(s:ByteArray)(n:Int)(hl:s.size<=18)(h:Lib.atoi s.data.toList=some n)(w:World):
  Calls Tryz.prog 117 #[.string s] w λe w'=>e=.returned (.tuple #[.int .i64 n,.nilIface])/\∃t,w'=Lib.bytesWorld w 5 t:=Any.strconv_Atoi Aeu s n hl h w
def mL:Go.Shelf.Ren:=⟨fun|171=>83|243=>139|246=>191|283=>241|284=>242|285=>243|286=>244|129=>278|317=>277|318=>279|319=>280|320=>281|337=>302|338=>303|n=>n,fun|3=>3|9=>9|2=>2|4=>4|171=>248|0=>0|53=>249|37=>22|5=>5|173=>252|212=>284|51=>285|20=>20|213=>286|46=>278|232=>318|233=>319|n=>n,fun|17=>4|18=>8|19=>9|n=>n⟩
theorem Abi:Go.Proofs.LaysM.n171 Tryz.prog mL:={
 mixed:=by kernel_rfl
 f129:=Krx Tryz.func278
 f171:=Krx Tryz.func83
 f243:=Krx Tryz.func139
 f246:=Krx Tryz.func191
 f283:=Krx Tryz.func241
 f284:=Krx Tryz.func242
 f285:=Krx Tryz.func243
 f286:=Krx Tryz.func244
 f317:=Krx Tryz.func277
 f318:=Krx Tryz.func279
 f319:=Krx Tryz.func280
 f320:=Krx Tryz.func281
 f337:=Krx Tryz.func302
 f338:=Krx Tryz.func303
 t0:=Tryz.underlying0
 a0:=Tryz.isAgg0
 z0:=Tryz.sizeOf0
 v0:=Tryz.zeroValue0
 t2:=Tryz.underlying2
 a2:=Tryz.isAgg2
 z2:=Tryz.sizeOf2
 v2:=Tryz.zeroValue2
 t3:=Tryz.underlying3
 a3:=Tryz.isAgg3
 z3:=Tryz.sizeOf3
 v3:=Tryz.zeroValue3
 t4:=Tryz.underlying4
 a4:=Tryz.isAgg4
 z4:=Tryz.sizeOf4
 v4:=Tryz.zeroValue4
 t5:=Tryz.underlying5
 a5:=Tryz.isAgg5
 z5:=Tryz.sizeOf5
 v5:=Tryz.zeroValue5
 t9:=Tryz.underlying9
 a9:=Tryz.isAgg9
 z9:=Tryz.sizeOf9
 v9:=Tryz.zeroValue9
 t20:=Tryz.underlying20
 a20:=Tryz.isAgg20
 z20:=Tryz.sizeOf20
 v20:=Tryz.zeroValue20
 t37:=Tryz.underlying22
 a37:=Tryz.isAgg22
 z37:=Tryz.sizeOf22
 v37:=Tryz.zeroValue22
 t46:=Tryz.underlying278
 a46:=Tryz.isAgg278
 z46:=Tryz.sizeOf278
 v46:=Tryz.zeroValue278
 t51:=Tryz.underlying285
 a51:=Tryz.isAgg285
 z51:=Tryz.sizeOf285
 v51:=Tryz.zeroValue285
 t53:=Tryz.underlying249
 a53:=Tryz.isAgg249
 z53:=Tryz.sizeOf249
 v53:=Tryz.zeroValue249
 t171:=Tryz.underlying248
 a171:=Tryz.isAgg248
 z171:=Tryz.sizeOf248
 v171:=Tryz.zeroValue248
 t173:=Tryz.underlying252
 a173:=Tryz.isAgg252
 z173:=Tryz.sizeOf252
 v173:=Tryz.zeroValue252
 t212:=Tryz.underlying284
 a212:=Tryz.isAgg284
 z212:=Tryz.sizeOf284
 v212:=Tryz.zeroValue284
 t213:=Tryz.underlying286
 a213:=Tryz.isAgg286
 z213:=Tryz.sizeOf286
 t232:=Tryz.underlying318
 a232:=Tryz.isAgg318
 z232:=Tryz.sizeOf318
 v232:=Tryz.zeroValue318
 t233:=Tryz.underlying319
 a233:=Tryz.isAgg319
 z233:=Tryz.sizeOf319
 v233:=Tryz.zeroValue319
 g17:=by kernel_rfl
 g18:=by kernel_rfl
 g19:=by kernel_rfl
 i0:=by kernel_rfl
 i2:=by kernel_rfl
 i3:=by kernel_rfl
 i4:=by kernel_rfl
 i5:=by kernel_rfl
 i9:=by kernel_rfl
 i20:=by kernel_rfl
 i37:=by kernel_rfl
 i46:=by kernel_rfl
 i51:=by kernel_rfl
 i53:=by kernel_rfl
 i171:=by kernel_rfl
 i173:=by kernel_rfl
 i212:=by kernel_rfl
 i232:=by kernel_rfl
 i233:=by kernel_rfl
 m17:=by kernel_rfl
 m18:=by kernel_rfl
 m19:=by kernel_rfl }
theorem Sl(n:Int)(h0:-9223372036854775808<=n)(h1:n<=9223372036854775807)(w:World)(bU:Lib.TabIs Tryz.prog w "internal/strconv.uint64pow10" .u64 Lib.pow10Tab):
  Calls Tryz.prog 83 #[.int .i64 n] w λe w'=>e=.returned (.string ⟨(Lib.itoa n).toArray⟩)/\∃k os,w'=grow (w.drewN k) os:=Any.strconv_Itoa Abi n h0 h1 w bU
def mK:Go.Shelf.Ren:=⟨fun|173=>289|246=>191|283=>241|284=>242|285=>243|286=>244|129=>278|317=>277|318=>279|319=>280|320=>281|337=>302|338=>303|n=>n,fun|2=>2|3=>3|9=>9|4=>4|171=>248|0=>0|53=>249|37=>22|5=>5|173=>252|212=>284|51=>285|20=>20|213=>286|46=>278|232=>318|233=>319|n=>n,fun|17=>4|18=>8|19=>9|n=>n⟩
theorem Abh:Go.Proofs.LaysM.n173 Tryz.prog mK:={
 mixed:=by kernel_rfl
 f129:=Krx Tryz.func278
 f173:=Krx Tryz.func289
 f246:=Krx Tryz.func191
 f283:=Krx Tryz.func241
 f284:=Krx Tryz.func242
 f285:=Krx Tryz.func243
 f286:=Krx Tryz.func244
 f317:=Krx Tryz.func277
 f318:=Krx Tryz.func279
 f319:=Krx Tryz.func280
 f320:=Krx Tryz.func281
 f337:=Krx Tryz.func302
 f338:=Krx Tryz.func303
 t0:=Tryz.underlying0
 a0:=Tryz.isAgg0
 z0:=Tryz.sizeOf0
 v0:=Tryz.zeroValue0
 t2:=Tryz.underlying2
 a2:=Tryz.isAgg2
 z2:=Tryz.sizeOf2
 v2:=Tryz.zeroValue2
 t3:=Tryz.underlying3
 a3:=Tryz.isAgg3
 z3:=Tryz.sizeOf3
 v3:=Tryz.zeroValue3
 t4:=Tryz.underlying4
 a4:=Tryz.isAgg4
 z4:=Tryz.sizeOf4
 v4:=Tryz.zeroValue4
 t5:=Tryz.underlying5
 a5:=Tryz.isAgg5
 z5:=Tryz.sizeOf5
 v5:=Tryz.zeroValue5
 t9:=Tryz.underlying9
 a9:=Tryz.isAgg9
 z9:=Tryz.sizeOf9
 v9:=Tryz.zeroValue9
 t20:=Tryz.underlying20
 a20:=Tryz.isAgg20
 z20:=Tryz.sizeOf20
 v20:=Tryz.zeroValue20
 t37:=Tryz.underlying22
 a37:=Tryz.isAgg22
 z37:=Tryz.sizeOf22
 v37:=Tryz.zeroValue22
 t46:=Tryz.underlying278
 a46:=Tryz.isAgg278
 z46:=Tryz.sizeOf278
 v46:=Tryz.zeroValue278
 t51:=Tryz.underlying285
 a51:=Tryz.isAgg285
 z51:=Tryz.sizeOf285
 v51:=Tryz.zeroValue285
 t53:=Tryz.underlying249
 a53:=Tryz.isAgg249
 z53:=Tryz.sizeOf249
 v53:=Tryz.zeroValue249
 t171:=Tryz.underlying248
 a171:=Tryz.isAgg248
 z171:=Tryz.sizeOf248
 v171:=Tryz.zeroValue248
 t173:=Tryz.underlying252
 a173:=Tryz.isAgg252
 z173:=Tryz.sizeOf252
 v173:=Tryz.zeroValue252
 t212:=Tryz.underlying284
 a212:=Tryz.isAgg284
 z212:=Tryz.sizeOf284
 v212:=Tryz.zeroValue284
 t213:=Tryz.underlying286
 a213:=Tryz.isAgg286
 z213:=Tryz.sizeOf286
 t232:=Tryz.underlying318
 a232:=Tryz.isAgg318
 z232:=Tryz.sizeOf318
 v232:=Tryz.zeroValue318
 t233:=Tryz.underlying319
 a233:=Tryz.isAgg319
 z233:=Tryz.sizeOf319
 v233:=Tryz.zeroValue319
 g17:=by kernel_rfl
 g18:=by kernel_rfl
 g19:=by kernel_rfl
 i0:=by kernel_rfl
 i2:=by kernel_rfl
 i3:=by kernel_rfl
 i4:=by kernel_rfl
 i5:=by kernel_rfl
 i9:=by kernel_rfl
 i20:=by kernel_rfl
 i37:=by kernel_rfl
 i46:=by kernel_rfl
 i51:=by kernel_rfl
 i53:=by kernel_rfl
 i171:=by kernel_rfl
 i173:=by kernel_rfl
 i212:=by kernel_rfl
 i232:=by kernel_rfl
 i233:=by kernel_rfl
 m17:=by kernel_rfl
 m18:=by kernel_rfl
 m19:=by kernel_rfl }
theorem Jh(n:Int)(h0:-9223372036854775808<=n)(h1:n<=9223372036854775807)(w:World)(bU:Lib.TabIs Tryz.prog w "internal/strconv.uint64pow10" .u64 Lib.pow10Tab):
  Calls Tryz.prog 289 #[.int .i64 n,.int .i64 10] w λe w'=>e=.returned (.string ⟨(Lib.itoa n).toArray⟩)/\∃k os,w'=grow (w.drewN k) os:=Any.strconv_FormatInt_10 Abh n h0 h1 w bU
def nN:Go.Shelf.Ren:=⟨fun|219=>228|217=>273|225=>274|224=>275|267=>276|266=>300|314=>301|n=>n,fun|9=>9|3=>3|4=>4|5=>5|46=>278|146=>306|51=>285|n=>n,fun|1=>0|n=>n⟩
theorem Aet:Go.Proofs.Lays.n219 Tryz.prog nN:={
 mixed:=by kernel_rfl
 f217:=Krx Tryz.func273
 f219:=Krx Tryz.func228
 f224:=Krx Tryz.func275
 f225:=Krx Tryz.func274
 f266:=Krx Tryz.func300
 f267:=Krx Tryz.func276
 f314:=Krx Tryz.func301
 t3:=Tryz.underlying3
 a3:=Tryz.isAgg3
 z3:=Tryz.sizeOf3
 v3:=Tryz.zeroValue3
 t4:=Tryz.underlying4
 a4:=Tryz.isAgg4
 z4:=Tryz.sizeOf4
 v4:=Tryz.zeroValue4
 t5:=Tryz.underlying5
 a5:=Tryz.isAgg5
 z5:=Tryz.sizeOf5
 v5:=Tryz.zeroValue5
 t9:=Tryz.underlying9
 a9:=Tryz.isAgg9
 z9:=Tryz.sizeOf9
 v9:=Tryz.zeroValue9
 t46:=Tryz.underlying278
 a46:=Tryz.isAgg278
 z46:=Tryz.sizeOf278
 v46:=Tryz.zeroValue278
 t51:=Tryz.underlying285
 a51:=Tryz.isAgg285
 z51:=Tryz.sizeOf285
 v51:=Tryz.zeroValue285
 t146:=Tryz.underlying306
 a146:=Tryz.isAgg306
 z146:=Tryz.sizeOf306
 v146:=Tryz.zeroValue306
 g1:=by kernel_rfl }
theorem I5(s:ByteArray)(c:UInt8)(w:World):
  Calls Tryz.prog 228 #[.string s,.string ⟨#[c]⟩] w λe w'=>e=.returned (.int .i64 (Lib.indexByte s.data.toList c))/\w'=w:=Any.stringslite_Index_one Aet s c w
def nS:Go.Shelf.Ren:=⟨fun|144=>118|143=>168|219=>228|217=>273|225=>274|224=>275|267=>276|266=>300|314=>301|n=>n,fun|9=>9|4=>4|3=>3|5=>5|46=>278|146=>306|51=>285|n=>n,fun|1=>0|n=>n⟩
theorem Aex:Go.Proofs.Lays.n144 Tryz.prog nS:={
 mixed:=by kernel_rfl
 f143:=Krx Tryz.func168
 f144:=Krx Tryz.func118
 f217:=Krx Tryz.func273
 f219:=Krx Tryz.func228
 f224:=Krx Tryz.func275
 f225:=Krx Tryz.func274
 f266:=Krx Tryz.func300
 f267:=Krx Tryz.func276
 f314:=Krx Tryz.func301
 t3:=Tryz.underlying3
 a3:=Tryz.isAgg3
 z3:=Tryz.sizeOf3
 v3:=Tryz.zeroValue3
 t4:=Tryz.underlying4
 a4:=Tryz.isAgg4
 z4:=Tryz.sizeOf4
 v4:=Tryz.zeroValue4
 t5:=Tryz.underlying5
 a5:=Tryz.isAgg5
 z5:=Tryz.sizeOf5
 v5:=Tryz.zeroValue5
 t9:=Tryz.underlying9
 a9:=Tryz.isAgg9
 z9:=Tryz.sizeOf9
 v9:=Tryz.zeroValue9
 t46:=Tryz.underlying278
 a46:=Tryz.isAgg278
 z46:=Tryz.sizeOf278
 v46:=Tryz.zeroValue278
 t51:=Tryz.underlying285
 a51:=Tryz.isAgg285
 z51:=Tryz.sizeOf285
 v51:=Tryz.zeroValue285
 t146:=Tryz.underlying306
 a146:=Tryz.isAgg306
 z146:=Tryz.sizeOf306
 v146:=Tryz.zeroValue306
 g1:=by kernel_rfl }
theorem Jg(s:ByteArray)(c:UInt8)(w:World):
  Calls Tryz.prog 118 #[.string s,.string ⟨#[c]⟩] w λe w'=>e=.returned (.bool (decide (0<=Lib.indexByte s.data.toList c)))/\w'=w:=Any.strings_Contains_one Aex s c w
def mN:Go.Shelf.Ren:=⟨fun|15=>114|20=>158|n=>n,fun|9=>9|23=>154|3=>3|4=>4|0=>0|21=>21|n=>n,fun|n=>n⟩
theorem Abk:Go.Proofs.LaysGw.n15 Tryz.prog mN:={
 mixed:=by kernel_rfl
 f15:=Krx Tryz.func114
 f20:=Krx Tryz.func158
 t0:=Tryz.underlying0
 a0:=Tryz.isAgg0
 z0:=Tryz.sizeOf0
 v0:=Tryz.zeroValue0
 i0:=by kernel_rfl
 t3:=Tryz.underlying3
 a3:=Tryz.isAgg3
 z3:=Tryz.sizeOf3
 v3:=Tryz.zeroValue3
 i3:=by kernel_rfl
 t4:=Tryz.underlying4
 a4:=Tryz.isAgg4
 z4:=Tryz.sizeOf4
 v4:=Tryz.zeroValue4
 i4:=by kernel_rfl
 t9:=Tryz.underlying9
 a9:=Tryz.isAgg9
 z9:=Tryz.sizeOf9
 v9:=Tryz.zeroValue9
 i9:=by kernel_rfl
 t21:=Tryz.underlying21
 a21:=Tryz.isAgg21
 z21:=Tryz.sizeOf21
 v21:=Tryz.zeroValue21
 i21:=by kernel_rfl
 t23:=Tryz.underlying154
 a23:=Tryz.isAgg154
 z23:=Tryz.sizeOf154
 v23:=Tryz.zeroValue154
 i23:=by kernel_rfl }
def mM:Go.Shelf.Ren:=⟨fun|17=>170|15=>114|20=>158|n=>n,fun|9=>9|23=>154|4=>4|3=>3|0=>0|21=>21|n=>n,fun|n=>n⟩
theorem Abj:Go.Proofs.LaysGw.n17 Tryz.prog mM:={
 mixed:=by kernel_rfl
 f15:=Krx Tryz.func114
 f17:=Krx Tryz.func170
 f20:=Krx Tryz.func158
 t0:=Tryz.underlying0
 a0:=Tryz.isAgg0
 z0:=Tryz.sizeOf0
 v0:=Tryz.zeroValue0
 i0:=by kernel_rfl
 t3:=Tryz.underlying3
 a3:=Tryz.isAgg3
 z3:=Tryz.sizeOf3
 v3:=Tryz.zeroValue3
 i3:=by kernel_rfl
 t4:=Tryz.underlying4
 a4:=Tryz.isAgg4
 z4:=Tryz.sizeOf4
 v4:=Tryz.zeroValue4
 i4:=by kernel_rfl
 t9:=Tryz.underlying9
 a9:=Tryz.isAgg9
 z9:=Tryz.sizeOf9
 v9:=Tryz.zeroValue9
 i9:=by kernel_rfl
 t21:=Tryz.underlying21
 a21:=Tryz.isAgg21
 z21:=Tryz.sizeOf21
 v21:=Tryz.zeroValue21
 i21:=by kernel_rfl
 t23:=Tryz.underlying154
 a23:=Tryz.isAgg154
 z23:=Tryz.sizeOf154
 v23:=Tryz.zeroValue154
 i23:=by kernel_rfl }
def pB:Go.Shelf.Ren:=⟨fun|99=>252|206=>157|n=>n,fun|9=>9|4=>4|3=>3|n=>n,fun|n=>n⟩
theorem Aiy:Go.Proofs.Lays.n99 Tryz.prog pB:={
 mixed:=by kernel_rfl
 f99:=Krx Tryz.func252
 f206:=Krx Tryz.func157
 t3:=Tryz.underlying3
 a3:=Tryz.isAgg3
 z3:=Tryz.sizeOf3
 v3:=Tryz.zeroValue3
 t4:=Tryz.underlying4
 a4:=Tryz.isAgg4
 z4:=Tryz.sizeOf4
 v4:=Tryz.zeroValue4
 t9:=Tryz.underlying9
 a9:=Tryz.isAgg9
 z9:=Tryz.sizeOf9
 v9:=Tryz.zeroValue9 }
theorem Lk(s p:ByteArray)(w:World):
  Calls Tryz.prog 252 #[.string s,.string p] w λe w'=>e=.returned (.bool (Lib.hasPrefix s.data.toList p.data.toList))/\w'=w:=Any.strings_HasPrefix Aiy s p w
theorem Hy(g:Nat)(lb:Array Value)(eg:∀args w,(callFunc g args).run Tryz.prog w=.ok (.enter g args) w)(p:Nat->Bool)(s:ByteArray)(w:World)(hp:PredGrows Tryz.prog g lb p w):
  Calls Tryz.prog 114 #[.string s,.func (.func g) #[] lb] w λe w'=>e=.returned (.int .i64 (Lib.idxFunc p true s))/\Below w.heap.size w w':=Any.strings_IndexFunc_grows Abk g lb eg p s w hp
theorem Gu(g:Nat)(lb:Array Value)(eg:∀args w,(callFunc g args).run Tryz.prog w=.ok (.enter g args) w)(p:Nat->Bool)(s:ByteArray)(w:World)(hp:PredGrows Tryz.prog g lb p w):
  Calls Tryz.prog 170 #[.string s,.func (.func g) #[] lb] w λe w'=>e=.returned (.bool (decide (0<=Lib.idxFunc p true s)))/\Below w.heap.size w w':=Any.strings_ContainsFunc_grows Abj g lb eg p s w hp
def nP:Go.Shelf.Ren:=⟨fun|187=>53|255=>111|n=>n,fun|37=>22|5=>5|3=>3|n=>n,fun|n=>n⟩
theorem T0:Go.Proofs.Lays.n187 Tryz.prog nP:={
 mixed:=by kernel_rfl
 f187:=Krx Tryz.func53
 f255:=Krx Tryz.func111
 t3:=Tryz.underlying3
 a3:=Tryz.isAgg3
 z3:=Tryz.sizeOf3
 v3:=Tryz.zeroValue3
 t5:=Tryz.underlying5
 a5:=Tryz.isAgg5
 z5:=Tryz.sizeOf5
 v5:=Tryz.zeroValue5
 t37:=Tryz.underlying22
 a37:=Tryz.isAgg22
 z37:=Tryz.sizeOf22
 v37:=Tryz.zeroValue22 }
def iE:Go.Shelf.Ren:=⟨fun|10=>179|6=>233|n=>n,fun|22=>111|23=>9|25=>104|3=>3|4=>4|0=>0|n=>n,fun|n=>n⟩
theorem Og:Go.Proofs.SlLaysH.n10 Tryz.prog iE:={
 mixed:=by kernel_rfl
 f6:=⟨Tryz.f233.name,by decide,Krx Tryz.func233⟩
 f10:=⟨Tryz.f179.name,by decide,Krx Tryz.func179⟩
 t0:=Tryz.underlying0
 a0:=Tryz.isAgg0
 z0:=Tryz.sizeOf0
 v0:=Tryz.zeroValue0
 t3:=Tryz.underlying3
 a3:=Tryz.isAgg3
 z3:=Tryz.sizeOf3
 v3:=Tryz.zeroValue3
 t4:=Tryz.underlying4
 a4:=Tryz.isAgg4
 z4:=Tryz.sizeOf4
 v4:=Tryz.zeroValue4
 t22:=Tryz.underlying111
 a22:=Tryz.isAgg111
 z22:=Tryz.sizeOf111
 v22:=Tryz.zeroValue111
 a23:=Tryz.isAgg9
 z23:=Tryz.sizeOf9
 t25:=Tryz.underlying104
 a25:=Tryz.isAgg104
 z25:=Tryz.sizeOf104
 v25:=Tryz.zeroValue104 }
theorem Ln{α:Type}[Inhabited α](enc:α->Value)(hO:OneCell enc)(p:α->Bool)(g:Nat)(lb:Array Value)(eg:∀args w,(callFunc g args).run Tryz.prog w=.ok (.enter g args) w)(zr:α)(v23:∀w,(zeroValue 9).run Tryz.prog w=.ok (enc zr) w)(aF off cap:Nat)(d:Array α)(w:World)(hp:PredAt Tryz.prog g lb enc p w)(hpo:PredOver Tryz.prog g lb enc p aF off d.size w)(hH:Holds enc w aF off d)(bC:d.size<=9223372036854775807)(jG:d.size<=cap):
  Calls Tryz.prog 179 #[.slice (some ⟨aF,off,none⟩) d.size cap,.func (.func g) #[] lb] w λe w'=>e=.returned (.slice (some ⟨aF,off,none⟩) (d.toList.filter λx=>!p x).length cap)/\∃q,w'=putRow enc (Sort.ahead w q) aF off ((d.toList.filter λx=>!p x)++List.replicate (d.size-(d.toList.filter λx=>!p x).length) zr).toArray:=AnyE.slices_DeleteFunc Og enc hO p g lb eg zr v23 aF off cap d w hp hpo hH bC jG
theorem Kd(cv:Int)(w:World):
  Calls Tryz.prog 53 #[.slice none 0 0,.int .u8 cv] w λe w'=>e=.returned (.int .i64 (-1))/\w'=w:=Any.bytes_IndexByte_nil T0 cv w
open Go Go.Sx
set_option maxRecDepth 10000
set_option maxHeartbeats 2000000
theorem To(c:UInt8)(r:List UInt8):Oc (c :: r)=if (Oc r).isEmpty then (if iV c then [] else [c]) else c :: Oc r:=by
 unfold Oc;rw[List.reverse_cons,List.dropWhile_append,List.isEmpty_reverse]
 split
 .by_cases h:iV c=true
  .rw[QC h,YU h];rfl
  .rw[QA h,ZQ h];rfl
 .rw[List.reverse_append];rfl
theorem Aip(s:List UInt8):Oc (Kz s)=Kz (Oc s):=by
 induction s with
 |nil=>rfl
 |cons c r ih =>
  by_cases h:iV c=true
  .rw[Tp h,ih,To]
   split
   .rename_i he
    rw[List.isEmpty_iff.1 he]
   .rw[Tp h]
  .have e:Kz (c :: r)=c :: r:=by rw[Kz,ZQ h]
   rw[e,To]
   split
   .rw[Kz,ZQ h]
   .rw[Kz,ZQ h]
theorem Aod(c:UInt8):[32,9].contains c=iV c:=by
 have:∀n:Fin 256,[32,9].contains (UInt8.ofNat n.1)=Aoe (n.1:Int):=by decide
 have h:=this ⟨c.toNat,c.toNat_lt⟩;simp only[UInt8.ofNat_toNat]at h;exact h
theorem Tn(s:List UInt8):Lib.trimS s [32,9]=trimF s:=by
 rw[trimF,Aip];unfold Lib.trimS Lib.trimLeftS Lib.trimRightS Kz Oc;have e:(λx=>[32,9].contains x)=iV:=funext Aod;rw[e]
def zM:aB:=λ_ xs ls K=>∃(s c:List UInt8),xs=[.str s,.str c]/\ls=[]/\s.length<=9223372036854775807/\c.length<1000/\(c.all λb=>decide (b.toNat<128))=true/\∀r,r=Lib.trimS s c->K (.str r) []
theorem Jd:Ap Tryz.prog gl 116 zM:=by
 refine⟨⟨Tryz.f116,_,Tryz.func116,rfl,by kernel_rfl⟩,λxs ls K h=>?_⟩;obtain⟨s,c,rfl,rfl,hs,hc,ha,h⟩:=h;refine⟨_,_,h _ rfl,Bi λE B w aX _ _ _ hr=>?_⟩;obtain⟨v,u,rfl,hv,hu⟩:=D8 hr;rw[Cy hv,Cy hu];refine (Any.strings_Trim_laid Aev (by kernel_rfl) ⟨s.toArray⟩ ⟨c.toArray⟩ w (by simpa[ByteArray.size] using hs) (by simp[ByteArray.size];omega) (ascii_of_all (by simpa using ha))).mono ?_;rintro e w' ⟨rfl,hB⟩;exact⟨_,rfl,λE=>.ro (.str rfl),hB⟩
theorem iq:Ap Tryz.prog gl 232 (Alj trimF):=by
 refine Bq (gh:=[]) mixed Ck (Aa Jd Ae) Tryz.func232 (by kernel_rfl) (by kernel_rfl) ?_;intro xs ls K h;unfold Alj at h;obtain⟨s,rfl,rfl,hl,h⟩:=h;obtain⟨k,hk⟩:∃k,k=trimF s:=⟨_,rfl⟩;refine⟨_,_,h k hk,λD hD=>?_⟩;clear h;cbv;refine⟨s,[32,9],rfl,rfl,hl,by decide,by decide,λr hr=>?_⟩;cbv;exact AA (by rw[hr,hk,Tn])
open Go.Sx
def vW:aB:=λ_ xs ls K=>∃(s:List UInt8) (y:Int),xs=[.str s,.int .u8 (.a y)]/\ls=[]/\s.length<=100000/\∀(k:Option (List (List UInt8))) (l:List (List UInt8)) (n:Int) (b nb:Bool) (f:Nat->List SV),k=Nm y s->l=(k.getD []).map trimF->n=(l.length:Int)->b=k.isSome->nb=k.isNone->f=Fc l->K (.aI [.bV (.a nb) (.a n) 0,.bool (.a b)]) [.own 9 (.a n) 1 true f]
structure SpI(s:List UInt8)(out:List (List UInt8))(a i:Nat)(A I:Int)(m:Nat):Prop where
 at_:At s i I m
 DQ:a<=i
 A:ST.den (.a A)=(a:Int)
 out:out.length<=i
 s:s.length<=100000
def EZ(s:List UInt8)(y:Int)(k:Option (List (List UInt8)))(m:Nat)(vs:List (Option SV))(hp:List Hl):Prop :=
 ∃(i a:Nat) (I A n:Int) (nl:Bool) (f:Nat->List SV) (out:List (List UInt8)),vs=[some (.str s),some (.int .u8 (.a y)),some (.bV (.a nl) (.a n) 0),some (.int .i64 (.a A)),some (.int .i64 (.a I))]/\hp=[.own 9 (.a n) 1 true f]/\
  SpI s out a i A I m/\Dp f n (out.map trimF)/\k=qJ y s out a i
def r8:Option (Nat×List UInt8)->Int
 |none=>0
 |some x=>((1+x.1:Nat):Int)
variable {o:Option (Nat×List UInt8)}{s:List UInt8}{i:Nat}{D:Dn}{kl:List (List UInt8)}{kn:Int}{kb uC:Bool}{kr:Nat->List SV}{x:BT}{c:UInt8}
theorem Al9(h:(r8 o==0)=true):o=none:=by
 cases o with
 |none=>rfl
 |some x=>simp only[r8,QO]at h;omega
theorem Ama(h:(r8 o==0)=false):∃x,o=some x/\r8 o=((1+x.1:Nat):Int):=by
 cases o with
 |none=>simp[r8]at h
 |some x=>exact⟨x,rfl,rfl⟩
theorem Zk:Oo (s.drop i)=r8 (iX Ea (s.drop (i+1))):=by
 rw[Oo,tY,Al6,ZD,show i+(0+1)=i+1 by omega];cases iX Ea (s.drop (i+1)) with
 |none=>rfl
 |some x=>simp only[r8]
theorem Ahy(hD:D=dn){k:Option (List (List UInt8))}{g:Nat->List SV}(hk:k=none)(mW:kl=(k.getD []).map trimF)(kU:kn=(kl.length:Int))(lR:kb=k.isSome)(lQ:uC=k.isNone):
  Fin (.aI [.bV (.a (D.b (.l true))) (.a (D.i (.l 0))) 0,.bool (.a (D.b (.l false)))]) (.aI [.bV (.a uC) (.a kn) 0,.bool (.a kb)]) [.own 9 (.a (D.i (.l 0))) 1 true g] [.own 9 (.a kn) 1 true kr]:=by
 subst hD hk;have e:kn=0:=by rw[kU,mW];rfl
 refine SD (.aI (.cons (X9 (by rw[lQ];rfl) (by rw[e];rfl)) (.cons (Dh (by rw[lR];rfl)) .nil))) (by rw[e];rfl) λi hi=>?_;have hi:(i:Int)<0:=hi;omega
theorem om(hD:D=dn){k:Option (List (List UInt8))}{l:List (List UInt8)}{f:Nat->List SV}(hk:k=some l)(mW:kl=(k.getD []).map trimF)(kU:kn=(kl.length:Int))(lR:kb=k.isSome)(lQ:uC=k.isNone)(xA:kr=Fc kl)
  {n:Int} (R:Dp f n (l.map trimF))  {y:ST} (hy:y.den=n) (hx:x.den=false):Fin (.aI [.bV (.a (D.b x)) (.a (D.i y)) 0,.bool (.a (D.b (.l true)))]) (.aI [.bV (.a uC) (.a kn) 0,.bool (.a kb)]) [.own 9 (.a (D.i y)) 1 true f] [.own 9 (.a kn) 1 true kr]:=by
 subst hD hk;have mW:kl=l.map trimF:=mW;have e:dn.i y=kn:=by show y.den=_;rw[hy,R.n,kU,mW]
 refine SD (.aI (.cons (X9 ?_ e) (.cons (Dh (by rw[lR];rfl)) .nil))) e λi hi=>?_
 .rw[lQ];exact hx
 .have hi:(i:Int)<dn.i y:=hi
  rw[R.f i (by rw[e,kU,mW]at hi;omega),xA,mW];rfl
theorem Ali:Ap Tryz.prog gl 178 vW:=by
 refine Bq (gh:=[(1,[.own 6 9]),(9,[.own 4 9]),(12,[.own 4 9])]) mixed Ck (Aa Zy (Aa Ai9 (Aa iq Ae))) Tryz.func178 (by kernel_rfl) (by kernel_rfl) ?_;intro xs ls K h;unfold vW at h;obtain⟨s,y,rfl,rfl,hl,h⟩:=h;obtain⟨k,hk⟩:∃k,k=Nm y s:=⟨_,rfl⟩;obtain⟨kl,mW⟩:∃kl,kl=(k.getD []).map trimF:=⟨_,rfl⟩;obtain⟨kn,kU⟩:∃kn:Int,kn=(kl.length:Int):=⟨_,rfl⟩;obtain⟨kb,lR⟩:∃kb,kb=k.isSome:=⟨_,rfl⟩;obtain⟨uC,lQ⟩:∃uC,uC=k.isNone:=⟨_,rfl⟩;obtain⟨kr,xA⟩:∃kr,kr=Fc kl:=⟨_,rfl⟩;refine⟨_,_,h k kl kn kb uC kr hk mW kU lR lQ xA,λD hD=>?_⟩;clear h;have hk:k=qJ y s [] 0 0:=by
  rw[hk,Nm,qJ,Adr];simp
 cbv;obtain⟨J,hJ⟩:∃J,J=EZ s y k:=⟨_,rfl⟩;refine⟨[0,1,6,7,8],J,⟨rfl,s.length,?_⟩,?_⟩
 .rw[hJ]
  subst hD;exact⟨0,0,_,_,_,_,_,[],rfl,rfl,⟨At.zero (by omega),by omega,rfl,by simp,hl⟩,Dp.nil,hk⟩
 clear hk;intro m vs mA hv;rw[hJ]at hv;unfold EZ at hv;obtain⟨i,a,I,A,n,nl,f,out,rfl,rfl,V,R,hk⟩:=hv;cbv;refine br hD (λh=>?_) (λh=>?_)<;>cbv
 .have aC:=V.at_.lt (QT (p:=I<(s.length:Int)) h)
  clear h;refine⟨V.at_.TS hD aC,λc hc=>?_⟩;have gC:=N0 hD V.at_.den hc;clear hc;cbv;refine br hD (λh=>?_) (λh=>?_)<;>cbv
  .have oX:aG s i=34:=by rw[<-gC.aG];have h:(c==34)=true:=h;simpa using h
   clear h;rw[Ajc aC V.DQ (by rw[oX];decide) oX]at hk;refine⟨by subst hD;exact Od (s:=s) (j:=s.length) (b:=.len s) V.at_.den rfl (by omega) (QK _),λr1 bP=>?_⟩;have pD:r1=s.drop i:=by
    have:=Ts (j:=s.length) (b:=.len s) hD V.at_.den rfl bP;rw[this];exact XJ (by simp)
   clear bP;cbv;refine⟨_,rfl,rfl,by have:=V.s;rw[pD,QX];omega,λq hq=>?_⟩;have dC:q=r8 (iX Ea (s.drop (i+1))):=by subst hD;rw[hq,pD];exact Zk
   clear hq;cbv;refine br hD (λh=>?_) (λh=>?_)<;>cbv
   .have h:(q==0)=true:=h
    rw[dC]at h;rw[Al9 h]at hk;exact Ahy hD hk mW kU lR lQ
   .have h:(q==0)=false:=h
    rw[dC]at h;obtain⟨x,hx,hqx⟩:=Ama h;rw[hx]at hk;simp only at hk;have hlen:=Zl _ _ x (QK _) hx;rw[QX]at hlen;have pE:ST.den (.bin .add .i64 (.a I) (.a q))=((i+1+x.1:Nat):Int):=by
     have h1:=V.at_.I;have h2:=V.s;show IntKind.i64.wrap (I+q)=_;rw[dC,hqx,wrap64 (by omega) (by omega)];omega
    clear h;refine⟨s.length-(i+1+x.1),by have:=V.at_.m;omega,?_⟩;rw[hJ];subst hD;refine⟨i+1+x.1,a,_,_,_,_,f,out,rfl,rfl,⟨⟨by omega,pE,rfl,V.at_.len⟩,by have:=V.DQ;omega,V.A,by have:=V.out;omega,V.s⟩,R,hk⟩
  have oX:aG s i≠34:=by rw[<-gC.aG];have h:(c==34)=false:=h;simpa using h
  clear h;refine⟨_,rfl,rfl,by subst hD;exact gC.le,λr hr=>?_⟩;have bZ:r=Eu c:=by subst hD;exact hr
  clear hr;have eC:Ea (aG s i)=!(Eu c==0):=by rw[gC.aG];unfold aG;rw[<-Ty,K1]
  rw[<-bZ]at eC;cbv;refine br hD (λh=>?_) (λh=>?_)<;>cbv
  .have h:(r==0)=true:=h
   rw[j9 aC (by rw[eC,h];rfl)]at hk;exact Ahy hD hk mW kU lR lQ
  have hp:Ea (aG s i)=true:=by have h:(r==0)=false:=h;rw[eC,h];rfl
  clear h;refine br hD (λh=>?_) (λh=>?_)<;>cbv
  .have hy:aG s i=y:=by rw[<-gC.aG];have h:(c==y)=true:=h;simpa using h
   clear h;rw[j7 aC hp oX hy]at hk;refine⟨by subst hD;exact Od V.A V.at_.den V.DQ (by omega),λr1 bP=>?_⟩;have pD:r1=cut s a i:=Ts hD V.A V.at_.den bP;clear bP;cbv;refine⟨_,rfl,rfl,by have:=V.s;rw[pD,cut,QW,QX];omega,λt ht=>?_⟩;have lZ:t=trimF (cut s a i):=by rw[ht,pD]
   clear ht;cbv;intro g hg;have oE:g 0=[.str t]:=hg.h 0 _ rfl;clear hg;cbv;refine⟨?_,λf' n' dA=>?_⟩
   .have:=V.out;have:=V.s;have h:=R.n;rw[XW]at h;subst hD;exact⟨rfl,by show (n+1) * 16<=_;omega,by show n+1<=_;omega⟩
   have R':Dp f' n' ((out++[cut s a i]).map trimF):=by
    subst hD;rw[List.map_append,List.map_singleton];exact R.more (by rw[oE,lZ]) dA (by have:=V.out;have:=V.s;rw[XW];omega)
   clear dA oE;cbv;refine⟨s.length-(i+1),(V.at_.step hD aC).1,?_⟩;rw[hJ];subst hD;exact⟨i+1,i+1,_,_,_,_,f',_,rfl,rfl,⟨(V.at_.step rfl aC).2,QK _,(V.at_.step rfl aC).2.I,by have:=V.out;simp;omega,V.s⟩,R',hk⟩
  .have hy:aG s i≠y:=by rw[<-gC.aG];have h:(c==y)=false:=h;simpa using h
   clear h;rw[Amf aC V.DQ hp oX hy]at hk;refine⟨s.length-(i+1),(V.at_.step hD aC).1,?_⟩;rw[hJ];subst hD;exact⟨i+1,a,_,_,_,_,f,out,rfl,rfl,⟨(V.at_.step rfl aC).2,by have:=V.DQ;omega,V.A,by have:=V.out;omega,V.s⟩,R,hk⟩
 .have hi:=V.at_.eq (XA (p:=I<(s.length:Int)) h)
  clear h;rw[j8 hi]at hk;refine⟨by subst hD;exact Od (s:=s) (j:=s.length) (b:=.len s) V.A rfl (by have:=V.DQ;omega) (QK _),λr1 bP=>?_⟩;have pD:r1=s.drop a:=by
   have:=Ts (j:=s.length) (b:=.len s) hD V.A rfl bP;rw[this];exact XJ (by simp)
  clear bP;cbv;refine⟨_,rfl,rfl,by have:=V.s;rw[pD,QX];omega,λt ht=>?_⟩;have lZ:t=trimF (s.drop a):=by rw[ht,pD]
  clear ht;cbv;intro g hg;have oE:g 0=[.str t]:=hg.h 0 _ rfl;clear hg;cbv;refine⟨?_,λf' n' dA=>?_⟩
  .have:=V.out;have:=V.s;have h:=R.n;rw[XW]at h;subst hD;exact⟨rfl,by show (n+1) * 16<=_;omega,by show n+1<=_;omega⟩
  have R':Dp f' n' ((out++[s.drop a]).map trimF):=by
   subst hD;rw[List.map_append,List.map_singleton];exact R.more (by rw[oE,lZ]) dA (by have:=V.out;have:=V.s;rw[XW];omega)
  clear dA oE;cbv;exact om hD hk mW kU lR lQ xA R' rfl (by show (nl&&false)=false;simp)
open Go Go.RowKit Go.Sx Go.Sort
set_option maxRecDepth 100000
def Qv(x:ByteArray):Bool:=x.toList.isEmpty
theorem Adp(x:ByteArray)(w:World):Calls Tryz.prog 180 #[.string x] w λe w'=>e=.returned (.bool (Qv x))/\∃q,w'=w.drewN q:=by
 go_enter Tryz.func180,Tryz.ntmps51
 go_wp2
 go_ret
 exact⟨rfl,0,rfl⟩
theorem Aaj(x:List UInt8):(!Qv (Sx.bytes x))=gd x:=by
 unfold Qv gd Sx.bytes;rw[Lib.toList_data];cases x<;>rfl
theorem Aag(l:List (List UInt8)):(l.map Sx.bytes).filter (λx=>!Qv x)=(l.filter gd).map Sx.bytes:=by
 rw[List.filter_map];congr 1;refine List.filter_congr λx _=>Aaj x
theorem Aoj:∀args w,(callFunc 180 args).run Tryz.prog w=.ok (.enter 180 args) w:=enters_of Tryz.func180 (by kernel_rfl) rfl
theorem Rg{α:Type}[Inhabited α](enc:α->Value)(w:World)(aF off:Nat)(d:Array α)(k:Nat):(putRow enc w aF off d).heap[k]?=if aF=k then (w.heap[k]?).map (onCells (putCells enc off d)) else w.heap[k]?:=by
 unfold putRow mapBlock;simp only[YM]
theorem AP{w:World}{q b:Nat}{cur:Array Value}{fr:Nat×Nat}{t:TypeId}(hg:w.heap[b]?=some (.cells cur t fr))(N:Array ByteArray)(hi:i<N.size)(hc:N.size<=cur.size):(putRow Value.string (Go.Sort.ahead w q) b 0 N).cell? ⟨b,i,none⟩=some (.string N[i]!):=by
 have h1:(putRow Value.string (Go.Sort.ahead w q) b 0 N).heap[b]?=some (.cells (putCells Value.string 0 N cur) t fr):=by
  rw[Rg,QC rfl];have:(Go.Sort.ahead w q).heap[b]?=w.heap[b]?:=rfl;rw[this,hg];rfl
 rw[cell_of_row _ b _ _ _ _ h1];simp only[putCells,Array.getElem?_mapIdx];rw[ZR (by omega),QQ,QC ⟨XX _,by omega⟩];rfl
def FB:aB:=λ_ xs ls K=>∃(l:List (List UInt8)) (nb:Bool) (n:Int) (f:Nat->List SV),xs=[.bV (.a nb) (.a n) 0,.fn 180]/\ls=[.own 9 (.a n) 1 true f]/\Dp f n l/\0<l.length/\∀l' n',l'=l.filter gd->n'=(l'.length:Int)->K (.sl (.a false) (.a n') 1 (Fc l')) [.gone]
theorem Aki:Ap Tryz.prog gl 179 FB:=by
 refine⟨⟨Tryz.f179,_,Tryz.func179,rfl,by kernel_rfl⟩,λxs ls K h=>?_⟩;obtain⟨l,nb,n,f,rfl,rfl,R,h0,h⟩:=h;refine⟨_,_,h _ _ rfl rfl,?_⟩;intro B E w aX oA KC dT hb hg hh hr;obtain⟨v,m,xs,k1,kz,k2,k3,k4,k5,k6⟩:=hh 0;have k3':n=(m:Int):=k3;have hm:m=l.length:=by have:=R.n;omega
 obtain⟨u,g,rfl,hu,zc⟩:=D8 hr;obtain⟨huv,eQ⟩:=Gs hu k1 k2 k3 rfl;subst huv;obtain rfl:g=.func (.func 180) #[] #[]:=by
  cases zc with
  |ro h=>cases h with
   |fn h=>exact h
 rcases k2.2 with⟨e0,e1⟩|⟨b,cap,cur,fr,e0,gU,cI,tL,fI,cY,bW⟩
 .omega
 subst e0;obtain rfl:fr=(0,0):=by
  rcases cI with h|⟨h,_⟩
  .exact h
  .cases h
 have mQ:xs.length=l.length:=by rw[k2.1,hm];simp
 have nZ:xs=l.map λx=>Value.string (Sx.bytes x):=by
  refine List.ext_getElem (by rw[mQ];simp) λi h1 h2=>?_;have hi:i<l.length:=by omega
  have:=k5.2 i 0 (.str (l.getD i [])) xs[i] (by omega) (by rw[R.f i hi];rfl) (by simp[QB h1]);cases this with
  |str h =>
   rw[h,List.getElem_map,QD,QB hi];rfl
 obtain⟨hO,hnI⟩:=k6 b rfl;have aC:b<w.heap.size:=(hb.cS b 0 hO).1;obtain⟨d,hd⟩:∃d,d=(l.map Sx.bytes).toArray:=⟨_,rfl⟩;have uX:d.size=m:=by rw[hd,hm];simp
 have eh:d.toList=l.map Sx.bytes:=by rw[hd]
 have hH:Holds Value.string w b 0 d:=by
  intro j hj;have hj':j<l.length:=by omega
  refine⟨?_,Lib.frozen_of_heap gU _⟩;rw[cell_of_row w b _ cur _ _ gU,XF];have h1:cur.toList[j]?=some (Value.string (Sx.bytes l[j])):=by
   have:(cur.toList.take (m * 1))[j]?=xs[j]?:=by rw[bW]
   rw[QN,QC (by omega),nZ]at this;rw[this];simp[QB hj']
  rw[<-QZ,h1,getElem!_pos d j hj];simp[hd]
 have hF:(d.toList.filter λx=>!Qv x)=(l.filter gd).map Sx.bytes:=by rw[eh];exact Aag l
 have run:=Ln Value.string (λ_=>rfl) Qv 180 #[] Aoj ⟨#[]⟩ Tryz.zeroValue9 b 0 cap d w (λW x _=>by simpa[FnGives] using Adp x W) (λq os dk x _=>by simpa[FnGives] using Adp x _) hH (by have:=R.len;omega) (by omega);rw[hF,uX]at run;refine run.mono ?_;clear run;rintro e w' ⟨rfl,q,rfl⟩;obtain⟨l',mV⟩:∃l',l'=l.filter gd:=⟨_,rfl⟩;rw[<-mV];have hle:l'.length<=l.length:=by rw[mV];exact YV _ _
 obtain⟨N,hN⟩:∃N,N=(l'.map Sx.bytes++List.replicate (m-(l'.map Sx.bytes).length) (⟨#[]⟩:ByteArray)).toArray:=⟨_,rfl⟩;rw[<-hN];have hNs:N.size=m:=by rw[hN];simp;omega
 have hNi:∀i,i<l'.length->N[i]! = Sx.bytes (l'.getD i []):=by
  intro i hi;rw[getElem!_pos N i (by omega),QD,QB hi];simp only[hN,List.getElem_toArray];rw[List.getElem_append_left (by simpa using hi)];simp
 have aP:∀i,i<l'.length->(putRow Value.string (Go.Sort.ahead w q) b 0 N).cell? ⟨b,i,none⟩=some (.string (Sx.bytes (l'.getD i []))):=by
  intro i hi;rw[AP gU N (by omega) (by omega),hNi i hi]
 have pZ:∀k,k≠b->(putRow Value.string (Go.Sort.ahead w q) b 0 N).heap[k]?=w.heap[k]?:=λk hk=>by rw[Rg,QA (λe=>hk e.symm)];rfl
 have gC:∀b2 o,b2≠b->(putRow Value.string (Go.Sort.ahead w q) b 0 N).cell? ⟨b2,o,none⟩=w.cell? ⟨b2,o,none⟩:=λb2 o gH=>by simp only[World.cell?];rw[pZ b2 gH]
 have bC:(putRow Value.string (Go.Sort.ahead w q) b 0 N).heap.size=w.heap.size:=by simp[putRow,mapBlock,Go.Sort.ahead]
 have hX:=(hb.cS b 0 hO).2
 let E':Env:=⟨E.β,E.τ,E.O,E.κ,E.ζ,λb2 o=>E.I b2 o\/(b2=b/\o<l'.length)⟩
 refine⟨_,E',rfl,⟨hb.os,hb.tape,hb.output,by rw[bC];exact hb.size,λb2 eS kS=>?_,λb2 o hi=>?_,λb2 o hi=>?_,λb2 o hi=>?_,λb2 j yJ=>?_,⟨hb.cO.β,hb.cO.τ,hb.cO.ζ⟩⟩,λk hk=>?_,?_⟩
 .rw[pZ b2 (λe=>?_)]
  .exact hb.dY b2 eS kS
  .subst e
   rcases hX with h|h
   .omega
   .exact kS h
 .obtain⟨i1,i2⟩:=hb.I0 b2 o hi
  refine⟨.inl i1,?_⟩;rw[gC b2 o (λe=>hnI o (by rw[<-e];exact i1))];exact i2
 .rw[bC]
  rcases hi with hi|⟨rfl,_⟩
  .exact hb.dP b2 o hi
  .exact aC
 .rcases hi with hi|⟨rfl,_⟩
  .exact hb.cE b2 o hi
  .exact .inr hX
 .rw[bC];exact hb.cS b2 j yJ
 .obtain rfl:k=0:=by simpa using hk
  trivial
 .refine .ro (.sl (λi j=>.string (Sx.bytes (l'.getD i []))) rfl ?_ ?_ fI (λ_=>rfl) (λi hi=>rfl) (λi j hi hj=>rfl) (λi j hi hj=>?_) (λi j s hi hs=>?_))
  .show (l'.length:Int)=_
   simp
  .simp;omega
  .obtain rfl:j=0:=by omega
   have hi:i<l'.length:=by simpa using hi
   refine⟨?_,.inr ⟨rfl,by simpa using hi⟩⟩;simpa using aP i hi
  .match j,hs with
   |0,hs =>
    have hs:some (SV.str (l'.getD i []))=some s:=hs;cases hs;exact .str rfl
   |j+1,hs=>simp[Fc]at hs
set_option maxRecDepth 10000
def Adl(s:List UInt8):Bool:=(A5 s).2 != 0
theorem Se:Ap Tryz.prog gl 127 (Agy A5 Adl):=by
 refine Bq (gh:=[]) mixed Ck (Aa Ali (Aa Aki Ae)) Tryz.func127 (by kernel_rfl) (by kernel_rfl) ?_;intro xs ls K h;unfold Agy at h;obtain⟨s,rfl,rfl,hl,h⟩:=h;obtain⟨k,hk⟩:∃k,k=A5 s:=⟨_,rfl⟩;obtain⟨kl,ke⟩:=k;obtain⟨kn,kU⟩:∃kn:Int,kn=(kl.length:Int):=⟨_,rfl⟩;obtain⟨uC,lQ⟩:∃uC:Bool,uC=(ke != 0):=⟨_,rfl⟩;refine⟨_,_,h kl ke kn uC hk kU (by rw[lQ,Adl,<-hk]),λD hD=>?_⟩;clear h;obtain⟨kr,xA⟩:∃kr,kr=Fc kl:=⟨_,rfl⟩;rw[<-xA];rw[A5]at hk;cbv;refine br hD (λh=>?_) (λh=>?_)<;>cbv
 .have h:decide (2000<(s.length:Int))=true:=h
  rw[QC (by simpa using h)]at hk;exact Anp (f:=λ_=>[]) hD hk kU xA Dp.nil rfl (by simp only[Prod.mk.injEq]at hk;rw[lQ,hk.2];rfl) rfl
 have h:decide (2000<(s.length:Int))=false:=h;have h2:¬(2000<(s.length:Int)):=by simpa using h
 rw[QA h2]at hk;have hs:s.length<=2000:=by omega
 clear h h2;refine⟨s,_,rfl,rfl,by omega,λk l n b nb f wZ mV hn hb iK hf=>?_⟩;have hp:k=Nm 44 s:=by subst hD;exact wZ
 clear wZ;rw[<-hp]at hk;cbv;refine br hD (λh=>?_) (λh=>?_)<;>cbv
 .have h:(!b)=true:=h
  have oR:k=none:=by
   cases k with
   |none=>rfl
   |some l=>rw[hb]at h;cases h
  rw[oR]at hk;exact Anp (f:=λ_=>[]) hD hk kU xA Dp.nil rfl (by simp only[Prod.mk.injEq]at hk;rw[lQ,hk.2];rfl) rfl
 have h:(!b)=false:=h;obtain⟨l0,rfl⟩:∃l,k=some l:=by
  cases k with
  |none=>rw[hb]at h;cases h
  |some l=>exact⟨l,rfl⟩
 clear h;obtain⟨h1,h2,h3⟩:=Ug hp.symm;simp only[XD]at mV;have mD:l.length=l0.length:=by rw[mV,XW]
 have RL:Dp f n l:=by rw[hf,hn];exact Dp.row (by omega)
 have aa5:l.filter gd=Rw l0:=by rw[mV,Rw]
 have aY:l.filter gd=kl/\ke=0:=by simp only[Prod.mk.injEq]at hk;rw[aa5];exact⟨hk.1.symm,hk.2⟩
 refine⟨l,_,_,f,rfl,rfl,by subst hD;exact RL,by omega,λl2 n2 iU iT=>?_⟩;have hl3:l2=kl:=by rw[iU,aY.1]
 have R2:Dp (Fc l2) n2 l2:=by
  rw[iT];refine Dp.row ?_;have:(l.filter gd).length<=l.length:=YV _ _;rw[iU];omega
 obtain⟨g,hg⟩:∃g,g=Fc l2:=⟨_,rfl⟩;rw[<-hg]at R2 ⊢;cbv;exact Anp (f:=g) (l':=l2) (e':=0) hD (by rw[hl3,aY.2]) kU xA R2 rfl (by rw[lQ,aY.2];rfl) rfl
def Bh(c:UInt8):List UInt8->List UInt8×List UInt8×Bool
 | []=>([],[],false)
 |b :: r=>if b==c then ([],r,true) else (b :: (Bh c r).1,(Bh c r).2)
theorem Tf(h:(Bh c s).2.2=false):(Bh c s).1=s/\(Bh c s).2.1=[]/\Lib.indexByte s c=-1:=by
 induction s with
 |nil=>exact⟨rfl,rfl,rfl⟩
 |cons b r ih =>
  simp only[Bh]at h ⊢
  split at h
  .cases h
  .rename_i hb
   obtain⟨h1,h2,h3⟩:=ih h;rw[QA hb];refine⟨by rw[h1],h2,?_⟩;rw[Lib.indexByte,QA hb,h3];rfl
theorem Ma(h:(Bh c s).2.2=true):Lib.indexByte s c=((Bh c s).1.length:Int)/\(Bh c s).1=s.take (Bh c s).1.length/\(Bh c s).2.1=s.drop ((Bh c s).1.length+1)/\(Bh c s).1.length<s.length:=by
 induction s with
 |nil=>cases h
 |cons b r ih =>
  simp only[Bh]at h ⊢
  by_cases hb:(b==c)=true
  .simp only[QC hb]
   rw[Lib.indexByte,QC hb];simp
  .rw[QA hb]at h ⊢
   obtain⟨h1,h2,h3,h4⟩:=ih h;rw[Lib.indexByte,QA hb,h1];refine⟨?_,?_,?_,by simp;omega⟩
   .rw[QA (by simp)];simp
   .simp only[QH,YE];rw[<-h2]
   .simp only[QH,UR];exact h3
def vz:aB:=λ_ xs ls K=>∃(s:List UInt8) (c:UInt8),xs=[.str s,.str [c]]/\ls=[]/\∀r:Int,r=Lib.indexByte s c->K (.int .i64 (.a r)) []
theorem Aj1:Ap Tryz.prog gl 228 vz:=by
 refine⟨⟨Tryz.f228,_,Tryz.func228,rfl,by kernel_rfl⟩,λxs ls K h=>?_⟩;obtain⟨s,c,rfl,rfl,h⟩:=h;refine⟨_,_,h _ rfl,Bi λE B w aX _ _ _ hr=>?_⟩;obtain⟨v,u,rfl,hv,hu⟩:=D8 hr;rw[Cy hv,Cy hu];refine (I5 ⟨s.toArray⟩ c w).mono ?_;rintro e w' ⟨rfl,rfl⟩;exact⟨_,rfl,λE=>.ro (.int rfl),RowKit.Below.refl _ _⟩
def wR:aB:=λ_ xs ls K=>∃(s:List UInt8) (c:UInt8),xs=[.str s,.str [c]]/\ls=[]/\s.length<=100000/\∀a b t,(a,b,t)=Bh c s->K (.aI [.str a,.str b,.bool (.a t)]) []
theorem Af3(hD:D=dn){a b a' b':List UInt8}{t:Bool}(h:(a,b,t)=(a',b',x.den)):Fin (.aI [.str a',.str b',.bool (.a (D.b x))]) (.aI [.str a,.str b,.bool (.a t)]) [] []:=by
 subst hD;simp only[Prod.mk.injEq]at h;obtain⟨rfl,rfl,rfl⟩:=h;exact Cm (aM.refl _)
theorem An7:Ap Tryz.prog gl 169 wR:=by
 refine Bq (gh:=[]) mixed Ck (Aa Aj1 Ae) Tryz.func169 (by kernel_rfl) (by kernel_rfl) ?_;intro xs ls K h;unfold wR at h;obtain⟨s,c,rfl,rfl,hl,h⟩:=h;obtain⟨k,hk⟩:∃k,k=Bh c s:=⟨_,rfl⟩;obtain⟨ka,kb,kt⟩:=k;refine⟨_,_,h ka kb kt hk,λD hD=>?_⟩;clear h;cbv;refine⟨s,c,rfl,rfl,λr hr=>?_⟩;cbv;refine br hD (λh=>?_) (λh=>?_)<;>cbv
 .have h0:0<=r:=QT (p:=0<=r) h
  have hy:(Bh c s).2.2=true:=by
   cases hb:(Bh c s).2.2 with
   |true=>rfl
   |false=>rw[(Tf hb).2.2]at hr;omega
  obtain⟨y1,y2,y3,y4⟩:=Ma hy;rw[<-hk]at y1 y2 y3 y4 hy;simp only at y1 y2 y3 y4 hy;rw[<-hr]at y1;have jE:(ka,kb,kt)=(ka,kb,true):=by rw[hy]
  clear hk hy h h0 hr;have yr:ST.den (.a r)=((ka.length:Nat):Int):=y1;have yr2:ST.den (.bin .add .i64 (.a r) (.len [c]))=((ka.length+1:Nat):Int):=by
   show IntKind.i64.wrap (r+(([c]:List UInt8).length:Int))=_;rw[y1,List.length_singleton,wrap64 (by omega) (by omega)];omega
  refine⟨by subst hD;exact Od (s:=s) (i:=0) (a:=.l 0) rfl yr (by omega) (by omega),λr1 bP=>?_⟩;have pD:r1=ka:=by
   have:=Ts (i:=0) (a:=.l 0) hD rfl yr bP;rw[this];exact y2.symm
  clear bP;cbv;refine⟨by subst hD;exact Od (s:=s) (j:=s.length) (b:=.len s) yr2 rfl (by omega) (QK _),λr2 bZ=>?_⟩;have WD:r2=kb:=by
   have:=Ts (j:=s.length) (b:=.len s) hD yr2 rfl bZ;rw[this,y3];exact XJ (by simp)
  clear bZ;cbv;refine Af3 (x:=.l true) hD ?_;rw[jE,pD,WD];rfl
 .have h0:¬0<=r:=XA (p:=0<=r) h
  have hy:(Bh c s).2.2=false:=by
   cases hb:(Bh c s).2.2 with
   |false=>rfl
   |true=>rw[(Ma hb).1]at hr;omega
  obtain⟨y1,y2,y3⟩:=Tf hy;refine Af3 (x:=.l false) hD ?_;rw[hk];exact YJ y1 (YJ y2 hy)
theorem AS:Ap Tryz.prog gl 119 wR:=by
 refine Bq (gh:=[]) mixed Ck (Aa An7 Ae) Tryz.func119 (by kernel_rfl) (by kernel_rfl) ?_;intro xs ls K h;unfold wR at h;obtain⟨s,c,rfl,rfl,hl,h⟩:=h;obtain⟨k,hk⟩:∃k,k=Bh c s:=⟨_,rfl⟩;obtain⟨ka,kb,kt⟩:=k;refine⟨_,_,h ka kb kt hk,λD hD=>?_⟩;clear h;cbv;refine⟨s,c,rfl,rfl,hl,λa b t he=>?_⟩;cbv;exact Af3 hD (by rw[hk,<-he];rfl)
set_option maxRecDepth 100000
set_option maxHeartbeats 8000000
def Dz(c:Nat):Int :=
 if (48<=c/\c<=57)\/(65<=c/\c<=90)\/(97<=c/\c<=122)\/c=45\/c=46\/c=95\/c=126 then 1
 else if c=33\/c=36\/(38<=c/\c<=44)\/c=47\/c=58\/c=59\/c=61\/c=64 then 2 else 0
def dV:List SV:=(List.range 256).map λc=>.int .u8 (.a (Dz c))
def vw:aB:=λ_ xs ls K=>∃(s:List UInt8) (c:Int),xs=[.str s,.int .u8 (.a c)]/\ls=[]/\(0<=c/\c<=255)/\∀r,r=Lib.indexByte s (UInt8.ofNat c.toNat)->K (.int .i64 (.a r)) []
end Go.Proofs.YtdoogdbjiijifaaGreatDoor
