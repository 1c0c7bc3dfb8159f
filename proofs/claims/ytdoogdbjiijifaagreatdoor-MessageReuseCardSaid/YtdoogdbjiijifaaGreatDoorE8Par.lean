/- A part of the proof: contracts of functions, or the executor and its soundness. No conditions. -/
import Derived.Shelf.Strconv.ErrVarParseInt
import Derived.Shelf.Strconv.ParseIntPublic10
import Derived.Shelf.Strings.SlTrimAscii
import Derived.Shelf.Strings.Builder1
import Derived.Shelf.Strings.Builder2
import Derived.Shelf.Strings.OnBuilder
import Derived.Shelf.Strings.Trim
import Derived.Shelf.Small.Utf8
import Derived.Shelf.Small.Strs
import Derived.Shelf.Small.Wraps
import Derived.Shelf.Strings.BuilderF
import Derived.Shelf.Strings.BuilderK
import Derived.Shelf.Strings.BuilderRune
import Derived.Shelf.Strings.Builder2Cap
import Derived.Shelf.Strconv.Atoi
import Derived.Shelf.Strconv.Itoa0
import Derived.Shelf.Strconv.Itoa1
import Derived.Shelf.LaysM
import Derived.Shelf.Strconv.Itoa2
import Derived.Shelf.Strconv.Itoa3
import Derived.Shelf.Strconv.Itoa4
import Derived.Shelf.Strconv.ParseIntEmpty
import Derived.Shelf.Strconv.Clone
import Derived.Shelf.Strconv.SyntaxError
import Derived.Shelf.LaysC
import Derived.Shelf.Strconv.ToError
import Derived.Shelf.Strconv.Lower
import Derived.Shelf.Strconv.ParseUint10
import Derived.Shelf.Strconv.ParseUint10Empty
import Derived.Shelf.Strconv.ParseUint10Any
import Derived.Shelf.Strconv.ParseInt10
import Derived.Shelf.Strconv.RangeError
import Derived.Shelf.Strconv.ToErrorRange
import Derived.Shelf.Strconv.ParseUintEmpty
import Derived.Shelf.Strconv.ParseUint10b64
import Derived.Shelf.Strconv.ParseUint10b32
import Derived.Shelf.Strconv.ParseUint10b16
import Derived.Shelf.Strconv.ParseUint10b8
import Derived.Shelf.Strconv.ParseUint10At
import Derived.Shelf.Strconv.ParseInt10At64
import Derived.Shelf.Strconv.ParseInt10At32
import Derived.Shelf.Strconv.ParseInt10At16
import Derived.Shelf.Strconv.ParseInt10At8
import Derived.Shelf.Strconv.ParseInt10All
import Derived.Shelf.Strings.Search1
import Derived.Shelf.Strings.Search2
import Derived.Shelf.Strings.Search3
import Derived.Shelf.Strings.Cut
import Derived.Shelf.Strings.Shaped
import Derived.Shelf.GgClosure.StringsIndexFunc
import Derived.Ground.GgwProg
import Derived.Shelf.GgClosure.StringsIndexFuncTop
import Derived.Shelf.Strings.Prefix
import Derived.Shelf.Unicode.Latin
import Derived.Shelf.Unicode.Decode
import Derived.Shelf.Strings.Runes
import Derived.Shelf.Strings.AsciiSet
import Derived.Shelf.Unicode.DecodeSlow
import Derived.Shelf.Unicode.DecodeAny
import Derived.Shelf.Unicode.DecodeLast
import Derived.Shelf.Unicode.CaseLookup
import Derived.Shelf.Unicode.CaseConvert
import Derived.Shelf.Unicode.CaseTo
import Derived.Shelf.Unicode.CaseLaid
import Derived.Shelf.Strings.FuncGrows
import Derived.Shelf.Strings.BuilderCap
import Derived.Shelf.Bytes.SlIndexAt
import Derived.Ground.SlgnProg
import Derived.Shelf.SlicesE.Equal
import Derived.Ground.SlgfProg
import Derived.Shelf.SlicesE.IndexFunc
import Derived.Shelf.SlicesE.DeleteFunc
import Derived.Shelf.Bytes.IndexByte
import Derived.Lib.Walk
import Derived.WalkKit
import Derived.Test.YtdoogdbjiijifaaGreatDoorE8Paq
namespace Go.Proofs.YtdoogdbjiijifaaGreatDoor
open Go Go.Shelf Go.RowKit Go.Sort Go.Lib
set_option maxRecDepth 100000
set_option maxHeartbeats 4000000
def iC:Go.Shelf.Ren:=⟨fun|159=>195|165=>247|166=>142|167=>248|169=>143|230=>249|204=>250|240=>196|241=>282|197=>220|118=>283|168=>284|270=>285|262=>286|276=>251|277=>304|260=>267|242=>305|313=>306|278=>311|274=>312|275=>313|n=>n,fun|9=>9|4=>4|3=>3|5=>5|72=>180|0=>0|76=>158|75=>157|107=>258|70=>178|20=>20|37=>22|127=>225|21=>21|105=>233|164=>259|162=>313|203=>311|119=>261|46=>278|139=>301|138=>300|51=>285|160=>320|208=>326|206=>324|80=>181|n=>n,fun|13=>7|3=>5|4=>6|n=>n⟩
theorem Ad6:Go.Proofs.Lays.n159 Tryz.prog iC:={
 mixed:=by kernel_rfl
 f118:=Tryz.func283.trans (congrArg some (by kernel_rfl))
 f159:=Tryz.func195.trans (congrArg some (by kernel_rfl))
 f165:=Tryz.func247.trans (congrArg some (by kernel_rfl))
 f166:=Tryz.func142.trans (congrArg some (by kernel_rfl))
 f167:=Tryz.func248.trans (congrArg some (by kernel_rfl))
 f168:=Tryz.func284.trans (congrArg some (by kernel_rfl))
 f169:=Tryz.func143.trans (congrArg some (by kernel_rfl))
 f197:=Tryz.func220.trans (congrArg some (by kernel_rfl))
 f204:=Tryz.func250.trans (congrArg some (by kernel_rfl))
 f230:=Tryz.func249.trans (congrArg some (by kernel_rfl))
 f240:=Tryz.func196.trans (congrArg some (by kernel_rfl))
 f241:=Tryz.func282.trans (congrArg some (by kernel_rfl))
 f242:=Tryz.func305.trans (congrArg some (by kernel_rfl))
 f260:=Tryz.func267.trans (congrArg some (by kernel_rfl))
 f262:=Tryz.func286.trans (congrArg some (by kernel_rfl))
 f270:=Tryz.func285.trans (congrArg some (by kernel_rfl))
 f274:=Tryz.func312.trans (congrArg some (by kernel_rfl))
 f275:=Tryz.func313.trans (congrArg some (by kernel_rfl))
 f276:=Tryz.func251.trans (congrArg some (by kernel_rfl))
 f277:=Tryz.func304.trans (congrArg some (by kernel_rfl))
 f278:=Tryz.func311.trans (congrArg some (by kernel_rfl))
 f313:=Tryz.func306.trans (congrArg some (by kernel_rfl))
 t0:=Tryz.underlying0
 a0:=Tryz.isAgg0
 z0:=Tryz.sizeOf0
 v0:=Tryz.zeroValue0
 t3:=Tryz.underlying3
 a3:=Tryz.isAgg3
 z3:=Tryz.sizeOf3
 v3:=Tryz.zeroValue3
 t4:=Tryz.underlying4
 a4:=Tryz.isAgg4
 z4:=Tryz.sizeOf4
 v4:=Tryz.zeroValue4
 t5:=Tryz.underlying5
 a5:=Tryz.isAgg5
 z5:=Tryz.sizeOf5
 v5:=Tryz.zeroValue5
 t9:=Tryz.underlying9
 a9:=Tryz.isAgg9
 z9:=Tryz.sizeOf9
 v9:=Tryz.zeroValue9
 t20:=Tryz.underlying20
 a20:=Tryz.isAgg20
 z20:=Tryz.sizeOf20
 v20:=Tryz.zeroValue20
 t21:=Tryz.underlying21
 a21:=Tryz.isAgg21
 z21:=Tryz.sizeOf21
 v21:=Tryz.zeroValue21
 t37:=Tryz.underlying22
 a37:=Tryz.isAgg22
 z37:=Tryz.sizeOf22
 v37:=Tryz.zeroValue22
 t46:=Tryz.underlying278
 a46:=Tryz.isAgg278
 z46:=Tryz.sizeOf278
 v46:=Tryz.zeroValue278
 t51:=Tryz.underlying285
 a51:=Tryz.isAgg285
 z51:=Tryz.sizeOf285
 v51:=Tryz.zeroValue285
 t70:=Tryz.underlying178
 a70:=Tryz.isAgg178
 z70:=Tryz.sizeOf178
 v70:=Tryz.zeroValue178
 t72:=Tryz.underlying180
 a72:=Tryz.isAgg180
 z72:=Tryz.sizeOf180
 v72:=Tryz.zeroValue180
 t75:=Tryz.underlying157
 a75:=Tryz.isAgg157
 z75:=Tryz.sizeOf157
 v75:=Tryz.zeroValue157
 t76:=Tryz.underlying158
 a76:=Tryz.isAgg158
 z76:=Tryz.sizeOf158
 v76:=Tryz.zeroValue158
 t105:=Tryz.underlying233
 a105:=Tryz.isAgg233
 z105:=Tryz.sizeOf233
 v105:=Tryz.zeroValue233
 t107:=Tryz.underlying258
 a107:=Tryz.isAgg258
 z107:=Tryz.sizeOf258
 v107:=Tryz.zeroValue258
 t119:=Tryz.underlying261
 a119:=Tryz.isAgg261
 z119:=Tryz.sizeOf261
 t127:=Tryz.underlying225
 a127:=Tryz.isAgg225
 z127:=Tryz.sizeOf225
 v127:=Tryz.zeroValue225
 t138:=Tryz.underlying300
 a138:=Tryz.isAgg300
 z138:=Tryz.sizeOf300
 v138:=Tryz.zeroValue300
 t139:=Tryz.underlying301
 a139:=Tryz.isAgg301
 z139:=Tryz.sizeOf301
 v139:=Tryz.zeroValue301
 t160:=Tryz.underlying320
 a160:=Tryz.isAgg320
 z160:=Tryz.sizeOf320
 v160:=Tryz.zeroValue320
 t162:=Tryz.underlying313
 a162:=Tryz.isAgg313
 z162:=Tryz.sizeOf313
 v162:=Tryz.zeroValue313
 t164:=Tryz.underlying259
 a164:=Tryz.isAgg259
 z164:=Tryz.sizeOf259
 v164:=Tryz.zeroValue259
 t203:=Tryz.underlying311
 a203:=Tryz.isAgg311
 z203:=Tryz.sizeOf311
 v203:=Tryz.zeroValue311
 t206:=Tryz.underlying324
 a206:=Tryz.isAgg324
 z206:=Tryz.sizeOf324
 v206:=Tryz.zeroValue324
 t208:=Tryz.underlying326
 a208:=Tryz.isAgg326
 z208:=Tryz.sizeOf326
 v208:=Tryz.zeroValue326
 g3:=by kernel_rfl
 g4:=by kernel_rfl
 g13:=by kernel_rfl }
theorem Lg:Builder.Extra Tryz.prog iC:={
 sizeBuilder:=by kernel_rfl
 liesBuilder:=by kernel_rfl
 t5:=Tryz.underlying5
 a5:=Tryz.isAgg5
 z5:=Tryz.sizeOf5
 v5:=Tryz.zeroValue5
 infoByte:=by kernel_rfl
 cellsByte:=by kernel_rfl
 sizeByte:=by kernel_rfl
 neB5:=by decide }
theorem Is(s:ByteArray)(w:World)(hs:s.size<=140737488355328)(yk:∀(j:Nat) (b:UInt8),s.data.toList[j]?=some b->b.toNat<128):
  Calls Tryz.prog 195 #[.string s] w λe w'=>e=.returned (.string ⟨(Lib.toLowerA s.data.toList).toArray⟩)/\Below w.heap.size w w':=Any.strings_ToLower_ascii Ad6 Lg s w hs yk
def mZ:Go.Shelf.Ren:=⟨fun|160=>116|232=>160|231=>159|227=>161|234=>163|233=>162|236=>165|235=>164|228=>219|271=>222|151=>221|197=>220|120=>269|152=>268|260=>267|137=>239|119=>297|224=>275|225=>274|217=>273|266=>300|n=>n,fun|9=>9|4=>4|3=>3|5=>5|117=>199|116=>198|0=>0|124=>202|21=>21|105=>233|46=>278|119=>261|139=>301|138=>300|n=>n,fun|3=>5|4=>6|n=>n⟩
theorem Ad5:Go.Proofs.Lays.n160 Tryz.prog mZ:={
 mixed:=by kernel_rfl
 f119:=Tryz.func297.trans (congrArg some (by kernel_rfl))
 f120:=Tryz.func269.trans (congrArg some (by kernel_rfl))
 f137:=Tryz.func239.trans (congrArg some (by kernel_rfl))
 f151:=Tryz.func221.trans (congrArg some (by kernel_rfl))
 f152:=Tryz.func268.trans (congrArg some (by kernel_rfl))
 f160:=Tryz.func116.trans (congrArg some (by kernel_rfl))
 f197:=Tryz.func220.trans (congrArg some (by kernel_rfl))
 f217:=Tryz.func273.trans (congrArg some (by kernel_rfl))
 f224:=Tryz.func275.trans (congrArg some (by kernel_rfl))
 f225:=Tryz.func274.trans (congrArg some (by kernel_rfl))
 f227:=Tryz.func161.trans (congrArg some (by kernel_rfl))
 f228:=Tryz.func219.trans (congrArg some (by kernel_rfl))
 f231:=Tryz.func159.trans (congrArg some (by kernel_rfl))
 f232:=Tryz.func160.trans (congrArg some (by kernel_rfl))
 f233:=Tryz.func162.trans (congrArg some (by kernel_rfl))
 f234:=Tryz.func163.trans (congrArg some (by kernel_rfl))
 f235:=Tryz.func164.trans (congrArg some (by kernel_rfl))
 f236:=Tryz.func165.trans (congrArg some (by kernel_rfl))
 f260:=Tryz.func267.trans (congrArg some (by kernel_rfl))
 f266:=Tryz.func300.trans (congrArg some (by kernel_rfl))
 f271:=Tryz.func222.trans (congrArg some (by kernel_rfl))
 t0:=Tryz.underlying0
 a0:=Tryz.isAgg0
 z0:=Tryz.sizeOf0
 v0:=Tryz.zeroValue0
 t3:=Tryz.underlying3
 a3:=Tryz.isAgg3
 z3:=Tryz.sizeOf3
 v3:=Tryz.zeroValue3
 t4:=Tryz.underlying4
 a4:=Tryz.isAgg4
 z4:=Tryz.sizeOf4
 v4:=Tryz.zeroValue4
 t5:=Tryz.underlying5
 a5:=Tryz.isAgg5
 z5:=Tryz.sizeOf5
 v5:=Tryz.zeroValue5
 t9:=Tryz.underlying9
 a9:=Tryz.isAgg9
 z9:=Tryz.sizeOf9
 v9:=Tryz.zeroValue9
 t21:=Tryz.underlying21
 a21:=Tryz.isAgg21
 z21:=Tryz.sizeOf21
 v21:=Tryz.zeroValue21
 t46:=Tryz.underlying278
 a46:=Tryz.isAgg278
 z46:=Tryz.sizeOf278
 v46:=Tryz.zeroValue278
 t105:=Tryz.underlying233
 a105:=Tryz.isAgg233
 z105:=Tryz.sizeOf233
 v105:=Tryz.zeroValue233
 t116:=Tryz.underlying198
 a116:=Tryz.isAgg198
 z116:=Tryz.sizeOf198
 t117:=Tryz.underlying199
 a117:=Tryz.isAgg199
 z117:=Tryz.sizeOf199
 v117:=Tryz.zeroValue199
 t119:=Tryz.underlying261
 a119:=Tryz.isAgg261
 z119:=Tryz.sizeOf261
 t124:=Tryz.underlying202
 a124:=Tryz.isAgg202
 z124:=Tryz.sizeOf202
 v124:=Tryz.zeroValue202
 t138:=Tryz.underlying300
 a138:=Tryz.isAgg300
 z138:=Tryz.sizeOf300
 v138:=Tryz.zeroValue300
 t139:=Tryz.underlying301
 a139:=Tryz.isAgg301
 z139:=Tryz.sizeOf301
 v139:=Tryz.zeroValue301
 g3:=by kernel_rfl
 g4:=by kernel_rfl }
def nB:Go.Shelf.Ren:=⟨fun|137=>239|217=>273|266=>300|n=>n,fun|9=>9|5=>5|3=>3|n=>n,fun|n=>n⟩
theorem Ad8:Go.Proofs.Lays.n137 Tryz.prog nB:={
 mixed:=by kernel_rfl
 f137:=Tryz.func239.trans (congrArg some (by kernel_rfl))
 f217:=Tryz.func273.trans (congrArg some (by kernel_rfl))
 f266:=Tryz.func300.trans (congrArg some (by kernel_rfl))
 t3:=Tryz.underlying3
 a3:=Tryz.isAgg3
 z3:=Tryz.sizeOf3
 v3:=Tryz.zeroValue3
 t5:=Tryz.underlying5
 a5:=Tryz.isAgg5
 z5:=Tryz.sizeOf5
 v5:=Tryz.zeroValue5
 t9:=Tryz.underlying9
 a9:=Tryz.isAgg9
 z9:=Tryz.sizeOf9
 v9:=Tryz.zeroValue9 }
theorem Lb(s:ByteArray)(c:Int)(w:World):
  Calls Tryz.prog 239 #[.string s,.int .u8 c] w λe w'=>e=.returned (.int .i64 (Lib.indexByte s.data.toList c.toNat.toUInt8))/\w'=w:=Any.strings_IndexByte Ad8 s c w
def nD:Go.Shelf.Ren:=⟨fun|103=>55|210=>113|206=>157|n=>n,fun|9=>9|4=>4|24=>95|3=>3|n=>n,fun|n=>n⟩
theorem Aea:Go.Proofs.Lays.n103 Tryz.prog nD:={
 mixed:=by kernel_rfl
 f103:=Tryz.func55.trans (congrArg some (by kernel_rfl))
 f206:=Tryz.func157.trans (congrArg some (by kernel_rfl))
 f210:=Tryz.func113.trans (congrArg some (by kernel_rfl))
 t3:=Tryz.underlying3
 a3:=Tryz.isAgg3
 z3:=Tryz.sizeOf3
 v3:=Tryz.zeroValue3
 t4:=Tryz.underlying4
 a4:=Tryz.isAgg4
 z4:=Tryz.sizeOf4
 v4:=Tryz.zeroValue4
 t9:=Tryz.underlying9
 a9:=Tryz.isAgg9
 z9:=Tryz.sizeOf9
 v9:=Tryz.zeroValue9
 t24:=Tryz.underlying95
 a24:=Tryz.isAgg95
 z24:=Tryz.sizeOf95
 v24:=Tryz.zeroValue95 }
theorem Le(s p:ByteArray)(w:World):
  Calls Tryz.prog 55 #[.string s,.string p] w λe w'=>e=.returned (.tuple #[.string ⟨(Lib.trimPrefix s.data.toList p.data.toList).toArray⟩,.bool (Lib.hasPrefix s.data.toList p.data.toList)])/\w'=w:=Any.strings_CutPrefix Aea s p w
def nC:Go.Shelf.Ren:=⟨fun|104=>54|211=>112|207=>156|n=>n,fun|9=>9|4=>4|24=>95|3=>3|n=>n,fun|n=>n⟩
theorem Ad9:Go.Proofs.Lays.n104 Tryz.prog nC:={
 mixed:=by kernel_rfl
 f104:=Tryz.func54.trans (congrArg some (by kernel_rfl))
 f207:=Tryz.func156.trans (congrArg some (by kernel_rfl))
 f211:=Tryz.func112.trans (congrArg some (by kernel_rfl))
 t3:=Tryz.underlying3
 a3:=Tryz.isAgg3
 z3:=Tryz.sizeOf3
 v3:=Tryz.zeroValue3
 t4:=Tryz.underlying4
 a4:=Tryz.isAgg4
 z4:=Tryz.sizeOf4
 v4:=Tryz.zeroValue4
 t9:=Tryz.underlying9
 a9:=Tryz.isAgg9
 z9:=Tryz.sizeOf9
 v9:=Tryz.zeroValue9
 t24:=Tryz.underlying95
 a24:=Tryz.isAgg95
 z24:=Tryz.sizeOf95
 v24:=Tryz.zeroValue95 }
theorem Ld(s p:ByteArray)(w:World)(hs:s.size<=9223372036854775807):
  Calls Tryz.prog 54 #[.string s,.string p] w λe w'=>e=.returned (.tuple #[.string ⟨(Lib.trimSuffix s.data.toList p.data.toList).toArray⟩,.bool (Lib.hasSuffix s.data.toList p.data.toList)])/\w'=w:=Any.strings_CutSuffix Ad9 s p w hs
def mY:Go.Shelf.Ren:=⟨fun|172=>117|244=>166|245=>167|247=>223|279=>224|280=>225|281=>226|282=>227|287=>270|316=>271|171=>83|205=>272|321=>298|322=>299|243=>139|246=>191|283=>241|284=>242|285=>243|286=>244|129=>278|317=>277|318=>279|319=>280|320=>281|337=>302|338=>303|n=>n,fun|9=>9|3=>3|75=>157|76=>158|4=>4|5=>5|167=>236|37=>22|0=>0|85=>237|2=>2|168=>239|53=>249|175=>276|46=>278|210=>280|127=>225|145=>305|143=>303|21=>21|171=>248|173=>252|212=>284|51=>285|20=>20|213=>286|232=>318|233=>319|80=>181|n=>n,fun|15=>2|16=>3|17=>4|18=>8|19=>9|n=>n⟩
theorem Ad4:Go.Proofs.Lays.n172 Tryz.prog mY:={
 mixed:=by kernel_rfl
 f129:=Tryz.func278.trans (congrArg some (by kernel_rfl))
 f171:=Tryz.func83.trans (congrArg some (by kernel_rfl))
 f172:=Tryz.func117.trans (congrArg some (by kernel_rfl))
 f205:=Tryz.func272.trans (congrArg some (by kernel_rfl))
 f243:=Tryz.func139.trans (congrArg some (by kernel_rfl))
 f244:=Tryz.func166.trans (congrArg some (by kernel_rfl))
 f245:=Tryz.func167.trans (congrArg some (by kernel_rfl))
 f246:=Tryz.func191.trans (congrArg some (by kernel_rfl))
 f247:=Tryz.func223.trans (congrArg some (by kernel_rfl))
 f279:=Tryz.func224.trans (congrArg some (by kernel_rfl))
 f280:=Tryz.func225.trans (congrArg some (by kernel_rfl))
 f281:=Tryz.func226.trans (congrArg some (by kernel_rfl))
 f282:=Tryz.func227.trans (congrArg some (by kernel_rfl))
 f283:=Tryz.func241.trans (congrArg some (by kernel_rfl))
 f284:=Tryz.func242.trans (congrArg some (by kernel_rfl))
 f285:=Tryz.func243.trans (congrArg some (by kernel_rfl))
 f286:=Tryz.func244.trans (congrArg some (by kernel_rfl))
 f287:=Tryz.func270.trans (congrArg some (by kernel_rfl))
 f316:=Tryz.func271.trans (congrArg some (by kernel_rfl))
 f317:=Tryz.func277.trans (congrArg some (by kernel_rfl))
 f318:=Tryz.func279.trans (congrArg some (by kernel_rfl))
 f319:=Tryz.func280.trans (congrArg some (by kernel_rfl))
 f320:=Tryz.func281.trans (congrArg some (by kernel_rfl))
 f321:=Tryz.func298.trans (congrArg some (by kernel_rfl))
 f322:=Tryz.func299.trans (congrArg some (by kernel_rfl))
 f337:=Tryz.func302.trans (congrArg some (by kernel_rfl))
 f338:=Tryz.func303.trans (congrArg some (by kernel_rfl))
 t0:=Tryz.underlying0
 a0:=Tryz.isAgg0
 z0:=Tryz.sizeOf0
 v0:=Tryz.zeroValue0
 t2:=Tryz.underlying2
 a2:=Tryz.isAgg2
 z2:=Tryz.sizeOf2
 v2:=Tryz.zeroValue2
 t3:=Tryz.underlying3
 a3:=Tryz.isAgg3
 z3:=Tryz.sizeOf3
 v3:=Tryz.zeroValue3
 t4:=Tryz.underlying4
 a4:=Tryz.isAgg4
 z4:=Tryz.sizeOf4
 v4:=Tryz.zeroValue4
 t5:=Tryz.underlying5
 a5:=Tryz.isAgg5
 z5:=Tryz.sizeOf5
 v5:=Tryz.zeroValue5
 t9:=Tryz.underlying9
 a9:=Tryz.isAgg9
 z9:=Tryz.sizeOf9
 v9:=Tryz.zeroValue9
 t20:=Tryz.underlying20
 a20:=Tryz.isAgg20
 z20:=Tryz.sizeOf20
 v20:=Tryz.zeroValue20
 t21:=Tryz.underlying21
 a21:=Tryz.isAgg21
 z21:=Tryz.sizeOf21
 v21:=Tryz.zeroValue21
 t37:=Tryz.underlying22
 a37:=Tryz.isAgg22
 z37:=Tryz.sizeOf22
 v37:=Tryz.zeroValue22
 t46:=Tryz.underlying278
 a46:=Tryz.isAgg278
 z46:=Tryz.sizeOf278
 v46:=Tryz.zeroValue278
 t51:=Tryz.underlying285
 a51:=Tryz.isAgg285
 z51:=Tryz.sizeOf285
 v51:=Tryz.zeroValue285
 t53:=Tryz.underlying249
 a53:=Tryz.isAgg249
 z53:=Tryz.sizeOf249
 v53:=Tryz.zeroValue249
 t75:=Tryz.underlying157
 a75:=Tryz.isAgg157
 z75:=Tryz.sizeOf157
 v75:=Tryz.zeroValue157
 t76:=Tryz.underlying158
 a76:=Tryz.isAgg158
 z76:=Tryz.sizeOf158
 v76:=Tryz.zeroValue158
 t85:=Tryz.underlying237
 a85:=Tryz.isAgg237
 z85:=Tryz.sizeOf237
 v85:=Tryz.zeroValue237
 t127:=Tryz.underlying225
 a127:=Tryz.isAgg225
 z127:=Tryz.sizeOf225
 v127:=Tryz.zeroValue225
 t143:=Tryz.underlying303
 a143:=Tryz.isAgg303
 z143:=Tryz.sizeOf303
 v143:=Tryz.zeroValue303
 t145:=Tryz.underlying305
 a145:=Tryz.isAgg305
 z145:=Tryz.sizeOf305
 v145:=Tryz.zeroValue305
 t167:=Tryz.underlying236
 a167:=Tryz.isAgg236
 z167:=Tryz.sizeOf236
 v167:=Tryz.zeroValue236
 t168:=Tryz.underlying239
 a168:=Tryz.isAgg239
 z168:=Tryz.sizeOf239
 v168:=Tryz.zeroValue239
 t171:=Tryz.underlying248
 a171:=Tryz.isAgg248
 z171:=Tryz.sizeOf248
 v171:=Tryz.zeroValue248
 t173:=Tryz.underlying252
 a173:=Tryz.isAgg252
 z173:=Tryz.sizeOf252
 v173:=Tryz.zeroValue252
 t175:=Tryz.underlying276
 a175:=Tryz.isAgg276
 z175:=Tryz.sizeOf276
 v175:=Tryz.zeroValue276
 t210:=Tryz.underlying280
 a210:=Tryz.isAgg280
 z210:=Tryz.sizeOf280
 v210:=Tryz.zeroValue280
 t212:=Tryz.underlying284
 a212:=Tryz.isAgg284
 z212:=Tryz.sizeOf284
 v212:=Tryz.zeroValue284
 t213:=Tryz.underlying286
 a213:=Tryz.isAgg286
 z213:=Tryz.sizeOf286
 t232:=Tryz.underlying318
 a232:=Tryz.isAgg318
 z232:=Tryz.sizeOf318
 v232:=Tryz.zeroValue318
 t233:=Tryz.underlying319
 a233:=Tryz.isAgg319
 z233:=Tryz.sizeOf319
 v233:=Tryz.zeroValue319
 g15:=by kernel_rfl
 g16:=by kernel_rfl
 g17:=by kernel_rfl
 g18:=by kernel_rfl
 g19:=by kernel_rfl }
theorem R5(s:ByteArray)(n:Int)(hl:s.size<=18)(h:Lib.atoi s.data.toList=some n)(w:World):
  Calls Tryz.prog 117 #[.string s] w λe w'=>e=.returned (.tuple #[.int .i64 n,.nilIface])/\∃t,w'=Lib.bytesWorld w 5 t:=Any.strconv_Atoi Ad4 s n hl h w
def lV:Go.Shelf.Ren:=⟨fun|171=>83|243=>139|246=>191|283=>241|284=>242|285=>243|286=>244|129=>278|317=>277|318=>279|319=>280|320=>281|337=>302|338=>303|n=>n,fun|3=>3|9=>9|2=>2|4=>4|171=>248|0=>0|53=>249|37=>22|5=>5|173=>252|212=>284|51=>285|20=>20|213=>286|46=>278|232=>318|233=>319|n=>n,fun|17=>4|18=>8|19=>9|n=>n⟩
theorem Aar:Go.Proofs.LaysM.n171 Tryz.prog lV:={
 mixed:=by kernel_rfl
 f129:=Tryz.func278.trans (congrArg some (by kernel_rfl))
 f171:=Tryz.func83.trans (congrArg some (by kernel_rfl))
 f243:=Tryz.func139.trans (congrArg some (by kernel_rfl))
 f246:=Tryz.func191.trans (congrArg some (by kernel_rfl))
 f283:=Tryz.func241.trans (congrArg some (by kernel_rfl))
 f284:=Tryz.func242.trans (congrArg some (by kernel_rfl))
 f285:=Tryz.func243.trans (congrArg some (by kernel_rfl))
 f286:=Tryz.func244.trans (congrArg some (by kernel_rfl))
 f317:=Tryz.func277.trans (congrArg some (by kernel_rfl))
 f318:=Tryz.func279.trans (congrArg some (by kernel_rfl))
 f319:=Tryz.func280.trans (congrArg some (by kernel_rfl))
 f320:=Tryz.func281.trans (congrArg some (by kernel_rfl))
 f337:=Tryz.func302.trans (congrArg some (by kernel_rfl))
 f338:=Tryz.func303.trans (congrArg some (by kernel_rfl))
 t0:=Tryz.underlying0
 a0:=Tryz.isAgg0
 z0:=Tryz.sizeOf0
 v0:=Tryz.zeroValue0
 t2:=Tryz.underlying2
 a2:=Tryz.isAgg2
 z2:=Tryz.sizeOf2
 v2:=Tryz.zeroValue2
 t3:=Tryz.underlying3
 a3:=Tryz.isAgg3
 z3:=Tryz.sizeOf3
 v3:=Tryz.zeroValue3
 t4:=Tryz.underlying4
 a4:=Tryz.isAgg4
 z4:=Tryz.sizeOf4
 v4:=Tryz.zeroValue4
 t5:=Tryz.underlying5
 a5:=Tryz.isAgg5
 z5:=Tryz.sizeOf5
 v5:=Tryz.zeroValue5
 t9:=Tryz.underlying9
 a9:=Tryz.isAgg9
 z9:=Tryz.sizeOf9
 v9:=Tryz.zeroValue9
 t20:=Tryz.underlying20
 a20:=Tryz.isAgg20
 z20:=Tryz.sizeOf20
 v20:=Tryz.zeroValue20
 t37:=Tryz.underlying22
 a37:=Tryz.isAgg22
 z37:=Tryz.sizeOf22
 v37:=Tryz.zeroValue22
 t46:=Tryz.underlying278
 a46:=Tryz.isAgg278
 z46:=Tryz.sizeOf278
 v46:=Tryz.zeroValue278
 t51:=Tryz.underlying285
 a51:=Tryz.isAgg285
 z51:=Tryz.sizeOf285
 v51:=Tryz.zeroValue285
 t53:=Tryz.underlying249
 a53:=Tryz.isAgg249
 z53:=Tryz.sizeOf249
 v53:=Tryz.zeroValue249
 t171:=Tryz.underlying248
 a171:=Tryz.isAgg248
 z171:=Tryz.sizeOf248
 v171:=Tryz.zeroValue248
 t173:=Tryz.underlying252
 a173:=Tryz.isAgg252
 z173:=Tryz.sizeOf252
 v173:=Tryz.zeroValue252
 t212:=Tryz.underlying284
 a212:=Tryz.isAgg284
 z212:=Tryz.sizeOf284
 v212:=Tryz.zeroValue284
 t213:=Tryz.underlying286
 a213:=Tryz.isAgg286
 z213:=Tryz.sizeOf286
 t232:=Tryz.underlying318
 a232:=Tryz.isAgg318
 z232:=Tryz.sizeOf318
 v232:=Tryz.zeroValue318
 t233:=Tryz.underlying319
 a233:=Tryz.isAgg319
 z233:=Tryz.sizeOf319
 v233:=Tryz.zeroValue319
 g17:=by kernel_rfl
 g18:=by kernel_rfl
 g19:=by kernel_rfl
 i0:=by kernel_rfl
 i2:=by kernel_rfl
 i3:=by kernel_rfl
 i4:=by kernel_rfl
 i5:=by kernel_rfl
 i9:=by kernel_rfl
 i20:=by kernel_rfl
 i37:=by kernel_rfl
 i46:=by kernel_rfl
 i51:=by kernel_rfl
 i53:=by kernel_rfl
 i171:=by kernel_rfl
 i173:=by kernel_rfl
 i212:=by kernel_rfl
 i232:=by kernel_rfl
 i233:=by kernel_rfl
 m17:=by kernel_rfl
 m18:=by kernel_rfl
 m19:=by kernel_rfl }
theorem Rz(n:Int)(h0:-9223372036854775808<=n)(h1:n<=9223372036854775807)(w:World)(bS:Lib.TabIs Tryz.prog w "internal/strconv.uint64pow10" .u64 Lib.pow10Tab):
  Calls Tryz.prog 83 #[.int .i64 n] w λe w'=>e=.returned (.string ⟨(Lib.itoa n).toArray⟩)/\∃k os,w'=grow (w.drewN k) os:=Any.strconv_Itoa Aar n h0 h1 w bS
def lU:Go.Shelf.Ren:=⟨fun|173=>289|246=>191|283=>241|284=>242|285=>243|286=>244|129=>278|317=>277|318=>279|319=>280|320=>281|337=>302|338=>303|n=>n,fun|2=>2|3=>3|9=>9|4=>4|171=>248|0=>0|53=>249|37=>22|5=>5|173=>252|212=>284|51=>285|20=>20|213=>286|46=>278|232=>318|233=>319|n=>n,fun|17=>4|18=>8|19=>9|n=>n⟩
theorem Aaq:Go.Proofs.LaysM.n173 Tryz.prog lU:={
 mixed:=by kernel_rfl
 f129:=Tryz.func278.trans (congrArg some (by kernel_rfl))
 f173:=Tryz.func289.trans (congrArg some (by kernel_rfl))
 f246:=Tryz.func191.trans (congrArg some (by kernel_rfl))
 f283:=Tryz.func241.trans (congrArg some (by kernel_rfl))
 f284:=Tryz.func242.trans (congrArg some (by kernel_rfl))
 f285:=Tryz.func243.trans (congrArg some (by kernel_rfl))
 f286:=Tryz.func244.trans (congrArg some (by kernel_rfl))
 f317:=Tryz.func277.trans (congrArg some (by kernel_rfl))
 f318:=Tryz.func279.trans (congrArg some (by kernel_rfl))
 f319:=Tryz.func280.trans (congrArg some (by kernel_rfl))
 f320:=Tryz.func281.trans (congrArg some (by kernel_rfl))
 f337:=Tryz.func302.trans (congrArg some (by kernel_rfl))
 f338:=Tryz.func303.trans (congrArg some (by kernel_rfl))
 t0:=Tryz.underlying0
 a0:=Tryz.isAgg0
 z0:=Tryz.sizeOf0
 v0:=Tryz.zeroValue0
 t2:=Tryz.underlying2
 a2:=Tryz.isAgg2
 z2:=Tryz.sizeOf2
 v2:=Tryz.zeroValue2
 t3:=Tryz.underlying3
 a3:=Tryz.isAgg3
 z3:=Tryz.sizeOf3
 v3:=Tryz.zeroValue3
 t4:=Tryz.underlying4
 a4:=Tryz.isAgg4
 z4:=Tryz.sizeOf4
 v4:=Tryz.zeroValue4
 t5:=Tryz.underlying5
 a5:=Tryz.isAgg5
 z5:=Tryz.sizeOf5
 v5:=Tryz.zeroValue5
 t9:=Tryz.underlying9
 a9:=Tryz.isAgg9
 z9:=Tryz.sizeOf9
 v9:=Tryz.zeroValue9
 t20:=Tryz.underlying20
 a20:=Tryz.isAgg20
 z20:=Tryz.sizeOf20
 v20:=Tryz.zeroValue20
 t37:=Tryz.underlying22
 a37:=Tryz.isAgg22
 z37:=Tryz.sizeOf22
 v37:=Tryz.zeroValue22
 t46:=Tryz.underlying278
 a46:=Tryz.isAgg278
 z46:=Tryz.sizeOf278
 v46:=Tryz.zeroValue278
 t51:=Tryz.underlying285
 a51:=Tryz.isAgg285
 z51:=Tryz.sizeOf285
 v51:=Tryz.zeroValue285
 t53:=Tryz.underlying249
 a53:=Tryz.isAgg249
 z53:=Tryz.sizeOf249
 v53:=Tryz.zeroValue249
 t171:=Tryz.underlying248
 a171:=Tryz.isAgg248
 z171:=Tryz.sizeOf248
 v171:=Tryz.zeroValue248
 t173:=Tryz.underlying252
 a173:=Tryz.isAgg252
 z173:=Tryz.sizeOf252
 v173:=Tryz.zeroValue252
 t212:=Tryz.underlying284
 a212:=Tryz.isAgg284
 z212:=Tryz.sizeOf284
 v212:=Tryz.zeroValue284
 t213:=Tryz.underlying286
 a213:=Tryz.isAgg286
 z213:=Tryz.sizeOf286
 t232:=Tryz.underlying318
 a232:=Tryz.isAgg318
 z232:=Tryz.sizeOf318
 v232:=Tryz.zeroValue318
 t233:=Tryz.underlying319
 a233:=Tryz.isAgg319
 z233:=Tryz.sizeOf319
 v233:=Tryz.zeroValue319
 g17:=by kernel_rfl
 g18:=by kernel_rfl
 g19:=by kernel_rfl
 i0:=by kernel_rfl
 i2:=by kernel_rfl
 i3:=by kernel_rfl
 i4:=by kernel_rfl
 i5:=by kernel_rfl
 i9:=by kernel_rfl
 i20:=by kernel_rfl
 i37:=by kernel_rfl
 i46:=by kernel_rfl
 i51:=by kernel_rfl
 i53:=by kernel_rfl
 i171:=by kernel_rfl
 i173:=by kernel_rfl
 i212:=by kernel_rfl
 i232:=by kernel_rfl
 i233:=by kernel_rfl
 m17:=by kernel_rfl
 m18:=by kernel_rfl
 m19:=by kernel_rfl }
theorem I8(n:Int)(h0:-9223372036854775808<=n)(h1:n<=9223372036854775807)(w:World)(bS:Lib.TabIs Tryz.prog w "internal/strconv.uint64pow10" .u64 Lib.pow10Tab):
  Calls Tryz.prog 289 #[.int .i64 n,.int .i64 10] w λe w'=>e=.returned (.string ⟨(Lib.itoa n).toArray⟩)/\∃k os,w'=grow (w.drewN k) os:=Any.strconv_FormatInt_10 Aaq n h0 h1 w bS
def mW:Go.Shelf.Ren:=⟨fun|219=>228|217=>273|225=>274|224=>275|267=>276|266=>300|314=>301|n=>n,fun|9=>9|3=>3|4=>4|5=>5|46=>278|146=>306|51=>285|n=>n,fun|1=>0|n=>n⟩
theorem Ad3:Go.Proofs.Lays.n219 Tryz.prog mW:={
 mixed:=by kernel_rfl
 f217:=Tryz.func273.trans (congrArg some (by kernel_rfl))
 f219:=Tryz.func228.trans (congrArg some (by kernel_rfl))
 f224:=Tryz.func275.trans (congrArg some (by kernel_rfl))
 f225:=Tryz.func274.trans (congrArg some (by kernel_rfl))
 f266:=Tryz.func300.trans (congrArg some (by kernel_rfl))
 f267:=Tryz.func276.trans (congrArg some (by kernel_rfl))
 f314:=Tryz.func301.trans (congrArg some (by kernel_rfl))
 t3:=Tryz.underlying3
 a3:=Tryz.isAgg3
 z3:=Tryz.sizeOf3
 v3:=Tryz.zeroValue3
 t4:=Tryz.underlying4
 a4:=Tryz.isAgg4
 z4:=Tryz.sizeOf4
 v4:=Tryz.zeroValue4
 t5:=Tryz.underlying5
 a5:=Tryz.isAgg5
 z5:=Tryz.sizeOf5
 v5:=Tryz.zeroValue5
 t9:=Tryz.underlying9
 a9:=Tryz.isAgg9
 z9:=Tryz.sizeOf9
 v9:=Tryz.zeroValue9
 t46:=Tryz.underlying278
 a46:=Tryz.isAgg278
 z46:=Tryz.sizeOf278
 v46:=Tryz.zeroValue278
 t51:=Tryz.underlying285
 a51:=Tryz.isAgg285
 z51:=Tryz.sizeOf285
 v51:=Tryz.zeroValue285
 t146:=Tryz.underlying306
 a146:=Tryz.isAgg306
 z146:=Tryz.sizeOf306
 v146:=Tryz.zeroValue306
 g1:=by kernel_rfl }
theorem Ir(s:ByteArray)(c:UInt8)(w:World):
  Calls Tryz.prog 228 #[.string s,.string ⟨#[c]⟩] w λe w'=>e=.returned (.int .i64 (Lib.indexByte s.data.toList c))/\w'=w:=Any.stringslite_Index_one Ad3 s c w
def nA:Go.Shelf.Ren:=⟨fun|144=>118|143=>168|219=>228|217=>273|225=>274|224=>275|267=>276|266=>300|314=>301|n=>n,fun|9=>9|4=>4|3=>3|5=>5|46=>278|146=>306|51=>285|n=>n,fun|1=>0|n=>n⟩
theorem Ad7:Go.Proofs.Lays.n144 Tryz.prog nA:={
 mixed:=by kernel_rfl
 f143:=Tryz.func168.trans (congrArg some (by kernel_rfl))
 f144:=Tryz.func118.trans (congrArg some (by kernel_rfl))
 f217:=Tryz.func273.trans (congrArg some (by kernel_rfl))
 f219:=Tryz.func228.trans (congrArg some (by kernel_rfl))
 f224:=Tryz.func275.trans (congrArg some (by kernel_rfl))
 f225:=Tryz.func274.trans (congrArg some (by kernel_rfl))
 f266:=Tryz.func300.trans (congrArg some (by kernel_rfl))
 f267:=Tryz.func276.trans (congrArg some (by kernel_rfl))
 f314:=Tryz.func301.trans (congrArg some (by kernel_rfl))
 t3:=Tryz.underlying3
 a3:=Tryz.isAgg3
 z3:=Tryz.sizeOf3
 v3:=Tryz.zeroValue3
 t4:=Tryz.underlying4
 a4:=Tryz.isAgg4
 z4:=Tryz.sizeOf4
 v4:=Tryz.zeroValue4
 t5:=Tryz.underlying5
 a5:=Tryz.isAgg5
 z5:=Tryz.sizeOf5
 v5:=Tryz.zeroValue5
 t9:=Tryz.underlying9
 a9:=Tryz.isAgg9
 z9:=Tryz.sizeOf9
 v9:=Tryz.zeroValue9
 t46:=Tryz.underlying278
 a46:=Tryz.isAgg278
 z46:=Tryz.sizeOf278
 v46:=Tryz.zeroValue278
 t51:=Tryz.underlying285
 a51:=Tryz.isAgg285
 z51:=Tryz.sizeOf285
 v51:=Tryz.zeroValue285
 t146:=Tryz.underlying306
 a146:=Tryz.isAgg306
 z146:=Tryz.sizeOf306
 v146:=Tryz.zeroValue306
 g1:=by kernel_rfl }
theorem I7(s:ByteArray)(c:UInt8)(w:World):
  Calls Tryz.prog 118 #[.string s,.string ⟨#[c]⟩] w λe w'=>e=.returned (.bool (decide (0<=Lib.indexByte s.data.toList c)))/\w'=w:=Any.strings_Contains_one Ad7 s c w
def lX:Go.Shelf.Ren:=⟨fun|15=>114|20=>158|n=>n,fun|9=>9|23=>154|3=>3|4=>4|0=>0|21=>21|n=>n,fun|n=>n⟩
theorem Aat:Go.Proofs.LaysGw.n15 Tryz.prog lX:={
 mixed:=by kernel_rfl
 f15:=Tryz.func114.trans (congrArg some (by kernel_rfl))
 f20:=Tryz.func158.trans (congrArg some (by kernel_rfl))
 t0:=Tryz.underlying0
 a0:=Tryz.isAgg0
 z0:=Tryz.sizeOf0
 v0:=Tryz.zeroValue0
 i0:=by kernel_rfl
 t3:=Tryz.underlying3
 a3:=Tryz.isAgg3
 z3:=Tryz.sizeOf3
 v3:=Tryz.zeroValue3
 i3:=by kernel_rfl
 t4:=Tryz.underlying4
 a4:=Tryz.isAgg4
 z4:=Tryz.sizeOf4
 v4:=Tryz.zeroValue4
 i4:=by kernel_rfl
 t9:=Tryz.underlying9
 a9:=Tryz.isAgg9
 z9:=Tryz.sizeOf9
 v9:=Tryz.zeroValue9
 i9:=by kernel_rfl
 t21:=Tryz.underlying21
 a21:=Tryz.isAgg21
 z21:=Tryz.sizeOf21
 v21:=Tryz.zeroValue21
 i21:=by kernel_rfl
 t23:=Tryz.underlying154
 a23:=Tryz.isAgg154
 z23:=Tryz.sizeOf154
 v23:=Tryz.zeroValue154
 i23:=by kernel_rfl }
def lW:Go.Shelf.Ren:=⟨fun|17=>170|15=>114|20=>158|n=>n,fun|9=>9|23=>154|4=>4|3=>3|0=>0|21=>21|n=>n,fun|n=>n⟩
theorem Aas:Go.Proofs.LaysGw.n17 Tryz.prog lW:={
 mixed:=by kernel_rfl
 f15:=Tryz.func114.trans (congrArg some (by kernel_rfl))
 f17:=Tryz.func170.trans (congrArg some (by kernel_rfl))
 f20:=Tryz.func158.trans (congrArg some (by kernel_rfl))
 t0:=Tryz.underlying0
 a0:=Tryz.isAgg0
 z0:=Tryz.sizeOf0
 v0:=Tryz.zeroValue0
 i0:=by kernel_rfl
 t3:=Tryz.underlying3
 a3:=Tryz.isAgg3
 z3:=Tryz.sizeOf3
 v3:=Tryz.zeroValue3
 i3:=by kernel_rfl
 t4:=Tryz.underlying4
 a4:=Tryz.isAgg4
 z4:=Tryz.sizeOf4
 v4:=Tryz.zeroValue4
 i4:=by kernel_rfl
 t9:=Tryz.underlying9
 a9:=Tryz.isAgg9
 z9:=Tryz.sizeOf9
 v9:=Tryz.zeroValue9
 i9:=by kernel_rfl
 t21:=Tryz.underlying21
 a21:=Tryz.isAgg21
 z21:=Tryz.sizeOf21
 v21:=Tryz.zeroValue21
 i21:=by kernel_rfl
 t23:=Tryz.underlying154
 a23:=Tryz.isAgg154
 z23:=Tryz.sizeOf154
 v23:=Tryz.zeroValue154
 i23:=by kernel_rfl }
def oJ:Go.Shelf.Ren:=⟨fun|99=>252|206=>157|n=>n,fun|9=>9|4=>4|3=>3|n=>n,fun|n=>n⟩
theorem Ahy:Go.Proofs.Lays.n99 Tryz.prog oJ:={
 mixed:=by kernel_rfl
 f99:=Tryz.func252.trans (congrArg some (by kernel_rfl))
 f206:=Tryz.func157.trans (congrArg some (by kernel_rfl))
 t3:=Tryz.underlying3
 a3:=Tryz.isAgg3
 z3:=Tryz.sizeOf3
 v3:=Tryz.zeroValue3
 t4:=Tryz.underlying4
 a4:=Tryz.isAgg4
 z4:=Tryz.sizeOf4
 v4:=Tryz.zeroValue4
 t9:=Tryz.underlying9
 a9:=Tryz.isAgg9
 z9:=Tryz.sizeOf9
 v9:=Tryz.zeroValue9 }
theorem Lc(s p:ByteArray)(w:World):
  Calls Tryz.prog 252 #[.string s,.string p] w λe w'=>e=.returned (.bool (Lib.hasPrefix s.data.toList p.data.toList))/\w'=w:=Any.strings_HasPrefix Ahy s p w
theorem Hq(g:Nat)(lb:Array Value)(eg:∀args w,(callFunc g args).run Tryz.prog w=.ok (.enter g args) w)(p:Nat->Bool)(s:ByteArray)(w:World)(hp:PredGrows Tryz.prog g lb p w):
  Calls Tryz.prog 114 #[.string s,.func (.func g) #[] lb] w λe w'=>e=.returned (.int .i64 (Lib.idxFunc p true s))/\Below w.heap.size w w':=Any.strings_IndexFunc_grows Aat g lb eg p s w hp
theorem Gr(g:Nat)(lb:Array Value)(eg:∀args w,(callFunc g args).run Tryz.prog w=.ok (.enter g args) w)(p:Nat->Bool)(s:ByteArray)(w:World)(hp:PredGrows Tryz.prog g lb p w):
  Calls Tryz.prog 170 #[.string s,.func (.func g) #[] lb] w λe w'=>e=.returned (.bool (decide (0<=Lib.idxFunc p true s)))/\Below w.heap.size w w':=Any.strings_ContainsFunc_grows Aas g lb eg p s w hp
def mX:Go.Shelf.Ren:=⟨fun|187=>53|255=>111|n=>n,fun|37=>22|5=>5|3=>3|n=>n,fun|n=>n⟩
theorem Tl:Go.Proofs.Lays.n187 Tryz.prog mX:={
 mixed:=by kernel_rfl
 f187:=Tryz.func53.trans (congrArg some (by kernel_rfl))
 f255:=Tryz.func111.trans (congrArg some (by kernel_rfl))
 t3:=Tryz.underlying3
 a3:=Tryz.isAgg3
 z3:=Tryz.sizeOf3
 v3:=Tryz.zeroValue3
 t5:=Tryz.underlying5
 a5:=Tryz.isAgg5
 z5:=Tryz.sizeOf5
 v5:=Tryz.zeroValue5
 t37:=Tryz.underlying22
 a37:=Tryz.isAgg22
 z37:=Tryz.sizeOf22
 v37:=Tryz.zeroValue22 }
def gW:Go.Shelf.Ren:=⟨fun|10=>179|6=>233|n=>n,fun|22=>111|23=>9|25=>104|3=>3|4=>4|0=>0|n=>n,fun|n=>n⟩
theorem N8:Go.Proofs.SlLaysH.n10 Tryz.prog gW:={
 mixed:=by kernel_rfl
 f6:=⟨Tryz.f233.name,by decide,Tryz.func233.trans (congrArg some (by kernel_rfl))⟩
 f10:=⟨Tryz.f179.name,by decide,Tryz.func179.trans (congrArg some (by kernel_rfl))⟩
 t0:=Tryz.underlying0
 a0:=Tryz.isAgg0
 z0:=Tryz.sizeOf0
 v0:=Tryz.zeroValue0
 t3:=Tryz.underlying3
 a3:=Tryz.isAgg3
 z3:=Tryz.sizeOf3
 v3:=Tryz.zeroValue3
 t4:=Tryz.underlying4
 a4:=Tryz.isAgg4
 z4:=Tryz.sizeOf4
 v4:=Tryz.zeroValue4
 t22:=Tryz.underlying111
 a22:=Tryz.isAgg111
 z22:=Tryz.sizeOf111
 v22:=Tryz.zeroValue111
 a23:=Tryz.isAgg9
 z23:=Tryz.sizeOf9
 t25:=Tryz.underlying104
 a25:=Tryz.isAgg104
 z25:=Tryz.sizeOf104
 v25:=Tryz.zeroValue104 }
theorem Lf{α:Type}[Inhabited α](enc:α->Value)(hO:OneCell enc)(p:α->Bool)(g:Nat)(lb:Array Value)(eg:∀args w,(callFunc g args).run Tryz.prog w=.ok (.enter g args) w)(zr:α)(v23:∀w,(zeroValue 9).run Tryz.prog w=.ok (enc zr) w)(aG off cap:Nat)(d:Array α)(w:World)(hp:PredAt Tryz.prog g lb enc p w)(hpo:PredOver Tryz.prog g lb enc p aG off d.size w)(hH:Holds enc w aG off d)(bB:d.size<=9223372036854775807)(iY:d.size<=cap):
  Calls Tryz.prog 179 #[.slice (some ⟨aG,off,none⟩) d.size cap,.func (.func g) #[] lb] w λe w'=>e=.returned (.slice (some ⟨aG,off,none⟩) (d.toList.filter λx=>!p x).length cap)/\∃q,w'=putRow enc (Sort.ahead w q) aG off ((d.toList.filter λx=>!p x)++List.replicate (d.size-(d.toList.filter λx=>!p x).length) zr).toArray:=AnyE.slices_DeleteFunc N8 enc hO p g lb eg zr v23 aG off cap d w hp hpo hH bB iY
theorem J5(cv:Int)(w:World):
  Calls Tryz.prog 53 #[.slice none 0 0,.int .u8 cv] w λe w'=>e=.returned (.int .i64 (-1))/\w'=w:=Any.bytes_IndexByte_nil Tl cv w
open Go Go.Sx
set_option maxRecDepth 10000
set_option maxHeartbeats 2000000
theorem S9(c:UInt8)(r:List UInt8):N4 (c :: r)=if (N4 r).isEmpty then (if iK c then [] else [c]) else c :: N4 r:=by
 unfold N4;rw[List.reverse_cons,List.dropWhile_append,List.isEmpty_reverse]
 split
 .by_cases h:iK c=true
  .rw[QB h,YW h];rfl
  .rw[QA h,ZQ h];rfl
 .rw[List.reverse_append];rfl
theorem Aho(s:List UInt8):N4 (Ks s)=Ks (N4 s):=by
 induction s with
 |nil=>rfl
 |cons c r ih =>
  by_cases h:iK c=true
  .rw[Ta h,ih,S9]
   split
   .rename_i he
    rw[List.isEmpty_iff.1 he]
   .rw[Ta h]
  .have e:Ks (c :: r)=c :: r:=by rw[Ks,ZQ h]
   rw[e,S9]
   split
   .rw[Ks,ZQ h]
   .rw[Ks,ZQ h]
theorem Am1(c:UInt8):[32,9].contains c=iK c:=by
 have:∀n:Fin 256,[32,9].contains (UInt8.ofNat n.1)=Am2 (n.1:Int):=by decide
 have h:=this ⟨c.toNat,c.toNat_lt⟩;simp only[UInt8.ofNat_toNat]at h;exact h
theorem S8(s:List UInt8):Lib.trimS s [32,9]=trimF s:=by
 rw[trimF,Aho];unfold Lib.trimS Lib.trimLeftS Lib.trimRightS Ks N4;have e:(λx=>[32,9].contains x)=iK:=funext Am1;rw[e]
def yM:aB:=λ_ xs ls K=>∃(s c:List UInt8),xs=[.str s,.str c]/\ls=[]/\s.length<=9223372036854775807/\c.length<1000/\(c.all λb=>decide (b.toNat<128))=true/\∀r,r=Lib.trimS s c->K (.str r) []
theorem I3:Ap Tryz.prog gl 116 yM:=by
 refine⟨⟨Tryz.f116,_,Tryz.func116,rfl,by kernel_rfl⟩,λxs ls K h=>?_⟩;obtain⟨s,c,rfl,rfl,hs,hc,ha,h⟩:=h;refine⟨_,_,h _ rfl,Bg λE B w aX _ _ _ hr=>?_⟩;obtain⟨v,u,rfl,hv,hu⟩:=D0 hr;rw[Cr hv,Cr hu];refine (Any.strings_Trim_laid Ad5 (by kernel_rfl) ⟨s.toArray⟩ ⟨c.toArray⟩ w (by simpa[ByteArray.size] using hs) (by simp[ByteArray.size];omega) (ascii_of_all (by simpa using ha))).mono ?_;rintro e w' ⟨rfl,hB⟩;exact⟨_,rfl,λE=>.ro (.str rfl),hB⟩
theorem fv:Ap Tryz.prog gl 232 (Akf trimF):=by
 refine Bv (gh:=[]) mixed Ck (Ab I3 Ae) Tryz.func232 (by kernel_rfl) (by kernel_rfl) ?_;intro xs ls K h;unfold Akf at h;obtain⟨s,rfl,rfl,hl,h⟩:=h;obtain⟨k,hk⟩:∃k,k=trimF s:=⟨_,rfl⟩;refine⟨_,_,h k hk,λD hD=>?_⟩;clear h;cbv;refine⟨s,[32,9],rfl,rfl,hl,by decide,by decide,λr hr=>?_⟩;cbv;exact y6 (by rw[hr,hk,S8])
open Go.Sx
def vK:aB:=λ_ xs ls K=>∃(s:List UInt8) (y:Int),xs=[.str s,.int .u8 (.a y)]/\ls=[]/\s.length<=100000/\∀(k:Option (List (List UInt8))) (l:List (List UInt8)) (n:Int) (b nb:Bool) (f:Nat->List SV),k=Nd y s->l=(k.getD []).map trimF->n=(l.length:Int)->b=k.isSome->nb=k.isNone->f=E6 l->K (.aJ [.bV (.a nb) (.a n) 0,.bool (.a b)]) [.own 9 (.a n) 1 true f]
structure SpI(s:List UInt8)(out:List (List UInt8))(a i:Nat)(A I:Int)(m:Nat):Prop where
 at_:At s i I m
 CU:a<=i
 A:ST.den (.a A)=(a:Int)
 out:out.length<=i
 s:s.length<=100000
def DT(s:List UInt8)(y:Int)(k:Option (List (List UInt8)))(m:Nat)(vs:List (Option SV))(hp:List Hl):Prop :=
 ∃(i a:Nat) (I A n:Int) (nl:Bool) (f:Nat->List SV) (out:List (List UInt8)),vs=[some (.str s),some (.int .u8 (.a y)),some (.bV (.a nl) (.a n) 0),some (.int .i64 (.a A)),some (.int .i64 (.a I))]/\hp=[.own 9 (.a n) 1 true f]/\
  SpI s out a i A I m/\Dk f n (out.map trimF)/\k=pV y s out a i
def pt:Option (Nat×List UInt8)->Int
 |none=>0
 |some x=>((1+x.1:Nat):Int)
variable {o:Option (Nat×List UInt8)}{s:List UInt8}{i:Nat}{D:Dn}{k:Option (List (List UInt8))}{kl:List (List UInt8)}{kn:Int}{kb tO:Bool}{kr:Nat->List SV}{x:BT}{c:UInt8}
theorem Ak2(h:(pt o==0)=true):o=none:=by
 cases o with
 |none=>rfl
 |some x=>simp only[pt,QS]at h;omega
theorem Ak3(h:(pt o==0)=false):∃x,o=some x/\pt o=((1+x.1:Nat):Int):=by
 cases o with
 |none=>simp[pt]at h
 |some x=>exact⟨x,rfl,rfl⟩
theorem Yt:Oi (s.drop i)=pt (iN D2 (s.drop (i+1))):=by
 rw[Oi,tK,Akz,ZA,show i+(0+1)=i+1 by omega];cases iN D2 (s.drop (i+1)) with
 |none=>rfl
 |some x=>simp only[pt]
theorem Ag1(hD:D=dn){g:Nat->List SV}(hk:k=none)(mH:kl=(k.getD []).map trimF)(kB:kn=(kl.length:Int))(kY:kb=k.isSome)(kX:tO=k.isNone):
  Fin (.aJ [.bV (.a (D.b (.l true))) (.a (D.i (.l 0))) 0,.bool (.a (D.b (.l false)))]) (.aJ [.bV (.a tO) (.a kn) 0,.bool (.a kb)]) [.own 9 (.a (D.i (.l 0))) 1 true g] [.own 9 (.a kn) 1 true kr]:=by
 subst hD hk;have e:kn=0:=by rw[kB,mH];rfl
 refine Zm (.aJ (.cons (Xl (by rw[kX];rfl) (by rw[e];rfl)) (.cons (Dv (by rw[kY];rfl)) .nil))) (by rw[e];rfl) λi hi=>?_;have hi:(i:Int)<0:=hi;omega
theorem mq(hD:D=dn){l:List (List UInt8)}{f:Nat->List SV}(hk:k=some l)(mH:kl=(k.getD []).map trimF)(kB:kn=(kl.length:Int))(kY:kb=k.isSome)(kX:tO=k.isNone)(wJ:kr=E6 kl)
  {n:Int} (R:Dk f n (l.map trimF))  {y:ST} (hy:y.den=n) (hx:x.den=false):Fin (.aJ [.bV (.a (D.b x)) (.a (D.i y)) 0,.bool (.a (D.b (.l true)))]) (.aJ [.bV (.a tO) (.a kn) 0,.bool (.a kb)]) [.own 9 (.a (D.i y)) 1 true f] [.own 9 (.a kn) 1 true kr]:=by
 subst hD hk;have mH:kl=l.map trimF:=mH;have e:dn.i y=kn:=by show y.den=_;rw[hy,R.n,kB,mH]
 refine Zm (.aJ (.cons (Xl ?_ e) (.cons (Dv (by rw[kY];rfl)) .nil))) e λi hi=>?_
 .rw[kX];exact hx
 .have hi:(i:Int)<dn.i y:=hi
  rw[R.f i (by rw[e,kB,mH]at hi;omega),wJ,mH];rfl
theorem Ake:Ap Tryz.prog gl 178 vK:=by
 refine Bv (gh:=[(1,[.own 6 9]),(9,[.own 4 9]),(12,[.own 4 9])]) mixed Ck (Ab Y6 (Ab Ah9 (Ab fv Ae))) Tryz.func178 (by kernel_rfl) (by kernel_rfl) ?_;intro xs ls K h;unfold vK at h;obtain⟨s,y,rfl,rfl,hl,h⟩:=h;obtain⟨k,hk⟩:∃k,k=Nd y s:=⟨_,rfl⟩;obtain⟨kl,mH⟩:∃kl,kl=(k.getD []).map trimF:=⟨_,rfl⟩;obtain⟨kn,kB⟩:∃kn:Int,kn=(kl.length:Int):=⟨_,rfl⟩;obtain⟨kb,kY⟩:∃kb,kb=k.isSome:=⟨_,rfl⟩;obtain⟨tO,kX⟩:∃tO,tO=k.isNone:=⟨_,rfl⟩;obtain⟨kr,wJ⟩:∃kr,kr=E6 kl:=⟨_,rfl⟩;refine⟨_,_,h k kl kn kb tO kr hk mH kB kY kX wJ,λD hD=>?_⟩;clear h;have hk:k=pV y s [] 0 0:=by
  rw[hk,Nd,pV,Ac3];simp
 cbv;obtain⟨J,hJ⟩:∃J,J=DT s y k:=⟨_,rfl⟩;refine⟨[0,1,6,7,8],J,⟨rfl,s.length,?_⟩,?_⟩
 .rw[hJ]
  subst hD;exact⟨0,0,_,_,_,_,_,[],rfl,rfl,⟨At.zero (by omega),by omega,rfl,by simp,hl⟩,Dk.nil,hk⟩
 clear hk;intro m vs mC hv;rw[hJ]at hv;unfold DT at hv;obtain⟨i,a,I,A,n,nl,f,out,rfl,rfl,V,R,hk⟩:=hv;cbv;refine br hD (λh=>?_) (λh=>?_)<;>cbv
 .have aC:=V.at_.lt (QT (p:=I<(s.length:Int)) h)
  clear h;refine⟨V.at_.RJ hD aC,λc hc=>?_⟩;have fR:=Ns hD V.at_.den hc;clear hc;cbv;refine br hD (λh=>?_) (λh=>?_)<;>cbv
  .have oF:aF s i=34:=by rw[<-fR.aF];have h:(c==34)=true:=h;simpa using h
   clear h;rw[Aic aC V.CU (by rw[oF];decide) oF]at hk;refine⟨by subst hD;exact N5 (s:=s) (j:=s.length) (b:=.len s) V.at_.den rfl (by omega) (QH _),λr1 dB=>?_⟩;have oL:r1=s.drop i:=by
    have:=Td (j:=s.length) (b:=.len s) hD V.at_.den rfl dB;rw[this];exact XI (by simp)
   clear dB;cbv;refine⟨_,rfl,rfl,by have:=V.s;rw[oL,QY];omega,λq hq=>?_⟩;have dA:q=pt (iN D2 (s.drop (i+1))):=by subst hD;rw[hq,oL];exact Yt
   clear hq;cbv;refine br hD (λh=>?_) (λh=>?_)<;>cbv
   .have h:(q==0)=true:=h
    rw[dA]at h;rw[Ak2 h]at hk;exact Ag1 hD hk mH kB kY kX
   .have h:(q==0)=false:=h
    rw[dA]at h;obtain⟨x,hx,hqx⟩:=Ak3 h;rw[hx]at hk;simp only at hk;have hlen:=Yu _ _ x (QH _) hx;rw[QY]at hlen;have oN:ST.den (.bin .add .i64 (.a I) (.a q))=((i+1+x.1:Nat):Int):=by
     have h1:=V.at_.I;have h2:=V.s;show IntKind.i64.wrap (I+q)=_;rw[dA,hqx,wrap64 (by omega) (by omega)];omega
    clear h;refine⟨s.length-(i+1+x.1),by have:=V.at_.m;omega,?_⟩;rw[hJ];subst hD;refine⟨i+1+x.1,a,_,_,_,_,f,out,rfl,rfl,⟨⟨by omega,oN,rfl,V.at_.len⟩,by have:=V.CU;omega,V.A,by have:=V.out;omega,V.s⟩,R,hk⟩
  have oF:aF s i≠34:=by rw[<-fR.aF];have h:(c==34)=false:=h;simpa using h
  clear h;refine⟨_,rfl,rfl,by subst hD;exact fR.le,λr hr=>?_⟩;have cO:r=Ek c:=by subst hD;exact hr
  clear hr;have eF:D2 (aF s i)=!(Ek c==0):=by rw[fR.aF];unfold aF;rw[<-Tj,Ku]
  rw[<-cO]at eF;cbv;refine br hD (λh=>?_) (λh=>?_)<;>cbv
  .have h:(r==0)=true:=h
   rw[iz aC (by rw[eF,h];rfl)]at hk;exact Ag1 hD hk mH kB kY kX
  have hp:D2 (aF s i)=true:=by have h:(r==0)=false:=h;rw[eF,h];rfl
  clear h;refine br hD (λh=>?_) (λh=>?_)<;>cbv
  .have hy:aF s i=y:=by rw[<-fR.aF];have h:(c==y)=true:=h;simpa using h
   clear h;rw[iw aC hp oF hy]at hk;refine⟨by subst hD;exact N5 V.A V.at_.den V.CU (by omega),λr1 dB=>?_⟩;have oL:r1=cut s a i:=Td hD V.A V.at_.den dB;clear dB;cbv;refine⟨_,rfl,rfl,by have:=V.s;rw[oL,cut,QZ,QY];omega,λt ht=>?_⟩;have sS:t=trimF (cut s a i):=by rw[ht,oL]
   clear ht;cbv;intro g hg;have wM:g 0=[.str t]:=hg.h 0 _ rfl;clear hg;cbv;refine⟨?_,λf' n' cY=>?_⟩
   .have:=V.out;have:=V.s;have h:=R.n;rw[XW]at h;subst hD;exact⟨rfl,by show (n+1) * 16<=_;omega,by show n+1<=_;omega⟩
   have R':Dk f' n' ((out++[cut s a i]).map trimF):=by
    subst hD;rw[List.map_append,List.map_singleton];exact R.more (by rw[wM,sS]) cY (by have:=V.out;have:=V.s;rw[XW];omega)
   clear cY wM;cbv;refine⟨s.length-(i+1),(V.at_.step hD aC).1,?_⟩;rw[hJ];subst hD;exact⟨i+1,i+1,_,_,_,_,f',_,rfl,rfl,⟨(V.at_.step rfl aC).2,QH _,(V.at_.step rfl aC).2.I,by have:=V.out;simp;omega,V.s⟩,R',hk⟩
  .have hy:aF s i≠y:=by rw[<-fR.aF];have h:(c==y)=false:=h;simpa using h
   clear h;rw[Ak8 aC V.CU hp oF hy]at hk;refine⟨s.length-(i+1),(V.at_.step hD aC).1,?_⟩;rw[hJ];subst hD;exact⟨i+1,a,_,_,_,_,f,out,rfl,rfl,⟨(V.at_.step rfl aC).2,by have:=V.CU;omega,V.A,by have:=V.out;omega,V.s⟩,R,hk⟩
 .have hi:=V.at_.eq (QW (p:=I<(s.length:Int)) h)
  clear h;rw[iy hi]at hk;refine⟨by subst hD;exact N5 (s:=s) (j:=s.length) (b:=.len s) V.A rfl (by have:=V.CU;omega) (QH _),λr1 dB=>?_⟩;have oL:r1=s.drop a:=by
   have:=Td (j:=s.length) (b:=.len s) hD V.A rfl dB;rw[this];exact XI (by simp)
  clear dB;cbv;refine⟨_,rfl,rfl,by have:=V.s;rw[oL,QY];omega,λt ht=>?_⟩;have sS:t=trimF (s.drop a):=by rw[ht,oL]
  clear ht;cbv;intro g hg;have wM:g 0=[.str t]:=hg.h 0 _ rfl;clear hg;cbv;refine⟨?_,λf' n' cY=>?_⟩
  .have:=V.out;have:=V.s;have h:=R.n;rw[XW]at h;subst hD;exact⟨rfl,by show (n+1) * 16<=_;omega,by show n+1<=_;omega⟩
  have R':Dk f' n' ((out++[s.drop a]).map trimF):=by
   subst hD;rw[List.map_append,List.map_singleton];exact R.more (by rw[wM,sS]) cY (by have:=V.out;have:=V.s;rw[XW];omega)
  clear cY wM;cbv;exact mq hD hk mH kB kY kX wJ R' rfl (by show (nl&&false)=false;simp)
open Go Go.RowKit Go.Sx Go.Sort
set_option maxRecDepth 100000
def Ql(x:ByteArray):Bool:=x.toList.isEmpty
theorem Ac1(x:ByteArray)(w:World):Calls Tryz.prog 180 #[.string x] w λe w'=>e=.returned (.bool (Ql x))/\∃q,w'=w.drewN q:=by
 go_enter Tryz.func180,Tryz.ntmps51
 go_wp2
 go_ret
 exact⟨rfl,0,rfl⟩
theorem Zq(x:List UInt8):(!Ql (Sx.bytes x))=dy x:=by
 unfold Ql dy Sx.bytes;rw[Lib.toList_data];cases x<;>rfl
theorem Zn(l:List (List UInt8)):(l.map Sx.bytes).filter (λx=>!Ql x)=(l.filter dy).map Sx.bytes:=by
 rw[List.filter_map];congr 1;refine List.filter_congr λx _=>Zq x
theorem Am7:∀args w,(callFunc 180 args).run Tryz.prog w=.ok (.enter 180 args) w:=enters_of Tryz.func180 (by kernel_rfl) rfl
theorem Q4{α:Type}[Inhabited α](enc:α->Value)(w:World)(aG off:Nat)(d:Array α)(k:Nat):(putRow enc w aG off d).heap[k]?=if aG=k then (w.heap[k]?).map (onCells (putCells enc off d)) else w.heap[k]?:=by
 unfold putRow mapBlock;simp only[YL]
theorem zl{w:World}{q b:Nat}{cur:Array Value}{fr:Nat×Nat}{t:TypeId}(hg:w.heap[b]?=some (.cells cur t fr))(N:Array ByteArray)(hi:i<N.size)(hc:N.size<=cur.size):(putRow Value.string (Go.Sort.ahead w q) b 0 N).cell? ⟨b,i,none⟩=some (.string N[i]!):=by
 have h1:(putRow Value.string (Go.Sort.ahead w q) b 0 N).heap[b]?=some (.cells (putCells Value.string 0 N cur) t fr):=by
  rw[Q4,QB rfl];have:(Go.Sort.ahead w q).heap[b]?=w.heap[b]?:=rfl;rw[this,hg];rfl
 rw[cell_of_row _ b _ _ _ _ h1];simp only[putCells,Array.getElem?_mapIdx];rw[ZR (by omega),QP,QB ⟨ZB _,by omega⟩];rfl
def DV:aB:=λ_ xs ls K=>∃(l:List (List UInt8)) (nb:Bool) (n:Int) (f:Nat->List SV),xs=[.bV (.a nb) (.a n) 0,.fn 180]/\ls=[.own 9 (.a n) 1 true f]/\Dk f n l/\0<l.length/\∀l' n',l'=l.filter dy->n'=(l'.length:Int)->K (.sl (.a false) (.a n') 1 (E6 l')) [.gone]
theorem Ajg:Ap Tryz.prog gl 179 DV:=by
 refine⟨⟨Tryz.f179,_,Tryz.func179,rfl,by kernel_rfl⟩,λxs ls K h=>?_⟩;obtain⟨l,nb,n,f,rfl,rfl,R,h0,h⟩:=h;refine⟨_,_,h _ _ rfl rfl,?_⟩;intro B E w aX nI IX dV hb hg hh hr;obtain⟨v,m,xs,k1,kz,k2,k3,k4,k5,k6⟩:=hh 0;have k3':n=(m:Int):=k3;have hm:m=l.length:=by have:=R.n;omega
 obtain⟨u,g,rfl,hu,xz⟩:=D0 hr;obtain⟨huv,eK⟩:=Gl hu k1 k2 k3 rfl;subst huv;obtain rfl:g=.func (.func 180) #[] #[]:=by
  cases xz with
  |ro h=>cases h with
   |fn h=>exact h
 rcases k2.2 with⟨e0,e1⟩|⟨b,cap,cur,fr,e0,fU,cE,sU,eY,cX,bT⟩
 .omega
 subst e0;obtain rfl:fr=(0,0):=by
  rcases cE with h|⟨h,_⟩
  .exact h
  .cases h
 have mB:xs.length=l.length:=by rw[k2.1,hm];simp
 have nH:xs=l.map λx=>Value.string (Sx.bytes x):=by
  refine List.ext_getElem (by rw[mB];simp) λi h1 h2=>?_;have hi:i<l.length:=by omega
  have:=k5.2 i 0 (.str (l.getD i [])) xs[i] (by omega) (by rw[R.f i hi];rfl) (by simp[QC h1]);cases this with
  |str h =>
   rw[h,List.getElem_map,QD,QC hi];rfl
 obtain⟨hO,hnI⟩:=k6 b rfl;have aC:b<w.heap.size:=(hb.cR b 0 hO).1;obtain⟨d,hd⟩:∃d,d=(l.map Sx.bytes).toArray:=⟨_,rfl⟩;have uI:d.size=m:=by rw[hd,hm];simp
 have cm:d.toList=l.map Sx.bytes:=by rw[hd]
 have hH:Holds Value.string w b 0 d:=by
  intro j hj;have hj':j<l.length:=by omega
  refine⟨?_,Lib.frozen_of_heap fU _⟩;rw[cell_of_row w b _ cur _ _ fU,XE];have h1:cur.toList[j]?=some (Value.string (Sx.bytes l[j])):=by
   have:(cur.toList.take (m * 1))[j]?=xs[j]?:=by rw[bT]
   rw[QN,QB (by omega),nH]at this;rw[this];simp[QC hj']
  rw[<-QX,h1,getElem!_pos d j hj];simp[hd]
 have hF:(d.toList.filter λx=>!Ql x)=(l.filter dy).map Sx.bytes:=by rw[cm];exact Zn l
 have run:=Lf Value.string (λ_=>rfl) Ql 180 #[] Am7 ⟨#[]⟩ Tryz.zeroValue9 b 0 cap d w (λW x _=>by simpa[FnGives] using Ac1 x W) (λq os dk x _=>by simpa[FnGives] using Ac1 x _) hH (by have:=R.len;omega) (by omega);rw[hF,uI]at run;refine run.mono ?_;clear run;rintro e w' ⟨rfl,q,rfl⟩;obtain⟨l',mG⟩:∃l',l'=l.filter dy:=⟨_,rfl⟩;rw[<-mG];have hle:l'.length<=l.length:=by rw[mG];exact YX _ _
 obtain⟨N,hN⟩:∃N,N=(l'.map Sx.bytes++List.replicate (m-(l'.map Sx.bytes).length) (⟨#[]⟩:ByteArray)).toArray:=⟨_,rfl⟩;rw[<-hN];have hNs:N.size=m:=by rw[hN];simp;omega
 have hNi:∀i,i<l'.length->N[i]! = Sx.bytes (l'.getD i []):=by
  intro i hi;rw[getElem!_pos N i (by omega),QD,QC hi];simp only[hN,List.getElem_toArray];rw[List.getElem_append_left (by simpa using hi)];simp
 have aN:∀i,i<l'.length->(putRow Value.string (Go.Sort.ahead w q) b 0 N).cell? ⟨b,i,none⟩=some (.string (Sx.bytes (l'.getD i []))):=by
  intro i hi;rw[zl fU N (by omega) (by omega),hNi i hi]
 have pJ:∀k,k≠b->(putRow Value.string (Go.Sort.ahead w q) b 0 N).heap[k]?=w.heap[k]?:=λk hk=>by rw[Q4,QA (λe=>hk e.symm)];rfl
 have fR:∀b2 o,b2≠b->(putRow Value.string (Go.Sort.ahead w q) b 0 N).cell? ⟨b2,o,none⟩=w.cell? ⟨b2,o,none⟩:=λb2 o fX=>by simp only[World.cell?];rw[pJ b2 fX]
 have bB:(putRow Value.string (Go.Sort.ahead w q) b 0 N).heap.size=w.heap.size:=by simp[putRow,mapBlock,Go.Sort.ahead]
 have hX:=(hb.cR b 0 hO).2
 let E':Env:=⟨E.β,E.τ,E.O,E.κ,E.ζ,λb2 o=>E.I b2 o\/(b2=b/\o<l'.length)⟩
 refine⟨_,E',rfl,⟨hb.os,hb.tape,hb.output,by rw[bB];exact hb.size,λb2 eL jZ=>?_,λb2 o hi=>?_,λb2 o hi=>?_,λb2 o hi=>?_,λb2 j xM=>?_,⟨hb.cL.β,hb.cL.τ,hb.cL.ζ⟩⟩,λk hk=>?_,?_⟩
 .rw[pJ b2 (λe=>?_)]
  .exact hb.dZ b2 eL jZ
  .subst e
   rcases hX with h|h
   .omega
   .exact jZ h
 .obtain⟨i1,i2⟩:=hb.I0 b2 o hi
  refine⟨.inl i1,?_⟩;rw[fR b2 o (λe=>hnI o (by rw[<-e];exact i1))];exact i2
 .rw[bB]
  rcases hi with hi|⟨rfl,_⟩
  .exact hb.dR b2 o hi
  .exact aC
 .rcases hi with hi|⟨rfl,_⟩
  .exact hb.cC b2 o hi
  .exact .inr hX
 .rw[bB];exact hb.cR b2 j xM
 .obtain rfl:k=0:=by simpa using hk
  trivial
 .refine .ro (.sl (λi j=>.string (Sx.bytes (l'.getD i []))) rfl ?_ ?_ eY (λ_=>rfl) (λi hi=>rfl) (λi j hi hj=>rfl) (λi j hi hj=>?_) (λi j s hi hs=>?_))
  .show (l'.length:Int)=_
   simp
  .simp;omega
  .obtain rfl:j=0:=by omega
   have hi:i<l'.length:=by simpa using hi
   refine⟨?_,.inr ⟨rfl,by simpa using hi⟩⟩;simpa using aN i hi
  .match j,hs with
   |0,hs =>
    have hs:some (SV.str (l'.getD i []))=some s:=hs;cases hs;exact .str rfl
   |j+1,hs=>simp[E6]at hs
set_option maxRecDepth 10000
def Acx(s:List UInt8):Bool:=(A0 s).2 != 0
theorem Rp:Ap Tryz.prog gl 127 (Af1 A0 Acx):=by
 refine Bv (gh:=[]) mixed Ck (Ab Ake (Ab Ajg Ae)) Tryz.func127 (by kernel_rfl) (by kernel_rfl) ?_;intro xs ls K h;unfold Af1 at h;obtain⟨s,rfl,rfl,hl,h⟩:=h;obtain⟨k,hk⟩:∃k,k=A0 s:=⟨_,rfl⟩;obtain⟨kl,ke⟩:=k;obtain⟨kn,kB⟩:∃kn:Int,kn=(kl.length:Int):=⟨_,rfl⟩;obtain⟨tO,kX⟩:∃tO:Bool,tO=(ke != 0):=⟨_,rfl⟩;refine⟨_,_,h kl ke kn tO hk kB (by rw[kX,Acx,<-hk]),λD hD=>?_⟩;clear h;obtain⟨kr,wJ⟩:∃kr,kr=E6 kl:=⟨_,rfl⟩;rw[<-wJ];rw[A0]at hk;cbv;refine br hD (λh=>?_) (λh=>?_)<;>cbv
 .have h:decide (2000<(s.length:Int))=true:=h
  rw[QB (by simpa using h)]at hk;exact Ami (f:=λ_=>[]) hD hk kB wJ Dk.nil rfl (by simp only[Prod.mk.injEq]at hk;rw[kX,hk.2];rfl) rfl
 have h:decide (2000<(s.length:Int))=false:=h;have h2:¬(2000<(s.length:Int)):=by simpa using h
 rw[QA h2]at hk;have hs:s.length<=2000:=by omega
 clear h h2;refine⟨s,_,rfl,rfl,by omega,λk l n b nb f wI mG hn hb iB hf=>?_⟩;have hp:k=Nd 44 s:=by subst hD;exact wI
 clear wI;rw[<-hp]at hk;cbv;refine br hD (λh=>?_) (λh=>?_)<;>cbv
 .have h:(!b)=true:=h
  have oB:k=none:=by
   cases k with
   |none=>rfl
   |some l=>rw[hb]at h;cases h
  rw[oB]at hk;exact Ami (f:=λ_=>[]) hD hk kB wJ Dk.nil rfl (by simp only[Prod.mk.injEq]at hk;rw[kX,hk.2];rfl) rfl
 have h:(!b)=false:=h;obtain⟨l0,rfl⟩:∃l,k=some l:=by
  cases k with
  |none=>rw[hb]at h;cases h
  |some l=>exact⟨l,rfl⟩
 clear h;obtain⟨h1,h2,h3⟩:=Ty hp.symm;simp only[XG]at mG;have jD:l.length=l0.length:=by rw[mG,XW]
 have RL:Dk f n l:=by rw[hf,hn];exact Dk.row (by omega)
 have TU:l.filter dy=Rf l0:=by rw[mG,Rf]
 have aZ:l.filter dy=kl/\ke=0:=by simp only[Prod.mk.injEq]at hk;rw[TU];exact⟨hk.1.symm,hk.2⟩
 refine⟨l,_,_,f,rfl,rfl,by subst hD;exact RL,by omega,λl2 n2 iJ kW=>?_⟩;have hl3:l2=kl:=by rw[iJ,aZ.1]
 have R2:Dk (E6 l2) n2 l2:=by
  rw[kW];refine Dk.row ?_;have:(l.filter dy).length<=l.length:=YX _ _;rw[iJ];omega
 obtain⟨g,hg⟩:∃g,g=E6 l2:=⟨_,rfl⟩;rw[<-hg]at R2 ⊢;cbv;exact Ami (f:=g) (l':=l2) (e':=0) hD (by rw[hl3,aZ.2]) kB wJ R2 rfl (by rw[kX,aZ.2];rfl) rfl
def Bf(c:UInt8):List UInt8->List UInt8×List UInt8×Bool
 | []=>([],[],false)
 |b :: r=>if b==c then ([],r,true) else (b :: (Bf c r).1,(Bf c r).2)
theorem S1(h:(Bf c s).2.2=false):(Bf c s).1=s/\(Bf c s).2.1=[]/\Lib.indexByte s c=-1:=by
 induction s with
 |nil=>exact⟨rfl,rfl,rfl⟩
 |cons b r ih =>
  simp only[Bf]at h ⊢
  split at h
  .cases h
  .rename_i hb
   obtain⟨h1,h2,h3⟩:=ih h;rw[QA hb];refine⟨by rw[h1],h2,?_⟩;rw[Lib.indexByte,QA hb,h3];rfl
theorem Lz(h:(Bf c s).2.2=true):Lib.indexByte s c=((Bf c s).1.length:Int)/\(Bf c s).1=s.take (Bf c s).1.length/\(Bf c s).2.1=s.drop ((Bf c s).1.length+1)/\(Bf c s).1.length<s.length:=by
 induction s with
 |nil=>cases h
 |cons b r ih =>
  simp only[Bf]at h ⊢
  by_cases hb:(b==c)=true
  .simp only[QB hb]
   rw[Lib.indexByte,QB hb];simp
  .rw[QA hb]at h ⊢
   obtain⟨h1,h2,h3,h4⟩:=ih h;rw[Lib.indexByte,QA hb,h1];refine⟨?_,?_,?_,by simp;omega⟩
   .rw[QA (by simp)];simp
   .simp only[QG,YE];rw[<-h2]
   .simp only[QG,UO];exact h3
def uu:aB:=λ_ xs ls K=>∃(s:List UInt8) (c:UInt8),xs=[.str s,.str [c]]/\ls=[]/\∀r:Int,r=Lib.indexByte s c->K (.int .i64 (.a r)) []
theorem Ai1:Ap Tryz.prog gl 228 uu:=by
 refine⟨⟨Tryz.f228,_,Tryz.func228,rfl,by kernel_rfl⟩,λxs ls K h=>?_⟩;obtain⟨s,c,rfl,rfl,h⟩:=h;refine⟨_,_,h _ rfl,Bg λE B w aX _ _ _ hr=>?_⟩;obtain⟨v,u,rfl,hv,hu⟩:=D0 hr;rw[Cr hv,Cr hu];refine (Ir ⟨s.toArray⟩ c w).mono ?_;rintro e w' ⟨rfl,rfl⟩;exact⟨_,rfl,λE=>.ro (.int rfl),RowKit.Below.refl _ _⟩
def vZ:aB:=λ_ xs ls K=>∃(s:List UInt8) (c:UInt8),xs=[.str s,.str [c]]/\ls=[]/\s.length<=100000/\∀a b t,(a,b,t)=Bf c s->K (.aJ [.str a,.str b,.bool (.a t)]) []
theorem Ae8(hD:D=dn){a b a' b':List UInt8}{t:Bool}(h:(a,b,t)=(a',b',x.den)):Fin (.aJ [.str a',.str b',.bool (.a (D.b x))]) (.aJ [.str a,.str b,.bool (.a t)]) [] []:=by
 subst hD;simp only[Prod.mk.injEq]at h;obtain⟨rfl,rfl,rfl⟩:=h;exact C6 (aO.refl _)
theorem Amv:Ap Tryz.prog gl 169 vZ:=by
 refine Bv (gh:=[]) mixed Ck (Ab Ai1 Ae) Tryz.func169 (by kernel_rfl) (by kernel_rfl) ?_;intro xs ls K h;unfold vZ at h;obtain⟨s,c,rfl,rfl,hl,h⟩:=h;obtain⟨k,hk⟩:∃k,k=Bf c s:=⟨_,rfl⟩;obtain⟨ka,kb,kt⟩:=k;refine⟨_,_,h ka kb kt hk,λD hD=>?_⟩;clear h;cbv;refine⟨s,c,rfl,rfl,λr hr=>?_⟩;cbv;refine br hD (λh=>?_) (λh=>?_)<;>cbv
 .have h0:0<=r:=QT (p:=0<=r) h
  have hy:(Bf c s).2.2=true:=by
   cases hb:(Bf c s).2.2 with
   |true=>rfl
   |false=>rw[(S1 hb).2.2]at hr;omega
  obtain⟨y1,y2,y3,y4⟩:=Lz hy;rw[<-hk]at y1 y2 y3 y4 hy;simp only at y1 y2 y3 y4 hy;rw[<-hr]at y1;have jK:(ka,kb,kt)=(ka,kb,true):=by rw[hy]
  clear hk hy h h0 hr;have yr:ST.den (.a r)=((ka.length:Nat):Int):=y1;have yr2:ST.den (.bin .add .i64 (.a r) (.len [c]))=((ka.length+1:Nat):Int):=by
   show IntKind.i64.wrap (r+(([c]:List UInt8).length:Int))=_;rw[y1,List.length_singleton,wrap64 (by omega) (by omega)];omega
  refine⟨by subst hD;exact N5 (s:=s) (i:=0) (a:=.l 0) rfl yr (by omega) (by omega),λr1 dB=>?_⟩;have oL:r1=ka:=by
   have:=Td (i:=0) (a:=.l 0) hD rfl yr dB;rw[this];exact y2.symm
  clear dB;cbv;refine⟨by subst hD;exact N5 (s:=s) (j:=s.length) (b:=.len s) yr2 rfl (by omega) (QH _),λr2 cO=>?_⟩;have SP:r2=kb:=by
   have:=Td (j:=s.length) (b:=.len s) hD yr2 rfl cO;rw[this,y3];exact XI (by simp)
  clear cO;cbv;refine Ae8 (x:=.l true) hD ?_;rw[jK,oL,SP];rfl
 .have h0:¬0<=r:=QW (p:=0<=r) h
  have hy:(Bf c s).2.2=false:=by
   cases hb:(Bf c s).2.2 with
   |false=>rfl
   |true=>rw[(Lz hb).1]at hr;omega
  obtain⟨y1,y2,y3⟩:=S1 hy;refine Ae8 (x:=.l false) hD ?_;rw[hk];exact YF y1 (YF y2 hy)
theorem zo:Ap Tryz.prog gl 119 vZ:=by
 refine Bv (gh:=[]) mixed Ck (Ab Amv Ae) Tryz.func119 (by kernel_rfl) (by kernel_rfl) ?_;intro xs ls K h;unfold vZ at h;obtain⟨s,c,rfl,rfl,hl,h⟩:=h;obtain⟨k,hk⟩:∃k,k=Bf c s:=⟨_,rfl⟩;obtain⟨ka,kb,kt⟩:=k;refine⟨_,_,h ka kb kt hk,λD hD=>?_⟩;clear h;cbv;refine⟨s,c,rfl,rfl,hl,λa b t he=>?_⟩;cbv;exact Ae8 hD (by rw[hk,<-he];rfl)
set_option maxRecDepth 100000
set_option maxHeartbeats 8000000
def Dr(c:Nat):Int :=
 if (48<=c/\c<=57)\/(65<=c/\c<=90)\/(97<=c/\c<=122)\/c=45\/c=46\/c=95\/c=126 then 1
 else if c=33\/c=36\/(38<=c/\c<=44)\/c=47\/c=58\/c=59\/c=61\/c=64 then 2 else 0
def dX:List SV:=(List.range 256).map λc=>.int .u8 (.a (Dr c))
def ur:aB:=λ_ xs ls K=>∃(s:List UInt8) (c:Int),xs=[.str s,.int .u8 (.a c)]/\ls=[]/\(0<=c/\c<=255)/\∀r,r=Lib.indexByte s (UInt8.ofNat c.toNat)->K (.int .i64 (.a r)) []
end Go.Proofs.YtdoogdbjiijifaaGreatDoor
