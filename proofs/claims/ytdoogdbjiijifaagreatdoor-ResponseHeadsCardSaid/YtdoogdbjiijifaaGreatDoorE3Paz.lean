/- Part of the proofs of the statements about responses and messages (layers 9 and 10): a symbolic executor over the code, that it is sound, and contracts of functions; it has no conditions of its own. -/
import Derived.Shelf.Strconv.ErrVarParseInt
import Derived.Shelf.Strconv.ParseIntPublic10
import Derived.Shelf.Strings.SlTrimAscii
import Derived.Shelf.Strings.Builder1
import Derived.Shelf.Strings.Builder2
import Derived.Shelf.Strings.OnBuilder
import Derived.Shelf.Strings.Trim
import Derived.Shelf.Small.Utf8
import Derived.Shelf.Small.Strs
import Derived.Shelf.Small.Wraps
import Derived.Shelf.Strings.BuilderF
import Derived.Shelf.Strings.BuilderK
import Derived.Shelf.Strings.BuilderRune
import Derived.Shelf.Strings.Builder2Cap
import Derived.Shelf.Strconv.Atoi
import Derived.Shelf.Strconv.Itoa0
import Derived.Shelf.Strconv.Itoa1
import Derived.Shelf.LaysM
import Derived.Shelf.Strconv.Itoa2
import Derived.Shelf.Strconv.Itoa3
import Derived.Shelf.Strconv.Itoa4
import Derived.Shelf.Strconv.ParseIntEmpty
import Derived.Shelf.Strconv.Clone
import Derived.Shelf.Strconv.SyntaxError
import Derived.Shelf.LaysC
import Derived.Shelf.Strconv.ToError
import Derived.Shelf.Strconv.Lower
import Derived.Shelf.Strconv.ParseUint10
import Derived.Shelf.Strconv.ParseUint10Empty
import Derived.Shelf.Strconv.ParseUint10Any
import Derived.Shelf.Strconv.ParseInt10
import Derived.Shelf.Strconv.RangeError
import Derived.Shelf.Strconv.ToErrorRange
import Derived.Shelf.Strconv.ParseUintEmpty
import Derived.Shelf.Strconv.ParseUint10b64
import Derived.Shelf.Strconv.ParseUint10b32
import Derived.Shelf.Strconv.ParseUint10b16
import Derived.Shelf.Strconv.ParseUint10b8
import Derived.Shelf.Strconv.ParseUint10At
import Derived.Shelf.Strconv.ParseInt10At64
import Derived.Shelf.Strconv.ParseInt10At32
import Derived.Shelf.Strconv.ParseInt10At16
import Derived.Shelf.Strconv.ParseInt10At8
import Derived.Shelf.Strconv.ParseInt10All
import Derived.Shelf.Strings.Search1
import Derived.Shelf.Strings.Search2
import Derived.Shelf.Strings.Search3
import Derived.Shelf.Strings.Cut
import Derived.Shelf.Strings.Shaped
import Derived.Shelf.GgClosure.StringsIndexFunc
import Derived.Ground.GgwProg
import Derived.Shelf.GgClosure.StringsIndexFuncTop
import Derived.Shelf.Strings.Prefix
import Derived.Shelf.Unicode.Latin
import Derived.Shelf.Unicode.Decode
import Derived.Shelf.Strings.Runes
import Derived.Shelf.Strings.AsciiSet
import Derived.Shelf.Unicode.DecodeSlow
import Derived.Shelf.Unicode.DecodeAny
import Derived.Shelf.Unicode.DecodeLast
import Derived.Shelf.Unicode.CaseLookup
import Derived.Shelf.Unicode.CaseConvert
import Derived.Shelf.Unicode.CaseTo
import Derived.Shelf.Unicode.CaseLaid
import Derived.Shelf.Strings.FuncGrows
import Derived.Shelf.Strings.BuilderCap
import Derived.Shelf.Bytes.SlIndexAt
import Derived.Ground.SlgnProg
import Derived.Shelf.SlicesE.Equal
import Derived.Ground.SlgfProg
import Derived.Shelf.SlicesE.IndexFunc
import Derived.Shelf.SlicesE.DeleteFunc
import Derived.Shelf.Bytes.IndexByte
import Derived.Test.YtdoogdbjiijifaaGreatDoorE3Pay
namespace Go.Proofs.YtdoogdbjiijifaaGreatDoor
open Go Go.Shelf Go.RowKit Go.Sort Go.Lib
set_option maxRecDepth 100000
set_option maxHeartbeats 4000000
def sh_lays159_ren:Go.Shelf.Ren:=⟨fun|159=>195|165=>247|166=>142|167=>248|169=>143|230=>249|204=>250|240=>196|241=>282|197=>220|118=>283|168=>284|270=>285|262=>286|276=>251|277=>304|260=>267|242=>305|313=>306|278=>311|274=>312|275=>313|n=>n,fun|9=>9|4=>4|3=>3|5=>5|72=>180|0=>0|76=>158|75=>157|107=>258|70=>178|20=>20|37=>22|127=>225|21=>21|105=>233|164=>259|162=>313|203=>311|119=>261|46=>278|139=>301|138=>300|51=>285|160=>320|208=>326|206=>324|80=>181|n=>n,fun|13=>7|3=>5|4=>6|n=>n⟩
theorem Ac8:Go.Proofs.Lays.n159 Tryz.prog sh_lays159_ren:={
 mixed:=by kernel_rfl
 f118:=Tryz.func283.trans (congrArg some (by kernel_rfl))
 f159:=Tryz.func195.trans (congrArg some (by kernel_rfl))
 f165:=Tryz.func247.trans (congrArg some (by kernel_rfl))
 f166:=Tryz.func142.trans (congrArg some (by kernel_rfl))
 f167:=Tryz.func248.trans (congrArg some (by kernel_rfl))
 f168:=Tryz.func284.trans (congrArg some (by kernel_rfl))
 f169:=Tryz.func143.trans (congrArg some (by kernel_rfl))
 f197:=Tryz.func220.trans (congrArg some (by kernel_rfl))
 f204:=Tryz.func250.trans (congrArg some (by kernel_rfl))
 f230:=Tryz.func249.trans (congrArg some (by kernel_rfl))
 f240:=Tryz.func196.trans (congrArg some (by kernel_rfl))
 f241:=Tryz.func282.trans (congrArg some (by kernel_rfl))
 f242:=Tryz.func305.trans (congrArg some (by kernel_rfl))
 f260:=Tryz.func267.trans (congrArg some (by kernel_rfl))
 f262:=Tryz.func286.trans (congrArg some (by kernel_rfl))
 f270:=Tryz.func285.trans (congrArg some (by kernel_rfl))
 f274:=Tryz.func312.trans (congrArg some (by kernel_rfl))
 f275:=Tryz.func313.trans (congrArg some (by kernel_rfl))
 f276:=Tryz.func251.trans (congrArg some (by kernel_rfl))
 f277:=Tryz.func304.trans (congrArg some (by kernel_rfl))
 f278:=Tryz.func311.trans (congrArg some (by kernel_rfl))
 f313:=Tryz.func306.trans (congrArg some (by kernel_rfl))
 t0:=Tryz.underlying0
 a0:=Tryz.isAgg0
 z0:=Tryz.sizeOf0
 v0:=Tryz.zeroValue0
 t3:=Tryz.underlying3
 a3:=Tryz.isAgg3
 z3:=Tryz.sizeOf3
 v3:=Tryz.zeroValue3
 t4:=Tryz.underlying4
 a4:=Tryz.isAgg4
 z4:=Tryz.sizeOf4
 v4:=Tryz.zeroValue4
 t5:=Tryz.underlying5
 a5:=Tryz.isAgg5
 z5:=Tryz.sizeOf5
 v5:=Tryz.zeroValue5
 t9:=Tryz.underlying9
 a9:=Tryz.isAgg9
 z9:=Tryz.sizeOf9
 v9:=Tryz.zeroValue9
 t20:=Tryz.underlying20
 a20:=Tryz.isAgg20
 z20:=Tryz.sizeOf20
 v20:=Tryz.zeroValue20
 t21:=Tryz.underlying21
 a21:=Tryz.isAgg21
 z21:=Tryz.sizeOf21
 v21:=Tryz.zeroValue21
 t37:=Tryz.underlying22
 a37:=Tryz.isAgg22
 z37:=Tryz.sizeOf22
 v37:=Tryz.zeroValue22
 t46:=Tryz.underlying278
 a46:=Tryz.isAgg278
 z46:=Tryz.sizeOf278
 v46:=Tryz.zeroValue278
 t51:=Tryz.underlying285
 a51:=Tryz.isAgg285
 z51:=Tryz.sizeOf285
 v51:=Tryz.zeroValue285
 t70:=Tryz.underlying178
 a70:=Tryz.isAgg178
 z70:=Tryz.sizeOf178
 v70:=Tryz.zeroValue178
 t72:=Tryz.underlying180
 a72:=Tryz.isAgg180
 z72:=Tryz.sizeOf180
 v72:=Tryz.zeroValue180
 t75:=Tryz.underlying157
 a75:=Tryz.isAgg157
 z75:=Tryz.sizeOf157
 v75:=Tryz.zeroValue157
 t76:=Tryz.underlying158
 a76:=Tryz.isAgg158
 z76:=Tryz.sizeOf158
 v76:=Tryz.zeroValue158
 t105:=Tryz.underlying233
 a105:=Tryz.isAgg233
 z105:=Tryz.sizeOf233
 v105:=Tryz.zeroValue233
 t107:=Tryz.underlying258
 a107:=Tryz.isAgg258
 z107:=Tryz.sizeOf258
 v107:=Tryz.zeroValue258
 t119:=Tryz.underlying261
 a119:=Tryz.isAgg261
 z119:=Tryz.sizeOf261
 t127:=Tryz.underlying225
 a127:=Tryz.isAgg225
 z127:=Tryz.sizeOf225
 v127:=Tryz.zeroValue225
 t138:=Tryz.underlying300
 a138:=Tryz.isAgg300
 z138:=Tryz.sizeOf300
 v138:=Tryz.zeroValue300
 t139:=Tryz.underlying301
 a139:=Tryz.isAgg301
 z139:=Tryz.sizeOf301
 v139:=Tryz.zeroValue301
 t160:=Tryz.underlying320
 a160:=Tryz.isAgg320
 z160:=Tryz.sizeOf320
 v160:=Tryz.zeroValue320
 t162:=Tryz.underlying313
 a162:=Tryz.isAgg313
 z162:=Tryz.sizeOf313
 v162:=Tryz.zeroValue313
 t164:=Tryz.underlying259
 a164:=Tryz.isAgg259
 z164:=Tryz.sizeOf259
 v164:=Tryz.zeroValue259
 t203:=Tryz.underlying311
 a203:=Tryz.isAgg311
 z203:=Tryz.sizeOf311
 v203:=Tryz.zeroValue311
 t206:=Tryz.underlying324
 a206:=Tryz.isAgg324
 z206:=Tryz.sizeOf324
 v206:=Tryz.zeroValue324
 t208:=Tryz.underlying326
 a208:=Tryz.isAgg326
 z208:=Tryz.sizeOf326
 v208:=Tryz.zeroValue326
 g3:=by kernel_rfl
 g4:=by kernel_rfl
 g13:=by kernel_rfl }
theorem K2:Builder.Extra Tryz.prog sh_lays159_ren:={
 sizeBuilder:=by kernel_rfl
 liesBuilder:=by kernel_rfl
 t5:=Tryz.underlying5
 a5:=Tryz.isAgg5
 z5:=Tryz.sizeOf5
 v5:=Tryz.zeroValue5
 infoByte:=by kernel_rfl
 cellsByte:=by kernel_rfl
 sizeByte:=by kernel_rfl
 neB5:=by decide }
theorem Im(s:ByteArray)(w:World)(hs:s.size<=140737488355328)(hascii:∀(j:Nat) (b:UInt8),s.data.toList[j]?=some b->b.toNat<128):
  Calls Tryz.prog 195 #[.string s] w λe w'=>e=.returned (.string ⟨(Lib.toLowerA s.data.toList).toArray⟩)/\Below w.heap.size w w':=Any.strings_ToLower_ascii Ac8 K2 s w hs hascii
def sh_lays160_ren:Go.Shelf.Ren:=⟨fun|160=>116|232=>160|231=>159|227=>161|234=>163|233=>162|236=>165|235=>164|228=>219|271=>222|151=>221|197=>220|120=>269|152=>268|260=>267|137=>239|119=>297|224=>275|225=>274|217=>273|266=>300|n=>n,fun|9=>9|4=>4|3=>3|5=>5|117=>199|116=>198|0=>0|124=>202|21=>21|105=>233|46=>278|119=>261|139=>301|138=>300|n=>n,fun|3=>5|4=>6|n=>n⟩
theorem Ac7:Go.Proofs.Lays.n160 Tryz.prog sh_lays160_ren:={
 mixed:=by kernel_rfl
 f119:=Tryz.func297.trans (congrArg some (by kernel_rfl))
 f120:=Tryz.func269.trans (congrArg some (by kernel_rfl))
 f137:=Tryz.func239.trans (congrArg some (by kernel_rfl))
 f151:=Tryz.func221.trans (congrArg some (by kernel_rfl))
 f152:=Tryz.func268.trans (congrArg some (by kernel_rfl))
 f160:=Tryz.func116.trans (congrArg some (by kernel_rfl))
 f197:=Tryz.func220.trans (congrArg some (by kernel_rfl))
 f217:=Tryz.func273.trans (congrArg some (by kernel_rfl))
 f224:=Tryz.func275.trans (congrArg some (by kernel_rfl))
 f225:=Tryz.func274.trans (congrArg some (by kernel_rfl))
 f227:=Tryz.func161.trans (congrArg some (by kernel_rfl))
 f228:=Tryz.func219.trans (congrArg some (by kernel_rfl))
 f231:=Tryz.func159.trans (congrArg some (by kernel_rfl))
 f232:=Tryz.func160.trans (congrArg some (by kernel_rfl))
 f233:=Tryz.func162.trans (congrArg some (by kernel_rfl))
 f234:=Tryz.func163.trans (congrArg some (by kernel_rfl))
 f235:=Tryz.func164.trans (congrArg some (by kernel_rfl))
 f236:=Tryz.func165.trans (congrArg some (by kernel_rfl))
 f260:=Tryz.func267.trans (congrArg some (by kernel_rfl))
 f266:=Tryz.func300.trans (congrArg some (by kernel_rfl))
 f271:=Tryz.func222.trans (congrArg some (by kernel_rfl))
 t0:=Tryz.underlying0
 a0:=Tryz.isAgg0
 z0:=Tryz.sizeOf0
 v0:=Tryz.zeroValue0
 t3:=Tryz.underlying3
 a3:=Tryz.isAgg3
 z3:=Tryz.sizeOf3
 v3:=Tryz.zeroValue3
 t4:=Tryz.underlying4
 a4:=Tryz.isAgg4
 z4:=Tryz.sizeOf4
 v4:=Tryz.zeroValue4
 t5:=Tryz.underlying5
 a5:=Tryz.isAgg5
 z5:=Tryz.sizeOf5
 v5:=Tryz.zeroValue5
 t9:=Tryz.underlying9
 a9:=Tryz.isAgg9
 z9:=Tryz.sizeOf9
 v9:=Tryz.zeroValue9
 t21:=Tryz.underlying21
 a21:=Tryz.isAgg21
 z21:=Tryz.sizeOf21
 v21:=Tryz.zeroValue21
 t46:=Tryz.underlying278
 a46:=Tryz.isAgg278
 z46:=Tryz.sizeOf278
 v46:=Tryz.zeroValue278
 t105:=Tryz.underlying233
 a105:=Tryz.isAgg233
 z105:=Tryz.sizeOf233
 v105:=Tryz.zeroValue233
 t116:=Tryz.underlying198
 a116:=Tryz.isAgg198
 z116:=Tryz.sizeOf198
 t117:=Tryz.underlying199
 a117:=Tryz.isAgg199
 z117:=Tryz.sizeOf199
 v117:=Tryz.zeroValue199
 t119:=Tryz.underlying261
 a119:=Tryz.isAgg261
 z119:=Tryz.sizeOf261
 t124:=Tryz.underlying202
 a124:=Tryz.isAgg202
 z124:=Tryz.sizeOf202
 v124:=Tryz.zeroValue202
 t138:=Tryz.underlying300
 a138:=Tryz.isAgg300
 z138:=Tryz.sizeOf300
 v138:=Tryz.zeroValue300
 t139:=Tryz.underlying301
 a139:=Tryz.isAgg301
 z139:=Tryz.sizeOf301
 v139:=Tryz.zeroValue301
 g3:=by kernel_rfl
 g4:=by kernel_rfl }
def sh_lays137_ren:Go.Shelf.Ren:=⟨fun|137=>239|217=>273|266=>300|n=>n,fun|9=>9|5=>5|3=>3|n=>n,fun|n=>n⟩
theorem Ada:Go.Proofs.Lays.n137 Tryz.prog sh_lays137_ren:={
 mixed:=by kernel_rfl
 f137:=Tryz.func239.trans (congrArg some (by kernel_rfl))
 f217:=Tryz.func273.trans (congrArg some (by kernel_rfl))
 f266:=Tryz.func300.trans (congrArg some (by kernel_rfl))
 t3:=Tryz.underlying3
 a3:=Tryz.isAgg3
 z3:=Tryz.sizeOf3
 v3:=Tryz.zeroValue3
 t5:=Tryz.underlying5
 a5:=Tryz.isAgg5
 z5:=Tryz.sizeOf5
 v5:=Tryz.zeroValue5
 t9:=Tryz.underlying9
 a9:=Tryz.isAgg9
 z9:=Tryz.sizeOf9
 v9:=Tryz.zeroValue9 }
theorem Ky(s:ByteArray)(c:Int)(w:World):
  Calls Tryz.prog 239 #[.string s,.int .u8 c] w λe w'=>e=.returned (.int .i64 (Lib.indexByte s.data.toList c.toNat.toUInt8))/\w'=w:=Any.strings_IndexByte Ada s c w
def sh_lays103_ren:Go.Shelf.Ren:=⟨fun|103=>55|210=>113|206=>157|n=>n,fun|9=>9|4=>4|24=>95|3=>3|n=>n,fun|n=>n⟩
theorem Adc:Go.Proofs.Lays.n103 Tryz.prog sh_lays103_ren:={
 mixed:=by kernel_rfl
 f103:=Tryz.func55.trans (congrArg some (by kernel_rfl))
 f206:=Tryz.func157.trans (congrArg some (by kernel_rfl))
 f210:=Tryz.func113.trans (congrArg some (by kernel_rfl))
 t3:=Tryz.underlying3
 a3:=Tryz.isAgg3
 z3:=Tryz.sizeOf3
 v3:=Tryz.zeroValue3
 t4:=Tryz.underlying4
 a4:=Tryz.isAgg4
 z4:=Tryz.sizeOf4
 v4:=Tryz.zeroValue4
 t9:=Tryz.underlying9
 a9:=Tryz.isAgg9
 z9:=Tryz.sizeOf9
 v9:=Tryz.zeroValue9
 t24:=Tryz.underlying95
 a24:=Tryz.isAgg95
 z24:=Tryz.sizeOf95
 v24:=Tryz.zeroValue95 }
theorem K0(s p:ByteArray)(w:World):
  Calls Tryz.prog 55 #[.string s,.string p] w λe w'=>e=.returned (.tuple #[.string ⟨(Lib.trimPrefix s.data.toList p.data.toList).toArray⟩,.bool (Lib.hasPrefix s.data.toList p.data.toList)])/\w'=w:=Any.strings_CutPrefix Adc s p w
def sh_lays104_ren:Go.Shelf.Ren:=⟨fun|104=>54|211=>112|207=>156|n=>n,fun|9=>9|4=>4|24=>95|3=>3|n=>n,fun|n=>n⟩
theorem Adb:Go.Proofs.Lays.n104 Tryz.prog sh_lays104_ren:={
 mixed:=by kernel_rfl
 f104:=Tryz.func54.trans (congrArg some (by kernel_rfl))
 f207:=Tryz.func156.trans (congrArg some (by kernel_rfl))
 f211:=Tryz.func112.trans (congrArg some (by kernel_rfl))
 t3:=Tryz.underlying3
 a3:=Tryz.isAgg3
 z3:=Tryz.sizeOf3
 v3:=Tryz.zeroValue3
 t4:=Tryz.underlying4
 a4:=Tryz.isAgg4
 z4:=Tryz.sizeOf4
 v4:=Tryz.zeroValue4
 t9:=Tryz.underlying9
 a9:=Tryz.isAgg9
 z9:=Tryz.sizeOf9
 v9:=Tryz.zeroValue9
 t24:=Tryz.underlying95
 a24:=Tryz.isAgg95
 z24:=Tryz.sizeOf95
 v24:=Tryz.zeroValue95 }
theorem Kz(s p:ByteArray)(w:World)(hs:s.size<=9223372036854775807):
  Calls Tryz.prog 54 #[.string s,.string p] w λe w'=>e=.returned (.tuple #[.string ⟨(Lib.trimSuffix s.data.toList p.data.toList).toArray⟩,.bool (Lib.hasSuffix s.data.toList p.data.toList)])/\w'=w:=Any.strings_CutSuffix Adb s p w hs
def sh_lays172_ren:Go.Shelf.Ren:=⟨fun|172=>117|244=>166|245=>167|247=>223|279=>224|280=>225|281=>226|282=>227|287=>270|316=>271|171=>83|205=>272|321=>298|322=>299|243=>139|246=>191|283=>241|284=>242|285=>243|286=>244|129=>278|317=>277|318=>279|319=>280|320=>281|337=>302|338=>303|n=>n,fun|9=>9|3=>3|75=>157|76=>158|4=>4|5=>5|167=>236|37=>22|0=>0|85=>237|2=>2|168=>239|53=>249|175=>276|46=>278|210=>280|127=>225|145=>305|143=>303|21=>21|171=>248|173=>252|212=>284|51=>285|20=>20|213=>286|232=>318|233=>319|80=>181|n=>n,fun|15=>2|16=>3|17=>4|18=>8|19=>9|n=>n⟩
theorem Ac6:Go.Proofs.Lays.n172 Tryz.prog sh_lays172_ren:={
 mixed:=by kernel_rfl
 f129:=Tryz.func278.trans (congrArg some (by kernel_rfl))
 f171:=Tryz.func83.trans (congrArg some (by kernel_rfl))
 f172:=Tryz.func117.trans (congrArg some (by kernel_rfl))
 f205:=Tryz.func272.trans (congrArg some (by kernel_rfl))
 f243:=Tryz.func139.trans (congrArg some (by kernel_rfl))
 f244:=Tryz.func166.trans (congrArg some (by kernel_rfl))
 f245:=Tryz.func167.trans (congrArg some (by kernel_rfl))
 f246:=Tryz.func191.trans (congrArg some (by kernel_rfl))
 f247:=Tryz.func223.trans (congrArg some (by kernel_rfl))
 f279:=Tryz.func224.trans (congrArg some (by kernel_rfl))
 f280:=Tryz.func225.trans (congrArg some (by kernel_rfl))
 f281:=Tryz.func226.trans (congrArg some (by kernel_rfl))
 f282:=Tryz.func227.trans (congrArg some (by kernel_rfl))
 f283:=Tryz.func241.trans (congrArg some (by kernel_rfl))
 f284:=Tryz.func242.trans (congrArg some (by kernel_rfl))
 f285:=Tryz.func243.trans (congrArg some (by kernel_rfl))
 f286:=Tryz.func244.trans (congrArg some (by kernel_rfl))
 f287:=Tryz.func270.trans (congrArg some (by kernel_rfl))
 f316:=Tryz.func271.trans (congrArg some (by kernel_rfl))
 f317:=Tryz.func277.trans (congrArg some (by kernel_rfl))
 f318:=Tryz.func279.trans (congrArg some (by kernel_rfl))
 f319:=Tryz.func280.trans (congrArg some (by kernel_rfl))
 f320:=Tryz.func281.trans (congrArg some (by kernel_rfl))
 f321:=Tryz.func298.trans (congrArg some (by kernel_rfl))
 f322:=Tryz.func299.trans (congrArg some (by kernel_rfl))
 f337:=Tryz.func302.trans (congrArg some (by kernel_rfl))
 f338:=Tryz.func303.trans (congrArg some (by kernel_rfl))
 t0:=Tryz.underlying0
 a0:=Tryz.isAgg0
 z0:=Tryz.sizeOf0
 v0:=Tryz.zeroValue0
 t2:=Tryz.underlying2
 a2:=Tryz.isAgg2
 z2:=Tryz.sizeOf2
 v2:=Tryz.zeroValue2
 t3:=Tryz.underlying3
 a3:=Tryz.isAgg3
 z3:=Tryz.sizeOf3
 v3:=Tryz.zeroValue3
 t4:=Tryz.underlying4
 a4:=Tryz.isAgg4
 z4:=Tryz.sizeOf4
 v4:=Tryz.zeroValue4
 t5:=Tryz.underlying5
 a5:=Tryz.isAgg5
 z5:=Tryz.sizeOf5
 v5:=Tryz.zeroValue5
 t9:=Tryz.underlying9
 a9:=Tryz.isAgg9
 z9:=Tryz.sizeOf9
 v9:=Tryz.zeroValue9
 t20:=Tryz.underlying20
 a20:=Tryz.isAgg20
 z20:=Tryz.sizeOf20
 v20:=Tryz.zeroValue20
 t21:=Tryz.underlying21
 a21:=Tryz.isAgg21
 z21:=Tryz.sizeOf21
 v21:=Tryz.zeroValue21
 t37:=Tryz.underlying22
 a37:=Tryz.isAgg22
 z37:=Tryz.sizeOf22
 v37:=Tryz.zeroValue22
 t46:=Tryz.underlying278
 a46:=Tryz.isAgg278
 z46:=Tryz.sizeOf278
 v46:=Tryz.zeroValue278
 t51:=Tryz.underlying285
 a51:=Tryz.isAgg285
 z51:=Tryz.sizeOf285
 v51:=Tryz.zeroValue285
 t53:=Tryz.underlying249
 a53:=Tryz.isAgg249
 z53:=Tryz.sizeOf249
 v53:=Tryz.zeroValue249
 t75:=Tryz.underlying157
 a75:=Tryz.isAgg157
 z75:=Tryz.sizeOf157
 v75:=Tryz.zeroValue157
 t76:=Tryz.underlying158
 a76:=Tryz.isAgg158
 z76:=Tryz.sizeOf158
 v76:=Tryz.zeroValue158
 t85:=Tryz.underlying237
 a85:=Tryz.isAgg237
 z85:=Tryz.sizeOf237
 v85:=Tryz.zeroValue237
 t127:=Tryz.underlying225
 a127:=Tryz.isAgg225
 z127:=Tryz.sizeOf225
 v127:=Tryz.zeroValue225
 t143:=Tryz.underlying303
 a143:=Tryz.isAgg303
 z143:=Tryz.sizeOf303
 v143:=Tryz.zeroValue303
 t145:=Tryz.underlying305
 a145:=Tryz.isAgg305
 z145:=Tryz.sizeOf305
 v145:=Tryz.zeroValue305
 t167:=Tryz.underlying236
 a167:=Tryz.isAgg236
 z167:=Tryz.sizeOf236
 v167:=Tryz.zeroValue236
 t168:=Tryz.underlying239
 a168:=Tryz.isAgg239
 z168:=Tryz.sizeOf239
 v168:=Tryz.zeroValue239
 t171:=Tryz.underlying248
 a171:=Tryz.isAgg248
 z171:=Tryz.sizeOf248
 v171:=Tryz.zeroValue248
 t173:=Tryz.underlying252
 a173:=Tryz.isAgg252
 z173:=Tryz.sizeOf252
 v173:=Tryz.zeroValue252
 t175:=Tryz.underlying276
 a175:=Tryz.isAgg276
 z175:=Tryz.sizeOf276
 v175:=Tryz.zeroValue276
 t210:=Tryz.underlying280
 a210:=Tryz.isAgg280
 z210:=Tryz.sizeOf280
 v210:=Tryz.zeroValue280
 t212:=Tryz.underlying284
 a212:=Tryz.isAgg284
 z212:=Tryz.sizeOf284
 v212:=Tryz.zeroValue284
 t213:=Tryz.underlying286
 a213:=Tryz.isAgg286
 z213:=Tryz.sizeOf286
 t232:=Tryz.underlying318
 a232:=Tryz.isAgg318
 z232:=Tryz.sizeOf318
 v232:=Tryz.zeroValue318
 t233:=Tryz.underlying319
 a233:=Tryz.isAgg319
 z233:=Tryz.sizeOf319
 v233:=Tryz.zeroValue319
 g15:=by kernel_rfl
 g16:=by kernel_rfl
 g17:=by kernel_rfl
 g18:=by kernel_rfl
 g19:=by kernel_rfl }
theorem Rj(s:ByteArray)(n:Int)(hl:s.size<=18)(h:Lib.atoi s.data.toList=some n)(w:World):
  Calls Tryz.prog 117 #[.string s] w λe w'=>e=.returned (.tuple #[.int .i64 n,.nilIface])/\∃t,w'=Lib.bytesWorld w 5 t:=Any.strconv_Atoi Ac6 s n hl h w
def sh_lays219_ren:Go.Shelf.Ren:=⟨fun|219=>228|217=>273|225=>274|224=>275|267=>276|266=>300|314=>301|n=>n,fun|9=>9|3=>3|4=>4|5=>5|46=>278|146=>306|51=>285|n=>n,fun|1=>0|n=>n⟩
theorem Ac5:Go.Proofs.Lays.n219 Tryz.prog sh_lays219_ren:={
 mixed:=by kernel_rfl
 f217:=Tryz.func273.trans (congrArg some (by kernel_rfl))
 f219:=Tryz.func228.trans (congrArg some (by kernel_rfl))
 f224:=Tryz.func275.trans (congrArg some (by kernel_rfl))
 f225:=Tryz.func274.trans (congrArg some (by kernel_rfl))
 f266:=Tryz.func300.trans (congrArg some (by kernel_rfl))
 f267:=Tryz.func276.trans (congrArg some (by kernel_rfl))
 f314:=Tryz.func301.trans (congrArg some (by kernel_rfl))
 t3:=Tryz.underlying3
 a3:=Tryz.isAgg3
 z3:=Tryz.sizeOf3
 v3:=Tryz.zeroValue3
 t4:=Tryz.underlying4
 a4:=Tryz.isAgg4
 z4:=Tryz.sizeOf4
 v4:=Tryz.zeroValue4
 t5:=Tryz.underlying5
 a5:=Tryz.isAgg5
 z5:=Tryz.sizeOf5
 v5:=Tryz.zeroValue5
 t9:=Tryz.underlying9
 a9:=Tryz.isAgg9
 z9:=Tryz.sizeOf9
 v9:=Tryz.zeroValue9
 t46:=Tryz.underlying278
 a46:=Tryz.isAgg278
 z46:=Tryz.sizeOf278
 v46:=Tryz.zeroValue278
 t51:=Tryz.underlying285
 a51:=Tryz.isAgg285
 z51:=Tryz.sizeOf285
 v51:=Tryz.zeroValue285
 t146:=Tryz.underlying306
 a146:=Tryz.isAgg306
 z146:=Tryz.sizeOf306
 v146:=Tryz.zeroValue306
 g1:=by kernel_rfl }
theorem Il(s:ByteArray)(c:UInt8)(w:World):
  Calls Tryz.prog 228 #[.string s,.string ⟨#[c]⟩] w λe w'=>e=.returned (.int .i64 (Lib.indexByte s.data.toList c))/\w'=w:=Any.stringslite_Index_one Ac5 s c w
def sh_lays144_ren:Go.Shelf.Ren:=⟨fun|144=>118|143=>168|219=>228|217=>273|225=>274|224=>275|267=>276|266=>300|314=>301|n=>n,fun|9=>9|4=>4|3=>3|5=>5|46=>278|146=>306|51=>285|n=>n,fun|1=>0|n=>n⟩
theorem Ac9:Go.Proofs.Lays.n144 Tryz.prog sh_lays144_ren:={
 mixed:=by kernel_rfl
 f143:=Tryz.func168.trans (congrArg some (by kernel_rfl))
 f144:=Tryz.func118.trans (congrArg some (by kernel_rfl))
 f217:=Tryz.func273.trans (congrArg some (by kernel_rfl))
 f219:=Tryz.func228.trans (congrArg some (by kernel_rfl))
 f224:=Tryz.func275.trans (congrArg some (by kernel_rfl))
 f225:=Tryz.func274.trans (congrArg some (by kernel_rfl))
 f266:=Tryz.func300.trans (congrArg some (by kernel_rfl))
 f267:=Tryz.func276.trans (congrArg some (by kernel_rfl))
 f314:=Tryz.func301.trans (congrArg some (by kernel_rfl))
 t3:=Tryz.underlying3
 a3:=Tryz.isAgg3
 z3:=Tryz.sizeOf3
 v3:=Tryz.zeroValue3
 t4:=Tryz.underlying4
 a4:=Tryz.isAgg4
 z4:=Tryz.sizeOf4
 v4:=Tryz.zeroValue4
 t5:=Tryz.underlying5
 a5:=Tryz.isAgg5
 z5:=Tryz.sizeOf5
 v5:=Tryz.zeroValue5
 t9:=Tryz.underlying9
 a9:=Tryz.isAgg9
 z9:=Tryz.sizeOf9
 v9:=Tryz.zeroValue9
 t46:=Tryz.underlying278
 a46:=Tryz.isAgg278
 z46:=Tryz.sizeOf278
 v46:=Tryz.zeroValue278
 t51:=Tryz.underlying285
 a51:=Tryz.isAgg285
 z51:=Tryz.sizeOf285
 v51:=Tryz.zeroValue285
 t146:=Tryz.underlying306
 a146:=Tryz.isAgg306
 z146:=Tryz.sizeOf306
 v146:=Tryz.zeroValue306
 g1:=by kernel_rfl }
theorem I5(s:ByteArray)(c:UInt8)(w:World):
  Calls Tryz.prog 118 #[.string s,.string ⟨#[c]⟩] w λe w'=>e=.returned (.bool (decide (0<=Lib.indexByte s.data.toList c)))/\w'=w:=Any.strings_Contains_one Ac9 s c w
def sh_laysGw15_ren:Go.Shelf.Ren:=⟨fun|15=>114|20=>158|n=>n,fun|9=>9|23=>154|3=>3|4=>4|0=>0|21=>21|n=>n,fun|n=>n⟩
theorem Z2:Go.Proofs.LaysGw.n15 Tryz.prog sh_laysGw15_ren:={
 mixed:=by kernel_rfl
 f15:=Tryz.func114.trans (congrArg some (by kernel_rfl))
 f20:=Tryz.func158.trans (congrArg some (by kernel_rfl))
 t0:=Tryz.underlying0
 a0:=Tryz.isAgg0
 z0:=Tryz.sizeOf0
 v0:=Tryz.zeroValue0
 i0:=by kernel_rfl
 t3:=Tryz.underlying3
 a3:=Tryz.isAgg3
 z3:=Tryz.sizeOf3
 v3:=Tryz.zeroValue3
 i3:=by kernel_rfl
 t4:=Tryz.underlying4
 a4:=Tryz.isAgg4
 z4:=Tryz.sizeOf4
 v4:=Tryz.zeroValue4
 i4:=by kernel_rfl
 t9:=Tryz.underlying9
 a9:=Tryz.isAgg9
 z9:=Tryz.sizeOf9
 v9:=Tryz.zeroValue9
 i9:=by kernel_rfl
 t21:=Tryz.underlying21
 a21:=Tryz.isAgg21
 z21:=Tryz.sizeOf21
 v21:=Tryz.zeroValue21
 i21:=by kernel_rfl
 t23:=Tryz.underlying154
 a23:=Tryz.isAgg154
 z23:=Tryz.sizeOf154
 v23:=Tryz.zeroValue154
 i23:=by kernel_rfl }
def sh_laysGw17_ren:Go.Shelf.Ren:=⟨fun|17=>170|15=>114|20=>158|n=>n,fun|9=>9|23=>154|4=>4|3=>3|0=>0|21=>21|n=>n,fun|n=>n⟩
theorem Z1:Go.Proofs.LaysGw.n17 Tryz.prog sh_laysGw17_ren:={
 mixed:=by kernel_rfl
 f15:=Tryz.func114.trans (congrArg some (by kernel_rfl))
 f17:=Tryz.func170.trans (congrArg some (by kernel_rfl))
 f20:=Tryz.func158.trans (congrArg some (by kernel_rfl))
 t0:=Tryz.underlying0
 a0:=Tryz.isAgg0
 z0:=Tryz.sizeOf0
 v0:=Tryz.zeroValue0
 i0:=by kernel_rfl
 t3:=Tryz.underlying3
 a3:=Tryz.isAgg3
 z3:=Tryz.sizeOf3
 v3:=Tryz.zeroValue3
 i3:=by kernel_rfl
 t4:=Tryz.underlying4
 a4:=Tryz.isAgg4
 z4:=Tryz.sizeOf4
 v4:=Tryz.zeroValue4
 i4:=by kernel_rfl
 t9:=Tryz.underlying9
 a9:=Tryz.isAgg9
 z9:=Tryz.sizeOf9
 v9:=Tryz.zeroValue9
 i9:=by kernel_rfl
 t21:=Tryz.underlying21
 a21:=Tryz.isAgg21
 z21:=Tryz.sizeOf21
 v21:=Tryz.zeroValue21
 i21:=by kernel_rfl
 t23:=Tryz.underlying154
 a23:=Tryz.isAgg154
 z23:=Tryz.sizeOf154
 v23:=Tryz.zeroValue154
 i23:=by kernel_rfl }
theorem Hi(g:Nat)(lb:Array Value)(eg:∀args w,(callFunc g args).run Tryz.prog w=.ok (.enter g args) w)(p:Nat->Bool)(s:ByteArray)(w:World)(hp:PredGrows Tryz.prog g lb p w):
  Calls Tryz.prog 114 #[.string s,.func (.func g) #[] lb] w λe w'=>e=.returned (.int .i64 (Lib.idxFunc p true s))/\Below w.heap.size w w':=Any.strings_IndexFunc_grows Z2 g lb eg p s w hp
theorem F5(g:Nat)(lb:Array Value)(eg:∀args w,(callFunc g args).run Tryz.prog w=.ok (.enter g args) w)(p:Nat->Bool)(s:ByteArray)(w:World)(hp:PredGrows Tryz.prog g lb p w):
  Calls Tryz.prog 170 #[.string s,.func (.func g) #[] lb] w λe w'=>e=.returned (.bool (decide (0<=Lib.idxFunc p true s)))/\Below w.heap.size w w':=Any.strings_ContainsFunc_grows Z1 g lb eg p s w hp
def sh_lays187_ren:Go.Shelf.Ren:=⟨fun|187=>53|255=>111|n=>n,fun|37=>22|5=>5|3=>3|n=>n,fun|n=>n⟩
theorem S7:Go.Proofs.Lays.n187 Tryz.prog sh_lays187_ren:={
 mixed:=by kernel_rfl
 f187:=Tryz.func53.trans (congrArg some (by kernel_rfl))
 f255:=Tryz.func111.trans (congrArg some (by kernel_rfl))
 t3:=Tryz.underlying3
 a3:=Tryz.isAgg3
 z3:=Tryz.sizeOf3
 v3:=Tryz.zeroValue3
 t5:=Tryz.underlying5
 a5:=Tryz.isAgg5
 z5:=Tryz.sizeOf5
 v5:=Tryz.zeroValue5
 t37:=Tryz.underlying22
 a37:=Tryz.isAgg22
 z37:=Tryz.sizeOf22
 v37:=Tryz.zeroValue22 }
def sh_laysSlH10_f179_ren:Go.Shelf.Ren:=⟨fun|10=>179|6=>233|n=>n,fun|22=>111|23=>9|25=>104|3=>3|4=>4|0=>0|n=>n,fun|n=>n⟩
theorem Nt:Go.Proofs.SlLaysH.n10 Tryz.prog sh_laysSlH10_f179_ren:={
 mixed:=by kernel_rfl
 f6:=⟨Tryz.f233.name,by decide,Tryz.func233.trans (congrArg some (by kernel_rfl))⟩
 f10:=⟨Tryz.f179.name,by decide,Tryz.func179.trans (congrArg some (by kernel_rfl))⟩
 t0:=Tryz.underlying0
 a0:=Tryz.isAgg0
 z0:=Tryz.sizeOf0
 v0:=Tryz.zeroValue0
 t3:=Tryz.underlying3
 a3:=Tryz.isAgg3
 z3:=Tryz.sizeOf3
 v3:=Tryz.zeroValue3
 t4:=Tryz.underlying4
 a4:=Tryz.isAgg4
 z4:=Tryz.sizeOf4
 v4:=Tryz.zeroValue4
 t22:=Tryz.underlying111
 a22:=Tryz.isAgg111
 z22:=Tryz.sizeOf111
 v22:=Tryz.zeroValue111
 a23:=Tryz.isAgg9
 z23:=Tryz.sizeOf9
 t25:=Tryz.underlying104
 a25:=Tryz.isAgg104
 z25:=Tryz.sizeOf104
 v25:=Tryz.zeroValue104 }
theorem K1{α:Type}[Inhabited α](enc:α->Value)(hO:OneCell enc)(p:α->Bool)(g:Nat)(lb:Array Value)(eg:∀args w,(callFunc g args).run Tryz.prog w=.ok (.enter g args) w)(zr:α)(v23:∀w,(zeroValue 9).run Tryz.prog w=.ok (enc zr) w)(blk off cap:Nat)(d:Array α)(w:World)(hp:PredAt Tryz.prog g lb enc p w)(hpo:PredOver Tryz.prog g lb enc p blk off d.size w)(hH:Holds enc w blk off d)(hsz:d.size<=9223372036854775807)(hcap:d.size<=cap):
  Calls Tryz.prog 179 #[.slice (some ⟨blk,off,none⟩) d.size cap,.func (.func g) #[] lb] w λe w'=>e=.returned (.slice (some ⟨blk,off,none⟩) (d.toList.filter λx=>!p x).length cap)/\∃q,w'=putRow enc (Sort.ahead w q) blk off ((d.toList.filter λx=>!p x)++List.replicate (d.size-(d.toList.filter λx=>!p x).length) zr).toArray:=AnyE.slices_DeleteFunc Nt enc hO p g lb eg zr v23 blk off cap d w hp hpo hH hsz hcap
theorem Jw(cv:Int)(w:World):
  Calls Tryz.prog 53 #[.slice none 0 0,.int .u8 cv] w λe w'=>e=.returned (.int .i64 (-1))/\w'=w:=Any.bytes_IndexByte_nil S7 cv w
open Go Go.Sx
set_option maxRecDepth 10000
set_option maxHeartbeats 2000000
theorem Sp(c:UInt8)(r:List UInt8):Fj (c :: r)=if (Fj r).isEmpty then (if blankB c then [] else [c]) else c :: Fj r:=by
 unfold Fj;rw[List.reverse_cons,List.dropWhile_append,List.isEmpty_reverse]
 split
 ·by_cases h:blankB c=true
  ·rw[if_pos h,List.dropWhile_cons_of_pos h];rfl
  ·rw[if_neg h,List.dropWhile_cons_of_neg h];rfl
 ·rw[List.reverse_append];rfl
theorem Ag9(s:List UInt8):Fj (Iy s)=Iy (Fj s):=by
 induction s with
 |nil=>rfl
 |cons c r ih =>
  by_cases h:blankB c=true
  ·rw[Hf h,ih,Sp]
   split
   ·rename_i he
    rw[List.isEmpty_iff.1 he]
   ·rw[Hf h]
  ·have e:Iy (c :: r)=c :: r:=by rw[Iy,List.dropWhile_cons_of_neg h]
   rw[e,Sp]
   split
   ·rw[Iy,List.dropWhile_cons_of_neg h]
   ·rw[Iy,List.dropWhile_cons_of_neg h]
theorem Amu(c:UInt8):[32,9].contains c=blankB c:=by
 have:∀n:Fin 256,[32,9].contains (UInt8.ofNat n.1)=Gp (n.1:Int):=by decide
 have h:=this ⟨c.toNat,c.toNat_lt⟩;simp only[UInt8.ofNat_toNat]at h;exact h
theorem Sm(s:List UInt8):Lib.trimS s [32,9]=trimF s:=by
 rw[trimF,Ag9];unfold Lib.trimS Lib.trimLeftS Lib.trimRightS Iy Fj;have e:(λx=>[32,9].contains x)=blankB:=funext Amu;rw[e]
def spTrim64:FSpec:=λ_ xs ls K=>∃(s c:List UInt8),xs=[.str s,.str c]/\ls=[]/\s.length<=9223372036854775807/\c.length<1000/\(c.all λb=>decide (b.toNat<128))=true/\∀r,r=Lib.trimS s c->K (.str r) []
theorem Lw:Ay Tryz.prog gl 116 spTrim64:=by
 refine⟨⟨Tryz.f116,_,Tryz.func116,rfl,by kernel_rfl⟩,λxs ls K h=>?_⟩;obtain⟨s,c,rfl,rfl,hs,hc,ha,h⟩:=h;refine⟨_,_,h _ rfl,Bx λE B w vals _ _ _ hr=>?_⟩;obtain⟨v,u,rfl,hv,hu⟩:=Eg hr;rw[Dj hv,Dj hu];refine (Any.strings_Trim_laid Ac7 (by kernel_rfl) ⟨s.toArray⟩ ⟨c.toArray⟩ w (by simpa[ByteArray.size] using hs) (by simp[ByteArray.size];omega) (ascii_of_all (by simpa using ha))).mono ?_;rintro e w' ⟨rfl,hB⟩;exact⟨_,rfl,λE=>.ro (.str rfl),hB⟩
theorem trim_ok:Ay Tryz.prog gl 232 (Pg trimF):=by
 refine Bq (gh:=[]) mixed B4 (Ab Lw Ai) Tryz.func232 (by kernel_rfl) (by kernel_rfl) ?_;intro xs ls K h;unfold Pg at h;obtain⟨s,rfl,rfl,hl,h⟩:=h;obtain⟨k,hk⟩:∃k,k=trimF s:=⟨_,rfl⟩;refine⟨_,_,h k hk,λD hD=>?_⟩;clear h;cbv;refine⟨s,[32,9],rfl,rfl,hl,by decide,by decide,λr hr=>?_⟩;cbv;exact Us (by rw[hr,hk,Sm])
open Go.Sx
def spSplit:FSpec:=λ_ xs ls K=>∃(s:List UInt8) (y:Int),xs=[.str s,.int .u8 (.a y)]/\ls=[]/\s.length<=100000/\∀(k:Option (List (List UInt8))) (l:List (List UInt8)) (n:Int) (b nb:Bool) (f:Nat->List SV),k=Hm y s->l=(k.getD []).map trimF->n=(l.length:Int)->b=k.isSome->nb=k.isNone->f=Cj l->K (.tup [.osl (.a nb) (.a n) 0,.bool (.a b)]) [.own 9 (.a n) 1 true f]
structure SpI(s:List UInt8)(out:List (List UInt8))(a i:Nat)(A I:Int)(m:Nat):Prop where
 at_:At s i I m
 ale:a<=i
 A:ST.den (.a A)=(a:Int)
 out:out.length<=i
 s:s.length<=100000
def splJ(s:List UInt8)(y:Int)(k:Option (List (List UInt8)))(m:Nat)(vs:List (Option SV))(hp:List Hl):Prop :=
 ∃(i a:Nat) (I A n:Int) (nl:Bool) (f:Nat->List SV) (out:List (List UInt8)),vs=[some (.str s),some (.int .u8 (.a y)),some (.osl (.a nl) (.a n) 0),some (.int .i64 (.a A)),some (.int .i64 (.a I))]/\hp=[.own 9 (.a n) 1 true f]/\
  SpI s out a i A I m/\Bl f n (out.map trimF)/\k=pAt y s out a i
def qOf:Option (Nat×List UInt8)->Int
 |none=>0
 |some x=>((1+x.1:Nat):Int)
theorem Akl{o:Option (Nat×List UInt8)}(h:(qOf o==0)=true):o=none:=by
 cases o with
 |none=>rfl
 |some x=>simp only[qOf,beq_iff_eq]at h;omega
theorem Akm{o:Option (Nat×List UInt8)}(h:(qOf o==0)=false):∃x,o=some x/\qOf o=((1+x.1:Nat):Int):=by
 cases o with
 |none=>simp[qOf]at h
 |some x=>exact⟨x,rfl,rfl⟩
theorem Yd{s:List UInt8}{i:Nat}:Nz (s.drop i)=qOf (qdF Bb (s.drop (i+1))):=by
 rw[Nz,qAt,Aki,List.drop_drop,show i+(0+1)=i+1 by omega];cases qdF Bb (s.drop (i+1)) with
 |none=>rfl
 |some x=>simp only[qOf]
theorem Agk{D:Dn}(hD:D=dn){k:Option (List (List UInt8))}{kl:List (List UInt8)}{kn:Int}{kb knb:Bool}{kr g:Nat->List SV}(hk:k=none)(hkl:kl=(k.getD []).map trimF)(hkn:kn=(kl.length:Int))(hkb:kb=k.isSome)(hknb:knb=k.isNone):
  Fin (.tup [.osl (.a (D.b (.l true))) (.a (D.i (.l 0))) 0,.bool (.a (D.b (.l false)))]) (.tup [.osl (.a knb) (.a kn) 0,.bool (.a kb)]) [.own 9 (.a (D.i (.l 0))) 1 true g] [.own 9 (.a kn) 1 true kr]:=by
 subst hD hk;have e:kn=0:=by rw[hkn,hkl];rfl
 refine Al8 (.tup (.cons (Af8 (by rw[hknb];rfl) (by rw[e];rfl)) (.cons (Dc (by rw[hkb];rfl)) .nil))) (by rw[e];rfl) λi hi=>?_;have hi:(i:Int)<0:=hi;omega
theorem finSpl1{D:Dn}(hD:D=dn){k:Option (List (List UInt8))}{l kl:List (List UInt8)}{kn:Int}{kb knb:Bool}{kr f:Nat->List SV}(hk:k=some l)(hkl:kl=(k.getD []).map trimF)(hkn:kn=(kl.length:Int))(hkb:kb=k.isSome)(hknb:knb=k.isNone)(hkr:kr=Cj kl)
  {n:Int} (R:Bl f n (l.map trimF)) {x:BT} {y:ST} (hy:y.den=n) (hx:x.den=false):Fin (.tup [.osl (.a (D.b x)) (.a (D.i y)) 0,.bool (.a (D.b (.l true)))]) (.tup [.osl (.a knb) (.a kn) 0,.bool (.a kb)]) [.own 9 (.a (D.i y)) 1 true f] [.own 9 (.a kn) 1 true kr]:=by
 subst hD hk;have hkl:kl=l.map trimF:=hkl;have e:dn.i y=kn:=by show y.den=_;rw[hy,R.n,hkn,hkl]
 refine Al8 (.tup (.cons (Af8 ?_ e) (.cons (Dc (by rw[hkb];rfl)) .nil))) e λi hi=>?_
 ·rw[hknb];exact hx
 ·have hi:(i:Int)<dn.i y:=hi
  rw[R.f i (by rw[e,hkn,hkl]at hi;omega),hkr,hkl];rfl
theorem Ajy:Ay Tryz.prog gl 178 spSplit:=by
 refine Bq (gh:=[(1,[.own 6 9]),(9,[.own 4 9]),(12,[.own 4 9])]) mixed B4 (Ab Yp (Ab Ahq (Ab trim_ok Ai))) Tryz.func178 (by kernel_rfl) (by kernel_rfl) ?_;intro xs ls K h;unfold spSplit at h;obtain⟨s,y,rfl,rfl,hl,h⟩:=h;obtain⟨k,hk⟩:∃k,k=Hm y s:=⟨_,rfl⟩;obtain⟨kl,hkl⟩:∃kl,kl=(k.getD []).map trimF:=⟨_,rfl⟩;obtain⟨kn,hkn⟩:∃kn:Int,kn=(kl.length:Int):=⟨_,rfl⟩;obtain⟨kb,hkb⟩:∃kb,kb=k.isSome:=⟨_,rfl⟩;obtain⟨knb,hknb⟩:∃knb,knb=k.isNone:=⟨_,rfl⟩;obtain⟨kr,hkr⟩:∃kr,kr=Cj kl:=⟨_,rfl⟩;refine⟨_,_,h k kl kn kb knb kr hk hkl hkn hkb hknb hkr,λD hD=>?_⟩;clear h;have hk:k=pAt y s [] 0 0:=by
  rw[hk,Hm,pAt,U0];simp
 cbv;obtain⟨J,hJ⟩:∃J,J=splJ s y k:=⟨_,rfl⟩;refine⟨[0,1,6,7,8],J,⟨rfl,s.length,?_⟩,?_⟩
 ·rw[hJ]
  subst hD;exact⟨0,0,_,_,_,_,_,[],rfl,rfl,⟨At.zero (by omega),by omega,rfl,by simp,hl⟩,Bl.nil,hk⟩
 clear hk;intro m vs hp' hv;rw[hJ]at hv;unfold splJ at hv;obtain⟨i,a,I,A,n,nl,f,out,rfl,rfl,V,R,hk⟩:=hv;cbv;refine br hD (λh=>?_) (λh=>?_)<;>cbv
 ·have hlt:=V.at_.lt (of_decide_eq_true (p:=I<(s.length:Int)) h)
  clear h;refine⟨V.at_.inS hD hlt,λc hc=>?_⟩;have hc2:=D7 hD V.at_.den hc;clear hc;cbv;refine br hD (λh=>?_) (λh=>?_)<;>cbv
  ·have h34:charI s i=34:=by rw[<-hc2.charI];have h:(c==34)=true:=h;simpa using h
   clear h;rw[Wv hlt V.ale (by rw[h34];decide) h34]at hk;refine⟨by subst hD;exact D9 (s:=s) (j:=s.length) (b:=.len s) V.at_.den rfl (by omega) (Nat.le_refl _),λr1 hr1=>?_⟩;have hr1':r1=s.drop i:=by
    have:=Hh (j:=s.length) (b:=.len s) hD V.at_.den rfl hr1;rw[this];exact List.take_of_length_le (by simp)
   clear hr1;cbv;refine⟨_,rfl,rfl,by have:=V.s;rw[hr1',List.length_drop];omega,λq hq=>?_⟩;have hq2:q=qOf (qdF Bb (s.drop (i+1))):=by subst hD;rw[hq,hr1'];exact Yd
   clear hq;cbv;refine br hD (λh=>?_) (λh=>?_)<;>cbv
   ·have h:(q==0)=true:=h
    rw[hq2]at h;rw[Akl h]at hk;exact Agk hD hk hkl hkn hkb hknb
   ·have h:(q==0)=false:=h
    rw[hq2]at h;obtain⟨x,hx,hqx⟩:=Akm h;rw[hx]at hk;simp only at hk;have hlen:=L1 _ _ x (Nat.le_refl _) hx;rw[List.length_drop]at hlen;have hq3:ST.den (.bin .add .i64 (.a I) (.a q))=((i+1+x.1:Nat):Int):=by
     have h1:=V.at_.I;have h2:=V.s;show IntKind.i64.wrap (I+q)=_;rw[hq2,hqx,A4 (by omega) (by omega)];omega
    clear h;refine⟨s.length-(i+1+x.1),by have:=V.at_.m;omega,?_⟩;rw[hJ];subst hD;refine⟨i+1+x.1,a,_,_,_,_,f,out,rfl,rfl,⟨⟨by omega,hq3,rfl,V.at_.len⟩,by have:=V.ale;omega,V.A,by have:=V.out;omega,V.s⟩,R,hk⟩
  have h34:charI s i≠34:=by rw[<-hc2.charI];have h:(c==34)=false:=h;simpa using h
  clear h;refine⟨_,rfl,rfl,by subst hD;exact hc2.le,λr hr=>?_⟩;have hr2:r=Di c:=by subst hD;exact hr
  clear hr;have hsm:Bb (charI s i)=!(Di c==0):=by rw[hc2.charI];unfold charI;rw[<-S4,Kg]
  rw[<-hr2]at hsm;cbv;refine br hD (λh=>?_) (λh=>?_)<;>cbv
  ·have h:(r==0)=true:=h
   rw[Afx hlt (by rw[hsm,h];rfl)]at hk;exact Agk hD hk hkl hkn hkb hknb
  have hp:Bb (charI s i)=true:=by have h:(r==0)=false:=h;rw[hsm,h];rfl
  clear h;refine br hD (λh=>?_) (λh=>?_)<;>cbv
  ·have hy:charI s i=y:=by rw[<-hc2.charI];have h:(c==y)=true:=h;simpa using h
   clear h;rw[Afv hlt hp h34 hy]at hk;refine⟨by subst hD;exact D9 V.A V.at_.den V.ale (by omega),λr1 hr1=>?_⟩;have hr1':r1=cut s a i:=Hh hD V.A V.at_.den hr1;clear hr1;cbv;refine⟨_,rfl,rfl,by have:=V.s;rw[hr1',cut,List.length_take,List.length_drop];omega,λt ht=>?_⟩;have ht2:t=trimF (cut s a i):=by rw[ht,hr1']
   clear ht;cbv;intro g hg;have hg0:g 0=[.str t]:=hg.h 0 _ rfl;clear hg;cbv;refine⟨?_,λf' n' hf'=>?_⟩
   ·have:=V.out;have:=V.s;have h:=R.n;rw[List.length_map]at h;subst hD;exact⟨rfl,by show (n+1) * 16<=_;omega,by show n+1<=_;omega⟩
   have R':Bl f' n' ((out++[cut s a i]).map trimF):=by
    subst hD;rw[List.map_append,List.map_singleton];exact R.more (by rw[hg0,ht2]) hf' (by have:=V.out;have:=V.s;rw[List.length_map];omega)
   clear hf' hg0;cbv;refine⟨s.length-(i+1),(V.at_.step hD hlt).1,?_⟩;rw[hJ];subst hD;exact⟨i+1,i+1,_,_,_,_,f',_,rfl,rfl,⟨(V.at_.step rfl hlt).2,Nat.le_refl _,(V.at_.step rfl hlt).2.I,by have:=V.out;simp;omega,V.s⟩,R',hk⟩
  ·have hy:charI s i≠y:=by rw[<-hc2.charI];have h:(c==y)=false:=h;simpa using h
   clear h;rw[Aak hlt V.ale hp h34 hy]at hk;refine⟨s.length-(i+1),(V.at_.step hD hlt).1,?_⟩;rw[hJ];subst hD;exact⟨i+1,a,_,_,_,_,f,out,rfl,rfl,⟨(V.at_.step rfl hlt).2,by have:=V.ale;omega,V.A,by have:=V.out;omega,V.s⟩,R,hk⟩
 ·have hi:=V.at_.eq (of_decide_eq_false (p:=I<(s.length:Int)) h)
  clear h;rw[Afw hi]at hk;refine⟨by subst hD;exact D9 (s:=s) (j:=s.length) (b:=.len s) V.A rfl (by have:=V.ale;omega) (Nat.le_refl _),λr1 hr1=>?_⟩;have hr1':r1=s.drop a:=by
   have:=Hh (j:=s.length) (b:=.len s) hD V.A rfl hr1;rw[this];exact List.take_of_length_le (by simp)
  clear hr1;cbv;refine⟨_,rfl,rfl,by have:=V.s;rw[hr1',List.length_drop];omega,λt ht=>?_⟩;have ht2:t=trimF (s.drop a):=by rw[ht,hr1']
  clear ht;cbv;intro g hg;have hg0:g 0=[.str t]:=hg.h 0 _ rfl;clear hg;cbv;refine⟨?_,λf' n' hf'=>?_⟩
  ·have:=V.out;have:=V.s;have h:=R.n;rw[List.length_map]at h;subst hD;exact⟨rfl,by show (n+1) * 16<=_;omega,by show n+1<=_;omega⟩
  have R':Bl f' n' ((out++[s.drop a]).map trimF):=by
   subst hD;rw[List.map_append,List.map_singleton];exact R.more (by rw[hg0,ht2]) hf' (by have:=V.out;have:=V.s;rw[List.length_map];omega)
  clear hf' hg0;cbv;exact finSpl1 hD hk hkl hkn hkb hknb hkr R' rfl (by show (nl&&false)=false;simp)
end Go.Proofs.YtdoogdbjiijifaaGreatDoor
