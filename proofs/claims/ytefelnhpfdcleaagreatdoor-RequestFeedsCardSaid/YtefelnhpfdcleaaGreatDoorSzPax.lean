/- Part of the proofs of the statements about requests (layer 7): a symbolic executor over the code, that it is sound, and contracts of functions; it has no conditions of its own. -/
import Derived.Shelf.Strings.SlTrimAscii
import Derived.Shelf.Strings.Builder1
import Derived.Shelf.Strings.Builder2
import Derived.Shelf.Strings.OnBuilder
import Derived.Shelf.Strings.Trim
import Derived.Shelf.Small.Utf8
import Derived.Shelf.Small.Strs
import Derived.Shelf.Small.Wraps
import Derived.Shelf.Strings.BuilderF
import Derived.Shelf.Strings.BuilderK
import Derived.Shelf.Strings.Builder2Cap
import Derived.Shelf.Strconv.Itoa0
import Derived.Shelf.Strconv.Itoa1
import Derived.Shelf.LaysM
import Derived.Shelf.Strconv.Itoa2
import Derived.Shelf.Strconv.Itoa3
import Derived.Shelf.Strconv.Itoa4
import Derived.Shelf.Strconv.ParseIntEmpty
import Derived.Shelf.Strconv.Clone
import Derived.Shelf.Strconv.SyntaxError
import Derived.Shelf.Strconv.Lower
import Derived.Shelf.Strconv.ParseUint10
import Derived.Shelf.Strconv.ParseUint10Empty
import Derived.Shelf.Strconv.RangeError
import Derived.Shelf.Strconv.ParseUintEmpty
import Derived.Shelf.Strconv.ParseUint10b64
import Derived.Shelf.Strconv.ParseUint10b32
import Derived.Shelf.Strconv.ParseUint10b16
import Derived.Shelf.Strconv.ParseUint10b8
import Derived.Shelf.Strings.Search1
import Derived.Shelf.Strings.Search2
import Derived.Shelf.Strings.Search3
import Derived.Shelf.Strings.Cut
import Derived.Shelf.Strings.Shaped
import Derived.Shelf.Strings.Prefix
import Derived.Shelf.Unicode.Decode
import Derived.Shelf.Strings.Runes
import Derived.Shelf.Strings.AsciiSet
import Derived.Shelf.Unicode.DecodeSlow
import Derived.Shelf.Unicode.DecodeAny
import Derived.Shelf.Unicode.DecodeLast
import Derived.Ground.SlgfProg
import Derived.Shelf.SlicesE.IndexFunc
import Derived.Shelf.SlicesE.DeleteFunc
import Derived.Shelf.Bytes.IndexByte
import Derived.Lib.Walk
import Derived.WalkKit
import Derived.Test.YtefelnhpfdcleaaGreatDoorSzPaw
namespace Go.Proofs.YtefelnhpfdcleaaGreatDoor
open Go Go.Shelf Go.RowKit Go.Sort
set_option maxRecDepth 100000
set_option maxHeartbeats 4000000
def sh_lays156_ren : Go.Shelf.Ren:=⟨fun | 156=>40 | 165=>79 | 166=>80 | 169=>81 | 240=>108 | 241=>109 | 276=>136 | 277=>137 | n=>n,fun | 31=>61 | 9=>9 | 3=>3 | 4=>4 | 0=>0 | 20=>20 | 72=>104 | 76=>108 | 70=>102 | 37=>36 | 75=>107 | 127=>124 | 164=>141 | 5=>5 | 80=>110 | n=>n,fun | n=>n⟩
theorem Vc : Go.Proofs.Lays.n156 Tryz.prog sh_lays156_ren:={
 mixed:=by kernel_rfl
 f156:=Tryz.func40.trans (congrArg some (by kernel_rfl))
 f165:=Tryz.func79.trans (congrArg some (by kernel_rfl))
 f166:=Tryz.func80.trans (congrArg some (by kernel_rfl))
 f169:=Tryz.func81.trans (congrArg some (by kernel_rfl))
 f240:=Tryz.func108.trans (congrArg some (by kernel_rfl))
 f241:=Tryz.func109.trans (congrArg some (by kernel_rfl))
 f276:=Tryz.func136.trans (congrArg some (by kernel_rfl))
 f277:=Tryz.func137.trans (congrArg some (by kernel_rfl))
 t0:=Tryz.underlying0
 a0:=Tryz.isAgg0
 z0:=Tryz.sizeOf0
 v0:=Tryz.zeroValue0
 t3:=Tryz.underlying3
 a3:=Tryz.isAgg3
 z3:=Tryz.sizeOf3
 v3:=Tryz.zeroValue3
 t4:=Tryz.underlying4
 a4:=Tryz.isAgg4
 z4:=Tryz.sizeOf4
 v4:=Tryz.zeroValue4
 t9:=Tryz.underlying9
 a9:=Tryz.isAgg9
 z9:=Tryz.sizeOf9
 v9:=Tryz.zeroValue9
 t20:=Tryz.underlying20
 a20:=Tryz.isAgg20
 z20:=Tryz.sizeOf20
 v20:=Tryz.zeroValue20
 t31:=Tryz.underlying61
 a31:=Tryz.isAgg61
 z31:=Tryz.sizeOf61
 v31:=Tryz.zeroValue61
 t37:=Tryz.underlying36
 a37:=Tryz.isAgg36
 z37:=Tryz.sizeOf36
 v37:=Tryz.zeroValue36
 t70:=Tryz.underlying102
 a70:=Tryz.isAgg102
 z70:=Tryz.sizeOf102
 v70:=Tryz.zeroValue102
 t72:=Tryz.underlying104
 a72:=Tryz.isAgg104
 z72:=Tryz.sizeOf104
 v72:=Tryz.zeroValue104
 t75:=Tryz.underlying107
 a75:=Tryz.isAgg107
 z75:=Tryz.sizeOf107
 v75:=Tryz.zeroValue107
 t76:=Tryz.underlying108
 a76:=Tryz.isAgg108
 z76:=Tryz.sizeOf108
 v76:=Tryz.zeroValue108
 t127:=Tryz.underlying124
 a127:=Tryz.isAgg124
 z127:=Tryz.sizeOf124
 v127:=Tryz.zeroValue124
 t164:=Tryz.underlying141
 a164:=Tryz.isAgg141
 z164:=Tryz.sizeOf141
 v164:=Tryz.zeroValue141 }
theorem Hb : Builder.Extra Tryz.prog sh_lays156_ren:={
 sizeBuilder:=by kernel_rfl
 liesBuilder:=by kernel_rfl
 t5:=Tryz.underlying5
 a5:=Tryz.isAgg5
 z5:=Tryz.sizeOf5
 v5:=Tryz.zeroValue5
 infoByte:=by kernel_rfl
 cellsByte:=by kernel_rfl
 sizeByte:=by kernel_rfl
 neB5:=by decide }
theorem L8 (a : Option Addr) (c : Nat) (sep : ByteArray) (w : World) :
  Calls Tryz.prog 40 #[.slice a 0 c,.string sep] w fun e w'=>e = .returned (.string ⟨#[]⟩)∧w' = w:=Any.strings_Join_none Vc Hb a c sep w
theorem Tr (bk o c : Nat) (xs : List ByteArray) (sep : ByteArray) (w : World) (hcells : ∀ (j : Nat) x,xs[j]? = some x→w.cell? ⟨bk,o + j,none⟩ = some (.string x)) (hbk : bk < w.heap.size) (hN : xs.length≤140737488355328) (hcap : xs.length≤c) (hlen : (Lib.join (xs.map (·.data.toList)) sep.data.toList).length≤140737488355328) :
  Calls Tryz.prog 40 #[.slice (some ⟨bk,o,none⟩) xs.length c,.string sep] w fun e w'=>e = .returned (.string ⟨(Lib.join (xs.map (·.data.toList)) sep.data.toList).toArray⟩)∧Below w.heap.size w w':=Any.strings_Join Vc Hb bk o c xs sep w hcells hbk hN hcap hlen
def sh_lays160_ren : Go.Shelf.Ren:=⟨fun | 160=>94 | 232=>119 | 231=>118 | 227=>120 | 234=>122 | 233=>121 | 236=>124 | 235=>123 | 228=>143 | 271=>146 | 151=>145 | 197=>144 | 120=>165 | 152=>164 | 260=>163 | 137=>105 | 119=>179 | 224=>134 | 225=>133 | 217=>132 | 266=>154 | n=>n,fun | 9=>9 | 4=>4 | 3=>3 | 5=>5 | 117=>131 | 116=>130 | 0=>0 | 124=>134 | 21=>21 | 105=>147 | 46=>101 | 119=>93 | 139=>182 | 138=>181 | n=>n,fun | 3=>2 | 4=>3 | n=>n⟩
theorem Ae0 : Go.Proofs.Lays.n160 Tryz.prog sh_lays160_ren:={
 mixed:=by kernel_rfl
 f119:=Tryz.func179.trans (congrArg some (by kernel_rfl))
 f120:=Tryz.func165.trans (congrArg some (by kernel_rfl))
 f137:=Tryz.func105.trans (congrArg some (by kernel_rfl))
 f151:=Tryz.func145.trans (congrArg some (by kernel_rfl))
 f152:=Tryz.func164.trans (congrArg some (by kernel_rfl))
 f160:=Tryz.func94.trans (congrArg some (by kernel_rfl))
 f197:=Tryz.func144.trans (congrArg some (by kernel_rfl))
 f217:=Tryz.func132.trans (congrArg some (by kernel_rfl))
 f224:=Tryz.func134.trans (congrArg some (by kernel_rfl))
 f225:=Tryz.func133.trans (congrArg some (by kernel_rfl))
 f227:=Tryz.func120.trans (congrArg some (by kernel_rfl))
 f228:=Tryz.func143.trans (congrArg some (by kernel_rfl))
 f231:=Tryz.func118.trans (congrArg some (by kernel_rfl))
 f232:=Tryz.func119.trans (congrArg some (by kernel_rfl))
 f233:=Tryz.func121.trans (congrArg some (by kernel_rfl))
 f234:=Tryz.func122.trans (congrArg some (by kernel_rfl))
 f235:=Tryz.func123.trans (congrArg some (by kernel_rfl))
 f236:=Tryz.func124.trans (congrArg some (by kernel_rfl))
 f260:=Tryz.func163.trans (congrArg some (by kernel_rfl))
 f266:=Tryz.func154.trans (congrArg some (by kernel_rfl))
 f271:=Tryz.func146.trans (congrArg some (by kernel_rfl))
 t0:=Tryz.underlying0
 a0:=Tryz.isAgg0
 z0:=Tryz.sizeOf0
 v0:=Tryz.zeroValue0
 t3:=Tryz.underlying3
 a3:=Tryz.isAgg3
 z3:=Tryz.sizeOf3
 v3:=Tryz.zeroValue3
 t4:=Tryz.underlying4
 a4:=Tryz.isAgg4
 z4:=Tryz.sizeOf4
 v4:=Tryz.zeroValue4
 t5:=Tryz.underlying5
 a5:=Tryz.isAgg5
 z5:=Tryz.sizeOf5
 v5:=Tryz.zeroValue5
 t9:=Tryz.underlying9
 a9:=Tryz.isAgg9
 z9:=Tryz.sizeOf9
 v9:=Tryz.zeroValue9
 t21:=Tryz.underlying21
 a21:=Tryz.isAgg21
 z21:=Tryz.sizeOf21
 v21:=Tryz.zeroValue21
 t46:=Tryz.underlying101
 a46:=Tryz.isAgg101
 z46:=Tryz.sizeOf101
 v46:=Tryz.zeroValue101
 t105:=Tryz.underlying147
 a105:=Tryz.isAgg147
 z105:=Tryz.sizeOf147
 v105:=Tryz.zeroValue147
 t116:=Tryz.underlying130
 a116:=Tryz.isAgg130
 z116:=Tryz.sizeOf130
 t117:=Tryz.underlying131
 a117:=Tryz.isAgg131
 z117:=Tryz.sizeOf131
 v117:=Tryz.zeroValue131
 t119:=Tryz.underlying93
 a119:=Tryz.isAgg93
 z119:=Tryz.sizeOf93
 t124:=Tryz.underlying134
 a124:=Tryz.isAgg134
 z124:=Tryz.sizeOf134
 v124:=Tryz.zeroValue134
 t138:=Tryz.underlying181
 a138:=Tryz.isAgg181
 z138:=Tryz.sizeOf181
 v138:=Tryz.zeroValue181
 t139:=Tryz.underlying182
 a139:=Tryz.isAgg182
 z139:=Tryz.sizeOf182
 v139:=Tryz.zeroValue182
 g3:=by kernel_rfl
 g4:=by kernel_rfl }
def sh_lays137_ren : Go.Shelf.Ren:=⟨fun | 137=>105 | 217=>132 | 266=>154 | n=>n,fun | 9=>9 | 5=>5 | 3=>3 | n=>n,fun | n=>n⟩
theorem Ae2 : Go.Proofs.Lays.n137 Tryz.prog sh_lays137_ren:={
 mixed:=by kernel_rfl
 f137:=Tryz.func105.trans (congrArg some (by kernel_rfl))
 f217:=Tryz.func132.trans (congrArg some (by kernel_rfl))
 f266:=Tryz.func154.trans (congrArg some (by kernel_rfl))
 t3:=Tryz.underlying3
 a3:=Tryz.isAgg3
 z3:=Tryz.sizeOf3
 v3:=Tryz.zeroValue3
 t5:=Tryz.underlying5
 a5:=Tryz.isAgg5
 z5:=Tryz.sizeOf5
 v5:=Tryz.zeroValue5
 t9:=Tryz.underlying9
 a9:=Tryz.isAgg9
 z9:=Tryz.sizeOf9
 v9:=Tryz.zeroValue9 }
theorem L9 (s : ByteArray) (c : Int) (w : World) :
  Calls Tryz.prog 105 #[.string s,.int .u8 c] w fun e w'=>e = .returned (.int .i64 (Lib.indexByte s.data.toList c.toNat.toUInt8))∧w' = w:=Any.strings_IndexByte Ae2 s c w
def sh_lays104_ren : Go.Shelf.Ren:=⟨fun | 104=>90 | 211=>113 | 207=>141 | n=>n,fun | 9=>9 | 4=>4 | 24=>114 | 3=>3 | n=>n,fun | n=>n⟩
theorem Ae3 : Go.Proofs.Lays.n104 Tryz.prog sh_lays104_ren:={
 mixed:=by kernel_rfl
 f104:=Tryz.func90.trans (congrArg some (by kernel_rfl))
 f207:=Tryz.func141.trans (congrArg some (by kernel_rfl))
 f211:=Tryz.func113.trans (congrArg some (by kernel_rfl))
 t3:=Tryz.underlying3
 a3:=Tryz.isAgg3
 z3:=Tryz.sizeOf3
 v3:=Tryz.zeroValue3
 t4:=Tryz.underlying4
 a4:=Tryz.isAgg4
 z4:=Tryz.sizeOf4
 v4:=Tryz.zeroValue4
 t9:=Tryz.underlying9
 a9:=Tryz.isAgg9
 z9:=Tryz.sizeOf9
 v9:=Tryz.zeroValue9
 t24:=Tryz.underlying114
 a24:=Tryz.isAgg114
 z24:=Tryz.sizeOf114
 v24:=Tryz.zeroValue114 }
theorem Mb (s p : ByteArray) (w : World) (hs : s.size≤9223372036854775807) :
  Calls Tryz.prog 90 #[.string s,.string p] w fun e w'=>e = .returned (.tuple #[.string ⟨(Lib.trimSuffix s.data.toList p.data.toList).toArray⟩,.bool (Lib.hasSuffix s.data.toList p.data.toList)])∧w' = w:=Any.strings_CutSuffix Ae3 s p w hs
def sh_laysM171_ren : Go.Shelf.Ren:=⟨fun | 171=>140 | 243=>161 | 246=>160 | 283=>175 | 284=>176 | 285=>177 | 286=>178 | 129=>189 | 317=>188 | 318=>190 | 319=>191 | 320=>192 | 337=>196 | 338=>197 | n=>n,fun | 3=>3 | 9=>9 | 2=>2 | 4=>4 | 171=>175 | 0=>0 | 53=>165 | 37=>36 | 5=>5 | 173=>178 | 212=>190 | 51=>153 | 20=>20 | 213=>191 | 46=>101 | 232=>200 | 233=>201 | n=>n,fun | 17=>6 | 18=>7 | 19=>8 | n=>n⟩
theorem Acb : Go.Proofs.LaysM.n171 Tryz.prog sh_laysM171_ren:={
 mixed:=by kernel_rfl
 f129:=Tryz.func189.trans (congrArg some (by kernel_rfl))
 f171:=Tryz.func140.trans (congrArg some (by kernel_rfl))
 f243:=Tryz.func161.trans (congrArg some (by kernel_rfl))
 f246:=Tryz.func160.trans (congrArg some (by kernel_rfl))
 f283:=Tryz.func175.trans (congrArg some (by kernel_rfl))
 f284:=Tryz.func176.trans (congrArg some (by kernel_rfl))
 f285:=Tryz.func177.trans (congrArg some (by kernel_rfl))
 f286:=Tryz.func178.trans (congrArg some (by kernel_rfl))
 f317:=Tryz.func188.trans (congrArg some (by kernel_rfl))
 f318:=Tryz.func190.trans (congrArg some (by kernel_rfl))
 f319:=Tryz.func191.trans (congrArg some (by kernel_rfl))
 f320:=Tryz.func192.trans (congrArg some (by kernel_rfl))
 f337:=Tryz.func196.trans (congrArg some (by kernel_rfl))
 f338:=Tryz.func197.trans (congrArg some (by kernel_rfl))
 t0:=Tryz.underlying0
 a0:=Tryz.isAgg0
 z0:=Tryz.sizeOf0
 v0:=Tryz.zeroValue0
 t2:=Tryz.underlying2
 a2:=Tryz.isAgg2
 z2:=Tryz.sizeOf2
 v2:=Tryz.zeroValue2
 t3:=Tryz.underlying3
 a3:=Tryz.isAgg3
 z3:=Tryz.sizeOf3
 v3:=Tryz.zeroValue3
 t4:=Tryz.underlying4
 a4:=Tryz.isAgg4
 z4:=Tryz.sizeOf4
 v4:=Tryz.zeroValue4
 t5:=Tryz.underlying5
 a5:=Tryz.isAgg5
 z5:=Tryz.sizeOf5
 v5:=Tryz.zeroValue5
 t9:=Tryz.underlying9
 a9:=Tryz.isAgg9
 z9:=Tryz.sizeOf9
 v9:=Tryz.zeroValue9
 t20:=Tryz.underlying20
 a20:=Tryz.isAgg20
 z20:=Tryz.sizeOf20
 v20:=Tryz.zeroValue20
 t37:=Tryz.underlying36
 a37:=Tryz.isAgg36
 z37:=Tryz.sizeOf36
 v37:=Tryz.zeroValue36
 t46:=Tryz.underlying101
 a46:=Tryz.isAgg101
 z46:=Tryz.sizeOf101
 v46:=Tryz.zeroValue101
 t51:=Tryz.underlying153
 a51:=Tryz.isAgg153
 z51:=Tryz.sizeOf153
 v51:=Tryz.zeroValue153
 t53:=Tryz.underlying165
 a53:=Tryz.isAgg165
 z53:=Tryz.sizeOf165
 v53:=Tryz.zeroValue165
 t171:=Tryz.underlying175
 a171:=Tryz.isAgg175
 z171:=Tryz.sizeOf175
 v171:=Tryz.zeroValue175
 t173:=Tryz.underlying178
 a173:=Tryz.isAgg178
 z173:=Tryz.sizeOf178
 v173:=Tryz.zeroValue178
 t212:=Tryz.underlying190
 a212:=Tryz.isAgg190
 z212:=Tryz.sizeOf190
 v212:=Tryz.zeroValue190
 t213:=Tryz.underlying191
 a213:=Tryz.isAgg191
 z213:=Tryz.sizeOf191
 t232:=Tryz.underlying200
 a232:=Tryz.isAgg200
 z232:=Tryz.sizeOf200
 v232:=Tryz.zeroValue200
 t233:=Tryz.underlying201
 a233:=Tryz.isAgg201
 z233:=Tryz.sizeOf201
 v233:=Tryz.zeroValue201
 g17:=by kernel_rfl
 g18:=by kernel_rfl
 g19:=by kernel_rfl
 i0:=by kernel_rfl
 i2:=by kernel_rfl
 i3:=by kernel_rfl
 i4:=by kernel_rfl
 i5:=by kernel_rfl
 i9:=by kernel_rfl
 i20:=by kernel_rfl
 i37:=by kernel_rfl
 i46:=by kernel_rfl
 i51:=by kernel_rfl
 i53:=by kernel_rfl
 i171:=by kernel_rfl
 i173:=by kernel_rfl
 i212:=by kernel_rfl
 i232:=by kernel_rfl
 i233:=by kernel_rfl
 m17:=by kernel_rfl
 m18:=by kernel_rfl
 m19:=by kernel_rfl }
theorem Ts (n : Int) (h0 : -9223372036854775808≤n) (h1 : n≤9223372036854775807) (w : World) (htab : Lib.TabIs Tryz.prog w "internal/strconv.uint64pow10" .u64 Lib.pow10Tab) :
  Calls Tryz.prog 140 #[.int .i64 n] w fun e w'=>e = .returned (.string ⟨(Lib.itoa n).toArray⟩)∧∃ k os,w' = grow (w.drewN k) os:=Any.strconv_Itoa Acb n h0 h1 w htab
def sh_laysM173_ren : Go.Shelf.Ren:=⟨fun | 173=>139 | 246=>160 | 283=>175 | 284=>176 | 285=>177 | 286=>178 | 129=>189 | 317=>188 | 318=>190 | 319=>191 | 320=>192 | 337=>196 | 338=>197 | n=>n,fun | 2=>2 | 3=>3 | 9=>9 | 4=>4 | 171=>175 | 0=>0 | 53=>165 | 37=>36 | 5=>5 | 173=>178 | 212=>190 | 51=>153 | 20=>20 | 213=>191 | 46=>101 | 232=>200 | 233=>201 | n=>n,fun | 17=>6 | 18=>7 | 19=>8 | n=>n⟩
theorem Aca : Go.Proofs.LaysM.n173 Tryz.prog sh_laysM173_ren:={
 mixed:=by kernel_rfl
 f129:=Tryz.func189.trans (congrArg some (by kernel_rfl))
 f173:=Tryz.func139.trans (congrArg some (by kernel_rfl))
 f246:=Tryz.func160.trans (congrArg some (by kernel_rfl))
 f283:=Tryz.func175.trans (congrArg some (by kernel_rfl))
 f284:=Tryz.func176.trans (congrArg some (by kernel_rfl))
 f285:=Tryz.func177.trans (congrArg some (by kernel_rfl))
 f286:=Tryz.func178.trans (congrArg some (by kernel_rfl))
 f317:=Tryz.func188.trans (congrArg some (by kernel_rfl))
 f318:=Tryz.func190.trans (congrArg some (by kernel_rfl))
 f319:=Tryz.func191.trans (congrArg some (by kernel_rfl))
 f320:=Tryz.func192.trans (congrArg some (by kernel_rfl))
 f337:=Tryz.func196.trans (congrArg some (by kernel_rfl))
 f338:=Tryz.func197.trans (congrArg some (by kernel_rfl))
 t0:=Tryz.underlying0
 a0:=Tryz.isAgg0
 z0:=Tryz.sizeOf0
 v0:=Tryz.zeroValue0
 t2:=Tryz.underlying2
 a2:=Tryz.isAgg2
 z2:=Tryz.sizeOf2
 v2:=Tryz.zeroValue2
 t3:=Tryz.underlying3
 a3:=Tryz.isAgg3
 z3:=Tryz.sizeOf3
 v3:=Tryz.zeroValue3
 t4:=Tryz.underlying4
 a4:=Tryz.isAgg4
 z4:=Tryz.sizeOf4
 v4:=Tryz.zeroValue4
 t5:=Tryz.underlying5
 a5:=Tryz.isAgg5
 z5:=Tryz.sizeOf5
 v5:=Tryz.zeroValue5
 t9:=Tryz.underlying9
 a9:=Tryz.isAgg9
 z9:=Tryz.sizeOf9
 v9:=Tryz.zeroValue9
 t20:=Tryz.underlying20
 a20:=Tryz.isAgg20
 z20:=Tryz.sizeOf20
 v20:=Tryz.zeroValue20
 t37:=Tryz.underlying36
 a37:=Tryz.isAgg36
 z37:=Tryz.sizeOf36
 v37:=Tryz.zeroValue36
 t46:=Tryz.underlying101
 a46:=Tryz.isAgg101
 z46:=Tryz.sizeOf101
 v46:=Tryz.zeroValue101
 t51:=Tryz.underlying153
 a51:=Tryz.isAgg153
 z51:=Tryz.sizeOf153
 v51:=Tryz.zeroValue153
 t53:=Tryz.underlying165
 a53:=Tryz.isAgg165
 z53:=Tryz.sizeOf165
 v53:=Tryz.zeroValue165
 t171:=Tryz.underlying175
 a171:=Tryz.isAgg175
 z171:=Tryz.sizeOf175
 v171:=Tryz.zeroValue175
 t173:=Tryz.underlying178
 a173:=Tryz.isAgg178
 z173:=Tryz.sizeOf178
 v173:=Tryz.zeroValue178
 t212:=Tryz.underlying190
 a212:=Tryz.isAgg190
 z212:=Tryz.sizeOf190
 v212:=Tryz.zeroValue190
 t213:=Tryz.underlying191
 a213:=Tryz.isAgg191
 z213:=Tryz.sizeOf191
 t232:=Tryz.underlying200
 a232:=Tryz.isAgg200
 z232:=Tryz.sizeOf200
 v232:=Tryz.zeroValue200
 t233:=Tryz.underlying201
 a233:=Tryz.isAgg201
 z233:=Tryz.sizeOf201
 v233:=Tryz.zeroValue201
 g17:=by kernel_rfl
 g18:=by kernel_rfl
 g19:=by kernel_rfl
 i0:=by kernel_rfl
 i2:=by kernel_rfl
 i3:=by kernel_rfl
 i4:=by kernel_rfl
 i5:=by kernel_rfl
 i9:=by kernel_rfl
 i20:=by kernel_rfl
 i37:=by kernel_rfl
 i46:=by kernel_rfl
 i51:=by kernel_rfl
 i53:=by kernel_rfl
 i171:=by kernel_rfl
 i173:=by kernel_rfl
 i212:=by kernel_rfl
 i232:=by kernel_rfl
 i233:=by kernel_rfl
 m17:=by kernel_rfl
 m18:=by kernel_rfl
 m19:=by kernel_rfl }
theorem Jy (n : Int) (h0 : -9223372036854775808≤n) (h1 : n≤9223372036854775807) (w : World) (htab : Lib.TabIs Tryz.prog w "internal/strconv.uint64pow10" .u64 Lib.pow10Tab) :
  Calls Tryz.prog 139 #[.int .i64 n,.int .i64 10] w fun e w'=>e = .returned (.string ⟨(Lib.itoa n).toArray⟩)∧∃ k os,w' = grow (w.drewN k) os:=Any.strconv_FormatInt_10 Aca n h0 h1 w htab
def sh_lays219_ren : Go.Shelf.Ren:=⟨fun | 219=>107 | 217=>132 | 225=>133 | 224=>134 | 267=>135 | 266=>154 | 314=>155 | n=>n,fun | 9=>9 | 3=>3 | 4=>4 | 5=>5 | 46=>101 | 146=>154 | 51=>153 | n=>n,fun | 1=>1 | n=>n⟩
theorem Aez : Go.Proofs.Lays.n219 Tryz.prog sh_lays219_ren:={
 mixed:=by kernel_rfl
 f217:=Tryz.func132.trans (congrArg some (by kernel_rfl))
 f219:=Tryz.func107.trans (congrArg some (by kernel_rfl))
 f224:=Tryz.func134.trans (congrArg some (by kernel_rfl))
 f225:=Tryz.func133.trans (congrArg some (by kernel_rfl))
 f266:=Tryz.func154.trans (congrArg some (by kernel_rfl))
 f267:=Tryz.func135.trans (congrArg some (by kernel_rfl))
 f314:=Tryz.func155.trans (congrArg some (by kernel_rfl))
 t3:=Tryz.underlying3
 a3:=Tryz.isAgg3
 z3:=Tryz.sizeOf3
 v3:=Tryz.zeroValue3
 t4:=Tryz.underlying4
 a4:=Tryz.isAgg4
 z4:=Tryz.sizeOf4
 v4:=Tryz.zeroValue4
 t5:=Tryz.underlying5
 a5:=Tryz.isAgg5
 z5:=Tryz.sizeOf5
 v5:=Tryz.zeroValue5
 t9:=Tryz.underlying9
 a9:=Tryz.isAgg9
 z9:=Tryz.sizeOf9
 v9:=Tryz.zeroValue9
 t46:=Tryz.underlying101
 a46:=Tryz.isAgg101
 z46:=Tryz.sizeOf101
 v46:=Tryz.zeroValue101
 t51:=Tryz.underlying153
 a51:=Tryz.isAgg153
 z51:=Tryz.sizeOf153
 v51:=Tryz.zeroValue153
 t146:=Tryz.underlying154
 a146:=Tryz.isAgg154
 z146:=Tryz.sizeOf154
 v146:=Tryz.zeroValue154
 g1:=by kernel_rfl }
theorem Ji (s : ByteArray) (c : UInt8) (w : World) :
  Calls Tryz.prog 107 #[.string s,.string ⟨#[c]⟩] w fun e w'=>e = .returned (.int .i64 (Lib.indexByte s.data.toList c))∧w' = w:=Any.stringslite_Index_one Aez s c w
def sh_lays144_ren : Go.Shelf.Ren:=⟨fun | 144=>91 | 143=>114 | 219=>107 | 217=>132 | 225=>133 | 224=>134 | 267=>135 | 266=>154 | 314=>155 | n=>n,fun | 9=>9 | 4=>4 | 3=>3 | 5=>5 | 46=>101 | 146=>154 | 51=>153 | n=>n,fun | 1=>1 | n=>n⟩
theorem Ae1 : Go.Proofs.Lays.n144 Tryz.prog sh_lays144_ren:={
 mixed:=by kernel_rfl
 f143:=Tryz.func114.trans (congrArg some (by kernel_rfl))
 f144:=Tryz.func91.trans (congrArg some (by kernel_rfl))
 f217:=Tryz.func132.trans (congrArg some (by kernel_rfl))
 f219:=Tryz.func107.trans (congrArg some (by kernel_rfl))
 f224:=Tryz.func134.trans (congrArg some (by kernel_rfl))
 f225:=Tryz.func133.trans (congrArg some (by kernel_rfl))
 f266:=Tryz.func154.trans (congrArg some (by kernel_rfl))
 f267:=Tryz.func135.trans (congrArg some (by kernel_rfl))
 f314:=Tryz.func155.trans (congrArg some (by kernel_rfl))
 t3:=Tryz.underlying3
 a3:=Tryz.isAgg3
 z3:=Tryz.sizeOf3
 v3:=Tryz.zeroValue3
 t4:=Tryz.underlying4
 a4:=Tryz.isAgg4
 z4:=Tryz.sizeOf4
 v4:=Tryz.zeroValue4
 t5:=Tryz.underlying5
 a5:=Tryz.isAgg5
 z5:=Tryz.sizeOf5
 v5:=Tryz.zeroValue5
 t9:=Tryz.underlying9
 a9:=Tryz.isAgg9
 z9:=Tryz.sizeOf9
 v9:=Tryz.zeroValue9
 t46:=Tryz.underlying101
 a46:=Tryz.isAgg101
 z46:=Tryz.sizeOf101
 v46:=Tryz.zeroValue101
 t51:=Tryz.underlying153
 a51:=Tryz.isAgg153
 z51:=Tryz.sizeOf153
 v51:=Tryz.zeroValue153
 t146:=Tryz.underlying154
 a146:=Tryz.isAgg154
 z146:=Tryz.sizeOf154
 v146:=Tryz.zeroValue154
 g1:=by kernel_rfl }
theorem Jx (s : ByteArray) (c : UInt8) (w : World) :
  Calls Tryz.prog 91 #[.string s,.string ⟨#[c]⟩] w fun e w'=>e = .returned (.bool (decide (0≤Lib.indexByte s.data.toList c)))∧w' = w:=Any.strings_Contains_one Ae1 s c w
def sh_lays99_ren : Go.Shelf.Ren:=⟨fun | 99=>71 | 206=>104 | n=>n,fun | 9=>9 | 4=>4 | 3=>3 | n=>n,fun | n=>n⟩
theorem Aik : Go.Proofs.Lays.n99 Tryz.prog sh_lays99_ren:={
 mixed:=by kernel_rfl
 f99:=Tryz.func71.trans (congrArg some (by kernel_rfl))
 f206:=Tryz.func104.trans (congrArg some (by kernel_rfl))
 t3:=Tryz.underlying3
 a3:=Tryz.isAgg3
 z3:=Tryz.sizeOf3
 v3:=Tryz.zeroValue3
 t4:=Tryz.underlying4
 a4:=Tryz.isAgg4
 z4:=Tryz.sizeOf4
 v4:=Tryz.zeroValue4
 t9:=Tryz.underlying9
 a9:=Tryz.isAgg9
 z9:=Tryz.sizeOf9
 v9:=Tryz.zeroValue9 }
theorem Ma (s p : ByteArray) (w : World) :
  Calls Tryz.prog 71 #[.string s,.string p] w fun e w'=>e = .returned (.bool (Lib.hasPrefix s.data.toList p.data.toList))∧w' = w:=Any.strings_HasPrefix Aik s p w
def sh_laysSlH10_f186_ren : Go.Shelf.Ren:=⟨fun | 10=>186 | 6=>195 | n=>n,fun | 22=>61 | 23=>9 | 25=>28 | 3=>3 | 4=>4 | 0=>0 | n=>n,fun | n=>n⟩
theorem Pq : Go.Proofs.SlLaysH.n10 Tryz.prog sh_laysSlH10_f186_ren:={
 mixed:=by kernel_rfl
 f6:=⟨Tryz.f195.name,by decide,Tryz.func195.trans (congrArg some (by kernel_rfl))⟩
 f10:=⟨Tryz.f186.name,by decide,Tryz.func186.trans (congrArg some (by kernel_rfl))⟩
 t0:=Tryz.underlying0
 a0:=Tryz.isAgg0
 z0:=Tryz.sizeOf0
 v0:=Tryz.zeroValue0
 t3:=Tryz.underlying3
 a3:=Tryz.isAgg3
 z3:=Tryz.sizeOf3
 v3:=Tryz.zeroValue3
 t4:=Tryz.underlying4
 a4:=Tryz.isAgg4
 z4:=Tryz.sizeOf4
 v4:=Tryz.zeroValue4
 t22:=Tryz.underlying61
 a22:=Tryz.isAgg61
 z22:=Tryz.sizeOf61
 v22:=Tryz.zeroValue61
 a23:=Tryz.isAgg9
 z23:=Tryz.sizeOf9
 t25:=Tryz.underlying28
 a25:=Tryz.isAgg28
 z25:=Tryz.sizeOf28
 v25:=Tryz.zeroValue28 }
theorem Mc {α : Type} [Inhabited α] (enc : α→Value) (hO : OneCell enc) (p : α→Bool) (g : Nat) (lb : Array Value) (eg : ∀ args w,(callFunc g args).run Tryz.prog w = .ok (.enter g args) w) (zr : α) (v23 : ∀ w,(zeroValue 9).run Tryz.prog w = .ok (enc zr) w) (blk off cap : Nat) (d : Array α) (w : World) (hp : PredAt Tryz.prog g lb enc p w) (hpo : PredOver Tryz.prog g lb enc p blk off d.size w) (hH : Holds enc w blk off d) (hsz : d.size≤9223372036854775807) (hcap : d.size≤cap) :
  Calls Tryz.prog 186 #[.slice (some ⟨blk,off,none⟩) d.size cap,.func (.func g) #[] lb] w fun e w'=>e = .returned (.slice (some ⟨blk,off,none⟩) (d.toList.filter fun x=>!p x).length cap)∧∃ q,w' = putRow enc (Sort.ahead w q) blk off ((d.toList.filter fun x=>!p x) ++ List.replicate (d.size - (d.toList.filter fun x=>!p x).length) zr).toArray:=AnyE.slices_DeleteFunc Pq enc hO p g lb eg zr v23 blk off cap d w hp hpo hH hsz hcap
def sh_lays187_ren : Go.Shelf.Ren:=⟨fun | 187=>92 | 255=>115 | n=>n,fun | 37=>36 | 5=>5 | 3=>3 | n=>n,fun | n=>n⟩
theorem Vb : Go.Proofs.Lays.n187 Tryz.prog sh_lays187_ren:={
 mixed:=by kernel_rfl
 f187:=Tryz.func92.trans (congrArg some (by kernel_rfl))
 f255:=Tryz.func115.trans (congrArg some (by kernel_rfl))
 t3:=Tryz.underlying3
 a3:=Tryz.isAgg3
 z3:=Tryz.sizeOf3
 v3:=Tryz.zeroValue3
 t5:=Tryz.underlying5
 a5:=Tryz.isAgg5
 z5:=Tryz.sizeOf5
 v5:=Tryz.zeroValue5
 t37:=Tryz.underlying36
 a37:=Tryz.isAgg36
 z37:=Tryz.sizeOf36
 v37:=Tryz.zeroValue36 }
theorem Kw (cv : Int) (w : World) :
  Calls Tryz.prog 92 #[.slice none 0 0,.int .u8 cv] w fun e w'=>e = .returned (.int .i64 (-1))∧w' = w:=Any.bytes_IndexByte_nil Vb cv w
end Go.Proofs.YtefelnhpfdcleaaGreatDoor
namespace Go.Proofs.YtefelnhpfdcleaaGreatDoor
open Go Go.Sx
set_option maxRecDepth 10000
set_option maxHeartbeats 2000000
theorem Uw (c : UInt8) (r : List UInt8) : Ge (c :: r) = if (Ge r).isEmpty then (if blankB c then [] else [c]) else c :: Ge r:=by
 unfold Ge
 rw [List.reverse_cons,List.dropWhile_append,List.isEmpty_reverse]
 split
 ·by_cases h : blankB c = true
  ·rw [if_pos h,List.dropWhile_cons_of_pos h]; rfl
  ·rw [if_neg h,List.dropWhile_cons_of_neg h]; rfl
 ·rw [List.reverse_append]; rfl
theorem Aia (s : List UInt8) : Ge (Jq s) = Jq (Ge s):=by
 induction s with
 | nil=>rfl
 | cons c r ih =>
  by_cases h : blankB c = true
  ·rw [Ie h,ih,Uw]
   split
   ·rename_i he
    rw [List.isEmpty_iff.1 he]
   ·rw [Ie h]
  ·have e : Jq (c :: r) = c :: r:=by rw [Jq,List.dropWhile_cons_of_neg h]
   rw [e,Uw]
   split
   ·rw [Jq,List.dropWhile_cons_of_neg h]
   ·rw [Jq,List.dropWhile_cons_of_neg h]
theorem Amx (c : UInt8) : [32,9].contains c = blankB c:=by
 have : ∀ n : Fin 256,[32,9].contains (UInt8.ofNat n.1) = Hq (n.1 : Int):=by decide
 have h:=this ⟨c.toNat,c.toNat_lt⟩
 simp only [UInt8.ofNat_toNat] at h
 exact h
theorem Ut (s : List UInt8) : Lib.trimS s [32,9] = trimF s:=by
 rw [trimF,Aia]
 unfold Lib.trimS Lib.trimLeftS Lib.trimRightS Jq Ge
 have e : (fun x=>[32,9].contains x) = blankB:=funext Amx
 rw [e]
def spTrim64 : FSpec:=fun _ xs ls K=>∃ (s c : List UInt8),xs = [.str s,.str c]∧ls = []∧s.length≤9223372036854775807∧c.length < 1000∧(c.all fun b=>decide (b.toNat < 128)) = true∧∀ r,r = Lib.trimS s c→K (.str r) []
theorem Jr : Ar Tryz.prog gl 94 spTrim64:=by
 refine ⟨⟨Tryz.f94,_,Tryz.func94,rfl,by kernel_rfl⟩,fun xs ls K h=>?_⟩
 obtain ⟨s,c,rfl,rfl,hs,hc,ha,h⟩:=h
 refine ⟨_,_,h _ rfl,Bt fun E B w vals _ _ _ hr=>?_⟩
 obtain ⟨v,u,rfl,hv,hu⟩:=Ek hr
 rw [D0 hv,D0 hu]
 refine (Any.strings_Trim_laid Ae0 (by kernel_rfl) ⟨s.toArray⟩ ⟨c.toArray⟩ w (by simpa [ByteArray.size] using hs) (by simp [ByteArray.size]; omega) (ascii_of_all (by simpa using ha))).mono ?_
 rintro e w' ⟨rfl,hB⟩
 exact ⟨_,rfl,fun E=>.ro (.str rfl),hB⟩
theorem trim_ok : Ar Tryz.prog gl 194 (Q8 trimF):=by
 refine A4 (gh:=[]) mixed A0 (Aa Jr Ae) Tryz.func194 (by kernel_rfl) (by kernel_rfl) ?_
 intro xs ls K h
 unfold Q8 at h
 obtain ⟨s,rfl,rfl,hl,h⟩:=h
 obtain ⟨k,hk⟩ : ∃ k,k = trimF s:=⟨_,rfl⟩
 refine ⟨_,_,h k hk,fun D hD=>?_⟩
 clear h
 cbv
 refine ⟨s,[32,9],rfl,rfl,hl,by decide,by decide,fun r hr=>?_⟩
 cbv
 exact Is (by rw [hr,hk,Ut])
end Go.Proofs.YtefelnhpfdcleaaGreatDoor
namespace Go.Proofs.YtefelnhpfdcleaaGreatDoor
open Go.Sx
set_option maxRecDepth 10000
set_option maxHeartbeats 2000000
def spSplit : FSpec:=fun _ xs ls K=>∃ (s : List UInt8) (y : Int),xs = [.str s,.int .u8 (.a y)]∧ls = []∧s.length≤100000∧∀ (k : Option (List (List UInt8))) (l : List (List UInt8)) (n : Int) (b nb : Bool) (f : Nat→List SV),k = Il y s→l = (k.getD []).map trimF→n = (l.length : Int)→b = k.isSome→nb = k.isNone→f = Dd l→K (.tup [.osl (.a nb) (.a n) 0,.bool (.a b)]) [.own 9 (.a n) 1 true f]
structure SpI (s : List UInt8) (out : List (List UInt8)) (a i : Nat) (A I : Int) (m : Nat) : Prop where
 at_ : At s i I m
 ale : a≤i
 A : ST.den (.a A) = (a : Int)
 out : out.length≤i
 s : s.length≤100000
def splJ (s : List UInt8) (y : Int) (k : Option (List (List UInt8))) (m : Nat) (vs : List (Option SV)) (hp : List Hl) : Prop :=
 ∃ (i a : Nat) (I A n : Int) (nl : Bool) (f : Nat→List SV) (out : List (List UInt8)),vs = [some (.str s),some (.int .u8 (.a y)),some (.osl (.a nl) (.a n) 0),some (.int .i64 (.a A)),some (.int .i64 (.a I))]∧hp = [.own 9 (.a n) 1 true f]∧
  SpI s out a i A I m∧A8 f n (out.map trimF)∧k = pAt y s out a i
def qOf : Option (Nat×List UInt8)→Int
 | none=>0
 | some x=>((1 + x.1 : Nat) : Int)
theorem Ak8 {o : Option (Nat×List UInt8)} (h : (qOf o == 0) = true) : o = none:=by
 cases o with
 | none=>rfl
 | some x=>simp only [qOf,beq_iff_eq] at h; omega
theorem Ak9 {o : Option (Nat×List UInt8)} (h : (qOf o == 0) = false) : ∃ x,o = some x∧qOf o = ((1 + x.1 : Nat) : Int):=by
 cases o with
 | none=>simp [qOf] at h
 | some x=>exact ⟨x,rfl,rfl⟩
theorem Aau {s : List UInt8} {i : Nat} : Pw (s.drop i) = qOf (qdF Bd (s.drop (i + 1))):=by
 rw [Pw,qAt,Ak5,List.drop_drop,show i + (0 + 1) = i + 1 by omega]
 cases qdF Bd (s.drop (i + 1)) with
 | none=>rfl
 | some x=>simp only [qOf]
theorem Ahs {D : Dn} (hD : D = dn) {k : Option (List (List UInt8))} {kl : List (List UInt8)} {kn : Int} {kb knb : Bool} {kr g : Nat→List SV} (hk : k = none) (hkl : kl = (k.getD []).map trimF) (hkn : kn = (kl.length : Int)) (hkb : kb = k.isSome) (hknb : knb = k.isNone) :
  Fin (.tup [.osl (.a (D.b (.l true))) (.a (D.i (.l 0))) 0,.bool (.a (D.b (.l false)))]) (.tup [.osl (.a knb) (.a kn) 0,.bool (.a kb)]) [.own 9 (.a (D.i (.l 0))) 1 true g] [.own 9 (.a kn) 1 true kr]:=by
 subst hD hk
 have e : kn = 0:=by rw [hkn,hkl]; rfl
 refine Se (.tup (.cons (Ze (by rw [hknb]; rfl) (by rw [e]; rfl)) (.cons (Ry (by rw [hkb]; rfl)) .nil))) (by rw [e]; rfl) fun i hi=>?_
 have hi : (i : Int) < 0:=hi
 omega
theorem finSpl1 {D : Dn} (hD : D = dn) {k : Option (List (List UInt8))} {l kl : List (List UInt8)} {kn : Int} {kb knb : Bool} {kr f : Nat→List SV} (hk : k = some l) (hkl : kl = (k.getD []).map trimF) (hkn : kn = (kl.length : Int)) (hkb : kb = k.isSome) (hknb : knb = k.isNone) (hkr : kr = Dd kl)
  {n : Int} (R : A8 f n (l.map trimF)) {x : BT} {y : ST} (hy : y.den = n) (hx : x.den = false) : Fin (.tup [.osl (.a (D.b x)) (.a (D.i y)) 0,.bool (.a (D.b (.l true)))]) (.tup [.osl (.a knb) (.a kn) 0,.bool (.a kb)]) [.own 9 (.a (D.i y)) 1 true f] [.own 9 (.a kn) 1 true kr]:=by
 subst hD hk
 have hkl : kl = l.map trimF:=hkl
 have e : dn.i y = kn:=by show y.den = _; rw [hy,R.n,hkn,hkl]
 refine Se (.tup (.cons (Ze ?_ e) (.cons (Ry (by rw [hkb]; rfl)) .nil))) e fun i hi=>?_
 ·rw [hknb]; exact hx
 ·have hi : (i : Int) < dn.i y:=hi
  rw [R.f i (by rw [e,hkn,hkl] at hi; omega),hkr,hkl]; rfl
theorem Aks : Ar Tryz.prog gl 185 spSplit:=by
 refine A4 (gh:=[(1,[.own 6 9]),(9,[.own 4 9]),(12,[.own 4 9])]) mixed A0 (Aa Aa7 (Aa Aiu (Aa trim_ok Ae))) Tryz.func185 (by kernel_rfl) (by kernel_rfl) ?_
 intro xs ls K h
 unfold spSplit at h
 obtain ⟨s,y,rfl,rfl,hl,h⟩:=h
 obtain ⟨k,hk⟩ : ∃ k,k = Il y s:=⟨_,rfl⟩
 obtain ⟨kl,hkl⟩ : ∃ kl,kl = (k.getD []).map trimF:=⟨_,rfl⟩
 obtain ⟨kn,hkn⟩ : ∃ kn : Int,kn = (kl.length : Int):=⟨_,rfl⟩
 obtain ⟨kb,hkb⟩ : ∃ kb,kb = k.isSome:=⟨_,rfl⟩
 obtain ⟨knb,hknb⟩ : ∃ knb,knb = k.isNone:=⟨_,rfl⟩
 obtain ⟨kr,hkr⟩ : ∃ kr,kr = Dd kl:=⟨_,rfl⟩
 refine ⟨_,_,h k kl kn kb knb kr hk hkl hkn hkb hknb hkr,fun D hD=>?_⟩
 clear h
 have hk : k = pAt y s [] 0 0:=by
  rw [hk,Il,pAt,Xa]
  simp
 cbv
 obtain ⟨J,hJ⟩ : ∃ J,J = splJ s y k:=⟨_,rfl⟩
 refine ⟨[0,1,6,7,8],J,⟨rfl,s.length,?_⟩,?_⟩
 ·rw [hJ]
  subst hD
  exact ⟨0,0,_,_,_,_,_,[],rfl,rfl,⟨At.zero (by omega),by omega,rfl,by simp,hl⟩,A8.nil,hk⟩
 clear hk
 intro m vs hp' hv
 rw [hJ] at hv
 unfold splJ at hv
 obtain ⟨i,a,I,A,n,nl,f,out,rfl,rfl,V,R,hk⟩:=hv
 cbv
 refine br hD (fun h=>?_) (fun h=>?_)<;>cbv
 ·have hlt:=V.at_.lt (of_decide_eq_true (p:=I < (s.length : Int)) h)
  clear h
  refine ⟨V.at_.inS hD hlt,fun c hc=>?_⟩
  have hc2:=Co hD V.at_.den hc
  clear hc
  cbv
  refine br hD (fun h=>?_) (fun h=>?_)<;>cbv
  ·have h34 : charI s i = 34:=by rw [←hc2.charI]; have h : (c == 34) = true:=h; simpa using h
   clear h
   rw [Y4 hlt V.ale (by rw [h34]; decide) h34] at hk
   refine ⟨by subst hD; exact Ee (s:=s) (j:=s.length) (b:=.len s) V.at_.den rfl (by omega) (Nat.le_refl _),fun r1 hr1=>?_⟩
   have hr1' : r1 = s.drop i:=by
    have:=Hn (j:=s.length) (b:=.len s) hD V.at_.den rfl hr1
    rw [this]; exact List.take_of_length_le (by simp)
   clear hr1
   cbv
   refine ⟨_,rfl,rfl,by have:=V.s; rw [hr1',List.length_drop]; omega,fun q hq=>?_⟩
   have hq2 : q = qOf (qdF Bd (s.drop (i + 1))):=by subst hD; rw [hq,hr1']; exact Aau
   clear hq
   cbv
   refine br hD (fun h=>?_) (fun h=>?_)<;>cbv
   ·have h : (q == 0) = true:=h
    rw [hq2] at h
    rw [Ak8 h] at hk
    exact Ahs hD hk hkl hkn hkb hknb
   ·have h : (q == 0) = false:=h
    rw [hq2] at h
    obtain ⟨x,hx,hqx⟩:=Ak9 h
    rw [hx] at hk
    simp only at hk
    have hlen:=Nk _ _ x (Nat.le_refl _) hx
    rw [List.length_drop] at hlen
    have hq3 : ST.den (.bin .add .i64 (.a I) (.a q)) = ((i + 1 + x.1 : Nat) : Int):=by
     have h1:=V.at_.I; have h2:=V.s
     show IntKind.i64.wrap (I + q) = _
     rw [hq2,hqx,Am (by omega) (by omega)]; omega
    clear h
    refine ⟨s.length - (i + 1 + x.1),by have:=V.at_.m; omega,?_⟩
    rw [hJ]
    subst hD
    refine ⟨i + 1 + x.1,a,_,_,_,_,f,out,rfl,rfl,⟨⟨by omega,hq3,rfl,V.at_.len⟩,by have:=V.ale; omega,V.A,by have:=V.out; omega,V.s⟩,R,hk⟩
  have h34 : charI s i≠34:=by rw [←hc2.charI]; have h : (c == 34) = false:=h; simpa using h
  clear h
  refine ⟨_,rfl,rfl,by subst hD; exact hc2.le,fun r hr=>?_⟩
  have hr2 : r = Dq c:=by subst hD; exact hr
  clear hr
  have hsm : Bd (charI s i) = !(Dq c == 0):=by rw [hc2.charI]; unfold charI; rw [←Va,Lk]
  rw [←hr2] at hsm
  cbv
  refine br hD (fun h=>?_) (fun h=>?_)<;>cbv
  ·have h : (r == 0) = true:=h
   rw [Aha hlt (by rw [hsm,h]; rfl)] at hk
   exact Ahs hD hk hkl hkn hkb hknb
  have hp : Bd (charI s i) = true:=by have h : (r == 0) = false:=h; rw [hsm,h]; rfl
  clear h
  refine br hD (fun h=>?_) (fun h=>?_)<;>cbv
  ·have hy : charI s i = y:=by rw [←hc2.charI]; have h : (c == y) = true:=h; simpa using h
   clear h
   rw [Ag8 hlt hp h34 hy] at hk
   refine ⟨by subst hD; exact Ee V.A V.at_.den V.ale (by omega),fun r1 hr1=>?_⟩
   have hr1' : r1 = cut s a i:=Hn hD V.A V.at_.den hr1
   clear hr1
   cbv
   refine ⟨_,rfl,rfl,by have:=V.s; rw [hr1',cut,List.length_take,List.length_drop]; omega,fun t ht=>?_⟩
   have ht2 : t = trimF (cut s a i):=by rw [ht,hr1']
   clear ht
   cbv
   intro g hg
   have hg0 : g 0 = [.str t]:=hg.h 0 _ rfl
   clear hg
   cbv
   refine ⟨?_,fun f' n' hf'=>?_⟩
   ·have:=V.out; have:=V.s; have h:=R.n; rw [List.length_map] at h; subst hD; exact ⟨rfl,by show (n + 1) * 16≤_; omega,by show n + 1≤_; omega⟩
   have R' : A8 f' n' ((out ++ [cut s a i]).map trimF):=by
    subst hD
    rw [List.map_append,List.map_singleton]
    exact R.more (by rw [hg0,ht2]) hf' (by have:=V.out; have:=V.s; rw [List.length_map]; omega)
   clear hf' hg0
   cbv
   refine ⟨s.length - (i + 1),(V.at_.step hD hlt).1,?_⟩
   rw [hJ]
   subst hD
   exact ⟨i + 1,i + 1,_,_,_,_,f',_,rfl,rfl,⟨(V.at_.step rfl hlt).2,Nat.le_refl _,(V.at_.step rfl hlt).2.I,by have:=V.out; simp; omega,V.s⟩,R',hk⟩
  ·have hy : charI s i≠y:=by rw [←hc2.charI]; have h : (c == y) = false:=h; simpa using h
   clear h
   rw [Acs hlt V.ale hp h34 hy] at hk
   refine ⟨s.length - (i + 1),(V.at_.step hD hlt).1,?_⟩
   rw [hJ]
   subst hD
   exact ⟨i + 1,a,_,_,_,_,f,out,rfl,rfl,⟨(V.at_.step rfl hlt).2,by have:=V.ale; omega,V.A,by have:=V.out; omega,V.s⟩,R,hk⟩
 ·have hi:=V.at_.eq (of_decide_eq_false (p:=I < (s.length : Int)) h)
  clear h
  rw [Ag9 hi] at hk
  refine ⟨by subst hD; exact Ee (s:=s) (j:=s.length) (b:=.len s) V.A rfl (by have:=V.ale; omega) (Nat.le_refl _),fun r1 hr1=>?_⟩
  have hr1' : r1 = s.drop a:=by
   have:=Hn (j:=s.length) (b:=.len s) hD V.A rfl hr1
   rw [this]; exact List.take_of_length_le (by simp)
  clear hr1
  cbv
  refine ⟨_,rfl,rfl,by have:=V.s; rw [hr1',List.length_drop]; omega,fun t ht=>?_⟩
  have ht2 : t = trimF (s.drop a):=by rw [ht,hr1']
  clear ht
  cbv
  intro g hg
  have hg0 : g 0 = [.str t]:=hg.h 0 _ rfl
  clear hg
  cbv
  refine ⟨?_,fun f' n' hf'=>?_⟩
  ·have:=V.out; have:=V.s; have h:=R.n; rw [List.length_map] at h; subst hD; exact ⟨rfl,by show (n + 1) * 16≤_; omega,by show n + 1≤_; omega⟩
  have R' : A8 f' n' ((out ++ [s.drop a]).map trimF):=by
   subst hD
   rw [List.map_append,List.map_singleton]
   exact R.more (by rw [hg0,ht2]) hf' (by have:=V.out; have:=V.s; rw [List.length_map]; omega)
  clear hf' hg0
  cbv
  exact finSpl1 hD hk hkl hkn hkb hknb hkr R' rfl (by show (nl && false) = false; simp)
end Go.Proofs.YtefelnhpfdcleaaGreatDoor
namespace Go.Proofs.YtefelnhpfdcleaaGreatDoor
open Go Go.RowKit Go.Sx Go.Sort
set_option maxRecDepth 100000
set_option maxHeartbeats 2000000
def Sj (x : ByteArray) : Bool:=x.toList.isEmpty
theorem Ad0 (x : ByteArray) (w : World) : Calls Tryz.prog 187 #[.string x] w fun e w'=>e = .returned (.bool (Sj x))∧∃ q,w' = w.drewN q:=by
 go_enter Tryz.func187,Tryz.ntmps51
 go_wp2
 go_ret
 exact ⟨rfl,0,rfl⟩
theorem Abj (x : List UInt8) : (!Sj (Sx.bytes x)) = neB x:=by
 unfold Sj neB Sx.bytes
 rw [Lib.toList_data]
 cases x<;>rfl
theorem Abh (l : List (List UInt8)) : (l.map Sx.bytes).filter (fun x=>!Sj x) = (l.filter neB).map Sx.bytes:=by
 rw [List.filter_map]
 congr 1
 refine List.filter_congr fun x _=>Abj x
theorem Am1 : ∀ args w,(callFunc 187 args).run Tryz.prog w = .ok (.enter 187 args) w:=enters_of Tryz.func187 (by kernel_rfl) rfl
theorem S5 {α : Type} [Inhabited α] (enc : α→Value) (w : World) (blk off : Nat) (d : Array α) (k : Nat) : (putRow enc w blk off d).heap[k]? = if blk = k then (w.heap[k]?).map (onCells (putCells enc off d)) else w.heap[k]?:=by
 unfold putRow mapBlock
 simp only [Array.getElem?_modify]
theorem delPut {w : World} {q b : Nat} {cur : Array Value} {fr : Nat×Nat} {t : TypeId} (hg : w.heap[b]? = some (.cells cur t fr)) (N : Array ByteArray) {i : Nat} (hi : i < N.size) (hc : N.size≤cur.size) : (putRow Value.string (Go.Sort.ahead w q) b 0 N).cell? ⟨b,i,none⟩ = some (.string N[i]!):=by
 have h1 : (putRow Value.string (Go.Sort.ahead w q) b 0 N).heap[b]? = some (.cells (putCells Value.string 0 N cur) t fr):=by
  rw [S5,if_pos rfl]
  have : (Go.Sort.ahead w q).heap[b]? = w.heap[b]?:=rfl
  rw [this,hg]; rfl
 rw [cell_of_row _ b _ _ _ _ h1]
 simp only [putCells,Array.getElem?_mapIdx]
 rw [Array.getElem?_eq_getElem (by omega),Option.map_some,if_pos ⟨Nat.zero_le _,by omega⟩]
 rfl
def spDel : FSpec:=fun _ xs ls K=>∃ (l : List (List UInt8)) (nb : Bool) (n : Int) (f : Nat→List SV),xs = [.osl (.a nb) (.a n) 0,.fn 187]∧ls = [.own 9 (.a n) 1 true f]∧A8 f n l∧0 < l.length∧∀ l' n',l' = l.filter neB→n' = (l'.length : Int)→K (.sl (.a false) (.a n') 1 (Dd l')) [.gone]
theorem Aj2 : Ar Tryz.prog gl 186 spDel:=by
 refine ⟨⟨Tryz.f186,_,Tryz.func186,rfl,by kernel_rfl⟩,fun xs ls K h=>?_⟩
 obtain ⟨l,nb,n,f,rfl,rfl,R,h0,h⟩:=h
 refine ⟨_,_,h _ _ rfl rfl,?_⟩
 intro B E w vals hw0 hI0 hdom hb hg hh hr
 obtain ⟨v,m,xs,k1,kz,k2,k3,k4,k5,k6⟩:=hh 0
 have k3' : n = (m : Int):=k3
 have hm : m = l.length:=by have:=R.n; omega
 obtain ⟨u,g,rfl,hu,hgv⟩:=Ek hr
 obtain ⟨huv,hnl⟩:=Je hu k1 k2 k3 rfl
 subst huv
 obtain rfl : g = .func (.func 187) #[] #[]:=by
  cases hgv with
  | ro h=>cases h with
   | fn h=>exact h
 rcases k2.2 with ⟨e0,e1⟩ | ⟨b,cap,cur,fr,e0,hg2,hfr,hmc,hcm,hcs,htake⟩
 ·omega
 subst e0
 obtain rfl : fr = (0,0):=by
  rcases hfr with h | ⟨h,_⟩
  ·exact h
  ·cases h
 have hxl : xs.length = l.length:=by rw [k2.1,hm]; simp
 have hxs : xs = l.map fun x=>Value.string (Sx.bytes x):=by
  refine List.ext_getElem (by rw [hxl]; simp) fun i h1 h2=>?_
  have hi : i < l.length:=by omega
  have:=k5.2 i 0 (.str (l.getD i [])) xs[i] (by omega) (by rw [R.f i hi]; rfl) (by simp [List.getElem?_eq_getElem h1])
  cases this with
  | str h =>
   rw [h,List.getElem_map,List.getD_eq_getElem?_getD,List.getElem?_eq_getElem hi]; rfl
 obtain ⟨hO,hnI⟩:=k6 b rfl
 have hlt : b < w.heap.size:=(hb.Obd b 0 hO).1
 obtain ⟨d,hd⟩ : ∃ d,d = (l.map Sx.bytes).toArray:=⟨_,rfl⟩
 have hds : d.size = m:=by rw [hd,hm]; simp
 have hdl : d.toList = l.map Sx.bytes:=by rw [hd]
 have hH : Holds Value.string w b 0 d:=by
  intro j hj
  have hj' : j < l.length:=by omega
  refine ⟨?_,Lib.frozen_of_heap hg2 _⟩
  rw [cell_of_row w b _ cur _ _ hg2,Nat.zero_add]
  have h1 : cur.toList[j]? = some (Value.string (Sx.bytes l[j])):=by
   have : (cur.toList.take (m * 1))[j]? = xs[j]?:=by rw [htake]
   rw [List.getElem?_take,if_pos (by omega),hxs] at this
   rw [this]
   simp [List.getElem?_eq_getElem hj']
  rw [←Array.getElem?_toList,h1,getElem!_pos d j hj]
  simp [hd]
 have hF : (d.toList.filter fun x=>!Sj x) = (l.filter neB).map Sx.bytes:=by rw [hdl]; exact Abh l
 have run:=Mc Value.string (fun _=>rfl) Sj 187 #[] Am1 ⟨#[]⟩ Tryz.zeroValue9 b 0 cap d w (fun W x _=>by simpa [FnGives] using Ad0 x W) (fun q os dk x _=>by simpa [FnGives] using Ad0 x _) hH (by have:=R.len; omega) (by omega)
 rw [hF,hds] at run
 refine run.mono ?_
 clear run
 rintro e w' ⟨rfl,q,rfl⟩
 obtain ⟨l',hl'⟩ : ∃ l',l' = l.filter neB:=⟨_,rfl⟩
 rw [←hl']
 have hle : l'.length≤l.length:=by rw [hl']; exact List.length_filter_le _ _
 obtain ⟨N,hN⟩ : ∃ N,N = (l'.map Sx.bytes ++ List.replicate (m - (l'.map Sx.bytes).length) (⟨#[]⟩ : ByteArray)).toArray:=⟨_,rfl⟩
 rw [←hN]
 have hNs : N.size = m:=by rw [hN]; simp; omega
 have hNi : ∀ i,i < l'.length→N[i]! = Sx.bytes (l'.getD i []):=by
  intro i hi
  rw [getElem!_pos N i (by omega),List.getD_eq_getElem?_getD,List.getElem?_eq_getElem hi]
  simp only [hN,List.getElem_toArray]
  rw [List.getElem_append_left (by simpa using hi)]
  simp
 have hcell : ∀ i,i < l'.length→(putRow Value.string (Go.Sort.ahead w q) b 0 N).cell? ⟨b,i,none⟩ = some (.string (Sx.bytes (l'.getD i []))):=by
  intro i hi
  rw [delPut hg2 N (by omega) (by omega),hNi i hi]
 have hheap : ∀ k,k≠b→(putRow Value.string (Go.Sort.ahead w q) b 0 N).heap[k]? = w.heap[k]?:=fun k hk=>by rw [S5,if_neg (fun e=>hk e.symm)]; rfl
 have hc2 : ∀ b2 o,b2≠b→(putRow Value.string (Go.Sort.ahead w q) b 0 N).cell? ⟨b2,o,none⟩ = w.cell? ⟨b2,o,none⟩:=fun b2 o hb2=>by simp only [World.cell?]; rw [hheap b2 hb2]
 have hsz : (putRow Value.string (Go.Sort.ahead w q) b 0 N).heap.size = w.heap.size:=by simp [putRow,mapBlock,Go.Sort.ahead]
 have hX:=(hb.Obd b 0 hO).2
 let E' : Env:=⟨E.β,E.τ,E.O,E.κ,E.ζ,fun b2 o=>E.I b2 o∨(b2 = b∧o < l'.length)⟩
 refine ⟨_,E',rfl,⟨hb.os,hb.tape,hb.output,by rw [hsz]; exact hb.size,fun b2 hlt2 hnX=>?_,fun b2 o hi=>?_,fun b2 o hi=>?_,fun b2 o hi=>?_,fun b2 j hO2=>?_,⟨hb.β0.β,hb.β0.τ,hb.β0.ζ⟩⟩,fun k hk=>?_,?_⟩
 ·rw [hheap b2 (fun e=>?_)]
  ·exact hb.old b2 hlt2 hnX
  ·subst e
   rcases hX with h | h
   ·omega
   ·exact hnX h
 ·obtain ⟨i1,i2⟩:=hb.I0 b2 o hi
  refine ⟨.inl i1,?_⟩
  rw [hc2 b2 o (fun e=>hnI o (by rw [←e]; exact i1))]; exact i2
 ·rw [hsz]
  rcases hi with hi | ⟨rfl,_⟩
  ·exact hb.Ibd b2 o hi
  ·exact hlt
 ·rcases hi with hi | ⟨rfl,_⟩
  ·exact hb.Inew b2 o hi
  ·exact .inr hX
 ·rw [hsz]; exact hb.Obd b2 j hO2
 ·obtain rfl : k = 0:=by simpa using hk
  trivial
 ·refine .ro (.sl (fun i j=>.string (Sx.bytes (l'.getD i []))) rfl ?_ ?_ hcm (fun _=>rfl) (fun i hi=>rfl) (fun i j hi hj=>rfl) (fun i j hi hj=>?_) (fun i j s hi hs=>?_))
  ·show (l'.length : Int) = _
   simp
  ·simp; omega
  ·obtain rfl : j = 0:=by omega
   have hi : i < l'.length:=by simpa using hi
   refine ⟨?_,.inr ⟨rfl,by simpa using hi⟩⟩
   simpa using hcell i hi
  ·match j,hs with
   | 0,hs =>
    have hs : some (SV.str (l'.getD i [])) = some s:=hs
    cases hs
    exact .str rfl
   | j + 1,hs=>simp [Dd] at hs
end Go.Proofs.YtefelnhpfdcleaaGreatDoor
