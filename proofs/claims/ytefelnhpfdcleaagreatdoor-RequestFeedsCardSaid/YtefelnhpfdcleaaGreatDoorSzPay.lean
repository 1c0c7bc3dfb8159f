/- Part of the proofs of the statements about requests (layer 7): a symbolic executor over the code, that it is sound, and contracts of functions; it has no conditions of its own. -/
import Derived.Shelf.Strings.Builder1
import Derived.Shelf.Strings.Builder2
import Derived.Shelf.Strings.OnBuilder
import Derived.Shelf.Strings.Trim
import Derived.Shelf.Small.Utf8
import Derived.Shelf.Small.Strs
import Derived.Shelf.Small.Wraps
import Derived.Shelf.Strings.BuilderF
import Derived.Shelf.Strings.BuilderK
import Derived.Shelf.Strings.Builder2Cap
import Derived.Shelf.Strconv.Itoa0
import Derived.Shelf.Strconv.Itoa1
import Derived.Shelf.LaysM
import Derived.Shelf.Strconv.Itoa2
import Derived.Shelf.Strconv.Itoa3
import Derived.Shelf.Strconv.Itoa4
import Derived.Shelf.Strconv.ParseIntEmpty
import Derived.Shelf.Strconv.Clone
import Derived.Shelf.Strconv.SyntaxError
import Derived.Shelf.LaysC
import Derived.Shelf.Strconv.ToError
import Derived.Shelf.Strconv.Lower
import Derived.Shelf.Strconv.ParseUint10
import Derived.Shelf.Strconv.ParseUint10Empty
import Derived.Shelf.Strconv.ParseUint10Any
import Derived.Shelf.Strconv.ParseInt10
import Derived.Shelf.Strconv.RangeError
import Derived.Shelf.Strconv.ToErrorRange
import Derived.Shelf.Strconv.ParseUintEmpty
import Derived.Shelf.Strconv.ParseUint10b64
import Derived.Shelf.Strconv.ParseUint10b32
import Derived.Shelf.Strconv.ParseUint10b16
import Derived.Shelf.Strconv.ParseUint10b8
import Derived.Shelf.Strconv.ParseUint10At
import Derived.Shelf.Strconv.ParseInt10At64
import Derived.Shelf.Strconv.ParseInt10At32
import Derived.Shelf.Strconv.ParseInt10At16
import Derived.Shelf.Strconv.ParseInt10At8
import Derived.Shelf.Strconv.ParseInt10All
import Derived.Shelf.Strconv.ParseIntPublic10
import Derived.Shelf.Strconv.ErrVarParseInt
import Derived.Shelf.Strings.Search1
import Derived.Shelf.Strings.Search2
import Derived.Shelf.Strings.Search3
import Derived.Shelf.Strings.Cut
import Derived.Shelf.Strings.Shaped
import Derived.Shelf.GgClosure.StringsIndexFunc
import Derived.Ground.GgwProg
import Derived.Shelf.GgClosure.StringsIndexFuncTop
import Derived.Shelf.Strings.Prefix
import Derived.Shelf.Unicode.Decode
import Derived.Shelf.Strings.Runes
import Derived.Shelf.Strings.AsciiSet
import Derived.Shelf.Unicode.DecodeSlow
import Derived.Shelf.Unicode.DecodeAny
import Derived.Shelf.Unicode.DecodeLast
import Derived.Shelf.Strings.FuncGrows
import Derived.Shelf.Strings.BuilderCap
import Derived.Ground.SlgfProg
import Derived.Shelf.SlicesE.IndexFunc
import Derived.Shelf.SlicesE.DeleteFunc
import Derived.Shelf.Bytes.IndexByte
import Derived.ProofKit
import Derived.Below
import Derived.Carry
import Derived.ChangeOld
import Derived.ChangeArms
import Derived.OpenShut
import Derived.MakeChecks
import Derived.Test.YtefelnhpfdcleaaGreatDoorSzPax
import Derived.Test.YtefelnhpfdcleaaGreatDoorSzPat
namespace Go.Proofs.YtefelnhpfdcleaaGreatDoor
open Go.Sx
set_option maxRecDepth 10000
set_option maxHeartbeats 2000000
def Adt (s : List UInt8) : Bool:=(Al s).2 != 0
theorem Adu : Ar Tryz.prog gl 173 (Uh Al Adt):=by
 refine A4 (gh:=[]) mixed A0 (Aa Aks (Aa Aj2 Ae)) Tryz.func173 (by kernel_rfl) (by kernel_rfl) ?_
 intro xs ls K h
 unfold Uh at h
 obtain ⟨s,rfl,rfl,hl,h⟩:=h
 obtain ⟨k,hk⟩ : ∃ k,k = Al s:=⟨_,rfl⟩
 obtain ⟨kl,ke⟩:=k
 obtain ⟨kn,hkn⟩ : ∃ kn : Int,kn = (kl.length : Int):=⟨_,rfl⟩
 obtain ⟨knb,hknb⟩ : ∃ knb : Bool,knb = (ke != 0):=⟨_,rfl⟩
 refine ⟨_,_,h kl ke kn knb hk hkn (by rw [hknb,Adt,←hk]),fun D hD=>?_⟩
 clear h
 obtain ⟨kr,hkr⟩ : ∃ kr,kr = Dd kl:=⟨_,rfl⟩
 rw [←hkr]
 rw [Al] at hk
 cbv
 refine br hD (fun h=>?_) (fun h=>?_)<;>cbv
 ·have h : decide (2000 < (s.length : Int)) = true:=h
  rw [if_pos (by simpa using h)] at hk
  exact Zv (f:=fun _=>[]) hD hk hkn hkr A8.nil rfl (by simp only [Prod.mk.injEq] at hk; rw [hknb,hk.2]; rfl) rfl
 have h : decide (2000 < (s.length : Int)) = false:=h
 have h2 : ¬ (2000 < (s.length : Int)):=by simpa using h
 rw [if_neg h2] at hk
 have hs : s.length≤2000:=by omega
 clear h h2
 refine ⟨s,_,rfl,rfl,by omega,fun k l n b nb f hp0 hl' hn hb hnb hf=>?_⟩
 have hp : k = Il 44 s:=by subst hD; exact hp0
 clear hp0
 rw [←hp] at hk
 cbv
 refine br hD (fun h=>?_) (fun h=>?_)<;>cbv
 ·have h : (!b) = true:=h
  have hn0 : k = none:=by
   cases k with
   | none=>rfl
   | some l=>rw [hb] at h; cases h
  rw [hn0] at hk
  exact Zv (f:=fun _=>[]) hD hk hkn hkr A8.nil rfl (by simp only [Prod.mk.injEq] at hk; rw [hknb,hk.2]; rfl) rfl
 have h : (!b) = false:=h
 obtain ⟨l0,rfl⟩ : ∃ l,k = some l:=by
  cases k with
  | none=>rw [hb] at h; cases h
  | some l=>exact ⟨l,rfl⟩
 clear h
 obtain ⟨h1,h2,h3⟩:=Ou hp.symm
 simp only [Option.getD_some] at hl'
 have hll : l.length = l0.length:=by rw [hl',List.length_map]
 have RL : A8 f n l:=by rw [hf,hn]; exact A8.row (by omega)
 have hl2e : l.filter neB = Kd l0:=by rw [hl',Kd]
 have hk2 : l.filter neB = kl∧ke = 0:=by simp only [Prod.mk.injEq] at hk; rw [hl2e]; exact ⟨hk.1.symm,hk.2⟩
 refine ⟨l,_,_,f,rfl,rfl,by subst hD; exact RL,by omega,fun l2 n2 hl2 hn2=>?_⟩
 have hl3 : l2 = kl:=by rw [hl2,hk2.1]
 have R2 : A8 (Dd l2) n2 l2:=by
  rw [hn2]; refine A8.row ?_
  have : (l.filter neB).length≤l.length:=List.length_filter_le _ _
  rw [hl2]; omega
 obtain ⟨g,hg⟩ : ∃ g,g = Dd l2:=⟨_,rfl⟩
 rw [←hg] at R2 ⊢
 cbv
 exact Zv (f:=g) (l':=l2) (e':=0) hD (by rw [hl3,hk2.2]) hkn hkr R2 rfl (by rw [hknb,hk2.2]; rfl) rfl
end Go.Proofs.YtefelnhpfdcleaaGreatDoor
namespace Go.Proofs.YtefelnhpfdcleaaGreatDoor
open Go Go.Sx
set_option maxRecDepth 10000
set_option maxHeartbeats 2000000
def Ah (c : UInt8) : List UInt8→List UInt8×List UInt8×Bool
 | []=>([],[],false)
 | b :: r=>if b == c then ([],r,true) else (b :: (Ah c r).1,(Ah c r).2)
theorem Abl {c : UInt8} {s : List UInt8} (h : (Ah c s).2.2 = false) : (Ah c s).1 = s∧(Ah c s).2.1 = []∧Lib.indexByte s c = -1:=by
 induction s with
 | nil=>exact ⟨rfl,rfl,rfl⟩
 | cons b r ih =>
  simp only [Ah] at h ⊢
  split at h
  ·cases h
  ·rename_i hb
   obtain ⟨h1,h2,h3⟩:=ih h
   rw [if_neg hb]
   refine ⟨by rw [h1],h2,?_⟩
   rw [Lib.indexByte,if_neg hb,h3]; rfl
theorem Kl {c : UInt8} {s : List UInt8} (h : (Ah c s).2.2 = true) : Lib.indexByte s c = ((Ah c s).1.length : Int)∧(Ah c s).1 = s.take (Ah c s).1.length∧(Ah c s).2.1 = s.drop ((Ah c s).1.length + 1)∧(Ah c s).1.length < s.length:=by
 induction s with
 | nil=>cases h
 | cons b r ih =>
  simp only [Ah] at h ⊢
  by_cases hb : (b == c) = true
  ·simp only [if_pos hb]
   rw [Lib.indexByte,if_pos hb]
   simp
  ·rw [if_neg hb] at h ⊢
   obtain ⟨h1,h2,h3,h4⟩:=ih h
   rw [Lib.indexByte,if_neg hb,h1]
   refine ⟨?_,?_,?_,by simp; omega⟩
   ·rw [if_neg (by simp)]; simp
   ·simp only [List.length_cons,List.take_succ_cons]; rw [←h2]
   ·simp only [List.length_cons,List.drop_succ_cons]; exact h3
def spIdx1 : FSpec:=fun _ xs ls K=>∃ (s : List UInt8) (c : UInt8),xs = [.str s,.str [c]]∧ls = []∧∀ r : Int,r = Lib.indexByte s c→K (.int .i64 (.a r)) []
theorem Ajl : Ar Tryz.prog gl 107 spIdx1:=by
 refine ⟨⟨Tryz.f107,_,Tryz.func107,rfl,by kernel_rfl⟩,fun xs ls K h=>?_⟩
 obtain ⟨s,c,rfl,rfl,h⟩:=h
 refine ⟨_,_,h _ rfl,Bt fun E B w vals _ _ _ hr=>?_⟩
 obtain ⟨v,u,rfl,hv,hu⟩:=Ek hr
 rw [D0 hv,D0 hu]
 refine (Ji ⟨s.toArray⟩ c w).mono ?_
 rintro e w' ⟨rfl,rfl⟩
 exact ⟨_,rfl,fun E=>.ro (.int rfl),RowKit.Below.refl _ _⟩
def spCut : FSpec:=fun _ xs ls K=>∃ (s : List UInt8) (c : UInt8),xs = [.str s,.str [c]]∧ls = []∧s.length≤100000∧∀ a b t,(a,b,t) = Ah c s→K (.tup [.str a,.str b,.bool (.a t)]) []
theorem Agb {D : Dn} (hD : D = dn) {a b a' b' : List UInt8} {t : Bool} {x : BT} (h : (a,b,t) = (a',b',x.den)) : Fin (.tup [.str a',.str b',.bool (.a (D.b x))]) (.tup [.str a,.str b,.bool (.a t)]) [] []:=by
 subst hD
 simp only [Prod.mk.injEq] at h
 obtain ⟨rfl,rfl,rfl⟩:=h
 exact D6 (LeV.refl _)
theorem Amt : Ar Tryz.prog gl 74 spCut:=by
 refine A4 (gh:=[]) mixed A0 (Aa Ajl Ae) Tryz.func74 (by kernel_rfl) (by kernel_rfl) ?_
 intro xs ls K h
 unfold spCut at h
 obtain ⟨s,c,rfl,rfl,hl,h⟩:=h
 obtain ⟨k,hk⟩ : ∃ k,k = Ah c s:=⟨_,rfl⟩
 obtain ⟨ka,kb,kt⟩:=k
 refine ⟨_,_,h ka kb kt hk,fun D hD=>?_⟩
 clear h
 cbv
 refine ⟨s,c,rfl,rfl,fun r hr=>?_⟩
 cbv
 refine br hD (fun h=>?_) (fun h=>?_)<;>cbv
 ·have h0 : 0≤r:=of_decide_eq_true (p:=0≤r) h
  have hy : (Ah c s).2.2 = true:=by
   cases hb : (Ah c s).2.2 with
   | true=>rfl
   | false=>rw [(Abl hb).2.2] at hr; omega
  obtain ⟨y1,y2,y3,y4⟩:=Kl hy
  rw [←hk] at y1 y2 y3 y4 hy
  simp only at y1 y2 y3 y4 hy
  rw [←hr] at y1
  have hk' : (ka,kb,kt) = (ka,kb,true):=by rw [hy]
  clear hk hy h h0 hr
  have yr : ST.den (.a r) = ((ka.length : Nat) : Int):=y1
  have yr2 : ST.den (.bin .add .i64 (.a r) (.len [c])) = ((ka.length + 1 : Nat) : Int):=by
   show IntKind.i64.wrap (r + (([c] : List UInt8).length : Int)) = _
   rw [y1,List.length_singleton,Am (by omega) (by omega)]; omega
  refine ⟨by subst hD; exact Ee (s:=s) (i:=0) (a:=.l 0) rfl yr (by omega) (by omega),fun r1 hr1=>?_⟩
  have hr1' : r1 = ka:=by
   have:=Hn (i:=0) (a:=.l 0) hD rfl yr hr1
   rw [this]; exact y2.symm
  clear hr1
  cbv
  refine ⟨by subst hD; exact Ee (s:=s) (j:=s.length) (b:=.len s) yr2 rfl (by omega) (Nat.le_refl _),fun r2 hr2=>?_⟩
  have hr2' : r2 = kb:=by
   have:=Hn (j:=s.length) (b:=.len s) hD yr2 rfl hr2
   rw [this,y3]; exact List.take_of_length_le (by simp)
  clear hr2
  cbv
  refine Agb (x:=.l true) hD ?_
  rw [hk',hr1',hr2']; rfl
 ·have h0 : ¬ 0≤r:=of_decide_eq_false (p:=0≤r) h
  have hy : (Ah c s).2.2 = false:=by
   cases hb : (Ah c s).2.2 with
   | false=>rfl
   | true=>rw [(Kl hb).1] at hr; omega
  obtain ⟨y1,y2,y3⟩:=Abl hy
  refine Agb (x:=.l false) hD ?_
  rw [hk]
  exact Prod.ext y1 (Prod.ext y2 hy)
theorem Xb : Ar Tryz.prog gl 36 spCut:=by
 refine A4 (gh:=[]) mixed A0 (Aa Amt Ae) Tryz.func36 (by kernel_rfl) (by kernel_rfl) ?_
 intro xs ls K h
 unfold spCut at h
 obtain ⟨s,c,rfl,rfl,hl,h⟩:=h
 obtain ⟨k,hk⟩ : ∃ k,k = Ah c s:=⟨_,rfl⟩
 obtain ⟨ka,kb,kt⟩:=k
 refine ⟨_,_,h ka kb kt hk,fun D hD=>?_⟩
 clear h
 cbv
 refine ⟨s,c,rfl,rfl,hl,fun a b t he=>?_⟩
 cbv
 exact Agb hD (by rw [hk,←he]; rfl)
end Go.Proofs.YtefelnhpfdcleaaGreatDoor
namespace Go.Proofs.YtefelnhpfdcleaaGreatDoor
open Go Go.Sx
set_option maxRecDepth 100000
set_option maxHeartbeats 8000000
def Cb (c : Nat) : Int :=
 if (48≤c∧c≤57)∨(65≤c∧c≤90)∨(97≤c∧c≤122)∨c = 45∨c = 46∨c = 95∨c = 126 then 1
 else if c = 33∨c = 36∨(38≤c∧c≤44)∨c = 47∨c = 58∨c = 59∨c = 61∨c = 64 then 2 else 0
def kindCells : List SV:=(List.range 256).map fun c=>.int .u8 (.a (Cb c))
def spIdxB : FSpec:=fun _ xs ls K=>∃ (s : List UInt8) (c : Int),xs = [.str s,.int .u8 (.a c)]∧ls = []∧(0≤c∧c≤255)∧∀ r,r = Lib.indexByte s (UInt8.ofNat c.toNat)→K (.int .i64 (.a r)) []
end Go.Proofs.YtefelnhpfdcleaaGreatDoor
namespace Go.Proofs.YtefelnhpfdcleaaGreatDoor
open Go Go.Shelf Go.RowKit Go.Sort Go.Lib
set_option maxRecDepth 100000
set_option maxHeartbeats 4000000
def sh_laysC174_ren : Go.Shelf.Ren:=⟨fun | 174=>126 | 247=>148 | 245=>149 | 287=>167 | 279=>168 | 280=>169 | 281=>170 | 282=>171 | 321=>180 | 322=>181 | 316=>182 | 171=>140 | 205=>183 | 243=>161 | 246=>160 | 283=>175 | 284=>176 | 285=>177 | 286=>178 | 129=>189 | 317=>188 | 318=>190 | 319=>191 | 320=>192 | 337=>196 | 338=>197 | n=>n,fun | 9=>9 | 3=>3 | 2=>2 | 75=>107 | 85=>135 | 4=>4 | 167=>164 | 5=>5 | 53=>165 | 175=>166 | 46=>101 | 168=>168 | 37=>36 | 0=>0 | 210=>185 | 21=>21 | 127=>124 | 145=>196 | 143=>194 | 171=>175 | 173=>178 | 212=>190 | 51=>153 | 20=>20 | 213=>191 | 232=>200 | 233=>201 | 80=>110 | n=>n,fun | 15=>4 | 16=>5 | 17=>6 | 18=>7 | 19=>8 | n=>n⟩
theorem S0 : Go.Proofs.LaysC.n174 Tryz.prog sh_laysC174_ren:={
 mixed:=by kernel_rfl
 f129:=Tryz.func189.trans (congrArg some (by kernel_rfl))
 f171:=Tryz.func140.trans (congrArg some (by kernel_rfl))
 f174:=Tryz.func126.trans (congrArg some (by kernel_rfl))
 f205:=Tryz.func183.trans (congrArg some (by kernel_rfl))
 f243:=Tryz.func161.trans (congrArg some (by kernel_rfl))
 f245:=Tryz.func149.trans (congrArg some (by kernel_rfl))
 f246:=Tryz.func160.trans (congrArg some (by kernel_rfl))
 f247:=Tryz.func148.trans (congrArg some (by kernel_rfl))
 f279:=Tryz.func168.trans (congrArg some (by kernel_rfl))
 f280:=Tryz.func169.trans (congrArg some (by kernel_rfl))
 f281:=Tryz.func170.trans (congrArg some (by kernel_rfl))
 f282:=Tryz.func171.trans (congrArg some (by kernel_rfl))
 f283:=Tryz.func175.trans (congrArg some (by kernel_rfl))
 f284:=Tryz.func176.trans (congrArg some (by kernel_rfl))
 f285:=Tryz.func177.trans (congrArg some (by kernel_rfl))
 f286:=Tryz.func178.trans (congrArg some (by kernel_rfl))
 f287:=Tryz.func167.trans (congrArg some (by kernel_rfl))
 f316:=Tryz.func182.trans (congrArg some (by kernel_rfl))
 f317:=Tryz.func188.trans (congrArg some (by kernel_rfl))
 f318:=Tryz.func190.trans (congrArg some (by kernel_rfl))
 f319:=Tryz.func191.trans (congrArg some (by kernel_rfl))
 f320:=Tryz.func192.trans (congrArg some (by kernel_rfl))
 f321:=Tryz.func180.trans (congrArg some (by kernel_rfl))
 f322:=Tryz.func181.trans (congrArg some (by kernel_rfl))
 f337:=Tryz.func196.trans (congrArg some (by kernel_rfl))
 f338:=Tryz.func197.trans (congrArg some (by kernel_rfl))
 t0:=Tryz.underlying0
 a0:=Tryz.isAgg0
 z0:=Tryz.sizeOf0
 v0:=Tryz.zeroValue0
 t2:=Tryz.underlying2
 a2:=Tryz.isAgg2
 z2:=Tryz.sizeOf2
 v2:=Tryz.zeroValue2
 t3:=Tryz.underlying3
 a3:=Tryz.isAgg3
 z3:=Tryz.sizeOf3
 v3:=Tryz.zeroValue3
 t4:=Tryz.underlying4
 a4:=Tryz.isAgg4
 z4:=Tryz.sizeOf4
 v4:=Tryz.zeroValue4
 t5:=Tryz.underlying5
 a5:=Tryz.isAgg5
 z5:=Tryz.sizeOf5
 v5:=Tryz.zeroValue5
 t9:=Tryz.underlying9
 a9:=Tryz.isAgg9
 z9:=Tryz.sizeOf9
 v9:=Tryz.zeroValue9
 t20:=Tryz.underlying20
 a20:=Tryz.isAgg20
 z20:=Tryz.sizeOf20
 v20:=Tryz.zeroValue20
 t21:=Tryz.underlying21
 a21:=Tryz.isAgg21
 z21:=Tryz.sizeOf21
 v21:=Tryz.zeroValue21
 t37:=Tryz.underlying36
 a37:=Tryz.isAgg36
 z37:=Tryz.sizeOf36
 v37:=Tryz.zeroValue36
 t46:=Tryz.underlying101
 a46:=Tryz.isAgg101
 z46:=Tryz.sizeOf101
 v46:=Tryz.zeroValue101
 t51:=Tryz.underlying153
 a51:=Tryz.isAgg153
 z51:=Tryz.sizeOf153
 v51:=Tryz.zeroValue153
 t53:=Tryz.underlying165
 a53:=Tryz.isAgg165
 z53:=Tryz.sizeOf165
 v53:=Tryz.zeroValue165
 t75:=Tryz.underlying107
 a75:=Tryz.isAgg107
 z75:=Tryz.sizeOf107
 v75:=Tryz.zeroValue107
 t85:=Tryz.underlying135
 a85:=Tryz.isAgg135
 z85:=Tryz.sizeOf135
 v85:=Tryz.zeroValue135
 t127:=Tryz.underlying124
 a127:=Tryz.isAgg124
 z127:=Tryz.sizeOf124
 v127:=Tryz.zeroValue124
 t143:=Tryz.underlying194
 a143:=Tryz.isAgg194
 z143:=Tryz.sizeOf194
 v143:=Tryz.zeroValue194
 t145:=Tryz.underlying196
 a145:=Tryz.isAgg196
 z145:=Tryz.sizeOf196
 v145:=Tryz.zeroValue196
 t167:=Tryz.underlying164
 a167:=Tryz.isAgg164
 z167:=Tryz.sizeOf164
 v167:=Tryz.zeroValue164
 t168:=Tryz.underlying168
 a168:=Tryz.isAgg168
 z168:=Tryz.sizeOf168
 v168:=Tryz.zeroValue168
 t171:=Tryz.underlying175
 a171:=Tryz.isAgg175
 z171:=Tryz.sizeOf175
 v171:=Tryz.zeroValue175
 t173:=Tryz.underlying178
 a173:=Tryz.isAgg178
 z173:=Tryz.sizeOf178
 v173:=Tryz.zeroValue178
 t175:=Tryz.underlying166
 a175:=Tryz.isAgg166
 z175:=Tryz.sizeOf166
 v175:=Tryz.zeroValue166
 t210:=Tryz.underlying185
 a210:=Tryz.isAgg185
 z210:=Tryz.sizeOf185
 v210:=Tryz.zeroValue185
 t212:=Tryz.underlying190
 a212:=Tryz.isAgg190
 z212:=Tryz.sizeOf190
 v212:=Tryz.zeroValue190
 t213:=Tryz.underlying191
 a213:=Tryz.isAgg191
 z213:=Tryz.sizeOf191
 t232:=Tryz.underlying200
 a232:=Tryz.isAgg200
 z232:=Tryz.sizeOf200
 v232:=Tryz.zeroValue200
 t233:=Tryz.underlying201
 a233:=Tryz.isAgg201
 z233:=Tryz.sizeOf201
 v233:=Tryz.zeroValue201
 g15:=by kernel_rfl
 g16:=by kernel_rfl
 g17:=by kernel_rfl
 g18:=by kernel_rfl
 g19:=by kernel_rfl
 t80:=Tryz.underlying110
 a80:=Tryz.isAgg110
 z80:=Tryz.sizeOf110
 v80:=Tryz.zeroValue110
 i0:=by kernel_rfl
 i2:=by kernel_rfl
 i3:=by kernel_rfl
 i4:=by kernel_rfl
 i5:=by kernel_rfl
 i9:=by kernel_rfl
 i20:=by kernel_rfl
 i21:=by kernel_rfl
 i37:=by kernel_rfl
 i46:=by kernel_rfl
 i51:=by kernel_rfl
 i53:=by kernel_rfl
 i75:=by kernel_rfl
 i80:=by kernel_rfl
 i85:=by kernel_rfl
 i127:=by kernel_rfl
 i143:=by kernel_rfl
 i145:=by kernel_rfl
 i167:=by kernel_rfl
 i168:=by kernel_rfl
 i171:=by kernel_rfl
 i173:=by kernel_rfl
 i175:=by kernel_rfl
 i210:=by kernel_rfl
 i212:=by kernel_rfl
 i232:=by kernel_rfl
 i233:=by kernel_rfl
 m15:=by kernel_rfl
 m16:=by kernel_rfl
 m17:=by kernel_rfl
 m18:=by kernel_rfl
 m19:=by kernel_rfl
 c0:=by kernel_rfl
 c2:=by kernel_rfl
 c3:=by kernel_rfl
 c4:=by kernel_rfl
 c5:=by kernel_rfl
 c9:=by kernel_rfl
 c20:=by kernel_rfl
 c21:=by kernel_rfl
 c37:=by kernel_rfl
 c46:=by kernel_rfl
 c51:=by kernel_rfl
 c53:=by kernel_rfl
 c75:=by kernel_rfl
 c80:=by kernel_rfl
 c85:=by kernel_rfl
 c127:=by kernel_rfl
 c143:=by kernel_rfl
 c145:=by kernel_rfl
 c167:=by kernel_rfl
 c168:=by kernel_rfl
 c171:=by kernel_rfl
 c173:=by kernel_rfl
 c175:=by kernel_rfl
 c210:=by kernel_rfl
 c212:=by kernel_rfl
 c213:=by kernel_rfl
 c232:=by kernel_rfl
 c233:=by kernel_rfl }
theorem Gj (s : ByteArray) (hmax : s.size≤9223372036854775806) (v : Int) (h : Lib.parseIntB 64 s.data.toList = .ok v) (w : World) :
  Calls Tryz.prog 126 #[.string s,.int .i64 10,.int .i64 64] w fun e w'=>e = .returned (.tuple #[.int .i64 v,.nilIface])∧(w' = w∨∃ t,w' = Lib.bytesWorld w 5 t):=Any.strconv_ParseInt_10_at64_ok S0 s hmax v h w
theorem Et (s : ByteArray) (hlim : s.size≤281474976710656) (h : Lib.parseIntB 64 s.data.toList = .range) (tp : TypeId) (p : Value) (w : World) (hvar : w.var? Tryz.prog "strconv.ErrRange" = some #[.iface tp p]) :
  Calls Tryz.prog 126 #[.string s,.int .i64 10,.int .i64 64] w fun e w'=>∃ N,e = .returned (.tuple #[.int .i64 (Lib.intSat 64 s.data.toList),.iface 168 (.pointer (some ⟨N,0,none⟩))])∧w.heap.size≤N∧w'.heap[N]? = some (.cells #[.string ⟨#[80,97,114,115,101,73,110,116]⟩,.string s,.iface tp p] 185 (0,0))∧Below w.heap.size w w':=Any.strconv_ParseInt_10_at64_range_var S0 s hlim h tp p w hvar
def sh_laysGw17_ren : Go.Shelf.Ren:=⟨fun | 17=>116 | 15=>142 | 20=>162 | n=>n,fun | 9=>9 | 23=>127 | 4=>4 | 3=>3 | 0=>0 | 21=>21 | n=>n,fun | n=>n⟩
theorem Acc : Go.Proofs.LaysGw.n17 Tryz.prog sh_laysGw17_ren:={
 mixed:=by kernel_rfl
 f15:=Tryz.func142.trans (congrArg some (by kernel_rfl))
 f17:=Tryz.func116.trans (congrArg some (by kernel_rfl))
 f20:=Tryz.func162.trans (congrArg some (by kernel_rfl))
 t0:=Tryz.underlying0
 a0:=Tryz.isAgg0
 z0:=Tryz.sizeOf0
 v0:=Tryz.zeroValue0
 i0:=by kernel_rfl
 t3:=Tryz.underlying3
 a3:=Tryz.isAgg3
 z3:=Tryz.sizeOf3
 v3:=Tryz.zeroValue3
 i3:=by kernel_rfl
 t4:=Tryz.underlying4
 a4:=Tryz.isAgg4
 z4:=Tryz.sizeOf4
 v4:=Tryz.zeroValue4
 i4:=by kernel_rfl
 t9:=Tryz.underlying9
 a9:=Tryz.isAgg9
 z9:=Tryz.sizeOf9
 v9:=Tryz.zeroValue9
 i9:=by kernel_rfl
 t21:=Tryz.underlying21
 a21:=Tryz.isAgg21
 z21:=Tryz.sizeOf21
 v21:=Tryz.zeroValue21
 i21:=by kernel_rfl
 t23:=Tryz.underlying127
 a23:=Tryz.isAgg127
 z23:=Tryz.sizeOf127
 v23:=Tryz.zeroValue127
 i23:=by kernel_rfl }
theorem Ha (g : Nat) (lb : Array Value) (eg : ∀ args w,(callFunc g args).run Tryz.prog w = .ok (.enter g args) w) (p : Nat→Bool) (s : ByteArray) (w : World) (hp : PredGrows Tryz.prog g lb p w) :
  Calls Tryz.prog 116 #[.string s,.func (.func g) #[] lb] w fun e w'=>e = .returned (.bool (decide (0≤Lib.idxFunc p true s)))∧Below w.heap.size w w':=Any.strings_ContainsFunc_grows Acc g lb eg p s w hp
end Go.Proofs.YtefelnhpfdcleaaGreatDoor
namespace Go.Sx
open Go Go.ChangeShapes Go.WideShapes Go.RowKit
def Ka (W : World) : Nat→Nat→Prop:=fun b _=>b < W.heap.size
def ROL (I : Nat→Nat→Prop) (w : World) (cs : List SV) (vs : List Value) : Prop:=cs.length = vs.length∧(∀ (i : Nat) (s : SV) (v : Value),cs[i]? = some s→vs[i]? = some v→RO I w s v)∧∀ v∈vs,v.oneCell' = true
theorem ROL.one {I : Nat→Nat→Prop} {w : World} {s : SV} {v : Value} (h : RO I w s v) (h1 : v.oneCell' = true) : ROL I w [s] [v] :=
 ⟨rfl,fun i s' v' a b=>by cases i with | zero=>simp at a b; subst a b; exact h | succ i=>simp at a,by simpa using h1⟩
theorem ROL.nil {I : Nat→Nat→Prop} {w : World} : ROL I w [] []:=⟨rfl,by simp,by simp⟩
theorem ROL.app {I : Nat→Nat→Prop} {w : World} {cs cs' : List SV} {vs vs' : List Value} (h : ROL I w cs vs) (h' : ROL I w cs' vs') : ROL I w (cs ++ cs') (vs ++ vs'):=by
 refine ⟨by simp [h.1,h'.1],fun i s v a b=>?_,fun v hv=>?_⟩
 ·rw [List.getElem?_append] at a b
  rw [h.1] at a
  split at a
  ·rename_i hi
   rw [if_pos hi] at b
   exact h.2.1 i s v a b
  ·rename_i hi
   rw [if_neg hi] at b
   exact h'.2.1 _ s v a b
 ·rcases List.mem_append.1 hv with hv | hv
  ·exact h.2.2 v hv
  ·exact h'.2.2 v hv
section
variable {P : Program}
def B9 (P : Program) (t : TypeId) {α : Type} (enc : α→List SV) : Prop :=
 ∀ (H : Type) (tok : TypeId×Value→H) (W : World) (spare : Nat→Bool) (held : Bool) (fuel : Nat) (cs : List Value) (x : DataW H×List MemPlace),DataW.trod tok P W 0 spare held fuel t cs = some x→∃ a,ROL (Ka W) W (enc a) cs
theorem B9.int {t : TypeId} {k : IntKind} (ht : P.underlying t = some (.int k)) : B9 P t (fun n : Int=>[.int k (.a n)]):=by
 intro H tok W spare held fuel cs x h
 obtain ⟨n,rfl,_,_⟩:=DataW.trod_int ht h
 exact ⟨n,.one (.int rfl) rfl⟩
theorem B9.intB {t : TypeId} {k : IntKind} (ht : P.underlying t = some (.int k)) : B9 P t (fun n : {n : Int // (Lit.int k n).wf = true}=>[.int k (.a n.1)]):=by
 intro H tok W spare held fuel cs x h
 obtain ⟨n,rfl,_,hw⟩:=DataW.trod_int ht h
 exact ⟨⟨n,hw⟩,.one (.int rfl) rfl⟩
theorem B9.bool {t : TypeId} (ht : P.underlying t = some .bool) : B9 P t (fun b : Bool=>[.bool (.a b)]):=by
 intro H tok W spare held fuel cs x h
 obtain ⟨n,rfl,_⟩:=DataW.trod_bool ht h
 exact ⟨n,.one (.bool rfl) rfl⟩
theorem B9.str {t : TypeId} (ht : P.underlying t = some .string) : B9 P t (fun s : {s : List UInt8 // s.length≤maxLen}=>[.str s.1]):=by
 intro H tok W spare held fuel cs x h
 obtain ⟨s,rfl,_,hs⟩:=DataW.trod_string ht h
 exact ⟨⟨s.data.toList,by simpa using hs⟩,.one (.str (by simp [bytes])) rfl⟩
theorem B9.map {t : TypeId} {α β : Type} {enc : α→List SV} {enc' : β→List SV} (h : B9 P t enc) (f : α→β) (hf : ∀ a,enc' (f a) = enc a) : B9 P t enc':=by
 intro H tok W spare held fuel cs x hx
 obtain ⟨a,ha⟩:=h H tok W spare held fuel cs x hx
 exact ⟨f a,by rw [hf]; exact ha⟩
theorem Z7 {W : World} {base : Nat} {a : Addr} {n : Nat} {cs : List Value} (h : W.cells? base a n = some cs) : cs.length = n∧∀ i,i < n→W.cell? (a.add i) = cs[i]?:=by
 unfold World.cells? at h
 split at h
 ·have h2:=mapM_some_get h
  have h1 : cs.length = n:=by simpa using mapM_some_length h
  refine ⟨h1,fun i hi=>?_⟩
  exact h2 i i (by simp [hi])
 ·cases h
theorem Up {W : World} {b o : Nat} {sp : Option Nat} {v : Value} (h : W.cell? ⟨b,o,sp⟩ = some v) : b < W.heap.size∧sp = none:=by
 unfold World.cell? at h
 split at h
 ·rename_i c _ _ hc
  split at h
  ·cases h
  ·rename_i hs
   exact ⟨(Array.getElem?_eq_some_iff.1 hc).1,by cases sp<;>simp at hs ⊢⟩
 ·cases h
def Ci {α : Type} (enc : α→List SV) (l : List α) (i : Nat) : List SV:=match l[i]? with
 | some a=>enc a
 | none=>[]
def slC {α : Type} (sz : Nat) (enc : α→List SV) (x : Bool×List α) : List SV:=[.sl (.a x.1) (.a x.2.length) sz (Ci enc x.2)]
theorem B9.slice {t e : TypeId} {α : Type} {sz : Nat} {enc : α→List SV} (ht : P.underlying t = some (.slice e)) (hz : P.cellsOf e = sz) (h0 : 0 < sz) (he : B9 P e enc) : B9 P t (fun x : {x : Bool×List α // x.1 = true→x.2 = []}=>slC sz enc x.1):=by
 intro H tok W spare held fuel cs x h
 rcases DataW.trod_slice ht h with ⟨rfl,_⟩ | ⟨a,len,cap,elems,rest,n,_,rfl,_,_,hle,hcap,hlen,hel,_,_⟩
 ·exact ⟨⟨(true,[]),fun _=>rfl⟩,.one (.slnil rfl rfl) rfl⟩
 ·rw [hz] at hel
  have key : ∀ i,i < len→∃ (al : α) (vs : List Value),ROL (Ka W) W (enc al) vs∧vs.length = sz∧∀ j,j < sz→W.cell? ((a.add (i * sz)).add j) = vs[j]?:=by
   intro i hi
   have h1:=hel i hi
   rw [List.getElem?_eq_getElem (by omega)] at h1
   cases hc : W.cells? 0 (a.add (i * sz)) sz with
   | none=>rw [hc] at h1; cases h1
   | some vs =>
    rw [hc] at h1
    obtain ⟨al,hal⟩:=he H tok W _ _ _ vs _ h1
    have hg:=Z7 hc
    exact ⟨al,vs,hal,hg.1,hg.2⟩
  have gen : ∀ len : Nat,(∀ i,i < len→∃ (al : α) (vs : List Value),ROL (Ka W) W (enc al) vs∧vs.length = sz∧∀ j,j < sz→W.cell? ((a.add (i * sz)).add j) = vs[j]?)→∃ (l : List α) (g : Nat→Nat→Value),l.length = len∧∀ i al,l[i]? = some al→(enc al).length = sz∧(∀ j,j < sz→W.cell? ((a.add (i * sz)).add j) = some (g i j)∧(g i j).oneCell' = true)∧∀ j s,(enc al)[j]? = some s→RO (Ka W) W s (g i j):=by
   clear key hel hlen hcap hle h
   intro len key
   induction len with
   | zero=>exact ⟨[],fun _ _=>undef,rfl,by simp⟩
   | succ len ih =>
    obtain ⟨l,g,hl,hg⟩:=ih (fun i hi=>key i (by omega))
    obtain ⟨al,vs,k1,k2,k3⟩:=key len (by omega)
    refine ⟨l ++ [al],fun i j=>if i = len then vs.getD j undef else g i j,by simp [hl],fun i al' hi=>?_⟩
    rw [List.getElem?_append] at hi
    split at hi
    ·rename_i hlt
     have hne : i≠len:=by omega
     obtain ⟨g1,g2,g3⟩:=hg i al' hi
     exact ⟨g1,fun j hj=>by simpa only [if_neg hne] using g2 j hj,fun j s hs=>by simpa only [if_neg hne] using g3 j s hs⟩
    ·rename_i hlt
     have hil : i = len:=by
      have:=(List.getElem?_eq_some_iff.1 hi).1
      simp at this; omega
     subst hil
     have h00 : i - l.length = 0:=by omega
     rw [h00] at hi
     simp at hi
     subst hi
     refine ⟨by rw [k1.1,k2],fun j hj=>?_,fun j s hs=>?_⟩
     ·simp only [if_pos]
      have hjv : vs[j]? = some vs[j]:=List.getElem?_eq_getElem (by omega)
      rw [k3 j hj,hjv]
      simp only [List.getD_eq_getElem?_getD,hjv,Option.getD_some,true_and]
      exact k1.2.2 _ (List.getElem_mem _)
     ·simp only [if_pos]
      have hjl : j < vs.length:=by rw [←k1.1]; exact (List.getElem?_eq_some_iff.1 hs).1
      have hjv : vs[j]? = some vs[j]:=List.getElem?_eq_getElem hjl
      simp only [List.getD_eq_getElem?_getD,hjv,Option.getD_some]
      exact k1.2.1 j s _ hs hjv
  obtain ⟨l,g,hl,hg⟩:=gen len key
  have hspot : 0 < len→a.spot = none:=fun hpos=>by
   obtain ⟨al,hal⟩ : ∃ al,l[0]? = some al:=⟨_,List.getElem?_eq_getElem (by omega)⟩
   obtain ⟨_,g2,_⟩:=hg 0 al hal
   have:=(g2 0 h0).1
   obtain ⟨b,o,sp⟩:=a
   simp only [Nat.zero_mul,Addr.add,if_pos] at this
   exact (Up this).2
  refine ⟨⟨(false,l),fun h=>by cases h⟩,.one (.sl g rfl (by simp [ST.den,hl]) hle hcap hspot (fun i hi=>?_) (fun i j hi hj=>?_) (fun i j hi hj=>?_) (fun i j s hi hs=>?_)) rfl⟩
  ·obtain ⟨al,hal⟩ : ∃ al,l[i]? = some al:=⟨_,List.getElem?_eq_getElem (by omega)⟩
   simp only [Ci,hal]
   exact (hg i al hal).1
  ·obtain ⟨al,hal⟩ : ∃ al,l[i]? = some al:=⟨_,List.getElem?_eq_getElem (by omega)⟩
   exact ((hg i al hal).2.1 j hj).2
  ·obtain ⟨al,hal⟩ : ∃ al,l[i]? = some al:=⟨_,List.getElem?_eq_getElem (by omega)⟩
   have hc:=((hg i al hal).2.1 j hj).1
   have e : (a.add (i * sz)).add j = ⟨a.block,a.off + (i * sz + j),none⟩:=by
    have hs:=hspot (by omega)
    obtain ⟨b,o,sp⟩:=a
    simp only at hs
    subst hs
    simp only [add_lit]
    congr 1
    omega
   rw [e] at hc
   exact ⟨hc,(Up hc).1⟩
  ·obtain ⟨al,hal⟩ : ∃ al,l[i]? = some al:=⟨_,List.getElem?_eq_getElem (by omega)⟩
   simp only [Ci,hal] at hs
   exact (hg i al hal).2.2 j s hs
def Dx (P : Program) (fs : List (Nat×TypeId)) (o len : Nat) {α : Type} (enc : α→List SV) : Prop :=
 ∀ (H : Type) (tok : TypeId×Value→H) (W : World) (spare : Nat→Bool) (held : Bool) (cs : List Value),cs.length = o + len→(∀ p∈fs,∃ fuel x,DataW.trod tok P W 0 spare held fuel p.2 ((cs.drop p.1).take (P.cellsOf p.2)) = some x)→∃ a,ROL (Ka W) W (enc a) (cs.drop o)
theorem Dx.nil {o : Nat} : Dx P [] o 0 (fun _ : Unit=>[]):=by
 intro H tok W spare held cs hl _
 rw [List.drop_of_length_le (by omega)]
 exact ⟨(),.nil⟩
theorem Dx.cons {fs : List (Nat×TypeId)} (o n len : Nat) {t : TypeId} {α β : Type} {enc : α→List SV} {enc' : β→List SV} (hn : P.cellsOf t = n) (h : B9 P t enc) (hs : Dx P fs (o + n) len enc') : Dx P ((o,t) :: fs) o (n + len) (fun x : α×β=>enc x.1 ++ enc' x.2):=by
 intro H tok W spare held cs hl hx
 obtain ⟨fuel,x,h1⟩:=hx (o,t) (List.mem_cons_self ..)
 simp only [hn] at h1
 obtain ⟨a,ha⟩:=h H tok W _ _ _ _ _ h1
 obtain ⟨b,hb⟩:=hs H tok W spare held cs (by omega) fun p hp=>hx p (List.mem_cons_of_mem _ hp)
 refine ⟨(a,b),?_⟩
 have e : cs.drop o = (cs.drop o).take n ++ cs.drop (o + n):=by rw [←List.drop_drop,List.take_append_drop]
 rw [e]
 exact ha.app hb
theorem B9.struct {t : TypeId} {fields : Array Field} {fs : List (Nat×TypeId)} {len : Nat} {α : Type} {enc : α→List SV} (ht : P.underlying t = some (.struct fields)) (hfs : (fields.toList.map fun f=>(f.offset,f.type)) = fs) (hlen : P.cellsOf t = len) (h : Dx P fs 0 len enc) : B9 P t enc:=by
 intro H tok W spare held fuel cs x hx
 obtain ⟨xs,n,_,_,hl,hxl,hf⟩:=DataW.trod_struct ht hx
 have:=h H tok W spare held cs (by omega) fun p hp=>?_
 ·simpa using this
 ·rw [←hfs,List.mem_map] at hp
  obtain ⟨f,hf1,rfl⟩:=hp
  obtain ⟨i,hi,hfi⟩:=List.mem_iff_getElem.1 hf1
  have hi' : i < fields.size:=by simpa using hi
  have:=hf i f (by rw [←hfi]; simp [hi'])
  rw [List.getElem?_eq_getElem (by omega)] at this
  exact ⟨n,_,this⟩
theorem Uk {gl : List (Nat×SV)} {f : FuncId} {xas : List SV} {W : World} {args : List Value} (h : Dk P gl f xas [] (.bool (.a true)) [])
  (hgl : ∀ g s,look g gl = some s→RO (Ka W) W s (.pointer (some ⟨g,0,none⟩))∧g < W.heap.size∧Tg W g s) (hl : xas.length = args.length) (hr : ∀ (i : Nat) (s : SV) (v : Value),xas[i]? = some s→args[i]? = some v→RO (Ka W) W s v) :
  Calls P f ⟨args⟩ W fun e W'=>e = .returned (.bool true)∧Below W.heap.size W W':=by
 refine (h ⟨W,fun _=>False,Ka W,fun _=>none,fun _=>none,fun _=>none,[]⟩ ⟨fun _=>none,fun _=>none,fun _=>none,fun _=>none,fun _=>none,Ka W⟩ W args rfl (fun _ _ h=>h) (fun _ h=>absurd h (by simp)) ⟨rfl,rfl,rfl,Nat.le_refl _,fun _ _ _=>rfl,fun _ _ h=>⟨h,rfl⟩,fun _ _ h=>h,fun _ _ h=>.inl h,fun _ _ h=>(by cases h),⟨fun _ _ h=>(by cases h),fun _ _ h=>(by cases h),fun _ _ h=>(by cases h)⟩⟩ (fun g s h=>⟨(hgl g s h).1,(hgl g s h).2.1,fun h=>h,(hgl g s h).2.2⟩) (fun h=>?_) ⟨hl,fun i s v a b=>.ro (hr i s v a b)⟩).mono fun e W' hq=>?_
 ·simp only [Aq,nth]
  exact ⟨rfl,rfl,rfl,rfl⟩
 ·obtain ⟨v,E',rfl,hb,_,hv⟩:=hq
  rw [hv.bool_inv]
  exact ⟨rfl,⟨hb.os,hb.tape,hb.output,hb.size,fun k hk=>hb.old k hk (fun h=>h)⟩⟩
section
variable {H : Type} {enc : TypeId×Value→H}
theorem X4 {f : Func} {s : ChangeSpec} {apart fresh handsOn again : Bool} {W W' : World} {args : Array Value} {v : Value} {ds gs : List (DataW H)} {before pa pv : List MemPlace}
  (hW : DataW.Whole enc P f.params.toList s.vars apart W args.toList ds gs before)
  (hres : ∀ (b : Nat) (sp : Nat→Bool) (hd : Bool),DataW.TrodAll enc P W' b sp hd f.resultTypes.toList (v.resultList f.resultTypes.size) (s.fn H (ds ++ gs)).results [])
  (hargs : ∀ sp : Nat→Bool,(∀ p∈before,sp p.block = true)→DataW.TrodAll enc P W' 0 sp true f.params.toList args.toList (s.fn H (ds ++ gs)).args pa)
  (hvars : ∀ sp : Nat→Bool,(∀ p∈before,sp p.block = true)→DataW.TrodVars enc P W' sp s.vars (s.fn H (ds ++ gs)).vars pv)
  (hps : before = pa ++ pv) (hb : Below W.heap.size W W')
  (hok : ∀ (j : Nat) (t : TypeId) (r : Value),f.resultTypes[j]? = some t→(v.resultList f.resultTypes.size)[j]? = some r→Value.okWide P W' .any 0 t r) :
  s.post enc P f apart fresh handsOn again W args v W':=by
 have hlt : ∀ p∈before,p.block < W.heap.size:=fun p hp=>hW.lt p hp
 have hold : ∀ p∈before,(fun b=>decide (b < W.heap.size)) p.block = true:=fun p hp=>by simpa using hlt p hp
 refine ⟨ds,gs,before,[],pa,pv,hW,hres _ _ _,hargs _ hold,hvars _ hold,World.keptBut_mono (fun p hp=>⟨hp,?_⟩) (hb.frame (·∈before)),fun _=>?_⟩
 ·rw [hps,List.mem_append] at hp
  exact Or.inr hp
 ·obtain ⟨_,_,_,_,_,hz,hn⟩:=hW
  refine ⟨hok,_,_,([] ++ pa) ++ pv,⟨[] ++ pa,pv,trodAll_append (hargs _ (fun _ _=>rfl)) (hres _ _ _),hvars _ (fun _ _=>rfl),rfl,?_,?_⟩,?_⟩
  ·intro b off hp
   have hin : MemPlace.cell b off∈before:=by rw [hps]; simpa using hp
   rw [hb.frozen (hlt _ hin)]
   exact hz b off hin
  ·intro ha
   have:=hn ha
   rw [hps] at this
   simpa using this
  ·intro p hp _
   rw [hps]
   simpa using hp
theorem N0 (hl : laidOutB P = true) {W W' : World} {sp : Nat→Bool} (hb : Below W.heap.size W W') : ∀ {ts : List TypeId} {vs : List Value} {ds : List (DataW H)} {ps : List MemPlace},(∀ t∈ts,P.readableRec t = true∧t < P.types.size)→
  DataW.TrodAll enc P W 0 (fun _=>true) true ts vs ds ps→(∀ p∈ps,p.block < W.heap.size)→(∀ p∈ps,sp p.block = true)→DataW.TrodAll enc P W' 0 sp true ts vs ds ps
 | [],[],[],_,_,h,_,_=>h
 | t :: ts,v :: vs,d :: ds,ps,ht,h,hlt,hs=>by
  obtain ⟨p,q,h1,h2,rfl⟩:=h
  refine ⟨p,q,WideElems.Trod_stays hl (ht t (List.mem_cons_self ..)).1 (ht t (List.mem_cons_self ..)).2 h1 (fun x hx=>hb.same (hlt x (List.mem_append_left _ hx))) (fun x hx=>hs x (List.mem_append_left _ hx)),?_,rfl⟩
  exact N0 hl hb (fun t h=>ht t (List.mem_cons_of_mem _ h)) h2 (fun x hx=>hlt x (List.mem_append_right _ hx)) (fun x hx=>hs x (List.mem_append_right _ hx))
 | [],_ :: _,_,_,_,h,_,_=>h.elim
 | [],[],_ :: _,_,_,h,_,_=>h.elim
 | _ :: _,[],_,_,_,h,_,_=>h.elim
 | _ :: _,_ :: _,[],_,_,h,_,_=>h.elim
theorem Qd (hl : laidOutB P = true) {fn : Func} {s : ChangeSpec} {apart fresh handsOn again : Bool} {W W' : World} {args : Array Value} {ds gs : List (DataW H)} {before : List MemPlace} {tb : TypeId}
  (hts : ∀ t∈fn.params.toList,P.readableRec t = true∧t < P.types.size) (hv : s.vars = []) (hres : fn.resultTypes = #[tb]) (htb : P.underlying tb = some .bool)
  (hW : DataW.Whole enc P fn.params.toList s.vars apart W args.toList ds gs before) (hfn : (s.fn H (ds ++ gs)) = { results:=[.lit (.bool true)],args:=ds }) (hb : Below W.heap.size W W') :
  s.post enc P fn apart fresh handsOn again W args (.bool true) W':=by
 have hW':=hW
 obtain ⟨p,q,hA,hV,rfl,hz,hn⟩:=hW
 have hlt : ∀ x∈p ++ q,x.block < W.heap.size:=fun x hx=>hW'.lt x hx
 have hq : gs = []∧q = []:=by rw [hv] at hV; exact trodVars_none hV
 obtain ⟨rfl,rfl⟩:=hq
 refine X4 (pa:=p) (pv:=[]) hW' (fun b sp hd=>?_) (fun sp hs=>?_) (fun sp hs=>?_) (by simp) hb (ok_one hres rfl (okWide_bool_mk htb _))
 ·rw [hfn,hres]
  exact trodAll_mk1 (shut_bool htb true)
 ·rw [hfn]
  exact N0 hl hb hts hA (fun x hx=>hlt x (by simp [hx])) (fun x hx=>hs x (by simp [hx]))
 ·rw [hfn,hv]
  rfl
end
theorem Ah4 {I : Nat→Nat→Prop} {W : World} {s : SV} {v : Value} (hn : ∀ a,v≠.agg a) (h : ROL I W [s] v.cells.toList) : RO I W s v:=by
 cases v with
 | agg a=>exact absurd rfl (hn a)
 | _=>exact h.2.1 0 s _ rfl (by simp [Value.cells])
theorem Ic {I : Nat→Nat→Prop} {W : World} {r : Reach} {base : Nat} {t e : TypeId} {s : SV} {v : Value} (ht : P.underlying t = some (.slice e)) (hv : Value.okWide P W r base t v) (h : ROL I W [s] v.cells.toList) : RO I W s v:=by
 obtain ⟨a,len,cap,rfl⟩:=okWide_slice ht hv
 exact Ah4 (fun _ h=>by cases h) h
theorem arg_int {I : Nat→Nat→Prop} {W : World} {r : Reach} {base : Nat} {t : TypeId} {k : IntKind} {s : SV} {v : Value} (ht : P.underlying t = some (.int k)) (hv : Value.okWide P W r base t v) (h : ROL I W [s] v.cells.toList) : RO I W s v:=by
 obtain ⟨n,rfl⟩:=okWide_int ht hv
 exact Ah4 (fun _ h=>by cases h) h
theorem Agk {I : Nat→Nat→Prop} {W : World} {r : Reach} {base : Nat} {t : TypeId} {fs : Array Field} {cs : List SV} {v : Value} (ht : P.underlying t = some (.struct fs)) (hv : Value.okWide P W r base t v) (h : ROL I W cs v.cells.toList) : RO I W (.agg cs) v:=by
 obtain ⟨a,rfl,_⟩:=okWide_struct ht hv
 exact .agg (vs:=a.toList) h.1 h.2.1
end
end Go.Sx
