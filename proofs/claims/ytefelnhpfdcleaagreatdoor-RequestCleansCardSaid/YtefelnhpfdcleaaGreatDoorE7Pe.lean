/- Part of the proofs of the statements about requests (layer 7): a symbolic executor over the code, that it is sound, and contracts of functions; it has no conditions of its own. -/
import Derived.Lib.ItoaNum
import Derived.Test.YtefelnhpfdcleaaGreatDoorProg
import Derived.Shelf.Strings.SlTrimAscii
import Derived.Shelf.Strings.Builder1
import Derived.Shelf.Strings.Builder2
import Derived.Shelf.Strings.OnBuilder
import Derived.Shelf.Strings.Trim
import Derived.Shelf.Small.Utf8
import Derived.Shelf.Small.Strs
import Derived.Shelf.Small.Wraps
import Derived.Shelf.Strings.BuilderF
import Derived.Shelf.Strings.BuilderK
import Derived.Shelf.Strings.Builder2Cap
import Derived.Shelf.Strconv.Itoa0
import Derived.Shelf.Strconv.Itoa1
import Derived.Shelf.LaysM
import Derived.Shelf.Strconv.Itoa2
import Derived.Shelf.Strconv.Itoa3
import Derived.Shelf.Strconv.Itoa4
import Derived.Shelf.Strconv.ParseIntEmpty
import Derived.Shelf.Strconv.Clone
import Derived.Shelf.Strconv.SyntaxError
import Derived.Shelf.Strconv.Lower
import Derived.Shelf.Strconv.ParseUint10
import Derived.Shelf.Strconv.ParseUint10Empty
import Derived.Shelf.Strconv.RangeError
import Derived.Shelf.Strconv.ParseUintEmpty
import Derived.Shelf.Strconv.ParseUint10b64
import Derived.Shelf.Strconv.ParseUint10b32
import Derived.Shelf.Strconv.ParseUint10b16
import Derived.Shelf.Strconv.ParseUint10b8
import Derived.Shelf.Strings.Search1
import Derived.Shelf.Strings.Search2
import Derived.Shelf.Strings.Search3
import Derived.Shelf.Strings.Cut
import Derived.Shelf.Strings.Shaped
import Derived.Shelf.Strings.Prefix
import Derived.Shelf.Unicode.Decode
import Derived.Shelf.Strings.Runes
import Derived.Shelf.Strings.AsciiSet
import Derived.Shelf.Unicode.DecodeSlow
import Derived.Shelf.Unicode.DecodeAny
import Derived.Shelf.Unicode.DecodeLast
import Derived.Ground.SlgfProg
import Derived.Shelf.SlicesE.IndexFunc
import Derived.Shelf.SlicesE.DeleteFunc
import Derived.Shelf.Bytes.IndexByte
import Derived.Lib.Walk
import Derived.WalkKit
import Derived.Shelf.LaysC
import Derived.Shelf.Strconv.ToError
import Derived.Shelf.Strconv.ParseUint10Any
import Derived.Shelf.Strconv.ParseInt10
import Derived.Shelf.Strconv.ToErrorRange
import Derived.Shelf.Strconv.ParseUint10At
import Derived.Shelf.Strconv.ParseInt10At64
import Derived.Shelf.Strconv.ParseInt10At32
import Derived.Shelf.Strconv.ParseInt10At16
import Derived.Shelf.Strconv.ParseInt10At8
import Derived.Shelf.Strconv.ParseInt10All
import Derived.Shelf.Strconv.ParseIntPublic10
import Derived.Shelf.Strconv.ErrVarParseInt
import Derived.Shelf.GgClosure.StringsIndexFunc
import Derived.Ground.GgwProg
import Derived.Shelf.GgClosure.StringsIndexFuncTop
import Derived.Shelf.Strings.FuncGrows
import Derived.Shelf.Strings.BuilderCap
import Derived.ProofKit
import Derived.Below
import Derived.Carry
import Derived.ChangeOld
import Derived.ChangeArms
import Derived.OpenShut
import Derived.MakeChecks
import Derived.Shelf.Bytes.SlIndexAt
import Derived.Test.YtefelnhpfdcleaaGreatDoorCards
import Derived.Test.YtefelnhpfdcleaaGreatDoorTie
import Derived.LaidLaws
import Derived.LaidHandle
import Derived.LaidMore
import Derived.Lay
import Derived.Stop.Joined
import Derived.Stop.LaidErr
import Derived.Lib.SmallJoins
import Derived.Laws.RangeString
import Derived.Laws.RangeAny
import Derived.Test.YtefelnhpfdcleaaGreatDoorE7Pd
namespace Go.Proofs.YtefelnhpfdcleaaGreatDoor
open Go.Sx
set_option maxRecDepth 10000
def tt : List (Nat×TI):=[
 (2,⟨.int .i64,1,8,[.int .i64 (.l 0)]⟩),
 (3,⟨.int .i64,1,8,[.int .i64 (.l 0)]⟩),
 (4,⟨.bool,1,1,[.bool (.l false)]⟩),
 (5,⟨.int .u8,1,1,[.int .u8 (.l 0)]⟩),
 (9,⟨.string,1,16,[.str []]⟩),
 (23,⟨.int .i64,1,8,[.int .i64 (.l 0)]⟩),
 (29,⟨.slice 69,1,24,[(.sl (.l true) (.l 0) 2 fun _=>[])]⟩),
 (31,⟨.struct [(0,2),(1,9),(2,9),(3,9),(4,29),(5,9)],6,96,[.int .i64 (.l 0),.str [],.str [],.str [],(.sl (.l true) (.l 0) 2 fun _=>[]),.str []]⟩),
 (36,⟨.slice 5,1,24,[(.sl (.l true) (.l 0) 1 fun _=>[])]⟩),
 (41,⟨.int .u16,1,2,[.int .u16 (.l 0)]⟩),
 (50,⟨.slice 31,1,24,[(.sl (.l true) (.l 0) 6 fun _=>[])]⟩),
 (55,⟨.slice 41,1,24,[(.sl (.l true) (.l 0) 1 fun _=>[])]⟩),
 (61,⟨.slice 9,1,24,[(.sl (.l true) (.l 0) 1 fun _=>[])]⟩),
 (69,⟨.struct [(0,9),(1,9)],2,32,[.str [],.str []]⟩),
 (80,⟨.struct [(0,61),(1,61),(2,61),(3,4),(4,29)],5,104,[(.sl (.l true) (.l 0) 1 fun _=>[]),(.sl (.l true) (.l 0) 1 fun _=>[]),(.sl (.l true) (.l 0) 1 fun _=>[]),.bool (.l false),(.sl (.l true) (.l 0) 2 fun _=>[])]⟩),
 (91,⟨.struct [(0,9),(1,4),(2,4),(3,4)],4,24,[.str [],.bool (.l false),.bool (.l false),.bool (.l false)]⟩),
 (107,⟨.iface,1,16,[.raw .nilIface]⟩),
 (102,⟨.pointer 104,1,8,[.nilp]⟩),
 (104,⟨.struct [(0,102),(1,36)],2,32,[.nilp,(.sl (.l true) (.l 0) 1 fun _=>[])]⟩),
 (156,⟨.map 9 4,1,8,[.raw (.map none)]⟩)]
def eqs : List TypeId:=[69]
def methodCells : List SV:=[
 .str [71,69,84],.bool (.l true),.bool (.l true),.bool (.l true),
 .str [72,69,65,68],.bool (.l true),.bool (.l true),.bool (.l true),
 .str [79,80,84,73,79,78,83],.bool (.l true),.bool (.l true),.bool (.l false),
 .str [84,82,65,67,69],.bool (.l true),.bool (.l true),.bool (.l true),
 .str [80,85,84],.bool (.l false),.bool (.l true),.bool (.l false),
 .str [68,69,76,69,84,69],.bool (.l false),.bool (.l true),.bool (.l false)]
def errRow (_ : Nat) : List SV:=[.ifc (.l false)]
def powRow (i : Nat) : List SV:=[.int .u64 (.a (Go.Lib.pow10Tab.getD i 0))]
def gl : List (Nat×SV):=[(0,.rptr methodCells),(5,.rarr 1 1 errRow),(6,.rarr 20 1 powRow)]
theorem fnOk_nil {f : Go.FuncId} {sp : FSpec} (h : FnOk Tryz.prog [] f sp) : FnOk Tryz.prog gl f sp :=
 ⟨h.1,fun xs ls K hs=>let ⟨r,ls',hk,hc⟩:=h.2 xs ls K hs; ⟨r,ls',hk,fun B E w vals a b c d _=>hc B E w vals a b c d (fun _ _ hh=>nomatch hh)⟩⟩
theorem tt_ok : ttB Tryz.prog tt = true:=by kernel_rfl
theorem mixed : Tryz.prog.follows .mixedOrders = true:=by kernel_rfl
theorem cxOk {tab : List (Nat×FSpec)} {gl : List (Nat×SV)} {gh : List (Nat×List Gh)} {its : List (Nat×(FSpec→FSpec))} {yl : List FSpec} : CxOk Tryz.prog ⟨dn,tt,tab,gl,eqs,gh,its,yl⟩:=by
 refine ⟨rfl,tt_ok,fun t ht=>?_⟩
 simp only [eqs,List.mem_cons,List.mem_nil_iff,or_false] at ht
 rcases ht with rfl
 all_goals
  refine ⟨?_,?_,?_⟩
  ·kernel_rfl
  ·kernel_rfl
  ·decide
end Go.Proofs.YtefelnhpfdcleaaGreatDoor
namespace Go.Proofs.YtefelnhpfdcleaaGreatDoor
open Go.Sx
set_option maxRecDepth 10000
set_option maxHeartbeats 2000000
def kindsL : List UInt8:=[48,48,48,48,48,48,48,48,48,50,48,48,48,48,48,48,48,48,48,48,48,48,48,48,48,48,48,48,48,48,48,48,50,51,49,51,51,51,51,51,49,49,51,51,49,51,51,49,51,51,51,51,51,51,51,51,51,51,49,49,49,49,49,49,49,51,51,51,51,51,51,51,51,51,51,51,51,51,51,51,51,51,51,51,51,51,51,51,51,51,51,49,49,49,51,51,51,51,51,51,51,51,51,51,51,51,51,51,51,51,51,51,51,51,51,51,51,51,51,51,51,51,51,49,51,49,51,48]
def kindI (c : Int) : Int:=if 128≤c then 0 else ((kindsL.getD c.toNat 48).toNat : Int) - 48
def spKind : FSpec:=fun _ xs ls K=>∃ (c : Int),xs = [.int .u8 (.a c)]∧ls = []∧(0≤c∧c≤255)∧∀ r,r = kindI c→K (.int .i64 (.a r)) []
theorem kindsL_ok : ∀ i : Fin 128,48≤(kindsL.getD i.1 0).toNat∧(kindsL.getD i.1 0).toNat≤51∧kindsL.getD i.1 0 = kindsL.getD i.1 48:=by decide
theorem wrap8 {n : Int} (h1 : 0≤n) (h2 : n≤255) : IntKind.u8.wrap n = n:=IntWalk.u8_in _ ⟨by omega,by omega⟩
theorem kind_ok : FnOk Tryz.prog gl 88 spKind:=by
 refine fnOk (gh:=[]) mixed cxOk tabNil Tryz.func88 (by kernel_rfl) (by kernel_rfl) ?_
 intro xs ls K h
 unfold spKind at h
 obtain ⟨c,rfl,rfl,hb,h⟩:=h
 obtain ⟨k,hk⟩ : ∃ k,k = kindI c:=⟨_,rfl⟩
 refine ⟨_,_,h k hk,fun D hD=>?_⟩
 clear h
 have w : IntKind.i64.wrap c = c:=wrap64 (by omega) (by omega)
 cbv
 refine br hD (fun h=>?_) (fun h=>?_)<;>cbv
 ·refine finInt hD ?_
  simp [w] at h
  rw [hk,kindI,if_pos h]
  rfl
 ·have hc : c < 128:=by simp [BT.den,cmpDen,ST.den,w] at h; omega
  clear h
  refine ⟨by subst hD; exact ⟨hb.1,hc⟩,fun c' hc'=>?_⟩
  cbv
  refine finInt hD ?_
  have e1 : c' = ((kindsL.getD c.toNat 0).toNat : Int):=by subst hD; exact hc'.h
  obtain ⟨t1,t2,t3⟩:=kindsL_ok ⟨c.toNat,by omega⟩
  simp only at t1 t2 t3
  show IntKind.i64.wrap (IntKind.u8.wrap (c' - 48)) = k
  rw [wrap8 (by omega) (by omega),wrap64 (by omega) (by omega),hk,kindI,if_neg (by omega),←t3,e1]
def plainI (c : Int) : Bool:=c == 9 || (decide (32≤c) && decide (c≤126))
structure CharAt (c : Int) (s : List UInt8) (i : Nat) : Prop where
 h : c = ((s.getD i 0).toNat : Int)
theorem isJ {D : Dn} (hD : D = dn) {j : Nat} {I : Int} (h : IsJ j (D.i (.a I))) : (j : Int) = I:=by subst hD; exact h.h
structure TokI (s : List UInt8) (i : Nat) (I L : Int) (m : Nat) : Prop where
 L : L = s.length
 le : i≤s.length
 I : I = i
 all : ∀ j : Nat,j < i→kindI ((s.getD j 0).toNat : Int) = 3
 m : m = s.length - i
def tokenF (s : List UInt8) : Bool:=(s.all fun c=>kindI (c.toNat : Int) == 3) && (decide (0 < s.length) && decide (s.length≤64))
theorem tokenF_no {s : List UInt8} {j : Nat} (hj : j < s.length) (h : kindI ((s.getD j 0).toNat : Int)≠3) : tokenF s = false:=by
 unfold tokenF
 rw [Bool.and_eq_false_iff]
 left
 rw [List.all_eq_false]
 refine ⟨s[j],List.getElem_mem hj,?_⟩
 rw [List.getD_eq_getElem?_getD,List.getElem?_eq_getElem hj] at h
 simpa using h
theorem tokenF_yes {s : List UInt8} (h : ∀ j : Nat,j < s.length→kindI ((s.getD j 0).toNat : Int) = 3) : tokenF s = (decide (0 < s.length) && decide (s.length≤64)):=by
 unfold tokenF
 have : (s.all fun c=>kindI (c.toNat : Int) == 3) = true:=by
  rw [List.all_eq_true]
  intro c hc
  obtain ⟨j,hj,rfl⟩:=List.mem_iff_getElem.1 hc
  have:=h j hj
  rw [List.getD_eq_getElem?_getD,List.getElem?_eq_getElem hj] at this
  simpa using this
 rw [this]; simp
def spToken : FSpec:=fun _ xs ls K=>∃ (s : List UInt8),xs = [.str s]∧ls = []∧s.length≤9223372036854775807∧∀ r,r = tokenF s→K (.bool (.a r)) []
def tokJ (s : List UInt8) (f : Nat→List SV) (m : Nat) (vs : List (Option SV)) (hp : List Hl) : Prop :=
 ∃ (i : Nat) (I L : Int),vs = [some (.str s),some (.sl (.a false) (.a L) 1 f),some (.int .i64 (.a L)),some (.int .i64 (.a I))]∧hp = []∧TokI s i I L m
theorem token_ok : FnOk Tryz.prog gl 47 spToken:=by
 refine fnOk (gh:=[]) mixed cxOk (tabCons kind_ok tabNil) Tryz.func47 (by kernel_rfl) (by kernel_rfl) ?_
 intro xs ls K h
 unfold spToken at h
 obtain ⟨s,rfl,rfl,hl,h⟩:=h
 obtain ⟨k,hk⟩ : ∃ k,k = tokenF s:=⟨_,rfl⟩
 refine ⟨_,_,h k hk,fun D hD=>?_⟩
 clear h
 cbv
 refine ⟨⟨hl⟩,fun f hf=>?_⟩
 cbv
 obtain ⟨J,hJ⟩ : ∃ J,J = tokJ s f:=⟨_,rfl⟩
 refine ⟨[0,6,7,8],J,⟨rfl,s.length,?_⟩,?_⟩
 ·rw [hJ]
  subst hD
  exact ⟨0,0,_,rfl,rfl,⟨rfl,Nat.zero_le _,rfl,by omega,rfl⟩⟩
 intro m vs hp hv
 rw [hJ] at hv
 unfold tokJ at hv
 obtain ⟨i,I,L,rfl,rfl,V⟩:=hv
 cbv
 refine br hD (fun h=>?_) (fun h=>?_)<;>cbv
 ·have hlt : i < s.length:=by simp at h; have:=V.I; have:=V.L; omega
  clear h
  refine ⟨?_,fun j hj=>?_⟩
  ·have:=V.I; have:=V.L; subst hD; exact ⟨by simp [dn]; omega,by simp [dn]; omega⟩
  have hji : j = i:=by have:=isJ hD hj; have:=V.I; omega
  obtain ⟨c,hc⟩ : ∃ c : Int,c = ((s.getD i 0).toNat : Int):=⟨_,rfl⟩
  have hb : 0≤c∧c≤255:=by have:=(s.getD i 0).toNat_lt; omega
  have hfj : f i = [.int .u8 (.a c)]:=by rw [hf.h,hc]; rfl
  have hc : CharAt c s i:=⟨hc⟩
  subst hji
  clear hj
  cbv
  rw [hfj]
  cbv
  refine ⟨_,rfl,rfl,by subst hD; exact hb,fun r hr=>?_⟩
  have hr : r = kindI c:=by subst hD; exact hr
  cbv
  refine br hD (fun h=>?_) (fun h=>?_)<;>cbv
  ·refine finBool hD ?_
   have : r≠3:=by simpa [BT.den,cmpDen,ST.den] using h
   rw [hk,tokenF_no hlt (by rw [←hc.h,←hr]; exact this)]
   rfl
  ·have h3 : r = 3:=by simpa [BT.den,cmpDen,ST.den] using h
   refine ⟨s.length - (j + 1),by have:=V.m; omega,?_⟩
   rw [hJ]
   subst hD
   have hI:=V.I
   refine ⟨j + 1,_,_,rfl,rfl,⟨V.L,by omega,?_,fun q hq=>?_,rfl⟩⟩
   ·simp [dn]
    rw [wrap64 (by omega) (by omega)]
    omega
   ·by_cases hqj : q = j
    ·subst hqj
     rw [←hc.h]
     exact hr.symm.trans h3
    ·exact V.all q (by omega)
 ·have hi : i = s.length:=by simp at h; have:=V.I; have:=V.L; have:=V.le; omega
  clear h
  have hy:=tokenF_yes (s:=s) (fun j hj=>V.all j (by omega))
  refine finBool hD ?_
  rw [hk,hy]
  show (decide ((0 : Int) < (s.length : Int)) && decide ((s.length : Int)≤64)) = _
  congr 1<;>exact decide_eq_decide.2 (by omega)
end Go.Proofs.YtefelnhpfdcleaaGreatDoor
namespace Go.Proofs.YtefelnhpfdcleaaGreatDoor
open Go.Sx
set_option maxRecDepth 10000
set_option maxHeartbeats 2000000
def anyB (p : Int→Bool) (s : List UInt8) : Bool:=s.any fun c=>p (c.toNat : Int)
structure IdxI (p : Int→Bool) (s : List UInt8) (i : Nat) (I L : Int) (m : Nat) : Prop where
 L : L = s.length
 le : i≤s.length
 I : I = i
 all : ∀ j : Nat,j < i→p ((s.getD j 0).toNat : Int) = false
 m : m = s.length - i
theorem getD_lt {s : List UInt8} {j : Nat} (hj : j < s.length) : s.getD j 0 = s[j]:=by
 rw [List.getD_eq_getElem?_getD,List.getElem?_eq_getElem hj]
 rfl
structure RowB (f : Nat→List SV) (n : Int) (s : List UInt8) : Prop where
 n : n = s.length
 f : f = byteRow s
 len : s.length≤9223372036854775807
end Go.Proofs.YtefelnhpfdcleaaGreatDoor
namespace Go.Proofs.YtefelnhpfdcleaaGreatDoor
open Go.Sx
set_option maxRecDepth 10000
set_option maxHeartbeats 2000000
end Go.Proofs.YtefelnhpfdcleaaGreatDoor
namespace Go.Proofs.YtefelnhpfdcleaaGreatDoor
open Go.Sx
set_option maxRecDepth 10000
set_option maxHeartbeats 2000000
structure AllI (p : Int→Bool) (s : List UInt8) (i : Nat) (I : Int) (m : Nat) : Prop where
 le : i≤s.length
 I : I = i
 all : ∀ j : Nat,j < i→p ((s.getD j 0).toNat : Int) = true
 m : m = s.length - i
 len : s.length≤9223372036854775807
theorem charOf {D : Dn} (hD : D = dn) {c I : Int} {s : List UInt8} {i : Nat} (hI : I = i) (h : ByteOf c s (D.i (.a I))) : CharAt c s i:=by
 subst hD
 refine ⟨?_⟩
 have h:=h.h
 show c = _
 rw [h]
 show (((s.getD I.toNat 0).toNat : Nat) : Int) = _
 rw [hI,Int.toNat_natCast]
theorem CharAt.le {c : Int} {s : List UInt8} {i : Nat} (h : CharAt c s i) : 0≤c∧c≤255:=by
 have h1:=h.h
 have:=(s.getD i 0).toNat_lt
 omega
end Go.Proofs.YtefelnhpfdcleaaGreatDoor
namespace Go.Proofs.YtefelnhpfdcleaaGreatDoor
open Go.Sx
set_option maxRecDepth 10000
set_option maxHeartbeats 2000000
structure At (s : List UInt8) (i : Nat) (I : Int) (m : Nat) : Prop where
 le : i≤s.length
 I : I = i
 m : m = s.length - i
 len : s.length≤9223372036854775807
theorem At.zero {s : List UInt8} (h : s.length≤9223372036854775807) : At s 0 0 s.length:=⟨Nat.zero_le _,rfl,by omega,h⟩
theorem drop_at {s : List UInt8} {i : Nat} (h : i < s.length) : s.drop i = s.getD i 0 :: s.drop (i + 1):=by
 rw [getD_lt h]; exact List.drop_eq_getElem_cons h
theorem At.lt {s : List UInt8} {i : Nat} {I : Int} {m : Nat} (V : At s i I m) (h : I < (s.length : Int)) : i < s.length:=by have:=V.I; omega
theorem At.eq {s : List UInt8} {i : Nat} {I : Int} {m : Nat} (V : At s i I m) (h : ¬ I < (s.length : Int)) : i = s.length:=by have:=V.I; have:=V.le; omega
theorem At.inS {D : Dn} (hD : D = dn) {s : List UInt8} {i : Nat} {I : Int} {m : Nat} (V : At s i I m) (h : i < s.length) : InS (D.i (.a I)) s:=by
 have:=V.I; subst hD; exact ⟨by show 0≤I; omega,by show I < s.length; omega⟩
theorem At.step {D : Dn} (hD : D = dn) {s : List UInt8} {i : Nat} {I : Int} {m : Nat} (V : At s i I m) (h : i < s.length) : s.length - (i + 1) < m∧At s (i + 1) (D.i (.bin .add .i64 (.a I) (.l 1))) (s.length - (i + 1)):=by
 have h1:=V.I; have h2:=V.len; have h3:=V.m
 subst hD
 refine ⟨by omega,by omega,?_,rfl,h2⟩
 show IntKind.i64.wrap (I + 1) = _
 rw [wrap64 (by omega) (by omega)]; omega
theorem CharAt.of {c : Int} {s : List UInt8} {i : Nat} (h : CharAt c s i) : ((s.getD i 0).toNat : Int) = c:=h.h.symm
def lettersL : List UInt8:=[33,35,36,37,38,39,42,43,45,46,94,95,96,124,126]
def rangeI (c : Int) : Bool:=((decide (97≤c) && decide (c≤122)) || (decide (65≤c) && decide (c≤90))) || (decide (48≤c) && decide (c≤57))
def letterI (c : Int) : Bool:=rangeI c || anyB (fun x=>x == c) lettersL
end Go.Proofs.YtefelnhpfdcleaaGreatDoor
namespace Go.Proofs.YtefelnhpfdcleaaGreatDoor
open Go.Sx
set_option maxRecDepth 10000
set_option maxHeartbeats 2000000
structure RowS (f : Nat→List SV) (n : Int) (a : List (List UInt8)) : Prop where
 n : n = a.length
 f : ∀ i,i < a.length→f i = [.str (a.getD i [])]
 len : a.length≤9223372036854775807
structure AtR {α : Type} (s : List α) (i : Nat) (I : Int) (m : Nat) : Prop where
 le : i≤s.length
 I : I = i
 m : m = s.length - i
 len : s.length≤9223372036854775807
theorem AtR.zero {α : Type} {s : List α} (h : s.length≤9223372036854775807) : AtR s 0 0 s.length:=⟨Nat.zero_le _,rfl,by omega,h⟩
theorem AtR.lt {α : Type} {s : List α} {i : Nat} {I n : Int} {m : Nat} (V : AtR s i I m) (hn : n = s.length) (h : I < n) : i < s.length:=by have:=V.I; omega
theorem AtR.eq {α : Type} {s : List α} {i : Nat} {I n : Int} {m : Nat} (V : AtR s i I m) (hn : n = s.length) (h : ¬ I < n) : i = s.length:=by have:=V.I; have:=V.le; omega
theorem AtR.inB {D : Dn} (hD : D = dn) {α : Type} {s : List α} {i : Nat} {I n : Int} {m : Nat} (V : AtR s i I m) (hn : n = s.length) (h : i < s.length) : InB (D.i (.a I)) (D.i (.a n)):=by
 have:=V.I; subst hD; exact ⟨by show 0≤I; omega,by show I < n; omega⟩
theorem AtR.step {D : Dn} (hD : D = dn) {α : Type} {s : List α} {i : Nat} {I : Int} {m : Nat} (V : AtR s i I m) (h : i < s.length) : s.length - (i + 1) < m∧AtR s (i + 1) (D.i (.bin .add .i64 (.a I) (.l 1))) (s.length - (i + 1)):=by
 have h1:=V.I; have h2:=V.len; have h3:=V.m
 subst hD
 refine ⟨by omega,by omega,?_,rfl,h2⟩
 show IntKind.i64.wrap (I + 1) = _
 rw [wrap64 (by omega) (by omega)]; omega
theorem AtR.j {D : Dn} (hD : D = dn) {α : Type} {s : List α} {i j : Nat} {I : Int} {m : Nat} (V : AtR s i I m) (h : IsJ j (D.i (.a I))) : j = i:=by
 have:=isJ hD h; have:=V.I; omega
theorem dropR {α : Type} {s : List α} {i : Nat} {d : α} (h : i < s.length) : s.drop i = s.getD i d :: s.drop (i + 1):=by
 rw [List.drop_eq_getElem_cons h,List.getD_eq_getElem?_getD,List.getElem?_eq_getElem h]; rfl
end Go.Proofs.YtefelnhpfdcleaaGreatDoor
namespace Go.Proofs.YtefelnhpfdcleaaGreatDoor
open Go.Sx
set_option maxRecDepth 10000
set_option maxHeartbeats 2000000
def foldI (c : Int) : Int:=if 65≤c∧c≤90 then c + 32 else c
def foldB (b : UInt8) : UInt8:=if 65≤b.toNat∧b.toNat≤90 then b + 32 else b
def foldF (s : List UInt8) : List UInt8:=s.map foldB
theorem foldB_nat (b : UInt8) : ((foldB b).toNat : Int) = foldI (b.toNat : Int):=by
 unfold foldB foldI
 have:=b.toNat_lt
 by_cases h : 65≤b.toNat∧b.toNat≤90
 ·rw [if_pos h,if_pos (by omega)]
  rw [UInt8.toNat_add]
  simp; omega
 ·rw [if_neg h,if_neg (by omega)]
structure FoldI (s : List UInt8) (f : Nat→List SV) (i : Nat) (L : Int) : Prop where
 L : L = s.length
 f : ∀ j,f j = [.int .u8 (.a (if j < i then foldI ((s.getD j 0).toNat : Int) else ((s.getD j 0).toNat : Int)))]
theorem FoldI.zero {s : List UInt8} {f : Nat→List SV} (h : f = byteRow s) : FoldI s f 0 s.length:=by
 refine ⟨rfl,fun j=>?_⟩
 rw [h]; simp [byteRow]
theorem FoldI.same {s : List UInt8} {f : Nat→List SV} {i : Nat} {L : Int} (V : FoldI s f i L) (h : ¬ (65≤((s.getD i 0).toNat : Int)∧((s.getD i 0).toNat : Int)≤90)) : FoldI s f (i + 1) L:=by
 refine ⟨V.L,fun j=>?_⟩
 rw [V.f j]
 by_cases e : j = i
 ·subst e
  rw [if_neg (Nat.lt_irrefl _),if_pos (Nat.lt_succ_self _),foldI,if_neg h]
 ·have : (j < i) = (j < i + 1):=by simp; omega
  simp only [this]
theorem FoldI.set {s : List UInt8} {f f' : Nat→List SV} {i : Nat} {L v : Int} (V : FoldI s f i L) (h : SetAt f' f i [.int .u8 (.a v)]) (hv : v = foldI ((s.getD i 0).toNat : Int)) : FoldI s f' (i + 1) L:=by
 refine ⟨V.L,fun j=>?_⟩
 by_cases e : j = i
 ·subst e
  rw [h.at_,if_pos (Nat.lt_succ_self _),hv]
 ·rw [h.other j e,V.f j]
  have : (j < i) = (j < i + 1):=by simp; omega
  simp only [this]
theorem FoldI.byteRow {s : List UInt8} {f : Nat→List SV} {i : Nat} {L : Int} (V : FoldI s f i L) : ByteRow L f:=by
 refine ⟨by have:=V.L; omega,fun j _=>⟨_,V.f j,?_⟩⟩
 show 0≤(if j < i then foldI ((s.getD j 0).toNat : Int) else ((s.getD j 0).toNat : Int))∧(if j < i then foldI ((s.getD j 0).toNat : Int) else ((s.getD j 0).toNat : Int)) < 256
 have:=(s.getD j 0).toNat_lt
 unfold foldI
 split
 ·split<;>omega
 ·omega
theorem FoldI.str {s r : List UInt8} {f : Nat→List SV} {i : Nat} {L : Int} (V : FoldI s f i L) (hi : i = s.length) (h : StrRow r L f) : r = foldF s:=by
 have hl : r.length = s.length:=by have:=h.len; have:=V.L; omega
 refine List.ext_getElem (by simp [foldF,hl]) fun j h1 h2=>?_
 have hj : j < s.length:=by omega
 have:=h.row j _ (by rw [V.L]; omega) (V.f j)
 rw [if_pos (by omega),getD_lt h1,getD_lt hj] at this
 simp only [foldF,List.getElem_map]
 refine UInt8.toNat_inj.1 ?_
 have e2:=foldB_nat s[j]
 have e3 : ((r[j].toNat : Nat) : Int) = foldI (s[j].toNat : Int):=this
 omega
def spFold : FSpec:=fun _ xs ls K=>∃ (s : List UInt8),xs = [.str s]∧ls = []∧s.length≤9223372036854775807∧∀ r,r = foldF s→K (.str r) []
theorem up8 : ∀ n : Fin 26,binDen .or .u8 (65 + (n.1 : Int)) 32 = 65 + (n.1 : Int) + 32:=by decide
theorem or8 {c : Int} (h1 : 65≤c) (h2 : c≤90) : binDen .or .u8 c 32 = c + 32:=by
 have:=up8 ⟨(c - 65).toNat,by omega⟩
 have e : 65 + (((c - 65).toNat : Nat) : Int) = c:=by omega
 simp only [e] at this
 exact this
theorem and_false {c : Int} (h : (decide (65≤c) && decide (c≤90)) = false) : ¬ (65≤c∧c≤90):=by simpa using h
def foldJ (s : List UInt8) (m : Nat) (vs : List (Option SV)) (hp : List Hl) : Prop :=
 ∃ (i : Nat) (I L : Int) (nl : Bool) (f : Nat→List SV),vs = [some (.osl (.a nl) (.a L) 0),some (.osl (.a nl) (.a L) 0),some (.int .i64 (.a L)),some (.int .i64 (.a I))]∧hp = [.own 5 (.a L) 1 false f]∧At s i I m∧FoldI s f i L
theorem fold_ok : FnOk Tryz.prog gl 48 spFold:=by
 refine fnOk (gh:=[(999983,[])]) mixed cxOk tabNil Tryz.func48 (by kernel_rfl) (by kernel_rfl) ?_
 intro xs ls K h
 unfold spFold at h
 obtain ⟨s,rfl,rfl,hl,h⟩:=h
 obtain ⟨k,hk⟩ : ∃ k,k = foldF s:=⟨_,rfl⟩
 refine ⟨_,_,h k hk,fun D hD=>?_⟩
 clear h
 cbv
 refine ⟨⟨hl⟩,fun f hf=>?_⟩
 cbv
 obtain ⟨J,hJ⟩ : ∃ J,J = foldJ s:=⟨_,rfl⟩
 refine ⟨[3,8,9,10],J,⟨rfl,s.length,?_⟩,?_⟩
 ·rw [hJ]
  subst hD
  exact ⟨0,0,_,_,f,rfl,rfl,At.zero hl,FoldI.zero hf.h⟩
 clear hf
 intro m vs hp' hv
 rw [hJ] at hv
 unfold foldJ at hv
 obtain ⟨i,I,L,nl,f,rfl,rfl,V,F⟩:=hv
 cbv
 refine br hD (fun h=>?_) (fun h=>?_)<;>cbv
 ·have hlt:=V.lt (by have h:=of_decide_eq_true (p:=I < L) h; have:=F.L; omega)
  clear h
  refine ⟨⟨rfl⟩,?_,fun j hj=>?_⟩
  ·have:=V.I; have:=F.L; subst hD; exact ⟨by show 0≤I; omega,by show I < L; omega⟩
  have hji : j = i:=by have:=isJ hD hj; have:=V.I; omega
  subst hji
  clear hj
  obtain ⟨c,hc⟩ : ∃ c : Int,c = ((s.getD j 0).toNat : Int):=⟨_,rfl⟩
  have hfj : f j = [.int .u8 (.a c)]:=by rw [F.f j,if_neg (Nat.lt_irrefl _),hc]
  have hc : CharAt c s j:=⟨hc⟩
  have hb:=hc.le
  cbv
  refine ⟨⟨rfl⟩,?_,?_⟩
  ·have:=V.I; have:=F.L; subst hD; exact ⟨by show (j : Int) < L; omega⟩
  rw [hfj]
  cbv
  refine br hD (fun h=>?_) (fun h=>?_)<;>cbv
  ·have hcc : 65≤c∧c≤90:=by
    have h : (decide (65≤c) && decide (c≤90)) = true:=h
    simpa using h
   clear h
   refine ⟨⟨rfl⟩,?_,fun j3 hj3=>?_⟩
   ·have:=V.I; have:=F.L; subst hD; exact ⟨by show 0≤I; omega,by show I < L; omega⟩
   have hj3' : j3 = j:=by have:=isJ hD hj3; have:=V.I; omega
   clear hj3
   subst hj3'
   cbv
   refine ⟨⟨rfl⟩,?_,?_⟩
   ·have:=V.I; have:=F.L; subst hD; exact ⟨by show (j3 : Int) < L; omega⟩
   rw [hfj]
   cbv
   intro f' hf'
   cbv
   refine ⟨_,(V.step hD hlt).1,?_⟩
   rw [hJ]
   subst hD
   refine ⟨j3 + 1,_,_,_,f',rfl,rfl,(V.step rfl hlt).2,F.set hf' ?_⟩
   rw [hc.of,foldI,if_pos hcc]
   exact or8 hcc.1 hcc.2
  ·have hn : ¬ (65≤((s.getD j 0).toNat : Int)∧((s.getD j 0).toNat : Int)≤90):=by
    rw [hc.of]
    exact and_false h
   refine ⟨_,(V.step hD hlt).1,?_⟩
   rw [hJ]
   subst hD
   exact ⟨j + 1,_,_,_,f,rfl,rfl,(V.step rfl hlt).2,F.same hn⟩
 ·have hi:=V.eq (fun h'=>by have h:=of_decide_eq_false (p:=I < L) h; have:=F.L; omega)
  clear h
  refine ⟨⟨rfl⟩,by subst hD; exact F.byteRow,fun r hr=>?_⟩
  cbv
  have hr2 : r = k:=by subst hD; rw [hk]; exact F.str hi hr
  rw [hr2]
  exact finV (LeV.refl _)
end Go.Proofs.YtefelnhpfdcleaaGreatDoor
namespace Go.Proofs.YtefelnhpfdcleaaGreatDoor
open Go.Sx
set_option maxRecDepth 10000
set_option maxHeartbeats 2000000
def qdF (p : Int→Bool) : List UInt8→Option (Nat×List UInt8)
 | []=>none
 | c :: r =>
  if !p (c.toNat : Int) then none
  else if (c.toNat : Int) = 34 then some (1,[])
  else if (c.toNat : Int) = 92 then (match r with
   | []=>none
   | d :: r'=>if !p (d.toNat : Int) then none else (qdF p r').map fun x=>(x.1 + 2,d :: x.2))
  else (qdF p r).map fun x=>(x.1 + 1,c :: x.2)
def charI (s : List UInt8) (i : Nat) : Int:=((s.getD i 0).toNat : Int)
theorem qdF_cons (p : Int→Bool) (c : UInt8) (r : List UInt8) : qdF p (c :: r) = (if !p (c.toNat : Int) then none
  else if (c.toNat : Int) = 34 then some (1,[])
  else if (c.toNat : Int) = 92 then (match r with
   | []=>none
   | d :: r'=>if !p (d.toNat : Int) then none else (qdF p r').map fun x=>(x.1 + 2,d :: x.2))
  else (qdF p r).map fun x=>(x.1 + 1,c :: x.2)):=by rw [qdF.eq_def]
theorem qdF_bad {p : Int→Bool} {s : List UInt8} {i : Nat} (h : i < s.length) (hb : p (charI s i) = false) : qdF p (s.drop i) = none:=by
 rw [drop_at h,qdF_cons]
 unfold charI at hb
 rw [hb]; rfl
theorem qdF_end {p : Int→Bool} {s : List UInt8} {i : Nat} (h : s.length≤i) : qdF p (s.drop i) = none:=by
 rw [List.drop_eq_nil_of_le h]; rfl
theorem qdF_quote {p : Int→Bool} {s : List UInt8} {i : Nat} (h : i < s.length) (hb : p (charI s i) = true) (hq : charI s i = 34) : qdF p (s.drop i) = some (1,[]):=by
 rw [drop_at h,qdF_cons]
 unfold charI at hb hq
 rw [hb,if_neg (by simp),if_pos hq]
theorem qdF_esc {p : Int→Bool} {s : List UInt8} {i : Nat} (h : i < s.length) (hb : p (charI s i) = true) (hq : charI s i = 92) (h2 : i + 1 < s.length) (hb2 : p (charI s (i + 1)) = true) : qdF p (s.drop i) = (qdF p (s.drop (i + 2))).map fun x=>(x.1 + 2,s.getD (i + 1) 0 :: x.2):=by
 rw [drop_at h,drop_at h2,qdF_cons]
 unfold charI at hb hq hb2
 rw [hb,if_neg (by simp),if_neg (by omega),if_pos hq]
 simp only
 rw [hb2]
 simp
theorem qdF_esc0 {p : Int→Bool} {s : List UInt8} {i : Nat} (h : i < s.length) (hb : p (charI s i) = true) (hq : charI s i = 92) (h2 : ¬ (i + 1 < s.length∧p (charI s (i + 1)) = true)) : qdF p (s.drop i) = none:=by
 by_cases h3 : i + 1 < s.length
 ·have hb2 : p (charI s (i + 1)) = false:=by simpa [h3] using h2
  rw [drop_at h,drop_at h3,qdF_cons]
  unfold charI at hb hq hb2
  rw [hb,if_neg (by simp),if_neg (by omega),if_pos hq]
  simp only
  rw [hb2]
  simp
 ·rw [drop_at h,List.drop_eq_nil_of_le (by omega),qdF_cons]
  unfold charI at hb hq
  rw [hb,if_neg (by simp),if_neg (by omega),if_pos hq]
theorem qdF_more {p : Int→Bool} {s : List UInt8} {i : Nat} (h : i < s.length) (hb : p (charI s i) = true) (hq : charI s i≠34) (hq2 : charI s i≠92) : qdF p (s.drop i) = (qdF p (s.drop (i + 1))).map fun x=>(x.1 + 1,s.getD i 0 :: x.2):=by
 rw [drop_at h,qdF_cons]
 unfold charI at hb hq hq2
 rw [hb,if_neg (by simp),if_neg hq,if_neg hq2]
def someI (c : Int) : Bool:=!(kindI c == 0)
def qAt (p : Int→Bool) (s : List UInt8) (i : Nat) : Int:=match qdF p (s.drop (i + 1)) with
 | none=>0
 | some x=>((i + 1 + x.1 : Nat) : Int)
def quotedF (s : List UInt8) : Int:=qAt someI s 0
theorem qAt_none {p : Int→Bool} {s : List UInt8} {i : Nat} (h : qdF p (s.drop (i + 1)) = none) : qAt p s i = 0:=by rw [qAt,h]
theorem qAt_quote {p : Int→Bool} {s : List UInt8} {i : Nat} (h : i + 1 < s.length) (hb : p (charI s (i + 1)) = true) (hq : charI s (i + 1) = 34) : qAt p s i = ((i + 2 : Nat) : Int):=by
 rw [qAt,qdF_quote h hb hq]; rfl
theorem qAt_esc {p : Int→Bool} {s : List UInt8} {i : Nat} (h : i + 1 < s.length) (hb : p (charI s (i + 1)) = true) (hq : charI s (i + 1) = 92) (h2 : i + 2 < s.length) (hb2 : p (charI s (i + 2)) = true) : qAt p s i = qAt p s (i + 2):=by
 rw [qAt,qdF_esc h hb hq h2 hb2,qAt]
 cases qdF p (s.drop (i + 1 + 2)) with
 | none=>rfl
 | some x=>simp only [Option.map_some]; congr 1; omega
theorem qAt_more {p : Int→Bool} {s : List UInt8} {i : Nat} (h : i + 1 < s.length) (hb : p (charI s (i + 1)) = true) (hq : charI s (i + 1)≠34) (hq2 : charI s (i + 1)≠92) : qAt p s i = qAt p s (i + 1):=by
 rw [qAt,qdF_more h hb hq hq2,qAt]
 cases qdF p (s.drop (i + 1 + 1)) with
 | none=>rfl
 | some x=>simp only [Option.map_some]; congr 1; omega
structure QI (s : List UInt8) (i : Nat) (I : Int) (m : Nat) : Prop where
 I : I = i
 lt : i < s.length∨i = 0
 m : m = s.length - i
 len : s.length≤9223372036854775807
def quotedJ (s : List UInt8) (k : Int) (m : Nat) (vs : List (Option SV)) (hp : List Hl) : Prop :=
 ∃ (i : Nat) (I : Int),vs = [some (.str s),some (.int .i64 (.a I))]∧hp = []∧QI s i I m∧k = qAt someI s i
def spStrI (F : List UInt8→Int) : FSpec:=fun _ xs ls K=>∃ (s : List UInt8),xs = [.str s]∧ls = []∧s.length≤9223372036854775807∧∀ r,r = F s→K (.int .i64 (.a r)) []
noncomputable def qPre : Code:=match Tryz.f193.body with
 | some (.seq a (.scope _))=>a
 | _=>.skip
noncomputable def qScope : Code:=match Tryz.f193.body with
 | some (.seq _ (.scope c))=>c
 | _=>.skip
noncomputable def qRest : Code:=(findLabel qScope 0).getD .skip
theorem QI.one {s : List UInt8} {i : Nat} {I : Int} {m : Nat} (V : QI s i I m) : ST.den (.bin .add .i64 (.a I) (.l 1)) = ((i + 1 : Nat) : Int):=by
 have h1:=V.I; have h2:=V.len; have h3:=V.lt
 show IntKind.i64.wrap (I + 1) = _
 rw [wrap64 (by omega) (by omega)]; omega
theorem QI.two {s : List UInt8} {i : Nat} {I : Int} {m : Nat} (V : QI s i I m) (h : i + 1 < s.length) : ST.den (.bin .add .i64 (.bin .add .i64 (.a I) (.l 1)) (.l 1)) = ((i + 2 : Nat) : Int):=by
 have h0:=V.one; have h2:=V.len
 show IntKind.i64.wrap (ST.den (.bin .add .i64 (.a I) (.l 1)) + 1) = _
 rw [h0,wrap64 (by omega) (by omega)]; omega
theorem inS_of {s : List UInt8} {i : Nat} {e : ST} (he : e.den = (i : Int)) (h : i < s.length) : InS (dn.i e) s:=⟨by show 0≤e.den; omega,by show e.den < s.length; omega⟩
theorem byteAt {D : Dn} (hD : D = dn) {c : Int} {s : List UInt8} {i : Nat} {e : ST} (he : e.den = (i : Int)) (h : ByteOf c s (D.i e)) : CharAt c s i:=by
 subst hD
 refine ⟨?_⟩
 have h:=h.h
 have e2 : dn.i e = (i : Int):=he
 rw [e2] at h
 rw [h,Int.toNat_natCast]
theorem CharAt.charI {c : Int} {s : List UInt8} {i : Nat} (h : CharAt c s i) : c = charI s i:=h.h
theorem qd_stop {c : Int} {s : List UInt8} {i : Nat} (hc : CharAt c s i) (h : (decide ((s.length : Int)≤((i : Nat) : Int)) || kindI c == 0) = true) : qdF someI (s.drop i) = none:=by
 by_cases hlt : i < s.length
 ·refine qdF_bad hlt ?_
  rw [←hc.charI,someI]
  have : ¬ ((s.length : Int)≤(i : Int)):=by omega
  simp [this] at h
  simp [h]
 ·exact qdF_end (by omega)
theorem qd_stop2 {c : Int} {s : List UInt8} {i : Nat} (hc : CharAt c s i) (h : (decide ((s.length : Int)≤((i : Nat) : Int)) || kindI c == 0) = true) : ¬ (i < s.length∧someI (charI s i) = true):=by
 rintro ⟨h1,h2⟩
 rw [←hc.charI,someI] at h2
 have : ¬ ((s.length : Int)≤(i : Int)):=by omega
 simp [this] at h
 simp [h] at h2
theorem qd_go {c : Int} {s : List UInt8} {i : Nat} (hc : CharAt c s i) (h : (decide ((s.length : Int)≤((i : Nat) : Int)) || kindI c == 0) = false) : i < s.length∧someI (charI s i) = true:=by
 rw [←hc.charI,someI]
 simp at h
 refine ⟨by omega,?_⟩
 simp [h.2]
theorem quoted_ok : FnOk Tryz.prog gl 193 (spStrI quotedF):=by
 refine fnOkJ (gh:=[]) mixed cxOk (tabCons kind_ok tabNil) Tryz.func193 (l:=0) (pre:=qPre) (c:=qScope) (rest:=qRest) (by kernel_rfl) (by kernel_rfl) (by kernel_rfl) ?_
 intro xs ls K h
 unfold spStrI at h
 obtain ⟨s,rfl,rfl,hl,h⟩:=h
 obtain ⟨k,hk⟩ : ∃ k,k = quotedF s:=⟨_,rfl⟩
 refine ⟨_,_,h k hk,fun D hD=>?_⟩
 clear h
 rw [quotedF] at hk
 obtain ⟨J,hJ⟩ : ∃ J,J = quotedJ s k:=⟨_,rfl⟩
 refine ⟨[0,3],J,?_,?_⟩
 ·cbv
  have V : QI s 0 0 s.length:=⟨rfl,.inr rfl,rfl,hl⟩
  have hk2:=hk
  have hE1 : ST.den (.l 1) = ((0 + 1 : Nat) : Int):=rfl
  refine ⟨fun hg=>?_,fun c hc=>?_⟩
  ·subst hD; exact inS_of hE1 (by have hg : (!decide ((s.length : Int)≤ST.den (.l 1))) = true:=hg; rw [hE1] at hg; simp only [Bool.not_eq_true',decide_eq_false_iff_not] at hg; omega)
  have hc2:=byteAt hD hE1 hc
  clear hc
  cbv
  refine ⟨_,rfl,rfl,by subst hD; exact hc2.le,fun r hr=>?_⟩
  have hr2 : r = kindI c:=by subst hD; exact hr
  clear hr
  cbv
  refine br hD (fun h=>?_) (fun h=>?_)<;>cbv
  ·have h : (decide ((s.length : Int)≤ST.den (.l 1)) || r == 0) = true:=h
   rw [hE1,hr2] at h
   refine finInt hD ?_
   rw [hk2,qAt_none (qd_stop hc2 h)]
   rfl
  have h : (decide ((s.length : Int)≤ST.den (.l 1)) || r == 0) = false:=h
  rw [hE1,hr2] at h
  obtain ⟨hlt,hp⟩:=qd_go hc2 h
  clear h
  refine ⟨by subst hD; exact inS_of hE1 hlt,fun c' hc'=>?_⟩
  have hcc : c' = c:=by have:=byteAt hD hE1 hc'; rw [this.h,hc2.h]
  subst hcc
  clear hc'
  cbv
  refine br hD (fun h=>?_) (fun h=>?_)<;>cbv
  ·have h34 : c' = 34:=by have h : (c' == 34) = true:=h; simpa using h
   refine finInt hD ?_
   rw [hk2,qAt_quote hlt hp (by rw [←hc2.charI]; exact h34)]
   exact rfl
  have h34 : charI s (0 + 1)≠34:=by rw [←hc2.charI]; have h : (c' == 34) = false:=h; simpa using h
  clear h
  refine br hD (fun h=>?_) (fun h=>?_)<;>cbv
  ·have h92 : charI s (0 + 1) = 92:=by rw [←hc2.charI]; have h : (c' == 92) = true:=h; simpa using h
   clear h
   have hE2' : ST.den (.l 2) = ((0 + 2 : Nat) : Int):=rfl
   refine ⟨fun hg=>?_,fun d hd=>?_⟩
   ·subst hD; exact inS_of hE2' (by have hg : (!decide ((s.length : Int)≤ST.den (.l 2))) = true:=hg; rw [hE2'] at hg; simp only [Bool.not_eq_true',decide_eq_false_iff_not] at hg; omega)
   have hd2:=byteAt hD hE2' hd
   clear hd
   cbv
   refine ⟨_,rfl,rfl,by subst hD; exact hd2.le,fun q hq=>?_⟩
   have hq2 : q = kindI d:=by subst hD; exact hq
   clear hq
   cbv
   refine br hD (fun h=>?_) (fun h=>?_)<;>cbv
   ·have h : (decide ((s.length : Int)≤ST.den (.l 2)) || q == 0) = true:=h
    rw [hE2',hq2] at h
    refine finInt hD ?_
    rw [hk2,qAt_none (qdF_esc0 hlt hp h92 (qd_stop2 hd2 h))]
    rfl
   have h : (decide ((s.length : Int)≤ST.den (.l 2)) || q == 0) = false:=h
   rw [hE2',hq2] at h
   obtain ⟨hlt2,hp2⟩:=qd_go hd2 h
   refine ⟨s.length - (0 + 2),?_⟩
   rw [hJ]
   subst hD
   exact ⟨0 + 2,_,rfl,rfl,⟨hE2',.inl hlt2,rfl,hl⟩,by rw [hk2,qAt_esc hlt hp h92 hlt2 hp2]⟩
  ·have h92 : charI s (0 + 1)≠92:=by rw [←hc2.charI]; have h : (c' == 92) = false:=h; simpa using h
   refine ⟨s.length - (0 + 1),?_⟩
   rw [hJ]
   subst hD
   exact ⟨0 + 1,_,rfl,rfl,⟨hE1,.inl hlt,rfl,hl⟩,by rw [hk2,qAt_more hlt hp h34 h92]⟩
 ·intro m vs hp' hv
  rw [hJ] at hv
  unfold quotedJ at hv
  obtain ⟨i,I,hvs,hhp,V,hk2⟩:=hv
  rw [hvs,hhp]
  clear hvs hhp vs hp' hk
  cbv
  have hE1 : ST.den (.bin .add .i64 (.a I) (.l 1)) = ((i + 1 : Nat) : Int):=V.one
  refine ⟨fun hg=>?_,fun c hc=>?_⟩
  ·subst hD; exact inS_of hE1 (by have hg : (!decide ((s.length : Int)≤ST.den (.bin .add .i64 (.a I) (.l 1)))) = true:=hg; rw [hE1] at hg; simp only [Bool.not_eq_true',decide_eq_false_iff_not] at hg; omega)
  have hc2:=byteAt hD hE1 hc
  clear hc
  cbv
  refine ⟨_,rfl,rfl,by subst hD; exact hc2.le,fun r hr=>?_⟩
  have hr2 : r = kindI c:=by subst hD; exact hr
  clear hr
  cbv
  refine br hD (fun h=>?_) (fun h=>?_)<;>cbv
  ·have h : (decide ((s.length : Int)≤ST.den (.bin .add .i64 (.a I) (.l 1))) || r == 0) = true:=h
   rw [hE1,hr2] at h
   refine finInt hD ?_
   rw [hk2,qAt_none (qd_stop hc2 h)]
   rfl
  have h : (decide ((s.length : Int)≤ST.den (.bin .add .i64 (.a I) (.l 1))) || r == 0) = false:=h
  rw [hE1,hr2] at h
  obtain ⟨hlt,hp⟩:=qd_go hc2 h
  clear h
  refine ⟨by subst hD; exact inS_of hE1 hlt,fun c' hc'=>?_⟩
  have hcc : c' = c:=by have:=byteAt hD hE1 hc'; rw [this.h,hc2.h]
  subst hcc
  clear hc'
  cbv
  refine br hD (fun h=>?_) (fun h=>?_)<;>cbv
  ·have h34 : c' = 34:=by have h : (c' == 34) = true:=h; simpa using h
   refine finInt hD ?_
   rw [hk2,qAt_quote hlt hp (by rw [←hc2.charI]; exact h34)]
   exact V.two hlt
  have h34 : charI s (i + 1)≠34:=by rw [←hc2.charI]; have h : (c' == 34) = false:=h; simpa using h
  clear h
  refine br hD (fun h=>?_) (fun h=>?_)<;>cbv
  ·have h92 : charI s (i + 1) = 92:=by rw [←hc2.charI]; have h : (c' == 92) = true:=h; simpa using h
   clear h
   have hE2' : ST.den (.bin .add .i64 (.bin .add .i64 (.a I) (.l 1)) (.l 1)) = ((i + 2 : Nat) : Int):=V.two hlt
   refine ⟨fun hg=>?_,fun d hd=>?_⟩
   ·subst hD; exact inS_of hE2' (by have hg : (!decide ((s.length : Int)≤ST.den (.bin .add .i64 (.bin .add .i64 (.a I) (.l 1)) (.l 1)))) = true:=hg; rw [hE2'] at hg; simp only [Bool.not_eq_true',decide_eq_false_iff_not] at hg; omega)
   have hd2:=byteAt hD hE2' hd
   clear hd
   cbv
   refine ⟨_,rfl,rfl,by subst hD; exact hd2.le,fun q hq=>?_⟩
   have hq2 : q = kindI d:=by subst hD; exact hq
   clear hq
   cbv
   refine br hD (fun h=>?_) (fun h=>?_)<;>cbv
   ·have h : (decide ((s.length : Int)≤ST.den (.bin .add .i64 (.bin .add .i64 (.a I) (.l 1)) (.l 1))) || q == 0) = true:=h
    rw [hE2',hq2] at h
    refine finInt hD ?_
    rw [hk2,qAt_none (qdF_esc0 hlt hp h92 (qd_stop2 hd2 h))]
    rfl
   have h : (decide ((s.length : Int)≤ST.den (.bin .add .i64 (.bin .add .i64 (.a I) (.l 1)) (.l 1))) || q == 0) = false:=h
   rw [hE2',hq2] at h
   obtain ⟨hlt2,hp2⟩:=qd_go hd2 h
   refine ⟨s.length - (i + 2),by have:=V.m; omega,?_⟩
   rw [hJ]
   subst hD
   exact ⟨i + 2,_,rfl,rfl,⟨hE2',.inl hlt2,rfl,hl⟩,by rw [hk2,qAt_esc hlt hp h92 hlt2 hp2]⟩
  ·have h92 : charI s (i + 1)≠92:=by rw [←hc2.charI]; have h : (c' == 92) = false:=h; simpa using h
   refine ⟨s.length - (i + 1),by have:=V.m; omega,?_⟩
   rw [hJ]
   subst hD
   exact ⟨i + 1,_,rfl,rfl,⟨hE1,.inl hlt,rfl,hl⟩,by rw [hk2,qAt_more hlt hp h34 h92]⟩
end Go.Proofs.YtefelnhpfdcleaaGreatDoor
namespace Go.Proofs.YtefelnhpfdcleaaGreatDoor
open Go.Sx
set_option maxRecDepth 10000
set_option maxHeartbeats 2000000
structure RqI (s t : List UInt8) (i : Nat) (I : Int) (m : Nat) : Prop where
 at_ : At s i I m
 t : t.length≤i
theorem At.one {s : List UInt8} {i : Nat} {I : Int} {m : Nat} (V : At s i I m) (h : i < s.length) : ST.den (.bin .add .i64 (.a I) (.l 1)) = ((i + 1 : Nat) : Int):=by
 have h1:=V.I; have h2:=V.len
 show IntKind.i64.wrap (I + 1) = _
 rw [wrap64 (by omega) (by omega)]; omega
theorem At.two {s : List UInt8} {i : Nat} {I : Int} {m : Nat} (V : At s i I m) (h : i + 1 < s.length) : ST.den (.bin .add .i64 (.bin .add .i64 (.a I) (.l 1)) (.l 1)) = ((i + 2 : Nat) : Int):=by
 have h0:=V.one (by omega); have h2:=V.len
 show IntKind.i64.wrap (ST.den (.bin .add .i64 (.a I) (.l 1)) + 1) = _
 rw [h0,wrap64 (by omega) (by omega)]; omega
theorem At.den {s : List UInt8} {i : Nat} {I : Int} {m : Nat} (V : At s i I m) : ST.den (.a I) = (i : Int):=V.I
theorem subS_of {s : List UInt8} {i j : Nat} {a b : ST} (ha : a.den = (i : Int)) (hb : b.den = (j : Int)) (h : i≤j) (h2 : j≤s.length) : SubS (dn.i a) (dn.i b) s:=⟨by show 0≤a.den; omega,by show a.den≤b.den; omega,by show b.den≤_; omega⟩
end Go.Proofs.YtefelnhpfdcleaaGreatDoor
namespace Go.Proofs.YtefelnhpfdcleaaGreatDoor
open Go.Sx
set_option maxRecDepth 10000
set_option maxHeartbeats 2000000
structure QuI (s t : List UInt8) (i : Nat) (I : Int) (m : Nat) : Prop where
 at_ : At s i I m
 t : t.length≤2 * i + 1
 s : s.length≤500
end Go.Proofs.YtefelnhpfdcleaaGreatDoor
namespace Go.Proofs.YtefelnhpfdcleaaGreatDoor
open Go.Sx
set_option maxRecDepth 10000
set_option maxHeartbeats 2000000
def blankI (c : Int) : Bool:=c == 9 || c == 32
def blankB (c : UInt8) : Bool:=blankI (c.toNat : Int)
def trimL (s : List UInt8) : List UInt8:=s.dropWhile blankB
def trimR (s : List UInt8) : List UInt8:=(s.reverse.dropWhile blankB).reverse
def trimF (s : List UInt8) : List UInt8:=trimR (trimL s)
theorem trimL_cons {c : UInt8} {r : List UInt8} (h : blankB c = true) : trimL (c :: r) = trimL r:=by
 rw [trimL,List.dropWhile_cons_of_pos h]; rfl
theorem sub_of {D : Dn} (hD : D = dn) {r s : List UInt8} {i j : Nat} {a b : ST} (ha : a.den = (i : Int)) (hb : b.den = (j : Int)) (hr : SubOf r s (D.i a) (D.i b)) : r = (s.drop i).take (j - i):=by
 subst hD
 have hr:=hr.h
 have e1 : dn.i a = (i : Int):=ha
 have e2 : dn.i b = (j : Int):=hb
 rw [hr,e1,e2,Int.toNat_natCast,Int.toNat_natCast]
structure TrI (s : List UInt8) (m : Nat) : Prop where
 m : m = s.length
 len : s.length≤9223372036854775807
def spStrS (F : List UInt8→List UInt8) : FSpec:=fun _ xs ls K=>∃ (s : List UInt8),xs = [.str s]∧ls = []∧s.length≤9223372036854775807∧∀ r,r = F s→K (.str r) []
theorem finStr {r k : List UInt8} (h : r = k) : Fin (.str r) (.str k) [] []:=by subst h; exact finV (LeV.refl _)
end Go.Proofs.YtefelnhpfdcleaaGreatDoor
namespace Go.Proofs.YtefelnhpfdcleaaGreatDoor
open Go.Sx
set_option maxRecDepth 10000
set_option maxHeartbeats 2000000
def partsM (p : Int→Bool) (y : Int) : List UInt8→Nat→List UInt8→Option (List (List UInt8))
 | [],md,cur=>if md = 0 then some [cur] else none
 | c :: r,md,cur =>
  if !p (c.toNat : Int) then none
  else if md = 0 then
   (if (c.toNat : Int) = 34 then partsM p y r 1 (cur ++ [c])
    else if (c.toNat : Int) = y then (partsM p y r 0 []).map (cur :: ·)
    else partsM p y r 0 (cur ++ [c]))
  else if md = 1 then
   (if (c.toNat : Int) = 34 then partsM p y r 0 (cur ++ [c])
    else if (c.toNat : Int) = 92 then partsM p y r 2 (cur ++ [c])
    else partsM p y r 1 (cur ++ [c]))
  else partsM p y r 1 (cur ++ [c])
theorem partsM_q (p : Int→Bool) (y : Int) : ∀ (n : Nat) (r cur : List UInt8),r.length≤n→partsM p y r 1 cur = match qdF p r with
  | none=>none
  | some x=>partsM p y (r.drop x.1) 0 (cur ++ r.take x.1)
 | n,[],cur,_=>by simp [partsM,qdF]
 | 0,c :: r,cur,h=>by simp at h
 | n + 1,c :: r,cur,h=>by
  simp only [List.length_cons] at h
  rw [qdF_cons]
  simp only [partsM]
  by_cases h1 : p (c.toNat : Int) = true
  ·rw [h1]
   simp only [Bool.not_true,Bool.false_eq_true,if_false,if_true,Nat.one_ne_zero]
   by_cases h2 : (c.toNat : Int) = 34
   ·simp only [if_pos h2,List.drop_succ_cons,List.drop_zero,List.take_succ_cons,List.take_zero]
   ·simp only [if_neg h2]
    by_cases h3 : (c.toNat : Int) = 92
    ·simp only [if_pos h3]
     cases r with
     | nil=>simp [partsM]
     | cons d r' =>
      simp only [partsM]
      by_cases h4 : p (d.toNat : Int) = true
      ·rw [h4]
       simp only [Bool.not_true,Bool.false_eq_true,if_false,(by decide : ¬ (2 : Nat) = 0),(by decide : ¬ (2 : Nat) = 1)]
       rw [partsM_q p y n r' _ (by simp at h; omega)]
       cases qdF p r' with
       | none=>rfl
       | some x=>simp
      ·have h4 : p (d.toNat : Int) = false:=by simpa using h4
       rw [h4]; simp
    ·simp only [if_neg h3]
     rw [partsM_q p y n r _ (by omega)]
     cases qdF p r with
     | none=>rfl
     | some x=>simp
  ·have h1 : p (c.toNat : Int) = false:=by simpa using h1
   rw [h1]; simp
def cut (s : List UInt8) (a b : Nat) : List UInt8:=(s.drop a).take (b - a)
theorem cut_snoc {s : List UInt8} {a i : Nat} (h : i < s.length) (ha : a≤i) : cut s a i ++ [s.getD i 0] = cut s a (i + 1):=by
 unfold cut
 rw [show i + 1 - a = (i - a) + 1 by omega,List.take_add_one]
 congr 1
 rw [List.getElem?_drop,show a + (i - a) = i by omega,List.getElem?_eq_getElem h,getD_lt h]; rfl
theorem cut_app {s : List UInt8} {a i n : Nat} (ha : a≤i) : cut s a i ++ (s.drop i).take n = cut s a (i + n):=by
 unfold cut
 rw [show i + n - a = (i - a) + n by omega,List.take_add,List.drop_drop,show a + (i - a) = i by omega]
theorem cut_self {s : List UInt8} {a : Nat} : cut s a a = []:=by simp [cut]
theorem cut_all {s : List UInt8} {a : Nat} : cut s a s.length = s.drop a:=by
 unfold cut; exact List.take_of_length_le (by simp)
def pAt (y : Int) (s : List UInt8) (out : List (List UInt8)) (a i : Nat) : Option (List (List UInt8)):=(partsM plainI y (s.drop i) 0 (cut s a i)).map (out ++ ·)
theorem pAt_bad {y : Int} {s : List UInt8} {out : List (List UInt8)} {a i : Nat} (h : i < s.length) (hb : plainI (charI s i) = false) : pAt y s out a i = none:=by
 unfold charI at hb
 rw [pAt,drop_at h,partsM,hb]; rfl
theorem pAt_sep {y : Int} {s : List UInt8} {out : List (List UInt8)} {a i : Nat} (h : i < s.length) (hb : plainI (charI s i) = true) (h34 : charI s i≠34) (hy : charI s i = y) : pAt y s out a i = pAt y s (out ++ [cut s a i]) (i + 1) (i + 1):=by
 unfold charI at hb h34 hy
 rw [pAt,pAt,drop_at h,partsM,hb,cut_self]
 simp only [Bool.not_true,Bool.false_eq_true,if_false,if_true,if_neg h34,if_pos hy]
 cases partsM plainI y (s.drop (i + 1)) 0 []<;>simp
theorem pAt_more {y : Int} {s : List UInt8} {out : List (List UInt8)} {a i : Nat} (h : i < s.length) (ha : a≤i) (hb : plainI (charI s i) = true) (h34 : charI s i≠34) (hy : charI s i≠y) : pAt y s out a i = pAt y s out a (i + 1):=by
 have e:=cut_snoc h ha
 unfold charI at hb h34 hy
 rw [pAt,pAt,drop_at h,partsM,hb]
 simp only [Bool.not_true,Bool.false_eq_true,if_false,if_true,if_neg h34,if_neg hy]
 rw [e]
theorem pAt_quote {y : Int} {s : List UInt8} {out : List (List UInt8)} {a i : Nat} (h : i < s.length) (ha : a≤i) (hb : plainI (charI s i) = true) (h34 : charI s i = 34) : pAt y s out a i = match qdF plainI (s.drop (i + 1)) with
  | none=>none
  | some x=>pAt y s out a (i + 1 + x.1):=by
 have e:=cut_snoc h ha
 unfold charI at hb h34
 rw [pAt,drop_at h,partsM,hb]
 simp only [Bool.not_true,Bool.false_eq_true,if_false,if_true,if_pos h34]
 rw [e,partsM_q plainI y _ _ _ (Nat.le_refl _)]
 cases qdF plainI (s.drop (i + 1)) with
 | none=>rfl
 | some x =>
  simp only [pAt]
  rw [List.drop_drop,cut_app (by omega)]
theorem pAt_end {y : Int} {s : List UInt8} {out : List (List UInt8)} {a i : Nat} (h : i = s.length) : pAt y s out a i = some (out ++ [s.drop a]):=by
 rw [pAt,h,List.drop_length,cut_all]; rfl
theorem qdF_len {p : Int→Bool} : ∀ (n : Nat) (r : List UInt8) (x : Nat×List UInt8),r.length≤n→qdF p r = some x→0 < x.1∧x.1≤r.length
 | n,[],x,_,h=>by simp [qdF] at h
 | 0,c :: r,x,hl,h=>by simp at hl
 | n + 1,c :: r,x,hl,h=>by
  simp only [List.length_cons] at hl ⊢
  rw [qdF_cons] at h
  split at h
  ·cases h
  split at h
  ·cases h; exact ⟨by omega,by simp⟩
  split at h
  ·cases r with
   | nil=>cases h
   | cons d r' =>
    simp only at h
    split at h
    ·cases h
    ·obtain ⟨z,hz,rfl⟩:=Option.map_eq_some_iff.1 h
     have:=qdF_len n r' z (by simp at hl; omega) hz
     simp only [List.length_cons]
     omega
  ·obtain ⟨z,hz,rfl⟩:=Option.map_eq_some_iff.1 h
   have:=qdF_len n r z (by omega) hz
   omega
theorem RowS.more {f f' g : Nat→List SV} {n n' : Int} {a : List (List UInt8)} {x : List UInt8} (R : RowS f n a) (hg : g 0 = [.str x]) (h : MoreRow f' n' n 1 f g) (hl : a.length < 9223372036854775807) : RowS f' n' (a ++ [x]):=by
 have h1:=R.n
 refine ⟨by rw [h.len,h1]; simp,fun i hi=>?_,by simp; omega⟩
 simp only [List.length_append,List.length_singleton] at hi
 by_cases e : i < a.length
 ·rw [h.lo i (by omega),R.f i e,List.getD_eq_getElem?_getD,List.getD_eq_getElem?_getD,List.getElem?_append_left e]
 ·have : i = a.length:=by omega
  subst this
  rw [h.hi a.length 0 (by rw [h1]; simp) (by simp),hg]
  simp
theorem RowS.nil : RowS (fun _=>[]) 0 []:=⟨rfl,by simp,by simp⟩
def strRow (l : List (List UInt8)) (i : Nat) : List SV:=[.str (l.getD i [])]
theorem RowS.row {l : List (List UInt8)} (h : l.length≤9223372036854775807) : RowS (strRow l) l.length l:=⟨rfl,fun _ _=>rfl,h⟩
structure PaI (s : List UInt8) (out : List (List UInt8)) (a i : Nat) (A I : Int) (m : Nat) : Prop where
 at_ : At s i I m
 ale : a≤i
 A : ST.den (.a A) = (a : Int)
 out : out.length≤i
 s : s.length≤100000
def partsF (y : Int) (s : List UInt8) : Option (List (List UInt8)):=partsM plainI y s 0 []
end Go.Proofs.YtefelnhpfdcleaaGreatDoor
namespace Go.Proofs.YtefelnhpfdcleaaGreatDoor
open Go.Sx
set_option maxRecDepth 10000
set_option maxHeartbeats 2000000
theorem partsM_len (p : Int→Bool) (y : Int) : ∀ (r : List UInt8) (md : Nat) (cur : List UInt8) (l : List (List UInt8)),partsM p y r md cur = some l→l.length≤r.length + 1∧0 < l.length∧∀ x∈l,x.length≤cur.length + r.length
 | [],md,cur,l,h=>by
  simp only [partsM] at h
  split at h
  ·cases h; simp
  ·cases h
 | c :: r,md,cur,l,h=>by
  have push : ∀ md',partsM p y r md' (cur ++ [c]) = some l→l.length≤(c :: r).length + 1∧0 < l.length∧∀ x∈l,x.length≤cur.length + (c :: r).length:=by
   intro md' h
   obtain ⟨h1,h2,h3⟩:=partsM_len p y r md' _ l h
   refine ⟨by simp; omega,h2,fun x hx=>?_⟩
   have:=h3 x hx
   simp at this ⊢; omega
  simp only [partsM] at h
  split at h
  ·cases h
  split at h
  ·split at h
   ·exact push _ h
   ·split at h
    ·obtain ⟨l',h',rfl⟩:=Option.map_eq_some_iff.1 h
     obtain ⟨h1,h2,h3⟩:=partsM_len p y r 0 [] l' h'
     refine ⟨by simp; omega,by simp,fun x hx=>?_⟩
     rcases List.mem_cons.1 hx with rfl | hx
     ·simp
     ·have:=h3 x hx; simp at this ⊢; omega
    ·exact push _ h
  ·split at h
   ·split at h
    ·exact push _ h
    ·split at h
     ·exact push _ h
     ·exact push _ h
   ·exact push _ h
theorem partsF_len {y : Int} {s : List UInt8} {l : List (List UInt8)} (h : partsF y s = some l) : l.length≤s.length + 1∧0 < l.length∧∀ x∈l,x.length≤s.length:=by
 have:=partsM_len _ _ _ _ _ _ h
 simpa using this
theorem dropWhile_len {p : UInt8→Bool} (s : List UInt8) : (s.dropWhile p).length≤s.length:=by
 induction s with
 | nil=>simp
 | cons c r ih =>
  rw [List.dropWhile_cons]
  split
  ·simp; omega
  ·simp
theorem trimF_len (s : List UInt8) : (trimF s).length≤s.length:=by
 unfold trimF trimR trimL
 rw [List.length_reverse]
 refine Nat.le_trans (dropWhile_len _) ?_
 rw [List.length_reverse]
 exact dropWhile_len _
def neB (x : List UInt8) : Bool:=!(x == [])
def keepF (l : List (List UInt8)) : List (List UInt8):=(l.map trimF).filter neB
def refElementsF (s : List UInt8) : List (List UInt8)×Int :=
 if 2000 < (s.length : Int) then ([],3) else match partsF 44 s with
  | none=>([],6)
  | some l=>(keepF l,0)
theorem refElementsF_len (s : List UInt8) : (refElementsF s).1.length≤2001∧∀ x∈(refElementsF s).1,x.length≤2000:=by
 unfold refElementsF
 split
 ·simp
 ·rename_i h
  cases hp : partsF 44 s with
  | none=>simp
  | some l =>
   obtain ⟨h1,h2,h3⟩:=partsF_len hp
   have h4 : (keepF l).length≤l.length:=by
    unfold keepF
    refine Nat.le_trans (List.length_filter_le _ _) (by simp)
   refine ⟨by show (keepF l).length≤_; omega,fun x hx=>?_⟩
   have hx : x∈keepF l:=hx
   unfold keepF at hx
   obtain ⟨z,hz,rfl⟩:=List.mem_map.1 (List.mem_filter.1 hx).1
   have:=trimF_len z
   have:=h3 z hz
   omega
def spElems (F : List UInt8→List (List UInt8)×Int) (N : List UInt8→Bool) : FSpec:=fun _ xs ls K=>∃ (s : List UInt8),xs = [.str s]∧ls = []∧s.length≤9223372036854775807∧∀ l e n nb,(l,e) = F s→n = (l.length : Int)→nb = N s→K (.tup [.sl (.a nb) (.a n) 1 (strRow l),.int .i64 (.a e)]) []
theorem finEl {D : Dn} (hD : D = dn) {l l' : List (List UInt8)} {ke kn e' : Int} {knb : Bool} {kr f : Nat→List SV} (hk : (l,ke) = (l',e')) (hkn : kn = (l.length : Int)) (hkr : kr = strRow l)
  {n : Int} (R : RowS f n l') {x : BT} {y z : ST} (hy : y.den = n) (hx : x.den = knb) (hz : z.den = e') : Fin (.tup [.sl (.a (D.b x)) (.a (D.i y)) 1 f,.int .i64 (.a (D.i z))]) (.tup [.sl (.a knb) (.a kn) 1 kr,.int .i64 (.a ke)]) [] []:=by
 subst hD
 simp only [Prod.mk.injEq] at hk
 obtain ⟨rfl,rfl⟩:=hk
 refine finV (.tup (.cons (.sl hx ?_ ?_) (.cons (leInt hz) .nil)))
 ·rw [hkn]; show y.den = _; rw [hy]; exact R.n
 ·intro i hi
  have hi : (i : Int) < y.den:=hi
  rw [R.f i (by have:=R.n; omega),hkr]; rfl
structure ElI (l out : List (List UInt8)) (i : Nat) (I : Int) (nl : Bool) (m : Nat) : Prop where
 at_ : AtR l i I m
 ol : out.length≤i
 nl : nl = out.isEmpty
 ll : l.length≤100001
 el : ∀ x∈l,x.length≤9223372036854775807
end Go.Proofs.YtefelnhpfdcleaaGreatDoor
namespace Go.Proofs.YtefelnhpfdcleaaGreatDoor
open Go.Sx
set_option maxRecDepth 100000
set_option maxHeartbeats 2000000
theorem kinds_eq : ∀ n : Fin 256,someI (n.1 : Int) = plainI (n.1 : Int)∧(kindI (n.1 : Int) == 3) = letterI (n.1 : Int):=by decide
theorem someI_byte (c : UInt8) : someI (c.toNat : Int) = plainI (c.toNat : Int):=(kinds_eq ⟨c.toNat,c.toNat_lt⟩).1
theorem qdF_congr {p q : Int→Bool} (h : ∀ c : UInt8,p (c.toNat : Int) = q (c.toNat : Int)) : ∀ (n : Nat) (r : List UInt8),r.length≤n→qdF p r = qdF q r
 | _,[],_=>rfl
 | 0,c :: r,hl=>by simp at hl
 | n + 1,c :: r,hl=>by
  simp only [List.length_cons] at hl
  rw [qdF_cons,qdF_cons,h c,qdF_congr h n r (by omega)]
  cases r with
  | nil=>rfl
  | cons d r' =>
   simp only
   rw [h d,qdF_congr h n r' (by simp at hl; omega)]
theorem qdF_some (r : List UInt8) : qdF someI r = qdF plainI r:=qdF_congr someI_byte _ r (Nat.le_refl _)
end Go.Proofs.YtefelnhpfdcleaaGreatDoor
namespace Go.Proofs.YtefelnhpfdcleaaGreatDoor
open Go.Sx
set_option maxRecDepth 100000
set_option maxHeartbeats 2000000
structure UqL (s : List UInt8) (i : Nat) (u : List UInt8) : Prop where
 h : qdF plainI (s.drop i) = some (s.length - i,u)
theorem UqL.lt {s u : List UInt8} {i : Nat} (h : UqL s i u) : i < s.length:=by
 have:=qdF_len _ _ _ (Nat.le_refl _) h.h
 rw [List.length_drop] at this
 simp only at this
 omega
theorem UqL.plain {s u : List UInt8} {i : Nat} (h : UqL s i u) : plainI (charI s i) = true:=by
 cases hb : plainI (charI s i) with
 | true=>rfl
 | false=>have:=h.h; rw [qdF_bad h.lt hb] at this; cases this
theorem UqL.esc {s u : List UInt8} {i : Nat} (h : UqL s i u) (h92 : charI s i = 92) : i + 2 < s.length∧∃ u',u = s.getD (i + 1) 0 :: u'∧UqL s (i + 2) u':=by
 have h1:=h.h
 by_cases h2 : i + 1 < s.length∧plainI (charI s (i + 1)) = true
 ·rw [qdF_esc h.lt h.plain h92 h2.1 h2.2] at h1
  obtain ⟨x,hx,hx2⟩:=Option.map_eq_some_iff.1 h1
  simp only [Prod.mk.injEq] at hx2
  have hl:=qdF_len _ _ _ (Nat.le_refl _) hx
  rw [List.length_drop] at hl
  have e : x = (s.length - (i + 2),x.2):=Prod.ext (by simp only; omega) rfl
  exact ⟨by omega,x.2,hx2.2.symm,⟨by rw [hx,←e]⟩⟩
 ·rw [qdF_esc0 h.lt h.plain h92 h2] at h1; cases h1
theorem UqL.more {s u : List UInt8} {i : Nat} (h : UqL s i u) (hi : i + 1 < s.length) (h92 : charI s i≠92) : ∃ u',u = s.getD i 0 :: u'∧UqL s (i + 1) u':=by
 have h1:=h.h
 by_cases h34 : charI s i = 34
 ·rw [qdF_quote h.lt h.plain h34] at h1
  simp only [Option.some.injEq,Prod.mk.injEq] at h1
  omega
 ·rw [qdF_more h.lt h.plain h34 h92] at h1
  obtain ⟨x,hx,hx2⟩:=Option.map_eq_some_iff.1 h1
  simp only [Prod.mk.injEq] at hx2
  have e : x = (s.length - (i + 1),x.2):=Prod.ext (by simp only; omega) rfl
  exact ⟨x.2,hx2.2.symm,⟨by rw [hx,←e]⟩⟩
end Go.Proofs.YtefelnhpfdcleaaGreatDoor
namespace Go.Proofs.YtefelnhpfdcleaaGreatDoor
open Go.Sx
set_option maxRecDepth 10000
set_option maxHeartbeats 2000000
structure QwI (s t : List UInt8) (i : Nat) (I L : Int) (m : Nat) : Prop where
 at_ : At s i I m
 L : L = s.length
 t : t.length≤2 * i + 1
 s : s.length≤500
end Go.Proofs.YtefelnhpfdcleaaGreatDoor
namespace Go.Proofs.YtefelnhpfdcleaaGreatDoor
open Go.Sx
set_option maxRecDepth 10000
set_option maxHeartbeats 2000000
structure UwI (s t u : List UInt8) (i : Nat) (I : Int) (m : Nat) : Prop where
 at_ : At s i I m
 u : UqL s i u
 t : t.length≤i
 s : s.length≤100000
end Go.Proofs.YtefelnhpfdcleaaGreatDoor
namespace Go.Proofs.YtefelnhpfdcleaaGreatDoor
open Go.Sx
set_option maxRecDepth 10000
set_option maxHeartbeats 2000000
structure IxS (l : List (List UInt8)) (i : Nat) (I L : Int) (m : Nat) : Prop where
 at_ : AtR l i I m
 L : L = l.length
end Go.Proofs.YtefelnhpfdcleaaGreatDoor
namespace Go.Proofs.YtefelnhpfdcleaaGreatDoor
open Go Go.Shelf Go.RowKit Go.Sort
set_option maxRecDepth 100000
set_option maxHeartbeats 4000000
def sh_lays156_ren : Go.Shelf.Ren:=⟨fun | 156=>40 | 165=>79 | 166=>80 | 169=>81 | 240=>108 | 241=>109 | 276=>136 | 277=>137 | n=>n,fun | 31=>61 | 9=>9 | 3=>3 | 4=>4 | 0=>0 | 20=>20 | 72=>104 | 76=>108 | 70=>102 | 37=>36 | 75=>107 | 127=>124 | 164=>141 | 5=>5 | 80=>110 | n=>n,fun | n=>n⟩
theorem sh_lays156 : Go.Proofs.Lays.n156 Tryz.prog sh_lays156_ren:={
 mixed:=by kernel_rfl
 f156:=Tryz.func40.trans (congrArg some (by kernel_rfl))
 f165:=Tryz.func79.trans (congrArg some (by kernel_rfl))
 f166:=Tryz.func80.trans (congrArg some (by kernel_rfl))
 f169:=Tryz.func81.trans (congrArg some (by kernel_rfl))
 f240:=Tryz.func108.trans (congrArg some (by kernel_rfl))
 f241:=Tryz.func109.trans (congrArg some (by kernel_rfl))
 f276:=Tryz.func136.trans (congrArg some (by kernel_rfl))
 f277:=Tryz.func137.trans (congrArg some (by kernel_rfl))
 t0:=Tryz.underlying0
 a0:=Tryz.isAgg0
 z0:=Tryz.sizeOf0
 v0:=Tryz.zeroValue0
 t3:=Tryz.underlying3
 a3:=Tryz.isAgg3
 z3:=Tryz.sizeOf3
 v3:=Tryz.zeroValue3
 t4:=Tryz.underlying4
 a4:=Tryz.isAgg4
 z4:=Tryz.sizeOf4
 v4:=Tryz.zeroValue4
 t9:=Tryz.underlying9
 a9:=Tryz.isAgg9
 z9:=Tryz.sizeOf9
 v9:=Tryz.zeroValue9
 t20:=Tryz.underlying20
 a20:=Tryz.isAgg20
 z20:=Tryz.sizeOf20
 v20:=Tryz.zeroValue20
 t31:=Tryz.underlying61
 a31:=Tryz.isAgg61
 z31:=Tryz.sizeOf61
 v31:=Tryz.zeroValue61
 t37:=Tryz.underlying36
 a37:=Tryz.isAgg36
 z37:=Tryz.sizeOf36
 v37:=Tryz.zeroValue36
 t70:=Tryz.underlying102
 a70:=Tryz.isAgg102
 z70:=Tryz.sizeOf102
 v70:=Tryz.zeroValue102
 t72:=Tryz.underlying104
 a72:=Tryz.isAgg104
 z72:=Tryz.sizeOf104
 v72:=Tryz.zeroValue104
 t75:=Tryz.underlying107
 a75:=Tryz.isAgg107
 z75:=Tryz.sizeOf107
 v75:=Tryz.zeroValue107
 t76:=Tryz.underlying108
 a76:=Tryz.isAgg108
 z76:=Tryz.sizeOf108
 v76:=Tryz.zeroValue108
 t127:=Tryz.underlying124
 a127:=Tryz.isAgg124
 z127:=Tryz.sizeOf124
 v127:=Tryz.zeroValue124
 t164:=Tryz.underlying141
 a164:=Tryz.isAgg141
 z164:=Tryz.sizeOf141
 v164:=Tryz.zeroValue141 }
theorem sh_Builder_Extra_156 : Builder.Extra Tryz.prog sh_lays156_ren:={
 sizeBuilder:=by kernel_rfl
 liesBuilder:=by kernel_rfl
 t5:=Tryz.underlying5
 a5:=Tryz.isAgg5
 z5:=Tryz.sizeOf5
 v5:=Tryz.zeroValue5
 infoByte:=by kernel_rfl
 cellsByte:=by kernel_rfl
 sizeByte:=by kernel_rfl
 neB5:=by decide }
theorem sh_strings_Join_none (a : Option Addr) (c : Nat) (sep : ByteArray) (w : World) :
  Calls Tryz.prog 40 #[.slice a 0 c,.string sep] w fun e w'=>e = .returned (.string ⟨#[]⟩)∧w' = w:=Any.strings_Join_none sh_lays156 sh_Builder_Extra_156 a c sep w
theorem sh_strings_Join (bk o c : Nat) (xs : List ByteArray) (sep : ByteArray) (w : World) (hcells : ∀ (j : Nat) x,xs[j]? = some x→w.cell? ⟨bk,o + j,none⟩ = some (.string x)) (hbk : bk < w.heap.size) (hN : xs.length≤140737488355328) (hcap : xs.length≤c) (hlen : (Lib.join (xs.map (·.data.toList)) sep.data.toList).length≤140737488355328) :
  Calls Tryz.prog 40 #[.slice (some ⟨bk,o,none⟩) xs.length c,.string sep] w fun e w'=>e = .returned (.string ⟨(Lib.join (xs.map (·.data.toList)) sep.data.toList).toArray⟩)∧Below w.heap.size w w':=Any.strings_Join sh_lays156 sh_Builder_Extra_156 bk o c xs sep w hcells hbk hN hcap hlen
def sh_lays160_ren : Go.Shelf.Ren:=⟨fun | 160=>94 | 232=>119 | 231=>118 | 227=>120 | 234=>122 | 233=>121 | 236=>124 | 235=>123 | 228=>143 | 271=>146 | 151=>145 | 197=>144 | 120=>165 | 152=>164 | 260=>163 | 137=>105 | 119=>179 | 224=>134 | 225=>133 | 217=>132 | 266=>154 | n=>n,fun | 9=>9 | 4=>4 | 3=>3 | 5=>5 | 117=>131 | 116=>130 | 0=>0 | 124=>134 | 21=>21 | 105=>147 | 46=>101 | 119=>93 | 139=>182 | 138=>181 | n=>n,fun | 3=>2 | 4=>3 | n=>n⟩
theorem sh_lays160 : Go.Proofs.Lays.n160 Tryz.prog sh_lays160_ren:={
 mixed:=by kernel_rfl
 f119:=Tryz.func179.trans (congrArg some (by kernel_rfl))
 f120:=Tryz.func165.trans (congrArg some (by kernel_rfl))
 f137:=Tryz.func105.trans (congrArg some (by kernel_rfl))
 f151:=Tryz.func145.trans (congrArg some (by kernel_rfl))
 f152:=Tryz.func164.trans (congrArg some (by kernel_rfl))
 f160:=Tryz.func94.trans (congrArg some (by kernel_rfl))
 f197:=Tryz.func144.trans (congrArg some (by kernel_rfl))
 f217:=Tryz.func132.trans (congrArg some (by kernel_rfl))
 f224:=Tryz.func134.trans (congrArg some (by kernel_rfl))
 f225:=Tryz.func133.trans (congrArg some (by kernel_rfl))
 f227:=Tryz.func120.trans (congrArg some (by kernel_rfl))
 f228:=Tryz.func143.trans (congrArg some (by kernel_rfl))
 f231:=Tryz.func118.trans (congrArg some (by kernel_rfl))
 f232:=Tryz.func119.trans (congrArg some (by kernel_rfl))
 f233:=Tryz.func121.trans (congrArg some (by kernel_rfl))
 f234:=Tryz.func122.trans (congrArg some (by kernel_rfl))
 f235:=Tryz.func123.trans (congrArg some (by kernel_rfl))
 f236:=Tryz.func124.trans (congrArg some (by kernel_rfl))
 f260:=Tryz.func163.trans (congrArg some (by kernel_rfl))
 f266:=Tryz.func154.trans (congrArg some (by kernel_rfl))
 f271:=Tryz.func146.trans (congrArg some (by kernel_rfl))
 t0:=Tryz.underlying0
 a0:=Tryz.isAgg0
 z0:=Tryz.sizeOf0
 v0:=Tryz.zeroValue0
 t3:=Tryz.underlying3
 a3:=Tryz.isAgg3
 z3:=Tryz.sizeOf3
 v3:=Tryz.zeroValue3
 t4:=Tryz.underlying4
 a4:=Tryz.isAgg4
 z4:=Tryz.sizeOf4
 v4:=Tryz.zeroValue4
 t5:=Tryz.underlying5
 a5:=Tryz.isAgg5
 z5:=Tryz.sizeOf5
 v5:=Tryz.zeroValue5
 t9:=Tryz.underlying9
 a9:=Tryz.isAgg9
 z9:=Tryz.sizeOf9
 v9:=Tryz.zeroValue9
 t21:=Tryz.underlying21
 a21:=Tryz.isAgg21
 z21:=Tryz.sizeOf21
 v21:=Tryz.zeroValue21
 t46:=Tryz.underlying101
 a46:=Tryz.isAgg101
 z46:=Tryz.sizeOf101
 v46:=Tryz.zeroValue101
 t105:=Tryz.underlying147
 a105:=Tryz.isAgg147
 z105:=Tryz.sizeOf147
 v105:=Tryz.zeroValue147
 t116:=Tryz.underlying130
 a116:=Tryz.isAgg130
 z116:=Tryz.sizeOf130
 t117:=Tryz.underlying131
 a117:=Tryz.isAgg131
 z117:=Tryz.sizeOf131
 v117:=Tryz.zeroValue131
 t119:=Tryz.underlying93
 a119:=Tryz.isAgg93
 z119:=Tryz.sizeOf93
 t124:=Tryz.underlying134
 a124:=Tryz.isAgg134
 z124:=Tryz.sizeOf134
 v124:=Tryz.zeroValue134
 t138:=Tryz.underlying181
 a138:=Tryz.isAgg181
 z138:=Tryz.sizeOf181
 v138:=Tryz.zeroValue181
 t139:=Tryz.underlying182
 a139:=Tryz.isAgg182
 z139:=Tryz.sizeOf182
 v139:=Tryz.zeroValue182
 g3:=by kernel_rfl
 g4:=by kernel_rfl }
def sh_lays137_ren : Go.Shelf.Ren:=⟨fun | 137=>105 | 217=>132 | 266=>154 | n=>n,fun | 9=>9 | 5=>5 | 3=>3 | n=>n,fun | n=>n⟩
theorem sh_lays137 : Go.Proofs.Lays.n137 Tryz.prog sh_lays137_ren:={
 mixed:=by kernel_rfl
 f137:=Tryz.func105.trans (congrArg some (by kernel_rfl))
 f217:=Tryz.func132.trans (congrArg some (by kernel_rfl))
 f266:=Tryz.func154.trans (congrArg some (by kernel_rfl))
 t3:=Tryz.underlying3
 a3:=Tryz.isAgg3
 z3:=Tryz.sizeOf3
 v3:=Tryz.zeroValue3
 t5:=Tryz.underlying5
 a5:=Tryz.isAgg5
 z5:=Tryz.sizeOf5
 v5:=Tryz.zeroValue5
 t9:=Tryz.underlying9
 a9:=Tryz.isAgg9
 z9:=Tryz.sizeOf9
 v9:=Tryz.zeroValue9 }
theorem sh_strings_IndexByte (s : ByteArray) (c : Int) (w : World) :
  Calls Tryz.prog 105 #[.string s,.int .u8 c] w fun e w'=>e = .returned (.int .i64 (Lib.indexByte s.data.toList c.toNat.toUInt8))∧w' = w:=Any.strings_IndexByte sh_lays137 s c w
def sh_lays104_ren : Go.Shelf.Ren:=⟨fun | 104=>90 | 211=>113 | 207=>141 | n=>n,fun | 9=>9 | 4=>4 | 24=>114 | 3=>3 | n=>n,fun | n=>n⟩
theorem sh_lays104 : Go.Proofs.Lays.n104 Tryz.prog sh_lays104_ren:={
 mixed:=by kernel_rfl
 f104:=Tryz.func90.trans (congrArg some (by kernel_rfl))
 f207:=Tryz.func141.trans (congrArg some (by kernel_rfl))
 f211:=Tryz.func113.trans (congrArg some (by kernel_rfl))
 t3:=Tryz.underlying3
 a3:=Tryz.isAgg3
 z3:=Tryz.sizeOf3
 v3:=Tryz.zeroValue3
 t4:=Tryz.underlying4
 a4:=Tryz.isAgg4
 z4:=Tryz.sizeOf4
 v4:=Tryz.zeroValue4
 t9:=Tryz.underlying9
 a9:=Tryz.isAgg9
 z9:=Tryz.sizeOf9
 v9:=Tryz.zeroValue9
 t24:=Tryz.underlying114
 a24:=Tryz.isAgg114
 z24:=Tryz.sizeOf114
 v24:=Tryz.zeroValue114 }
theorem sh_strings_CutSuffix (s p : ByteArray) (w : World) (hs : s.size≤9223372036854775807) :
  Calls Tryz.prog 90 #[.string s,.string p] w fun e w'=>e = .returned (.tuple #[.string ⟨(Lib.trimSuffix s.data.toList p.data.toList).toArray⟩,.bool (Lib.hasSuffix s.data.toList p.data.toList)])∧w' = w:=Any.strings_CutSuffix sh_lays104 s p w hs
def sh_laysM171_ren : Go.Shelf.Ren:=⟨fun | 171=>140 | 243=>161 | 246=>160 | 283=>175 | 284=>176 | 285=>177 | 286=>178 | 129=>189 | 317=>188 | 318=>190 | 319=>191 | 320=>192 | 337=>196 | 338=>197 | n=>n,fun | 3=>3 | 9=>9 | 2=>2 | 4=>4 | 171=>175 | 0=>0 | 53=>165 | 37=>36 | 5=>5 | 173=>178 | 212=>190 | 51=>153 | 20=>20 | 213=>191 | 46=>101 | 232=>200 | 233=>201 | n=>n,fun | 17=>6 | 18=>7 | 19=>8 | n=>n⟩
theorem sh_laysM171 : Go.Proofs.LaysM.n171 Tryz.prog sh_laysM171_ren:={
 mixed:=by kernel_rfl
 f129:=Tryz.func189.trans (congrArg some (by kernel_rfl))
 f171:=Tryz.func140.trans (congrArg some (by kernel_rfl))
 f243:=Tryz.func161.trans (congrArg some (by kernel_rfl))
 f246:=Tryz.func160.trans (congrArg some (by kernel_rfl))
 f283:=Tryz.func175.trans (congrArg some (by kernel_rfl))
 f284:=Tryz.func176.trans (congrArg some (by kernel_rfl))
 f285:=Tryz.func177.trans (congrArg some (by kernel_rfl))
 f286:=Tryz.func178.trans (congrArg some (by kernel_rfl))
 f317:=Tryz.func188.trans (congrArg some (by kernel_rfl))
 f318:=Tryz.func190.trans (congrArg some (by kernel_rfl))
 f319:=Tryz.func191.trans (congrArg some (by kernel_rfl))
 f320:=Tryz.func192.trans (congrArg some (by kernel_rfl))
 f337:=Tryz.func196.trans (congrArg some (by kernel_rfl))
 f338:=Tryz.func197.trans (congrArg some (by kernel_rfl))
 t0:=Tryz.underlying0
 a0:=Tryz.isAgg0
 z0:=Tryz.sizeOf0
 v0:=Tryz.zeroValue0
 t2:=Tryz.underlying2
 a2:=Tryz.isAgg2
 z2:=Tryz.sizeOf2
 v2:=Tryz.zeroValue2
 t3:=Tryz.underlying3
 a3:=Tryz.isAgg3
 z3:=Tryz.sizeOf3
 v3:=Tryz.zeroValue3
 t4:=Tryz.underlying4
 a4:=Tryz.isAgg4
 z4:=Tryz.sizeOf4
 v4:=Tryz.zeroValue4
 t5:=Tryz.underlying5
 a5:=Tryz.isAgg5
 z5:=Tryz.sizeOf5
 v5:=Tryz.zeroValue5
 t9:=Tryz.underlying9
 a9:=Tryz.isAgg9
 z9:=Tryz.sizeOf9
 v9:=Tryz.zeroValue9
 t20:=Tryz.underlying20
 a20:=Tryz.isAgg20
 z20:=Tryz.sizeOf20
 v20:=Tryz.zeroValue20
 t37:=Tryz.underlying36
 a37:=Tryz.isAgg36
 z37:=Tryz.sizeOf36
 v37:=Tryz.zeroValue36
 t46:=Tryz.underlying101
 a46:=Tryz.isAgg101
 z46:=Tryz.sizeOf101
 v46:=Tryz.zeroValue101
 t51:=Tryz.underlying153
 a51:=Tryz.isAgg153
 z51:=Tryz.sizeOf153
 v51:=Tryz.zeroValue153
 t53:=Tryz.underlying165
 a53:=Tryz.isAgg165
 z53:=Tryz.sizeOf165
 v53:=Tryz.zeroValue165
 t171:=Tryz.underlying175
 a171:=Tryz.isAgg175
 z171:=Tryz.sizeOf175
 v171:=Tryz.zeroValue175
 t173:=Tryz.underlying178
 a173:=Tryz.isAgg178
 z173:=Tryz.sizeOf178
 v173:=Tryz.zeroValue178
 t212:=Tryz.underlying190
 a212:=Tryz.isAgg190
 z212:=Tryz.sizeOf190
 v212:=Tryz.zeroValue190
 t213:=Tryz.underlying191
 a213:=Tryz.isAgg191
 z213:=Tryz.sizeOf191
 t232:=Tryz.underlying200
 a232:=Tryz.isAgg200
 z232:=Tryz.sizeOf200
 v232:=Tryz.zeroValue200
 t233:=Tryz.underlying201
 a233:=Tryz.isAgg201
 z233:=Tryz.sizeOf201
 v233:=Tryz.zeroValue201
 g17:=by kernel_rfl
 g18:=by kernel_rfl
 g19:=by kernel_rfl
 i0:=by kernel_rfl
 i2:=by kernel_rfl
 i3:=by kernel_rfl
 i4:=by kernel_rfl
 i5:=by kernel_rfl
 i9:=by kernel_rfl
 i20:=by kernel_rfl
 i37:=by kernel_rfl
 i46:=by kernel_rfl
 i51:=by kernel_rfl
 i53:=by kernel_rfl
 i171:=by kernel_rfl
 i173:=by kernel_rfl
 i212:=by kernel_rfl
 i232:=by kernel_rfl
 i233:=by kernel_rfl
 m17:=by kernel_rfl
 m18:=by kernel_rfl
 m19:=by kernel_rfl }
theorem sh_strconv_Itoa (n : Int) (h0 : -9223372036854775808≤n) (h1 : n≤9223372036854775807) (w : World) (htab : Lib.TabIs Tryz.prog w "internal/strconv.uint64pow10" .u64 Lib.pow10Tab) :
  Calls Tryz.prog 140 #[.int .i64 n] w fun e w'=>e = .returned (.string ⟨(Lib.itoa n).toArray⟩)∧∃ k os,w' = grow (w.drewN k) os:=Any.strconv_Itoa sh_laysM171 n h0 h1 w htab
def sh_laysM173_ren : Go.Shelf.Ren:=⟨fun | 173=>139 | 246=>160 | 283=>175 | 284=>176 | 285=>177 | 286=>178 | 129=>189 | 317=>188 | 318=>190 | 319=>191 | 320=>192 | 337=>196 | 338=>197 | n=>n,fun | 2=>2 | 3=>3 | 9=>9 | 4=>4 | 171=>175 | 0=>0 | 53=>165 | 37=>36 | 5=>5 | 173=>178 | 212=>190 | 51=>153 | 20=>20 | 213=>191 | 46=>101 | 232=>200 | 233=>201 | n=>n,fun | 17=>6 | 18=>7 | 19=>8 | n=>n⟩
theorem sh_laysM173 : Go.Proofs.LaysM.n173 Tryz.prog sh_laysM173_ren:={
 mixed:=by kernel_rfl
 f129:=Tryz.func189.trans (congrArg some (by kernel_rfl))
 f173:=Tryz.func139.trans (congrArg some (by kernel_rfl))
 f246:=Tryz.func160.trans (congrArg some (by kernel_rfl))
 f283:=Tryz.func175.trans (congrArg some (by kernel_rfl))
 f284:=Tryz.func176.trans (congrArg some (by kernel_rfl))
 f285:=Tryz.func177.trans (congrArg some (by kernel_rfl))
 f286:=Tryz.func178.trans (congrArg some (by kernel_rfl))
 f317:=Tryz.func188.trans (congrArg some (by kernel_rfl))
 f318:=Tryz.func190.trans (congrArg some (by kernel_rfl))
 f319:=Tryz.func191.trans (congrArg some (by kernel_rfl))
 f320:=Tryz.func192.trans (congrArg some (by kernel_rfl))
 f337:=Tryz.func196.trans (congrArg some (by kernel_rfl))
 f338:=Tryz.func197.trans (congrArg some (by kernel_rfl))
 t0:=Tryz.underlying0
 a0:=Tryz.isAgg0
 z0:=Tryz.sizeOf0
 v0:=Tryz.zeroValue0
 t2:=Tryz.underlying2
 a2:=Tryz.isAgg2
 z2:=Tryz.sizeOf2
 v2:=Tryz.zeroValue2
 t3:=Tryz.underlying3
 a3:=Tryz.isAgg3
 z3:=Tryz.sizeOf3
 v3:=Tryz.zeroValue3
 t4:=Tryz.underlying4
 a4:=Tryz.isAgg4
 z4:=Tryz.sizeOf4
 v4:=Tryz.zeroValue4
 t5:=Tryz.underlying5
 a5:=Tryz.isAgg5
 z5:=Tryz.sizeOf5
 v5:=Tryz.zeroValue5
 t9:=Tryz.underlying9
 a9:=Tryz.isAgg9
 z9:=Tryz.sizeOf9
 v9:=Tryz.zeroValue9
 t20:=Tryz.underlying20
 a20:=Tryz.isAgg20
 z20:=Tryz.sizeOf20
 v20:=Tryz.zeroValue20
 t37:=Tryz.underlying36
 a37:=Tryz.isAgg36
 z37:=Tryz.sizeOf36
 v37:=Tryz.zeroValue36
 t46:=Tryz.underlying101
 a46:=Tryz.isAgg101
 z46:=Tryz.sizeOf101
 v46:=Tryz.zeroValue101
 t51:=Tryz.underlying153
 a51:=Tryz.isAgg153
 z51:=Tryz.sizeOf153
 v51:=Tryz.zeroValue153
 t53:=Tryz.underlying165
 a53:=Tryz.isAgg165
 z53:=Tryz.sizeOf165
 v53:=Tryz.zeroValue165
 t171:=Tryz.underlying175
 a171:=Tryz.isAgg175
 z171:=Tryz.sizeOf175
 v171:=Tryz.zeroValue175
 t173:=Tryz.underlying178
 a173:=Tryz.isAgg178
 z173:=Tryz.sizeOf178
 v173:=Tryz.zeroValue178
 t212:=Tryz.underlying190
 a212:=Tryz.isAgg190
 z212:=Tryz.sizeOf190
 v212:=Tryz.zeroValue190
 t213:=Tryz.underlying191
 a213:=Tryz.isAgg191
 z213:=Tryz.sizeOf191
 t232:=Tryz.underlying200
 a232:=Tryz.isAgg200
 z232:=Tryz.sizeOf200
 v232:=Tryz.zeroValue200
 t233:=Tryz.underlying201
 a233:=Tryz.isAgg201
 z233:=Tryz.sizeOf201
 v233:=Tryz.zeroValue201
 g17:=by kernel_rfl
 g18:=by kernel_rfl
 g19:=by kernel_rfl
 i0:=by kernel_rfl
 i2:=by kernel_rfl
 i3:=by kernel_rfl
 i4:=by kernel_rfl
 i5:=by kernel_rfl
 i9:=by kernel_rfl
 i20:=by kernel_rfl
 i37:=by kernel_rfl
 i46:=by kernel_rfl
 i51:=by kernel_rfl
 i53:=by kernel_rfl
 i171:=by kernel_rfl
 i173:=by kernel_rfl
 i212:=by kernel_rfl
 i232:=by kernel_rfl
 i233:=by kernel_rfl
 m17:=by kernel_rfl
 m18:=by kernel_rfl
 m19:=by kernel_rfl }
theorem sh_strconv_FormatInt_10 (n : Int) (h0 : -9223372036854775808≤n) (h1 : n≤9223372036854775807) (w : World) (htab : Lib.TabIs Tryz.prog w "internal/strconv.uint64pow10" .u64 Lib.pow10Tab) :
  Calls Tryz.prog 139 #[.int .i64 n,.int .i64 10] w fun e w'=>e = .returned (.string ⟨(Lib.itoa n).toArray⟩)∧∃ k os,w' = grow (w.drewN k) os:=Any.strconv_FormatInt_10 sh_laysM173 n h0 h1 w htab
def sh_lays219_ren : Go.Shelf.Ren:=⟨fun | 219=>107 | 217=>132 | 225=>133 | 224=>134 | 267=>135 | 266=>154 | 314=>155 | n=>n,fun | 9=>9 | 3=>3 | 4=>4 | 5=>5 | 46=>101 | 146=>154 | 51=>153 | n=>n,fun | 1=>1 | n=>n⟩
theorem sh_lays219 : Go.Proofs.Lays.n219 Tryz.prog sh_lays219_ren:={
 mixed:=by kernel_rfl
 f217:=Tryz.func132.trans (congrArg some (by kernel_rfl))
 f219:=Tryz.func107.trans (congrArg some (by kernel_rfl))
 f224:=Tryz.func134.trans (congrArg some (by kernel_rfl))
 f225:=Tryz.func133.trans (congrArg some (by kernel_rfl))
 f266:=Tryz.func154.trans (congrArg some (by kernel_rfl))
 f267:=Tryz.func135.trans (congrArg some (by kernel_rfl))
 f314:=Tryz.func155.trans (congrArg some (by kernel_rfl))
 t3:=Tryz.underlying3
 a3:=Tryz.isAgg3
 z3:=Tryz.sizeOf3
 v3:=Tryz.zeroValue3
 t4:=Tryz.underlying4
 a4:=Tryz.isAgg4
 z4:=Tryz.sizeOf4
 v4:=Tryz.zeroValue4
 t5:=Tryz.underlying5
 a5:=Tryz.isAgg5
 z5:=Tryz.sizeOf5
 v5:=Tryz.zeroValue5
 t9:=Tryz.underlying9
 a9:=Tryz.isAgg9
 z9:=Tryz.sizeOf9
 v9:=Tryz.zeroValue9
 t46:=Tryz.underlying101
 a46:=Tryz.isAgg101
 z46:=Tryz.sizeOf101
 v46:=Tryz.zeroValue101
 t51:=Tryz.underlying153
 a51:=Tryz.isAgg153
 z51:=Tryz.sizeOf153
 v51:=Tryz.zeroValue153
 t146:=Tryz.underlying154
 a146:=Tryz.isAgg154
 z146:=Tryz.sizeOf154
 v146:=Tryz.zeroValue154
 g1:=by kernel_rfl }
theorem sh_stringslite_Index_one (s : ByteArray) (c : UInt8) (w : World) :
  Calls Tryz.prog 107 #[.string s,.string ⟨#[c]⟩] w fun e w'=>e = .returned (.int .i64 (Lib.indexByte s.data.toList c))∧w' = w:=Any.stringslite_Index_one sh_lays219 s c w
def sh_lays144_ren : Go.Shelf.Ren:=⟨fun | 144=>91 | 143=>114 | 219=>107 | 217=>132 | 225=>133 | 224=>134 | 267=>135 | 266=>154 | 314=>155 | n=>n,fun | 9=>9 | 4=>4 | 3=>3 | 5=>5 | 46=>101 | 146=>154 | 51=>153 | n=>n,fun | 1=>1 | n=>n⟩
theorem sh_lays144 : Go.Proofs.Lays.n144 Tryz.prog sh_lays144_ren:={
 mixed:=by kernel_rfl
 f143:=Tryz.func114.trans (congrArg some (by kernel_rfl))
 f144:=Tryz.func91.trans (congrArg some (by kernel_rfl))
 f217:=Tryz.func132.trans (congrArg some (by kernel_rfl))
 f219:=Tryz.func107.trans (congrArg some (by kernel_rfl))
 f224:=Tryz.func134.trans (congrArg some (by kernel_rfl))
 f225:=Tryz.func133.trans (congrArg some (by kernel_rfl))
 f266:=Tryz.func154.trans (congrArg some (by kernel_rfl))
 f267:=Tryz.func135.trans (congrArg some (by kernel_rfl))
 f314:=Tryz.func155.trans (congrArg some (by kernel_rfl))
 t3:=Tryz.underlying3
 a3:=Tryz.isAgg3
 z3:=Tryz.sizeOf3
 v3:=Tryz.zeroValue3
 t4:=Tryz.underlying4
 a4:=Tryz.isAgg4
 z4:=Tryz.sizeOf4
 v4:=Tryz.zeroValue4
 t5:=Tryz.underlying5
 a5:=Tryz.isAgg5
 z5:=Tryz.sizeOf5
 v5:=Tryz.zeroValue5
 t9:=Tryz.underlying9
 a9:=Tryz.isAgg9
 z9:=Tryz.sizeOf9
 v9:=Tryz.zeroValue9
 t46:=Tryz.underlying101
 a46:=Tryz.isAgg101
 z46:=Tryz.sizeOf101
 v46:=Tryz.zeroValue101
 t51:=Tryz.underlying153
 a51:=Tryz.isAgg153
 z51:=Tryz.sizeOf153
 v51:=Tryz.zeroValue153
 t146:=Tryz.underlying154
 a146:=Tryz.isAgg154
 z146:=Tryz.sizeOf154
 v146:=Tryz.zeroValue154
 g1:=by kernel_rfl }
theorem sh_strings_Contains_one (s : ByteArray) (c : UInt8) (w : World) :
  Calls Tryz.prog 91 #[.string s,.string ⟨#[c]⟩] w fun e w'=>e = .returned (.bool (decide (0≤Lib.indexByte s.data.toList c)))∧w' = w:=Any.strings_Contains_one sh_lays144 s c w
def sh_lays99_ren : Go.Shelf.Ren:=⟨fun | 99=>71 | 206=>104 | n=>n,fun | 9=>9 | 4=>4 | 3=>3 | n=>n,fun | n=>n⟩
theorem sh_lays99 : Go.Proofs.Lays.n99 Tryz.prog sh_lays99_ren:={
 mixed:=by kernel_rfl
 f99:=Tryz.func71.trans (congrArg some (by kernel_rfl))
 f206:=Tryz.func104.trans (congrArg some (by kernel_rfl))
 t3:=Tryz.underlying3
 a3:=Tryz.isAgg3
 z3:=Tryz.sizeOf3
 v3:=Tryz.zeroValue3
 t4:=Tryz.underlying4
 a4:=Tryz.isAgg4
 z4:=Tryz.sizeOf4
 v4:=Tryz.zeroValue4
 t9:=Tryz.underlying9
 a9:=Tryz.isAgg9
 z9:=Tryz.sizeOf9
 v9:=Tryz.zeroValue9 }
theorem sh_strings_HasPrefix (s p : ByteArray) (w : World) :
  Calls Tryz.prog 71 #[.string s,.string p] w fun e w'=>e = .returned (.bool (Lib.hasPrefix s.data.toList p.data.toList))∧w' = w:=Any.strings_HasPrefix sh_lays99 s p w
def sh_laysSlH10_f186_ren : Go.Shelf.Ren:=⟨fun | 10=>186 | 6=>195 | n=>n,fun | 22=>61 | 23=>9 | 25=>28 | 3=>3 | 4=>4 | 0=>0 | n=>n,fun | n=>n⟩
theorem sh_laysSlH10_f186 : Go.Proofs.SlLaysH.n10 Tryz.prog sh_laysSlH10_f186_ren:={
 mixed:=by kernel_rfl
 f6:=⟨Tryz.f195.name,by decide,Tryz.func195.trans (congrArg some (by kernel_rfl))⟩
 f10:=⟨Tryz.f186.name,by decide,Tryz.func186.trans (congrArg some (by kernel_rfl))⟩
 t0:=Tryz.underlying0
 a0:=Tryz.isAgg0
 z0:=Tryz.sizeOf0
 v0:=Tryz.zeroValue0
 t3:=Tryz.underlying3
 a3:=Tryz.isAgg3
 z3:=Tryz.sizeOf3
 v3:=Tryz.zeroValue3
 t4:=Tryz.underlying4
 a4:=Tryz.isAgg4
 z4:=Tryz.sizeOf4
 v4:=Tryz.zeroValue4
 t22:=Tryz.underlying61
 a22:=Tryz.isAgg61
 z22:=Tryz.sizeOf61
 v22:=Tryz.zeroValue61
 a23:=Tryz.isAgg9
 z23:=Tryz.sizeOf9
 t25:=Tryz.underlying28
 a25:=Tryz.isAgg28
 z25:=Tryz.sizeOf28
 v25:=Tryz.zeroValue28 }
theorem sh_slices_DeleteFunc {α : Type} [Inhabited α] (enc : α→Value) (hO : OneCell enc) (p : α→Bool) (g : Nat) (lb : Array Value) (eg : ∀ args w,(callFunc g args).run Tryz.prog w = .ok (.enter g args) w) (zr : α) (v23 : ∀ w,(zeroValue 9).run Tryz.prog w = .ok (enc zr) w) (blk off cap : Nat) (d : Array α) (w : World) (hp : PredAt Tryz.prog g lb enc p w) (hpo : PredOver Tryz.prog g lb enc p blk off d.size w) (hH : Holds enc w blk off d) (hsz : d.size≤9223372036854775807) (hcap : d.size≤cap) :
  Calls Tryz.prog 186 #[.slice (some ⟨blk,off,none⟩) d.size cap,.func (.func g) #[] lb] w fun e w'=>e = .returned (.slice (some ⟨blk,off,none⟩) (d.toList.filter fun x=>!p x).length cap)∧∃ q,w' = putRow enc (Sort.ahead w q) blk off ((d.toList.filter fun x=>!p x) ++ List.replicate (d.size - (d.toList.filter fun x=>!p x).length) zr).toArray:=AnyE.slices_DeleteFunc sh_laysSlH10_f186 enc hO p g lb eg zr v23 blk off cap d w hp hpo hH hsz hcap
def sh_lays187_ren : Go.Shelf.Ren:=⟨fun | 187=>92 | 255=>115 | n=>n,fun | 37=>36 | 5=>5 | 3=>3 | n=>n,fun | n=>n⟩
theorem sh_lays187 : Go.Proofs.Lays.n187 Tryz.prog sh_lays187_ren:={
 mixed:=by kernel_rfl
 f187:=Tryz.func92.trans (congrArg some (by kernel_rfl))
 f255:=Tryz.func115.trans (congrArg some (by kernel_rfl))
 t3:=Tryz.underlying3
 a3:=Tryz.isAgg3
 z3:=Tryz.sizeOf3
 v3:=Tryz.zeroValue3
 t5:=Tryz.underlying5
 a5:=Tryz.isAgg5
 z5:=Tryz.sizeOf5
 v5:=Tryz.zeroValue5
 t37:=Tryz.underlying36
 a37:=Tryz.isAgg36
 z37:=Tryz.sizeOf36
 v37:=Tryz.zeroValue36 }
theorem sh_bytes_IndexByte_nil (cv : Int) (w : World) :
  Calls Tryz.prog 92 #[.slice none 0 0,.int .u8 cv] w fun e w'=>e = .returned (.int .i64 (-1))∧w' = w:=Any.bytes_IndexByte_nil sh_lays187 cv w
end Go.Proofs.YtefelnhpfdcleaaGreatDoor
namespace Go.Proofs.YtefelnhpfdcleaaGreatDoor
open Go Go.Sx
set_option maxRecDepth 10000
set_option maxHeartbeats 2000000
theorem trimR_cons (c : UInt8) (r : List UInt8) : trimR (c :: r) = if (trimR r).isEmpty then (if blankB c then [] else [c]) else c :: trimR r:=by
 unfold trimR
 rw [List.reverse_cons,List.dropWhile_append,List.isEmpty_reverse]
 split
 ·by_cases h : blankB c = true
  ·rw [if_pos h,List.dropWhile_cons_of_pos h]; rfl
  ·rw [if_neg h,List.dropWhile_cons_of_neg h]; rfl
 ·rw [List.reverse_append]; rfl
theorem trim_comm (s : List UInt8) : trimR (trimL s) = trimL (trimR s):=by
 induction s with
 | nil=>rfl
 | cons c r ih =>
  by_cases h : blankB c = true
  ·rw [trimL_cons h,ih,trimR_cons]
   split
   ·rename_i he
    rw [List.isEmpty_iff.1 he]
   ·rw [trimL_cons h]
  ·have e : trimL (c :: r) = c :: r:=by rw [trimL,List.dropWhile_cons_of_neg h]
   rw [e,trimR_cons]
   split
   ·rw [trimL,List.dropWhile_cons_of_neg h]
   ·rw [trimL,List.dropWhile_cons_of_neg h]
theorem blank_in (c : UInt8) : [32,9].contains c = blankB c:=by
 have : ∀ n : Fin 256,[32,9].contains (UInt8.ofNat n.1) = blankI (n.1 : Int):=by decide
 have h:=this ⟨c.toNat,c.toNat_lt⟩
 simp only [UInt8.ofNat_toNat] at h
 exact h
theorem trimS_eq (s : List UInt8) : Lib.trimS s [32,9] = trimF s:=by
 rw [trimF,trim_comm]
 unfold Lib.trimS Lib.trimLeftS Lib.trimRightS trimL trimR
 have e : (fun x=>[32,9].contains x) = blankB:=funext blank_in
 rw [e]
def spTrim64 : FSpec:=fun _ xs ls K=>∃ (s c : List UInt8),xs = [.str s,.str c]∧ls = []∧s.length≤9223372036854775807∧c.length < 1000∧(c.all fun b=>decide (b.toNat < 128)) = true∧∀ r,r = Lib.trimS s c→K (.str r) []
theorem trim64_ok : FnOk Tryz.prog gl 94 spTrim64:=by
 refine ⟨⟨Tryz.f94,_,Tryz.func94,rfl,by kernel_rfl⟩,fun xs ls K h=>?_⟩
 obtain ⟨s,c,rfl,rfl,hs,hc,ha,h⟩:=h
 refine ⟨_,_,h _ rfl,callsTo_below fun E B w vals _ _ _ hr=>?_⟩
 obtain ⟨v,u,rfl,hv,hu⟩:=relL_two hr
 rw [rel_str hv,rel_str hu]
 refine (Any.strings_Trim_laid sh_lays160 (by kernel_rfl) ⟨s.toArray⟩ ⟨c.toArray⟩ w (by simpa [ByteArray.size] using hs) (by simp [ByteArray.size]; omega) (ascii_of_all (by simpa using ha))).mono ?_
 rintro e w' ⟨rfl,hB⟩
 exact ⟨_,rfl,fun E=>.ro (.str rfl),hB⟩
theorem trim_ok : FnOk Tryz.prog gl 194 (spStrS trimF):=by
 refine fnOk (gh:=[]) mixed cxOk (tabCons trim64_ok tabNil) Tryz.func194 (by kernel_rfl) (by kernel_rfl) ?_
 intro xs ls K h
 unfold spStrS at h
 obtain ⟨s,rfl,rfl,hl,h⟩:=h
 obtain ⟨k,hk⟩ : ∃ k,k = trimF s:=⟨_,rfl⟩
 refine ⟨_,_,h k hk,fun D hD=>?_⟩
 clear h
 cbv
 refine ⟨s,[32,9],rfl,rfl,hl,by decide,by decide,fun r hr=>?_⟩
 cbv
 exact finStr (by rw [hr,hk,trimS_eq])
end Go.Proofs.YtefelnhpfdcleaaGreatDoor
namespace Go.Proofs.YtefelnhpfdcleaaGreatDoor
open Go.Sx
set_option maxRecDepth 10000
set_option maxHeartbeats 2000000
def spSplit : FSpec:=fun _ xs ls K=>∃ (s : List UInt8) (y : Int),xs = [.str s,.int .u8 (.a y)]∧ls = []∧s.length≤100000∧∀ (k : Option (List (List UInt8))) (l : List (List UInt8)) (n : Int) (b nb : Bool) (f : Nat→List SV),k = partsF y s→l = (k.getD []).map trimF→n = (l.length : Int)→b = k.isSome→nb = k.isNone→f = strRow l→K (.tup [.osl (.a nb) (.a n) 0,.bool (.a b)]) [.own 9 (.a n) 1 true f]
structure SpI (s : List UInt8) (out : List (List UInt8)) (a i : Nat) (A I : Int) (m : Nat) : Prop where
 at_ : At s i I m
 ale : a≤i
 A : ST.den (.a A) = (a : Int)
 out : out.length≤i
 s : s.length≤100000
def splJ (s : List UInt8) (y : Int) (k : Option (List (List UInt8))) (m : Nat) (vs : List (Option SV)) (hp : List Hl) : Prop :=
 ∃ (i a : Nat) (I A n : Int) (nl : Bool) (f : Nat→List SV) (out : List (List UInt8)),vs = [some (.str s),some (.int .u8 (.a y)),some (.osl (.a nl) (.a n) 0),some (.int .i64 (.a A)),some (.int .i64 (.a I))]∧hp = [.own 9 (.a n) 1 true f]∧
  SpI s out a i A I m∧RowS f n (out.map trimF)∧k = pAt y s out a i
def qOf : Option (Nat×List UInt8)→Int
 | none=>0
 | some x=>((1 + x.1 : Nat) : Int)
theorem qOf_zero {o : Option (Nat×List UInt8)} (h : (qOf o == 0) = true) : o = none:=by
 cases o with
 | none=>rfl
 | some x=>simp only [qOf,beq_iff_eq] at h; omega
theorem qOf_some {o : Option (Nat×List UInt8)} (h : (qOf o == 0) = false) : ∃ x,o = some x∧qOf o = ((1 + x.1 : Nat) : Int):=by
 cases o with
 | none=>simp [qOf] at h
 | some x=>exact ⟨x,rfl,rfl⟩
theorem quotedF_drop {s : List UInt8} {i : Nat} : quotedF (s.drop i) = qOf (qdF plainI (s.drop (i + 1))):=by
 rw [quotedF,qAt,qdF_some,List.drop_drop,show i + (0 + 1) = i + 1 by omega]
 cases qdF plainI (s.drop (i + 1)) with
 | none=>rfl
 | some x=>simp only [qOf]
theorem finSpl0 {D : Dn} (hD : D = dn) {k : Option (List (List UInt8))} {kl : List (List UInt8)} {kn : Int} {kb knb : Bool} {kr g : Nat→List SV} (hk : k = none) (hkl : kl = (k.getD []).map trimF) (hkn : kn = (kl.length : Int)) (hkb : kb = k.isSome) (hknb : knb = k.isNone) :
  Fin (.tup [.osl (.a (D.b (.l true))) (.a (D.i (.l 0))) 0,.bool (.a (D.b (.l false)))]) (.tup [.osl (.a knb) (.a kn) 0,.bool (.a kb)]) [.own 9 (.a (D.i (.l 0))) 1 true g] [.own 9 (.a kn) 1 true kr]:=by
 subst hD hk
 have e : kn = 0:=by rw [hkn,hkl]; rfl
 refine finOwn (.tup (.cons (leOsl (by rw [hknb]; rfl) (by rw [e]; rfl)) (.cons (leBool (by rw [hkb]; rfl)) .nil))) (by rw [e]; rfl) fun i hi=>?_
 have hi : (i : Int) < 0:=hi
 omega
theorem finSpl1 {D : Dn} (hD : D = dn) {k : Option (List (List UInt8))} {l kl : List (List UInt8)} {kn : Int} {kb knb : Bool} {kr f : Nat→List SV} (hk : k = some l) (hkl : kl = (k.getD []).map trimF) (hkn : kn = (kl.length : Int)) (hkb : kb = k.isSome) (hknb : knb = k.isNone) (hkr : kr = strRow kl)
  {n : Int} (R : RowS f n (l.map trimF)) {x : BT} {y : ST} (hy : y.den = n) (hx : x.den = false) : Fin (.tup [.osl (.a (D.b x)) (.a (D.i y)) 0,.bool (.a (D.b (.l true)))]) (.tup [.osl (.a knb) (.a kn) 0,.bool (.a kb)]) [.own 9 (.a (D.i y)) 1 true f] [.own 9 (.a kn) 1 true kr]:=by
 subst hD hk
 have hkl : kl = l.map trimF:=hkl
 have e : dn.i y = kn:=by show y.den = _; rw [hy,R.n,hkn,hkl]
 refine finOwn (.tup (.cons (leOsl ?_ e) (.cons (leBool (by rw [hkb]; rfl)) .nil))) e fun i hi=>?_
 ·rw [hknb]; exact hx
 ·have hi : (i : Int) < dn.i y:=hi
  rw [R.f i (by rw [e,hkn,hkl] at hi; omega),hkr,hkl]; rfl
theorem split_ok : FnOk Tryz.prog gl 185 spSplit:=by
 refine fnOk (gh:=[(1,[.own 6 9]),(9,[.own 4 9]),(12,[.own 4 9])]) mixed cxOk (tabCons kind_ok (tabCons quoted_ok (tabCons trim_ok tabNil))) Tryz.func185 (by kernel_rfl) (by kernel_rfl) ?_
 intro xs ls K h
 unfold spSplit at h
 obtain ⟨s,y,rfl,rfl,hl,h⟩:=h
 obtain ⟨k,hk⟩ : ∃ k,k = partsF y s:=⟨_,rfl⟩
 obtain ⟨kl,hkl⟩ : ∃ kl,kl = (k.getD []).map trimF:=⟨_,rfl⟩
 obtain ⟨kn,hkn⟩ : ∃ kn : Int,kn = (kl.length : Int):=⟨_,rfl⟩
 obtain ⟨kb,hkb⟩ : ∃ kb,kb = k.isSome:=⟨_,rfl⟩
 obtain ⟨knb,hknb⟩ : ∃ knb,knb = k.isNone:=⟨_,rfl⟩
 obtain ⟨kr,hkr⟩ : ∃ kr,kr = strRow kl:=⟨_,rfl⟩
 refine ⟨_,_,h k kl kn kb knb kr hk hkl hkn hkb hknb hkr,fun D hD=>?_⟩
 clear h
 have hk : k = pAt y s [] 0 0:=by
  rw [hk,partsF,pAt,cut_self]
  simp
 cbv
 obtain ⟨J,hJ⟩ : ∃ J,J = splJ s y k:=⟨_,rfl⟩
 refine ⟨[0,1,6,7,8],J,⟨rfl,s.length,?_⟩,?_⟩
 ·rw [hJ]
  subst hD
  exact ⟨0,0,_,_,_,_,_,[],rfl,rfl,⟨At.zero (by omega),by omega,rfl,by simp,hl⟩,RowS.nil,hk⟩
 clear hk
 intro m vs hp' hv
 rw [hJ] at hv
 unfold splJ at hv
 obtain ⟨i,a,I,A,n,nl,f,out,rfl,rfl,V,R,hk⟩:=hv
 cbv
 refine br hD (fun h=>?_) (fun h=>?_)<;>cbv
 ·have hlt:=V.at_.lt (of_decide_eq_true (p:=I < (s.length : Int)) h)
  clear h
  refine ⟨V.at_.inS hD hlt,fun c hc=>?_⟩
  have hc2:=byteAt hD V.at_.den hc
  clear hc
  cbv
  refine br hD (fun h=>?_) (fun h=>?_)<;>cbv
  ·have h34 : charI s i = 34:=by rw [←hc2.charI]; have h : (c == 34) = true:=h; simpa using h
   clear h
   rw [pAt_quote hlt V.ale (by rw [h34]; decide) h34] at hk
   refine ⟨by subst hD; exact subS_of (s:=s) (j:=s.length) (b:=.len s) V.at_.den rfl (by omega) (Nat.le_refl _),fun r1 hr1=>?_⟩
   have hr1' : r1 = s.drop i:=by
    have:=sub_of (j:=s.length) (b:=.len s) hD V.at_.den rfl hr1
    rw [this]; exact List.take_of_length_le (by simp)
   clear hr1
   cbv
   refine ⟨_,rfl,rfl,by have:=V.s; rw [hr1',List.length_drop]; omega,fun q hq=>?_⟩
   have hq2 : q = qOf (qdF plainI (s.drop (i + 1))):=by subst hD; rw [hq,hr1']; exact quotedF_drop
   clear hq
   cbv
   refine br hD (fun h=>?_) (fun h=>?_)<;>cbv
   ·have h : (q == 0) = true:=h
    rw [hq2] at h
    rw [qOf_zero h] at hk
    exact finSpl0 hD hk hkl hkn hkb hknb
   ·have h : (q == 0) = false:=h
    rw [hq2] at h
    obtain ⟨x,hx,hqx⟩:=qOf_some h
    rw [hx] at hk
    simp only at hk
    have hlen:=qdF_len _ _ x (Nat.le_refl _) hx
    rw [List.length_drop] at hlen
    have hq3 : ST.den (.bin .add .i64 (.a I) (.a q)) = ((i + 1 + x.1 : Nat) : Int):=by
     have h1:=V.at_.I; have h2:=V.s
     show IntKind.i64.wrap (I + q) = _
     rw [hq2,hqx,wrap64 (by omega) (by omega)]; omega
    clear h
    refine ⟨s.length - (i + 1 + x.1),by have:=V.at_.m; omega,?_⟩
    rw [hJ]
    subst hD
    refine ⟨i + 1 + x.1,a,_,_,_,_,f,out,rfl,rfl,⟨⟨by omega,hq3,rfl,V.at_.len⟩,by have:=V.ale; omega,V.A,by have:=V.out; omega,V.s⟩,R,hk⟩
  have h34 : charI s i≠34:=by rw [←hc2.charI]; have h : (c == 34) = false:=h; simpa using h
  clear h
  refine ⟨_,rfl,rfl,by subst hD; exact hc2.le,fun r hr=>?_⟩
  have hr2 : r = kindI c:=by subst hD; exact hr
  clear hr
  have hsm : plainI (charI s i) = !(kindI c == 0):=by rw [hc2.charI]; unfold charI; rw [←someI_byte,someI]
  rw [←hr2] at hsm
  cbv
  refine br hD (fun h=>?_) (fun h=>?_)<;>cbv
  ·have h : (r == 0) = true:=h
   rw [pAt_bad hlt (by rw [hsm,h]; rfl)] at hk
   exact finSpl0 hD hk hkl hkn hkb hknb
  have hp : plainI (charI s i) = true:=by have h : (r == 0) = false:=h; rw [hsm,h]; rfl
  clear h
  refine br hD (fun h=>?_) (fun h=>?_)<;>cbv
  ·have hy : charI s i = y:=by rw [←hc2.charI]; have h : (c == y) = true:=h; simpa using h
   clear h
   rw [pAt_sep hlt hp h34 hy] at hk
   refine ⟨by subst hD; exact subS_of V.A V.at_.den V.ale (by omega),fun r1 hr1=>?_⟩
   have hr1' : r1 = cut s a i:=sub_of hD V.A V.at_.den hr1
   clear hr1
   cbv
   refine ⟨_,rfl,rfl,by have:=V.s; rw [hr1',cut,List.length_take,List.length_drop]; omega,fun t ht=>?_⟩
   have ht2 : t = trimF (cut s a i):=by rw [ht,hr1']
   clear ht
   cbv
   intro g hg
   have hg0 : g 0 = [.str t]:=hg.h 0 _ rfl
   clear hg
   cbv
   refine ⟨?_,fun f' n' hf'=>?_⟩
   ·have:=V.out; have:=V.s; have h:=R.n; rw [List.length_map] at h; subst hD; exact ⟨rfl,by show (n + 1) * 16≤_; omega,by show n + 1≤_; omega⟩
   have R' : RowS f' n' ((out ++ [cut s a i]).map trimF):=by
    subst hD
    rw [List.map_append,List.map_singleton]
    exact R.more (by rw [hg0,ht2]) hf' (by have:=V.out; have:=V.s; rw [List.length_map]; omega)
   clear hf' hg0
   cbv
   refine ⟨s.length - (i + 1),(V.at_.step hD hlt).1,?_⟩
   rw [hJ]
   subst hD
   exact ⟨i + 1,i + 1,_,_,_,_,f',_,rfl,rfl,⟨(V.at_.step rfl hlt).2,Nat.le_refl _,(V.at_.step rfl hlt).2.I,by have:=V.out; simp; omega,V.s⟩,R',hk⟩
  ·have hy : charI s i≠y:=by rw [←hc2.charI]; have h : (c == y) = false:=h; simpa using h
   clear h
   rw [pAt_more hlt V.ale hp h34 hy] at hk
   refine ⟨s.length - (i + 1),(V.at_.step hD hlt).1,?_⟩
   rw [hJ]
   subst hD
   exact ⟨i + 1,a,_,_,_,_,f,out,rfl,rfl,⟨(V.at_.step rfl hlt).2,by have:=V.ale; omega,V.A,by have:=V.out; omega,V.s⟩,R,hk⟩
 ·have hi:=V.at_.eq (of_decide_eq_false (p:=I < (s.length : Int)) h)
  clear h
  rw [pAt_end hi] at hk
  refine ⟨by subst hD; exact subS_of (s:=s) (j:=s.length) (b:=.len s) V.A rfl (by have:=V.ale; omega) (Nat.le_refl _),fun r1 hr1=>?_⟩
  have hr1' : r1 = s.drop a:=by
   have:=sub_of (j:=s.length) (b:=.len s) hD V.A rfl hr1
   rw [this]; exact List.take_of_length_le (by simp)
  clear hr1
  cbv
  refine ⟨_,rfl,rfl,by have:=V.s; rw [hr1',List.length_drop]; omega,fun t ht=>?_⟩
  have ht2 : t = trimF (s.drop a):=by rw [ht,hr1']
  clear ht
  cbv
  intro g hg
  have hg0 : g 0 = [.str t]:=hg.h 0 _ rfl
  clear hg
  cbv
  refine ⟨?_,fun f' n' hf'=>?_⟩
  ·have:=V.out; have:=V.s; have h:=R.n; rw [List.length_map] at h; subst hD; exact ⟨rfl,by show (n + 1) * 16≤_; omega,by show n + 1≤_; omega⟩
  have R' : RowS f' n' ((out ++ [s.drop a]).map trimF):=by
   subst hD
   rw [List.map_append,List.map_singleton]
   exact R.more (by rw [hg0,ht2]) hf' (by have:=V.out; have:=V.s; rw [List.length_map]; omega)
  clear hf' hg0
  cbv
  exact finSpl1 hD hk hkl hkn hkb hknb hkr R' rfl (by show (nl && false) = false; simp)
end Go.Proofs.YtefelnhpfdcleaaGreatDoor
namespace Go.Proofs.YtefelnhpfdcleaaGreatDoor
open Go Go.RowKit Go.Sx Go.Sort
set_option maxRecDepth 100000
set_option maxHeartbeats 2000000
def emptyP (x : ByteArray) : Bool:=x.toList.isEmpty
theorem del1_run (x : ByteArray) (w : World) : Calls Tryz.prog 187 #[.string x] w fun e w'=>e = .returned (.bool (emptyP x))∧∃ q,w' = w.drewN q:=by
 go_enter Tryz.func187,Tryz.ntmps51
 go_wp2
 go_ret
 exact ⟨rfl,0,rfl⟩
theorem emptyP_bytes (x : List UInt8) : (!emptyP (Sx.bytes x)) = neB x:=by
 unfold emptyP neB Sx.bytes
 rw [Lib.toList_data]
 cases x<;>rfl
theorem filter_bytes (l : List (List UInt8)) : (l.map Sx.bytes).filter (fun x=>!emptyP x) = (l.filter neB).map Sx.bytes:=by
 rw [List.filter_map]
 congr 1
 refine List.filter_congr fun x _=>emptyP_bytes x
theorem bEnter51 : ∀ args w,(callFunc 187 args).run Tryz.prog w = .ok (.enter 187 args) w:=enters_of Tryz.func187 (by kernel_rfl) rfl
theorem putRow_heap {α : Type} [Inhabited α] (enc : α→Value) (w : World) (blk off : Nat) (d : Array α) (k : Nat) : (putRow enc w blk off d).heap[k]? = if blk = k then (w.heap[k]?).map (onCells (putCells enc off d)) else w.heap[k]?:=by
 unfold putRow mapBlock
 simp only [Array.getElem?_modify]
theorem delPut {w : World} {q b : Nat} {cur : Array Value} {fr : Nat×Nat} {t : TypeId} (hg : w.heap[b]? = some (.cells cur t fr)) (N : Array ByteArray) {i : Nat} (hi : i < N.size) (hc : N.size≤cur.size) : (putRow Value.string (Go.Sort.ahead w q) b 0 N).cell? ⟨b,i,none⟩ = some (.string N[i]!):=by
 have h1 : (putRow Value.string (Go.Sort.ahead w q) b 0 N).heap[b]? = some (.cells (putCells Value.string 0 N cur) t fr):=by
  rw [putRow_heap,if_pos rfl]
  have : (Go.Sort.ahead w q).heap[b]? = w.heap[b]?:=rfl
  rw [this,hg]; rfl
 rw [cell_of_row _ b _ _ _ _ h1]
 simp only [putCells,Array.getElem?_mapIdx]
 rw [Array.getElem?_eq_getElem (by omega),Option.map_some,if_pos ⟨Nat.zero_le _,by omega⟩]
 rfl
def spDel : FSpec:=fun _ xs ls K=>∃ (l : List (List UInt8)) (nb : Bool) (n : Int) (f : Nat→List SV),xs = [.osl (.a nb) (.a n) 0,.fn 187]∧ls = [.own 9 (.a n) 1 true f]∧RowS f n l∧0 < l.length∧∀ l' n',l' = l.filter neB→n' = (l'.length : Int)→K (.sl (.a false) (.a n') 1 (strRow l')) [.gone]
theorem delete_ok : FnOk Tryz.prog gl 186 spDel:=by
 refine ⟨⟨Tryz.f186,_,Tryz.func186,rfl,by kernel_rfl⟩,fun xs ls K h=>?_⟩
 obtain ⟨l,nb,n,f,rfl,rfl,R,h0,h⟩:=h
 refine ⟨_,_,h _ _ rfl rfl,?_⟩
 intro B E w vals hw0 hI0 hdom hb hg hh hr
 obtain ⟨v,m,xs,k1,kz,k2,k3,k4,k5,k6⟩:=hh 0
 have k3' : n = (m : Int):=k3
 have hm : m = l.length:=by have:=R.n; omega
 obtain ⟨u,g,rfl,hu,hgv⟩:=relL_two hr
 obtain ⟨huv,hnl⟩:=osl_val hu k1 k2 k3 rfl
 subst huv
 obtain rfl : g = .func (.func 187) #[] #[]:=by
  cases hgv with
  | ro h=>cases h with
   | fn h=>exact h
 rcases k2.2 with ⟨e0,e1⟩ | ⟨b,cap,cur,fr,e0,hg2,hfr,hmc,hcm,hcs,htake⟩
 ·omega
 subst e0
 obtain rfl : fr = (0,0):=by
  rcases hfr with h | ⟨h,_⟩
  ·exact h
  ·cases h
 have hxl : xs.length = l.length:=by rw [k2.1,hm]; simp
 have hxs : xs = l.map fun x=>Value.string (Sx.bytes x):=by
  refine List.ext_getElem (by rw [hxl]; simp) fun i h1 h2=>?_
  have hi : i < l.length:=by omega
  have:=k5.2 i 0 (.str (l.getD i [])) xs[i] (by omega) (by rw [R.f i hi]; rfl) (by simp [List.getElem?_eq_getElem h1])
  cases this with
  | str h =>
   rw [h,List.getElem_map,List.getD_eq_getElem?_getD,List.getElem?_eq_getElem hi]; rfl
 obtain ⟨hO,hnI⟩:=k6 b rfl
 have hlt : b < w.heap.size:=(hb.Obd b 0 hO).1
 obtain ⟨d,hd⟩ : ∃ d,d = (l.map Sx.bytes).toArray:=⟨_,rfl⟩
 have hds : d.size = m:=by rw [hd,hm]; simp
 have hdl : d.toList = l.map Sx.bytes:=by rw [hd]
 have hH : Holds Value.string w b 0 d:=by
  intro j hj
  have hj' : j < l.length:=by omega
  refine ⟨?_,Lib.frozen_of_heap hg2 _⟩
  rw [cell_of_row w b _ cur _ _ hg2,Nat.zero_add]
  have h1 : cur.toList[j]? = some (Value.string (Sx.bytes l[j])):=by
   have : (cur.toList.take (m * 1))[j]? = xs[j]?:=by rw [htake]
   rw [List.getElem?_take,if_pos (by omega),hxs] at this
   rw [this]
   simp [List.getElem?_eq_getElem hj']
  rw [←Array.getElem?_toList,h1,getElem!_pos d j hj]
  simp [hd]
 have hF : (d.toList.filter fun x=>!emptyP x) = (l.filter neB).map Sx.bytes:=by rw [hdl]; exact filter_bytes l
 have run:=sh_slices_DeleteFunc Value.string (fun _=>rfl) emptyP 187 #[] bEnter51 ⟨#[]⟩ Tryz.zeroValue9 b 0 cap d w (fun W x _=>by simpa [FnGives] using del1_run x W) (fun q os dk x _=>by simpa [FnGives] using del1_run x _) hH (by have:=R.len; omega) (by omega)
 rw [hF,hds] at run
 refine run.mono ?_
 clear run
 rintro e w' ⟨rfl,q,rfl⟩
 obtain ⟨l',hl'⟩ : ∃ l',l' = l.filter neB:=⟨_,rfl⟩
 rw [←hl']
 have hle : l'.length≤l.length:=by rw [hl']; exact List.length_filter_le _ _
 obtain ⟨N,hN⟩ : ∃ N,N = (l'.map Sx.bytes ++ List.replicate (m - (l'.map Sx.bytes).length) (⟨#[]⟩ : ByteArray)).toArray:=⟨_,rfl⟩
 rw [←hN]
 have hNs : N.size = m:=by rw [hN]; simp; omega
 have hNi : ∀ i,i < l'.length→N[i]! = Sx.bytes (l'.getD i []):=by
  intro i hi
  rw [getElem!_pos N i (by omega),List.getD_eq_getElem?_getD,List.getElem?_eq_getElem hi]
  simp only [hN,List.getElem_toArray]
  rw [List.getElem_append_left (by simpa using hi)]
  simp
 have hcell : ∀ i,i < l'.length→(putRow Value.string (Go.Sort.ahead w q) b 0 N).cell? ⟨b,i,none⟩ = some (.string (Sx.bytes (l'.getD i []))):=by
  intro i hi
  rw [delPut hg2 N (by omega) (by omega),hNi i hi]
 have hheap : ∀ k,k≠b→(putRow Value.string (Go.Sort.ahead w q) b 0 N).heap[k]? = w.heap[k]?:=fun k hk=>by rw [putRow_heap,if_neg (fun e=>hk e.symm)]; rfl
 have hc2 : ∀ b2 o,b2≠b→(putRow Value.string (Go.Sort.ahead w q) b 0 N).cell? ⟨b2,o,none⟩ = w.cell? ⟨b2,o,none⟩:=fun b2 o hb2=>by simp only [World.cell?]; rw [hheap b2 hb2]
 have hsz : (putRow Value.string (Go.Sort.ahead w q) b 0 N).heap.size = w.heap.size:=by simp [putRow,mapBlock,Go.Sort.ahead]
 have hX:=(hb.Obd b 0 hO).2
 let E' : Env:=⟨E.β,E.τ,E.O,E.κ,E.ζ,fun b2 o=>E.I b2 o∨(b2 = b∧o < l'.length)⟩
 refine ⟨_,E',rfl,⟨hb.os,hb.tape,hb.output,by rw [hsz]; exact hb.size,fun b2 hlt2 hnX=>?_,fun b2 o hi=>?_,fun b2 o hi=>?_,fun b2 o hi=>?_,fun b2 j hO2=>?_,⟨hb.β0.β,hb.β0.τ,hb.β0.ζ⟩⟩,fun k hk=>?_,?_⟩
 ·rw [hheap b2 (fun e=>?_)]
  ·exact hb.old b2 hlt2 hnX
  ·subst e
   rcases hX with h | h
   ·omega
   ·exact hnX h
 ·obtain ⟨i1,i2⟩:=hb.I0 b2 o hi
  refine ⟨.inl i1,?_⟩
  rw [hc2 b2 o (fun e=>hnI o (by rw [←e]; exact i1))]; exact i2
 ·rw [hsz]
  rcases hi with hi | ⟨rfl,_⟩
  ·exact hb.Ibd b2 o hi
  ·exact hlt
 ·rcases hi with hi | ⟨rfl,_⟩
  ·exact hb.Inew b2 o hi
  ·exact .inr hX
 ·rw [hsz]; exact hb.Obd b2 j hO2
 ·obtain rfl : k = 0:=by simpa using hk
  trivial
 ·refine .ro (.sl (fun i j=>.string (Sx.bytes (l'.getD i []))) rfl ?_ ?_ hcm (fun _=>rfl) (fun i hi=>rfl) (fun i j hi hj=>rfl) (fun i j hi hj=>?_) (fun i j s hi hs=>?_))
  ·show (l'.length : Int) = _
   simp
  ·simp; omega
  ·obtain rfl : j = 0:=by omega
   have hi : i < l'.length:=by simpa using hi
   refine ⟨?_,.inr ⟨rfl,by simpa using hi⟩⟩
   simpa using hcell i hi
  ·match j,hs with
   | 0,hs =>
    have hs : some (SV.str (l'.getD i [])) = some s:=hs
    cases hs
    exact .str rfl
   | j + 1,hs=>simp [strRow] at hs
end Go.Proofs.YtefelnhpfdcleaaGreatDoor
namespace Go.Proofs.YtefelnhpfdcleaaGreatDoor
open Go.Sx
set_option maxRecDepth 10000
set_option maxHeartbeats 2000000
def elemsNil (s : List UInt8) : Bool:=(refElementsF s).2 != 0
theorem elements_ok : FnOk Tryz.prog gl 173 (spElems refElementsF elemsNil):=by
 refine fnOk (gh:=[]) mixed cxOk (tabCons split_ok (tabCons delete_ok tabNil)) Tryz.func173 (by kernel_rfl) (by kernel_rfl) ?_
 intro xs ls K h
 unfold spElems at h
 obtain ⟨s,rfl,rfl,hl,h⟩:=h
 obtain ⟨k,hk⟩ : ∃ k,k = refElementsF s:=⟨_,rfl⟩
 obtain ⟨kl,ke⟩:=k
 obtain ⟨kn,hkn⟩ : ∃ kn : Int,kn = (kl.length : Int):=⟨_,rfl⟩
 obtain ⟨knb,hknb⟩ : ∃ knb : Bool,knb = (ke != 0):=⟨_,rfl⟩
 refine ⟨_,_,h kl ke kn knb hk hkn (by rw [hknb,elemsNil,←hk]),fun D hD=>?_⟩
 clear h
 obtain ⟨kr,hkr⟩ : ∃ kr,kr = strRow kl:=⟨_,rfl⟩
 rw [←hkr]
 rw [refElementsF] at hk
 cbv
 refine br hD (fun h=>?_) (fun h=>?_)<;>cbv
 ·have h : decide (2000 < (s.length : Int)) = true:=h
  rw [if_pos (by simpa using h)] at hk
  exact finEl (f:=fun _=>[]) hD hk hkn hkr RowS.nil rfl (by simp only [Prod.mk.injEq] at hk; rw [hknb,hk.2]; rfl) rfl
 have h : decide (2000 < (s.length : Int)) = false:=h
 have h2 : ¬ (2000 < (s.length : Int)):=by simpa using h
 rw [if_neg h2] at hk
 have hs : s.length≤2000:=by omega
 clear h h2
 refine ⟨s,_,rfl,rfl,by omega,fun k l n b nb f hp0 hl' hn hb hnb hf=>?_⟩
 have hp : k = partsF 44 s:=by subst hD; exact hp0
 clear hp0
 rw [←hp] at hk
 cbv
 refine br hD (fun h=>?_) (fun h=>?_)<;>cbv
 ·have h : (!b) = true:=h
  have hn0 : k = none:=by
   cases k with
   | none=>rfl
   | some l=>rw [hb] at h; cases h
  rw [hn0] at hk
  exact finEl (f:=fun _=>[]) hD hk hkn hkr RowS.nil rfl (by simp only [Prod.mk.injEq] at hk; rw [hknb,hk.2]; rfl) rfl
 have h : (!b) = false:=h
 obtain ⟨l0,rfl⟩ : ∃ l,k = some l:=by
  cases k with
  | none=>rw [hb] at h; cases h
  | some l=>exact ⟨l,rfl⟩
 clear h
 obtain ⟨h1,h2,h3⟩:=partsF_len hp.symm
 simp only [Option.getD_some] at hl'
 have hll : l.length = l0.length:=by rw [hl',List.length_map]
 have RL : RowS f n l:=by rw [hf,hn]; exact RowS.row (by omega)
 have hl2e : l.filter neB = keepF l0:=by rw [hl',keepF]
 have hk2 : l.filter neB = kl∧ke = 0:=by simp only [Prod.mk.injEq] at hk; rw [hl2e]; exact ⟨hk.1.symm,hk.2⟩
 refine ⟨l,_,_,f,rfl,rfl,by subst hD; exact RL,by omega,fun l2 n2 hl2 hn2=>?_⟩
 have hl3 : l2 = kl:=by rw [hl2,hk2.1]
 have R2 : RowS (strRow l2) n2 l2:=by
  rw [hn2]; refine RowS.row ?_
  have : (l.filter neB).length≤l.length:=List.length_filter_le _ _
  rw [hl2]; omega
 obtain ⟨g,hg⟩ : ∃ g,g = strRow l2:=⟨_,rfl⟩
 rw [←hg] at R2 ⊢
 cbv
 exact finEl (f:=g) (l':=l2) (e':=0) hD (by rw [hl3,hk2.2]) hkn hkr R2 rfl (by rw [hknb,hk2.2]; rfl) rfl
end Go.Proofs.YtefelnhpfdcleaaGreatDoor
namespace Go.Proofs.YtefelnhpfdcleaaGreatDoor
open Go Go.Sx
set_option maxRecDepth 10000
set_option maxHeartbeats 2000000
def cutF (c : UInt8) : List UInt8→List UInt8×List UInt8×Bool
 | []=>([],[],false)
 | b :: r=>if b == c then ([],r,true) else (b :: (cutF c r).1,(cutF c r).2)
theorem cutF_no {c : UInt8} {s : List UInt8} (h : (cutF c s).2.2 = false) : (cutF c s).1 = s∧(cutF c s).2.1 = []∧Lib.indexByte s c = -1:=by
 induction s with
 | nil=>exact ⟨rfl,rfl,rfl⟩
 | cons b r ih =>
  simp only [cutF] at h ⊢
  split at h
  ·cases h
  ·rename_i hb
   obtain ⟨h1,h2,h3⟩:=ih h
   rw [if_neg hb]
   refine ⟨by rw [h1],h2,?_⟩
   rw [Lib.indexByte,if_neg hb,h3]; rfl
theorem cutF_yes {c : UInt8} {s : List UInt8} (h : (cutF c s).2.2 = true) : Lib.indexByte s c = ((cutF c s).1.length : Int)∧(cutF c s).1 = s.take (cutF c s).1.length∧(cutF c s).2.1 = s.drop ((cutF c s).1.length + 1)∧(cutF c s).1.length < s.length:=by
 induction s with
 | nil=>cases h
 | cons b r ih =>
  simp only [cutF] at h ⊢
  by_cases hb : (b == c) = true
  ·simp only [if_pos hb]
   rw [Lib.indexByte,if_pos hb]
   simp
  ·rw [if_neg hb] at h ⊢
   obtain ⟨h1,h2,h3,h4⟩:=ih h
   rw [Lib.indexByte,if_neg hb,h1]
   refine ⟨?_,?_,?_,by simp; omega⟩
   ·rw [if_neg (by simp)]; simp
   ·simp only [List.length_cons,List.take_succ_cons]; rw [←h2]
   ·simp only [List.length_cons,List.drop_succ_cons]; exact h3
def spIdx1 : FSpec:=fun _ xs ls K=>∃ (s : List UInt8) (c : UInt8),xs = [.str s,.str [c]]∧ls = []∧∀ r : Int,r = Lib.indexByte s c→K (.int .i64 (.a r)) []
theorem index1_ok : FnOk Tryz.prog gl 107 spIdx1:=by
 refine ⟨⟨Tryz.f107,_,Tryz.func107,rfl,by kernel_rfl⟩,fun xs ls K h=>?_⟩
 obtain ⟨s,c,rfl,rfl,h⟩:=h
 refine ⟨_,_,h _ rfl,callsTo_below fun E B w vals _ _ _ hr=>?_⟩
 obtain ⟨v,u,rfl,hv,hu⟩:=relL_two hr
 rw [rel_str hv,rel_str hu]
 refine (sh_stringslite_Index_one ⟨s.toArray⟩ c w).mono ?_
 rintro e w' ⟨rfl,rfl⟩
 exact ⟨_,rfl,fun E=>.ro (.int rfl),RowKit.Below.refl _ _⟩
def spCut : FSpec:=fun _ xs ls K=>∃ (s : List UInt8) (c : UInt8),xs = [.str s,.str [c]]∧ls = []∧s.length≤100000∧∀ a b t,(a,b,t) = cutF c s→K (.tup [.str a,.str b,.bool (.a t)]) []
theorem finCut {D : Dn} (hD : D = dn) {a b a' b' : List UInt8} {t : Bool} {x : BT} (h : (a,b,t) = (a',b',x.den)) : Fin (.tup [.str a',.str b',.bool (.a (D.b x))]) (.tup [.str a,.str b,.bool (.a t)]) [] []:=by
 subst hD
 simp only [Prod.mk.injEq] at h
 obtain ⟨rfl,rfl,rfl⟩:=h
 exact finV (LeV.refl _)
theorem cut90_ok : FnOk Tryz.prog gl 74 spCut:=by
 refine fnOk (gh:=[]) mixed cxOk (tabCons index1_ok tabNil) Tryz.func74 (by kernel_rfl) (by kernel_rfl) ?_
 intro xs ls K h
 unfold spCut at h
 obtain ⟨s,c,rfl,rfl,hl,h⟩:=h
 obtain ⟨k,hk⟩ : ∃ k,k = cutF c s:=⟨_,rfl⟩
 obtain ⟨ka,kb,kt⟩:=k
 refine ⟨_,_,h ka kb kt hk,fun D hD=>?_⟩
 clear h
 cbv
 refine ⟨s,c,rfl,rfl,fun r hr=>?_⟩
 cbv
 refine br hD (fun h=>?_) (fun h=>?_)<;>cbv
 ·have h0 : 0≤r:=of_decide_eq_true (p:=0≤r) h
  have hy : (cutF c s).2.2 = true:=by
   cases hb : (cutF c s).2.2 with
   | true=>rfl
   | false=>rw [(cutF_no hb).2.2] at hr; omega
  obtain ⟨y1,y2,y3,y4⟩:=cutF_yes hy
  rw [←hk] at y1 y2 y3 y4 hy
  simp only at y1 y2 y3 y4 hy
  rw [←hr] at y1
  have hk' : (ka,kb,kt) = (ka,kb,true):=by rw [hy]
  clear hk hy h h0 hr
  have yr : ST.den (.a r) = ((ka.length : Nat) : Int):=y1
  have yr2 : ST.den (.bin .add .i64 (.a r) (.len [c])) = ((ka.length + 1 : Nat) : Int):=by
   show IntKind.i64.wrap (r + (([c] : List UInt8).length : Int)) = _
   rw [y1,List.length_singleton,wrap64 (by omega) (by omega)]; omega
  refine ⟨by subst hD; exact subS_of (s:=s) (i:=0) (a:=.l 0) rfl yr (by omega) (by omega),fun r1 hr1=>?_⟩
  have hr1' : r1 = ka:=by
   have:=sub_of (i:=0) (a:=.l 0) hD rfl yr hr1
   rw [this]; exact y2.symm
  clear hr1
  cbv
  refine ⟨by subst hD; exact subS_of (s:=s) (j:=s.length) (b:=.len s) yr2 rfl (by omega) (Nat.le_refl _),fun r2 hr2=>?_⟩
  have hr2' : r2 = kb:=by
   have:=sub_of (j:=s.length) (b:=.len s) hD yr2 rfl hr2
   rw [this,y3]; exact List.take_of_length_le (by simp)
  clear hr2
  cbv
  refine finCut (x:=.l true) hD ?_
  rw [hk',hr1',hr2']; rfl
 ·have h0 : ¬ 0≤r:=of_decide_eq_false (p:=0≤r) h
  have hy : (cutF c s).2.2 = false:=by
   cases hb : (cutF c s).2.2 with
   | false=>rfl
   | true=>rw [(cutF_yes hb).1] at hr; omega
  obtain ⟨y1,y2,y3⟩:=cutF_no hy
  refine finCut (x:=.l false) hD ?_
  rw [hk]
  exact Prod.ext y1 (Prod.ext y2 hy)
theorem cut_ok : FnOk Tryz.prog gl 36 spCut:=by
 refine fnOk (gh:=[]) mixed cxOk (tabCons cut90_ok tabNil) Tryz.func36 (by kernel_rfl) (by kernel_rfl) ?_
 intro xs ls K h
 unfold spCut at h
 obtain ⟨s,c,rfl,rfl,hl,h⟩:=h
 obtain ⟨k,hk⟩ : ∃ k,k = cutF c s:=⟨_,rfl⟩
 obtain ⟨ka,kb,kt⟩:=k
 refine ⟨_,_,h ka kb kt hk,fun D hD=>?_⟩
 clear h
 cbv
 refine ⟨s,c,rfl,rfl,hl,fun a b t he=>?_⟩
 cbv
 exact finCut hD (by rw [hk,←he]; rfl)
end Go.Proofs.YtefelnhpfdcleaaGreatDoor
namespace Go.Proofs.YtefelnhpfdcleaaGreatDoor
open Go Go.Sx
set_option maxRecDepth 100000
set_option maxHeartbeats 8000000
def kindN (c : Nat) : Int :=
 if (48≤c∧c≤57)∨(65≤c∧c≤90)∨(97≤c∧c≤122)∨c = 45∨c = 46∨c = 95∨c = 126 then 1
 else if c = 33∨c = 36∨(38≤c∧c≤44)∨c = 47∨c = 58∨c = 59∨c = 61∨c = 64 then 2 else 0
def kindCells : List SV:=(List.range 256).map fun c=>.int .u8 (.a (kindN c))
def spIdxB : FSpec:=fun _ xs ls K=>∃ (s : List UInt8) (c : Int),xs = [.str s,.int .u8 (.a c)]∧ls = []∧(0≤c∧c≤255)∧∀ r,r = Lib.indexByte s (UInt8.ofNat c.toNat)→K (.int .i64 (.a r)) []
end Go.Proofs.YtefelnhpfdcleaaGreatDoor
namespace Go.Proofs.YtefelnhpfdcleaaGreatDoor
open Go Go.Shelf Go.RowKit Go.Sort Go.Lib
set_option maxRecDepth 100000
set_option maxHeartbeats 4000000
def sh_laysC174_ren : Go.Shelf.Ren:=⟨fun | 174=>126 | 247=>148 | 245=>149 | 287=>167 | 279=>168 | 280=>169 | 281=>170 | 282=>171 | 321=>180 | 322=>181 | 316=>182 | 171=>140 | 205=>183 | 243=>161 | 246=>160 | 283=>175 | 284=>176 | 285=>177 | 286=>178 | 129=>189 | 317=>188 | 318=>190 | 319=>191 | 320=>192 | 337=>196 | 338=>197 | n=>n,fun | 9=>9 | 3=>3 | 2=>2 | 75=>107 | 85=>135 | 4=>4 | 167=>164 | 5=>5 | 53=>165 | 175=>166 | 46=>101 | 168=>168 | 37=>36 | 0=>0 | 210=>185 | 21=>21 | 127=>124 | 145=>196 | 143=>194 | 171=>175 | 173=>178 | 212=>190 | 51=>153 | 20=>20 | 213=>191 | 232=>200 | 233=>201 | 80=>110 | n=>n,fun | 15=>4 | 16=>5 | 17=>6 | 18=>7 | 19=>8 | n=>n⟩
theorem sh_laysC174 : Go.Proofs.LaysC.n174 Tryz.prog sh_laysC174_ren:={
 mixed:=by kernel_rfl
 f129:=Tryz.func189.trans (congrArg some (by kernel_rfl))
 f171:=Tryz.func140.trans (congrArg some (by kernel_rfl))
 f174:=Tryz.func126.trans (congrArg some (by kernel_rfl))
 f205:=Tryz.func183.trans (congrArg some (by kernel_rfl))
 f243:=Tryz.func161.trans (congrArg some (by kernel_rfl))
 f245:=Tryz.func149.trans (congrArg some (by kernel_rfl))
 f246:=Tryz.func160.trans (congrArg some (by kernel_rfl))
 f247:=Tryz.func148.trans (congrArg some (by kernel_rfl))
 f279:=Tryz.func168.trans (congrArg some (by kernel_rfl))
 f280:=Tryz.func169.trans (congrArg some (by kernel_rfl))
 f281:=Tryz.func170.trans (congrArg some (by kernel_rfl))
 f282:=Tryz.func171.trans (congrArg some (by kernel_rfl))
 f283:=Tryz.func175.trans (congrArg some (by kernel_rfl))
 f284:=Tryz.func176.trans (congrArg some (by kernel_rfl))
 f285:=Tryz.func177.trans (congrArg some (by kernel_rfl))
 f286:=Tryz.func178.trans (congrArg some (by kernel_rfl))
 f287:=Tryz.func167.trans (congrArg some (by kernel_rfl))
 f316:=Tryz.func182.trans (congrArg some (by kernel_rfl))
 f317:=Tryz.func188.trans (congrArg some (by kernel_rfl))
 f318:=Tryz.func190.trans (congrArg some (by kernel_rfl))
 f319:=Tryz.func191.trans (congrArg some (by kernel_rfl))
 f320:=Tryz.func192.trans (congrArg some (by kernel_rfl))
 f321:=Tryz.func180.trans (congrArg some (by kernel_rfl))
 f322:=Tryz.func181.trans (congrArg some (by kernel_rfl))
 f337:=Tryz.func196.trans (congrArg some (by kernel_rfl))
 f338:=Tryz.func197.trans (congrArg some (by kernel_rfl))
 t0:=Tryz.underlying0
 a0:=Tryz.isAgg0
 z0:=Tryz.sizeOf0
 v0:=Tryz.zeroValue0
 t2:=Tryz.underlying2
 a2:=Tryz.isAgg2
 z2:=Tryz.sizeOf2
 v2:=Tryz.zeroValue2
 t3:=Tryz.underlying3
 a3:=Tryz.isAgg3
 z3:=Tryz.sizeOf3
 v3:=Tryz.zeroValue3
 t4:=Tryz.underlying4
 a4:=Tryz.isAgg4
 z4:=Tryz.sizeOf4
 v4:=Tryz.zeroValue4
 t5:=Tryz.underlying5
 a5:=Tryz.isAgg5
 z5:=Tryz.sizeOf5
 v5:=Tryz.zeroValue5
 t9:=Tryz.underlying9
 a9:=Tryz.isAgg9
 z9:=Tryz.sizeOf9
 v9:=Tryz.zeroValue9
 t20:=Tryz.underlying20
 a20:=Tryz.isAgg20
 z20:=Tryz.sizeOf20
 v20:=Tryz.zeroValue20
 t21:=Tryz.underlying21
 a21:=Tryz.isAgg21
 z21:=Tryz.sizeOf21
 v21:=Tryz.zeroValue21
 t37:=Tryz.underlying36
 a37:=Tryz.isAgg36
 z37:=Tryz.sizeOf36
 v37:=Tryz.zeroValue36
 t46:=Tryz.underlying101
 a46:=Tryz.isAgg101
 z46:=Tryz.sizeOf101
 v46:=Tryz.zeroValue101
 t51:=Tryz.underlying153
 a51:=Tryz.isAgg153
 z51:=Tryz.sizeOf153
 v51:=Tryz.zeroValue153
 t53:=Tryz.underlying165
 a53:=Tryz.isAgg165
 z53:=Tryz.sizeOf165
 v53:=Tryz.zeroValue165
 t75:=Tryz.underlying107
 a75:=Tryz.isAgg107
 z75:=Tryz.sizeOf107
 v75:=Tryz.zeroValue107
 t85:=Tryz.underlying135
 a85:=Tryz.isAgg135
 z85:=Tryz.sizeOf135
 v85:=Tryz.zeroValue135
 t127:=Tryz.underlying124
 a127:=Tryz.isAgg124
 z127:=Tryz.sizeOf124
 v127:=Tryz.zeroValue124
 t143:=Tryz.underlying194
 a143:=Tryz.isAgg194
 z143:=Tryz.sizeOf194
 v143:=Tryz.zeroValue194
 t145:=Tryz.underlying196
 a145:=Tryz.isAgg196
 z145:=Tryz.sizeOf196
 v145:=Tryz.zeroValue196
 t167:=Tryz.underlying164
 a167:=Tryz.isAgg164
 z167:=Tryz.sizeOf164
 v167:=Tryz.zeroValue164
 t168:=Tryz.underlying168
 a168:=Tryz.isAgg168
 z168:=Tryz.sizeOf168
 v168:=Tryz.zeroValue168
 t171:=Tryz.underlying175
 a171:=Tryz.isAgg175
 z171:=Tryz.sizeOf175
 v171:=Tryz.zeroValue175
 t173:=Tryz.underlying178
 a173:=Tryz.isAgg178
 z173:=Tryz.sizeOf178
 v173:=Tryz.zeroValue178
 t175:=Tryz.underlying166
 a175:=Tryz.isAgg166
 z175:=Tryz.sizeOf166
 v175:=Tryz.zeroValue166
 t210:=Tryz.underlying185
 a210:=Tryz.isAgg185
 z210:=Tryz.sizeOf185
 v210:=Tryz.zeroValue185
 t212:=Tryz.underlying190
 a212:=Tryz.isAgg190
 z212:=Tryz.sizeOf190
 v212:=Tryz.zeroValue190
 t213:=Tryz.underlying191
 a213:=Tryz.isAgg191
 z213:=Tryz.sizeOf191
 t232:=Tryz.underlying200
 a232:=Tryz.isAgg200
 z232:=Tryz.sizeOf200
 v232:=Tryz.zeroValue200
 t233:=Tryz.underlying201
 a233:=Tryz.isAgg201
 z233:=Tryz.sizeOf201
 v233:=Tryz.zeroValue201
 g15:=by kernel_rfl
 g16:=by kernel_rfl
 g17:=by kernel_rfl
 g18:=by kernel_rfl
 g19:=by kernel_rfl
 t80:=Tryz.underlying110
 a80:=Tryz.isAgg110
 z80:=Tryz.sizeOf110
 v80:=Tryz.zeroValue110
 i0:=by kernel_rfl
 i2:=by kernel_rfl
 i3:=by kernel_rfl
 i4:=by kernel_rfl
 i5:=by kernel_rfl
 i9:=by kernel_rfl
 i20:=by kernel_rfl
 i21:=by kernel_rfl
 i37:=by kernel_rfl
 i46:=by kernel_rfl
 i51:=by kernel_rfl
 i53:=by kernel_rfl
 i75:=by kernel_rfl
 i80:=by kernel_rfl
 i85:=by kernel_rfl
 i127:=by kernel_rfl
 i143:=by kernel_rfl
 i145:=by kernel_rfl
 i167:=by kernel_rfl
 i168:=by kernel_rfl
 i171:=by kernel_rfl
 i173:=by kernel_rfl
 i175:=by kernel_rfl
 i210:=by kernel_rfl
 i212:=by kernel_rfl
 i232:=by kernel_rfl
 i233:=by kernel_rfl
 m15:=by kernel_rfl
 m16:=by kernel_rfl
 m17:=by kernel_rfl
 m18:=by kernel_rfl
 m19:=by kernel_rfl
 c0:=by kernel_rfl
 c2:=by kernel_rfl
 c3:=by kernel_rfl
 c4:=by kernel_rfl
 c5:=by kernel_rfl
 c9:=by kernel_rfl
 c20:=by kernel_rfl
 c21:=by kernel_rfl
 c37:=by kernel_rfl
 c46:=by kernel_rfl
 c51:=by kernel_rfl
 c53:=by kernel_rfl
 c75:=by kernel_rfl
 c80:=by kernel_rfl
 c85:=by kernel_rfl
 c127:=by kernel_rfl
 c143:=by kernel_rfl
 c145:=by kernel_rfl
 c167:=by kernel_rfl
 c168:=by kernel_rfl
 c171:=by kernel_rfl
 c173:=by kernel_rfl
 c175:=by kernel_rfl
 c210:=by kernel_rfl
 c212:=by kernel_rfl
 c213:=by kernel_rfl
 c232:=by kernel_rfl
 c233:=by kernel_rfl }
theorem sh_strconv_ParseInt_10_at64_ok (s : ByteArray) (hmax : s.size≤9223372036854775806) (v : Int) (h : Lib.parseIntB 64 s.data.toList = .ok v) (w : World) :
  Calls Tryz.prog 126 #[.string s,.int .i64 10,.int .i64 64] w fun e w'=>e = .returned (.tuple #[.int .i64 v,.nilIface])∧(w' = w∨∃ t,w' = Lib.bytesWorld w 5 t):=Any.strconv_ParseInt_10_at64_ok sh_laysC174 s hmax v h w
theorem sh_strconv_ParseInt_10_at64_range_var (s : ByteArray) (hlim : s.size≤281474976710656) (h : Lib.parseIntB 64 s.data.toList = .range) (tp : TypeId) (p : Value) (w : World) (hvar : w.var? Tryz.prog "strconv.ErrRange" = some #[.iface tp p]) :
  Calls Tryz.prog 126 #[.string s,.int .i64 10,.int .i64 64] w fun e w'=>∃ N,e = .returned (.tuple #[.int .i64 (Lib.intSat 64 s.data.toList),.iface 168 (.pointer (some ⟨N,0,none⟩))])∧w.heap.size≤N∧w'.heap[N]? = some (.cells #[.string ⟨#[80,97,114,115,101,73,110,116]⟩,.string s,.iface tp p] 185 (0,0))∧Below w.heap.size w w':=Any.strconv_ParseInt_10_at64_range_var sh_laysC174 s hlim h tp p w hvar
def sh_laysGw17_ren : Go.Shelf.Ren:=⟨fun | 17=>116 | 15=>142 | 20=>162 | n=>n,fun | 9=>9 | 23=>127 | 4=>4 | 3=>3 | 0=>0 | 21=>21 | n=>n,fun | n=>n⟩
theorem sh_laysGw17 : Go.Proofs.LaysGw.n17 Tryz.prog sh_laysGw17_ren:={
 mixed:=by kernel_rfl
 f15:=Tryz.func142.trans (congrArg some (by kernel_rfl))
 f17:=Tryz.func116.trans (congrArg some (by kernel_rfl))
 f20:=Tryz.func162.trans (congrArg some (by kernel_rfl))
 t0:=Tryz.underlying0
 a0:=Tryz.isAgg0
 z0:=Tryz.sizeOf0
 v0:=Tryz.zeroValue0
 i0:=by kernel_rfl
 t3:=Tryz.underlying3
 a3:=Tryz.isAgg3
 z3:=Tryz.sizeOf3
 v3:=Tryz.zeroValue3
 i3:=by kernel_rfl
 t4:=Tryz.underlying4
 a4:=Tryz.isAgg4
 z4:=Tryz.sizeOf4
 v4:=Tryz.zeroValue4
 i4:=by kernel_rfl
 t9:=Tryz.underlying9
 a9:=Tryz.isAgg9
 z9:=Tryz.sizeOf9
 v9:=Tryz.zeroValue9
 i9:=by kernel_rfl
 t21:=Tryz.underlying21
 a21:=Tryz.isAgg21
 z21:=Tryz.sizeOf21
 v21:=Tryz.zeroValue21
 i21:=by kernel_rfl
 t23:=Tryz.underlying127
 a23:=Tryz.isAgg127
 z23:=Tryz.sizeOf127
 v23:=Tryz.zeroValue127
 i23:=by kernel_rfl }
theorem sh_strings_ContainsFunc_grows (g : Nat) (lb : Array Value) (eg : ∀ args w,(callFunc g args).run Tryz.prog w = .ok (.enter g args) w) (p : Nat→Bool) (s : ByteArray) (w : World) (hp : PredGrows Tryz.prog g lb p w) :
  Calls Tryz.prog 116 #[.string s,.func (.func g) #[] lb] w fun e w'=>e = .returned (.bool (decide (0≤Lib.idxFunc p true s)))∧Below w.heap.size w w':=Any.strings_ContainsFunc_grows sh_laysGw17 g lb eg p s w hp
end Go.Proofs.YtefelnhpfdcleaaGreatDoor
namespace Go.Sx
open Go Go.ChangeShapes Go.WideShapes Go.RowKit
def oldI (W : World) : Nat→Nat→Prop:=fun b _=>b < W.heap.size
def ROL (I : Nat→Nat→Prop) (w : World) (cs : List SV) (vs : List Value) : Prop:=cs.length = vs.length∧(∀ (i : Nat) (s : SV) (v : Value),cs[i]? = some s→vs[i]? = some v→RO I w s v)∧∀ v∈vs,v.oneCell' = true
theorem ROL.one {I : Nat→Nat→Prop} {w : World} {s : SV} {v : Value} (h : RO I w s v) (h1 : v.oneCell' = true) : ROL I w [s] [v] :=
 ⟨rfl,fun i s' v' a b=>by cases i with | zero=>simp at a b; subst a b; exact h | succ i=>simp at a,by simpa using h1⟩
theorem ROL.nil {I : Nat→Nat→Prop} {w : World} : ROL I w [] []:=⟨rfl,by simp,by simp⟩
theorem ROL.app {I : Nat→Nat→Prop} {w : World} {cs cs' : List SV} {vs vs' : List Value} (h : ROL I w cs vs) (h' : ROL I w cs' vs') : ROL I w (cs ++ cs') (vs ++ vs'):=by
 refine ⟨by simp [h.1,h'.1],fun i s v a b=>?_,fun v hv=>?_⟩
 ·rw [List.getElem?_append] at a b
  rw [h.1] at a
  split at a
  ·rename_i hi
   rw [if_pos hi] at b
   exact h.2.1 i s v a b
  ·rename_i hi
   rw [if_neg hi] at b
   exact h'.2.1 _ s v a b
 ·rcases List.mem_append.1 hv with hv | hv
  ·exact h.2.2 v hv
  ·exact h'.2.2 v hv
section
variable {P : Program}
def OpenT (P : Program) (t : TypeId) {α : Type} (enc : α→List SV) : Prop :=
 ∀ (H : Type) (tok : TypeId×Value→H) (W : World) (spare : Nat→Bool) (held : Bool) (fuel : Nat) (cs : List Value) (x : DataW H×List MemPlace),DataW.trod tok P W 0 spare held fuel t cs = some x→∃ a,ROL (oldI W) W (enc a) cs
theorem OpenT.int {t : TypeId} {k : IntKind} (ht : P.underlying t = some (.int k)) : OpenT P t (fun n : Int=>[.int k (.a n)]):=by
 intro H tok W spare held fuel cs x h
 obtain ⟨n,rfl,_,_⟩:=DataW.trod_int ht h
 exact ⟨n,.one (.int rfl) rfl⟩
theorem OpenT.bool {t : TypeId} (ht : P.underlying t = some .bool) : OpenT P t (fun b : Bool=>[.bool (.a b)]):=by
 intro H tok W spare held fuel cs x h
 obtain ⟨n,rfl,_⟩:=DataW.trod_bool ht h
 exact ⟨n,.one (.bool rfl) rfl⟩
theorem OpenT.str {t : TypeId} (ht : P.underlying t = some .string) : OpenT P t (fun s : {s : List UInt8 // s.length≤maxLen}=>[.str s.1]):=by
 intro H tok W spare held fuel cs x h
 obtain ⟨s,rfl,_,hs⟩:=DataW.trod_string ht h
 exact ⟨⟨s.data.toList,by simpa using hs⟩,.one (.str (by simp [bytes])) rfl⟩
theorem OpenT.map {t : TypeId} {α β : Type} {enc : α→List SV} {enc' : β→List SV} (h : OpenT P t enc) (f : α→β) (hf : ∀ a,enc' (f a) = enc a) : OpenT P t enc':=by
 intro H tok W spare held fuel cs x hx
 obtain ⟨a,ha⟩:=h H tok W spare held fuel cs x hx
 exact ⟨f a,by rw [hf]; exact ha⟩
theorem cells_get {W : World} {base : Nat} {a : Addr} {n : Nat} {cs : List Value} (h : W.cells? base a n = some cs) : cs.length = n∧∀ i,i < n→W.cell? (a.add i) = cs[i]?:=by
 unfold World.cells? at h
 split at h
 ·have h2:=mapM_some_get h
  have h1 : cs.length = n:=by simpa using mapM_some_length h
  refine ⟨h1,fun i hi=>?_⟩
  exact h2 i i (by simp [hi])
 ·cases h
theorem cell_lt {W : World} {b o : Nat} {sp : Option Nat} {v : Value} (h : W.cell? ⟨b,o,sp⟩ = some v) : b < W.heap.size∧sp = none:=by
 unfold World.cell? at h
 split at h
 ·rename_i c _ _ hc
  split at h
  ·cases h
  ·rename_i hs
   exact ⟨(Array.getElem?_eq_some_iff.1 hc).1,by cases sp<;>simp at hs ⊢⟩
 ·cases h
def rowOfL {α : Type} (enc : α→List SV) (l : List α) (i : Nat) : List SV:=match l[i]? with
 | some a=>enc a
 | none=>[]
def slC {α : Type} (sz : Nat) (enc : α→List SV) (x : Bool×List α) : List SV:=[.sl (.a x.1) (.a x.2.length) sz (rowOfL enc x.2)]
theorem OpenT.slice {t e : TypeId} {α : Type} {sz : Nat} {enc : α→List SV} (ht : P.underlying t = some (.slice e)) (hz : P.cellsOf e = sz) (h0 : 0 < sz) (he : OpenT P e enc) : OpenT P t (fun x : {x : Bool×List α // x.1 = true→x.2 = []}=>slC sz enc x.1):=by
 intro H tok W spare held fuel cs x h
 rcases DataW.trod_slice ht h with ⟨rfl,_⟩ | ⟨a,len,cap,elems,rest,n,_,rfl,_,_,hle,hcap,hlen,hel,_,_⟩
 ·exact ⟨⟨(true,[]),fun _=>rfl⟩,.one (.slnil rfl rfl) rfl⟩
 ·rw [hz] at hel
  have key : ∀ i,i < len→∃ (al : α) (vs : List Value),ROL (oldI W) W (enc al) vs∧vs.length = sz∧∀ j,j < sz→W.cell? ((a.add (i * sz)).add j) = vs[j]?:=by
   intro i hi
   have h1:=hel i hi
   rw [List.getElem?_eq_getElem (by omega)] at h1
   cases hc : W.cells? 0 (a.add (i * sz)) sz with
   | none=>rw [hc] at h1; cases h1
   | some vs =>
    rw [hc] at h1
    obtain ⟨al,hal⟩:=he H tok W _ _ _ vs _ h1
    have hg:=cells_get hc
    exact ⟨al,vs,hal,hg.1,hg.2⟩
  have gen : ∀ len : Nat,(∀ i,i < len→∃ (al : α) (vs : List Value),ROL (oldI W) W (enc al) vs∧vs.length = sz∧∀ j,j < sz→W.cell? ((a.add (i * sz)).add j) = vs[j]?)→∃ (l : List α) (g : Nat→Nat→Value),l.length = len∧∀ i al,l[i]? = some al→(enc al).length = sz∧(∀ j,j < sz→W.cell? ((a.add (i * sz)).add j) = some (g i j)∧(g i j).oneCell' = true)∧∀ j s,(enc al)[j]? = some s→RO (oldI W) W s (g i j):=by
   clear key hel hlen hcap hle h
   intro len key
   induction len with
   | zero=>exact ⟨[],fun _ _=>undef,rfl,by simp⟩
   | succ len ih =>
    obtain ⟨l,g,hl,hg⟩:=ih (fun i hi=>key i (by omega))
    obtain ⟨al,vs,k1,k2,k3⟩:=key len (by omega)
    refine ⟨l ++ [al],fun i j=>if i = len then vs.getD j undef else g i j,by simp [hl],fun i al' hi=>?_⟩
    rw [List.getElem?_append] at hi
    split at hi
    ·rename_i hlt
     have hne : i≠len:=by omega
     obtain ⟨g1,g2,g3⟩:=hg i al' hi
     exact ⟨g1,fun j hj=>by simpa only [if_neg hne] using g2 j hj,fun j s hs=>by simpa only [if_neg hne] using g3 j s hs⟩
    ·rename_i hlt
     have hil : i = len:=by
      have:=(List.getElem?_eq_some_iff.1 hi).1
      simp at this; omega
     subst hil
     have h00 : i - l.length = 0:=by omega
     rw [h00] at hi
     simp at hi
     subst hi
     refine ⟨by rw [k1.1,k2],fun j hj=>?_,fun j s hs=>?_⟩
     ·simp only [if_pos]
      have hjv : vs[j]? = some vs[j]:=List.getElem?_eq_getElem (by omega)
      rw [k3 j hj,hjv]
      simp only [List.getD_eq_getElem?_getD,hjv,Option.getD_some,true_and]
      exact k1.2.2 _ (List.getElem_mem _)
     ·simp only [if_pos]
      have hjl : j < vs.length:=by rw [←k1.1]; exact (List.getElem?_eq_some_iff.1 hs).1
      have hjv : vs[j]? = some vs[j]:=List.getElem?_eq_getElem hjl
      simp only [List.getD_eq_getElem?_getD,hjv,Option.getD_some]
      exact k1.2.1 j s _ hs hjv
  obtain ⟨l,g,hl,hg⟩:=gen len key
  have hspot : 0 < len→a.spot = none:=fun hpos=>by
   obtain ⟨al,hal⟩ : ∃ al,l[0]? = some al:=⟨_,List.getElem?_eq_getElem (by omega)⟩
   obtain ⟨_,g2,_⟩:=hg 0 al hal
   have:=(g2 0 h0).1
   obtain ⟨b,o,sp⟩:=a
   simp only [Nat.zero_mul,Addr.add,if_pos] at this
   exact (cell_lt this).2
  refine ⟨⟨(false,l),fun h=>by cases h⟩,.one (.sl g rfl (by simp [ST.den,hl]) hle hcap hspot (fun i hi=>?_) (fun i j hi hj=>?_) (fun i j hi hj=>?_) (fun i j s hi hs=>?_)) rfl⟩
  ·obtain ⟨al,hal⟩ : ∃ al,l[i]? = some al:=⟨_,List.getElem?_eq_getElem (by omega)⟩
   simp only [rowOfL,hal]
   exact (hg i al hal).1
  ·obtain ⟨al,hal⟩ : ∃ al,l[i]? = some al:=⟨_,List.getElem?_eq_getElem (by omega)⟩
   exact ((hg i al hal).2.1 j hj).2
  ·obtain ⟨al,hal⟩ : ∃ al,l[i]? = some al:=⟨_,List.getElem?_eq_getElem (by omega)⟩
   have hc:=((hg i al hal).2.1 j hj).1
   have e : (a.add (i * sz)).add j = ⟨a.block,a.off + (i * sz + j),none⟩:=by
    have hs:=hspot (by omega)
    obtain ⟨b,o,sp⟩:=a
    simp only at hs
    subst hs
    simp only [add_lit]
    congr 1
    omega
   rw [e] at hc
   exact ⟨hc,(cell_lt hc).1⟩
  ·obtain ⟨al,hal⟩ : ∃ al,l[i]? = some al:=⟨_,List.getElem?_eq_getElem (by omega)⟩
   simp only [rowOfL,hal] at hs
   exact (hg i al hal).2.2 j s hs
def OpenF (P : Program) (fs : List (Nat×TypeId)) (o len : Nat) {α : Type} (enc : α→List SV) : Prop :=
 ∀ (H : Type) (tok : TypeId×Value→H) (W : World) (spare : Nat→Bool) (held : Bool) (cs : List Value),cs.length = o + len→(∀ p∈fs,∃ fuel x,DataW.trod tok P W 0 spare held fuel p.2 ((cs.drop p.1).take (P.cellsOf p.2)) = some x)→∃ a,ROL (oldI W) W (enc a) (cs.drop o)
theorem OpenF.nil {o : Nat} : OpenF P [] o 0 (fun _ : Unit=>[]):=by
 intro H tok W spare held cs hl _
 rw [List.drop_of_length_le (by omega)]
 exact ⟨(),.nil⟩
theorem OpenF.cons {fs : List (Nat×TypeId)} (o n len : Nat) {t : TypeId} {α β : Type} {enc : α→List SV} {enc' : β→List SV} (hn : P.cellsOf t = n) (h : OpenT P t enc) (hs : OpenF P fs (o + n) len enc') : OpenF P ((o,t) :: fs) o (n + len) (fun x : α×β=>enc x.1 ++ enc' x.2):=by
 intro H tok W spare held cs hl hx
 obtain ⟨fuel,x,h1⟩:=hx (o,t) (List.mem_cons_self ..)
 simp only [hn] at h1
 obtain ⟨a,ha⟩:=h H tok W _ _ _ _ _ h1
 obtain ⟨b,hb⟩:=hs H tok W spare held cs (by omega) fun p hp=>hx p (List.mem_cons_of_mem _ hp)
 refine ⟨(a,b),?_⟩
 have e : cs.drop o = (cs.drop o).take n ++ cs.drop (o + n):=by rw [←List.drop_drop,List.take_append_drop]
 rw [e]
 exact ha.app hb
theorem OpenT.struct {t : TypeId} {fields : Array Field} {fs : List (Nat×TypeId)} {len : Nat} {α : Type} {enc : α→List SV} (ht : P.underlying t = some (.struct fields)) (hfs : (fields.toList.map fun f=>(f.offset,f.type)) = fs) (hlen : P.cellsOf t = len) (h : OpenF P fs 0 len enc) : OpenT P t enc:=by
 intro H tok W spare held fuel cs x hx
 obtain ⟨xs,n,_,_,hl,hxl,hf⟩:=DataW.trod_struct ht hx
 have:=h H tok W spare held cs (by omega) fun p hp=>?_
 ·simpa using this
 ·rw [←hfs,List.mem_map] at hp
  obtain ⟨f,hf1,rfl⟩:=hp
  obtain ⟨i,hi,hfi⟩:=List.mem_iff_getElem.1 hf1
  have hi' : i < fields.size:=by simpa using hi
  have:=hf i f (by rw [←hfi]; simp [hi'])
  rw [List.getElem?_eq_getElem (by omega)] at this
  exact ⟨n,_,this⟩
theorem law_run {gl : List (Nat×SV)} {f : FuncId} {xas : List SV} {W : World} {args : List Value} (h : CallsTo P gl f xas [] (.bool (.a true)) [])
  (hgl : ∀ g s,look g gl = some s→RO (oldI W) W s (.pointer (some ⟨g,0,none⟩))∧g < W.heap.size∧glBlk W g s) (hl : xas.length = args.length) (hr : ∀ (i : Nat) (s : SV) (v : Value),xas[i]? = some s→args[i]? = some v→RO (oldI W) W s v) :
  Calls P f ⟨args⟩ W fun e W'=>e = .returned (.bool true)∧Below W.heap.size W W':=by
 refine (h ⟨W,fun _=>False,oldI W,fun _=>none,fun _=>none,fun _=>none,[]⟩ ⟨fun _=>none,fun _=>none,fun _=>none,fun _=>none,fun _=>none,oldI W⟩ W args rfl (fun _ _ h=>h) (fun _ h=>absurd h (by simp)) ⟨rfl,rfl,rfl,Nat.le_refl _,fun _ _ _=>rfl,fun _ _ h=>⟨h,rfl⟩,fun _ _ h=>h,fun _ _ h=>.inl h,fun _ _ h=>(by cases h),⟨fun _ _ h=>(by cases h),fun _ _ h=>(by cases h),fun _ _ h=>(by cases h)⟩⟩ (fun g s h=>⟨(hgl g s h).1,(hgl g s h).2.1,fun h=>h,(hgl g s h).2.2⟩) (fun h=>?_) ⟨hl,fun i s v a b=>.ro (hr i s v a b)⟩).mono fun e W' hq=>?_
 ·simp only [hfOf,nth]
  exact ⟨rfl,rfl,rfl,rfl⟩
 ·obtain ⟨v,E',rfl,hb,_,hv⟩:=hq
  rw [hv.bool_inv]
  exact ⟨rfl,⟨hb.os,hb.tape,hb.output,hb.size,fun k hk=>hb.old k hk (fun h=>h)⟩⟩
section
variable {H : Type} {enc : TypeId×Value→H}
theorem post_of_below {f : Func} {s : ChangeSpec} {apart fresh handsOn again : Bool} {W W' : World} {args : Array Value} {v : Value} {ds gs : List (DataW H)} {before pa pv : List MemPlace}
  (hW : DataW.Whole enc P f.params.toList s.vars apart W args.toList ds gs before)
  (hres : ∀ (b : Nat) (sp : Nat→Bool) (hd : Bool),DataW.TrodAll enc P W' b sp hd f.resultTypes.toList (v.resultList f.resultTypes.size) (s.fn H (ds ++ gs)).results [])
  (hargs : ∀ sp : Nat→Bool,(∀ p∈before,sp p.block = true)→DataW.TrodAll enc P W' 0 sp true f.params.toList args.toList (s.fn H (ds ++ gs)).args pa)
  (hvars : ∀ sp : Nat→Bool,(∀ p∈before,sp p.block = true)→DataW.TrodVars enc P W' sp s.vars (s.fn H (ds ++ gs)).vars pv)
  (hps : before = pa ++ pv) (hb : Below W.heap.size W W')
  (hok : ∀ (j : Nat) (t : TypeId) (r : Value),f.resultTypes[j]? = some t→(v.resultList f.resultTypes.size)[j]? = some r→Value.okWide P W' .any 0 t r) :
  s.post enc P f apart fresh handsOn again W args v W':=by
 have hlt : ∀ p∈before,p.block < W.heap.size:=fun p hp=>hW.lt p hp
 have hold : ∀ p∈before,(fun b=>decide (b < W.heap.size)) p.block = true:=fun p hp=>by simpa using hlt p hp
 refine ⟨ds,gs,before,[],pa,pv,hW,hres _ _ _,hargs _ hold,hvars _ hold,World.keptBut_mono (fun p hp=>⟨hp,?_⟩) (hb.frame (·∈before)),fun _=>?_⟩
 ·rw [hps,List.mem_append] at hp
  exact Or.inr hp
 ·obtain ⟨_,_,_,_,_,hz,hn⟩:=hW
  refine ⟨hok,_,_,([] ++ pa) ++ pv,⟨[] ++ pa,pv,trodAll_append (hargs _ (fun _ _=>rfl)) (hres _ _ _),hvars _ (fun _ _=>rfl),rfl,?_,?_⟩,?_⟩
  ·intro b off hp
   have hin : MemPlace.cell b off∈before:=by rw [hps]; simpa using hp
   rw [hb.frozen (hlt _ hin)]
   exact hz b off hin
  ·intro ha
   have:=hn ha
   rw [hps] at this
   simpa using this
  ·intro p hp _
   rw [hps]
   simpa using hp
theorem trodAll_below (hl : laidOutB P = true) {W W' : World} {sp : Nat→Bool} (hb : Below W.heap.size W W') : ∀ {ts : List TypeId} {vs : List Value} {ds : List (DataW H)} {ps : List MemPlace},(∀ t∈ts,P.readableRec t = true∧t < P.types.size)→
  DataW.TrodAll enc P W 0 (fun _=>true) true ts vs ds ps→(∀ p∈ps,p.block < W.heap.size)→(∀ p∈ps,sp p.block = true)→DataW.TrodAll enc P W' 0 sp true ts vs ds ps
 | [],[],[],_,_,h,_,_=>h
 | t :: ts,v :: vs,d :: ds,ps,ht,h,hlt,hs=>by
  obtain ⟨p,q,h1,h2,rfl⟩:=h
  refine ⟨p,q,WideElems.Trod_stays hl (ht t (List.mem_cons_self ..)).1 (ht t (List.mem_cons_self ..)).2 h1 (fun x hx=>hb.same (hlt x (List.mem_append_left _ hx))) (fun x hx=>hs x (List.mem_append_left _ hx)),?_,rfl⟩
  exact trodAll_below hl hb (fun t h=>ht t (List.mem_cons_of_mem _ h)) h2 (fun x hx=>hlt x (List.mem_append_right _ hx)) (fun x hx=>hs x (List.mem_append_right _ hx))
 | [],_ :: _,_,_,_,h,_,_=>h.elim
 | [],[],_ :: _,_,_,h,_,_=>h.elim
 | _ :: _,[],_,_,_,h,_,_=>h.elim
 | _ :: _,_ :: _,[],_,_,h,_,_=>h.elim
theorem law_post (hl : laidOutB P = true) {fn : Func} {s : ChangeSpec} {apart fresh handsOn again : Bool} {W W' : World} {args : Array Value} {ds gs : List (DataW H)} {before : List MemPlace} {tb : TypeId}
  (hts : ∀ t∈fn.params.toList,P.readableRec t = true∧t < P.types.size) (hv : s.vars = []) (hres : fn.resultTypes = #[tb]) (htb : P.underlying tb = some .bool)
  (hW : DataW.Whole enc P fn.params.toList s.vars apart W args.toList ds gs before) (hfn : (s.fn H (ds ++ gs)) = { results:=[.lit (.bool true)],args:=ds }) (hb : Below W.heap.size W W') :
  s.post enc P fn apart fresh handsOn again W args (.bool true) W':=by
 have hW':=hW
 obtain ⟨p,q,hA,hV,rfl,hz,hn⟩:=hW
 have hlt : ∀ x∈p ++ q,x.block < W.heap.size:=fun x hx=>hW'.lt x hx
 have hq : gs = []∧q = []:=by rw [hv] at hV; exact trodVars_none hV
 obtain ⟨rfl,rfl⟩:=hq
 refine post_of_below (pa:=p) (pv:=[]) hW' (fun b sp hd=>?_) (fun sp hs=>?_) (fun sp hs=>?_) (by simp) hb (ok_one hres rfl (okWide_bool_mk htb _))
 ·rw [hfn,hres]
  exact trodAll_mk1 (shut_bool htb true)
 ·rw [hfn]
  exact trodAll_below hl hb hts hA (fun x hx=>hlt x (by simp [hx])) (fun x hx=>hs x (by simp [hx]))
 ·rw [hfn,hv]
  rfl
end
theorem arg_one {I : Nat→Nat→Prop} {W : World} {s : SV} {v : Value} (hn : ∀ a,v≠.agg a) (h : ROL I W [s] v.cells.toList) : RO I W s v:=by
 cases v with
 | agg a=>exact absurd rfl (hn a)
 | _=>exact h.2.1 0 s _ rfl (by simp [Value.cells])
theorem arg_string {I : Nat→Nat→Prop} {W : World} {r : Reach} {base : Nat} {t : TypeId} {s : SV} {v : Value} (ht : P.underlying t = some .string) (hv : Value.okWide P W r base t v) (h : ROL I W [s] v.cells.toList) : RO I W s v:=by
 obtain ⟨n,rfl⟩:=okWide_string ht hv
 exact arg_one (fun _ h=>by cases h) h
end
end Go.Sx
namespace Go.Proofs.YtefelnhpfdcleaaGreatDoor
open Go Go.Sx Go.RowKit Go.Sort
set_option maxRecDepth 100000
set_option maxHeartbeats 2000000
theorem relL_three {E : Env} {w : World} {a b c : SV} {vals : List Value} (h : RelL E w [a,b,c] vals) : ∃ v u t,vals = [v,u,t]∧Rel E w a v∧Rel E w b u∧Rel E w c t:=by
 match vals,h with
 | [v,u,t],h=>exact ⟨v,u,t,rfl,h.2 0 a v rfl rfl,h.2 1 b u rfl rfl,h.2 2 c t rfl rfl⟩
 | [],h=>exact absurd h.1 (by simp)
 | [_],h=>exact absurd h.1 (by simp)
 | [_,_],h=>exact absurd h.1 (by simp)
 | _ :: _ :: _ :: _ :: _,h=>exact absurd h.1 (by simp)
theorem idxB_ok : FnOk Tryz.prog [] 105 spIdxB:=by
 refine ⟨⟨Tryz.f105,_,Tryz.func105,rfl,by kernel_rfl⟩,fun xs ls K h=>?_⟩
 obtain ⟨s,c,rfl,rfl,hc,h⟩:=h
 refine ⟨_,_,h _ rfl,callsTo_below fun E B w vals _ _ _ hr=>?_⟩
 obtain ⟨v,u,rfl,hv,hu⟩:=relL_two hr
 rw [rel_str hv,rel_int hu]
 refine (sh_strings_IndexByte ⟨s.toArray⟩ c w).mono ?_
 rintro e w' ⟨rfl,rfl⟩
 exact ⟨_,rfl,fun E=>.ro (.int rfl),Below.refl _ _⟩
def spHasPre : FSpec:=fun _ xs ls K=>∃ (s p : List UInt8),xs = [.str s,.str p]∧ls = []∧∀ r,r = Lib.hasPrefix s p→K (.bool (.a r)) []
theorem hasPre_ok : FnOk Tryz.prog gl 71 spHasPre:=by
 refine ⟨⟨Tryz.f71,_,Tryz.func71,rfl,by kernel_rfl⟩,fun xs ls K h=>?_⟩
 obtain ⟨s,p,rfl,rfl,h⟩:=h
 refine ⟨_,_,h _ rfl,callsTo_below fun E B w vals _ _ _ hr=>?_⟩
 obtain ⟨v,u,rfl,hv,hu⟩:=relL_two hr
 rw [rel_str hv,rel_str hu]
 refine (sh_strings_HasPrefix ⟨s.toArray⟩ ⟨p.toArray⟩ w).mono ?_
 rintro e w' ⟨rfl,rfl⟩
 exact ⟨_,rfl,fun E=>.ro (.bool rfl),Below.refl _ _⟩
def spCutSuf : FSpec:=fun _ xs ls K=>∃ (s p : List UInt8),xs = [.str s,.str p]∧ls = []∧s.length≤9223372036854775807∧∀ r b,r = Lib.trimSuffix s p→b = Lib.hasSuffix s p→K (.tup [.str r,.bool (.a b)]) []
theorem cutSuf_ok : FnOk Tryz.prog gl 90 spCutSuf:=by
 refine ⟨⟨Tryz.f90,_,Tryz.func90,rfl,by kernel_rfl⟩,fun xs ls K h=>?_⟩
 obtain ⟨s,p,rfl,rfl,hs,h⟩:=h
 refine ⟨_,_,h _ _ rfl rfl,callsTo_below fun E B w vals _ _ _ hr=>?_⟩
 obtain ⟨v,u,rfl,hv,hu⟩:=relL_two hr
 rw [rel_str hv,rel_str hu]
 refine (sh_strings_CutSuffix ⟨s.toArray⟩ ⟨p.toArray⟩ w (by simpa [ByteArray.size] using hs)).mono ?_
 rintro e w' ⟨rfl,rfl⟩
 refine ⟨_,rfl,fun E=>?_,Below.refl _ _⟩
 refine .tup rfl fun i x y a b=>?_
 match i,a,b with
 | 0,a,b=>cases a; cases b; exact .ro (.str rfl)
 | 1,a,b=>cases a; cases b; exact .ro (.bool rfl)
def spCont1 : FSpec:=fun _ xs ls K=>∃ (s : List UInt8) (c : UInt8),xs = [.str s,.str [c]]∧ls = []∧∀ r,r = decide (0≤Lib.indexByte s c)→K (.bool (.a r)) []
theorem cont1_ok : FnOk Tryz.prog gl 91 spCont1:=by
 refine ⟨⟨Tryz.f91,_,Tryz.func91,rfl,by kernel_rfl⟩,fun xs ls K h=>?_⟩
 obtain ⟨s,c,rfl,rfl,h⟩:=h
 refine ⟨_,_,h _ rfl,callsTo_below fun E B w vals _ _ _ hr=>?_⟩
 obtain ⟨v,u,rfl,hv,hu⟩:=relL_two hr
 rw [rel_str hv,rel_str hu]
 refine (sh_strings_Contains_one ⟨s.toArray⟩ c w).mono ?_
 rintro e w' ⟨rfl,rfl⟩
 exact ⟨_,rfl,fun E=>.ro (.bool rfl),Below.refl _ _⟩
theorem kPow : Tryz.prog.globalNamed "internal/strconv.uint64pow10" = some 6:=by kernel_rfl
theorem kErrR : Tryz.prog.globalNamed "strconv.ErrRange" = some 5:=by kernel_rfl
theorem tab_of {B : Bs} (hg : glOk B gl) : Lib.TabIs Tryz.prog B.w0 "internal/strconv.uint64pow10" .u64 Lib.pow10Tab:=by
 obtain ⟨h1,h2,h3,C,t,fr,h4,h5⟩:=hg 6 (.rarr 20 1 powRow) rfl
 unfold Lib.TabIs World.var?
 rw [kPow]
 simp only [Option.bind_some,h4,Option.some.injEq]
 generalize hp : Value.pointer (some ⟨6,0,none⟩) = p at h1
 cases h1 with
 | rarr g hs hl h1 hcell hrel =>
  cases hp
  refine Array.ext (by rw [h5]; simp [Lib.pow10Tab_length]) fun i hi hi'=>?_
  rw [h5] at hi
  have hc:=(hcell i 0 (by omega) (by omega)).1
  have hr:=hrel i 0 (.int .u64 (.a (Lib.pow10Tab.getD i 0))) (by omega) rfl
  have e : C[i]? = some (g i 0):=by
   rw [←hc]
   simp [World.cell?,h4]
  rw [Array.getElem?_eq_getElem (by omega)] at e
  have e2 : g i 0 = .int .u64 (Lib.pow10Tab.getD i 0):=by
   generalize g i 0 = v at hr
   cases hr with
   | int h=>rw [←h]; rfl
  rw [e2] at e
  rw [Option.some.inj e]
  have hi20 : i < Lib.pow10Tab.length:=by rw [Lib.pow10Tab_length]; omega
  simp [List.getD_eq_getElem?_getD,List.getElem?_eq_getElem hi20]
theorem err_of {B : Bs} (hg : glOk B gl) : ∃ tp p,B.w0.var? Tryz.prog "strconv.ErrRange" = some #[.iface tp p]:=by
 obtain ⟨h1,h2,h3,C,t,fr,h4,h5⟩:=hg 5 (.rarr 1 1 errRow) rfl
 unfold World.var?
 rw [kErrR]
 simp only [Option.bind_some,h4,Option.some.injEq]
 generalize hp : Value.pointer (some ⟨5,0,none⟩) = p at h1
 cases h1 with
 | rarr g hs hl h1 hcell hrel =>
  cases hp
  have hc:=(hcell 0 0 (by omega) (by omega)).1
  have hr:=hrel 0 0 (.ifc (.l false)) (by omega) rfl
  have e : C[0]? = some (g 0 0):=by
   rw [←hc]
   simp [World.cell?,h4]
  cases hr with
  | ifc h =>
   rcases h with ⟨_,h⟩ | ⟨⟨tp,q,h⟩,_⟩
   ·cases h
   ·rw [h] at e
    refine ⟨tp,q,?_⟩
    refine Array.ext (by rw [h5]; rfl) fun i hi hi'=>?_
    have : i = 0:=by rw [h5] at hi; omega
    subst this
    rw [Array.getElem?_eq_getElem (by omega)] at e
    exact Option.some.inj e
def spItoa : FSpec:=fun _ xs ls K=>∃ (n : Int),xs = [.int .i64 (.a n)]∧ls = []∧-9223372036854775808≤n∧n≤9223372036854775807∧∀ r,r = Lib.itoa n→K (.str r) []
theorem below_grow {w : World} {k : Nat} {os : Array Obj} : Below w.heap.size w (grow (w.drewN k) os):=by
 refine ⟨rfl,rfl,rfl,?_,fun j hj=>?_⟩
 ·simp [grow,World.drewN]
 ·show (w.heap ++ os)[j]? = w.heap[j]?
  rw [Array.getElem?_append_left hj]
theorem itoa_ok : FnOk Tryz.prog gl 140 spItoa:=by
 refine ⟨⟨Tryz.f140,_,Tryz.func140,rfl,by kernel_rfl⟩,fun xs ls K h=>?_⟩
 obtain ⟨n,rfl,rfl,h0,h1,h⟩:=h
 refine ⟨_,_,h _ rfl,callsTo_below fun E B w vals hg hb hw hr=>?_⟩
 obtain ⟨v,rfl,hv⟩:=relL_one hr
 rw [rel_int hv]
 refine (sh_strconv_Itoa n h0 h1 w (by rw [←hw]; exact tab_of hg)).mono ?_
 rintro e w' ⟨rfl,k,os,rfl⟩
 exact ⟨_,rfl,fun E=>.ro (.str rfl),below_grow⟩
def spFmt : FSpec:=fun _ xs ls K=>∃ (n b : Int),xs = [.int .i64 (.a n),.int .i64 (.a b)]∧ls = []∧-9223372036854775808≤n∧n≤9223372036854775807∧b = 10∧∀ r,r = Lib.itoa n→K (.str r) []
theorem fmt_ok : FnOk Tryz.prog gl 139 spFmt:=by
 refine ⟨⟨Tryz.f139,_,Tryz.func139,rfl,by kernel_rfl⟩,fun xs ls K h=>?_⟩
 obtain ⟨n,b,rfl,rfl,h0,h1,rfl,h⟩:=h
 refine ⟨_,_,h _ rfl,callsTo_below fun E B w vals hg hb hw hr=>?_⟩
 obtain ⟨v,u,rfl,hv,hu⟩:=relL_two hr
 rw [rel_int hv,rel_int hu]
 refine (sh_strconv_FormatInt_10 n h0 h1 w (by rw [←hw]; exact tab_of hg)).mono ?_
 rintro e w' ⟨rfl,k,os,rfl⟩
 exact ⟨_,rfl,fun E=>.ro (.str rfl),below_grow⟩
def fair {α : Type} : Lib.NumEnd α→Bool
 | .ok _=>true
 | .range=>true
 | _=>false
def pInt (s : List UInt8) : Int×Bool:=match Lib.parseIntB 64 s with
 | .ok v=>(v,true)
 | .range=>(Lib.intSat 64 s,false)
 | _=>(0,false)
structure IntS (s : List UInt8) (b z : Int) : Prop where
 b : b = 10
 z : z = 64
 len : s.length≤100000
 ok : fair (Lib.parseIntB 64 s) = true
def spPInt : FSpec:=fun _ xs ls K=>∃ (s : List UInt8) (b z : Int),xs = [.str s,.int .i64 (.a b),.int .i64 (.a z)]∧ls = []∧IntS s b z∧∀ v e,(v,e) = pInt s→K (.tup [.int .i64 (.a v),.ifc (.a e)]) []
theorem pInt_ok : FnOk Tryz.prog gl 126 spPInt:=by
 refine ⟨⟨Tryz.f126,_,Tryz.func126,rfl,by kernel_rfl⟩,fun xs ls K h=>?_⟩
 obtain ⟨s,b,z,rfl,rfl,I,h⟩:=h
 obtain ⟨rfl,rfl,hl,hok⟩:=I
 refine ⟨_,_,h (pInt s).1 (pInt s).2 rfl,callsTo_below fun E B w vals hg hb hw hr=>?_⟩
 obtain ⟨v,u,t,rfl,hv,hu,ht⟩:=relL_three hr
 rw [rel_str hv,rel_int hu,rel_int ht]
 rcases hp : Lib.parseIntB 64 s with x | _ | _
 ·skip
  have e : pInt s = (x,true):=by rw [pInt,hp]
  rw [e]
  refine (sh_strconv_ParseInt_10_at64_ok ⟨s.toArray⟩ (by simp [ByteArray.size]; omega) x hp w).mono ?_
  rintro e w' ⟨rfl,hw'⟩
  refine ⟨_,rfl,fun E=>?_,?_⟩
  ·refine .tup rfl fun i x y a b=>?_
   match i,a,b with
   | 0,a,b=>cases a; cases b; exact .ro (.int rfl)
   | 1,a,b=>cases a; cases b; exact .ro (.ifc (.inl ⟨rfl,rfl⟩))
  ·rcases hw' with rfl | ⟨t,rfl⟩
   ·exact Below.refl _ _
   ·exact Lib.bytesWorld_below _ _ _
 ·rw [hp] at hok
  cases hok
 ·skip
  have e : pInt s = (Lib.intSat 64 s,false):=by rw [pInt,hp]
  rw [e]
  obtain ⟨tp,p,hvar⟩:=err_of hg
  rw [hw] at hvar
  refine (sh_strconv_ParseInt_10_at64_range_var ⟨s.toArray⟩ (by simp [ByteArray.size]; omega) hp tp p w hvar).mono ?_
  rintro e w' ⟨N,rfl,_,_,hB⟩
  refine ⟨_,rfl,fun E=>?_,hB⟩
  refine .tup rfl fun i x y a b=>?_
  match i,a,b with
  | 0,a,b=>cases a; cases b; exact .ro (.int rfl)
  | 1,a,b=>cases a; cases b; exact .ro (.ifc (.inr ⟨⟨_,_,rfl⟩,rfl⟩))
end Go.Proofs.YtefelnhpfdcleaaGreatDoor
namespace Go.Sx
open Go Go.ChangeShapes Go.WideShapes Go.RowKit
section
variable {P : Program}
end
end Go.Sx
namespace Go.Proofs.YtefelnhpfdcleaaGreatDoor
open Go Go.Sx Go.ChangeShapes Go.WideShapes Go.RowKit
set_option maxRecDepth 100000
theorem kOwn : ownKnob Tryz.prog.godebug = none:=by kernel_rfl
theorem kLaidOut : laidOutB Tryz.prog = true:=by kernel_rfl
abbrev laidV : List (String×DataW Unit):=[("math/bits.deBruijn32tab",Rows.laid_math_bits_deBruijn32tab),("math/bits.deBruijn64tab",Rows.laid_math_bits_deBruijn64tab),("internal/strconv.uint64pow10",Rows.laid_internal_strconv_uint64pow10),("unicode/utf8.acceptRanges",Rows.laid_unicode_utf8_acceptRanges),("strconv.ErrRange",Rows.laid_strconv_ErrRange),("strconv.ErrSyntax",Rows.laid_strconv_ErrSyntax),("spillway/request.methods",Rows.laid_spillway_request_methods),("unicode/utf8.first",Rows.laid_unicode_utf8_first)]
theorem door_fits (os : Os) : (World.holding Tryz.prog os ⟨#[],#[],[]⟩).layFits Tryz.prog laidV [] = true:=by kernel_rfl
theorem door_ifaces (os : Os) : (World.holding Tryz.prog os ⟨#[],#[],[]⟩).layIfaces Tryz.prog laidV (World.laidAll Tryz.prog os laidV) = true:=by kernel_rfl
theorem door_met (os : Os) (args : Array Value) : laidMetH Tryz.prog laidV ((World.laidAll Tryz.prog os laidV).forCall (fun _ _=>0) ⟨#[],args,[]⟩).memory:=by
 rw [MakeChecks.laidMetH_plain _ _ _ (by kernel_rfl)]
 exact laidMet_laidAll _ (door_fits os) (door_ifaces os)
theorem kPowT : (Tryz.prog.globals[6]?).map (·.type) = some 190:=by kernel_rfl
theorem kPowU : Tryz.prog.underlying 190 = some (.array 20 165):=by kernel_rfl
theorem kPowE : Tryz.prog.underlying 165 = some (.int .u64):=by kernel_rfl
theorem kPowC : Tryz.prog.cellsOf 165 = 1:=by kernel_rfl
theorem kPowD : Tryz.prog.cellsOf 190 = 20:=by kernel_rfl
theorem kMet : Tryz.prog.globalNamed "spillway/request.methods" = some 0:=by kernel_rfl
theorem kMetT : (Tryz.prog.globals[0]?).map (·.type) = some 92:=by kernel_rfl
theorem kC92 : Tryz.prog.cellsOf 92 = 24:=by kernel_rfl
theorem kC91 : Tryz.prog.cellsOf 91 = 4:=by kernel_rfl
theorem kC4 : Tryz.prog.cellsOf 4 = 1:=by kernel_rfl
theorem kC9 : Tryz.prog.cellsOf 9 = 1:=by kernel_rfl
theorem kF91 : (match Tryz.prog.underlying 91 with | some (.struct fs)=>fs.toList.map (fun f=>(f.offset,f.type)) | _=>[]) = [(0,9),(1,4),(2,4),(3,4)]:=by kernel_rfl
theorem kErrT : (Tryz.prog.globals[5]?).map (·.type) = some 107:=by kernel_rfl
theorem kC196 : Tryz.prog.cellsOf 196 = 1:=by kernel_rfl
theorem kStar : "*" ++ "errors.errorString" = "*errors.errorString":=by decide
theorem kRow194 (u : TypeId) (h : Tryz.prog.typeName? 3 u = some "*errors.errorString") : u = 194 :=
 typeName_ptr_named (nm:="errors.errorString") (by rw [kStar]; kernel_rfl) (by kernel_rfl) (by decide) u (by rw [kStar]; exact h)
theorem met4 {H : Type} {tok : TypeId×Value→H} {W : World} {base : Nat} {spare : Nat→Bool} {held : Bool} {fuel : Nat} {cs : List Value} {s : List UInt8} {a b c : Bool} {ps : List MemPlace} (h : DataW.trod tok Tryz.prog W base spare held fuel 91 cs = some (.agg [.lit (.string s),.lit (.bool a),.lit (.bool b),.lit (.bool c)],ps)) : cs = [.string (Sx.bytes s),.bool a,.bool b,.bool c]:=by
 cases hu : Tryz.prog.underlying 91 with
 | none=>have:=kF91; rw [hu] at this; cases this
 | some d =>
  cases d with
  | struct fs =>
   have hf:=kF91
   rw [hu] at hf
   simp only at hf
   obtain ⟨xs,n,_,hx,hl,hxl,hel⟩:=DataW.trod_struct hu h
   rw [kC91] at hl
   have hs : fs.size = 4:=by have:=congrArg List.length hf; simpa using this
   match cs,hl with
   | [c0,c1,c2,c3],_ =>
    have fk : ∀ (k o t : Nat),[(0,9),(1,4),(2,4),(3,4)][k]? = some (o,t)→∃ fd,fs[k]? = some fd∧fd.offset = o∧fd.type = t:=by
     intro k o t hk
     rw [←hf,List.getElem?_map] at hk
     cases hfd : fs.toList[k]? with
     | none=>rw [hfd] at hk; cases hk
     | some fd =>
      rw [hfd] at hk
      simp only [Option.map_some,Option.some.injEq,Prod.mk.injEq] at hk
      exact ⟨fd,by rw [←hfd,Array.getElem?_toList],hk.1,hk.2⟩
    obtain ⟨d0,g0,o0,t0⟩:=fk 0 0 9 rfl
    obtain ⟨d1,g1,o1,t1⟩:=fk 1 1 4 rfl
    obtain ⟨d2,g2,o2,t2⟩:=fk 2 2 4 rfl
    obtain ⟨d3,g3,o3,t3⟩:=fk 3 3 4 rfl
    have e0:=hel 0 _ g0
    have e1:=hel 1 _ g1
    have e2:=hel 2 _ g2
    have e3:=hel 3 _ g3
    rw [o0,t0,kC9] at e0
    rw [o1,t1,kC4] at e1
    rw [o2,t2,kC4] at e2
    rw [o3,t3,kC4] at e3
    rw [hs] at hxl
    match xs,hxl,hx,e0,e1,e2,e3 with
    | [x0,x1,x2,x3],_,hx,e0,e1,e2,e3 =>
     simp only [Prod.mk.injEq,DataW.agg.injEq,List.map_cons,List.map_nil,List.cons.injEq] at hx
     simp at e0 e1 e2 e3
     obtain ⟨b0,q0,r0,_⟩:=DataW.trod_string Tryz.underlying9 e0
     obtain ⟨b1,q1,r1⟩:=DataW.trod_bool Tryz.underlying4 e1
     obtain ⟨b2,q2,r2⟩:=DataW.trod_bool Tryz.underlying4 e2
     obtain ⟨b3,q3,r3⟩:=DataW.trod_bool Tryz.underlying4 e3
     simp at q0 q1 q2 q3
     subst q0 q1 q2 q3 r0 r1 r2 r3
     simp at hx
     rw [hx.1.1,hx.1.2.1,hx.1.2.2.1,hx.1.2.2.2]
     rfl
  | _=>have:=kF91; rw [hu] at this; cases this
def metVals : List Value:=[.string (Sx.bytes [71,69,84]),.bool true,.bool true,.bool true,.string (Sx.bytes [72,69,65,68]),.bool true,.bool true,.bool true,.string (Sx.bytes [79,80,84,73,79,78,83]),.bool true,.bool true,.bool false,.string (Sx.bytes [84,82,65,67,69]),.bool true,.bool true,.bool true,.string (Sx.bytes [80,85,84]),.bool false,.bool true,.bool false,.string (Sx.bytes [68,69,76,69,84,69]),.bool false,.bool true,.bool false]
theorem met_cells {W : World} (h : laidMet Tryz.prog (laidV.drop 6) W) : ∃ (cs : Array Value) (t : TypeId) (fr : Nat×Nat),W.heap[0]? = some (.cells cs t fr)∧cs.toList = metVals:=by
 obtain ⟨ps,⟨g0,t0,cs0,f0,p0,q0,hg0,ht0,hv0,hd0,_,_⟩,_,_⟩:=h
 obtain rfl:=Option.some.inj (kMet.symm.trans hg0)
 obtain rfl:=Option.some.inj (kMetT.symm.trans ht0)
 obtain ⟨xs,m1,rfl,hx1,hlen,hn3,hel⟩:=DataW.trod_array Tryz.underlying92 hd0
 rw [kC91] at hel
 rw [kC92] at hlen
 simp only [Prod.mk.injEq,Rows.laid_spillway_request_methods,DataW.agg.injEq] at hx1
 have hrow : ∀ (i : Nat) s a b c,i < 6→[DataW.agg [.lit (.string [71,69,84]),.lit (.bool true),.lit (.bool true),.lit (.bool true)],.agg [.lit (.string [72,69,65,68]),.lit (.bool true),.lit (.bool true),.lit (.bool true)],.agg [.lit (.string [79,80,84,73,79,78,83]),.lit (.bool true),.lit (.bool true),.lit (.bool false)],.agg [.lit (.string [84,82,65,67,69]),.lit (.bool true),.lit (.bool true),.lit (.bool true)],.agg [.lit (.string [80,85,84]),.lit (.bool false),.lit (.bool true),.lit (.bool false)],.agg [.lit (.string [68,69,76,69,84,69]),.lit (.bool false),.lit (.bool true),.lit (.bool false)]][i]? = some (DataW.agg (H:=Unit) [.lit (.string s),.lit (.bool a),.lit (.bool b),.lit (.bool c)])→(cs0.toList.drop (i * 4)).take 4 = [.string (Sx.bytes s),.bool a,.bool b,.bool c]:=by
  intro i s a b c hi hd
  rw [hx1.1,List.getElem?_map] at hd
  have:=hel i hi
  cases hxi : xs[i]? with
  | none=>rw [hxi] at hd; cases hd
  | some x =>
   rw [hxi] at hd this
   obtain ⟨x1,x2⟩:=x
   simp only [Option.map_some,Option.some.injEq] at hd
   subst hd
   exact met4 this
 have h0:=hrow 0 _ _ _ _ (by omega) rfl
 have h1:=hrow 1 _ _ _ _ (by omega) rfl
 have h2:=hrow 2 _ _ _ _ (by omega) rfl
 have h3:=hrow 3 _ _ _ _ (by omega) rfl
 have h4:=hrow 4 _ _ _ _ (by omega) rfl
 have h5:=hrow 5 _ _ _ _ (by omega) rfl
 have step : ∀ (k : Nat) (v : List Value),(cs0.toList.drop k).take 4 = v→cs0.toList.drop k = v ++ cs0.toList.drop (k + 4):=by
  intro k v hv
  rw [←hv,←List.drop_drop,List.take_append_drop]
 have hall : cs0.toList = metVals:=by
  have e0:=step 0 _ h0
  rw [List.drop_zero] at e0
  rw [e0,step 4 _ h1,step 8 _ h2,step 12 _ h3,step 16 _ h4,step 20 _ h5,List.drop_eq_nil_of_le (by omega)]
  rfl
 unfold World.var? at hv0
 rw [kMet] at hv0
 simp only [Option.bind_some] at hv0
 split at hv0
 ·rename_i cs t fr hc
  cases hv0
  exact ⟨_,t,fr,hc,hall⟩
 ·cases hv0
theorem met_one : ∀ v,v∈metVals→v.oneCell' = true:=by decide +kernel
theorem met_rel {I : Nat→Nat→Prop} {W : World} : ∀ (j : Nat) (s : SV),methodCells[j]? = some s→∃ v,metVals[j]? = some v∧RO I W s v:=by
 have key : ∀ (l : List SV) (m : List Value),(∀ (x : SV×Value),x∈l.zip m→(∃ t,x = (.str t,.string (Sx.bytes t)))∨∃ b,x = (.bool (.l b),.bool b))→l.length = m.length→∀ (j : Nat) (s : SV),l[j]? = some s→∃ v,m[j]? = some v∧RO I W s v:=by
  intro l m h hl j s hj
  obtain ⟨hjl,e⟩:=List.getElem?_eq_some_iff.1 hj
  have hm : m[j]? = some (m[j]'(by omega)):=List.getElem?_eq_getElem (by omega)
  refine ⟨_,hm,?_⟩
  have hz : (s,m[j]'(by omega))∈l.zip m:=by
   apply List.mem_iff_getElem?.2
   exact ⟨j,by rw [List.getElem?_zip_eq_some]; exact ⟨hj,hm⟩⟩
  rcases h _ hz with ⟨t,e⟩ | ⟨b,e⟩
  ·obtain ⟨e1,e2⟩:=Prod.mk.inj e
   rw [e1,e2]
   exact .str rfl
  ·obtain ⟨e1,e2⟩:=Prod.mk.inj e
   rw [e1,e2]
   exact .bool rfl
 refine key methodCells metVals ?_ rfl
 intro x hx
 simp only [methodCells,metVals,List.zip_cons_cons,List.zip_nil_left,List.mem_cons,List.not_mem_nil,or_false] at hx
 rcases hx with rfl | rfl | rfl | rfl | rfl | rfl | rfl | rfl | rfl | rfl | rfl | rfl | rfl | rfl | rfl | rfl | rfl | rfl | rfl | rfl | rfl | rfl | rfl | rfl
 all_goals first
  | exact .inl ⟨_,rfl⟩
  | exact .inr ⟨_,rfl⟩
theorem gl_of {W : World} (h : laidMetH Tryz.prog laidV W) : ∀ g s,Sx.look g gl = some s→RO (oldI W) W s (.pointer (some ⟨g,0,none⟩))∧g < W.heap.size∧glBlk W g s:=by
 rw [MakeChecks.laidMetH_plain _ _ _ (by kernel_rfl)] at h
 have ht : Lib.TabIs Tryz.prog W "internal/strconv.uint64pow10" .u64 Lib.pow10Tab :=
  Lib.tabIs_of_head kPow kPowT kPowU kPowE kPowC kPowD (h.tail.tail)
 obtain ⟨mc,mt,mf,hm1,hm2⟩:=met_cells h.tail.tail.tail.tail.tail.tail
 obtain ⟨ea,es,he1,_,_,_⟩:=laid_sentinel h.tail.tail.tail.tail kErrR kErrT Tryz.underlying107 kRow194 Tryz.underlying194 Tryz.underlying196 rfl rfl Tryz.underlying9 kC196 kC9
 intro g s hs
 simp only [Sx.look,gl] at hs
 split at hs
 ·rename_i e
  have e : 0 = g:=by simpa using e
  subst e
  cases hs
  have hlt : 0 < W.heap.size:=(Array.getElem?_eq_some_iff.1 hm1).1
  refine ⟨.rptr (fun j=>metVals.getD j undef) rfl (fun j hj=>?_) (fun j hj=>⟨?_,hlt⟩) (fun j s hs=>?_),hlt,trivial⟩
  ·obtain ⟨s,hs⟩ : ∃ s,methodCells[j]? = some s:=⟨_,List.getElem?_eq_getElem hj⟩
   obtain ⟨v,hv,_⟩:=met_rel (I:=oldI W) (W:=W) j s hs
   rw [List.getD_eq_getElem?_getD,hv]
   exact met_one _ (List.mem_of_getElem? hv)
  ·obtain ⟨s,hs⟩ : ∃ s,methodCells[j]? = some s:=⟨_,List.getElem?_eq_getElem hj⟩
   obtain ⟨v,hv,_⟩:=met_rel (I:=oldI W) (W:=W) j s hs
   rw [List.getD_eq_getElem?_getD,hv]
   rw [←hm2,Array.getElem?_toList] at hv
   simp [World.cell?,hm1,hv]
  ·obtain ⟨v,hv,hr⟩:=met_rel (I:=oldI W) (W:=W) j s hs
   rw [List.getD_eq_getElem?_getD,hv]
   exact hr
 split at hs
 ·rename_i e
  have e : 5 = g:=by simpa using e
  subst e
  cases hs
  unfold World.var? at he1
  rw [kErrR] at he1
  simp only [Option.bind_some] at he1
  split at he1
  ·rename_i cs t fr hc
   have hcs:=Option.some.inj he1
   subst hcs
   have hlt : 5 < W.heap.size:=(Array.getElem?_eq_some_iff.1 hc).1
   refine ⟨.rarr (fun _ _=>.iface 194 (.pointer (some ea))) rfl (fun i _=>rfl) (fun i j _ _=>rfl) (fun i j hi hj=>⟨?_,hlt⟩) (fun i j s hi hs=>?_),hlt,_,t,fr,hc,rfl⟩
   ·obtain rfl : i = 0:=by omega
    obtain rfl : j = 0:=by omega
    simp [World.cell?,hc]
   ·match j,hs with
    | 0,hs =>
     have hs : some (SV.ifc (.l false)) = some s:=hs
     cases hs
     exact .ifc (.inr ⟨⟨_,_,rfl⟩,rfl⟩)
    | _ + 1,hs=>simp [errRow] at hs
  ·cases he1
 split at hs
 ·rename_i e
  have e : 6 = g:=by simpa using e
  subst e
  cases hs
  have ht2:=ht
  unfold Lib.TabIs World.var? at ht2
  rw [kPow] at ht2
  simp only [Option.bind_some] at ht2
  split at ht2
  ·rename_i cs t fr hc
   have hlt : 6 < W.heap.size:=(Array.getElem?_eq_some_iff.1 hc).1
   have hsz : cs.size = 20 * 1:=by
    rw [Option.some.inj ht2]; simp [Lib.pow10Tab_length]
   refine ⟨.rarr (fun i _=>.int .u64 (Lib.pow10Tab.getD i 0)) rfl (fun i _=>rfl) (fun i j _ _=>rfl) (fun i j hi hj=>⟨?_,hlt⟩) (fun i j s hi hs=>?_),hlt,cs,t,fr,hc,hsz⟩
   ·have:=ht.cell kPow i (by rw [Lib.pow10Tab_length]; exact hi)
    have e : 0 + (i * 1 + j) = i:=by omega
    show W.cell? ⟨6,0 + (i * 1 + j),none⟩ = _
    rw [e]; exact this
   ·match j,hs with
    | 0,hs =>
     have hs : some (SV.int .u64 (.a (Lib.pow10Tab.getD i 0))) = some s:=hs
     cases hs
     exact .int rfl
    | _ + 1,hs=>simp [powRow] at hs
  ·cases ht2
 ·cases hs
end Go.Proofs.YtefelnhpfdcleaaGreatDoor
namespace Go.Proofs.YtefelnhpfdcleaaGreatDoor
open Go Go.Sx Go.ChangeShapes Go.WideShapes Go.RowKit
set_option maxRecDepth 100000
theorem open9 : OpenT Tryz.prog 9 (fun s : {s : List UInt8 // s.length≤maxLen}=>[.str s.1]):=.str Tryz.underlying9
theorem ro1 {I : Nat→Nat→Prop} {W : World} {s : SV} {v : Value} (h : RO I W s v) : ∀ (i : Nat) (s' : SV) (v' : Value),[s][i]? = some s'→[v][i]? = some v'→RO I W s' v'
 | 0,_,_,a,b=>by simp at a b; subst a b; exact h
 | _ + 1,_,_,a,_=>by simp at a
theorem str_fit (x : {s : List UInt8 // s.length≤maxLen}) : x.1.length≤9223372036854775807:=Nat.le_trans x.2 (by decide)
end Go.Proofs.YtefelnhpfdcleaaGreatDoor
namespace Go.Proofs.YtefelnhpfdcleaaGreatDoor
open Go Go.Sx
set_option maxRecDepth 100000
set_option maxHeartbeats 40000000
def spKinds : FSpec:=fun _ xs ls K=>xs = []∧ls = []∧∀ R,R = kindCells→K (.agg R) []
def ttK (Z : List SV) : List (Nat×TI):=[
 (3,⟨.int .i64,1,8,[.int .i64 (.l 0)]⟩),
 (4,⟨.bool,1,1,[.bool (.l false)]⟩),
 (5,⟨.int .u8,1,1,[.int .u8 (.l 0)]⟩),
 (9,⟨.string,1,16,[.str []]⟩),
 (23,⟨.int .i64,1,8,[.int .i64 (.l 0)]⟩),
 (36,⟨.slice 5,1,24,[(.sl (.l true) (.l 0) 1 fun _=>[])]⟩),
 (93,⟨.array 256 5,256,256,Z⟩)]
def zCells : List SV:=List.replicate 256 (.int .u8 (.l 0))
theorem ttK_ok : ttB Tryz.prog (ttK zCells) = true:=by kernel_rfl
theorem cxOkK {Z : List SV} (hZ : Z = zCells) {tab : List (Nat×FSpec)} {gl : List (Nat×SV)} {gh : List (Nat×List Gh)} {its : List (Nat×(FSpec→FSpec))} {yl : List FSpec} : CxOk Tryz.prog ⟨dn,ttK Z,tab,gl,[],gh,its,yl⟩:=by
 subst hZ; exact ⟨rfl,ttK_ok,fun _ h=>(by cases h)⟩
def mayL : List Nat:=[33,36,38,39,40,41,42,43,44,59,61,58,64,47]
def may2 (i : Nat) (c : Nat) : ST:=if c∈mayL.take i then .a 2 else .l 0
def zRow (_ : Nat) : List SV:=[.int .u8 (.l 0)]
theorem zRow_built : ZRow zRow 256 1 zCells:=by
 refine ⟨⟨fun i r h=>?_⟩⟩
 unfold zCells at h
 have h2:=chunks_get 256 i _ r h
 have hi : i < 256:=by
  rcases Nat.lt_or_ge i 256 with h3 | h3
  ·exact h3
  ·have : (chunks 1 256 (List.replicate 256 (.int .u8 (.l 0)))).length = 256:=by kernel_rfl
   rw [List.getElem?_eq_none (by omega)] at h; cases h
 rw [h2,takeN_eq,dropN_eq,Nat.mul_one,List.drop_replicate,List.take_replicate]
 have : min 1 (256 - i) = 1:=by omega
 rw [this]; rfl
structure KaV (i : Nat) (I : Int) (f : Nat→List SV) (m : Nat) : Prop where
 I : I = i
 le : i≤14
 m : m = 14 - i
 row : ∀ c,c < 256→f c = [.int .u8 (may2 i c)]
def kaJ (z fl : Nat→List SV) (m : Nat) (vs : List (Option SV)) (hp : List Hl) : Prop :=
 ∃ (i : Nat) (I : Int) (f : Nat→List SV),vs = [some (.ptr 0 0),some (.ptr 1 0),some (.osl (.a false) (.a 14) 2),some (.int .i64 (.a 14)),some (.int .i64 (.a I))]∧
  hp = [.row 93 (.a 256) 1 z,.row 93 (.a 256) 1 f,.own 5 (.a 14) 1 false fl]∧KaV i I f m
def kd2 (n c : Nat) : ST:=if c < n∧kindN c = 1 then .a 1 else may2 14 c
structure KdV (c : Nat) (I : Int) (f : Nat→List SV) (m : Nat) : Prop where
 I : I = c
 le : c≤256
 m : m = 256 - c
 row : ∀ k,k < 256→f k = [.int .u8 (kd2 c k)]
theorem KdV.lo {c : Nat} {I : Int} {f : Nat→List SV} {m : Nat} (V : KdV c I f m) : 0≤I:=by have:=V.I; omega
theorem KdV.row1 {c : Nat} {I : Int} {f : Nat→List SV} {m : Nat} (V : KdV c I f m) (h : c < 256) : ∃ X,f c = [.int .u8 X]:=⟨_,V.row c h⟩
theorem KdV.yes {c : Nat} {I : Int} {f f2 : Nat→List SV} {m : Nat} (V : KdV c I f m) (h : c < 256) (hf : SetAt f2 f c [.int .u8 (.a 1)]) (hk : kindN c = 1) : KdV (c + 1) (dn.i (.bin .add .i64 (.a I) (.l 1))) f2 (256 - (c + 1)):=by
 refine ⟨?_,by omega,rfl,fun k hk2=>?_⟩
 ·have:=V.I
  show IntKind.i64.wrap (I + 1) = _
  rw [wrap64 (by omega) (by omega)]; omega
 ·by_cases e : k = c
  ·subst e
   rw [hf.at_,kd2,if_pos ⟨by omega,hk⟩]
  ·rw [hf.other k e,V.row k hk2]
   unfold kd2
   have : (k < c∧kindN k = 1)↔(k < c + 1∧kindN k = 1):=by constructor<;>rintro ⟨a,b⟩<;>exact ⟨by omega,b⟩
   simp only [this]
theorem KdV.no {c : Nat} {I : Int} {f : Nat→List SV} {m : Nat} (V : KdV c I f m) (h : c < 256) (hk : kindN c≠1) : KdV (c + 1) (dn.i (.bin .add .i64 (.a I) (.l 1))) f (256 - (c + 1)):=by
 refine ⟨?_,by omega,rfl,fun k hk2=>?_⟩
 ·have:=V.I
  show IntKind.i64.wrap (I + 1) = _
  rw [wrap64 (by omega) (by omega)]; omega
 ·rw [V.row k hk2]
  unfold kd2
  have : (k < c∧kindN k = 1)↔(k < c + 1∧kindN k = 1):=by
   constructor
   ·rintro ⟨a,b⟩; exact ⟨by omega,b⟩
   ·rintro ⟨a,b⟩
    refine ⟨?_,b⟩
    rcases Nat.lt_or_ge k c with h | h
    ·exact h
    ·obtain rfl : k = c:=by omega
     exact absurd b hk
  simp only [this]
def kdJ (z fl : Nat→List SV) (m : Nat) (vs : List (Option SV)) (hp : List Hl) : Prop :=
 ∃ (c : Nat) (I : Int) (f : Nat→List SV),vs = [some (.ptr 0 0),some (.ptr 1 0),some (.int .i64 (.a I))]∧hp = [.row 93 (.a 256) 1 z,.row 93 (.a 256) 1 f,.own 5 (.a 14) 1 false fl]∧KdV c I f m
theorem idx4 : ∀ c : Fin 256,decide (0≤Lib.indexByte [45,46,95,126] (UInt8.ofNat c.1)) = decide (c.1 = 45∨c.1 = 46∨c.1 = 95∨c.1 = 126):=by decide
def kdCells : List SV:=(List.range 256).map fun k=>.int .u8 (kd2 256 k)
theorem kd_flat {f : Nat→List SV} (h : ∀ k,k < 256→f k = [.int .u8 (kd2 256 k)]) : Flat f 256 1 kdCells:=by
 refine ⟨by simp [kdCells],fun i hi=>?_⟩
 have hi : i < 256:=by omega
 have hl : kdCells.length = 256:=by simp [kdCells]
 rw [h i hi,Nat.mul_one,List.drop_eq_getElem_cons (by rw [hl]; exact hi)]
 simp [kdCells]
structure FlOk (fl : Nat→List SV) : Prop where
 h : ∀ j,j < 14→fl j = [.int .u8 (.a ((mayL.getD j 0 : Nat) : Int))]
structure VI (vi : Int) (v : Nat) : Prop where
 h : vi = (v : Int)
def kdLit : List SV:=[.int .u8 (.l 0),.int .u8 (.l 0),.int .u8 (.l 0),.int .u8 (.l 0),.int .u8 (.l 0),.int .u8 (.l 0),.int .u8 (.l 0),.int .u8 (.l 0),.int .u8 (.l 0),.int .u8 (.l 0),.int .u8 (.l 0),.int .u8 (.l 0),.int .u8 (.l 0),.int .u8 (.l 0),.int .u8 (.l 0),.int .u8 (.l 0),.int .u8 (.l 0),.int .u8 (.l 0),.int .u8 (.l 0),.int .u8 (.l 0),.int .u8 (.l 0),.int .u8 (.l 0),.int .u8 (.l 0),.int .u8 (.l 0),.int .u8 (.l 0),.int .u8 (.l 0),.int .u8 (.l 0),.int .u8 (.l 0),.int .u8 (.l 0),.int .u8 (.l 0),.int .u8 (.l 0),.int .u8 (.l 0),.int .u8 (.l 0),.int .u8 (.a 2),.int .u8 (.l 0),.int .u8 (.l 0),.int .u8 (.a 2),.int .u8 (.l 0),.int .u8 (.a 2),.int .u8 (.a 2),.int .u8 (.a 2),.int .u8 (.a 2),.int .u8 (.a 2),.int .u8 (.a 2),.int .u8 (.a 2),.int .u8 (.a 1),.int .u8 (.a 1),.int .u8 (.a 2),.int .u8 (.a 1),.int .u8 (.a 1),.int .u8 (.a 1),.int .u8 (.a 1),.int .u8 (.a 1),.int .u8 (.a 1),.int .u8 (.a 1),.int .u8 (.a 1),.int .u8 (.a 1),.int .u8 (.a 1),.int .u8 (.a 2),.int .u8 (.a 2),.int .u8 (.l 0),.int .u8 (.a 2),.int .u8 (.l 0),.int .u8 (.l 0),.int .u8 (.a 2),.int .u8 (.a 1),.int .u8 (.a 1),.int .u8 (.a 1),.int .u8 (.a 1),.int .u8 (.a 1),.int .u8 (.a 1),.int .u8 (.a 1),.int .u8 (.a 1),.int .u8 (.a 1),.int .u8 (.a 1),.int .u8 (.a 1),.int .u8 (.a 1),.int .u8 (.a 1),.int .u8 (.a 1),.int .u8 (.a 1),.int .u8 (.a 1),.int .u8 (.a 1),.int .u8 (.a 1),.int .u8 (.a 1),.int .u8 (.a 1),.int .u8 (.a 1),.int .u8 (.a 1),.int .u8 (.a 1),.int .u8 (.a 1),.int .u8 (.a 1),.int .u8 (.a 1),.int .u8 (.l 0),.int .u8 (.l 0),.int .u8 (.l 0),.int .u8 (.l 0),.int .u8 (.a 1),.int .u8 (.l 0),.int .u8 (.a 1),.int .u8 (.a 1),.int .u8 (.a 1),.int .u8 (.a 1),.int .u8 (.a 1),.int .u8 (.a 1),.int .u8 (.a 1),.int .u8 (.a 1),.int .u8 (.a 1),.int .u8 (.a 1),.int .u8 (.a 1),.int .u8 (.a 1),.int .u8 (.a 1),.int .u8 (.a 1),.int .u8 (.a 1),.int .u8 (.a 1),.int .u8 (.a 1),.int .u8 (.a 1),.int .u8 (.a 1),.int .u8 (.a 1),.int .u8 (.a 1),.int .u8 (.a 1),.int .u8 (.a 1),.int .u8 (.a 1),.int .u8 (.a 1),.int .u8 (.a 1),.int .u8 (.l 0),.int .u8 (.l 0),.int .u8 (.l 0),.int .u8 (.a 1),.int .u8 (.l 0),.int .u8 (.l 0),.int .u8 (.l 0),.int .u8 (.l 0),.int .u8 (.l 0),.int .u8 (.l 0),.int .u8 (.l 0),.int .u8 (.l 0),.int .u8 (.l 0),.int .u8 (.l 0),.int .u8 (.l 0),.int .u8 (.l 0),.int .u8 (.l 0),.int .u8 (.l 0),.int .u8 (.l 0),.int .u8 (.l 0),.int .u8 (.l 0),.int .u8 (.l 0),.int .u8 (.l 0),.int .u8 (.l 0),.int .u8 (.l 0),.int .u8 (.l 0),.int .u8 (.l 0),.int .u8 (.l 0),.int .u8 (.l 0),.int .u8 (.l 0),.int .u8 (.l 0),.int .u8 (.l 0),.int .u8 (.l 0),.int .u8 (.l 0),.int .u8 (.l 0),.int .u8 (.l 0),.int .u8 (.l 0),.int .u8 (.l 0),.int .u8 (.l 0),.int .u8 (.l 0),.int .u8 (.l 0),.int .u8 (.l 0),.int .u8 (.l 0),.int .u8 (.l 0),.int .u8 (.l 0),.int .u8 (.l 0),.int .u8 (.l 0),.int .u8 (.l 0),.int .u8 (.l 0),.int .u8 (.l 0),.int .u8 (.l 0),.int .u8 (.l 0),.int .u8 (.l 0),.int .u8 (.l 0),.int .u8 (.l 0),.int .u8 (.l 0),.int .u8 (.l 0),.int .u8 (.l 0),.int .u8 (.l 0),.int .u8 (.l 0),.int .u8 (.l 0),.int .u8 (.l 0),.int .u8 (.l 0),.int .u8 (.l 0),.int .u8 (.l 0),.int .u8 (.l 0),.int .u8 (.l 0),.int .u8 (.l 0),.int .u8 (.l 0),.int .u8 (.l 0),.int .u8 (.l 0),.int .u8 (.l 0),.int .u8 (.l 0),.int .u8 (.l 0),.int .u8 (.l 0),.int .u8 (.l 0),.int .u8 (.l 0),.int .u8 (.l 0),.int .u8 (.l 0),.int .u8 (.l 0),.int .u8 (.l 0),.int .u8 (.l 0),.int .u8 (.l 0),.int .u8 (.l 0),.int .u8 (.l 0),.int .u8 (.l 0),.int .u8 (.l 0),.int .u8 (.l 0),.int .u8 (.l 0),.int .u8 (.l 0),.int .u8 (.l 0),.int .u8 (.l 0),.int .u8 (.l 0),.int .u8 (.l 0),.int .u8 (.l 0),.int .u8 (.l 0),.int .u8 (.l 0),.int .u8 (.l 0),.int .u8 (.l 0),.int .u8 (.l 0),.int .u8 (.l 0),.int .u8 (.l 0),.int .u8 (.l 0),.int .u8 (.l 0),.int .u8 (.l 0),.int .u8 (.l 0),.int .u8 (.l 0),.int .u8 (.l 0),.int .u8 (.l 0),.int .u8 (.l 0),.int .u8 (.l 0),.int .u8 (.l 0),.int .u8 (.l 0),.int .u8 (.l 0),.int .u8 (.l 0),.int .u8 (.l 0),.int .u8 (.l 0),.int .u8 (.l 0),.int .u8 (.l 0),.int .u8 (.l 0),.int .u8 (.l 0),.int .u8 (.l 0),.int .u8 (.l 0),.int .u8 (.l 0),.int .u8 (.l 0),.int .u8 (.l 0),.int .u8 (.l 0),.int .u8 (.l 0),.int .u8 (.l 0),.int .u8 (.l 0),.int .u8 (.l 0),.int .u8 (.l 0),.int .u8 (.l 0)]
theorem kdLit_eq : kdLit = kdCells:=by kernel_rfl
theorem kdLit_plain : PlainC kdLit:=⟨by kernel_rfl,by kernel_rfl⟩
theorem kinds_ok : FnOk Tryz.prog [] 72 spKinds:=by
 obtain ⟨Z,hZ⟩ : ∃ Z,Z = zCells:=⟨_,rfl⟩
 refine fnOk (gh:=[(3000000,[]),(3000001,[]),(999985,[]),(16,[.unrow 0])]) mixed (cxOkK hZ) (tabCons idxB_ok tabNil) Tryz.func72 (by kernel_rfl) (by kernel_rfl) ?_
 rintro xs ls K ⟨rfl,rfl,h⟩
 obtain ⟨R,hR⟩ : ∃ R,R = kindCells:=⟨_,rfl⟩
 refine ⟨_,_,h R hR,fun D hD=>?_⟩
 clear h
 obtain ⟨z,hz⟩ : ∃ z,z = zRow:=⟨_,rfl⟩
 have hzb : ZRow z 256 1 Z:=by rw [hz,hZ]; exact zRow_built
 have hz0 : ∀ k,z k = [.int .u8 (.l 0)]:=fun k=>by rw [hz]; rfl
 cbv
 refine ⟨z,hzb,?_⟩
 cbv
 refine ⟨z,hzb,?_⟩
 cbv
 intro fl hf
 have hfl : FlOk fl:=by
  subst hD
  refine ⟨fun j hj=>?_⟩
  match j,hj with
  | 0,_=>exact hf.h 0 _ rfl
  | 1,_=>exact hf.h 1 _ rfl
  | 2,_=>exact hf.h 2 _ rfl
  | 3,_=>exact hf.h 3 _ rfl
  | 4,_=>exact hf.h 4 _ rfl
  | 5,_=>exact hf.h 5 _ rfl
  | 6,_=>exact hf.h 6 _ rfl
  | 7,_=>exact hf.h 7 _ rfl
  | 8,_=>exact hf.h 8 _ rfl
  | 9,_=>exact hf.h 9 _ rfl
  | 10,_=>exact hf.h 10 _ rfl
  | 11,_=>exact hf.h 11 _ rfl
  | 12,_=>exact hf.h 12 _ rfl
  | 13,_=>exact hf.h 13 _ rfl
 clear hf
 cbv
 refine ⟨⟨by subst hD; rfl⟩,?_⟩
 obtain ⟨J,hJ⟩ : ∃ J,J = kaJ z fl:=⟨_,rfl⟩
 cbv
 refine ⟨[0,1,6,7,8],J,⟨rfl,14,?_⟩,?_⟩
 ·rw [hJ]
  subst hD
  refine ⟨0,0,z,rfl,rfl,rfl,by omega,rfl,fun c _=>?_⟩
  rw [hz0]; rfl
 intro m vs hp hj
 rw [hJ] at hj
 obtain ⟨i,I,f,rfl,rfl,V⟩:=hj
 cbv
 refine br hD (fun h=>?_) (fun h=>?_)<;>cbv
 ·have hlt : i < 14:=by
   have h : decide (I < 14) = true:=h
   simp only [decide_eq_true_eq] at h
   have:=V.I; omega
  clear h
  refine ⟨⟨by subst hD; rfl⟩,by subst hD; exact ⟨by show 0≤I; have:=V.I; omega,by show I < 14; have:=V.I; omega⟩,fun j hj=>?_⟩
  have hj2 : j = i:=by
   have hj : (j : Int) = I:=by subst hD; exact hj.h
   have:=V.I; omega
  subst hj2
  clear hj
  have e1:=hfl.h j hlt
  obtain ⟨v,hv⟩ : ∃ v,v = mayL.getD j 0:=⟨_,rfl⟩
  rw [←hv] at e1
  have hv256 : v < 256:=by
   have : ∀ j : Fin 14,mayL.getD j.1 0 < 256:=by decide
   rw [hv]; exact this ⟨j,hlt⟩
  obtain ⟨vi,hvi⟩ : ∃ vi : Int,VI vi v:=⟨_,⟨rfl⟩⟩
  rw [←hvi.h] at e1
  cbv
  refine ⟨⟨by subst hD; rfl⟩,⟨by subst hD; show (j : Int) < 14; omega⟩,?_⟩
  rw [e1]
  cbv
  refine ⟨by subst hD; exact ⟨by show 0≤vi; rw [hvi.h]; exact Int.natCast_nonneg v,by show vi < 256; rw [hvi.h]; exact_mod_cast hv256⟩,fun q hq=>?_⟩
  have hq2 : q = v:=by
   have hq : (q : Int) = vi:=by subst hD; exact hq.h
   rw [hvi.h] at hq; exact_mod_cast hq
  subst hq2
  clear hq
  obtain ⟨X,e2⟩ : ∃ X,f q = [.int .u8 X]:=⟨_,V.row q hv256⟩
  cbv
  refine ⟨⟨by subst hD; show (q : Int) < 256; exact_mod_cast hv256⟩,?_⟩
  rw [e2]
  cbv
  intro f2 hf2
  cbv
  refine ⟨14 - (j + 1),by have:=V.m; omega,?_⟩
  rw [hJ]
  unfold kaJ
  subst hD
  refine ⟨j + 1,_,f2,rfl,rfl,?_,by omega,rfl,fun c hc=>?_⟩
  ·have:=V.I
   show IntKind.i64.wrap (I + 1) = _
   rw [wrap64 (by omega) (by omega)]; omega
  ·have htk : ∀ x,x∈mayL.take (j + 1)↔x∈mayL.take j∨x = q:=by
    intro x
    have hl : j < mayL.length:=hlt
    rw [List.take_succ_eq_append_getElem hl,List.mem_append,List.mem_singleton]
    have : mayL[j] = q:=by rw [hv,List.getD_eq_getElem?_getD,List.getElem?_eq_getElem hl]; rfl
    rw [this]
   by_cases e : c = q
   ·subst e
    rw [hf2.at_,may2,if_pos ((htk c).2 (.inr rfl))]
    rfl
   ·rw [hf2.other c e,V.row c hc]
    unfold may2
    have : (c∈mayL.take (j + 1))↔c∈mayL.take j:=by rw [htk]; exact ⟨fun h=>h.resolve_right e,.inl⟩
    simp only [this]
 have hi : i = 14:=by
  have h : decide (I < 14) = false:=h
  simp only [decide_eq_false_iff_not] at h
  have:=V.I; have:=V.le; omega
 have hrow:=V.row
 rw [hi] at hrow
 clear h V hJ J hi
 obtain ⟨J,hJ⟩ : ∃ J,J = kdJ z fl:=⟨_,rfl⟩
 refine ⟨[0,1,15],J,⟨rfl,256,?_⟩,?_⟩
 ·rw [hJ]
  subst hD
  refine ⟨0,0,f,rfl,rfl,rfl,by omega,rfl,fun k hk=>?_⟩
  rw [hrow k hk,kd2,if_neg (by omega)]
 clear hrow
 intro m vs hp hj
 rw [hJ] at hj
 obtain ⟨c,I,f,rfl,rfl,V⟩:=hj
 cbv
 refine br hD (fun h=>?_) (fun h=>?_)<;>cbv
 ·have hlt : c < 256:=by
   have h : decide (I < 256) = true:=h
   simp only [decide_eq_true_eq] at h
   have:=V.I; omega
  clear h
  refine br hD (fun h=>?_) (fun h=>?_)<;>cbv
  ·have hk1 : kindN c = 1:=by
    have h : (decide (48≤I) && decide (I≤57)) = true:=h
    simp only [Bool.and_eq_true,decide_eq_true_eq] at h
    have:=V.I
    unfold kindN; rw [if_pos (by omega)]
   clear h
   refine ⟨by subst hD; exact ⟨by show 0≤I; have:=V.lo; omega,by show I < 256; have:=V.I; omega⟩,fun q hq=>?_⟩
   have hq2 : q = c:=by
    have hq : (q : Int) = I:=by subst hD; exact hq.h
    have:=V.I; omega
   subst hq2
   clear hq
   cbv
   obtain ⟨X,hX⟩:=V.row1 hlt
   refine ⟨by subst hD; exact ⟨by show (q : Int) < 256; omega⟩,?_⟩
   rw [hX]
   cbv
   intro f2 hf2
   cbv
   refine ⟨256 - (q + 1),by have:=V.m; omega,?_⟩
   rw [hJ]
   unfold kdJ
   subst hD
   exact ⟨q + 1,_,f2,rfl,rfl,V.yes hlt hf2 hk1⟩
  have n1 : ¬ (48≤c∧c≤57):=by
   have h : (decide (48≤I) && decide (I≤57)) = false:=h
   have hI:=V.I
   rintro ⟨a,b⟩
   have a' : decide (48≤I) = true:=by rw [decide_eq_true_eq]; omega
   have b' : decide (I≤57) = true:=by rw [decide_eq_true_eq]; omega
   rw [a',b'] at h; cases h
  clear h
  refine br hD (fun h=>?_) (fun h=>?_)<;>cbv
  ·have hk1 : kindN c = 1:=by
    have h : (decide (65≤I) && decide (I≤90)) = true:=h
    simp only [Bool.and_eq_true,decide_eq_true_eq] at h
    have:=V.I
    unfold kindN; rw [if_pos (by omega)]
   clear h
   refine ⟨by subst hD; exact ⟨by show 0≤I; have:=V.lo; omega,by show I < 256; have:=V.I; omega⟩,fun q hq=>?_⟩
   have hq2 : q = c:=by
    have hq : (q : Int) = I:=by subst hD; exact hq.h
    have:=V.I; omega
   subst hq2
   clear hq
   cbv
   obtain ⟨X,hX⟩:=V.row1 hlt
   refine ⟨by subst hD; exact ⟨by show (q : Int) < 256; omega⟩,?_⟩
   rw [hX]
   cbv
   intro f2 hf2
   cbv
   refine ⟨256 - (q + 1),by have:=V.m; omega,?_⟩
   rw [hJ]
   unfold kdJ
   subst hD
   exact ⟨q + 1,_,f2,rfl,rfl,V.yes hlt hf2 hk1⟩
  have n2 : ¬ (65≤c∧c≤90):=by
   have h : (decide (65≤I) && decide (I≤90)) = false:=h
   have hI:=V.I
   rintro ⟨a,b⟩
   have a' : decide (65≤I) = true:=by rw [decide_eq_true_eq]; omega
   have b' : decide (I≤90) = true:=by rw [decide_eq_true_eq]; omega
   rw [a',b'] at h; cases h
  clear h
  refine br hD (fun h=>?_) (fun h=>?_)<;>cbv
  ·have hk1 : kindN c = 1:=by
    have h : (decide (97≤I) && decide (I≤122)) = true:=h
    simp only [Bool.and_eq_true,decide_eq_true_eq] at h
    have:=V.I
    unfold kindN; rw [if_pos (by omega)]
   clear h
   refine ⟨by subst hD; exact ⟨by show 0≤I; have:=V.lo; omega,by show I < 256; have:=V.I; omega⟩,fun q hq=>?_⟩
   have hq2 : q = c:=by
    have hq : (q : Int) = I:=by subst hD; exact hq.h
    have:=V.I; omega
   subst hq2
   clear hq
   cbv
   obtain ⟨X,hX⟩:=V.row1 hlt
   refine ⟨by subst hD; exact ⟨by show (q : Int) < 256; omega⟩,?_⟩
   rw [hX]
   cbv
   intro f2 hf2
   cbv
   refine ⟨256 - (q + 1),by have:=V.m; omega,?_⟩
   rw [hJ]
   unfold kdJ
   subst hD
   exact ⟨q + 1,_,f2,rfl,rfl,V.yes hlt hf2 hk1⟩
  have n3 : ¬ (97≤c∧c≤122):=by
   have h : (decide (97≤I) && decide (I≤122)) = false:=h
   have hI:=V.I
   rintro ⟨a,b⟩
   have a' : decide (97≤I) = true:=by rw [decide_eq_true_eq]; omega
   have b' : decide (I≤122) = true:=by rw [decide_eq_true_eq]; omega
   rw [a',b'] at h; cases h
  clear h
  have hw : IntKind.u8.wrap I = I:=IntWalk.u8_in _ ⟨V.lo,by have:=V.I; omega⟩
  refine ⟨_,_,rfl,rfl,by subst hD; show 0≤IntKind.u8.wrap I∧IntKind.u8.wrap I≤255; rw [hw]; exact ⟨V.lo,by have:=V.I; omega⟩,fun r hr=>?_⟩
  have hr2 : decide (0≤r) = decide (c = 45∨c = 46∨c = 95∨c = 126):=by
   have e : r = Lib.indexByte [45,46,95,126] (UInt8.ofNat c):=by
    have hr : r = Lib.indexByte [45,46,95,126] (UInt8.ofNat (IntKind.u8.wrap I).toNat):=by subst hD; exact hr
    rw [hr,hw,V.I]; rfl
   rw [e]; exact idx4 ⟨c,hlt⟩
  clear hr
  cbv
  refine br hD (fun h=>?_) (fun h=>?_)<;>cbv
  ·have hk1 : kindN c = 1:=by
    have h : decide (0≤r) = true:=h
    rw [hr2,decide_eq_true_eq] at h
    unfold kindN; rw [if_pos (by omega)]
   clear h
   refine ⟨by subst hD; exact ⟨by show 0≤I; have:=V.lo; omega,by show I < 256; have:=V.I; omega⟩,fun q hq=>?_⟩
   have hq2 : q = c:=by
    have hq : (q : Int) = I:=by subst hD; exact hq.h
    have:=V.I; omega
   subst hq2
   clear hq
   cbv
   obtain ⟨X,hX⟩:=V.row1 hlt
   refine ⟨by subst hD; exact ⟨by show (q : Int) < 256; omega⟩,?_⟩
   rw [hX]
   cbv
   intro f2 hf2
   cbv
   refine ⟨256 - (q + 1),by have:=V.m; omega,?_⟩
   rw [hJ]
   unfold kdJ
   subst hD
   exact ⟨q + 1,_,f2,rfl,rfl,V.yes hlt hf2 hk1⟩
  ·have hk1 : kindN c≠1:=by
    have h : decide (0≤r) = false:=h
    rw [hr2,decide_eq_false_iff_not] at h
    unfold kindN; rw [if_neg (by omega)]
    split<;>decide
   clear h
   refine ⟨256 - (c + 1),by have:=V.m; omega,?_⟩
   rw [hJ]
   unfold kdJ
   subst hD
   exact ⟨c + 1,_,f,rfl,rfl,V.no hlt hk1⟩
 have hc : c = 256:=by
  have h : decide (I < 256) = false:=h
  simp only [decide_eq_false_iff_not] at h
  have:=V.I; have:=V.le; omega
 have hrow:=V.row
 rw [hc] at hrow
 clear h V hJ hc
 obtain ⟨cs,hcs⟩ : ∃ cs,cs = kdLit:=⟨_,rfl⟩
 refine ⟨⟨by subst hD; rfl⟩,cs,by subst hD; rw [hcs,kdLit_eq]; exact kd_flat hrow,?_⟩
 clear hrow
 cbv
 refine ⟨⟨by subst hD; rfl⟩,by rw [hcs]; exact kdLit_plain,fun k=>[.int .u8 (kd2 256 k)],by subst hD; rw [hcs,kdLit_eq]; exact kd_flat fun _ _=>rfl,?_⟩
 refine ⟨kdLit,by subst hD; rw [kdLit_eq]; exact kd_flat fun _ _=>rfl,?_⟩
 clear hcs
 cbv
 subst hD
 rw [hR]
 exact fin_eq (by kernel_rfl) rfl
end Go.Proofs.YtefelnhpfdcleaaGreatDoor
namespace Go.Proofs.YtefelnhpfdcleaaGreatDoor
open Go Go.Sx
set_option maxRecDepth 100000
set_option maxHeartbeats 8000000
def valueI (c : Int) : Int:=if 48≤c∧c≤57 then c - 48 else if 65≤c∧c≤70 then c - 55 else if 97≤c∧c≤102 then c - 87 else -1
theorem valueI_le (c : Int) : -1≤valueI c∧valueI c≤15:=by
 unfold valueI
 split
 ·omega
 ·split
  ·omega
  ·split<;>omega
def spValue : FSpec:=fun _ xs ls K=>∃ (c : Int),xs = [.int .u8 (.a c)]∧ls = []∧(0≤c∧c≤255)∧∀ r,r = valueI c→K (.int .i64 (.a r)) []
theorem value_ok : FnOk Tryz.prog gl 106 spValue:=by
 refine fnOk (gh:=[]) mixed cxOk tabNil Tryz.func106 (by kernel_rfl) (by kernel_rfl) ?_
 intro xs ls K h
 unfold spValue at h
 obtain ⟨c,rfl,rfl,hc,h⟩:=h
 obtain ⟨k,hk⟩ : ∃ k,k = valueI c:=⟨_,rfl⟩
 refine ⟨_,_,h k hk,fun D hD=>?_⟩
 clear h
 unfold valueI at hk
 cbv
 have w : ∀ n : Int,-1000≤n→n≤1000→IntKind.i64.wrap n = n:=fun n a b=>wrap64 (by omega) (by omega)
 refine br hD (fun h=>?_) (fun h=>?_)<;>cbv
 ·have h2 : 48≤c∧c≤57:=by simpa using h
  refine finInt hD ?_
  rw [hk,if_pos h2]
  show IntKind.i64.wrap (IntKind.i64.wrap c - 48) = _
  rw [w c (by omega) (by omega),w _ (by omega) (by omega)]
 have h2 : ¬ (48≤c∧c≤57):=by simpa using h
 rw [if_neg h2] at hk
 clear h h2
 refine br hD (fun h=>?_) (fun h=>?_)<;>cbv
 ·have h2 : 65≤c∧c≤70:=by simpa using h
  refine finInt hD ?_
  rw [hk,if_pos h2]
  show IntKind.i64.wrap (IntKind.i64.wrap (IntKind.i64.wrap c - 65) + 10) = _
  rw [w c (by omega) (by omega),w (c - 65) (by omega) (by omega),w _ (by omega) (by omega)]
  omega
 have h2 : ¬ (65≤c∧c≤70):=by simpa using h
 rw [if_neg h2] at hk
 clear h h2
 refine br hD (fun h=>?_) (fun h=>?_)<;>cbv
 ·have h2 : 97≤c∧c≤102:=by simpa using h
  refine finInt hD ?_
  rw [hk,if_pos h2]
  show IntKind.i64.wrap (IntKind.i64.wrap (IntKind.i64.wrap c - 97) + 10) = _
  rw [w c (by omega) (by omega),w (c - 97) (by omega) (by omega),w _ (by omega) (by omega)]
  omega
 have h2 : ¬ (97≤c∧c≤102):=by simpa using h
 rw [if_neg h2] at hk
 refine finInt hD ?_
 rw [hk]; rfl
def hexP (s : List UInt8) (i : Nat) : Prop:=i + 2 < s.length∧charI s i = 37∧0≤valueI (charI s (i + 1))∧0≤valueI (charI s (i + 2))
instance (s : List UInt8) (i : Nat) : Decidable (hexP s i):=by unfold hexP; exact inferInstance
def escAt (s : List UInt8) (i : Nat) : Bool:=decide (hexP s i)
def escV (s : List UInt8) (i : Nat) : Int:=if hexP s i then 16 * valueI (charI s (i + 1)) + valueI (charI s (i + 2)) else 0
theorem charI_drop (s : List UInt8) (i j : Nat) : charI (s.drop i) j = charI s (i + j):=by
 unfold charI
 rw [List.getD_eq_getElem?_getD,List.getElem?_drop,←List.getD_eq_getElem?_getD]
theorem hexP_drop (s : List UInt8) (i : Nat) : hexP (s.drop i) 0↔hexP s i:=by
 unfold hexP
 rw [charI_drop,charI_drop,charI_drop,List.length_drop]
 simp only [Nat.add_zero,Nat.zero_add]
 constructor<;>rintro ⟨a,b⟩<;>exact ⟨by omega,b⟩
theorem escAt_drop (s : List UInt8) (i : Nat) : escAt (s.drop i) 0 = escAt s i:=by
 unfold escAt; rw [decide_eq_decide]; exact hexP_drop s i
theorem escV_drop (s : List UInt8) (i : Nat) : escV (s.drop i) 0 = escV s i:=by
 unfold escV
 rw [charI_drop,charI_drop]
 simp only [hexP_drop,Nat.zero_add]
def spUnesc : FSpec:=fun _ xs ls K=>∃ (s : List UInt8),xs = [.str s]∧ls = []∧s.length≤9223372036854775807∧∀ v b,v = escV s 0→b = escAt s 0→K (.tup [.int .u8 (.a v),.bool (.a b)]) []
theorem or16 : ∀ a b : Fin 16,binDen .or .i64 (IntKind.i64.wrap ((a.1 : Int) * 16)) (b.1 : Int) = 16 * a.1 + b.1:=by decide
theorem finUn {D : Dn} (hD : D = dn) {v : Int} {b : Bool} {x : ST} {y : BT} (h1 : x.den = v) (h2 : y.den = b) : Fin (.tup [.int .u8 (.a (D.i x)),.bool (.a (D.b y))]) (.tup [.int .u8 (.a v),.bool (.a b)]) [] []:=by
 subst hD h1 h2; exact finV (LeV.refl _)
theorem unescape_ok : FnOk Tryz.prog gl 73 spUnesc:=by
 refine fnOk (gh:=[]) mixed cxOk (tabCons value_ok tabNil) Tryz.func73 (by kernel_rfl) (by kernel_rfl) ?_
 intro xs ls K h
 unfold spUnesc at h
 obtain ⟨s,rfl,rfl,hs,h⟩:=h
 obtain ⟨kv,hkv⟩ : ∃ k,k = escV s 0:=⟨_,rfl⟩
 obtain ⟨kb,hkb⟩ : ∃ k,k = escAt s 0:=⟨_,rfl⟩
 refine ⟨_,_,h kv kb hkv hkb,fun D hD=>?_⟩
 clear h
 cbv
 refine ⟨fun hg=>?_,fun c hc=>?_⟩
 ·subst hD; exact ⟨by decide,by have hg : (!decide ((s.length : Int) < 3)) = true:=hg; simp at hg; show (0 : Int) < _; omega⟩
 have hc2 : CharAt c s 0:=by subst hD; exact ⟨hc.h⟩
 clear hc
 cbv
 refine br hD (fun h=>?_) (fun h=>?_)<;>cbv
 ·have h2 : ¬ hexP s 0:=by
   rintro ⟨h1,h2,_⟩
   rw [←hc2.charI] at h2
   have h : (decide ((s.length : Int) < 3) || (c != 37)) = true:=h
   simp only [Bool.or_eq_true,decide_eq_true_eq,bne_iff_ne,ne_eq] at h
   omega
  exact finUn hD (by rw [hkv,escV,if_neg h2]; rfl) (by rw [hkb,escAt,decide_eq_false h2]; rfl)
 have h2 : 3≤s.length∧c = 37:=by
  have h : (decide ((s.length : Int) < 3) || (c != 37)) = false:=h
  simp only [Bool.or_eq_false_iff,decide_eq_false_iff_not,bne_eq_false_iff_eq] at h
  omega
 clear h
 obtain ⟨h3,rfl⟩:=h2
 refine ⟨by subst hD; exact ⟨by decide,by show (1 : Int) < _; omega⟩,fun x hx=>?_⟩
 have hx2 : CharAt x s 1:=by subst hD; exact ⟨hx.h⟩
 clear hx
 cbv
 refine ⟨_,rfl,rfl,by subst hD; exact hx2.le,fun a ha=>?_⟩
 have ha : a = valueI x:=by subst hD; exact ha
 cbv
 refine ⟨by subst hD; exact ⟨by decide,by show (2 : Int) < _; omega⟩,fun y hy=>?_⟩
 have hy2 : CharAt y s 2:=by subst hD; exact ⟨hy.h⟩
 clear hy
 cbv
 refine ⟨_,rfl,rfl,by subst hD; exact hy2.le,fun b hb=>?_⟩
 have hb : b = valueI y:=by subst hD; exact hb
 cbv
 have hP : hexP s 0↔0≤a∧0≤b:=by
  unfold hexP
  simp only [Nat.zero_add]
  rw [←hc2.charI,←hx2.charI,←hy2.charI,←ha,←hb]
  constructor
  ·exact fun h=>h.2.2
  ·exact fun h=>⟨by omega,rfl,h⟩
 refine br hD (fun h=>?_) (fun h=>?_)<;>cbv
 ·have h2 : ¬ hexP s 0:=by
   rw [hP]
   have h : (decide (a < 0) || decide (b < 0)) = true:=h
   simp only [Bool.or_eq_true,decide_eq_true_eq] at h
   omega
  exact finUn hD (by rw [hkv,escV,if_neg h2]; rfl) (by rw [hkb,escAt,decide_eq_false h2]; rfl)
 have h2 : 0≤a∧0≤b:=by
  have h : (decide (a < 0) || decide (b < 0)) = false:=h
  simp only [Bool.or_eq_false_iff,decide_eq_false_iff_not] at h
  omega
 have la:=(valueI_le x).2
 have lb:=(valueI_le y).2
 rw [←ha] at la
 rw [←hb] at lb
 refine ⟨⟨by subst hD; decide⟩,?_⟩
 refine finUn hD ?_ ?_
 rotate_left
 ·rw [hkb,escAt,decide_eq_true (hP.2 h2)]; rfl
 rw [hkv,escV,if_pos (hP.2 h2)]
 simp only [Nat.zero_add]
 rw [←hx2.charI,←hy2.charI,←ha,←hb]
 have e:=or16 ⟨a.toNat,by omega⟩ ⟨b.toNat,by omega⟩
 simp only at e
 rw [Int.toNat_of_nonneg h2.1,Int.toNat_of_nonneg h2.2] at e
 show IntKind.u8.wrap (binDen .or .i64 (IntKind.i64.wrap (a * 16)) b) = _
 rw [e]
 have : ∀ n : Int,0≤n→n≤255→IntKind.u8.wrap n = n:=fun n h0 h1=>by
  have:=IntWalk.u8_in n ⟨by omega,by omega⟩
  exact this
 exact this _ (by omega) (by omega)
end Go.Proofs.YtefelnhpfdcleaaGreatDoor
namespace Go.Proofs.YtefelnhpfdcleaaGreatDoor
open Go Go.Sx
set_option maxRecDepth 100000
set_option maxHeartbeats 16000000
def orgL (s : List UInt8) (i e : Nat) : Option Nat :=
 if h : i < s.length then
  if escAt s i then orgL s (i + 3) e
  else if charI s i = 63 then orgL s (i + 1) (min e i)
  else if kindN (charI s i).toNat = 0 then none
  else orgL s (i + 1) e
 else some e
 termination_by s.length - i
def orgF (s : List UInt8) : Int×Int :=
 if 500 < s.length then (0,3) else if !Lib.hasPrefix s [47] then (0,6) else match orgL s 0 s.length with
  | some e=>((e : Int),0)
  | none=>(0,6)
def spOrg : FSpec:=fun _ xs ls K=>∃ (s : List UInt8),xs = [.str s]∧ls = []∧s.length≤9223372036854775807∧∀ e r,(e,r) = orgF s→K (.tup [.int .i64 (.a e),.int .i64 (.a r)]) []
structure KRow (f : Nat→List SV) : Prop where
 h : ∀ i,i < 256→f i = [.int .u8 (.a (kindN i))]
theorem kind_flat {f : Nat→List SV} (h : KRow f) : Flat f 256 1 kindCells:=by
 refine ⟨by simp [kindCells],fun i hi=>?_⟩
 have hi : i < 256:=by omega
 have hl : kindCells.length = 256:=by simp [kindCells]
 rw [h.h i hi,Nat.mul_one,List.drop_eq_getElem_cons (by rw [hl]; exact hi)]
 simp [kindCells]
theorem kind_plain : PlainC kindCells:=⟨by kernel_rfl,by kernel_rfl⟩
theorem finII {D : Dn} (hD : D = dn) {e r : Int} {x y : ST} (h1 : x.den = e) (h2 : y.den = r) : Fin (.tup [.int .i64 (.a (D.i x)),.int .i64 (.a (D.i y))]) (.tup [.int .i64 (.a e),.int .i64 (.a r)]) [] []:=by
 subst hD h1 h2; exact finV (LeV.refl _)
structure OrgJ (s : List UInt8) (k : Option Nat) (i e : Nat) (I E : Int) (m : Nat) : Prop where
 lie : At s i I m
 E : E = e
 k : k = orgL s i e
 len : s.length≤500
def orgJ (s : List UInt8) (kr : Nat→List SV) (k : Option Nat) (m : Nat) (vs : List (Option SV)) (hp : List Hl) : Prop :=
 ∃ (i e : Nat) (I E : Int),vs = [some (.str s),some (.ptr 0 0),some (.int .i64 (.a E)),some (.int .i64 (.a I))]∧hp = [.row 93 (.a 256) 1 kr]∧OrgJ s k i e I E m
theorem orgL_esc {s : List UInt8} {i e : Nat} (h : i < s.length) (h1 : escAt s i = true) : orgL s i e = orgL s (i + 3) e:=by
 rw [orgL,dif_pos h,if_pos h1]
theorem orgL_mark {s : List UInt8} {i e : Nat} (h : i < s.length) (h1 : escAt s i = false) (h2 : charI s i = 63) : orgL s i e = orgL s (i + 1) (min e i):=by
 rw [orgL,dif_pos h,if_neg (by simp [h1]),if_pos h2]
theorem orgL_bad {s : List UInt8} {i e : Nat} (h : i < s.length) (h1 : escAt s i = false) (h2 : charI s i≠63) (h3 : kindN (charI s i).toNat = 0) : orgL s i e = none:=by
 rw [orgL,dif_pos h,if_neg (by simp [h1]),if_neg h2,if_pos h3]
theorem orgL_more {s : List UInt8} {i e : Nat} (h : i < s.length) (h1 : escAt s i = false) (h2 : charI s i≠63) (h3 : kindN (charI s i).toNat≠0) : orgL s i e = orgL s (i + 1) e:=by
 rw [orgL,dif_pos h,if_neg (by simp [h1]),if_neg h2,if_neg h3]
theorem orgL_end {s : List UInt8} {i e : Nat} (h : i = s.length) : orgL s i e = some e:=by
 rw [orgL,dif_neg (by omega)]
theorem escAt_len {s : List UInt8} {i : Nat} (h : escAt s i = true) : i + 2 < s.length:=(of_decide_eq_true h).1
theorem origin_ok : FnOk Tryz.prog gl 35 spOrg:=by
 obtain ⟨Z,hZ⟩ : ∃ Z,Z = zCells:=⟨_,rfl⟩
 refine fnOk (gh:=[(3000004,[])]) mixed (cxOkK hZ) (tabCons hasPre_ok (tabCons (fnOk_nil kinds_ok) (tabCons unescape_ok tabNil))) Tryz.func35 (by kernel_rfl) (by kernel_rfl) ?_
 intro xs ls K h
 unfold spOrg at h
 obtain ⟨s,rfl,rfl,hs,h⟩:=h
 obtain ⟨k,hk⟩ : ∃ k,k = orgF s:=⟨_,rfl⟩
 obtain ⟨ke,kr⟩:=k
 refine ⟨_,_,h ke kr hk,fun D hD=>?_⟩
 clear h
 unfold orgF at hk
 cbv
 refine br hD (fun h=>?_) (fun h=>?_)<;>cbv
 ·have h2 : 500 < s.length:=by have h : decide ((500 : Int) < (s.length : Int)) = true:=h; simp only [decide_eq_true_eq] at h; omega
  rw [if_pos h2] at hk
  simp only [Prod.mk.injEq] at hk
  exact finII hD hk.1.symm hk.2.symm
 have hlen : s.length≤500:=by have h : decide ((500 : Int) < (s.length : Int)) = false:=h; simp only [decide_eq_false_iff_not] at h; omega
 rw [if_neg (by omega)] at hk
 clear h
 refine ⟨s,_,rfl,rfl,fun b hb=>?_⟩
 have hb : b = Lib.hasPrefix s [47]:=hb
 cbv
 refine br hD (fun h=>?_) (fun h=>?_)<;>cbv
 ·have h2 : (!b) = true:=h
  rw [←hb,if_pos h2] at hk
  simp only [Prod.mk.injEq] at hk
  exact finII hD hk.1.symm hk.2.symm
 have h2 : (!b) = false:=h
 rw [←hb,if_neg (by rw [h2]; simp)] at hk
 clear h h2 hb
 intro R hR
 obtain ⟨kr0,hkr0⟩ : ∃ f,KRow f:=⟨fun i=>[.int .u8 (.a (kindN i))],⟨fun _ _=>rfl⟩⟩
 cbv
 refine ⟨by rw [hR]; exact kind_plain.plain,zRow,by rw [hZ]; exact zRow_built,?_⟩
 cbv
 refine ⟨⟨by subst hD; rfl⟩,by rw [hR]; exact kind_plain,kr0,by subst hD; rw [hR]; exact kind_flat hkr0,?_⟩
 clear hR
 obtain ⟨kk,hkk⟩ : ∃ kk,kk = orgL s 0 s.length:=⟨_,rfl⟩
 rw [←hkk] at hk
 obtain ⟨J,hJ⟩ : ∃ J,J = orgJ s kr0 kk:=⟨_,rfl⟩
 cbv
 refine ⟨[0,4,5,6],J,⟨rfl,s.length,?_⟩,?_⟩
 ·rw [hJ]
  subst hD
  exact ⟨0,s.length,_,_,rfl,rfl,At.zero hs,rfl,hkk,hlen⟩
 clear hkk
 intro m vs hp hj
 rw [hJ] at hj
 obtain ⟨i,e,I,E,rfl,rfl,V⟩:=hj
 cbv
 refine br hD (fun h=>?_) (fun h=>?_)<;>cbv
 ·have hlt:=V.lie.lt (of_decide_eq_true (p:=I < (s.length : Int)) h)
  clear h
  refine ⟨by subst hD; exact ⟨by show 0≤I; have:=V.lie.I; omega,by show I≤s.length; have:=V.lie.I; omega,Int.le_refl _⟩,fun t ht=>?_⟩
  have ht2 : t = s.drop i:=by
   have h1 : t = (s.drop I.toNat).take ((s.length : Int).toNat - I.toNat):=by subst hD; exact ht.h
   have h2:=V.lie.I
   have h3 : I.toNat = i:=by omega
   rw [h1,h3,List.take_of_length_le (by rw [List.length_drop]; omega)]
  clear ht
  cbv
  refine ⟨t,rfl,rfl,by rw [ht2,List.length_drop]; omega,fun v b hv hb=>?_⟩
  have hb2 : b = escAt s i:=by rw [hb,ht2,escAt_drop]
  clear hv hb ht2
  cbv
  refine br hD (fun h=>?_) (fun h=>?_)<;>cbv
  ·have h2 : escAt s i = true:=by rw [←hb2]; exact h
   have h3:=escAt_len h2
   clear h
   refine ⟨s.length - (i + 3),by have:=V.lie.m; omega,?_⟩
   rw [hJ]
   unfold orgJ
   subst hD
   refine ⟨i + 3,e,_,_,rfl,rfl,⟨by omega,?_,rfl,V.lie.len⟩,V.E,by rw [V.k,orgL_esc hlt h2],hlen⟩
   have:=V.lie.I
   show IntKind.i64.wrap (IntKind.i64.wrap (I + 2) + 1) = _
   rw [wrap64 (n:=I + 2) (by omega) (by omega),wrap64 (by omega) (by omega)]; omega
  have he : escAt s i = false:=by rw [←hb2]; exact h
  clear h
  refine ⟨V.lie.inS hD hlt,fun c hc=>?_⟩
  have hc2:=charOf hD V.lie.I hc
  clear hc
  have hle:=hc2.le
  cbv
  refine br hD (fun h=>?_) (fun h=>?_)<;>cbv
  ·have h63 : charI s i = 63:=by rw [←hc2.charI]; have h : (c == 63) = true:=h; simpa using h
   clear h
   intro mn hmn
   have hmn2 : mn = min E I:=by subst hD; exact hmn.h
   clear hmn
   cbv
   refine ⟨s.length - (i + 1),by have:=V.lie.m; omega,?_⟩
   rw [hJ]
   unfold orgJ
   subst hD
   refine ⟨i + 1,min e i,_,_,rfl,rfl,(V.lie.step rfl hlt).2,?_,by rw [V.k,orgL_mark hlt he h63],hlen⟩
   have:=V.lie.I; have:=V.E
   show mn = _
   rw [hmn2]; omega
  have h63 : charI s i≠63:=by rw [←hc2.charI]; have h : (c == 63) = false:=h; simpa using h
  clear h
  refine ⟨V.lie.inS hD hlt,fun d hd=>?_⟩
  have hcd : d = c:=by have:=charOf hD V.lie.I hd; rw [this.h,hc2.h]
  subst hcd
  clear hd
  cbv
  refine ⟨by subst hD; exact ⟨by show 0≤d; omega,by show d < 256; omega⟩,fun q hq=>?_⟩
  have hq2 : (q : Int) = d:=by subst hD; exact hq.h
  clear hq
  have hq256 : q < 256:=by omega
  have hkq:=hkr0.h q hq256
  have hkn : kindN q = kindN (charI s i).toNat:=by
   have : q = (charI s i).toNat:=by rw [←hc2.charI]; omega
   rw [this]
  obtain ⟨kq,hkq2⟩ : ∃ kq,kq = kindN q:=⟨_,rfl⟩
  rw [←hkq2] at hkq hkn
  cbv
  refine ⟨⟨by subst hD; show (q : Int) < 256; omega⟩,?_⟩
  rw [hkq]
  cbv
  refine br hD (fun h=>?_) (fun h=>?_)<;>cbv
  ·have h0 : kq = 0:=by have h : (kq == 0) = true:=h; simpa using h
   rw [V.k,orgL_bad hlt he h63 (by rw [←hkn]; exact h0)] at hk
   simp only [Prod.mk.injEq] at hk
   exact finII hD hk.1.symm hk.2.symm
  ·have h0 : kq≠0:=by have h : (kq == 0) = false:=h; simpa using h
   refine ⟨s.length - (i + 1),by have:=V.lie.m; omega,?_⟩
   rw [hJ]
   unfold orgJ
   subst hD
   exact ⟨i + 1,e,_,_,rfl,rfl,(V.lie.step rfl hlt).2,V.E,by rw [V.k,orgL_more hlt he h63 (by rw [←hkn]; exact h0)],hlen⟩
 ·have hi:=V.lie.eq (of_decide_eq_false (p:=I < (s.length : Int)) h)
  rw [V.k,orgL_end hi] at hk
  simp only [Prod.mk.injEq] at hk
  exact finII hD (by have:=V.E; rw [hk.1]; exact this) hk.2.symm
end Go.Proofs.YtefelnhpfdcleaaGreatDoor
namespace Go.Proofs.YtefelnhpfdcleaaGreatDoor
open Go Go.Sx
set_option maxRecDepth 100000
set_option maxHeartbeats 8000000
structure EnV (s : List UInt8) (i : Nat) (I : Int) : Prop where
 I : I = i
 len : s.length≤1000000
 le : i≤s.length
end Go.Proofs.YtefelnhpfdcleaaGreatDoor
namespace Go.Proofs.YtefelnhpfdcleaaGreatDoor
open Go Go.Sx
set_option maxRecDepth 100000
set_option maxHeartbeats 16000000
def splitF (s : List UInt8) : List UInt8×List UInt8×Bool×Int :=
 if (orgF s).2≠0 then ([],[],false,(orgF s).2) else if (orgF s).1≠(cutF 63 s).1.length then ([],[],false,6) else ((cutF 63 s).1,(cutF 63 s).2.1,(cutF 63 s).2.2,0)
theorem orgF_len {s : List UInt8} (h : (orgF s).2 = 0) : s.length≤500:=by
 unfold orgF at h
 split at h
 ·cases h
 ·omega
def spSplitT : FSpec:=fun _ xs ls K=>∃ (s : List UInt8),xs = [.str s]∧ls = []∧s.length≤9223372036854775807∧∀ p q h e,(p,q,h,e) = splitF s→K (.tup [.str p,.str q,.bool (.a h),.int .i64 (.a e)]) []
theorem finSp {D : Dn} (hD : D = dn) {p q p' q' : List UInt8} {h : Bool} {e : Int} {x : BT} {y : ST} (h1 : p' = p) (h2 : q' = q) (h3 : x.den = h) (h4 : y.den = e) : Fin (.tup [.str p',.str q',.bool (.a (D.b x)),.int .i64 (.a (D.i y))]) (.tup [.str p,.str q,.bool (.a h),.int .i64 (.a e)]) [] []:=by
 subst hD h1 h2 h3 h4; exact finV (LeV.refl _)
theorem split_ok7 : FnOk Tryz.prog gl 13 spSplitT:=by
 refine fnOk (gh:=[]) mixed cxOk (tabCons origin_ok (tabCons cut_ok tabNil)) Tryz.func13 (by kernel_rfl) (by kernel_rfl) ?_
 intro xs ls K h
 unfold spSplitT at h
 obtain ⟨s,rfl,rfl,hs,h⟩:=h
 obtain ⟨k,hk⟩ : ∃ k,k = splitF s:=⟨_,rfl⟩
 obtain ⟨kp,kq,kh,ke⟩:=k
 refine ⟨_,_,h kp kq kh ke hk,fun D hD=>?_⟩
 clear h
 unfold splitF at hk
 cbv
 refine ⟨s,rfl,rfl,hs,fun e r her=>?_⟩
 rw [←her] at hk
 have hlen : r = 0→s.length≤500:=fun h=>orgF_len (by rw [←her]; exact h)
 clear her
 cbv
 refine br hD (fun h=>?_) (fun h=>?_)<;>cbv
 ·have h1 : r≠0:=by simpa using h
  rw [if_pos h1] at hk
  simp only [Prod.mk.injEq] at hk
  exact finSp hD hk.1.symm hk.2.1.symm hk.2.2.1.symm hk.2.2.2.symm
 have h1 : r = 0:=by simpa using h
 rw [if_neg (by simp [h1])] at hk
 clear h
 refine ⟨s,63,rfl,rfl,by have:=hlen h1; omega,fun a b t hc=>?_⟩
 rw [←hc] at hk
 clear hc
 cbv
 refine br hD (fun h=>?_) (fun h=>?_)<;>cbv
 ·have h2 : e≠(a.length : Int):=by have h : (e != (a.length : Int)) = true:=h; simpa using h
  rw [if_pos h2] at hk
  simp only [Prod.mk.injEq] at hk
  exact finSp hD hk.1.symm hk.2.1.symm hk.2.2.1.symm hk.2.2.2.symm
 ·have h2 : ¬ e≠(a.length : Int):=by have h : (e != (a.length : Int)) = false:=h; simpa using h
  rw [if_neg h2] at hk
  simp only [Prod.mk.injEq] at hk
  exact finSp hD hk.1.symm hk.2.1.symm hk.2.2.1.symm hk.2.2.2.symm
def digL : List UInt8:=[48,49,50,51,52,53,54,55,56,57,65,66,67,68,69,70]
def escO (v : Int) : List UInt8:=if kindN v.toNat = 1 then [UInt8.ofNat v.toNat] else [37,digL.getD (v.toNat / 16) 0,digL.getD (v.toNat % 16) 0]
def normL (s : List UInt8) (i : Nat) : List UInt8 :=
 if h : i < s.length then if escAt s i then escO (escV s i) ++ normL s (i + 3) else s.getD i 0 :: normL s (i + 1) else []
 termination_by s.length - i
theorem normL_esc {s : List UInt8} {i : Nat} (h : i < s.length) (h1 : escAt s i = true) : normL s i = escO (escV s i) ++ normL s (i + 3):=by
 rw [normL,dif_pos h,if_pos h1]
theorem normL_one {s : List UInt8} {i : Nat} (h : i < s.length) (h1 : escAt s i = false) : normL s i = s.getD i 0 :: normL s (i + 1):=by
 rw [normL,dif_pos h,if_neg (by simp [h1])]
theorem normL_end {s : List UInt8} {i : Nat} (h : i = s.length) : normL s i = []:=by
 rw [normL,dif_neg (by omega)]
theorem escV_le (s : List UInt8) (i : Nat) : 0≤escV s i∧escV s i≤255:=by
 unfold escV
 split
 ·rename_i h
  have h1:=(valueI_le (charI s (i + 1))).2
  have h2:=(valueI_le (charI s (i + 2))).2
  have:=h.2.2.1; have:=h.2.2.2
  omega
 ·omega
structure RowU (f : Nat→List SV) (n : Int) (t : List UInt8) : Prop where
 n : n = t.length
 f : ∀ i,i < t.length→f i = [.int .u8 (.a ((t.getD i 0).toNat : Int))]
theorem RowU.more {f f' g : Nat→List SV} {n n' m : Int} {t u : List UInt8} (R : RowU f n t) (hm : m = u.length) (hg : ∀ i,i < u.length→g i = [.int .u8 (.a ((u.getD i 0).toNat : Int))]) (h : MoreRow f' n' n m f g) : RowU f' n' (t ++ u):=by
 have hn:=R.n
 refine ⟨by rw [h.len,hn,hm,List.length_append]; omega,fun i hi=>?_⟩
 rw [List.length_append] at hi
 rw [List.getD_eq_getElem?_getD,List.getElem?_append]
 split
 ·rename_i h1
  rw [h.lo i (by omega),R.f i h1,List.getD_eq_getElem?_getD]
 ·rename_i h1
  rw [h.hi i (i - t.length) (by omega) (by omega),hg _ (by omega),List.getD_eq_getElem?_getD]
theorem RowU.str {f : Nat→List SV} {n : Int} {t r : List UInt8} (R : RowU f n t) (h : StrRow r n f) : r = t:=by
 have hn:=R.n
 have hl : r.length = t.length:=by have:=h.len; omega
 refine List.ext_getElem hl fun i h1 h2=>?_
 have:=h.row i _ (by omega) (R.f i h2)
 have h5 : ((r.getD i 0).toNat : Int) = ((t.getD i 0).toNat : Int):=this
 have this : (r.getD i 0).toNat = (t.getD i 0).toNat:=by omega
 rw [List.getD_eq_getElem?_getD,List.getElem?_eq_getElem h1,List.getD_eq_getElem?_getD,List.getElem?_eq_getElem h2] at this
 exact UInt8.toNat_inj.1 this
theorem RowU.byte {f : Nat→List SV} {n : Int} {t : List UInt8} (R : RowU f n t) : ByteRow n f:=by
 refine ⟨by rw [R.n]; omega,fun i hi=>⟨_,R.f i (by have:=R.n; omega),?_,?_⟩⟩
 ·show (0 : Int)≤((t.getD i 0).toNat : Int); omega
 ·have:=(t.getD i 0).toNat_lt; show ((t.getD i 0).toNat : Int) < 256; omega
structure NoJ (s k t : List UInt8) (i : Nat) (I n : Int) (f : Nat→List SV) (m : Nat) : Prop where
 lie : At s i I m
 row : RowU f n t
 k : k = t ++ normL s i
 le : t.length≤i
 len : s.length≤100000
def noJ (s k : List UInt8) (kr : Nat→List SV) (m : Nat) (vs : List (Option SV)) (hp : List Hl) : Prop :=
 ∃ (t : List UInt8) (i : Nat) (I n : Int) (nl : Bool) (f : Nat→List SV),vs = [some (.str s),some (.ptr 0 0),some (.gsl (.a nl) (.a n) 1 f 1),some (.int .i64 (.a I))]∧hp = [.row 93 (.a 256) 1 kr,.tail 5 (.a n) 1]∧NoJ s k t i I n f m
theorem toNat8 : ∀ q : Fin 256,(UInt8.ofNat q.1).toNat = q.1:=by decide
theorem shr16 : ∀ v : Fin 256,binDen .shr .u8 (v.1 : Int) 4 = ((v.1 / 16 : Nat) : Int):=by decide
theorem and16 : ∀ v : Fin 256,binDen .and .u8 (v.1 : Int) 15 = ((v.1 % 16 : Nat) : Int):=by decide
def spNormal : FSpec:=fun _ xs ls K=>∃ (s : List UInt8),xs = [.str s]∧ls = []∧s.length≤100000∧∀ r,r = normL s 0→K (.str r) []
theorem normal_ok : FnOk Tryz.prog gl 39 spNormal:=by
 obtain ⟨Z,hZ⟩ : ∃ Z,Z = zCells:=⟨_,rfl⟩
 refine fnOk (gh:=[(3000003,[])]) mixed (cxOkK hZ) (tabCons (fnOk_nil kinds_ok) (tabCons unescape_ok tabNil)) Tryz.func39 (by kernel_rfl) (by kernel_rfl) ?_
 intro xs ls K h
 unfold spNormal at h
 obtain ⟨s,rfl,rfl,hs,h⟩:=h
 obtain ⟨k,hk⟩ : ∃ k,k = normL s 0:=⟨_,rfl⟩
 refine ⟨_,_,h k hk,fun D hD=>?_⟩
 clear h
 cbv
 intro R hR
 obtain ⟨kr0,hkr0⟩ : ∃ f,KRow f:=⟨fun i=>[.int .u8 (.a (kindN i))],⟨fun _ _=>rfl⟩⟩
 cbv
 refine ⟨by rw [hR]; exact kind_plain.plain,zRow,by rw [hZ]; exact zRow_built,?_⟩
 cbv
 refine ⟨⟨by subst hD; rfl⟩,by rw [hR]; exact kind_plain,kr0,by subst hD; rw [hR]; exact kind_flat hkr0,?_⟩
 clear hR
 cbv
 refine ⟨by subst hD; exact ⟨by show (0 : Int)≤s.length; omega,by show (s.length : Int) * 1≤_; omega,by show (s.length : Int)≤_; omega⟩,?_⟩
 obtain ⟨J,hJ⟩ : ∃ J,J = noJ s k kr0:=⟨_,rfl⟩
 cbv
 refine ⟨[0,3,4,5],J,⟨rfl,s.length,?_⟩,?_⟩
 ·rw [hJ]
  subst hD
  exact ⟨[],0,_,_,_,_,rfl,rfl,At.zero (by omega),⟨rfl,fun i hi=>absurd hi (by simp)⟩,hk,Nat.le_refl _,hs⟩
 clear hk
 intro m vs hp hj
 rw [hJ] at hj
 obtain ⟨t,i,I,n,nl,f,rfl,rfl,V⟩:=hj
 cbv
 refine br hD (fun h=>?_) (fun h=>?_)<;>cbv
 ·have hlt:=V.lie.lt (of_decide_eq_true (p:=I < (s.length : Int)) h)
  clear h
  refine ⟨by subst hD; exact ⟨by show 0≤I; have:=V.lie.I; omega,by show I≤s.length; have:=V.lie.I; omega,Int.le_refl _⟩,fun u hu=>?_⟩
  have hu2 : u = s.drop i:=by
   have h1 : u = (s.drop I.toNat).take ((s.length : Int).toNat - I.toNat):=by subst hD; exact hu.h
   have h2:=V.lie.I
   have h3 : I.toNat = i:=by omega
   rw [h1,h3,List.take_of_length_le (by rw [List.length_drop]; omega)]
  clear hu
  cbv
  refine ⟨u,rfl,rfl,by rw [hu2,List.length_drop]; omega,fun v b hv hb=>?_⟩
  have hb2 : b = escAt s i:=by rw [hb,hu2,escAt_drop]
  have hv2 : v = escV s i:=by rw [hv,hu2,escV_drop]
  clear hv hb hu2
  cbv
  refine br hD (fun h=>?_) (fun h=>?_)<;>cbv
  ·have he : escAt s i = false:=by rw [←hb2]; have h : (!b) = true:=h; simpa using h
   clear h
   refine ⟨V.lie.inS hD hlt,fun c hc=>?_⟩
   have hc2:=charOf hD V.lie.I hc
   clear hc
   cbv
   intro g hg
   have hg0 : g 0 = [.int .u8 (.a c)]:=by subst hD; exact hg.h 0 _ rfl
   clear hg
   cbv
   refine ⟨by subst hD; exact ⟨rfl,by have:=V.row.n; have:=V.le; show (n + 1) * 1≤_; omega,by have:=V.row.n; have:=V.le; show n + 1≤_; omega⟩,fun f' n' hm=>?_⟩
   have R2 : RowU f' n' (t ++ [s.getD i 0]):=by
    subst hD
    refine V.row.more (m:=1) rfl (fun j hj=>?_) hm
    have : j = 0:=by simpa using hj
    subst this
    rw [hg0]
    have:=hc2.h
    rw [this]; rfl
   clear hm
   cbv
   refine ⟨s.length - (i + 1),by have:=V.lie.m; omega,?_⟩
   rw [hJ]
   unfold noJ
   subst hD
   refine ⟨t ++ [s.getD i 0],i + 1,_,n',_,f',rfl,rfl,(V.lie.step rfl hlt).2,R2,?_,?_,hs⟩
   ·rw [V.k,normL_one hlt he]; simp
   ·have:=V.le; simp; omega
  have he : escAt s i = true:=by rw [←hb2]; have h : (!b) = false:=h; simpa using h
  have h3:=escAt_len he
  have hvle:=escV_le s i
  rw [←hv2] at hvle
  clear h
  refine ⟨by subst hD; exact ⟨by show 0≤v; omega,by show v < 256; omega⟩,fun q hq=>?_⟩
  have hq0 : (q : Int) = v:=by subst hD; exact hq.h
  clear hq
  have hq2 : VI v q:=⟨hq0.symm⟩
  have hq256 : q < 256:=by omega
  have hkq:=hkr0.h q hq256
  have hqv : q = v.toNat:=by omega
  clear hq0
  obtain ⟨kq,hkq2⟩ : ∃ kq,kq = kindN q:=⟨_,rfl⟩
  rw [←hkq2] at hkq
  cbv
  refine ⟨⟨by subst hD; show (q : Int) < 256; omega⟩,?_⟩
  rw [hkq]
  have hstep : IntKind.i64.wrap (IntKind.i64.wrap (I + 2) + 1) = ((i + 3 : Nat) : Int):=by
   have:=V.lie.I
   rw [wrap64 (n:=I + 2) (by omega) (by omega),wrap64 (by omega) (by omega)]; omega
  cbv
  refine br hD (fun h=>?_) (fun h=>?_)<;>cbv
  ·have h1 : kq = 1:=by have h : (kq == 1) = true:=h; simpa using h
   have hO : escO v = [UInt8.ofNat v.toNat]:=by unfold escO; rw [if_pos (by rw [←hqv,←hkq2]; exact h1)]
   clear h
   intro g hg
   have hg0 : g 0 = [.int .u8 (.a v)]:=by subst hD; exact hg.h 0 _ rfl
   clear hg
   cbv
   refine ⟨by subst hD; exact ⟨rfl,by have:=V.row.n; have:=V.le; show (n + 1) * 1≤_; omega,by have:=V.row.n; have:=V.le; show n + 1≤_; omega⟩,fun f' n' hm=>?_⟩
   have R2 : RowU f' n' (t ++ escO v):=by
    subst hD
    rw [hO]
    refine V.row.more (m:=1) rfl (fun j hj=>?_) hm
    have : j = 0:=by simpa using hj
    subst this
    rw [hg0]
    have : v = (((UInt8.ofNat v.toNat).toNat : Nat) : Int):=by
     have:=toNat8 ⟨q,hq256⟩
     simp only at this
     rw [←hqv,this]; exact hq2.h
    show [SV.int .u8 (.a v)] = [SV.int .u8 (.a (((UInt8.ofNat v.toNat).toNat : Nat) : Int))]
    rw [←this]
   clear hm
   cbv
   refine ⟨s.length - (i + 3),by have:=V.lie.m; omega,?_⟩
   rw [hJ]
   unfold noJ
   subst hD
   refine ⟨t ++ escO v,i + 3,_,n',_,f',rfl,rfl,⟨by omega,hstep,rfl,V.lie.len⟩,R2,?_,?_,hs⟩
   ·rw [V.k,normL_esc hlt he,hv2]; simp
   ·have:=V.le; rw [hO]; simp; omega
  ·have h1 : kq≠1:=by have h : (kq == 1) = false:=h; simpa using h
   have hO : escO v = [37,digL.getD (v.toNat / 16) 0,digL.getD (v.toNat % 16) 0]:=by unfold escO; rw [if_neg (by rw [←hqv,←hkq2]; exact h1)]
   clear h
   have s1:=shr16 ⟨q,hq256⟩
   simp only at s1
   rw [←hq2.h] at s1
   refine ⟨⟨by subst hD; decide⟩,by subst hD; exact ⟨by show 0≤binDen .shr .u8 v 4; rw [s1]; omega,by show binDen .shr .u8 v 4 < 16; rw [s1]; omega⟩,fun c1 hc1=>?_⟩
   have hd1 : c1 = (((digL.getD (v.toNat / 16) 0).toNat : Nat) : Int):=by
    have h5 : c1 = (((digL.getD (binDen .shr .u8 v 4).toNat 0).toNat : Nat) : Int):=by subst hD; exact hc1.h
    rw [h5,s1,Int.toNat_natCast,hqv]
   have hd1 : VI c1 (digL.getD (v.toNat / 16) 0).toNat:=⟨hd1⟩
   clear hc1 s1
   cbv
   have s2:=and16 ⟨q,hq256⟩
   simp only at s2
   rw [←hq2.h] at s2
   refine ⟨by subst hD; exact ⟨by show 0≤binDen .and .u8 v 15; rw [s2]; omega,by show binDen .and .u8 v 15 < 16; rw [s2]; omega⟩,fun c2 hc2=>?_⟩
   have hd2 : c2 = (((digL.getD (v.toNat % 16) 0).toNat : Nat) : Int):=by
    have h5 : c2 = (((digL.getD (binDen .and .u8 v 15).toNat 0).toNat : Nat) : Int):=by subst hD; exact hc2.h
    rw [h5,s2,Int.toNat_natCast,hqv]
   clear hc2 s2
   have hd2 : VI c2 (digL.getD (v.toNat % 16) 0).toNat:=⟨hd2⟩
   cbv
   intro g hg
   have hg0 : g 0 = [.int .u8 (.a 37)]:=by subst hD; exact hg.h 0 _ rfl
   have hg1 : g 1 = [.int .u8 (.a c1)]:=by subst hD; exact hg.h 1 _ rfl
   have hg2 : g 2 = [.int .u8 (.a c2)]:=by subst hD; exact hg.h 2 _ rfl
   clear hg
   cbv
   refine ⟨by subst hD; exact ⟨rfl,by have:=V.row.n; have:=V.le; show (n + 3) * 1≤_; omega,by have:=V.row.n; have:=V.le; show n + 3≤_; omega⟩,fun f' n' hm=>?_⟩
   have R2 : RowU f' n' (t ++ escO v):=by
    subst hD
    rw [hO]
    refine V.row.more (m:=3) rfl (fun j hj=>?_) hm
    match j,hj with
    | 0,_=>rw [hg0]; rfl
    | 1,_=>rw [hg1,hd1.h]; rfl
    | 2,_=>rw [hg2,hd2.h]; rfl
   clear hm
   cbv
   refine ⟨s.length - (i + 3),by have:=V.lie.m; omega,?_⟩
   rw [hJ]
   unfold noJ
   subst hD
   refine ⟨t ++ escO v,i + 3,_,n',_,f',rfl,rfl,⟨by omega,hstep,rfl,V.lie.len⟩,R2,?_,?_,hs⟩
   ·rw [V.k,normL_esc hlt he,hv2]; simp
   ·have:=V.le; rw [hO]; simp; omega
 ·have hi:=V.lie.eq (of_decide_eq_false (p:=I < (s.length : Int)) h)
  have hk2 : k = t:=by rw [V.k,normL_end hi,List.append_nil]
  clear h
  refine ⟨by subst hD; exact V.row.byte,fun r hr=>?_⟩
  have hr2 : r = t:=by subst hD; exact V.row.str hr
  cbv
  exact finStr (by rw [hr2,hk2])
end Go.Proofs.YtefelnhpfdcleaaGreatDoor
namespace Go.Proofs.YtefelnhpfdcleaaGreatDoor
open Go Go.Sx
set_option maxRecDepth 100000
set_option maxHeartbeats 16000000
theorem pre47 (s : List UInt8) : Lib.hasPrefix s [47] = decide (s≠[]∧charI s 0 = 47):=by
 cases s with
 | nil=>rfl
 | cons b r =>
  rw [Bool.eq_iff_iff]
  simp only [Lib.hasPrefix,List.isPrefixOf,Bool.and_true,beq_iff_eq,decide_eq_true_eq,ne_eq,reduceCtorEq,not_false_eq_true,true_and]
  unfold charI
  simp only [List.getD_cons_zero]
  constructor
  ·intro h; rw [←h]; rfl
  ·intro h
   have : b.toNat = 47:=by omega
   exact (UInt8.toNat_inj.1 this).symm
end Go.Proofs.YtefelnhpfdcleaaGreatDoor
namespace Go.Proofs.YtefelnhpfdcleaaGreatDoor
open Go Go.Sx
set_option maxRecDepth 100000
set_option maxHeartbeats 4000000
def preB (s p : List UInt8) : Bool:=decide (p.length≤s.length) && (s.take p.length == p)
def trimPreF (s p : List UInt8) : List UInt8:=if preB s p then s.drop p.length else s
structure Two (s p : List UInt8) : Prop where
 s : s.length≤9223372036854775807
 p : p.length≤9223372036854775807
def spPre : FSpec:=fun _ xs ls K=>∃ (s p : List UInt8),xs = [.str s,.str p]∧ls = []∧Two s p∧∀ r,r = preB s p→K (.bool (.a r)) []
theorem pre104_ok : FnOk Tryz.prog gl 104 spPre:=by
 refine fnOk (gh:=[]) mixed cxOk tabNil Tryz.func104 (by kernel_rfl) (by kernel_rfl) ?_
 intro xs ls K h
 unfold spPre at h
 obtain ⟨s,p,rfl,rfl,T,h⟩:=h
 obtain ⟨k,hk⟩ : ∃ k,k = preB s p:=⟨_,rfl⟩
 refine ⟨_,_,h k hk,fun D hD=>?_⟩
 clear h
 cbv
 refine ⟨fun hg=>?_,fun r hr=>?_⟩
 ·subst hD
  have hg : decide ((p.length : Int)≤(s.length : Int)) = true:=hg
  simp only [decide_eq_true_eq] at hg
  exact ⟨Int.le_refl _,by show (0 : Int)≤p.length; omega,by show (p.length : Int)≤s.length; exact hg⟩
 cbv
 have hr2 : r = s.take p.length:=by
  have h1 : r = (s.drop 0).take ((p.length : Int).toNat - 0):=by subst hD; exact hr.h
  rw [h1]; simp
 refine finBool hD ?_
 rw [hk,preB,←hr2]
 have : decide ((p.length : Int)≤(s.length : Int)) = decide (p.length≤s.length):=by rw [decide_eq_decide]; omega
 rw [←this]; rfl
def spTrimPre : FSpec:=fun _ xs ls K=>∃ (s p : List UInt8),xs = [.str s,.str p]∧ls = []∧Two s p∧∀ r,r = trimPreF s p→K (.str r) []
theorem trimPre166_ok : FnOk Tryz.prog gl 166 spTrimPre:=by
 refine fnOk (gh:=[]) mixed cxOk (tabCons pre104_ok tabNil) Tryz.func166 (by kernel_rfl) (by kernel_rfl) ?_
 intro xs ls K h
 unfold spTrimPre at h
 obtain ⟨s,p,rfl,rfl,T,h⟩:=h
 obtain ⟨k,hk⟩ : ∃ k,k = trimPreF s p:=⟨_,rfl⟩
 refine ⟨_,_,h k hk,fun D hD=>?_⟩
 cbv
 clear h
 unfold trimPreF at hk
 refine ⟨s,p,rfl,rfl,T,fun b hb=>?_⟩
 cbv
 have hle : b = true→p.length≤s.length:=by
  rw [hb,preB]; simp only [Bool.and_eq_true,decide_eq_true_eq]; exact fun h=>h.1
 rw [←hb] at hk
 clear hb
 refine br hD (fun h=>?_) (fun h=>?_)<;>cbv
 ·have h1 : b = true:=h
  rw [if_pos h1] at hk
  have hle:=hle h1
  refine ⟨by subst hD; exact ⟨by show (0 : Int)≤p.length; omega,by show (p.length : Int)≤s.length; omega,Int.le_refl _⟩,fun r hr=>?_⟩
  cbv
  have hr2 : r = s.drop p.length:=by
   have h1 : r = (s.drop (p.length : Int).toNat).take ((s.length : Int).toNat - (p.length : Int).toNat):=by subst hD; exact hr.h
   have h2 : (p.length : Int).toNat = p.length:=Int.toNat_natCast _
   rw [h1,h2,List.take_of_length_le (by rw [List.length_drop]; omega)]
  exact finStr (by rw [hr2,hk])
 ·have h1 : b = false:=h
  rw [if_neg (by rw [h1]; simp)] at hk
  exact finStr hk.symm
theorem trimPre_ok : FnOk Tryz.prog gl 147 spTrimPre:=by
 refine fnOk (gh:=[]) mixed cxOk (tabCons trimPre166_ok tabNil) Tryz.func147 (by kernel_rfl) (by kernel_rfl) ?_
 intro xs ls K h
 unfold spTrimPre at h
 obtain ⟨s,p,rfl,rfl,T,h⟩:=h
 obtain ⟨k,hk⟩ : ∃ k,k = trimPreF s p:=⟨_,rfl⟩
 refine ⟨_,_,h k hk,fun D hD=>?_⟩
 cbv
 clear h
 refine ⟨s,p,rfl,rfl,T,fun b hb=>?_⟩
 cbv
 exact finStr (by rw [hb,hk])
def digS : List UInt8:=[48,49,50,51,52,53,54,55,56,57]
def decF (s : List UInt8) : Bool :=
 if trimPreF s [45] = []∨Lib.trimS (trimPreF s [45]) digS≠[] then false else ((trimPreF s [45]).getD 0 0 != 48) || (s == [48])
def spDec : FSpec:=fun _ xs ls K=>∃ (s : List UInt8),xs = [.str s]∧ls = []∧s.length≤100000∧∀ r,r = decF s→K (.bool (.a r)) []
theorem dec_ok : FnOk Tryz.prog gl 125 spDec:=by
 refine fnOk (gh:=[]) mixed cxOk (tabCons trimPre_ok (tabCons trim64_ok tabNil)) Tryz.func125 (by kernel_rfl) (by kernel_rfl) ?_
 intro xs ls K h
 unfold spDec at h
 obtain ⟨s,rfl,rfl,hs,h⟩:=h
 obtain ⟨k,hk⟩ : ∃ k,k = decF s:=⟨_,rfl⟩
 refine ⟨_,_,h k hk,fun D hD=>?_⟩
 cbv
 clear h
 unfold decF at hk
 refine ⟨s,[45],rfl,rfl,⟨by omega,by decide⟩,fun t ht=>?_⟩
 cbv
 have htl : t.length≤100000:=by
  rw [ht,trimPreF]
  split
  ·rw [List.length_drop]; omega
  ·exact hs
 rw [←ht] at hk
 clear ht
 refine ⟨t,digS,rfl,rfl,by omega,by decide,by decide,fun u hu=>?_⟩
 cbv
 rw [←hu] at hk
 clear hu
 refine br hD (fun h=>?_) (fun h=>?_)<;>cbv
 ·have h1 : t = []∨u≠[]:=by
   have h : ((t == []) || !(u == [])) = true:=h
   simpa using h
  rw [if_pos h1] at hk
  exact finBool hD (by rw [hk]; rfl)
 have h1 : ¬ (t = []∨u≠[]):=by
  have h : ((t == []) || !(u == [])) = false:=h
  simpa using h
 rw [if_neg h1] at hk
 have hpos : 1≤t.length:=by
  cases t with
  | nil=>exact absurd (.inl rfl) h1
  | cons a b=>simp
 clear h h1
 refine ⟨by subst hD; exact ⟨Int.le_refl _,by show (0 : Int) < t.length; omega⟩,fun c hc=>?_⟩
 cbv
 have hc2 : c = ((t.getD 0 0).toNat : Int):=by subst hD; exact hc.h
 refine finBool hD ?_
 rw [hk]
 have : (c != 48) = (t.getD 0 0 != 48):=by
  rw [hc2]
  rw [Bool.eq_iff_iff]
  simp only [bne_iff_ne,ne_eq]
  constructor
  ·intro h e; apply h; rw [e]; rfl
  ·intro h e; apply h
   have : (t.getD 0 0).toNat = 48:=by exact_mod_cast e
   exact UInt8.toNat_inj.1 this
 rw [←this]; rfl
def intF (s : List UInt8) (lo hi : Int) : Int×Int :=
 if !decF s then (0,6) else if (pInt s).2 = false∨(pInt s).1 < lo∨hi < (pInt s).1 then (0,7) else ((pInt s).1,0)
theorem digits_ok (M : Nat) : ∀ (l : List UInt8) (acc : Nat),(∀ c∈l,48≤c.toNat∧c.toNat≤57)→fair (Lib.parseUintM M acc l) = true
 | [],acc,_=>by simp [Lib.parseUintM,fair]
 | c :: r,acc,h=>by
  unfold Lib.parseUintM
  rw [if_pos (h c (List.mem_cons_self ..))]
  split
  ·rfl
  ·split
   ·rfl
   ·exact digits_ok M r _ fun d hd=>h d (List.mem_cons_of_mem _ hd)
theorem dig_in (c : UInt8) : digS.contains c = true↔48≤c.toNat∧c.toNat≤57:=by
 have : ∀ n : Fin 256,digS.contains (UInt8.ofNat n.1) = true↔48≤n.1∧n.1≤57:=by decide
 have h:=this ⟨c.toNat,c.toNat_lt⟩
 simpa using h
theorem dropWhile_twice (p : UInt8→Bool) : ∀ l : List UInt8,(l.dropWhile p).dropWhile p = l.dropWhile p
 | []=>rfl
 | c :: r=>by
  by_cases h : p c = true
  ·rw [List.dropWhile_cons_of_pos h,dropWhile_twice p r]
  ·rw [List.dropWhile_cons_of_neg h,List.dropWhile_cons_of_neg h]
theorem dropWhile_nil (p : UInt8→Bool) : ∀ l : List UInt8,l.dropWhile p = []↔∀ x∈l,p x = true
 | []=>by simp
 | c :: r=>by
  by_cases h : p c = true
  ·rw [List.dropWhile_cons_of_pos h,dropWhile_nil p r]
   simp [h]
  ·rw [List.dropWhile_cons_of_neg h]
   simp [h]
theorem trimS_nil {l cs : List UInt8} (h : Lib.trimS l cs = []) : ∀ c∈l,cs.contains c = true:=by
 have h : ((l.reverse.dropWhile (fun x=>cs.contains x)).reverse).dropWhile (fun x=>cs.contains x) = []:=h
 rw [dropWhile_nil] at h
 have h2 : (l.reverse.dropWhile (fun x=>cs.contains x)).dropWhile (fun x=>cs.contains x) = []:=by
  rw [dropWhile_nil]
  exact fun x hx=>h x (List.mem_reverse.2 hx)
 rw [dropWhile_twice,dropWhile_nil] at h2
 exact fun c hc=>h2 c (List.mem_reverse.2 hc)
theorem parseU_ok {l : List UInt8} (h0 : l≠[]) (h : ∀ c∈l,48≤c.toNat∧c.toNat≤57) : fair (Lib.parseUintB 64 l) = true:=by
 unfold Lib.parseUintB
 rw [if_neg h0]
 exact digits_ok _ l 0 h
theorem parseI_ok {c : UInt8} {r : List UInt8} (h : fair (Lib.parseUintB 64 (if c.toNat = 43∨c.toNat = 45 then r else c :: r)) = true) : fair (Lib.parseIntB 64 (c :: r)) = true:=by
 unfold Lib.parseIntB
 simp only
 rcases hp : Lib.parseUintB 64 (if c.toNat = 43∨c.toNat = 45 then r else c :: r) with u | _ | _
 ·simp only
  split
  ·rfl
  ·split<;>rfl
 ·rw [hp] at h
  cases h
 ·rfl
theorem decF_ok {s : List UInt8} (h : decF s = true) : fair (Lib.parseIntB 64 s) = true:=by
 unfold decF at h
 split at h
 ·cases h
 ·rename_i h1
  have h2 : trimPreF s [45]≠[]:=fun e=>h1 (.inl e)
  have h3 : Lib.trimS (trimPreF s [45]) digS = []:=by
   rcases Decidable.em (Lib.trimS (trimPreF s [45]) digS = []) with e | e
   ·exact e
   ·exact absurd (.inr e) h1
  have h4 : ∀ c∈trimPreF s [45],48≤c.toNat∧c.toNat≤57:=fun c hc=>(dig_in c).1 (trimS_nil h3 c hc)
  clear h h1 h3
  unfold trimPreF at h2 h4
  cases s with
  | nil=>split at h2<;>simp at h2
  | cons c r =>
   refine parseI_ok ?_
   by_cases hp : preB (c :: r) [45] = true
   ·rw [if_pos hp] at h2 h4
    have hc : c = 45:=by
     unfold preB at hp
     simp at hp
     exact hp
    subst hc
    simp only [List.length_cons,List.length_nil,List.drop_succ_cons,List.drop_zero] at h2 h4
    rw [if_pos (by decide)]
    exact parseU_ok h2 h4
   ·rw [if_neg hp] at h2 h4
    have:=h4 c (List.mem_cons_self ..)
    rw [if_neg (by omega)]
    exact parseU_ok h2 h4
structure IntA (s : List UInt8) (lo hi : Int) : Prop where
 len : s.length≤100000
def spInt : FSpec:=fun _ xs ls K=>∃ (s : List UInt8) (lo hi : Int),xs = [.str s,.int .i64 (.a lo),.int .i64 (.a hi)]∧ls = []∧s.length≤100000∧∀ v e,(v,e) = intF s lo hi→K (.tup [.int .i64 (.a v),.int .i64 (.a e)]) []
theorem finI2 {D : Dn} (hD : D = dn) {e r : Int} {x y : ST} (h1 : x.den = e) (h2 : y.den = r) : Fin (.tup [.int .i64 (.a (D.i x)),.int .i64 (.a (D.i y))]) (.tup [.int .i64 (.a e),.int .i64 (.a r)]) [] []:=by
 subst hD h1 h2; exact finV (LeV.refl _)
theorem int_ok : FnOk Tryz.prog gl 95 spInt:=by
 refine fnOk (gh:=[]) mixed cxOk (tabCons dec_ok (tabCons pInt_ok tabNil)) Tryz.func95 (by kernel_rfl) (by kernel_rfl) ?_
 intro xs ls K h
 unfold spInt at h
 obtain ⟨s,lo,hi,rfl,rfl,hs,h⟩:=h
 obtain ⟨k,hk⟩ : ∃ k,k = intF s lo hi:=⟨_,rfl⟩
 obtain ⟨kv,ke⟩:=k
 refine ⟨_,_,h kv ke hk,fun D hD=>?_⟩
 cbv
 clear h
 unfold intF at hk
 refine ⟨s,rfl,rfl,hs,fun d hd=>?_⟩
 cbv
 have hdo : d = true→fair (Lib.parseIntB 64 s) = true:=fun h=>decF_ok (by rw [←hd]; exact h)
 rw [←hd] at hk
 clear hd
 refine br hD (fun h=>?_) (fun h=>?_)<;>cbv
 ·have h1 : (!d) = true:=h
  rw [if_pos h1] at hk
  simp only [Prod.mk.injEq] at hk
  exact finI2 hD hk.1.symm hk.2.symm
 have h1 : (!d) = false:=h
 rw [if_neg (by rw [h1]; simp)] at hk
 have hsy:=hdo (by simpa using h1)
 clear h h1 hdo
 refine ⟨s,_,_,rfl,rfl,⟨by subst hD; rfl,by subst hD; rfl,hs,hsy⟩,fun v e hve=>?_⟩
 cbv
 rw [←hve] at hk
 simp only at hk
 clear hve hsy
 refine br hD (fun h=>?_) (fun h=>?_)<;>cbv
 ·have h1 : e = false∨v < lo∨hi < v:=by
   have h : ((!e || decide (v < lo)) || decide (hi < v)) = true:=h
   simp only [Bool.or_eq_true,Bool.not_eq_true',decide_eq_true_eq] at h
   rcases h with (h | h) | h
   ·exact .inl h
   ·exact .inr (.inl h)
   ·exact .inr (.inr h)
  rw [if_pos h1] at hk
  simp only [Prod.mk.injEq] at hk
  exact finI2 hD hk.1.symm hk.2.symm
 ·have h1 : ¬ (e = false∨v < lo∨hi < v):=by
   have h : ((!e || decide (v < lo)) || decide (hi < v)) = false:=h
   simp only [Bool.or_eq_false_iff,Bool.not_eq_false',decide_eq_false_iff_not] at h
   rintro (h2 | h2 | h2)
   ·rw [h2] at h; exact absurd h.1.1 (by simp)
   ·exact h.1.2 h2
   ·exact h.2 h2
  rw [if_neg h1] at hk
  simp only [Prod.mk.injEq] at hk
  exact finI2 hD hk.1.symm hk.2.symm
def numberF (s : List UInt8) (hi : Int) : Int×Int:=if Lib.hasPrefix s [45] then (0,6) else intF s 0 hi
def spNumber : FSpec:=fun _ xs ls K=>∃ (s : List UInt8) (hi : Int),xs = [.str s,.int .i64 (.a hi)]∧ls = []∧s.length≤100000∧∀ v e,(v,e) = numberF s hi→K (.tup [.int .i64 (.a v),.int .i64 (.a e)]) []
theorem number_ok : FnOk Tryz.prog gl 55 spNumber:=by
 refine fnOk (gh:=[]) mixed cxOk (tabCons hasPre_ok (tabCons int_ok tabNil)) Tryz.func55 (by kernel_rfl) (by kernel_rfl) ?_
 intro xs ls K h
 unfold spNumber at h
 obtain ⟨s,hi,rfl,rfl,hs,h⟩:=h
 obtain ⟨k,hk⟩ : ∃ k,k = numberF s hi:=⟨_,rfl⟩
 obtain ⟨kv,ke⟩:=k
 refine ⟨_,_,h kv ke hk,fun D hD=>?_⟩
 cbv
 clear h
 unfold numberF at hk
 refine ⟨s,[45],rfl,rfl,fun b hb=>?_⟩
 cbv
 rw [←hb] at hk
 clear hb
 refine br hD (fun h=>?_) (fun h=>?_)<;>cbv
 ·have h1 : b = true:=h
  rw [if_pos h1] at hk
  simp only [Prod.mk.injEq] at hk
  exact finI2 hD hk.1.symm hk.2.symm
 ·have h1 : b = false:=h
  rw [if_neg (by rw [h1]; simp)] at hk
  refine ⟨s,_,_,rfl,rfl,hs,fun v e hve=>?_⟩
  cbv
  have hve : (v,e) = intF s 0 hi:=by subst hD; exact hve
  rw [←hve] at hk
  simp only [Prod.mk.injEq] at hk
  exact finI2 hD hk.1.symm hk.2.symm
end Go.Proofs.YtefelnhpfdcleaaGreatDoor
namespace Go.Proofs.YtefelnhpfdcleaaGreatDoor
open Go Go.Sx
set_option maxRecDepth 100000
set_option maxHeartbeats 4000000
theorem RowU.sub {f f' : Nat→List SV} {n n' : Int} {t : List UInt8} {a b : Nat} {A B : Int} (R : RowU f n t) (h : SubRow f' n' f A B) (hA : A = a) (hB : B = b) (hab : a≤b) (hb : b≤t.length) : RowU f' n' ((t.drop a).take (b - a)):=by
 refine ⟨by rw [h.len,hA,hB,List.length_take,List.length_drop]; omega,fun i hi=>?_⟩
 rw [List.length_take,List.length_drop] at hi
 rw [h.row i (i + a) (by rw [hA]; omega),R.f (i + a) (by omega)]
 rw [List.getD_eq_getElem?_getD,List.getD_eq_getElem?_getD,List.getElem?_take,if_pos (by omega),List.getElem?_drop,Nat.add_comm a i]
theorem cutF_len' (c : UInt8) (s : List UInt8) : (cutF c s).1.length≤s.length∧(cutF c s).2.1.length≤s.length:=by
 induction s with
 | nil=>exact ⟨Nat.le_refl _,Nat.le_refl _⟩
 | cons b r ih=>unfold cutF; split<;>simp<;>omega
def rVer : List UInt8:=[32,72,84,84,80,47,49,46,49,13,10]
def lineBad (is both : Bool) (m t : List UInt8) (has : Bool) : Bool:=(((!is || !both) || m == []) || t == []) || has
def readLineF (b : List UInt8) : List UInt8×List UInt8×Int×Int :=
 if !(cutF 10 (b.take 1024)).2.2 && decide (b.length < 1024) then ([],[],0,10) else if !(cutF 10 (b.take 1024)).2.2 then ([],[],0,3) else
 if lineBad (Lib.hasSuffix ((cutF 10 (b.take 1024)).1 ++ [10]) rVer) (cutF 32 (Lib.trimSuffix ((cutF 10 (b.take 1024)).1 ++ [10]) rVer)).2.2 (cutF 32 (Lib.trimSuffix ((cutF 10 (b.take 1024)).1 ++ [10]) rVer)).1 (cutF 32 (Lib.trimSuffix ((cutF 10 (b.take 1024)).1 ++ [10]) rVer)).2.1 (decide (0≤Lib.indexByte (cutF 32 (Lib.trimSuffix ((cutF 10 (b.take 1024)).1 ++ [10]) rVer)).2.1 32)) then ([],[],0,6) else
 ((cutF 32 (Lib.trimSuffix ((cutF 10 (b.take 1024)).1 ++ [10]) rVer)).1,(cutF 32 (Lib.trimSuffix ((cutF 10 (b.take 1024)).1 ++ [10]) rVer)).2.1,((cutF 10 (b.take 1024)).1.length : Int) + 1,0)
def spReadLine : FSpec:=fun _ xs ls K=>∃ (b : List UInt8) (nl : Bool) (n : Int) (f : Nat→List SV),xs = [.sl (.a nl) (.a n) 1 f]∧ls = []∧RowU f n b∧b.length≤1000000∧∀ m t k e,(m,t,k,e) = readLineF b→K (.tup [.str m,.str t,.int .i64 (.a k),.int .i64 (.a e)]) []
theorem finRL {D : Dn} (hD : D = dn) {m t m' t' : List UInt8} {k e : Int} {x y : ST} (h1 : m' = m) (h2 : t' = t) (h3 : x.den = k) (h4 : y.den = e) : Fin (.tup [.str m',.str t',.int .i64 (.a (D.i x)),.int .i64 (.a (D.i y))]) (.tup [.str m,.str t,.int .i64 (.a k),.int .i64 (.a e)]) [] []:=by
 subst hD h1 h2 h3 h4; exact finV (LeV.refl _)
theorem readLine_ok : FnOk Tryz.prog gl 52 spReadLine:=by
 refine fnOk (gh:=[]) mixed cxOk (tabCons cut_ok (tabCons cutSuf_ok (tabCons cont1_ok tabNil))) Tryz.func52 (by kernel_rfl) (by kernel_rfl) ?_
 intro xs ls K h
 unfold spReadLine at h
 obtain ⟨b,nl,n,f,rfl,rfl,R,hb,h⟩:=h
 obtain ⟨k,hk0⟩ : ∃ k,k = readLineF b:=⟨_,rfl⟩
 obtain ⟨km,kt,kk,ke⟩:=k
 have hk:=hk0
 unfold readLineF at hk
 obtain ⟨s0,hs0⟩ : ∃ s,s = b.take 1024:=⟨_,rfl⟩
 rw [←hs0] at hk
 obtain ⟨c1,hc1⟩ : ∃ s,s = cutF 10 s0:=⟨_,rfl⟩
 rw [←hc1] at hk
 have hcl:=cutF_len' 10 s0
 rw [←hc1] at hcl
 obtain ⟨ca,cb,ct⟩:=c1
 simp only at hk hcl
 have hs0l : s0.length≤1024:=by rw [hs0,List.length_take]; omega
 refine ⟨_,_,h km kt kk ke hk0,fun D hD=>?_⟩
 cbv
 clear h hk0
 intro mn hmn
 cbv
 have hmn2 : VI mn (min b.length 1024):=⟨by
  have h1 : mn = min n 1024:=by subst hD; exact hmn.h
  have:=R.n
  rw [h1,this]; omega⟩
 clear hmn
 refine ⟨by subst hD; exact ⟨Int.le_refl _,by show (0 : Int)≤mn; rw [hmn2.h]; omega,by show mn≤n; rw [hmn2.h,R.n]; omega⟩,fun f1 n1 hsub=>?_⟩
 cbv
 have R1 : RowU f1 n1 s0:=by
  have:=R.sub (a:=0) (b:=min b.length 1024) hsub (by subst hD; rfl) (by subst hD; exact hmn2.h) (by omega) (by omega)
  rw [hs0]
  have e : (b.drop 0).take (min b.length 1024 - 0) = b.take 1024:=by
   rw [List.drop_zero,Nat.sub_zero]
   rcases Nat.le_total b.length 1024 with h | h
   ·rw [Nat.min_eq_left h,List.take_of_length_le (Nat.le_refl _),List.take_of_length_le h]
   ·rw [Nat.min_eq_right h]
  rw [e] at this; exact this
 clear hsub
 refine ⟨by subst hD; exact R1.byte,fun r hr=>?_⟩
 cbv
 have hr2 : r = s0:=by subst hD; exact R1.str hr
 clear hr
 refine ⟨r,10,rfl,rfl,by rw [hr2]; omega,fun a x t hat=>?_⟩
 cbv
 rw [hr2,←hc1] at hat
 simp only [Prod.mk.injEq] at hat
 obtain ⟨hq1,hq2,hq3⟩:=hat
 subst hq1 hq2 hq3
 clear hc1 hr2
 refine br hD (fun h=>?_) (fun h=>?_)<;>cbv
 ·have h1 : (!t && decide (b.length < 1024)) = true:=by
   have h : (!t && decide (n < 1024)) = true:=h
   have e : decide (n < 1024) = decide (b.length < 1024):=by rw [decide_eq_decide,R.n]; omega
   rw [←e]; exact h
  rw [if_pos h1] at hk
  simp only [Prod.mk.injEq] at hk
  exact finRL hD hk.1.symm hk.2.1.symm hk.2.2.1.symm hk.2.2.2.symm
 have h1 : (!t && decide (b.length < 1024)) = false:=by
  have h : (!t && decide (n < 1024)) = false:=h
  have e : decide (n < 1024) = decide (b.length < 1024):=by rw [decide_eq_decide,R.n]; omega
  rw [←e]; exact h
 rw [if_neg (by rw [h1]; simp)] at hk
 clear h h1
 refine br hD (fun h=>?_) (fun h=>?_)<;>cbv
 ·have h1 : (!t) = true:=h
  rw [if_pos h1] at hk
  simp only [Prod.mk.injEq] at hk
  exact finRL hD hk.1.symm hk.2.1.symm hk.2.2.1.symm hk.2.2.2.symm
 have h1 : (!t) = false:=h
 rw [if_neg (by rw [h1]; simp)] at hk
 have hal : a.length≤1024:=by omega
 clear h h1
 refine ⟨⟨by simp only [List.length_cons,List.length_nil]; omega⟩,fun s1 hs1=>?_⟩
 cbv
 have hs1 : s1 = a ++ [10]:=hs1.h
 rw [←hs1] at hk
 have hs1l : s1.length≤1025:=by rw [hs1]; simp; omega
 clear hs1
 refine ⟨s1,rVer,rfl,rfl,by omega,fun s2 is2 hs2 his2=>?_⟩
 cbv
 rw [←hs2,←his2] at hk
 have hs2l : s2.length≤1025:=by
  rw [hs2,Lib.trimSuffix]
  split
  ·rw [List.length_take]; omega
  ·exact hs1l
 clear hs2 his2
 refine ⟨s2,32,rfl,rfl,by omega,fun me ta bo hmt=>?_⟩
 cbv
 rw [←hmt] at hk
 simp only at hk
 clear hmt
 refine ⟨ta,32,rfl,rfl,fun cc hcc=>?_⟩
 cbv
 rw [←hcc] at hk
 clear hcc
 have hwr : IntKind.i64.wrap ((a.length : Int) + 1) = (a.length : Int) + 1:=wrap64 (by omega) (by omega)
 refine br hD (fun h=>?_) (fun h=>?_)<;>cbv
 ·have h1 : lineBad is2 bo me ta cc = true:=h
  rw [if_pos h1] at hk
  simp only [Prod.mk.injEq] at hk
  exact finRL hD hk.1.symm hk.2.1.symm hk.2.2.1.symm hk.2.2.2.symm
 ·have h1 : lineBad is2 bo me ta cc = false:=h
  rw [if_neg (by rw [h1]; simp)] at hk
  simp only [Prod.mk.injEq] at hk
  refine finRL hD hk.1.symm hk.2.1.symm ?_ hk.2.2.2.symm
  rw [hk.2.2.1]
  have hwr : IntKind.i64.wrap ((a.length : Int) + 1) = (a.length : Int) + 1:=wrap64 (by omega) (by omega)
  exact hwr
end Go.Proofs.YtefelnhpfdcleaaGreatDoor
namespace Go.Proofs.YtefelnhpfdcleaaGreatDoor
open Go Go.Sx
set_option maxRecDepth 100000
set_option maxHeartbeats 8000000
def isMethodF (s : List UInt8) : Bool:=decide (s.length≤16) && tokenF s
def spPredS (p : List UInt8→Bool) : FSpec:=fun _ xs ls K=>∃ (s : List UInt8),xs = [.str s]∧ls = []∧s.length≤9223372036854775807∧∀ r,r = p s→K (.bool (.a r)) []
theorem isMethod_ok : FnOk Tryz.prog gl 70 (spPredS isMethodF):=by
 refine fnOk (gh:=[]) mixed cxOk (tabCons token_ok tabNil) Tryz.func70 (by kernel_rfl) (by kernel_rfl) ?_
 intro xs ls K h
 unfold spPredS at h
 obtain ⟨s,rfl,rfl,hs,h⟩:=h
 obtain ⟨k,hk⟩ : ∃ k,k = isMethodF s:=⟨_,rfl⟩
 refine ⟨_,_,h k hk,fun D hD=>?_⟩
 clear h
 cbv
 refine ⟨s,rfl,rfl,hs,fun t ht=>?_⟩
 cbv
 refine finBool hD ?_
 rw [hk,isMethodF,←ht]
 have : decide ((s.length : Int)≤16) = decide (s.length≤16):=by rw [decide_eq_decide]; omega
 rw [←this]; rfl
def ownF (t : List UInt8) : Bool:=t == [104,111,115,116] || (t == [120,45,114,101,113,117,101,115,116,45,105,100] || (t == [99,111,110,116,101,110,116,45,108,101,110,103,116,104] || t == [116,114,97,110,115,102,101,114,45,101,110,99,111,100,105,110,103]))
theorem isOwn_ok : FnOk Tryz.prog gl 110 (spPredS fun s=>ownF (foldF s)):=by
 refine fnOk (gh:=[]) mixed cxOk (tabCons fold_ok tabNil) Tryz.func110 (by kernel_rfl) (by kernel_rfl) ?_
 intro xs ls K h
 unfold spPredS at h
 obtain ⟨s,rfl,rfl,hs,h⟩:=h
 obtain ⟨k,hk⟩ : ∃ k,k = ownF (foldF s):=⟨_,rfl⟩
 refine ⟨_,_,h k hk,fun D hD=>?_⟩
 clear h
 cbv
 refine ⟨s,rfl,rfl,hs,fun t ht=>?_⟩
 have ht : t = foldF s:=ht
 rw [←ht] at hk
 clear ht
 unfold ownF at hk
 cbv
 refine br hD (fun h=>?_) (fun h=>?_)<;>cbv
 ·have h1 : (t == [104,111,115,116]) = true:=h
  refine finBool hD ?_
  rw [hk,h1]; simp
 have h1 : (t == [104,111,115,116]) = false:=h
 rw [h1,Bool.false_or] at hk
 clear h h1
 refine br hD (fun h=>?_) (fun h=>?_)<;>cbv
 ·have h1 : (t == [120,45,114,101,113,117,101,115,116,45,105,100]) = true:=h
  refine finBool hD ?_
  rw [hk,h1]; simp
 have h1 : (t == [120,45,114,101,113,117,101,115,116,45,105,100]) = false:=h
 rw [h1,Bool.false_or] at hk
 clear h h1
 refine br hD (fun h=>?_) (fun h=>?_)<;>cbv
 ·have h1 : (t == [99,111,110,116,101,110,116,45,108,101,110,103,116,104]) = true:=h
  refine finBool hD ?_
  rw [hk,h1]; simp
 have h1 : (t == [99,111,110,116,101,110,116,45,108,101,110,103,116,104]) = false:=h
 rw [h1,Bool.false_or] at hk
 clear h h1
 refine br hD (fun h=>?_) (fun h=>?_)<;>cbv
 ·have h1 : (t == [116,114,97,110,115,102,101,114,45,101,110,99,111,100,105,110,103]) = true:=h
  refine finBool hD ?_
  rw [hk,h1]; simp
 have h1 : (t == [116,114,97,110,115,102,101,114,45,101,110,99,111,100,105,110,103]) = false:=h
 rw [h1] at hk
 clear h h1
 refine finBool hD ?_
 rw [hk]; rfl
def hostSet : List UInt8:=[97,98,99,100,101,102,103,104,105,106,107,108,109,110,111,112,113,114,115,116,117,118,119,120,121,122,48,49,50,51,52,53,54,55,56,57,45,46,58]
def hostF (s : List UInt8) : Bool:=s != [] && (decide (s.length≤100) && (Lib.trimS s hostSet == []))
theorem isHost_ok : FnOk Tryz.prog gl 83 (spPredS hostF):=by
 refine fnOk (gh:=[]) mixed cxOk (tabCons trim64_ok tabNil) Tryz.func83 (by kernel_rfl) (by kernel_rfl) ?_
 intro xs ls K h
 unfold spPredS at h
 obtain ⟨s,rfl,rfl,hs,h⟩:=h
 obtain ⟨k,hk⟩ : ∃ k,k = hostF s:=⟨_,rfl⟩
 refine ⟨_,_,h k hk,fun D hD=>?_⟩
 clear h
 cbv
 refine ⟨s,hostSet,rfl,rfl,hs,by decide,by decide,fun t ht=>?_⟩
 cbv
 refine finBool hD ?_
 rw [hk,hostF,←ht]
 have : decide ((s.length : Int)≤100) = decide (s.length≤100):=by rw [decide_eq_decide]; omega
 rw [←this,←Bool.and_assoc]; rfl
def ttM : List (Nat×TI):=[
 (3,⟨.int .i64,1,8,[.int .i64 (.l 0)]⟩),
 (4,⟨.bool,1,1,[.bool (.l false)]⟩),
 (9,⟨.string,1,16,[.str []]⟩),
 (23,⟨.int .i64,1,8,[.int .i64 (.l 0)]⟩),
 (91,⟨.struct [(0,9),(1,4),(2,4),(3,4)],4,24,[.str [],.bool (.l false),.bool (.l false),.bool (.l false)]⟩),
 (92,⟨.array 6 91,24,144,[.str [],.bool (.l false),.bool (.l false),.bool (.l false),.str [],.bool (.l false),.bool (.l false),.bool (.l false),.str [],.bool (.l false),.bool (.l false),.bool (.l false),.str [],.bool (.l false),.bool (.l false),.bool (.l false),.str [],.bool (.l false),.bool (.l false),.bool (.l false),.str [],.bool (.l false),.bool (.l false),.bool (.l false)]⟩)]
theorem ttM_ok : Sx.ttB Tryz.prog ttM = true:=by kernel_rfl
theorem cxOkM {tab : List (Nat×FSpec)} {gl : List (Nat×SV)} {gh : List (Nat×List Gh)} {its : List (Nat×(FSpec→FSpec))} {yl : List FSpec} : CxOk Tryz.prog ⟨dn,ttM,tab,gl,[],gh,its,yl⟩:=⟨rfl,ttM_ok,fun _ h=>(by cases h)⟩
def bareF (s : List UInt8) : Bool:=if s = [71,69,84] then true else if s = [72,69,65,68] then true else if s = [79,80,84,73,79,78,83] then false else if s = [84,82,65,67,69] then true else if s = [80,85,84] then false else if s = [68,69,76,69,84,69] then false else false
theorem isBare_ok : FnOk Tryz.prog gl 56 (spPredS bareF):=by
 refine fnOk (gh:=[(999986,[.freeze 10])]) mixed cxOkM tabNil Tryz.func56 (by kernel_rfl) (by kernel_rfl) ?_
 intro xs ls K h
 unfold spPredS at h
 obtain ⟨s,rfl,rfl,hs,h⟩:=h
 obtain ⟨k,hk⟩ : ∃ k,k = bareF s:=⟨_,rfl⟩
 refine ⟨_,_,h k hk,fun D hD=>?_⟩
 clear h
 unfold bareF at hk
 cbv
 refine br hD (fun h=>?_) (fun h=>?_)<;>cbv
 ·have h1 : s = [71,69,84]:=by have h : ([71,69,84] == s) = true:=h; exact (eq_of_beq h).symm
  refine finBool hD ?_
  rw [hk,if_pos h1]; rfl
 have h1 : ¬ s = [71,69,84]:=by have h : ([71,69,84] == s) = false:=h; intro e; rw [e] at h; simp at h
 rw [if_neg h1] at hk
 clear h h1
 refine br hD (fun h=>?_) (fun h=>?_)<;>cbv
 ·have h1 : s = [72,69,65,68]:=by have h : ([72,69,65,68] == s) = true:=h; exact (eq_of_beq h).symm
  refine finBool hD ?_
  rw [hk,if_pos h1]; rfl
 have h1 : ¬ s = [72,69,65,68]:=by have h : ([72,69,65,68] == s) = false:=h; intro e; rw [e] at h; simp at h
 rw [if_neg h1] at hk
 clear h h1
 refine br hD (fun h=>?_) (fun h=>?_)<;>cbv
 ·have h1 : s = [79,80,84,73,79,78,83]:=by have h : ([79,80,84,73,79,78,83] == s) = true:=h; exact (eq_of_beq h).symm
  refine finBool hD ?_
  rw [hk,if_pos h1]; rfl
 have h1 : ¬ s = [79,80,84,73,79,78,83]:=by have h : ([79,80,84,73,79,78,83] == s) = false:=h; intro e; rw [e] at h; simp at h
 rw [if_neg h1] at hk
 clear h h1
 refine br hD (fun h=>?_) (fun h=>?_)<;>cbv
 ·have h1 : s = [84,82,65,67,69]:=by have h : ([84,82,65,67,69] == s) = true:=h; exact (eq_of_beq h).symm
  refine finBool hD ?_
  rw [hk,if_pos h1]; rfl
 have h1 : ¬ s = [84,82,65,67,69]:=by have h : ([84,82,65,67,69] == s) = false:=h; intro e; rw [e] at h; simp at h
 rw [if_neg h1] at hk
 clear h h1
 refine br hD (fun h=>?_) (fun h=>?_)<;>cbv
 ·have h1 : s = [80,85,84]:=by have h : ([80,85,84] == s) = true:=h; exact (eq_of_beq h).symm
  refine finBool hD ?_
  rw [hk,if_pos h1]; rfl
 have h1 : ¬ s = [80,85,84]:=by have h : ([80,85,84] == s) = false:=h; intro e; rw [e] at h; simp at h
 rw [if_neg h1] at hk
 clear h h1
 refine br hD (fun h=>?_) (fun h=>?_)<;>cbv
 ·have h1 : s = [68,69,76,69,84,69]:=by have h : ([68,69,76,69,84,69] == s) = true:=h; exact (eq_of_beq h).symm
  refine finBool hD ?_
  rw [hk,if_pos h1]; rfl
 have h1 : ¬ s = [68,69,76,69,84,69]:=by have h : ([68,69,76,69,84,69] == s) = false:=h; intro e; rw [e] at h; simp at h
 rw [if_neg h1] at hk
 clear h h1
 refine finBool hD ?_
 rw [hk]; rfl
end Go.Proofs.YtefelnhpfdcleaaGreatDoor
namespace Go.Proofs.YtefelnhpfdcleaaGreatDoor
open Go Go.Sx Go.RowKit
set_option maxRecDepth 100000
set_option maxHeartbeats 2000000
theorem run_plain {P : Program} {b : Bool} {gl : List (Nat×SV)} {f : FuncId} {xs : List SV} {W : World} {args : List Value} (h : CallsTo P gl f xs [] (.bool (.a b)) [])
  (hgl : ∀ g s,Sx.look g gl = some s→RO (oldI W) W s (.pointer (some ⟨g,0,none⟩))∧g < W.heap.size∧glBlk W g s) (hl : xs.length = args.length) (hr : ∀ (i : Nat) (s : SV) (v : Value),xs[i]? = some s→args[i]? = some v→RO (oldI W) W s v) :
  Calls P f ⟨args⟩ W fun e W'=>e = .returned (.bool b)∧Below W.heap.size W W':=by
 refine (h ⟨W,fun _=>False,oldI W,fun _=>none,fun _=>none,fun _=>none,[]⟩ ⟨fun _=>none,fun _=>none,fun _=>none,fun _=>none,fun _=>none,oldI W⟩ W args rfl (fun _ _ h=>h) (fun _ h=>absurd h (by simp)) ⟨rfl,rfl,rfl,Nat.le_refl _,fun _ _ _=>rfl,fun _ _ h=>⟨h,rfl⟩,fun _ _ h=>h,fun _ _ h=>.inl h,fun _ _ h=>(by cases h),⟨fun _ _ h=>(by cases h),fun _ _ h=>(by cases h),fun _ _ h=>(by cases h)⟩⟩ (fun g s h=>⟨(hgl g s h).1,(hgl g s h).2.1,fun h=>h,(hgl g s h).2.2⟩) (fun h=>?_) ⟨hl,fun i s v a b=>.ro (hr i s v a b)⟩).mono fun e W' hq=>?_
 ·simp only [hfOf,nth]
  exact ⟨rfl,rfl,rfl,rfl⟩
 ·obtain ⟨v,E',rfl,hb,_,hv⟩:=hq
  rw [hv.bool_inv]
  exact ⟨rfl,⟨hb.os,hb.tape,hb.output,hb.size,fun k hk=>hb.old k hk (fun h=>h)⟩⟩
def badR (x : Nat) : Bool:=decide (x≠9) && (decide (x < 32) || decide (126 < x))
def okB (c : UInt8) : Bool:=decide (c.toNat = 9) || (decide (32≤c.toNat) && decide (c.toNat≤126))
def plainB (s : List UInt8) : Bool:=s.all okB
def spRune : FSpec:=fun _ xs ls K=>∃ (x : Nat),xs = [.int .i32 (.a (x : Int))]∧ls = []∧∀ r,r = badR x→K (.bool (.a r)) []
theorem rune_ok : FnOk Tryz.prog [] 117 spRune:=by
 refine fnOk (gh:=[]) mixed cxOk tabNil Tryz.func117 (by kernel_rfl) (by kernel_rfl) ?_
 intro xs ls K h
 unfold spRune at h
 obtain ⟨x,rfl,rfl,h⟩:=h
 obtain ⟨k,hk⟩ : ∃ k,k = badR x:=⟨_,rfl⟩
 refine ⟨_,_,h k hk,fun D hD=>?_⟩
 clear h
 cbv
 refine finBool hD ?_
 rw [hk]
 have e1 : ((x : Int) = 9)↔x = 9:=by omega
 have e2 : ((x : Int) < 32)↔x < 32:=by omega
 have e3 : ((126 : Int) < x)↔126 < x:=by omega
 simp only [BT.den,cmpDen,ST.den,badR]
 rw [Bool.eq_iff_iff]
 simp only [Bool.and_eq_true,Bool.or_eq_true,bne_iff_ne,decide_eq_true_eq,Int.ofNat_eq_natCast]
 constructor
 ·rintro ⟨h1,h2⟩
  exact ⟨fun e=>h1 (e1.2 e),h2.imp (fun e=>e2.1 (of_decide_eq_true e)) (fun e=>e3.1 (of_decide_eq_true e))⟩
 ·rintro ⟨h1,h2⟩
  exact ⟨fun e=>h1 (e1.1 e),h2.imp (fun e=>decide_eq_true (e2.2 e)) (fun e=>decide_eq_true (e3.2 e))⟩
theorem okB_bad (c : UInt8) : okB c = !badR c.toNat:=by
 unfold okB badR
 by_cases h1 : c.toNat = 9<;>by_cases h2 : c.toNat < 32<;>by_cases h3 : 126 < c.toNat<;>simp [h1,h2,h3]<;>omega
theorem idx_from (s : ByteArray) : ∀ (f pos : Nat),s.size≤pos + f→decide (0≤Lib.idxFuncFrom badR true s f pos) = !((s.data.toList.drop pos).all okB)
 | 0,pos,h=>by
  have : s.data.toList.drop pos = []:=List.drop_eq_nil_of_le (show s.data.toList.length≤pos from h)
  rw [this]; rfl
 | f + 1,pos,h=>by
  unfold Lib.idxFuncFrom
  by_cases hp : pos < s.size
  ·have hp' : pos < s.data.toList.length:=hp
   have hd : s.data.toList.drop pos = s[pos]'hp :: s.data.toList.drop (pos + 1):=by
    rw [List.drop_eq_getElem_cons hp']; rfl
   rw [if_pos hp,hd,List.all_cons]
   by_cases ha : (s[pos]'hp).toNat < 128
   ·rw [decode_ascii s pos hp ha]
    have ih:=idx_from s f (pos + 1) (by omega)
    have hb:=okB_bad (s[pos]'hp)
    by_cases hr : badR (s[pos]'hp).toNat = true
    ·rw [if_pos hr,hb,hr]; simp
    ·rw [if_neg hr,hb,ih]
     simp only [Bool.not_eq_true] at hr
     rw [hr]; simp
   ·obtain ⟨d1,_⟩:=decode_high s pos hp (by omega)
    have hr : badR (Utf8.decode s pos).1 = true:=by
     unfold badR
     simp; omega
    have hb : okB (s[pos]'hp) = false:=by
     rw [okB_bad]
     simp only [badR]
     simp; omega
    rw [if_pos hr,hb]; simp
  ·rw [if_neg hp]
   have : s.data.toList.drop pos = []:=List.drop_eq_nil_of_le (show s.data.toList.length≤pos from Nat.not_lt.1 hp)
   rw [this]; rfl
def spPlainH : FSpec:=fun _ xs ls K=>∃ (s : List UInt8),xs = [.str s]∧ls = []∧∀ r,r = plainB s→K (.bool (.a r)) []
def spHasR : FSpec:=fun _ xs ls K=>∃ (s : List UInt8),xs = [.str s,.fn 117]∧ls = []∧∀ r,r = !plainB s→K (.bool (.a r)) []
theorem bEnter117 : ∀ args w,(callFunc 117 args).run Tryz.prog w = .ok (.enter 117 args) w:=enters_of Tryz.func117 (by kernel_rfl) rfl
theorem rune_grows (w : World) : PredGrows Tryz.prog 117 #[] badR w:=by
 intro W x _ _
 obtain ⟨r,ls',⟨hr,hl⟩,hc⟩:=rune_ok.2 [.int .i32 (.a (x : Int))] [] (fun r ls'=>r = .bool (.a (badR x))∧ls' = []) ⟨x,rfl,rfl,fun r hr=>by rw [hr]; exact ⟨rfl,rfl⟩⟩
 subst hr hl
 refine run_plain (gl:=[]) hc (fun g s h=>by simp [Sx.look] at h) (by simp [encR]) fun i s v a b=>?_
 cases i with
 | zero=>simp [encR] at a b; subst a b; exact .int rfl
 | succ i=>simp at a
theorem hasR_ok : FnOk Tryz.prog gl 116 spHasR:=by
 refine ⟨⟨Tryz.f116,_,Tryz.func116,rfl,by kernel_rfl⟩,fun xs ls K h=>?_⟩
 obtain ⟨s,rfl,rfl,h⟩:=h
 refine ⟨_,_,h _ rfl,callsTo_below fun E B w vals _ _ _ hr=>?_⟩
 obtain ⟨v,g,rfl,hu,hgv⟩:=relL_two hr
 rw [rel_str hu,hgv.fn_inv]
 refine (sh_strings_ContainsFunc_grows 117 #[] bEnter117 badR (Sx.bytes s) w (rune_grows w)).mono ?_
 rintro e w' ⟨rfl,hB⟩
 refine ⟨_,rfl,fun E=>.ro (.bool ?_),hB⟩
 have:=idx_from (Sx.bytes s) (Sx.bytes s).size 0 (by omega)
 show (!plainB s) = _
 rw [Lib.idxFunc,this]; rfl
theorem hplain_ok : FnOk Tryz.prog gl 93 spPlainH:=by
 refine fnOk (gh:=[]) mixed cxOk (tabCons hasR_ok tabNil) Tryz.func93 (by kernel_rfl) (by kernel_rfl) ?_
 intro xs ls K h
 unfold spPlainH at h
 obtain ⟨s,rfl,rfl,h⟩:=h
 obtain ⟨k,hk⟩ : ∃ k,k = plainB s:=⟨_,rfl⟩
 refine ⟨_,_,h k hk,fun D hD=>?_⟩
 clear h
 cbv
 refine ⟨s,rfl,rfl,fun r hr=>?_⟩
 cbv
 refine finBool hD ?_
 rw [hk,←Bool.not_not (plainB s),←hr]
 simp [BT.den]
end Go.Proofs.YtefelnhpfdcleaaGreatDoor
