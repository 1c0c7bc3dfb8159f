/- Part of the proofs of the statements about requests (layer 7): a symbolic executor over the code, that it is sound, and contracts of functions; it has no conditions of its own. -/
import Derived.Lib.ItoaNum
import Derived.Test.YtefelnhpfdcleaaGreatDoorProg
import Derived.Shelf.Strings.SlTrimAscii
import Derived.Shelf.Strings.Builder1
import Derived.Shelf.Strings.Builder2
import Derived.Shelf.Strings.OnBuilder
import Derived.Shelf.Strings.Trim
import Derived.Shelf.Small.Utf8
import Derived.Shelf.Small.Strs
import Derived.Shelf.Small.Wraps
import Derived.Shelf.Strings.BuilderF
import Derived.Shelf.Strings.BuilderK
import Derived.Shelf.Strings.Builder2Cap
import Derived.Shelf.Strconv.Itoa0
import Derived.Shelf.Strconv.Itoa1
import Derived.Shelf.LaysM
import Derived.Shelf.Strconv.Itoa2
import Derived.Shelf.Strconv.Itoa3
import Derived.Shelf.Strconv.Itoa4
import Derived.Shelf.Strconv.ParseIntEmpty
import Derived.Shelf.Strconv.Clone
import Derived.Shelf.Strconv.SyntaxError
import Derived.Shelf.Strconv.Lower
import Derived.Shelf.Strconv.ParseUint10
import Derived.Shelf.Strconv.ParseUint10Empty
import Derived.Shelf.Strconv.RangeError
import Derived.Shelf.Strconv.ParseUintEmpty
import Derived.Shelf.Strconv.ParseUint10b64
import Derived.Shelf.Strconv.ParseUint10b32
import Derived.Shelf.Strconv.ParseUint10b16
import Derived.Shelf.Strconv.ParseUint10b8
import Derived.Shelf.Strings.Search1
import Derived.Shelf.Strings.Search2
import Derived.Shelf.Strings.Search3
import Derived.Shelf.Strings.Cut
import Derived.Shelf.Strings.Shaped
import Derived.Shelf.Strings.Prefix
import Derived.Shelf.Unicode.Decode
import Derived.Shelf.Strings.Runes
import Derived.Shelf.Strings.AsciiSet
import Derived.Shelf.Unicode.DecodeSlow
import Derived.Shelf.Unicode.DecodeAny
import Derived.Shelf.Unicode.DecodeLast
import Derived.Ground.SlgfProg
import Derived.Shelf.SlicesE.IndexFunc
import Derived.Shelf.SlicesE.DeleteFunc
import Derived.Shelf.Bytes.IndexByte
import Derived.Lib.Walk
import Derived.WalkKit
import Derived.Shelf.LaysC
import Derived.Shelf.Strconv.ToError
import Derived.Shelf.Strconv.ParseUint10Any
import Derived.Shelf.Strconv.ParseInt10
import Derived.Shelf.Strconv.ToErrorRange
import Derived.Shelf.Strconv.ParseUint10At
import Derived.Shelf.Strconv.ParseInt10At64
import Derived.Shelf.Strconv.ParseInt10At32
import Derived.Shelf.Strconv.ParseInt10At16
import Derived.Shelf.Strconv.ParseInt10At8
import Derived.Shelf.Strconv.ParseInt10All
import Derived.Shelf.Strconv.ParseIntPublic10
import Derived.Shelf.Strconv.ErrVarParseInt
import Derived.Shelf.GgClosure.StringsIndexFunc
import Derived.Ground.GgwProg
import Derived.Shelf.GgClosure.StringsIndexFuncTop
import Derived.Shelf.Strings.FuncGrows
import Derived.Shelf.Strings.BuilderCap
import Derived.ProofKit
import Derived.Below
import Derived.Carry
import Derived.ChangeOld
import Derived.ChangeArms
import Derived.OpenShut
import Derived.MakeChecks
import Derived.Shelf.Bytes.SlIndexAt
import Derived.Test.YtefelnhpfdcleaaGreatDoorCards
import Derived.Test.YtefelnhpfdcleaaGreatDoorTie
import Derived.LaidLaws
import Derived.LaidHandle
import Derived.LaidMore
import Derived.Lay
import Derived.Stop.Joined
import Derived.Stop.LaidErr
import Derived.Lib.SmallJoins
import Derived.Laws.RangeString
import Derived.Laws.RangeAny
import Derived.Test.YtefelnhpfdcleaaGreatDoorE4Pd
namespace Go.Proofs.YtefelnhpfdcleaaGreatDoor
open Go.Sx
set_option maxRecDepth 10000
def tt : List (Nat×TI):=[
 (2,⟨.int .i64,1,8,[.int .i64 (.l 0)]⟩),
 (3,⟨.int .i64,1,8,[.int .i64 (.l 0)]⟩),
 (4,⟨.bool,1,1,[.bool (.l false)]⟩),
 (5,⟨.int .u8,1,1,[.int .u8 (.l 0)]⟩),
 (9,⟨.string,1,16,[.str []]⟩),
 (23,⟨.int .i64,1,8,[.int .i64 (.l 0)]⟩),
 (29,⟨.slice 69,1,24,[(.sl (.l true) (.l 0) 2 fun _=>[])]⟩),
 (31,⟨.struct [(0,2),(1,9),(2,9),(3,9),(4,29),(5,9)],6,96,[.int .i64 (.l 0),.str [],.str [],.str [],(.sl (.l true) (.l 0) 2 fun _=>[]),.str []]⟩),
 (36,⟨.slice 5,1,24,[(.sl (.l true) (.l 0) 1 fun _=>[])]⟩),
 (41,⟨.int .u16,1,2,[.int .u16 (.l 0)]⟩),
 (50,⟨.slice 31,1,24,[(.sl (.l true) (.l 0) 6 fun _=>[])]⟩),
 (55,⟨.slice 41,1,24,[(.sl (.l true) (.l 0) 1 fun _=>[])]⟩),
 (61,⟨.slice 9,1,24,[(.sl (.l true) (.l 0) 1 fun _=>[])]⟩),
 (69,⟨.struct [(0,9),(1,9)],2,32,[.str [],.str []]⟩),
 (80,⟨.struct [(0,61),(1,61),(2,61),(3,4),(4,29)],5,104,[(.sl (.l true) (.l 0) 1 fun _=>[]),(.sl (.l true) (.l 0) 1 fun _=>[]),(.sl (.l true) (.l 0) 1 fun _=>[]),.bool (.l false),(.sl (.l true) (.l 0) 2 fun _=>[])]⟩),
 (91,⟨.struct [(0,9),(1,4),(2,4),(3,4)],4,24,[.str [],.bool (.l false),.bool (.l false),.bool (.l false)]⟩),
 (107,⟨.iface,1,16,[.raw .nilIface]⟩),
 (102,⟨.pointer 104,1,8,[.nilp]⟩),
 (104,⟨.struct [(0,102),(1,36)],2,32,[.nilp,(.sl (.l true) (.l 0) 1 fun _=>[])]⟩),
 (156,⟨.map 9 4,1,8,[.raw (.map none)]⟩)]
def eqs : List TypeId:=[69]
def methodCells : List SV:=[
 .str [71,69,84],.bool (.l true),.bool (.l true),.bool (.l true),
 .str [72,69,65,68],.bool (.l true),.bool (.l true),.bool (.l true),
 .str [79,80,84,73,79,78,83],.bool (.l true),.bool (.l true),.bool (.l false),
 .str [84,82,65,67,69],.bool (.l true),.bool (.l true),.bool (.l true),
 .str [80,85,84],.bool (.l false),.bool (.l true),.bool (.l false),
 .str [68,69,76,69,84,69],.bool (.l false),.bool (.l true),.bool (.l false)]
def errRow (_ : Nat) : List SV:=[.ifc (.l false)]
def powRow (i : Nat) : List SV:=[.int .u64 (.a (Go.Lib.pow10Tab.getD i 0))]
def gl : List (Nat×SV):=[(0,.rptr methodCells),(5,.rarr 1 1 errRow),(6,.rarr 20 1 powRow)]
theorem fnOk_nil {f : Go.FuncId} {sp : FSpec} (h : FnOk Tryz.prog [] f sp) : FnOk Tryz.prog gl f sp :=
 ⟨h.1,fun xs ls K hs=>let ⟨r,ls',hk,hc⟩:=h.2 xs ls K hs; ⟨r,ls',hk,fun B E w vals a b c d _=>hc B E w vals a b c d (fun _ _ hh=>nomatch hh)⟩⟩
theorem tt_ok : ttB Tryz.prog tt = true:=by kernel_rfl
theorem mixed : Tryz.prog.follows .mixedOrders = true:=by kernel_rfl
theorem cxOk {tab : List (Nat×FSpec)} {gl : List (Nat×SV)} {gh : List (Nat×List Gh)} {its : List (Nat×(FSpec→FSpec))} {yl : List FSpec} : CxOk Tryz.prog ⟨dn,tt,tab,gl,eqs,gh,its,yl⟩:=by
 refine ⟨rfl,tt_ok,fun t ht=>?_⟩
 simp only [eqs,List.mem_cons,List.mem_nil_iff,or_false] at ht
 rcases ht with rfl
 all_goals
  refine ⟨?_,?_,?_⟩
  ·kernel_rfl
  ·kernel_rfl
  ·decide
end Go.Proofs.YtefelnhpfdcleaaGreatDoor
namespace Go.Proofs.YtefelnhpfdcleaaGreatDoor
open Go.Sx
set_option maxRecDepth 10000
set_option maxHeartbeats 2000000
def kindsL : List UInt8:=[48,48,48,48,48,48,48,48,48,50,48,48,48,48,48,48,48,48,48,48,48,48,48,48,48,48,48,48,48,48,48,48,50,51,49,51,51,51,51,51,49,49,51,51,49,51,51,49,51,51,51,51,51,51,51,51,51,51,49,49,49,49,49,49,49,51,51,51,51,51,51,51,51,51,51,51,51,51,51,51,51,51,51,51,51,51,51,51,51,51,51,49,49,49,51,51,51,51,51,51,51,51,51,51,51,51,51,51,51,51,51,51,51,51,51,51,51,51,51,51,51,51,51,49,51,49,51,48]
def kindI (c : Int) : Int:=if 128≤c then 0 else ((kindsL.getD c.toNat 48).toNat : Int) - 48
def spKind : FSpec:=fun _ xs ls K=>∃ (c : Int),xs = [.int .u8 (.a c)]∧ls = []∧(0≤c∧c≤255)∧∀ r,r = kindI c→K (.int .i64 (.a r)) []
theorem kindsL_ok : ∀ i : Fin 128,48≤(kindsL.getD i.1 0).toNat∧(kindsL.getD i.1 0).toNat≤51∧kindsL.getD i.1 0 = kindsL.getD i.1 48:=by decide
theorem wrap8 {n : Int} (h1 : 0≤n) (h2 : n≤255) : IntKind.u8.wrap n = n:=IntWalk.u8_in _ ⟨by omega,by omega⟩
theorem kind_ok : FnOk Tryz.prog gl 88 spKind:=by
 refine fnOk (gh:=[]) mixed cxOk tabNil Tryz.func88 (by kernel_rfl) (by kernel_rfl) ?_
 intro xs ls K h
 unfold spKind at h
 obtain ⟨c,rfl,rfl,hb,h⟩:=h
 obtain ⟨k,hk⟩ : ∃ k,k = kindI c:=⟨_,rfl⟩
 refine ⟨_,_,h k hk,fun D hD=>?_⟩
 clear h
 have w : IntKind.i64.wrap c = c:=wrap64 (by omega) (by omega)
 cbv
 refine br hD (fun h=>?_) (fun h=>?_)<;>cbv
 ·refine finInt hD ?_
  simp [w] at h
  rw [hk,kindI,if_pos h]
  rfl
 ·have hc : c < 128:=by simp [BT.den,cmpDen,ST.den,w] at h; omega
  clear h
  refine ⟨by subst hD; exact ⟨hb.1,hc⟩,fun c' hc'=>?_⟩
  cbv
  refine finInt hD ?_
  have e1 : c' = ((kindsL.getD c.toNat 0).toNat : Int):=by subst hD; exact hc'.h
  obtain ⟨t1,t2,t3⟩:=kindsL_ok ⟨c.toNat,by omega⟩
  simp only at t1 t2 t3
  show IntKind.i64.wrap (IntKind.u8.wrap (c' - 48)) = k
  rw [wrap8 (by omega) (by omega),wrap64 (by omega) (by omega),hk,kindI,if_neg (by omega),←t3,e1]
def plainI (c : Int) : Bool:=c == 9 || (decide (32≤c) && decide (c≤126))
def spPlain : FSpec:=fun _ xs ls K=>∃ (c : Int),xs = [.int .u8 (.a c)]∧ls = []∧∀ r,r = plainI c→K (.bool (.a r)) []
theorem plain_ok : FnOk Tryz.prog gl 151 spPlain:=by
 refine fnOk (gh:=[]) mixed cxOk tabNil Tryz.func151 (by kernel_rfl) (by kernel_rfl) ?_
 intro xs ls K h
 unfold spPlain at h
 obtain ⟨c,rfl,rfl,h⟩:=h
 obtain ⟨k,hk⟩ : ∃ k,k = plainI c:=⟨_,rfl⟩
 refine ⟨_,_,h k hk,fun D hD=>?_⟩
 clear h
 cbv
 refine finBool hD ?_
 rw [hk]
 simp [BT.den,cmpDen,ST.den,plainI]
 rfl
structure CharAt (c : Int) (s : List UInt8) (i : Nat) : Prop where
 h : c = ((s.getD i 0).toNat : Int)
theorem isJ {D : Dn} (hD : D = dn) {j : Nat} {I : Int} (h : IsJ j (D.i (.a I))) : (j : Int) = I:=by subst hD; exact h.h
structure TokI (s : List UInt8) (i : Nat) (I L : Int) (m : Nat) : Prop where
 L : L = s.length
 le : i≤s.length
 I : I = i
 all : ∀ j : Nat,j < i→kindI ((s.getD j 0).toNat : Int) = 3
 m : m = s.length - i
def tokenF (s : List UInt8) : Bool:=(s.all fun c=>kindI (c.toNat : Int) == 3) && (decide (0 < s.length) && decide (s.length≤64))
theorem tokenF_no {s : List UInt8} {j : Nat} (hj : j < s.length) (h : kindI ((s.getD j 0).toNat : Int)≠3) : tokenF s = false:=by
 unfold tokenF
 rw [Bool.and_eq_false_iff]
 left
 rw [List.all_eq_false]
 refine ⟨s[j],List.getElem_mem hj,?_⟩
 rw [List.getD_eq_getElem?_getD,List.getElem?_eq_getElem hj] at h
 simpa using h
theorem tokenF_yes {s : List UInt8} (h : ∀ j : Nat,j < s.length→kindI ((s.getD j 0).toNat : Int) = 3) : tokenF s = (decide (0 < s.length) && decide (s.length≤64)):=by
 unfold tokenF
 have : (s.all fun c=>kindI (c.toNat : Int) == 3) = true:=by
  rw [List.all_eq_true]
  intro c hc
  obtain ⟨j,hj,rfl⟩:=List.mem_iff_getElem.1 hc
  have:=h j hj
  rw [List.getD_eq_getElem?_getD,List.getElem?_eq_getElem hj] at this
  simpa using this
 rw [this]; simp
def spToken : FSpec:=fun _ xs ls K=>∃ (s : List UInt8),xs = [.str s]∧ls = []∧s.length≤9223372036854775807∧∀ r,r = tokenF s→K (.bool (.a r)) []
def tokJ (s : List UInt8) (f : Nat→List SV) (m : Nat) (vs : List (Option SV)) (hp : List Hl) : Prop :=
 ∃ (i : Nat) (I L : Int),vs = [some (.str s),some (.sl (.a false) (.a L) 1 f),some (.int .i64 (.a L)),some (.int .i64 (.a I))]∧hp = []∧TokI s i I L m
theorem token_ok : FnOk Tryz.prog gl 47 spToken:=by
 refine fnOk (gh:=[]) mixed cxOk (tabCons kind_ok tabNil) Tryz.func47 (by kernel_rfl) (by kernel_rfl) ?_
 intro xs ls K h
 unfold spToken at h
 obtain ⟨s,rfl,rfl,hl,h⟩:=h
 obtain ⟨k,hk⟩ : ∃ k,k = tokenF s:=⟨_,rfl⟩
 refine ⟨_,_,h k hk,fun D hD=>?_⟩
 clear h
 cbv
 refine ⟨⟨hl⟩,fun f hf=>?_⟩
 cbv
 obtain ⟨J,hJ⟩ : ∃ J,J = tokJ s f:=⟨_,rfl⟩
 refine ⟨[0,6,7,8],J,⟨rfl,s.length,?_⟩,?_⟩
 ·rw [hJ]
  subst hD
  exact ⟨0,0,_,rfl,rfl,⟨rfl,Nat.zero_le _,rfl,by omega,rfl⟩⟩
 intro m vs hp hv
 rw [hJ] at hv
 unfold tokJ at hv
 obtain ⟨i,I,L,rfl,rfl,V⟩:=hv
 cbv
 refine br hD (fun h=>?_) (fun h=>?_)<;>cbv
 ·have hlt : i < s.length:=by simp at h; have:=V.I; have:=V.L; omega
  clear h
  refine ⟨?_,fun j hj=>?_⟩
  ·have:=V.I; have:=V.L; subst hD; exact ⟨by simp [dn]; omega,by simp [dn]; omega⟩
  have hji : j = i:=by have:=isJ hD hj; have:=V.I; omega
  obtain ⟨c,hc⟩ : ∃ c : Int,c = ((s.getD i 0).toNat : Int):=⟨_,rfl⟩
  have hb : 0≤c∧c≤255:=by have:=(s.getD i 0).toNat_lt; omega
  have hfj : f i = [.int .u8 (.a c)]:=by rw [hf.h,hc]; rfl
  have hc : CharAt c s i:=⟨hc⟩
  subst hji
  clear hj
  cbv
  rw [hfj]
  cbv
  refine ⟨_,rfl,rfl,by subst hD; exact hb,fun r hr=>?_⟩
  have hr : r = kindI c:=by subst hD; exact hr
  cbv
  refine br hD (fun h=>?_) (fun h=>?_)<;>cbv
  ·refine finBool hD ?_
   have : r≠3:=by simpa [BT.den,cmpDen,ST.den] using h
   rw [hk,tokenF_no hlt (by rw [←hc.h,←hr]; exact this)]
   rfl
  ·have h3 : r = 3:=by simpa [BT.den,cmpDen,ST.den] using h
   refine ⟨s.length - (j + 1),by have:=V.m; omega,?_⟩
   rw [hJ]
   subst hD
   have hI:=V.I
   refine ⟨j + 1,_,_,rfl,rfl,⟨V.L,by omega,?_,fun q hq=>?_,rfl⟩⟩
   ·simp [dn]
    rw [wrap64 (by omega) (by omega)]
    omega
   ·by_cases hqj : q = j
    ·subst hqj
     rw [←hc.h]
     exact hr.symm.trans h3
    ·exact V.all q (by omega)
 ·have hi : i = s.length:=by simp at h; have:=V.I; have:=V.L; have:=V.le; omega
  clear h
  have hy:=tokenF_yes (s:=s) (fun j hj=>V.all j (by omega))
  refine finBool hD ?_
  rw [hk,hy]
  show (decide ((0 : Int) < (s.length : Int)) && decide ((s.length : Int)≤64)) = _
  congr 1<;>exact decide_eq_decide.2 (by omega)
end Go.Proofs.YtefelnhpfdcleaaGreatDoor
namespace Go.Proofs.YtefelnhpfdcleaaGreatDoor
open Go.Sx
set_option maxRecDepth 10000
set_option maxHeartbeats 2000000
def anyB (p : Int→Bool) (s : List UInt8) : Bool:=s.any fun c=>p (c.toNat : Int)
structure IdxI (p : Int→Bool) (s : List UInt8) (i : Nat) (I L : Int) (m : Nat) : Prop where
 L : L = s.length
 le : i≤s.length
 I : I = i
 all : ∀ j : Nat,j < i→p ((s.getD j 0).toNat : Int) = false
 m : m = s.length - i
theorem getD_lt {s : List UInt8} {j : Nat} (hj : j < s.length) : s.getD j 0 = s[j]:=by
 rw [List.getD_eq_getElem?_getD,List.getElem?_eq_getElem hj]
 rfl
structure RowB (f : Nat→List SV) (n : Int) (s : List UInt8) : Prop where
 n : n = s.length
 f : f = byteRow s
 len : s.length≤9223372036854775807
end Go.Proofs.YtefelnhpfdcleaaGreatDoor
namespace Go.Proofs.YtefelnhpfdcleaaGreatDoor
open Go.Sx
set_option maxRecDepth 10000
set_option maxHeartbeats 2000000
end Go.Proofs.YtefelnhpfdcleaaGreatDoor
namespace Go.Proofs.YtefelnhpfdcleaaGreatDoor
open Go.Sx
set_option maxRecDepth 10000
set_option maxHeartbeats 2000000
structure AllI (p : Int→Bool) (s : List UInt8) (i : Nat) (I : Int) (m : Nat) : Prop where
 le : i≤s.length
 I : I = i
 all : ∀ j : Nat,j < i→p ((s.getD j 0).toNat : Int) = true
 m : m = s.length - i
 len : s.length≤9223372036854775807
theorem charOf {D : Dn} (hD : D = dn) {c I : Int} {s : List UInt8} {i : Nat} (hI : I = i) (h : ByteOf c s (D.i (.a I))) : CharAt c s i:=by
 subst hD
 refine ⟨?_⟩
 have h:=h.h
 show c = _
 rw [h]
 show (((s.getD I.toNat 0).toNat : Nat) : Int) = _
 rw [hI,Int.toNat_natCast]
theorem CharAt.le {c : Int} {s : List UInt8} {i : Nat} (h : CharAt c s i) : 0≤c∧c≤255:=by
 have h1:=h.h
 have:=(s.getD i 0).toNat_lt
 omega
end Go.Proofs.YtefelnhpfdcleaaGreatDoor
namespace Go.Proofs.YtefelnhpfdcleaaGreatDoor
open Go.Sx
set_option maxRecDepth 10000
set_option maxHeartbeats 2000000
structure At (s : List UInt8) (i : Nat) (I : Int) (m : Nat) : Prop where
 le : i≤s.length
 I : I = i
 m : m = s.length - i
 len : s.length≤9223372036854775807
theorem At.zero {s : List UInt8} (h : s.length≤9223372036854775807) : At s 0 0 s.length:=⟨Nat.zero_le _,rfl,by omega,h⟩
theorem drop_at {s : List UInt8} {i : Nat} (h : i < s.length) : s.drop i = s.getD i 0 :: s.drop (i + 1):=by
 rw [getD_lt h]; exact List.drop_eq_getElem_cons h
theorem At.lt {s : List UInt8} {i : Nat} {I : Int} {m : Nat} (V : At s i I m) (h : I < (s.length : Int)) : i < s.length:=by have:=V.I; omega
theorem At.eq {s : List UInt8} {i : Nat} {I : Int} {m : Nat} (V : At s i I m) (h : ¬ I < (s.length : Int)) : i = s.length:=by have:=V.I; have:=V.le; omega
theorem At.inS {D : Dn} (hD : D = dn) {s : List UInt8} {i : Nat} {I : Int} {m : Nat} (V : At s i I m) (h : i < s.length) : InS (D.i (.a I)) s:=by
 have:=V.I; subst hD; exact ⟨by show 0≤I; omega,by show I < s.length; omega⟩
theorem At.step {D : Dn} (hD : D = dn) {s : List UInt8} {i : Nat} {I : Int} {m : Nat} (V : At s i I m) (h : i < s.length) : s.length - (i + 1) < m∧At s (i + 1) (D.i (.bin .add .i64 (.a I) (.l 1))) (s.length - (i + 1)):=by
 have h1:=V.I; have h2:=V.len; have h3:=V.m
 subst hD
 refine ⟨by omega,by omega,?_,rfl,h2⟩
 show IntKind.i64.wrap (I + 1) = _
 rw [wrap64 (by omega) (by omega)]; omega
theorem CharAt.of {c : Int} {s : List UInt8} {i : Nat} (h : CharAt c s i) : ((s.getD i 0).toNat : Int) = c:=h.h.symm
def lettersL : List UInt8:=[33,35,36,37,38,39,42,43,45,46,94,95,96,124,126]
def rangeI (c : Int) : Bool:=((decide (97≤c) && decide (c≤122)) || (decide (65≤c) && decide (c≤90))) || (decide (48≤c) && decide (c≤57))
def letterI (c : Int) : Bool:=rangeI c || anyB (fun x=>x == c) lettersL
theorem anyB_cons {p : Int→Bool} {s : List UInt8} {i : Nat} (h : i < s.length) : anyB p (s.drop i) = (p ((s.getD i 0).toNat : Int) || anyB p (s.drop (i + 1))):=by
 rw [drop_at h]; rfl
theorem anyB_end {p : Int→Bool} {s : List UInt8} {i : Nat} (h : i = s.length) : anyB p (s.drop i) = false:=by
 rw [h,List.drop_length]; rfl
def letJ (c : Int) (k : Bool) (s : List UInt8) (m : Nat) (vs : List (Option SV)) (hp : List Hl) : Prop :=
 ∃ (i : Nat) (I : Int),vs = [some (.int .u8 (.a c)),some (.str s),some (.int .i64 (.a I))]∧hp = []∧At s i I m∧k = anyB (fun x=>x == c) (s.drop i)
def spLetter : FSpec:=fun _ xs ls K=>∃ (c : Int),xs = [.int .u8 (.a c)]∧ls = []∧∀ r,r = letterI c→K (.bool (.a r)) []
theorem letter_ok : FnOk Tryz.prog gl 89 spLetter:=by
 refine fnOk (gh:=[]) mixed cxOk tabNil Tryz.func89 (by kernel_rfl) (by kernel_rfl) ?_
 intro xs ls K h
 unfold spLetter at h
 obtain ⟨c,rfl,rfl,h⟩:=h
 obtain ⟨k,hk⟩ : ∃ k,k = letterI c:=⟨_,rfl⟩
 refine ⟨_,_,h k hk,fun D hD=>?_⟩
 clear h
 cbv
 refine br hD (fun h=>?_) (fun h=>?_)<;>cbv
 ·refine finBool hD ?_
  have h2 : rangeI c = true:=h
  rw [hk,letterI,h2]; rfl
 have hr : rangeI c = false:=h
 clear h
 obtain ⟨J,hJ⟩ : ∃ J,J = letJ c k lettersL:=⟨_,rfl⟩
 refine ⟨[0,3,4],J,⟨rfl,15,?_⟩,?_⟩
 ·rw [hJ]
  subst hD
  refine ⟨0,0,rfl,rfl,At.zero (by decide),?_⟩
  rw [hk,letterI,hr]; rfl
 intro m vs hp' hv
 rw [hJ] at hv
 unfold letJ at hv
 obtain ⟨i,I,rfl,rfl,V,hk2⟩:=hv
 clear hk
 obtain ⟨s,hs⟩ : ∃ s,s = lettersL:=⟨_,rfl⟩
 rw [←hs] at hk2 V hJ ⊢
 clear hs
 cbv
 refine br hD (fun h=>?_) (fun h=>?_)<;>cbv
 ·have hlt:=V.lt (of_decide_eq_true (p:=I < (s.length : Int)) h)
  clear h
  refine ⟨V.inS hD hlt,fun b hc=>?_⟩
  have hc:=charOf hD V.I hc
  rw [anyB_cons hlt,hc.of] at hk2
  cbv
  refine br hD (fun h=>?_) (fun h=>?_)<;>cbv
  ·have h3 : (b == c) = true:=h
   refine finBool hD ?_
   rw [hk2,h3]; rfl
  ·have h3 : (b == c) = false:=h
   refine ⟨_,(V.step hD hlt).1,?_⟩
   rw [hJ]
   subst hD
   exact ⟨i + 1,_,rfl,rfl,(V.step rfl hlt).2,by rw [hk2,h3]; rfl⟩
 ·have hi:=V.eq (of_decide_eq_false (p:=I < (s.length : Int)) h)
  refine finBool hD ?_
  rw [hk2,anyB_end hi]; rfl
end Go.Proofs.YtefelnhpfdcleaaGreatDoor
namespace Go.Proofs.YtefelnhpfdcleaaGreatDoor
open Go.Sx
set_option maxRecDepth 10000
set_option maxHeartbeats 2000000
def allI (p : Int→Bool) (s : List UInt8) : Bool:=s.all fun c=>p (c.toNat : Int)
theorem allI_cons {p : Int→Bool} {s : List UInt8} {i : Nat} (h : i < s.length) : allI p (s.drop i) = (p ((s.getD i 0).toNat : Int) && allI p (s.drop (i + 1))):=by
 rw [drop_at h]; rfl
theorem allI_end {p : Int→Bool} {s : List UInt8} {i : Nat} (h : i = s.length) : allI p (s.drop i) = true:=by
 rw [h,List.drop_length]; rfl
def refTokenF (s : List UInt8) : Bool:=!(decide ((s.length : Int) < 1) || decide (64 < (s.length : Int))) && allI letterI s
def spStrB (F : List UInt8→Bool) : FSpec:=fun _ xs ls K=>∃ (s : List UInt8),xs = [.str s]∧ls = []∧s.length≤9223372036854775807∧∀ r,r = F s→K (.bool (.a r)) []
def allJ1 (p : Int→Bool) (k : Bool) (s : List UInt8) (m : Nat) (vs : List (Option SV)) (hp : List Hl) : Prop :=
 ∃ (i : Nat) (I : Int),vs = [some (.str s),some (.int .i64 (.a I))]∧hp = []∧At s i I m∧k = allI p (s.drop i)
theorem refToken_ok : FnOk Tryz.prog gl 49 (spStrB refTokenF):=by
 refine fnOk (gh:=[]) mixed cxOk (tabCons letter_ok tabNil) Tryz.func49 (by kernel_rfl) (by kernel_rfl) ?_
 intro xs ls K h
 unfold spStrB at h
 obtain ⟨s,rfl,rfl,hl,h⟩:=h
 obtain ⟨k,hk⟩ : ∃ k,k = refTokenF s:=⟨_,rfl⟩
 refine ⟨_,_,h k hk,fun D hD=>?_⟩
 clear h
 obtain ⟨p,hp⟩ : ∃ p,p = letterI:=⟨_,rfl⟩
 rw [refTokenF,←hp] at hk
 cbv
 refine br hD (fun h=>?_) (fun h=>?_)<;>cbv
 ·have h2 : (decide ((s.length : Int) < 1) || decide (64 < (s.length : Int))) = true:=h
  rw [h2] at hk
  exact finBool hD hk.symm
 have h2 : (decide ((s.length : Int) < 1) || decide (64 < (s.length : Int))) = false:=h
 rw [h2] at hk
 clear h h2
 obtain ⟨J,hJ⟩ : ∃ J,J = allJ1 p k s:=⟨_,rfl⟩
 refine ⟨[0,3],J,⟨rfl,s.length,?_⟩,?_⟩
 ·rw [hJ]
  subst hD
  exact ⟨0,0,rfl,rfl,At.zero hl,hk⟩
 intro m vs hp' hv
 rw [hJ] at hv
 unfold allJ1 at hv
 obtain ⟨i,I,rfl,rfl,V,hk2⟩:=hv
 clear hk
 cbv
 refine br hD (fun h=>?_) (fun h=>?_)<;>cbv
 ·have hlt:=V.lt (of_decide_eq_true (p:=I < (s.length : Int)) h)
  clear h
  refine ⟨V.inS hD hlt,fun b hc=>?_⟩
  have hc:=charOf hD V.I hc
  rw [allI_cons hlt,hc.of] at hk2
  cbv
  refine ⟨_,rfl,rfl,fun r hr=>?_⟩
  have hr2 : r = p b:=by subst hD hp; exact hr
  clear hr
  rw [←hr2] at hk2
  cbv
  refine br hD (fun h=>?_) (fun h=>?_)<;>cbv
  ·have h3 : r = false:=by simpa [BT.den] using h
   rw [h3] at hk2
   exact finBool hD hk2.symm
  ·have h3 : r = true:=by simpa [BT.den] using h
   rw [h3] at hk2
   refine ⟨_,(V.step hD hlt).1,?_⟩
   rw [hJ]
   subst hD
   exact ⟨i + 1,_,rfl,rfl,(V.step rfl hlt).2,hk2⟩
 ·have hi:=V.eq (of_decide_eq_false (p:=I < (s.length : Int)) h)
  rw [allI_end hi] at hk2
  exact finBool hD hk2.symm
structure RowS (f : Nat→List SV) (n : Int) (a : List (List UInt8)) : Prop where
 n : n = a.length
 f : ∀ i,i < a.length→f i = [.str (a.getD i [])]
 len : a.length≤9223372036854775807
structure AtR {α : Type} (s : List α) (i : Nat) (I : Int) (m : Nat) : Prop where
 le : i≤s.length
 I : I = i
 m : m = s.length - i
 len : s.length≤9223372036854775807
theorem AtR.zero {α : Type} {s : List α} (h : s.length≤9223372036854775807) : AtR s 0 0 s.length:=⟨Nat.zero_le _,rfl,by omega,h⟩
theorem AtR.lt {α : Type} {s : List α} {i : Nat} {I n : Int} {m : Nat} (V : AtR s i I m) (hn : n = s.length) (h : I < n) : i < s.length:=by have:=V.I; omega
theorem AtR.eq {α : Type} {s : List α} {i : Nat} {I n : Int} {m : Nat} (V : AtR s i I m) (hn : n = s.length) (h : ¬ I < n) : i = s.length:=by have:=V.I; have:=V.le; omega
theorem AtR.inB {D : Dn} (hD : D = dn) {α : Type} {s : List α} {i : Nat} {I n : Int} {m : Nat} (V : AtR s i I m) (hn : n = s.length) (h : i < s.length) : InB (D.i (.a I)) (D.i (.a n)):=by
 have:=V.I; subst hD; exact ⟨by show 0≤I; omega,by show I < n; omega⟩
theorem AtR.step {D : Dn} (hD : D = dn) {α : Type} {s : List α} {i : Nat} {I : Int} {m : Nat} (V : AtR s i I m) (h : i < s.length) : s.length - (i + 1) < m∧AtR s (i + 1) (D.i (.bin .add .i64 (.a I) (.l 1))) (s.length - (i + 1)):=by
 have h1:=V.I; have h2:=V.len; have h3:=V.m
 subst hD
 refine ⟨by omega,by omega,?_,rfl,h2⟩
 show IntKind.i64.wrap (I + 1) = _
 rw [wrap64 (by omega) (by omega)]; omega
theorem AtR.j {D : Dn} (hD : D = dn) {α : Type} {s : List α} {i j : Nat} {I : Int} {m : Nat} (V : AtR s i I m) (h : IsJ j (D.i (.a I))) : j = i:=by
 have:=isJ hD h; have:=V.I; omega
theorem dropR {α : Type} {s : List α} {i : Nat} {d : α} (h : i < s.length) : s.drop i = s.getD i d :: s.drop (i + 1):=by
 rw [List.drop_eq_getElem_cons h,List.getD_eq_getElem?_getD,List.getElem?_eq_getElem h]; rfl
end Go.Proofs.YtefelnhpfdcleaaGreatDoor
namespace Go.Proofs.YtefelnhpfdcleaaGreatDoor
open Go.Sx
set_option maxRecDepth 10000
set_option maxHeartbeats 2000000
def foldI (c : Int) : Int:=if 65≤c∧c≤90 then c + 32 else c
def foldB (b : UInt8) : UInt8:=if 65≤b.toNat∧b.toNat≤90 then b + 32 else b
def foldF (s : List UInt8) : List UInt8:=s.map foldB
theorem foldB_nat (b : UInt8) : ((foldB b).toNat : Int) = foldI (b.toNat : Int):=by
 unfold foldB foldI
 have:=b.toNat_lt
 by_cases h : 65≤b.toNat∧b.toNat≤90
 ·rw [if_pos h,if_pos (by omega)]
  rw [UInt8.toNat_add]
  simp; omega
 ·rw [if_neg h,if_neg (by omega)]
structure FoldI (s : List UInt8) (f : Nat→List SV) (i : Nat) (L : Int) : Prop where
 L : L = s.length
 f : ∀ j,f j = [.int .u8 (.a (if j < i then foldI ((s.getD j 0).toNat : Int) else ((s.getD j 0).toNat : Int)))]
theorem FoldI.zero {s : List UInt8} {f : Nat→List SV} (h : f = byteRow s) : FoldI s f 0 s.length:=by
 refine ⟨rfl,fun j=>?_⟩
 rw [h]; simp [byteRow]
theorem FoldI.same {s : List UInt8} {f : Nat→List SV} {i : Nat} {L : Int} (V : FoldI s f i L) (h : ¬ (65≤((s.getD i 0).toNat : Int)∧((s.getD i 0).toNat : Int)≤90)) : FoldI s f (i + 1) L:=by
 refine ⟨V.L,fun j=>?_⟩
 rw [V.f j]
 by_cases e : j = i
 ·subst e
  rw [if_neg (Nat.lt_irrefl _),if_pos (Nat.lt_succ_self _),foldI,if_neg h]
 ·have : (j < i) = (j < i + 1):=by simp; omega
  simp only [this]
theorem FoldI.set {s : List UInt8} {f f' : Nat→List SV} {i : Nat} {L v : Int} (V : FoldI s f i L) (h : SetAt f' f i [.int .u8 (.a v)]) (hv : v = foldI ((s.getD i 0).toNat : Int)) : FoldI s f' (i + 1) L:=by
 refine ⟨V.L,fun j=>?_⟩
 by_cases e : j = i
 ·subst e
  rw [h.at_,if_pos (Nat.lt_succ_self _),hv]
 ·rw [h.other j e,V.f j]
  have : (j < i) = (j < i + 1):=by simp; omega
  simp only [this]
theorem FoldI.byteRow {s : List UInt8} {f : Nat→List SV} {i : Nat} {L : Int} (V : FoldI s f i L) : ByteRow L f:=by
 refine ⟨by have:=V.L; omega,fun j _=>⟨_,V.f j,?_⟩⟩
 show 0≤(if j < i then foldI ((s.getD j 0).toNat : Int) else ((s.getD j 0).toNat : Int))∧(if j < i then foldI ((s.getD j 0).toNat : Int) else ((s.getD j 0).toNat : Int)) < 256
 have:=(s.getD j 0).toNat_lt
 unfold foldI
 split
 ·split<;>omega
 ·omega
theorem FoldI.str {s r : List UInt8} {f : Nat→List SV} {i : Nat} {L : Int} (V : FoldI s f i L) (hi : i = s.length) (h : StrRow r L f) : r = foldF s:=by
 have hl : r.length = s.length:=by have:=h.len; have:=V.L; omega
 refine List.ext_getElem (by simp [foldF,hl]) fun j h1 h2=>?_
 have hj : j < s.length:=by omega
 have:=h.row j _ (by rw [V.L]; omega) (V.f j)
 rw [if_pos (by omega),getD_lt h1,getD_lt hj] at this
 simp only [foldF,List.getElem_map]
 refine UInt8.toNat_inj.1 ?_
 have e2:=foldB_nat s[j]
 have e3 : ((r[j].toNat : Nat) : Int) = foldI (s[j].toNat : Int):=this
 omega
def spFold : FSpec:=fun _ xs ls K=>∃ (s : List UInt8),xs = [.str s]∧ls = []∧s.length≤9223372036854775807∧∀ r,r = foldF s→K (.str r) []
def refFoldJ (s : List UInt8) (m : Nat) (vs : List (Option SV)) (hp : List Hl) : Prop :=
 ∃ (i : Nat) (I L : Int) (nl : Bool) (f : Nat→List SV),vs = [some (.osl (.a nl) (.a L) 0),some (.int .i64 (.a I))]∧hp = [.own 5 (.a L) 1 false f]∧At s i I m∧FoldI s f i L
theorem up8 : ∀ n : Fin 26,binDen .or .u8 (65 + (n.1 : Int)) 32 = 65 + (n.1 : Int) + 32:=by decide
theorem or8 {c : Int} (h1 : 65≤c) (h2 : c≤90) : binDen .or .u8 c 32 = c + 32:=by
 have:=up8 ⟨(c - 65).toNat,by omega⟩
 have e : 65 + (((c - 65).toNat : Nat) : Int) = c:=by omega
 simp only [e] at this
 exact this
theorem and_false {c : Int} (h : (decide (65≤c) && decide (c≤90)) = false) : ¬ (65≤c∧c≤90):=by simpa using h
theorem refFold_ok : FnOk Tryz.prog gl 51 spFold:=by
 refine fnOk (gh:=[(999983,[])]) mixed cxOk tabNil Tryz.func51 (by kernel_rfl) (by kernel_rfl) ?_
 intro xs ls K h
 unfold spFold at h
 obtain ⟨s,rfl,rfl,hl,h⟩:=h
 obtain ⟨k,hk⟩ : ∃ k,k = foldF s:=⟨_,rfl⟩
 refine ⟨_,_,h k hk,fun D hD=>?_⟩
 clear h
 cbv
 refine ⟨⟨hl⟩,fun f hf=>?_⟩
 cbv
 obtain ⟨J,hJ⟩ : ∃ J,J = refFoldJ s:=⟨_,rfl⟩
 refine ⟨[3,4],J,⟨rfl,s.length,?_⟩,?_⟩
 ·rw [hJ]
  subst hD
  exact ⟨0,0,_,_,f,rfl,rfl,At.zero hl,FoldI.zero hf.h⟩
 clear hf
 intro m vs hp' hv
 rw [hJ] at hv
 unfold refFoldJ at hv
 obtain ⟨i,I,L,nl,f,rfl,rfl,V,F⟩:=hv
 cbv
 refine br hD (fun h=>?_) (fun h=>?_)<;>cbv
 ·have hlt:=V.lt (by have h:=of_decide_eq_true (p:=I < L) h; have:=F.L; omega)
  clear h
  refine ⟨⟨rfl⟩,?_,fun j hj=>?_⟩
  ·have:=V.I; have:=F.L; subst hD; exact ⟨by show 0≤I; omega,by show I < L; omega⟩
  have hji : j = i:=by have:=isJ hD hj; have:=V.I; omega
  subst hji
  clear hj
  obtain ⟨c,hc⟩ : ∃ c : Int,c = ((s.getD j 0).toNat : Int):=⟨_,rfl⟩
  have hfj : f j = [.int .u8 (.a c)]:=by rw [F.f j,if_neg (Nat.lt_irrefl _),hc]
  have hc : CharAt c s j:=⟨hc⟩
  have hb:=hc.le
  cbv
  refine ⟨⟨rfl⟩,?_,?_⟩
  ·have:=V.I; have:=F.L; subst hD; exact ⟨by show (j : Int) < L; omega⟩
  rw [hfj]
  cbv
  refine ⟨fun _=>⟨rfl⟩,fun _=>?_,fun j2 hj2=>?_⟩
  ·have:=V.I; have:=F.L; subst hD; exact ⟨by show 0≤I; omega,by show I < L; omega⟩
  obtain ⟨c2,hc2⟩ : ∃ c2 : Int,f j2 = [.int .u8 (.a c2)]:=⟨_,F.f j2⟩
  refine ⟨fun _=>⟨rfl⟩,fun hg=>?_,?_⟩
  ·have hji:=isJ hD (hj2 hg); have:=V.I; have:=F.L; subst hD; exact ⟨by show (j2 : Int) < L; omega⟩
  rw [hc2]
  cbv
  refine br hD (fun h=>?_) (fun h=>?_)<;>cbv
  ·have hcc : 65≤c∧c2≤90:=by
    have h : (decide (65≤c) && decide (c2≤90)) = true:=h
    simpa using h
   have hj2' : j2 = j:=by
    have:=isJ hD (hj2 (by subst hD; show decide (65≤c) = true; simpa using hcc.1)); have:=V.I; omega
   rw [hj2',hfj] at hc2
   have hc2' : c = c2:=by simpa using hc2
   have h90 : c≤90:=by omega
   clear hc2 hj2' hj2 h
   refine ⟨⟨rfl⟩,?_,fun j3 hj3=>?_⟩
   ·have:=V.I; have:=F.L; subst hD; exact ⟨by show 0≤I; omega,by show I < L; omega⟩
   have hj3' : j3 = j:=by have:=isJ hD hj3; have:=V.I; omega
   clear hj3
   subst hj3'
   cbv
   refine ⟨⟨rfl⟩,?_,?_⟩
   ·have:=V.I; have:=F.L; subst hD; exact ⟨by show (j3 : Int) < L; omega⟩
   rw [hfj]
   cbv
   refine ⟨⟨rfl⟩,?_,fun j4 hj4=>?_⟩
   ·have:=V.I; have:=F.L; subst hD; exact ⟨by show 0≤I; omega,by show I < L; omega⟩
   have hj4' : j4 = j3:=by have:=isJ hD hj4; have:=V.I; omega
   clear hj4
   subst hj4'
   cbv
   refine ⟨⟨rfl⟩,?_,?_⟩
   ·have:=V.I; have:=F.L; subst hD; exact ⟨by show (j4 : Int) < L; omega⟩
   rw [hfj]
   cbv
   intro f' hf'
   cbv
   refine ⟨_,(V.step hD hlt).1,?_⟩
   rw [hJ]
   subst hD
   refine ⟨j4 + 1,_,_,_,f',rfl,rfl,(V.step rfl hlt).2,F.set hf' ?_⟩
   rw [hc.of,foldI,if_pos ⟨hcc.1,h90⟩]
   show IntKind.u8.wrap (IntKind.u8.wrap (c + 97) - 65) = _
   rw [wrap8 (n:=c + 97) (by omega) (by omega),wrap8 (by omega) (by omega)]
   omega
  ·have hn : ¬ (65≤((s.getD j 0).toNat : Int)∧((s.getD j 0).toNat : Int)≤90):=by
    rw [hc.of]
    rintro ⟨h1,h2⟩
    have hj2' : j2 = j:=by
     have:=isJ hD (hj2 (by subst hD; show decide (65≤c) = true; simpa using h1)); have:=V.I; omega
    rw [hj2',hfj] at hc2
    have hc2' : c = c2:=by simpa using hc2
    have h3 : ¬ (65≤c∧c2≤90):=by
     have h : (decide (65≤c) && decide (c2≤90)) = false:=h
     simpa using h
    exact h3 ⟨h1,by omega⟩
   refine ⟨_,(V.step hD hlt).1,?_⟩
   rw [hJ]
   subst hD
   exact ⟨j + 1,_,_,_,f,rfl,rfl,(V.step rfl hlt).2,F.same hn⟩
 ·have hi:=V.eq (fun h'=>by have h:=of_decide_eq_false (p:=I < L) h; have:=F.L; omega)
  clear h
  refine ⟨⟨rfl⟩,by subst hD; exact F.byteRow,fun r hr=>?_⟩
  cbv
  have hr2 : r = k:=by subst hD; rw [hk]; exact F.str hi hr
  rw [hr2]
  exact finV (LeV.refl _)
def foldJ (s : List UInt8) (m : Nat) (vs : List (Option SV)) (hp : List Hl) : Prop :=
 ∃ (i : Nat) (I L : Int) (nl : Bool) (f : Nat→List SV),vs = [some (.osl (.a nl) (.a L) 0),some (.osl (.a nl) (.a L) 0),some (.int .i64 (.a L)),some (.int .i64 (.a I))]∧hp = [.own 5 (.a L) 1 false f]∧At s i I m∧FoldI s f i L
theorem fold_ok : FnOk Tryz.prog gl 48 spFold:=by
 refine fnOk (gh:=[(999983,[])]) mixed cxOk tabNil Tryz.func48 (by kernel_rfl) (by kernel_rfl) ?_
 intro xs ls K h
 unfold spFold at h
 obtain ⟨s,rfl,rfl,hl,h⟩:=h
 obtain ⟨k,hk⟩ : ∃ k,k = foldF s:=⟨_,rfl⟩
 refine ⟨_,_,h k hk,fun D hD=>?_⟩
 clear h
 cbv
 refine ⟨⟨hl⟩,fun f hf=>?_⟩
 cbv
 obtain ⟨J,hJ⟩ : ∃ J,J = foldJ s:=⟨_,rfl⟩
 refine ⟨[3,8,9,10],J,⟨rfl,s.length,?_⟩,?_⟩
 ·rw [hJ]
  subst hD
  exact ⟨0,0,_,_,f,rfl,rfl,At.zero hl,FoldI.zero hf.h⟩
 clear hf
 intro m vs hp' hv
 rw [hJ] at hv
 unfold foldJ at hv
 obtain ⟨i,I,L,nl,f,rfl,rfl,V,F⟩:=hv
 cbv
 refine br hD (fun h=>?_) (fun h=>?_)<;>cbv
 ·have hlt:=V.lt (by have h:=of_decide_eq_true (p:=I < L) h; have:=F.L; omega)
  clear h
  refine ⟨⟨rfl⟩,?_,fun j hj=>?_⟩
  ·have:=V.I; have:=F.L; subst hD; exact ⟨by show 0≤I; omega,by show I < L; omega⟩
  have hji : j = i:=by have:=isJ hD hj; have:=V.I; omega
  subst hji
  clear hj
  obtain ⟨c,hc⟩ : ∃ c : Int,c = ((s.getD j 0).toNat : Int):=⟨_,rfl⟩
  have hfj : f j = [.int .u8 (.a c)]:=by rw [F.f j,if_neg (Nat.lt_irrefl _),hc]
  have hc : CharAt c s j:=⟨hc⟩
  have hb:=hc.le
  cbv
  refine ⟨⟨rfl⟩,?_,?_⟩
  ·have:=V.I; have:=F.L; subst hD; exact ⟨by show (j : Int) < L; omega⟩
  rw [hfj]
  cbv
  refine br hD (fun h=>?_) (fun h=>?_)<;>cbv
  ·have hcc : 65≤c∧c≤90:=by
    have h : (decide (65≤c) && decide (c≤90)) = true:=h
    simpa using h
   clear h
   refine ⟨⟨rfl⟩,?_,fun j3 hj3=>?_⟩
   ·have:=V.I; have:=F.L; subst hD; exact ⟨by show 0≤I; omega,by show I < L; omega⟩
   have hj3' : j3 = j:=by have:=isJ hD hj3; have:=V.I; omega
   clear hj3
   subst hj3'
   cbv
   refine ⟨⟨rfl⟩,?_,?_⟩
   ·have:=V.I; have:=F.L; subst hD; exact ⟨by show (j3 : Int) < L; omega⟩
   rw [hfj]
   cbv
   intro f' hf'
   cbv
   refine ⟨_,(V.step hD hlt).1,?_⟩
   rw [hJ]
   subst hD
   refine ⟨j3 + 1,_,_,_,f',rfl,rfl,(V.step rfl hlt).2,F.set hf' ?_⟩
   rw [hc.of,foldI,if_pos hcc]
   exact or8 hcc.1 hcc.2
  ·have hn : ¬ (65≤((s.getD j 0).toNat : Int)∧((s.getD j 0).toNat : Int)≤90):=by
    rw [hc.of]
    exact and_false h
   refine ⟨_,(V.step hD hlt).1,?_⟩
   rw [hJ]
   subst hD
   exact ⟨j + 1,_,_,_,f,rfl,rfl,(V.step rfl hlt).2,F.same hn⟩
 ·have hi:=V.eq (fun h'=>by have h:=of_decide_eq_false (p:=I < L) h; have:=F.L; omega)
  clear h
  refine ⟨⟨rfl⟩,by subst hD; exact F.byteRow,fun r hr=>?_⟩
  cbv
  have hr2 : r = k:=by subst hD; rw [hk]; exact F.str hi hr
  rw [hr2]
  exact finV (LeV.refl _)
end Go.Proofs.YtefelnhpfdcleaaGreatDoor
namespace Go.Proofs.YtefelnhpfdcleaaGreatDoor
open Go.Sx
set_option maxRecDepth 10000
set_option maxHeartbeats 2000000
def qdF (p : Int→Bool) : List UInt8→Option (Nat×List UInt8)
 | []=>none
 | c :: r =>
  if !p (c.toNat : Int) then none
  else if (c.toNat : Int) = 34 then some (1,[])
  else if (c.toNat : Int) = 92 then (match r with
   | []=>none
   | d :: r'=>if !p (d.toNat : Int) then none else (qdF p r').map fun x=>(x.1 + 2,d :: x.2))
  else (qdF p r).map fun x=>(x.1 + 1,c :: x.2)
def charI (s : List UInt8) (i : Nat) : Int:=((s.getD i 0).toNat : Int)
theorem qdF_cons (p : Int→Bool) (c : UInt8) (r : List UInt8) : qdF p (c :: r) = (if !p (c.toNat : Int) then none
  else if (c.toNat : Int) = 34 then some (1,[])
  else if (c.toNat : Int) = 92 then (match r with
   | []=>none
   | d :: r'=>if !p (d.toNat : Int) then none else (qdF p r').map fun x=>(x.1 + 2,d :: x.2))
  else (qdF p r).map fun x=>(x.1 + 1,c :: x.2)):=by rw [qdF.eq_def]
theorem qdF_bad {p : Int→Bool} {s : List UInt8} {i : Nat} (h : i < s.length) (hb : p (charI s i) = false) : qdF p (s.drop i) = none:=by
 rw [drop_at h,qdF_cons]
 unfold charI at hb
 rw [hb]; rfl
theorem qdF_end {p : Int→Bool} {s : List UInt8} {i : Nat} (h : s.length≤i) : qdF p (s.drop i) = none:=by
 rw [List.drop_eq_nil_of_le h]; rfl
theorem qdF_quote {p : Int→Bool} {s : List UInt8} {i : Nat} (h : i < s.length) (hb : p (charI s i) = true) (hq : charI s i = 34) : qdF p (s.drop i) = some (1,[]):=by
 rw [drop_at h,qdF_cons]
 unfold charI at hb hq
 rw [hb,if_neg (by simp),if_pos hq]
theorem qdF_esc {p : Int→Bool} {s : List UInt8} {i : Nat} (h : i < s.length) (hb : p (charI s i) = true) (hq : charI s i = 92) (h2 : i + 1 < s.length) (hb2 : p (charI s (i + 1)) = true) : qdF p (s.drop i) = (qdF p (s.drop (i + 2))).map fun x=>(x.1 + 2,s.getD (i + 1) 0 :: x.2):=by
 rw [drop_at h,drop_at h2,qdF_cons]
 unfold charI at hb hq hb2
 rw [hb,if_neg (by simp),if_neg (by omega),if_pos hq]
 simp only
 rw [hb2]
 simp
theorem qdF_esc0 {p : Int→Bool} {s : List UInt8} {i : Nat} (h : i < s.length) (hb : p (charI s i) = true) (hq : charI s i = 92) (h2 : ¬ (i + 1 < s.length∧p (charI s (i + 1)) = true)) : qdF p (s.drop i) = none:=by
 by_cases h3 : i + 1 < s.length
 ·have hb2 : p (charI s (i + 1)) = false:=by simpa [h3] using h2
  rw [drop_at h,drop_at h3,qdF_cons]
  unfold charI at hb hq hb2
  rw [hb,if_neg (by simp),if_neg (by omega),if_pos hq]
  simp only
  rw [hb2]
  simp
 ·rw [drop_at h,List.drop_eq_nil_of_le (by omega),qdF_cons]
  unfold charI at hb hq
  rw [hb,if_neg (by simp),if_neg (by omega),if_pos hq]
theorem qdF_more {p : Int→Bool} {s : List UInt8} {i : Nat} (h : i < s.length) (hb : p (charI s i) = true) (hq : charI s i≠34) (hq2 : charI s i≠92) : qdF p (s.drop i) = (qdF p (s.drop (i + 1))).map fun x=>(x.1 + 1,s.getD i 0 :: x.2):=by
 rw [drop_at h,qdF_cons]
 unfold charI at hb hq hq2
 rw [hb,if_neg (by simp),if_neg hq,if_neg hq2]
def someI (c : Int) : Bool:=!(kindI c == 0)
def qAt (p : Int→Bool) (s : List UInt8) (i : Nat) : Int:=match qdF p (s.drop (i + 1)) with
 | none=>0
 | some x=>((i + 1 + x.1 : Nat) : Int)
def quotedF (s : List UInt8) : Int:=qAt someI s 0
theorem qAt_none {p : Int→Bool} {s : List UInt8} {i : Nat} (h : qdF p (s.drop (i + 1)) = none) : qAt p s i = 0:=by rw [qAt,h]
theorem qAt_quote {p : Int→Bool} {s : List UInt8} {i : Nat} (h : i + 1 < s.length) (hb : p (charI s (i + 1)) = true) (hq : charI s (i + 1) = 34) : qAt p s i = ((i + 2 : Nat) : Int):=by
 rw [qAt,qdF_quote h hb hq]; rfl
theorem qAt_esc {p : Int→Bool} {s : List UInt8} {i : Nat} (h : i + 1 < s.length) (hb : p (charI s (i + 1)) = true) (hq : charI s (i + 1) = 92) (h2 : i + 2 < s.length) (hb2 : p (charI s (i + 2)) = true) : qAt p s i = qAt p s (i + 2):=by
 rw [qAt,qdF_esc h hb hq h2 hb2,qAt]
 cases qdF p (s.drop (i + 1 + 2)) with
 | none=>rfl
 | some x=>simp only [Option.map_some]; congr 1; omega
theorem qAt_more {p : Int→Bool} {s : List UInt8} {i : Nat} (h : i + 1 < s.length) (hb : p (charI s (i + 1)) = true) (hq : charI s (i + 1)≠34) (hq2 : charI s (i + 1)≠92) : qAt p s i = qAt p s (i + 1):=by
 rw [qAt,qdF_more h hb hq hq2,qAt]
 cases qdF p (s.drop (i + 1 + 1)) with
 | none=>rfl
 | some x=>simp only [Option.map_some]; congr 1; omega
structure QI (s : List UInt8) (i : Nat) (I : Int) (m : Nat) : Prop where
 I : I = i
 lt : i < s.length∨i = 0
 m : m = s.length - i
 len : s.length≤9223372036854775807
def quotedJ (s : List UInt8) (k : Int) (m : Nat) (vs : List (Option SV)) (hp : List Hl) : Prop :=
 ∃ (i : Nat) (I : Int),vs = [some (.str s),some (.int .i64 (.a I))]∧hp = []∧QI s i I m∧k = qAt someI s i
def spStrI (F : List UInt8→Int) : FSpec:=fun _ xs ls K=>∃ (s : List UInt8),xs = [.str s]∧ls = []∧s.length≤9223372036854775807∧∀ r,r = F s→K (.int .i64 (.a r)) []
noncomputable def qPre : Code:=match Tryz.f193.body with
 | some (.seq a (.scope _))=>a
 | _=>.skip
noncomputable def qScope : Code:=match Tryz.f193.body with
 | some (.seq _ (.scope c))=>c
 | _=>.skip
noncomputable def qRest : Code:=(findLabel qScope 0).getD .skip
theorem QI.one {s : List UInt8} {i : Nat} {I : Int} {m : Nat} (V : QI s i I m) : ST.den (.bin .add .i64 (.a I) (.l 1)) = ((i + 1 : Nat) : Int):=by
 have h1:=V.I; have h2:=V.len; have h3:=V.lt
 show IntKind.i64.wrap (I + 1) = _
 rw [wrap64 (by omega) (by omega)]; omega
theorem QI.two {s : List UInt8} {i : Nat} {I : Int} {m : Nat} (V : QI s i I m) (h : i + 1 < s.length) : ST.den (.bin .add .i64 (.bin .add .i64 (.a I) (.l 1)) (.l 1)) = ((i + 2 : Nat) : Int):=by
 have h0:=V.one; have h2:=V.len
 show IntKind.i64.wrap (ST.den (.bin .add .i64 (.a I) (.l 1)) + 1) = _
 rw [h0,wrap64 (by omega) (by omega)]; omega
theorem inS_of {s : List UInt8} {i : Nat} {e : ST} (he : e.den = (i : Int)) (h : i < s.length) : InS (dn.i e) s:=⟨by show 0≤e.den; omega,by show e.den < s.length; omega⟩
theorem byteAt {D : Dn} (hD : D = dn) {c : Int} {s : List UInt8} {i : Nat} {e : ST} (he : e.den = (i : Int)) (h : ByteOf c s (D.i e)) : CharAt c s i:=by
 subst hD
 refine ⟨?_⟩
 have h:=h.h
 have e2 : dn.i e = (i : Int):=he
 rw [e2] at h
 rw [h,Int.toNat_natCast]
theorem CharAt.charI {c : Int} {s : List UInt8} {i : Nat} (h : CharAt c s i) : c = charI s i:=h.h
theorem qd_stop {c : Int} {s : List UInt8} {i : Nat} (hc : CharAt c s i) (h : (decide ((s.length : Int)≤((i : Nat) : Int)) || kindI c == 0) = true) : qdF someI (s.drop i) = none:=by
 by_cases hlt : i < s.length
 ·refine qdF_bad hlt ?_
  rw [←hc.charI,someI]
  have : ¬ ((s.length : Int)≤(i : Int)):=by omega
  simp [this] at h
  simp [h]
 ·exact qdF_end (by omega)
theorem qd_stop2 {c : Int} {s : List UInt8} {i : Nat} (hc : CharAt c s i) (h : (decide ((s.length : Int)≤((i : Nat) : Int)) || kindI c == 0) = true) : ¬ (i < s.length∧someI (charI s i) = true):=by
 rintro ⟨h1,h2⟩
 rw [←hc.charI,someI] at h2
 have : ¬ ((s.length : Int)≤(i : Int)):=by omega
 simp [this] at h
 simp [h] at h2
theorem qd_go {c : Int} {s : List UInt8} {i : Nat} (hc : CharAt c s i) (h : (decide ((s.length : Int)≤((i : Nat) : Int)) || kindI c == 0) = false) : i < s.length∧someI (charI s i) = true:=by
 rw [←hc.charI,someI]
 simp at h
 refine ⟨by omega,?_⟩
 simp [h.2]
theorem quoted_ok : FnOk Tryz.prog gl 193 (spStrI quotedF):=by
 refine fnOkJ (gh:=[]) mixed cxOk (tabCons kind_ok tabNil) Tryz.func193 (l:=0) (pre:=qPre) (c:=qScope) (rest:=qRest) (by kernel_rfl) (by kernel_rfl) (by kernel_rfl) ?_
 intro xs ls K h
 unfold spStrI at h
 obtain ⟨s,rfl,rfl,hl,h⟩:=h
 obtain ⟨k,hk⟩ : ∃ k,k = quotedF s:=⟨_,rfl⟩
 refine ⟨_,_,h k hk,fun D hD=>?_⟩
 clear h
 rw [quotedF] at hk
 obtain ⟨J,hJ⟩ : ∃ J,J = quotedJ s k:=⟨_,rfl⟩
 refine ⟨[0,3],J,?_,?_⟩
 ·cbv
  have V : QI s 0 0 s.length:=⟨rfl,.inr rfl,rfl,hl⟩
  have hk2:=hk
  have hE1 : ST.den (.l 1) = ((0 + 1 : Nat) : Int):=rfl
  refine ⟨fun hg=>?_,fun c hc=>?_⟩
  ·subst hD; exact inS_of hE1 (by have hg : (!decide ((s.length : Int)≤ST.den (.l 1))) = true:=hg; rw [hE1] at hg; simp only [Bool.not_eq_true',decide_eq_false_iff_not] at hg; omega)
  have hc2:=byteAt hD hE1 hc
  clear hc
  cbv
  refine ⟨_,rfl,rfl,by subst hD; exact hc2.le,fun r hr=>?_⟩
  have hr2 : r = kindI c:=by subst hD; exact hr
  clear hr
  cbv
  refine br hD (fun h=>?_) (fun h=>?_)<;>cbv
  ·have h : (decide ((s.length : Int)≤ST.den (.l 1)) || r == 0) = true:=h
   rw [hE1,hr2] at h
   refine finInt hD ?_
   rw [hk2,qAt_none (qd_stop hc2 h)]
   rfl
  have h : (decide ((s.length : Int)≤ST.den (.l 1)) || r == 0) = false:=h
  rw [hE1,hr2] at h
  obtain ⟨hlt,hp⟩:=qd_go hc2 h
  clear h
  refine ⟨by subst hD; exact inS_of hE1 hlt,fun c' hc'=>?_⟩
  have hcc : c' = c:=by have:=byteAt hD hE1 hc'; rw [this.h,hc2.h]
  subst hcc
  clear hc'
  cbv
  refine br hD (fun h=>?_) (fun h=>?_)<;>cbv
  ·have h34 : c' = 34:=by have h : (c' == 34) = true:=h; simpa using h
   refine finInt hD ?_
   rw [hk2,qAt_quote hlt hp (by rw [←hc2.charI]; exact h34)]
   exact rfl
  have h34 : charI s (0 + 1)≠34:=by rw [←hc2.charI]; have h : (c' == 34) = false:=h; simpa using h
  clear h
  refine br hD (fun h=>?_) (fun h=>?_)<;>cbv
  ·have h92 : charI s (0 + 1) = 92:=by rw [←hc2.charI]; have h : (c' == 92) = true:=h; simpa using h
   clear h
   have hE2' : ST.den (.l 2) = ((0 + 2 : Nat) : Int):=rfl
   refine ⟨fun hg=>?_,fun d hd=>?_⟩
   ·subst hD; exact inS_of hE2' (by have hg : (!decide ((s.length : Int)≤ST.den (.l 2))) = true:=hg; rw [hE2'] at hg; simp only [Bool.not_eq_true',decide_eq_false_iff_not] at hg; omega)
   have hd2:=byteAt hD hE2' hd
   clear hd
   cbv
   refine ⟨_,rfl,rfl,by subst hD; exact hd2.le,fun q hq=>?_⟩
   have hq2 : q = kindI d:=by subst hD; exact hq
   clear hq
   cbv
   refine br hD (fun h=>?_) (fun h=>?_)<;>cbv
   ·have h : (decide ((s.length : Int)≤ST.den (.l 2)) || q == 0) = true:=h
    rw [hE2',hq2] at h
    refine finInt hD ?_
    rw [hk2,qAt_none (qdF_esc0 hlt hp h92 (qd_stop2 hd2 h))]
    rfl
   have h : (decide ((s.length : Int)≤ST.den (.l 2)) || q == 0) = false:=h
   rw [hE2',hq2] at h
   obtain ⟨hlt2,hp2⟩:=qd_go hd2 h
   refine ⟨s.length - (0 + 2),?_⟩
   rw [hJ]
   subst hD
   exact ⟨0 + 2,_,rfl,rfl,⟨hE2',.inl hlt2,rfl,hl⟩,by rw [hk2,qAt_esc hlt hp h92 hlt2 hp2]⟩
  ·have h92 : charI s (0 + 1)≠92:=by rw [←hc2.charI]; have h : (c' == 92) = false:=h; simpa using h
   refine ⟨s.length - (0 + 1),?_⟩
   rw [hJ]
   subst hD
   exact ⟨0 + 1,_,rfl,rfl,⟨hE1,.inl hlt,rfl,hl⟩,by rw [hk2,qAt_more hlt hp h34 h92]⟩
 ·intro m vs hp' hv
  rw [hJ] at hv
  unfold quotedJ at hv
  obtain ⟨i,I,hvs,hhp,V,hk2⟩:=hv
  rw [hvs,hhp]
  clear hvs hhp vs hp' hk
  cbv
  have hE1 : ST.den (.bin .add .i64 (.a I) (.l 1)) = ((i + 1 : Nat) : Int):=V.one
  refine ⟨fun hg=>?_,fun c hc=>?_⟩
  ·subst hD; exact inS_of hE1 (by have hg : (!decide ((s.length : Int)≤ST.den (.bin .add .i64 (.a I) (.l 1)))) = true:=hg; rw [hE1] at hg; simp only [Bool.not_eq_true',decide_eq_false_iff_not] at hg; omega)
  have hc2:=byteAt hD hE1 hc
  clear hc
  cbv
  refine ⟨_,rfl,rfl,by subst hD; exact hc2.le,fun r hr=>?_⟩
  have hr2 : r = kindI c:=by subst hD; exact hr
  clear hr
  cbv
  refine br hD (fun h=>?_) (fun h=>?_)<;>cbv
  ·have h : (decide ((s.length : Int)≤ST.den (.bin .add .i64 (.a I) (.l 1))) || r == 0) = true:=h
   rw [hE1,hr2] at h
   refine finInt hD ?_
   rw [hk2,qAt_none (qd_stop hc2 h)]
   rfl
  have h : (decide ((s.length : Int)≤ST.den (.bin .add .i64 (.a I) (.l 1))) || r == 0) = false:=h
  rw [hE1,hr2] at h
  obtain ⟨hlt,hp⟩:=qd_go hc2 h
  clear h
  refine ⟨by subst hD; exact inS_of hE1 hlt,fun c' hc'=>?_⟩
  have hcc : c' = c:=by have:=byteAt hD hE1 hc'; rw [this.h,hc2.h]
  subst hcc
  clear hc'
  cbv
  refine br hD (fun h=>?_) (fun h=>?_)<;>cbv
  ·have h34 : c' = 34:=by have h : (c' == 34) = true:=h; simpa using h
   refine finInt hD ?_
   rw [hk2,qAt_quote hlt hp (by rw [←hc2.charI]; exact h34)]
   exact V.two hlt
  have h34 : charI s (i + 1)≠34:=by rw [←hc2.charI]; have h : (c' == 34) = false:=h; simpa using h
  clear h
  refine br hD (fun h=>?_) (fun h=>?_)<;>cbv
  ·have h92 : charI s (i + 1) = 92:=by rw [←hc2.charI]; have h : (c' == 92) = true:=h; simpa using h
   clear h
   have hE2' : ST.den (.bin .add .i64 (.bin .add .i64 (.a I) (.l 1)) (.l 1)) = ((i + 2 : Nat) : Int):=V.two hlt
   refine ⟨fun hg=>?_,fun d hd=>?_⟩
   ·subst hD; exact inS_of hE2' (by have hg : (!decide ((s.length : Int)≤ST.den (.bin .add .i64 (.bin .add .i64 (.a I) (.l 1)) (.l 1)))) = true:=hg; rw [hE2'] at hg; simp only [Bool.not_eq_true',decide_eq_false_iff_not] at hg; omega)
   have hd2:=byteAt hD hE2' hd
   clear hd
   cbv
   refine ⟨_,rfl,rfl,by subst hD; exact hd2.le,fun q hq=>?_⟩
   have hq2 : q = kindI d:=by subst hD; exact hq
   clear hq
   cbv
   refine br hD (fun h=>?_) (fun h=>?_)<;>cbv
   ·have h : (decide ((s.length : Int)≤ST.den (.bin .add .i64 (.bin .add .i64 (.a I) (.l 1)) (.l 1))) || q == 0) = true:=h
    rw [hE2',hq2] at h
    refine finInt hD ?_
    rw [hk2,qAt_none (qdF_esc0 hlt hp h92 (qd_stop2 hd2 h))]
    rfl
   have h : (decide ((s.length : Int)≤ST.den (.bin .add .i64 (.bin .add .i64 (.a I) (.l 1)) (.l 1))) || q == 0) = false:=h
   rw [hE2',hq2] at h
   obtain ⟨hlt2,hp2⟩:=qd_go hd2 h
   refine ⟨s.length - (i + 2),by have:=V.m; omega,?_⟩
   rw [hJ]
   subst hD
   exact ⟨i + 2,_,rfl,rfl,⟨hE2',.inl hlt2,rfl,hl⟩,by rw [hk2,qAt_esc hlt hp h92 hlt2 hp2]⟩
  ·have h92 : charI s (i + 1)≠92:=by rw [←hc2.charI]; have h : (c' == 92) = false:=h; simpa using h
   refine ⟨s.length - (i + 1),by have:=V.m; omega,?_⟩
   rw [hJ]
   subst hD
   exact ⟨i + 1,_,rfl,rfl,⟨hE1,.inl hlt,rfl,hl⟩,by rw [hk2,qAt_more hlt hp h34 h92]⟩
end Go.Proofs.YtefelnhpfdcleaaGreatDoor
namespace Go.Proofs.YtefelnhpfdcleaaGreatDoor
open Go.Sx
set_option maxRecDepth 10000
set_option maxHeartbeats 2000000
def qRes (t s : List UInt8) (i : Nat) : Int×List UInt8×Bool:=match qdF plainI (s.drop i) with
 | none=>(0,[],false)
 | some x=>(((i + x.1 : Nat) : Int),t ++ x.2,true)
def refQuotedF (s : List UInt8) (j : Nat) : Int×List UInt8×Bool:=qRes [] s (j + 1)
theorem qRes_none {t s : List UInt8} {i : Nat} (h : qdF plainI (s.drop i) = none) : qRes t s i = (0,[],false):=by rw [qRes,h]
theorem qRes_quote {t s : List UInt8} {i : Nat} (h : i < s.length) (hb : plainI (charI s i) = true) (hq : charI s i = 34) : qRes t s i = (((i + 1 : Nat) : Int),t,true):=by
 rw [qRes,qdF_quote h hb hq]; simp
theorem qRes_esc {t s : List UInt8} {i : Nat} (h : i < s.length) (hb : plainI (charI s i) = true) (hq : charI s i = 92) (h2 : i + 1 < s.length) (hb2 : plainI (charI s (i + 1)) = true) : qRes t s i = qRes (t ++ [s.getD (i + 1) 0]) s (i + 2):=by
 rw [qRes,qdF_esc h hb hq h2 hb2,qRes]
 cases qdF plainI (s.drop (i + 2)) with
 | none=>rfl
 | some x =>
  simp only [Option.map_some,List.append_assoc,List.singleton_append]
  congr 2; omega
theorem qRes_more {t s : List UInt8} {i : Nat} (h : i < s.length) (hb : plainI (charI s i) = true) (hq : charI s i≠34) (hq2 : charI s i≠92) : qRes t s i = qRes (t ++ [s.getD i 0]) s (i + 1):=by
 rw [qRes,qdF_more h hb hq hq2,qRes]
 cases qdF plainI (s.drop (i + 1)) with
 | none=>rfl
 | some x =>
  simp only [Option.map_some,List.append_assoc,List.singleton_append]
  congr 2; omega
structure RqI (s t : List UInt8) (i : Nat) (I : Int) (m : Nat) : Prop where
 at_ : At s i I m
 t : t.length≤i
theorem At.one {s : List UInt8} {i : Nat} {I : Int} {m : Nat} (V : At s i I m) (h : i < s.length) : ST.den (.bin .add .i64 (.a I) (.l 1)) = ((i + 1 : Nat) : Int):=by
 have h1:=V.I; have h2:=V.len
 show IntKind.i64.wrap (I + 1) = _
 rw [wrap64 (by omega) (by omega)]; omega
theorem At.two {s : List UInt8} {i : Nat} {I : Int} {m : Nat} (V : At s i I m) (h : i + 1 < s.length) : ST.den (.bin .add .i64 (.bin .add .i64 (.a I) (.l 1)) (.l 1)) = ((i + 2 : Nat) : Int):=by
 have h0:=V.one (by omega); have h2:=V.len
 show IntKind.i64.wrap (ST.den (.bin .add .i64 (.a I) (.l 1)) + 1) = _
 rw [h0,wrap64 (by omega) (by omega)]; omega
theorem At.den {s : List UInt8} {i : Nat} {I : Int} {m : Nat} (V : At s i I m) : ST.den (.a I) = (i : Int):=V.I
theorem sub_one {D : Dn} (hD : D = dn) {r s : List UInt8} {i : Nat} {a b : ST} (ha : a.den = (i : Int)) (hb : b.den = ((i + 1 : Nat) : Int)) (h : i < s.length) (hr : SubOf r s (D.i a) (D.i b)) : r = [s.getD i 0]:=by
 subst hD
 have hr:=hr.h
 have e1 : dn.i a = (i : Int):=ha
 have e2 : dn.i b = ((i + 1 : Nat) : Int):=hb
 rw [hr,e1,e2,Int.toNat_natCast,Int.toNat_natCast,drop_at h]
 simp
theorem subS_of {s : List UInt8} {i j : Nat} {a b : ST} (ha : a.den = (i : Int)) (hb : b.den = (j : Int)) (h : i≤j) (h2 : j≤s.length) : SubS (dn.i a) (dn.i b) s:=⟨by show 0≤a.den; omega,by show a.den≤b.den; omega,by show b.den≤_; omega⟩
theorem qd_goP {c : Int} {s : List UInt8} {i : Nat} (hc : CharAt c s i) {r : Bool} (hr : r = plainI c) (h : r = true) : plainI (charI s i) = true:=by rw [←hc.charI,←hr,h]
def rqJ (s : List UInt8) (k : Int×List UInt8×Bool) (m : Nat) (vs : List (Option SV)) (hp : List Hl) : Prop :=
 ∃ (i : Nat) (I : Int) (t : List UInt8),vs = [some (.str s),some (.str t),some (.int .i64 (.a I))]∧hp = []∧RqI s t i I m∧k = qRes t s i
def spRq : FSpec:=fun _ xs ls K=>∃ (s : List UInt8) (j : Nat) (I : Int),xs = [.str s,.int .i64 (.a I)]∧ls = []∧At s j I (s.length - j)∧j < s.length∧∀ e t b,(e,t,b) = refQuotedF s j→K (.tup [.int .i64 (.a e),.str t,.bool (.a b)]) []
theorem finRq {D : Dn} (hD : D = dn) {e : Int} {x : ST} {t u : List UInt8} {b : Bool} {y : BT} (h1 : x.den = e) (h2 : t = u) (h3 : y.den = b) : Fin (.tup [.int .i64 (.a (D.i x)),.str t,.bool (.a (D.b y))]) (.tup [.int .i64 (.a e),.str u,.bool (.a b)]) [] []:=by
 subst hD h1 h2 h3; exact finV (LeV.refl _)
theorem refQuoted_ok : FnOk Tryz.prog gl 152 spRq:=by
 refine fnOk (gh:=[]) mixed cxOk (tabCons plain_ok tabNil) Tryz.func152 (by kernel_rfl) (by kernel_rfl) ?_
 intro xs ls K h
 unfold spRq at h
 obtain ⟨s,j0,I0,rfl,rfl,V0,hj0,h⟩:=h
 obtain ⟨k,hk⟩ : ∃ k,k = refQuotedF s j0:=⟨_,rfl⟩
 obtain ⟨ke,kt,kb⟩:=k
 refine ⟨_,_,h ke kt kb hk,fun D hD=>?_⟩
 clear h
 rw [refQuotedF] at hk
 cbv
 obtain ⟨J,hJ⟩ : ∃ J,J = rqJ s (ke,kt,kb):=⟨_,rfl⟩
 refine ⟨[0,7,8],J,⟨rfl,s.length - (j0 + 1),?_⟩,?_⟩
 ·rw [hJ]
  subst hD
  exact ⟨j0 + 1,_,[],rfl,rfl,⟨(V0.step rfl hj0).2,Nat.zero_le _⟩,hk⟩
 intro m vs hp' hv
 rw [hJ] at hv
 unfold rqJ at hv
 obtain ⟨i,I,t,rfl,rfl,V,hk2⟩:=hv
 clear hk
 cbv
 refine ⟨fun hg=>?_,fun c hc=>?_⟩
 ·subst hD; exact inS_of V.at_.den (by have hg : decide (I < (s.length : Int)) = true:=hg; have:=V.at_.I; simp only [decide_eq_true_eq] at hg; omega)
 have hc2:=byteAt hD V.at_.den hc
 clear hc
 cbv
 refine ⟨_,rfl,rfl,fun r hr=>?_⟩
 have hr2 : r = plainI c:=by subst hD; exact hr
 clear hr
 cbv
 refine br hD (fun h=>?_) (fun h=>?_)<;>cbv
 ·have h : (decide (I < (s.length : Int)) && r) = true:=h
  have hlt : i < s.length:=by
   have:=V.at_.I
   simp only [Bool.and_eq_true,decide_eq_true_eq] at h
   omega
  have hp:=qd_goP hc2 hr2 (by simp only [Bool.and_eq_true] at h; exact h.2)
  clear h
  refine ⟨by subst hD; exact inS_of V.at_.den hlt,fun c' hc'=>?_⟩
  have hcc : c' = c:=by have:=byteAt hD V.at_.den hc'; rw [this.h,hc2.h]
  subst hcc
  clear hc'
  cbv
  refine br hD (fun h=>?_) (fun h=>?_)<;>cbv
  ·have h34 : c' = 34:=by have h : (c' == 34) = true:=h; simpa using h
   rw [qRes_quote hlt hp (by rw [←hc2.charI]; exact h34)] at hk2
   simp only [Prod.mk.injEq] at hk2
   obtain ⟨e1,e2,e3⟩:=hk2
   exact finRq hD (by rw [e1]; exact V.at_.one hlt) e2.symm e3.symm
  have h34 : charI s i≠34:=by rw [←hc2.charI]; have h : (c' == 34) = false:=h; simpa using h
  clear h
  refine ⟨by subst hD; exact inS_of V.at_.den hlt,fun c3 hc3=>?_⟩
  have hcc : c3 = c':=by have:=byteAt hD V.at_.den hc3; rw [this.h,hc2.h]
  subst hcc
  clear hc3
  cbv
  refine br hD (fun h=>?_) (fun h=>?_)<;>cbv
  ·have h92 : charI s i = 92:=by rw [←hc2.charI]; have h : (c3 == 92) = true:=h; simpa using h
   clear h
   refine ⟨fun hg=>?_,fun d hd=>?_⟩
   ·subst hD; exact inS_of (V.at_.one hlt) (by
     have hg : (!(ST.den (.bin .add .i64 (.a I) (.l 1)) == (s.length : Int))) = true:=hg
     rw [V.at_.one hlt] at hg
     simp only [Bool.not_eq_true',beq_eq_false_iff_ne,ne_eq] at hg
     omega)
   have hd2:=byteAt hD (V.at_.one hlt) hd
   clear hd
   cbv
   refine ⟨_,rfl,rfl,fun q hq=>?_⟩
   have hq2 : q = plainI d:=by subst hD; exact hq
   clear hq
   cbv
   refine br hD (fun h=>?_) (fun h=>?_)<;>cbv
   ·have h : ((ST.den (.bin .add .i64 (.a I) (.l 1)) == (s.length : Int)) || !q) = true:=h
    rw [V.at_.one hlt] at h
    rw [qRes_none (qdF_esc0 hlt hp h92 (by
     rintro ⟨h1,h2⟩
     rw [←hd2.charI,←hq2] at h2
     simp only [h2,Bool.not_true,Bool.or_false,beq_iff_eq] at h
     omega))] at hk2
    simp only [Prod.mk.injEq] at hk2
    obtain ⟨e1,e2,e3⟩:=hk2
    exact finRq hD (by rw [e1]; rfl) e2.symm e3.symm
   have h : ((ST.den (.bin .add .i64 (.a I) (.l 1)) == (s.length : Int)) || !q) = false:=h
   rw [V.at_.one hlt] at h
   simp only [Bool.or_eq_false_iff,beq_eq_false_iff_ne,ne_eq,Bool.not_eq_false'] at h
   have hlt2 : i + 1 < s.length:=by omega
   have hp2:=qd_goP hd2 hq2 h.2
   clear h
   have hE3:=V.at_.two hlt2
   refine ⟨by subst hD; exact subS_of (V.at_.one hlt) hE3 (by omega) (by omega),fun r1 hr1=>?_⟩
   have hr1':=sub_one hD (V.at_.one hlt) hE3 hlt2 hr1
   clear hr1
   cbv
   refine ⟨⟨?_⟩,fun r3 hr3=>?_⟩
   ·have:=V.t; have:=V.at_.len; rw [hr1']; simp only [List.length_singleton]; omega
   have hr3' : r3 = t ++ [s.getD (i + 1) 0]:=by rw [hr3.h,hr1']
   clear hr3
   cbv
   refine ⟨s.length - (i + 2),by have:=V.at_.m; omega,?_⟩
   rw [hJ]
   subst hD
   refine ⟨i + 2,_,r3,rfl,rfl,⟨⟨by omega,V.at_.two hlt2,rfl,V.at_.len⟩,?_⟩,?_⟩
   ·have:=V.t; rw [hr3']; simp only [List.length_append,List.length_singleton]; omega
   ·rw [hk2,qRes_esc hlt hp h92 hlt2 hp2,hr3']
  ·have h92 : charI s i≠92:=by rw [←hc2.charI]; have h : (c3 == 92) = false:=h; simpa using h
   clear h
   refine ⟨by subst hD; exact subS_of V.at_.den (V.at_.one hlt) (by omega) (by omega),fun r1 hr1=>?_⟩
   have hr1':=sub_one hD V.at_.den (V.at_.one hlt) hlt hr1
   clear hr1
   cbv
   refine ⟨⟨?_⟩,fun r3 hr3=>?_⟩
   ·have:=V.t; have:=V.at_.len; rw [hr1']; simp only [List.length_singleton]; omega
   have hr3' : r3 = t ++ [s.getD i 0]:=by rw [hr3.h,hr1']
   clear hr3
   cbv
   refine ⟨s.length - (i + 1),by have:=V.at_.m; omega,?_⟩
   rw [hJ]
   subst hD
   refine ⟨i + 1,_,r3,rfl,rfl,⟨(V.at_.step rfl hlt).2,?_⟩,?_⟩
   ·have:=V.t; rw [hr3']; simp only [List.length_append,List.length_singleton]; omega
   ·rw [hk2,qRes_more hlt hp h34 h92,hr3']
 ·have h : (decide (I < (s.length : Int)) && r) = false:=h
  rw [qRes_none (by
   by_cases hlt : i < s.length
   ·refine qdF_bad hlt ?_
    rw [←hc2.charI,←hr2]
    have:=V.at_.I
    have e : decide (I < (s.length : Int)) = true:=by simp only [decide_eq_true_eq]; omega
    rw [e] at h; simpa using h
   ·exact qdF_end (by omega))] at hk2
  simp only [Prod.mk.injEq] at hk2
  obtain ⟨e1,e2,e3⟩:=hk2
  exact finRq hD (by rw [e1]; rfl) e2.symm e3.symm
end Go.Proofs.YtefelnhpfdcleaaGreatDoor
namespace Go.Proofs.YtefelnhpfdcleaaGreatDoor
open Go.Sx
set_option maxRecDepth 10000
set_option maxHeartbeats 2000000
structure QuI (s t : List UInt8) (i : Nat) (I : Int) (m : Nat) : Prop where
 at_ : At s i I m
 t : t.length≤2 * i + 1
 s : s.length≤500
end Go.Proofs.YtefelnhpfdcleaaGreatDoor
namespace Go.Proofs.YtefelnhpfdcleaaGreatDoor
open Go.Sx
set_option maxRecDepth 10000
set_option maxHeartbeats 2000000
def blankI (c : Int) : Bool:=c == 9 || c == 32
def spPredAll (p : Int→Bool) : FSpec:=fun _ xs ls K=>∃ (c : Int),xs = [.int .u8 (.a c)]∧ls = []∧∀ r,r = p c→K (.bool (.a r)) []
theorem blank_ok : FnOk Tryz.prog gl 153 (spPredAll blankI):=by
 refine fnOk (gh:=[]) mixed cxOk tabNil Tryz.func153 (by kernel_rfl) (by kernel_rfl) ?_
 intro xs ls K h
 unfold spPredAll at h
 obtain ⟨c,rfl,rfl,h⟩:=h
 obtain ⟨k,hk⟩ : ∃ k,k = blankI c:=⟨_,rfl⟩
 refine ⟨_,_,h k hk,fun D hD=>?_⟩
 clear h
 cbv
 exact finBool hD hk.symm
def blankB (c : UInt8) : Bool:=blankI (c.toNat : Int)
def trimL (s : List UInt8) : List UInt8:=s.dropWhile blankB
def trimR (s : List UInt8) : List UInt8:=(s.reverse.dropWhile blankB).reverse
def trimF (s : List UInt8) : List UInt8:=trimR (trimL s)
theorem trimL_cons {c : UInt8} {r : List UInt8} (h : blankB c = true) : trimL (c :: r) = trimL r:=by
 rw [trimL,List.dropWhile_cons_of_pos h]; rfl
theorem trimL_stop {s : List UInt8} (h : s = []∨blankI (charI s 0) = false) : trimL s = s:=by
 rcases h with rfl | h
 ·rfl
 ·cases s with
  | nil=>rfl
  | cons c r=>exact List.dropWhile_cons_of_neg (by rw [show blankB c = false from h]; simp)
theorem trimR_snoc {c : UInt8} {r : List UInt8} (h : blankB c = true) : trimR (r ++ [c]) = trimR r:=by
 rw [trimR,List.reverse_append,List.reverse_singleton,List.singleton_append,List.dropWhile_cons_of_pos h]; rfl
theorem trimR_stop {s : List UInt8} (h : s = []∨blankI (charI s (s.length - 1)) = false) : trimR s = s:=by
 rcases h with rfl | h
 ·rfl
 ·rcases List.eq_nil_or_concat s with rfl | ⟨r,c,rfl⟩
  ·rfl
  ·have : charI (r ++ [c]) ((r ++ [c]).length - 1) = (c.toNat : Int):=by simp [charI]
   rw [List.concat_eq_append] at *
   rw [this] at h
   rw [trimR,List.reverse_append,List.reverse_singleton,List.singleton_append,List.dropWhile_cons_of_neg (by rw [show blankB c = false from h]; simp)]
   simp
theorem drop1 {s : List UInt8} (h : 0 < s.length) : s = s.getD 0 0 :: s.drop 1:=by
 have:=drop_at (i:=0) h
 simpa using this
theorem take_last {s : List UInt8} (h : 0 < s.length) : s = s.take (s.length - 1) ++ [s.getD (s.length - 1) 0]:=by
 rw [getD_lt (show s.length - 1 < s.length by omega)]
 conv=>lhs; rw [←List.take_append_drop (s.length - 1) s]
 congr 1
 rw [List.drop_eq_getElem_cons (by omega),show s.length - 1 + 1 = s.length by omega,List.drop_length]
theorem sub_of {D : Dn} (hD : D = dn) {r s : List UInt8} {i j : Nat} {a b : ST} (ha : a.den = (i : Int)) (hb : b.den = (j : Int)) (hr : SubOf r s (D.i a) (D.i b)) : r = (s.drop i).take (j - i):=by
 subst hD
 have hr:=hr.h
 have e1 : dn.i a = (i : Int):=ha
 have e2 : dn.i b = (j : Int):=hb
 rw [hr,e1,e2,Int.toNat_natCast,Int.toNat_natCast]
structure TrI (s : List UInt8) (m : Nat) : Prop where
 m : m = s.length
 len : s.length≤9223372036854775807
def trJ (F : List UInt8→List UInt8) (k : List UInt8) (m : Nat) (vs : List (Option SV)) (hp : List Hl) : Prop :=
 ∃ (s : List UInt8),vs = [some (.str s)]∧hp = []∧TrI s m∧k = F s
def spStrS (F : List UInt8→List UInt8) : FSpec:=fun _ xs ls K=>∃ (s : List UInt8),xs = [.str s]∧ls = []∧s.length≤9223372036854775807∧∀ r,r = F s→K (.str r) []
theorem finStr {r k : List UInt8} (h : r = k) : Fin (.str r) (.str k) [] []:=by subst h; exact finV (LeV.refl _)
theorem refTrim_ok : FnOk Tryz.prog gl 131 (spStrS trimF):=by
 refine fnOk (gh:=[]) mixed cxOk (tabCons blank_ok tabNil) Tryz.func131 (by kernel_rfl) (by kernel_rfl) ?_
 intro xs ls K h
 unfold spStrS at h
 obtain ⟨s0,rfl,rfl,hl,h⟩:=h
 obtain ⟨k,hk⟩ : ∃ k,k = trimF s0:=⟨_,rfl⟩
 refine ⟨_,_,h k hk,fun D hD=>?_⟩
 clear h
 cbv
 obtain ⟨J,hJ⟩ : ∃ J,J = trJ trimF k:=⟨_,rfl⟩
 refine ⟨[0],J,⟨rfl,s0.length,?_⟩,?_⟩
 ·rw [hJ]
  subst hD
  exact ⟨s0,rfl,rfl,⟨rfl,hl⟩,hk⟩
 clear hk hl
 intro m vs hp' hv
 rw [hJ] at hv
 unfold trJ at hv
 obtain ⟨s,rfl,rfl,V,hk⟩:=hv
 cbv
 refine ⟨fun hg=>?_,fun c hc=>?_⟩
 ·subst hD
  have hg : decide (0 < (s.length : Int)) = true:=hg
  simp only [decide_eq_true_eq] at hg
  exact inS_of (e:=.l 0) (i:=0) rfl (by omega)
 have hc2:=byteAt (e:=.l 0) (i:=0) hD rfl hc
 clear hc
 cbv
 refine ⟨_,rfl,rfl,fun q hq=>?_⟩
 have hq2 : q = blankI c:=by subst hD; exact hq
 clear hq
 cbv
 refine br hD (fun h=>?_) (fun h=>?_)<;>cbv
 ·have h : (decide (0 < (s.length : Int)) && q) = true:=h
  simp only [Bool.and_eq_true,decide_eq_true_eq] at h
  have h0 : 0 < s.length:=by have:=h.1; omega
  have hb : blankB (s.getD 0 0) = true:=by rw [blankB,hc2.of,←hq2]; exact h.2
  clear h
  refine ⟨by subst hD; exact subS_of (i:=1) (j:=s.length) (a:=.l 1) (b:=.len s) rfl rfl (by omega) (by omega),fun r hr=>?_⟩
  have hr2 : r = s.drop 1:=by
   rw [sub_of (i:=1) (j:=s.length) hD rfl rfl hr]
   exact List.take_of_length_le (by simp)
  clear hr
  cbv
  refine ⟨s.length - 1,by have:=V.m; omega,?_⟩
  rw [hJ]
  subst hD
  refine ⟨r,rfl,rfl,⟨by rw [hr2]; simp,by rw [hr2]; have:=V.len; simp; omega⟩,?_⟩
  rw [hk,trimF,drop1 h0,trimL_cons hb,hr2]; rfl
 have h : (decide (0 < (s.length : Int)) && q) = false:=h
 have hk3 : k = trimR s:=by
  rw [hk,trimF,trimL_stop]
  by_cases h0 : 0 < s.length
  ·right
   rw [←hc2.charI,←hq2]
   have e : decide (0 < (s.length : Int)) = true:=by simp only [decide_eq_true_eq]; omega
   rw [e] at h; simpa using h
  ·left; exact List.eq_nil_of_length_eq_zero (by omega)
 clear hk h hc2 hq2 hJ J
 obtain ⟨J,hJ⟩ : ∃ J,J = trJ trimR k:=⟨_,rfl⟩
 refine ⟨[0],J,⟨rfl,s.length,?_⟩,?_⟩
 ·rw [hJ]
  subst hD
  exact ⟨s,rfl,rfl,⟨rfl,V.len⟩,hk3⟩
 clear hk3 V
 intro m vs hp' hv
 rw [hJ] at hv
 unfold trJ at hv
 obtain ⟨s,rfl,rfl,V,hk⟩:=hv
 have hE : 0 < s.length→ST.den (.bin .sub .i64 (.len s) (.l 1)) = ((s.length - 1 : Nat) : Int):=by
  intro h0
  have:=V.len
  show IntKind.i64.wrap ((s.length : Int) - 1) = _
  rw [wrap64 (by omega) (by omega)]; omega
 cbv
 refine ⟨fun hg=>?_,fun c hc=>?_⟩
 ·subst hD
  have hg : decide (0 < (s.length : Int)) = true:=hg
  simp only [decide_eq_true_eq] at hg
  exact inS_of (i:=s.length - 1) (hE (by omega)) (by omega)
 by_cases h0 : 0 < s.length
 ·have hc2:=byteAt (i:=s.length - 1) hD (hE h0) hc
  clear hc
  cbv
  refine ⟨_,rfl,rfl,fun q hq=>?_⟩
  have hq2 : q = blankI c:=by subst hD; exact hq
  clear hq
  cbv
  refine br hD (fun h=>?_) (fun h=>?_)<;>cbv
  ·have h : (decide (0 < (s.length : Int)) && q) = true:=h
   simp only [Bool.and_eq_true,decide_eq_true_eq] at h
   have hb : blankB (s.getD (s.length - 1) 0) = true:=by rw [blankB,hc2.of,←hq2]; exact h.2
   clear h
   have hE2:=hE h0
   refine ⟨by subst hD; exact subS_of (i:=0) (j:=s.length - 1) (a:=.l 0) rfl hE2 (by omega) (by omega),fun r hr=>?_⟩
   have hr2 : r = s.take (s.length - 1):=by
    rw [sub_of (i:=0) (j:=s.length - 1) hD rfl hE2 hr]; rfl
   clear hr
   cbv
   refine ⟨s.length - 1,by have:=V.m; omega,?_⟩
   rw [hJ]
   subst hD
   refine ⟨r,rfl,rfl,⟨by rw [hr2]; simp,by rw [hr2]; have:=V.len; simp; omega⟩,?_⟩
   rw [hk,take_last h0,trimR_snoc hb,hr2]
  ·have h : (decide (0 < (s.length : Int)) && q) = false:=h
   refine finStr ?_
   rw [hk,trimR_stop]
   right
   rw [←hc2.charI,←hq2]
   have e : decide (0 < (s.length : Int)) = true:=by simp only [decide_eq_true_eq]; omega
   rw [e] at h; simpa using h
 ·have hs : s = []:=List.eq_nil_of_length_eq_zero (by omega)
  subst hs
  clear hc hE
  cbv
  refine ⟨_,rfl,rfl,fun q hq=>?_⟩
  cbv
  refine br hD (fun h=>?_) (fun h=>?_)<;>cbv
  ·have h : (decide ((0 : Int) < 0) && q) = true:=h
   simp at h
  ·refine finStr ?_
   rw [hk]; rfl
end Go.Proofs.YtefelnhpfdcleaaGreatDoor
namespace Go.Proofs.YtefelnhpfdcleaaGreatDoor
open Go.Sx
set_option maxRecDepth 10000
set_option maxHeartbeats 2000000
def partsM (p : Int→Bool) (y : Int) : List UInt8→Nat→List UInt8→Option (List (List UInt8))
 | [],md,cur=>if md = 0 then some [cur] else none
 | c :: r,md,cur =>
  if !p (c.toNat : Int) then none
  else if md = 0 then
   (if (c.toNat : Int) = 34 then partsM p y r 1 (cur ++ [c])
    else if (c.toNat : Int) = y then (partsM p y r 0 []).map (cur :: ·)
    else partsM p y r 0 (cur ++ [c]))
  else if md = 1 then
   (if (c.toNat : Int) = 34 then partsM p y r 0 (cur ++ [c])
    else if (c.toNat : Int) = 92 then partsM p y r 2 (cur ++ [c])
    else partsM p y r 1 (cur ++ [c]))
  else partsM p y r 1 (cur ++ [c])
theorem partsM_q (p : Int→Bool) (y : Int) : ∀ (n : Nat) (r cur : List UInt8),r.length≤n→partsM p y r 1 cur = match qdF p r with
  | none=>none
  | some x=>partsM p y (r.drop x.1) 0 (cur ++ r.take x.1)
 | n,[],cur,_=>by simp [partsM,qdF]
 | 0,c :: r,cur,h=>by simp at h
 | n + 1,c :: r,cur,h=>by
  simp only [List.length_cons] at h
  rw [qdF_cons]
  simp only [partsM]
  by_cases h1 : p (c.toNat : Int) = true
  ·rw [h1]
   simp only [Bool.not_true,Bool.false_eq_true,if_false,if_true,Nat.one_ne_zero]
   by_cases h2 : (c.toNat : Int) = 34
   ·simp only [if_pos h2,List.drop_succ_cons,List.drop_zero,List.take_succ_cons,List.take_zero]
   ·simp only [if_neg h2]
    by_cases h3 : (c.toNat : Int) = 92
    ·simp only [if_pos h3]
     cases r with
     | nil=>simp [partsM]
     | cons d r' =>
      simp only [partsM]
      by_cases h4 : p (d.toNat : Int) = true
      ·rw [h4]
       simp only [Bool.not_true,Bool.false_eq_true,if_false,(by decide : ¬ (2 : Nat) = 0),(by decide : ¬ (2 : Nat) = 1)]
       rw [partsM_q p y n r' _ (by simp at h; omega)]
       cases qdF p r' with
       | none=>rfl
       | some x=>simp
      ·have h4 : p (d.toNat : Int) = false:=by simpa using h4
       rw [h4]; simp
    ·simp only [if_neg h3]
     rw [partsM_q p y n r _ (by omega)]
     cases qdF p r with
     | none=>rfl
     | some x=>simp
  ·have h1 : p (c.toNat : Int) = false:=by simpa using h1
   rw [h1]; simp
def cut (s : List UInt8) (a b : Nat) : List UInt8:=(s.drop a).take (b - a)
theorem cut_snoc {s : List UInt8} {a i : Nat} (h : i < s.length) (ha : a≤i) : cut s a i ++ [s.getD i 0] = cut s a (i + 1):=by
 unfold cut
 rw [show i + 1 - a = (i - a) + 1 by omega,List.take_add_one]
 congr 1
 rw [List.getElem?_drop,show a + (i - a) = i by omega,List.getElem?_eq_getElem h,getD_lt h]; rfl
theorem cut_app {s : List UInt8} {a i n : Nat} (ha : a≤i) : cut s a i ++ (s.drop i).take n = cut s a (i + n):=by
 unfold cut
 rw [show i + n - a = (i - a) + n by omega,List.take_add,List.drop_drop,show a + (i - a) = i by omega]
theorem cut_self {s : List UInt8} {a : Nat} : cut s a a = []:=by simp [cut]
theorem cut_all {s : List UInt8} {a : Nat} : cut s a s.length = s.drop a:=by
 unfold cut; exact List.take_of_length_le (by simp)
def pAt (y : Int) (s : List UInt8) (out : List (List UInt8)) (a i : Nat) : Option (List (List UInt8)):=(partsM plainI y (s.drop i) 0 (cut s a i)).map (out ++ ·)
theorem pAt_bad {y : Int} {s : List UInt8} {out : List (List UInt8)} {a i : Nat} (h : i < s.length) (hb : plainI (charI s i) = false) : pAt y s out a i = none:=by
 unfold charI at hb
 rw [pAt,drop_at h,partsM,hb]; rfl
theorem pAt_sep {y : Int} {s : List UInt8} {out : List (List UInt8)} {a i : Nat} (h : i < s.length) (hb : plainI (charI s i) = true) (h34 : charI s i≠34) (hy : charI s i = y) : pAt y s out a i = pAt y s (out ++ [cut s a i]) (i + 1) (i + 1):=by
 unfold charI at hb h34 hy
 rw [pAt,pAt,drop_at h,partsM,hb,cut_self]
 simp only [Bool.not_true,Bool.false_eq_true,if_false,if_true,if_neg h34,if_pos hy]
 cases partsM plainI y (s.drop (i + 1)) 0 []<;>simp
theorem pAt_more {y : Int} {s : List UInt8} {out : List (List UInt8)} {a i : Nat} (h : i < s.length) (ha : a≤i) (hb : plainI (charI s i) = true) (h34 : charI s i≠34) (hy : charI s i≠y) : pAt y s out a i = pAt y s out a (i + 1):=by
 have e:=cut_snoc h ha
 unfold charI at hb h34 hy
 rw [pAt,pAt,drop_at h,partsM,hb]
 simp only [Bool.not_true,Bool.false_eq_true,if_false,if_true,if_neg h34,if_neg hy]
 rw [e]
theorem pAt_quote {y : Int} {s : List UInt8} {out : List (List UInt8)} {a i : Nat} (h : i < s.length) (ha : a≤i) (hb : plainI (charI s i) = true) (h34 : charI s i = 34) : pAt y s out a i = match qdF plainI (s.drop (i + 1)) with
  | none=>none
  | some x=>pAt y s out a (i + 1 + x.1):=by
 have e:=cut_snoc h ha
 unfold charI at hb h34
 rw [pAt,drop_at h,partsM,hb]
 simp only [Bool.not_true,Bool.false_eq_true,if_false,if_true,if_pos h34]
 rw [e,partsM_q plainI y _ _ _ (Nat.le_refl _)]
 cases qdF plainI (s.drop (i + 1)) with
 | none=>rfl
 | some x =>
  simp only [pAt]
  rw [List.drop_drop,cut_app (by omega)]
theorem pAt_end {y : Int} {s : List UInt8} {out : List (List UInt8)} {a i : Nat} (h : i = s.length) : pAt y s out a i = some (out ++ [s.drop a]):=by
 rw [pAt,h,List.drop_length,cut_all]; rfl
theorem qdF_len {p : Int→Bool} : ∀ (n : Nat) (r : List UInt8) (x : Nat×List UInt8),r.length≤n→qdF p r = some x→0 < x.1∧x.1≤r.length
 | n,[],x,_,h=>by simp [qdF] at h
 | 0,c :: r,x,hl,h=>by simp at hl
 | n + 1,c :: r,x,hl,h=>by
  simp only [List.length_cons] at hl ⊢
  rw [qdF_cons] at h
  split at h
  ·cases h
  split at h
  ·cases h; exact ⟨by omega,by simp⟩
  split at h
  ·cases r with
   | nil=>cases h
   | cons d r' =>
    simp only at h
    split at h
    ·cases h
    ·obtain ⟨z,hz,rfl⟩:=Option.map_eq_some_iff.1 h
     have:=qdF_len n r' z (by simp at hl; omega) hz
     simp only [List.length_cons]
     omega
  ·obtain ⟨z,hz,rfl⟩:=Option.map_eq_some_iff.1 h
   have:=qdF_len n r z (by omega) hz
   omega
theorem RowS.more {f f' g : Nat→List SV} {n n' : Int} {a : List (List UInt8)} {x : List UInt8} (R : RowS f n a) (hg : g 0 = [.str x]) (h : MoreRow f' n' n 1 f g) (hl : a.length < 9223372036854775807) : RowS f' n' (a ++ [x]):=by
 have h1:=R.n
 refine ⟨by rw [h.len,h1]; simp,fun i hi=>?_,by simp; omega⟩
 simp only [List.length_append,List.length_singleton] at hi
 by_cases e : i < a.length
 ·rw [h.lo i (by omega),R.f i e,List.getD_eq_getElem?_getD,List.getD_eq_getElem?_getD,List.getElem?_append_left e]
 ·have : i = a.length:=by omega
  subst this
  rw [h.hi a.length 0 (by rw [h1]; simp) (by simp),hg]
  simp
theorem RowS.nil : RowS (fun _=>[]) 0 []:=⟨rfl,by simp,by simp⟩
def strRow (l : List (List UInt8)) (i : Nat) : List SV:=[.str (l.getD i [])]
theorem RowS.row {l : List (List UInt8)} (h : l.length≤9223372036854775807) : RowS (strRow l) l.length l:=⟨rfl,fun _ _=>rfl,h⟩
structure PaI (s : List UInt8) (out : List (List UInt8)) (a i : Nat) (A I : Int) (m : Nat) : Prop where
 at_ : At s i I m
 ale : a≤i
 A : ST.den (.a A) = (a : Int)
 out : out.length≤i
 s : s.length≤100000
def paJ (s : List UInt8) (y : Int) (k : Option (List (List UInt8))) (m : Nat) (vs : List (Option SV)) (hp : List Hl) : Prop :=
 ∃ (i a : Nat) (I A n : Int) (nl : Bool) (f : Nat→List SV) (out : List (List UInt8)),vs = [some (.str s),some (.int .u8 (.a y)),some (.gsl (.a nl) (.a n) 1 f 0),some (.int .i64 (.a A)),some (.int .i64 (.a I))]∧hp = [.tail 9 (.a n) 1]∧
  PaI s out a i A I m∧RowS f n out∧k = pAt y s out a i
def partsF (y : Int) (s : List UInt8) : Option (List (List UInt8)):=partsM plainI y s 0 []
def spParts (F : Int→List UInt8→Option (List (List UInt8))) : FSpec:=fun _ xs ls K=>∃ (s : List UInt8) (y : Int),xs = [.str s,.int .u8 (.a y)]∧ls = []∧s.length≤100000∧∀ (k : Option (List (List UInt8))) (n : Int) (b nb : Bool),k = F y s→n = ((k.getD []).length : Int)→b = k.isSome→nb = k.isNone→K (.tup [.sl (.a nb) (.a n) 1 (strRow (k.getD [])),.bool (.a b)]) []
theorem finParts0 {D : Dn} (hD : D = dn) {k : Option (List (List UInt8))} {kn : Int} {kb knb : Bool} {kr g : Nat→List SV} (hk : k = none) (hkn : kn = ((k.getD []).length : Int)) (hkb : kb = k.isSome) (hknb : knb = k.isNone) (_hkr : kr = strRow (k.getD [])) :
  Fin (.tup [.sl (.a (D.b (.l true))) (.a (D.i (.l 0))) 1 g,.bool (.a (D.b (.l false)))]) (.tup [.sl (.a knb) (.a kn) 1 kr,.bool (.a kb)]) [] []:=by
 subst hD hk
 refine finV (.tup (.cons (.sl ?_ ?_ ?_) (.cons (leBool ?_) .nil)))
 ·rw [hknb]; rfl
 ·rw [hkn]; rfl
 ·intro i hi
  have hi : (i : Int) < 0:=hi
  omega
 ·rw [hkb]; rfl
theorem finParts1 {D : Dn} (hD : D = dn) {k : Option (List (List UInt8))} {l : List (List UInt8)} {kn : Int} {kb knb : Bool} {kr f : Nat→List SV} (hk : k = some l) (hkn : kn = ((k.getD []).length : Int)) (hkb : kb = k.isSome) (hknb : knb = k.isNone) (hkr : kr = strRow (k.getD []))
  {n : Int} (R : RowS f n l) {x : BT} {y : ST} (hy : y.den = n) (hx : x.den = false) : Fin (.tup [.sl (.a (D.b x)) (.a (D.i y)) 1 f,.bool (.a (D.b (.l true)))]) (.tup [.sl (.a knb) (.a kn) 1 kr,.bool (.a kb)]) [] []:=by
 subst hD hk
 refine finV (.tup (.cons (.sl ?_ ?_ ?_) (.cons (leBool ?_) .nil)))
 ·rw [hknb]; exact hx
 ·rw [hkn]; show y.den = _; rw [hy]; exact R.n
 ·intro i hi
  have hi : (i : Int) < y.den:=hi
  rw [R.f i (by have:=R.n; omega),hkr]; rfl
 ·rw [hkb]; rfl
theorem parts_ok : FnOk Tryz.prog gl 130 (spParts partsF):=by
 refine fnOk (gh:=[(1,[.attach 6 9])]) mixed cxOk (tabCons plain_ok (tabCons refQuoted_ok tabNil)) Tryz.func130 (by kernel_rfl) (by kernel_rfl) ?_
 intro xs ls K h
 unfold spParts at h
 obtain ⟨s,y,rfl,rfl,hl,h⟩:=h
 obtain ⟨k,hk⟩ : ∃ k,k = partsF y s:=⟨_,rfl⟩
 obtain ⟨kn,hkn⟩ : ∃ kn : Int,kn = ((k.getD []).length : Int):=⟨_,rfl⟩
 obtain ⟨kb,hkb⟩ : ∃ kb,kb = k.isSome:=⟨_,rfl⟩
 obtain ⟨knb,hknb⟩ : ∃ knb,knb = k.isNone:=⟨_,rfl⟩
 refine ⟨_,_,h k kn kb knb hk hkn hkb hknb,fun D hD=>?_⟩
 clear h
 obtain ⟨kr,hkr⟩ : ∃ kr,kr = strRow (k.getD []):=⟨_,rfl⟩
 rw [←hkr]
 have hk : k = pAt y s [] 0 0:=by
  rw [hk,partsF,pAt,cut_self]
  simp
 cbv
 obtain ⟨J,hJ⟩ : ∃ J,J = paJ s y k:=⟨_,rfl⟩
 refine ⟨[0,1,6,7,8],J,⟨rfl,s.length,?_⟩,?_⟩
 ·rw [hJ]
  subst hD
  exact ⟨0,0,_,_,_,_,_,[],rfl,rfl,⟨At.zero (by omega),by omega,rfl,by simp,hl⟩,RowS.nil,hk⟩
 clear hk
 intro m vs hp' hv
 rw [hJ] at hv
 unfold paJ at hv
 obtain ⟨i,a,I,A,n,nl,f,out,rfl,rfl,V,R,hk⟩:=hv
 cbv
 refine br hD (fun h=>?_) (fun h=>?_)<;>cbv
 ·have hlt:=V.at_.lt (of_decide_eq_true (p:=I < (s.length : Int)) h)
  clear h
  refine ⟨V.at_.inS hD hlt,fun c hc=>?_⟩
  have hc2:=byteAt hD V.at_.den hc
  clear hc
  cbv
  refine ⟨_,rfl,rfl,fun r hr=>?_⟩
  have hr2 : r = plainI c:=by subst hD; exact hr
  clear hr
  cbv
  refine br hD (fun h=>?_) (fun h=>?_)<;>cbv
  ·have h : (!r) = true:=h
   rw [pAt_bad hlt (by rw [←hc2.charI,←hr2]; simpa using h)] at hk
   exact finParts0 hD hk hkn hkb hknb hkr
  have hp : plainI (charI s i) = true:=by have h : (!r) = false:=h; rw [←hc2.charI,←hr2]; simpa using h
  clear h
  refine ⟨V.at_.inS hD hlt,fun c' hc'=>?_⟩
  obtain rfl : c' = c:=by have:=byteAt hD V.at_.den hc'; rw [this.h,hc2.h]
  clear hc'
  cbv
  refine br hD (fun h=>?_) (fun h=>?_)<;>cbv
  ·have h34 : charI s i = 34:=by rw [←hc2.charI]; have h : (c' == 34) = true:=h; simpa using h
   clear h
   refine ⟨s,i,_,rfl,rfl,by subst hD; exact ⟨V.at_.le,V.at_.I,rfl,V.at_.len⟩,hlt,fun e t b he=>?_⟩
   rw [pAt_quote hlt V.ale hp h34] at hk
   cbv
   refine br hD (fun h=>?_) (fun h=>?_)<;>cbv
   ·have h : (!b) = true:=h
    have hn : qdF plainI (s.drop (i + 1)) = none:=by
     cases hq : qdF plainI (s.drop (i + 1)) with
     | none=>rfl
     | some x =>
      rw [refQuotedF,qRes,hq] at he
      simp only [Prod.mk.injEq] at he
      rw [he.2.2] at h; cases h
    rw [hn] at hk
    exact finParts0 hD hk hkn hkb hknb hkr
   ·have h : (!b) = false:=h
    obtain ⟨x,hx⟩ : ∃ x,qdF plainI (s.drop (i + 1)) = some x:=by
     cases hq : qdF plainI (s.drop (i + 1)) with
     | none =>
      rw [refQuotedF,qRes,hq] at he
      simp only [Prod.mk.injEq] at he
      rw [he.2.2] at h; cases h
     | some x=>exact ⟨x,rfl⟩
    rw [hx] at hk
    simp only at hk
    rw [refQuotedF,qRes,hx] at he
    simp only [Prod.mk.injEq] at he
    have hlen:=qdF_len _ _ x (Nat.le_refl _) hx
    rw [List.length_drop] at hlen
    have he1 : ST.den (.a e) = ((i + 1 + x.1 : Nat) : Int):=he.1
    clear he h
    refine ⟨s.length - (i + 1 + x.1),by have:=V.at_.m; omega,?_⟩
    rw [hJ]
    subst hD
    refine ⟨i + 1 + x.1,a,_,_,_,_,f,out,rfl,rfl,⟨⟨by omega,he1,rfl,V.at_.len⟩,by have:=V.ale; omega,V.A,by have:=V.out; omega,V.s⟩,R,hk⟩
  have h34 : charI s i≠34:=by rw [←hc2.charI]; have h : (c' == 34) = false:=h; simpa using h
  clear h
  refine br hD (fun h=>?_) (fun h=>?_)<;>cbv
  ·have hy : charI s i = y:=by rw [←hc2.charI]; have h : (c' == y) = true:=h; simpa using h
   clear h
   rw [pAt_sep hlt hp h34 hy] at hk
   refine ⟨by subst hD; exact subS_of V.A V.at_.den V.ale (by omega),fun r1 hr1=>?_⟩
   have hr1' : r1 = cut s a i:=sub_of hD V.A V.at_.den hr1
   clear hr1
   cbv
   intro g hg
   have hg0 : g 0 = [.str r1]:=hg.h 0 _ rfl
   clear hg
   cbv
   refine ⟨?_,fun f' n' hf'=>?_⟩
   ·have:=V.out; have:=V.s; have:=R.n; subst hD; exact ⟨rfl,by show (n + 1) * 16≤_; omega,by show n + 1≤_; omega⟩
   have R' : RowS f' n' (out ++ [cut s a i]):=by
    subst hD
    exact R.more (by rw [hg0,hr1']) hf' (by have:=V.out; have:=V.s; omega)
   clear hf' hg0
   cbv
   refine ⟨s.length - (i + 1),(V.at_.step hD hlt).1,?_⟩
   rw [hJ]
   subst hD
   exact ⟨i + 1,i + 1,_,_,_,_,f',_,rfl,rfl,⟨(V.at_.step rfl hlt).2,Nat.le_refl _,(V.at_.step rfl hlt).2.I,by have:=V.out; simp; omega,V.s⟩,R',hk⟩
  ·have hy : charI s i≠y:=by rw [←hc2.charI]; have h : (c' == y) = false:=h; simpa using h
   clear h
   rw [pAt_more hlt V.ale hp h34 hy] at hk
   refine ⟨s.length - (i + 1),(V.at_.step hD hlt).1,?_⟩
   rw [hJ]
   subst hD
   exact ⟨i + 1,a,_,_,_,_,f,out,rfl,rfl,⟨(V.at_.step rfl hlt).2,by have:=V.ale; omega,V.A,by have:=V.out; omega,V.s⟩,R,hk⟩
 ·have hi:=V.at_.eq (of_decide_eq_false (p:=I < (s.length : Int)) h)
  clear h
  rw [pAt_end hi] at hk
  refine ⟨by subst hD; exact subS_of (s:=s) (j:=s.length) (b:=.len s) V.A rfl (by have:=V.ale; omega) (Nat.le_refl _),fun r1 hr1=>?_⟩
  have hr1' : r1 = s.drop a:=by
   have:=sub_of (j:=s.length) (b:=.len s) hD V.A rfl hr1
   rw [this]; exact List.take_of_length_le (by simp)
  clear hr1
  cbv
  intro g hg
  have hg0 : g 0 = [.str r1]:=hg.h 0 _ rfl
  clear hg
  cbv
  refine ⟨?_,fun f' n' hf'=>?_⟩
  ·have:=V.out; have:=V.s; have:=R.n; subst hD; exact ⟨rfl,by show (n + 1) * 16≤_; omega,by show n + 1≤_; omega⟩
  have R' : RowS f' n' (out ++ [s.drop a]):=by
   subst hD
   exact R.more (by rw [hg0,hr1']) hf' (by have:=V.out; have:=V.s; omega)
  clear hf' hg0
  cbv
  refine finParts1 hD hk hkn hkb hknb hkr R' rfl ?_
  show (nl && false) = false
  simp
end Go.Proofs.YtefelnhpfdcleaaGreatDoor
namespace Go.Proofs.YtefelnhpfdcleaaGreatDoor
open Go.Sx
set_option maxRecDepth 10000
set_option maxHeartbeats 2000000
theorem partsM_len (p : Int→Bool) (y : Int) : ∀ (r : List UInt8) (md : Nat) (cur : List UInt8) (l : List (List UInt8)),partsM p y r md cur = some l→l.length≤r.length + 1∧0 < l.length∧∀ x∈l,x.length≤cur.length + r.length
 | [],md,cur,l,h=>by
  simp only [partsM] at h
  split at h
  ·cases h; simp
  ·cases h
 | c :: r,md,cur,l,h=>by
  have push : ∀ md',partsM p y r md' (cur ++ [c]) = some l→l.length≤(c :: r).length + 1∧0 < l.length∧∀ x∈l,x.length≤cur.length + (c :: r).length:=by
   intro md' h
   obtain ⟨h1,h2,h3⟩:=partsM_len p y r md' _ l h
   refine ⟨by simp; omega,h2,fun x hx=>?_⟩
   have:=h3 x hx
   simp at this ⊢; omega
  simp only [partsM] at h
  split at h
  ·cases h
  split at h
  ·split at h
   ·exact push _ h
   ·split at h
    ·obtain ⟨l',h',rfl⟩:=Option.map_eq_some_iff.1 h
     obtain ⟨h1,h2,h3⟩:=partsM_len p y r 0 [] l' h'
     refine ⟨by simp; omega,by simp,fun x hx=>?_⟩
     rcases List.mem_cons.1 hx with rfl | hx
     ·simp
     ·have:=h3 x hx; simp at this ⊢; omega
    ·exact push _ h
  ·split at h
   ·split at h
    ·exact push _ h
    ·split at h
     ·exact push _ h
     ·exact push _ h
   ·exact push _ h
theorem partsF_len {y : Int} {s : List UInt8} {l : List (List UInt8)} (h : partsF y s = some l) : l.length≤s.length + 1∧0 < l.length∧∀ x∈l,x.length≤s.length:=by
 have:=partsM_len _ _ _ _ _ _ h
 simpa using this
theorem dropWhile_len {p : UInt8→Bool} (s : List UInt8) : (s.dropWhile p).length≤s.length:=by
 induction s with
 | nil=>simp
 | cons c r ih =>
  rw [List.dropWhile_cons]
  split
  ·simp; omega
  ·simp
theorem trimF_len (s : List UInt8) : (trimF s).length≤s.length:=by
 unfold trimF trimR trimL
 rw [List.length_reverse]
 refine Nat.le_trans (dropWhile_len _) ?_
 rw [List.length_reverse]
 exact dropWhile_len _
def neB (x : List UInt8) : Bool:=!(x == [])
def keepF (l : List (List UInt8)) : List (List UInt8):=(l.map trimF).filter neB
theorem keepF_cons {l : List (List UInt8)} {i : Nat} (h : i < l.length) : keepF (l.drop i) = (if neB (trimF (l.getD i [])) then [trimF (l.getD i [])] else []) ++ keepF (l.drop (i + 1)):=by
 rw [dropR (d:=[]) h,keepF,List.map_cons,List.filter_cons]
 split<;>rfl
def refElementsF (s : List UInt8) : List (List UInt8)×Int :=
 if 2000 < (s.length : Int) then ([],3) else match partsF 44 s with
  | none=>([],6)
  | some l=>(keepF l,0)
theorem refElementsF_len (s : List UInt8) : (refElementsF s).1.length≤2001∧∀ x∈(refElementsF s).1,x.length≤2000:=by
 unfold refElementsF
 split
 ·simp
 ·rename_i h
  cases hp : partsF 44 s with
  | none=>simp
  | some l =>
   obtain ⟨h1,h2,h3⟩:=partsF_len hp
   have h4 : (keepF l).length≤l.length:=by
    unfold keepF
    refine Nat.le_trans (List.length_filter_le _ _) (by simp)
   refine ⟨by show (keepF l).length≤_; omega,fun x hx=>?_⟩
   have hx : x∈keepF l:=hx
   unfold keepF at hx
   obtain ⟨z,hz,rfl⟩:=List.mem_map.1 (List.mem_filter.1 hx).1
   have:=trimF_len z
   have:=h3 z hz
   omega
def spElems (F : List UInt8→List (List UInt8)×Int) (N : List UInt8→Bool) : FSpec:=fun _ xs ls K=>∃ (s : List UInt8),xs = [.str s]∧ls = []∧s.length≤9223372036854775807∧∀ l e n nb,(l,e) = F s→n = (l.length : Int)→nb = N s→K (.tup [.sl (.a nb) (.a n) 1 (strRow l),.int .i64 (.a e)]) []
theorem finEl {D : Dn} (hD : D = dn) {l l' : List (List UInt8)} {ke kn e' : Int} {knb : Bool} {kr f : Nat→List SV} (hk : (l,ke) = (l',e')) (hkn : kn = (l.length : Int)) (hkr : kr = strRow l)
  {n : Int} (R : RowS f n l') {x : BT} {y z : ST} (hy : y.den = n) (hx : x.den = knb) (hz : z.den = e') : Fin (.tup [.sl (.a (D.b x)) (.a (D.i y)) 1 f,.int .i64 (.a (D.i z))]) (.tup [.sl (.a knb) (.a kn) 1 kr,.int .i64 (.a ke)]) [] []:=by
 subst hD
 simp only [Prod.mk.injEq] at hk
 obtain ⟨rfl,rfl⟩:=hk
 refine finV (.tup (.cons (.sl hx ?_ ?_) (.cons (leInt hz) .nil)))
 ·rw [hkn]; show y.den = _; rw [hy]; exact R.n
 ·intro i hi
  have hi : (i : Int) < y.den:=hi
  rw [R.f i (by have:=R.n; omega),hkr]; rfl
structure ElI (l out : List (List UInt8)) (i : Nat) (I : Int) (nl : Bool) (m : Nat) : Prop where
 at_ : AtR l i I m
 ol : out.length≤i
 nl : nl = out.isEmpty
 ll : l.length≤100001
 el : ∀ x∈l,x.length≤9223372036854775807
def elJ (l : List (List UInt8)) (k : List (List UInt8)) (nb : Bool) (nn : Int) (g : Nat→List SV) (m : Nat) (vs : List (Option SV)) (hp : List Hl) : Prop :=
 ∃ (i : Nat) (I n : Int) (nl : Bool) (f : Nat→List SV) (out : List (List UInt8)),vs = [some (.sl (.a nb) (.a nn) 1 g),some (.gsl (.a nl) (.a n) 1 f 0),some (.int .i64 (.a I))]∧hp = [.tail 9 (.a n) 1]∧
  ElI l out i I nl m∧RowS f n out∧k = out ++ keepF (l.drop i)
theorem refElements_ok : FnOk Tryz.prog gl 103 (spElems refElementsF fun s=>(refElementsF s).1.isEmpty):=by
 refine fnOk (gh:=[(6,[.attach 6 9])]) mixed cxOk (tabCons parts_ok (tabCons refTrim_ok tabNil)) Tryz.func103 (by kernel_rfl) (by kernel_rfl) ?_
 intro xs ls K h
 unfold spElems at h
 obtain ⟨s,rfl,rfl,hl,h⟩:=h
 obtain ⟨k,hk⟩ : ∃ k,k = refElementsF s:=⟨_,rfl⟩
 obtain ⟨kl,ke⟩:=k
 obtain ⟨kn,hkn⟩ : ∃ kn : Int,kn = (kl.length : Int):=⟨_,rfl⟩
 obtain ⟨knb,hknb⟩ : ∃ knb : Bool,knb = kl.isEmpty:=⟨_,rfl⟩
 refine ⟨_,_,h kl ke kn knb hk hkn (by rw [hknb]; show _ = (refElementsF s).1.isEmpty; rw [←hk]),fun D hD=>?_⟩
 clear h
 obtain ⟨kr,hkr⟩ : ∃ kr,kr = strRow kl:=⟨_,rfl⟩
 rw [←hkr]
 rw [refElementsF] at hk
 cbv
 refine br hD (fun h=>?_) (fun h=>?_)<;>cbv
 ·have h : decide (2000 < (s.length : Int)) = true:=h
  rw [if_pos (by simpa using h)] at hk
  exact finEl (f:=fun _=>[]) hD hk hkn hkr RowS.nil rfl (by simp only [Prod.mk.injEq] at hk; rw [hknb,hk.1]; rfl) rfl
 have h : decide (2000 < (s.length : Int)) = false:=h
 have h2 : ¬ (2000 < (s.length : Int)):=by simpa using h
 rw [if_neg h2] at hk
 have hs : s.length≤2000:=by omega
 clear h h2
 refine ⟨s,_,rfl,rfl,by omega,fun k n b nb hp hn hb hnb=>?_⟩
 have hp2 : k = partsF 44 s:=by subst hD; exact hp
 clear hp
 rw [←hp2] at hk
 obtain ⟨g,hg⟩ : ∃ g,g = strRow (k.getD []):=⟨_,rfl⟩
 rw [←hg]
 cbv
 refine br hD (fun h=>?_) (fun h=>?_)<;>cbv
 ·have h : (!b) = true:=h
  have hn0 : k = none:=by
   cases k with
   | none=>rfl
   | some l=>rw [hb] at h; cases h
  rw [hn0] at hk
  exact finEl (f:=fun _=>[]) hD hk hkn hkr RowS.nil rfl (by simp only [Prod.mk.injEq] at hk; rw [hknb,hk.1]; rfl) rfl
 have h : (!b) = false:=h
 obtain ⟨l,rfl⟩ : ∃ l,k = some l:=by
  cases k with
  | none=>rw [hb] at h; cases h
  | some l=>exact ⟨l,rfl⟩
 clear h
 simp only [Option.getD_some] at hg hn
 obtain ⟨h1,h2,h3⟩:=partsF_len hp2.symm
 have RL : RowS g n l:=by rw [hg,hn]; exact RowS.row (by omega)
 simp only [Prod.mk.injEq] at hk
 obtain ⟨hk,hke⟩:=hk
 have hll : l.length≤100001:=by omega
 have hle : ∀ x∈l,x.length≤9223372036854775807:=fun x hx=>by have:=h3 x hx; omega
 clear h1 h2 h3 hg hn hb hnb hp2
 obtain ⟨J,hJ⟩ : ∃ J,J = elJ l kl nb n g:=⟨_,rfl⟩
 refine ⟨[4,6,7],J,⟨rfl,l.length,?_⟩,?_⟩
 ·rw [hJ]
  subst hD
  exact ⟨0,_,_,_,_,[],rfl,rfl,⟨AtR.zero (by omega),by simp,rfl,hll,hle⟩,RowS.nil,by rw [hk]; rfl⟩
 clear hk
 intro m vs hp' hv
 rw [hJ] at hv
 unfold elJ at hv
 obtain ⟨i,I,on,nl,f,out,rfl,rfl,V,R,hk⟩:=hv
 cbv
 refine br hD (fun h=>?_) (fun h=>?_)<;>cbv
 ·have hlt:=V.at_.lt RL.n (of_decide_eq_true (p:=I < n) h)
  clear h
  refine ⟨V.at_.inB hD RL.n hlt,fun j hj=>?_⟩
  obtain rfl:=V.at_.j hD hj
  clear hj
  have e1:=RL.f j hlt
  rw [keepF_cons hlt] at hk
  have hxl:=V.el (l.getD j []) (by rw [List.getD_eq_getElem?_getD,List.getElem?_eq_getElem hlt]; exact List.getElem_mem hlt)
  obtain ⟨x,hx⟩ : ∃ x,x = l.getD j []:=⟨_,rfl⟩
  rw [←hx] at e1 hk hxl
  cbv
  rw [e1]
  cbv
  refine ⟨x,rfl,rfl,hxl,fun t ht=>?_⟩
  rw [←ht] at hk
  cbv
  refine br hD (fun h=>?_) (fun h=>?_)<;>cbv
  ·have hne : neB t = true:=h
   clear h
   rw [if_pos hne] at hk
   refine ⟨V.at_.inB hD RL.n hlt,fun j' hj'=>?_⟩
   obtain rfl:=V.at_.j hD hj'
   clear hj'
   cbv
   rw [e1]
   cbv
   refine ⟨x,rfl,rfl,hxl,fun t' ht'=>?_⟩
   obtain rfl : t' = t:=by rw [ht',ht]
   clear ht'
   cbv
   intro g1 hg1
   have hg0 : g1 0 = [.str t']:=hg1.h 0 _ rfl
   clear hg1
   cbv
   refine ⟨?_,fun f' n' hf'=>?_⟩
   ·have:=V.ol; have:=V.ll; have:=V.at_.le; have:=R.n; subst hD; exact ⟨rfl,by show (on + 1) * 16≤_; omega,by show on + 1≤_; omega⟩
   have R' : RowS f' n' (out ++ [t']):=by
    subst hD
    exact R.more hg0 hf' (by have:=V.ol; have:=V.ll; have:=V.at_.le; omega)
   clear hf' hg0
   cbv
   refine ⟨l.length - (j' + 1),(V.at_.step hD hlt).1,?_⟩
   rw [hJ]
   subst hD
   exact ⟨j' + 1,_,_,_,f',_,rfl,rfl,⟨(V.at_.step rfl hlt).2,by have:=V.ol; simp; omega,by show (nl && false) = _; simp,V.ll,V.el⟩,R',by rw [hk]; simp⟩
  ·have hne : neB t = false:=h
   clear h
   rw [if_neg (by rw [hne]; simp)] at hk
   refine ⟨l.length - (j + 1),(V.at_.step hD hlt).1,?_⟩
   rw [hJ]
   subst hD
   exact ⟨j + 1,_,_,_,f,out,rfl,rfl,⟨(V.at_.step rfl hlt).2,by have:=V.ol; omega,V.nl,V.ll,V.el⟩,R,by rw [hk]; simp⟩
 ·have hi:=V.at_.eq RL.n (of_decide_eq_false (p:=I < n) h)
  clear h
  have hk2 : kl = out:=by rw [hk,hi,List.drop_length]; simp [keepF]
  exact finEl (f:=f) (l':=out) (e':=0) hD (by rw [hk2,hke]) hkn hkr R rfl (by show nl = _; rw [V.nl,hknb,hk2]) rfl
end Go.Proofs.YtefelnhpfdcleaaGreatDoor
namespace Go.Proofs.YtefelnhpfdcleaaGreatDoor
open Go.Sx
set_option maxRecDepth 100000
set_option maxHeartbeats 2000000
theorem kinds_eq : ∀ n : Fin 256,someI (n.1 : Int) = plainI (n.1 : Int)∧(kindI (n.1 : Int) == 3) = letterI (n.1 : Int):=by decide
theorem someI_byte (c : UInt8) : someI (c.toNat : Int) = plainI (c.toNat : Int):=(kinds_eq ⟨c.toNat,c.toNat_lt⟩).1
theorem kind3_byte (c : UInt8) : (kindI (c.toNat : Int) == 3) = letterI (c.toNat : Int):=(kinds_eq ⟨c.toNat,c.toNat_lt⟩).2
theorem token_eq (s : List UInt8) : tokenF s = refTokenF s:=by
 unfold tokenF refTokenF allI
 rw [Bool.and_comm]
 congr 1
 ·rw [Bool.eq_iff_iff]
  simp
  omega
 ·congr 1
  funext c
  exact kind3_byte c
theorem qdF_congr {p q : Int→Bool} (h : ∀ c : UInt8,p (c.toNat : Int) = q (c.toNat : Int)) : ∀ (n : Nat) (r : List UInt8),r.length≤n→qdF p r = qdF q r
 | _,[],_=>rfl
 | 0,c :: r,hl=>by simp at hl
 | n + 1,c :: r,hl=>by
  simp only [List.length_cons] at hl
  rw [qdF_cons,qdF_cons,h c,qdF_congr h n r (by omega)]
  cases r with
  | nil=>rfl
  | cons d r' =>
   simp only
   rw [h d,qdF_congr h n r' (by simp at hl; omega)]
theorem qdF_some (r : List UInt8) : qdF someI r = qdF plainI r:=qdF_congr someI_byte _ r (Nat.le_refl _)
end Go.Proofs.YtefelnhpfdcleaaGreatDoor
namespace Go.Proofs.YtefelnhpfdcleaaGreatDoor
open Go.Sx
set_option maxRecDepth 100000
set_option maxHeartbeats 2000000
structure UqL (s : List UInt8) (i : Nat) (u : List UInt8) : Prop where
 h : qdF plainI (s.drop i) = some (s.length - i,u)
theorem UqL.lt {s u : List UInt8} {i : Nat} (h : UqL s i u) : i < s.length:=by
 have:=qdF_len _ _ _ (Nat.le_refl _) h.h
 rw [List.length_drop] at this
 simp only at this
 omega
theorem UqL.plain {s u : List UInt8} {i : Nat} (h : UqL s i u) : plainI (charI s i) = true:=by
 cases hb : plainI (charI s i) with
 | true=>rfl
 | false=>have:=h.h; rw [qdF_bad h.lt hb] at this; cases this
theorem UqL.esc {s u : List UInt8} {i : Nat} (h : UqL s i u) (h92 : charI s i = 92) : i + 2 < s.length∧∃ u',u = s.getD (i + 1) 0 :: u'∧UqL s (i + 2) u':=by
 have h1:=h.h
 by_cases h2 : i + 1 < s.length∧plainI (charI s (i + 1)) = true
 ·rw [qdF_esc h.lt h.plain h92 h2.1 h2.2] at h1
  obtain ⟨x,hx,hx2⟩:=Option.map_eq_some_iff.1 h1
  simp only [Prod.mk.injEq] at hx2
  have hl:=qdF_len _ _ _ (Nat.le_refl _) hx
  rw [List.length_drop] at hl
  have e : x = (s.length - (i + 2),x.2):=Prod.ext (by simp only; omega) rfl
  exact ⟨by omega,x.2,hx2.2.symm,⟨by rw [hx,←e]⟩⟩
 ·rw [qdF_esc0 h.lt h.plain h92 h2] at h1; cases h1
theorem UqL.more {s u : List UInt8} {i : Nat} (h : UqL s i u) (hi : i + 1 < s.length) (h92 : charI s i≠92) : ∃ u',u = s.getD i 0 :: u'∧UqL s (i + 1) u':=by
 have h1:=h.h
 by_cases h34 : charI s i = 34
 ·rw [qdF_quote h.lt h.plain h34] at h1
  simp only [Option.some.injEq,Prod.mk.injEq] at h1
  omega
 ·rw [qdF_more h.lt h.plain h34 h92] at h1
  obtain ⟨x,hx,hx2⟩:=Option.map_eq_some_iff.1 h1
  simp only [Prod.mk.injEq] at hx2
  have e : x = (s.length - (i + 1),x.2):=Prod.ext (by simp only; omega) rfl
  exact ⟨x.2,hx2.2.symm,⟨by rw [hx,←e]⟩⟩
end Go.Proofs.YtefelnhpfdcleaaGreatDoor
namespace Go.Proofs.YtefelnhpfdcleaaGreatDoor
open Go.Sx
set_option maxRecDepth 10000
set_option maxHeartbeats 2000000
structure QwI (s t : List UInt8) (i : Nat) (I L : Int) (m : Nat) : Prop where
 at_ : At s i I m
 L : L = s.length
 t : t.length≤2 * i + 1
 s : s.length≤500
end Go.Proofs.YtefelnhpfdcleaaGreatDoor
namespace Go.Proofs.YtefelnhpfdcleaaGreatDoor
open Go.Sx
set_option maxRecDepth 10000
set_option maxHeartbeats 2000000
structure UwI (s t u : List UInt8) (i : Nat) (I : Int) (m : Nat) : Prop where
 at_ : At s i I m
 u : UqL s i u
 t : t.length≤i
 s : s.length≤100000
end Go.Proofs.YtefelnhpfdcleaaGreatDoor
namespace Go.Proofs.YtefelnhpfdcleaaGreatDoor
open Go.Sx
set_option maxRecDepth 10000
set_option maxHeartbeats 2000000
structure IxS (l : List (List UInt8)) (i : Nat) (I L : Int) (m : Nat) : Prop where
 at_ : AtR l i I m
 L : L = l.length
end Go.Proofs.YtefelnhpfdcleaaGreatDoor
namespace Go.Proofs.YtefelnhpfdcleaaGreatDoor
open Go Go.Shelf Go.RowKit Go.Sort
set_option maxRecDepth 100000
set_option maxHeartbeats 4000000
def sh_lays156_ren : Go.Shelf.Ren:=⟨fun | 156=>40 | 165=>79 | 166=>80 | 169=>81 | 240=>108 | 241=>109 | 276=>136 | 277=>137 | n=>n,fun | 31=>61 | 9=>9 | 3=>3 | 4=>4 | 0=>0 | 20=>20 | 72=>104 | 76=>108 | 70=>102 | 37=>36 | 75=>107 | 127=>124 | 164=>141 | 5=>5 | 80=>110 | n=>n,fun | n=>n⟩
theorem sh_lays156 : Go.Proofs.Lays.n156 Tryz.prog sh_lays156_ren:={
 mixed:=by kernel_rfl
 f156:=Tryz.func40.trans (congrArg some (by kernel_rfl))
 f165:=Tryz.func79.trans (congrArg some (by kernel_rfl))
 f166:=Tryz.func80.trans (congrArg some (by kernel_rfl))
 f169:=Tryz.func81.trans (congrArg some (by kernel_rfl))
 f240:=Tryz.func108.trans (congrArg some (by kernel_rfl))
 f241:=Tryz.func109.trans (congrArg some (by kernel_rfl))
 f276:=Tryz.func136.trans (congrArg some (by kernel_rfl))
 f277:=Tryz.func137.trans (congrArg some (by kernel_rfl))
 t0:=Tryz.underlying0
 a0:=Tryz.isAgg0
 z0:=Tryz.sizeOf0
 v0:=Tryz.zeroValue0
 t3:=Tryz.underlying3
 a3:=Tryz.isAgg3
 z3:=Tryz.sizeOf3
 v3:=Tryz.zeroValue3
 t4:=Tryz.underlying4
 a4:=Tryz.isAgg4
 z4:=Tryz.sizeOf4
 v4:=Tryz.zeroValue4
 t9:=Tryz.underlying9
 a9:=Tryz.isAgg9
 z9:=Tryz.sizeOf9
 v9:=Tryz.zeroValue9
 t20:=Tryz.underlying20
 a20:=Tryz.isAgg20
 z20:=Tryz.sizeOf20
 v20:=Tryz.zeroValue20
 t31:=Tryz.underlying61
 a31:=Tryz.isAgg61
 z31:=Tryz.sizeOf61
 v31:=Tryz.zeroValue61
 t37:=Tryz.underlying36
 a37:=Tryz.isAgg36
 z37:=Tryz.sizeOf36
 v37:=Tryz.zeroValue36
 t70:=Tryz.underlying102
 a70:=Tryz.isAgg102
 z70:=Tryz.sizeOf102
 v70:=Tryz.zeroValue102
 t72:=Tryz.underlying104
 a72:=Tryz.isAgg104
 z72:=Tryz.sizeOf104
 v72:=Tryz.zeroValue104
 t75:=Tryz.underlying107
 a75:=Tryz.isAgg107
 z75:=Tryz.sizeOf107
 v75:=Tryz.zeroValue107
 t76:=Tryz.underlying108
 a76:=Tryz.isAgg108
 z76:=Tryz.sizeOf108
 v76:=Tryz.zeroValue108
 t127:=Tryz.underlying124
 a127:=Tryz.isAgg124
 z127:=Tryz.sizeOf124
 v127:=Tryz.zeroValue124
 t164:=Tryz.underlying141
 a164:=Tryz.isAgg141
 z164:=Tryz.sizeOf141
 v164:=Tryz.zeroValue141 }
theorem sh_Builder_Extra_156 : Builder.Extra Tryz.prog sh_lays156_ren:={
 sizeBuilder:=by kernel_rfl
 liesBuilder:=by kernel_rfl
 t5:=Tryz.underlying5
 a5:=Tryz.isAgg5
 z5:=Tryz.sizeOf5
 v5:=Tryz.zeroValue5
 infoByte:=by kernel_rfl
 cellsByte:=by kernel_rfl
 sizeByte:=by kernel_rfl
 neB5:=by decide }
theorem sh_strings_Join_none (a : Option Addr) (c : Nat) (sep : ByteArray) (w : World) :
  Calls Tryz.prog 40 #[.slice a 0 c,.string sep] w fun e w'=>e = .returned (.string ⟨#[]⟩)∧w' = w:=Any.strings_Join_none sh_lays156 sh_Builder_Extra_156 a c sep w
theorem sh_strings_Join (bk o c : Nat) (xs : List ByteArray) (sep : ByteArray) (w : World) (hcells : ∀ (j : Nat) x,xs[j]? = some x→w.cell? ⟨bk,o + j,none⟩ = some (.string x)) (hbk : bk < w.heap.size) (hN : xs.length≤140737488355328) (hcap : xs.length≤c) (hlen : (Lib.join (xs.map (·.data.toList)) sep.data.toList).length≤140737488355328) :
  Calls Tryz.prog 40 #[.slice (some ⟨bk,o,none⟩) xs.length c,.string sep] w fun e w'=>e = .returned (.string ⟨(Lib.join (xs.map (·.data.toList)) sep.data.toList).toArray⟩)∧Below w.heap.size w w':=Any.strings_Join sh_lays156 sh_Builder_Extra_156 bk o c xs sep w hcells hbk hN hcap hlen
def sh_lays160_ren : Go.Shelf.Ren:=⟨fun | 160=>94 | 232=>119 | 231=>118 | 227=>120 | 234=>122 | 233=>121 | 236=>124 | 235=>123 | 228=>143 | 271=>146 | 151=>145 | 197=>144 | 120=>165 | 152=>164 | 260=>163 | 137=>105 | 119=>179 | 224=>134 | 225=>133 | 217=>132 | 266=>154 | n=>n,fun | 9=>9 | 4=>4 | 3=>3 | 5=>5 | 117=>131 | 116=>130 | 0=>0 | 124=>134 | 21=>21 | 105=>147 | 46=>101 | 119=>93 | 139=>182 | 138=>181 | n=>n,fun | 3=>2 | 4=>3 | n=>n⟩
theorem sh_lays160 : Go.Proofs.Lays.n160 Tryz.prog sh_lays160_ren:={
 mixed:=by kernel_rfl
 f119:=Tryz.func179.trans (congrArg some (by kernel_rfl))
 f120:=Tryz.func165.trans (congrArg some (by kernel_rfl))
 f137:=Tryz.func105.trans (congrArg some (by kernel_rfl))
 f151:=Tryz.func145.trans (congrArg some (by kernel_rfl))
 f152:=Tryz.func164.trans (congrArg some (by kernel_rfl))
 f160:=Tryz.func94.trans (congrArg some (by kernel_rfl))
 f197:=Tryz.func144.trans (congrArg some (by kernel_rfl))
 f217:=Tryz.func132.trans (congrArg some (by kernel_rfl))
 f224:=Tryz.func134.trans (congrArg some (by kernel_rfl))
 f225:=Tryz.func133.trans (congrArg some (by kernel_rfl))
 f227:=Tryz.func120.trans (congrArg some (by kernel_rfl))
 f228:=Tryz.func143.trans (congrArg some (by kernel_rfl))
 f231:=Tryz.func118.trans (congrArg some (by kernel_rfl))
 f232:=Tryz.func119.trans (congrArg some (by kernel_rfl))
 f233:=Tryz.func121.trans (congrArg some (by kernel_rfl))
 f234:=Tryz.func122.trans (congrArg some (by kernel_rfl))
 f235:=Tryz.func123.trans (congrArg some (by kernel_rfl))
 f236:=Tryz.func124.trans (congrArg some (by kernel_rfl))
 f260:=Tryz.func163.trans (congrArg some (by kernel_rfl))
 f266:=Tryz.func154.trans (congrArg some (by kernel_rfl))
 f271:=Tryz.func146.trans (congrArg some (by kernel_rfl))
 t0:=Tryz.underlying0
 a0:=Tryz.isAgg0
 z0:=Tryz.sizeOf0
 v0:=Tryz.zeroValue0
 t3:=Tryz.underlying3
 a3:=Tryz.isAgg3
 z3:=Tryz.sizeOf3
 v3:=Tryz.zeroValue3
 t4:=Tryz.underlying4
 a4:=Tryz.isAgg4
 z4:=Tryz.sizeOf4
 v4:=Tryz.zeroValue4
 t5:=Tryz.underlying5
 a5:=Tryz.isAgg5
 z5:=Tryz.sizeOf5
 v5:=Tryz.zeroValue5
 t9:=Tryz.underlying9
 a9:=Tryz.isAgg9
 z9:=Tryz.sizeOf9
 v9:=Tryz.zeroValue9
 t21:=Tryz.underlying21
 a21:=Tryz.isAgg21
 z21:=Tryz.sizeOf21
 v21:=Tryz.zeroValue21
 t46:=Tryz.underlying101
 a46:=Tryz.isAgg101
 z46:=Tryz.sizeOf101
 v46:=Tryz.zeroValue101
 t105:=Tryz.underlying147
 a105:=Tryz.isAgg147
 z105:=Tryz.sizeOf147
 v105:=Tryz.zeroValue147
 t116:=Tryz.underlying130
 a116:=Tryz.isAgg130
 z116:=Tryz.sizeOf130
 t117:=Tryz.underlying131
 a117:=Tryz.isAgg131
 z117:=Tryz.sizeOf131
 v117:=Tryz.zeroValue131
 t119:=Tryz.underlying93
 a119:=Tryz.isAgg93
 z119:=Tryz.sizeOf93
 t124:=Tryz.underlying134
 a124:=Tryz.isAgg134
 z124:=Tryz.sizeOf134
 v124:=Tryz.zeroValue134
 t138:=Tryz.underlying181
 a138:=Tryz.isAgg181
 z138:=Tryz.sizeOf181
 v138:=Tryz.zeroValue181
 t139:=Tryz.underlying182
 a139:=Tryz.isAgg182
 z139:=Tryz.sizeOf182
 v139:=Tryz.zeroValue182
 g3:=by kernel_rfl
 g4:=by kernel_rfl }
def sh_lays137_ren : Go.Shelf.Ren:=⟨fun | 137=>105 | 217=>132 | 266=>154 | n=>n,fun | 9=>9 | 5=>5 | 3=>3 | n=>n,fun | n=>n⟩
theorem sh_lays137 : Go.Proofs.Lays.n137 Tryz.prog sh_lays137_ren:={
 mixed:=by kernel_rfl
 f137:=Tryz.func105.trans (congrArg some (by kernel_rfl))
 f217:=Tryz.func132.trans (congrArg some (by kernel_rfl))
 f266:=Tryz.func154.trans (congrArg some (by kernel_rfl))
 t3:=Tryz.underlying3
 a3:=Tryz.isAgg3
 z3:=Tryz.sizeOf3
 v3:=Tryz.zeroValue3
 t5:=Tryz.underlying5
 a5:=Tryz.isAgg5
 z5:=Tryz.sizeOf5
 v5:=Tryz.zeroValue5
 t9:=Tryz.underlying9
 a9:=Tryz.isAgg9
 z9:=Tryz.sizeOf9
 v9:=Tryz.zeroValue9 }
theorem sh_strings_IndexByte (s : ByteArray) (c : Int) (w : World) :
  Calls Tryz.prog 105 #[.string s,.int .u8 c] w fun e w'=>e = .returned (.int .i64 (Lib.indexByte s.data.toList c.toNat.toUInt8))∧w' = w:=Any.strings_IndexByte sh_lays137 s c w
def sh_lays104_ren : Go.Shelf.Ren:=⟨fun | 104=>90 | 211=>113 | 207=>141 | n=>n,fun | 9=>9 | 4=>4 | 24=>114 | 3=>3 | n=>n,fun | n=>n⟩
theorem sh_lays104 : Go.Proofs.Lays.n104 Tryz.prog sh_lays104_ren:={
 mixed:=by kernel_rfl
 f104:=Tryz.func90.trans (congrArg some (by kernel_rfl))
 f207:=Tryz.func141.trans (congrArg some (by kernel_rfl))
 f211:=Tryz.func113.trans (congrArg some (by kernel_rfl))
 t3:=Tryz.underlying3
 a3:=Tryz.isAgg3
 z3:=Tryz.sizeOf3
 v3:=Tryz.zeroValue3
 t4:=Tryz.underlying4
 a4:=Tryz.isAgg4
 z4:=Tryz.sizeOf4
 v4:=Tryz.zeroValue4
 t9:=Tryz.underlying9
 a9:=Tryz.isAgg9
 z9:=Tryz.sizeOf9
 v9:=Tryz.zeroValue9
 t24:=Tryz.underlying114
 a24:=Tryz.isAgg114
 z24:=Tryz.sizeOf114
 v24:=Tryz.zeroValue114 }
theorem sh_strings_CutSuffix (s p : ByteArray) (w : World) (hs : s.size≤9223372036854775807) :
  Calls Tryz.prog 90 #[.string s,.string p] w fun e w'=>e = .returned (.tuple #[.string ⟨(Lib.trimSuffix s.data.toList p.data.toList).toArray⟩,.bool (Lib.hasSuffix s.data.toList p.data.toList)])∧w' = w:=Any.strings_CutSuffix sh_lays104 s p w hs
def sh_laysM171_ren : Go.Shelf.Ren:=⟨fun | 171=>140 | 243=>161 | 246=>160 | 283=>175 | 284=>176 | 285=>177 | 286=>178 | 129=>189 | 317=>188 | 318=>190 | 319=>191 | 320=>192 | 337=>196 | 338=>197 | n=>n,fun | 3=>3 | 9=>9 | 2=>2 | 4=>4 | 171=>175 | 0=>0 | 53=>165 | 37=>36 | 5=>5 | 173=>178 | 212=>190 | 51=>153 | 20=>20 | 213=>191 | 46=>101 | 232=>200 | 233=>201 | n=>n,fun | 17=>6 | 18=>7 | 19=>8 | n=>n⟩
theorem sh_laysM171 : Go.Proofs.LaysM.n171 Tryz.prog sh_laysM171_ren:={
 mixed:=by kernel_rfl
 f129:=Tryz.func189.trans (congrArg some (by kernel_rfl))
 f171:=Tryz.func140.trans (congrArg some (by kernel_rfl))
 f243:=Tryz.func161.trans (congrArg some (by kernel_rfl))
 f246:=Tryz.func160.trans (congrArg some (by kernel_rfl))
 f283:=Tryz.func175.trans (congrArg some (by kernel_rfl))
 f284:=Tryz.func176.trans (congrArg some (by kernel_rfl))
 f285:=Tryz.func177.trans (congrArg some (by kernel_rfl))
 f286:=Tryz.func178.trans (congrArg some (by kernel_rfl))
 f317:=Tryz.func188.trans (congrArg some (by kernel_rfl))
 f318:=Tryz.func190.trans (congrArg some (by kernel_rfl))
 f319:=Tryz.func191.trans (congrArg some (by kernel_rfl))
 f320:=Tryz.func192.trans (congrArg some (by kernel_rfl))
 f337:=Tryz.func196.trans (congrArg some (by kernel_rfl))
 f338:=Tryz.func197.trans (congrArg some (by kernel_rfl))
 t0:=Tryz.underlying0
 a0:=Tryz.isAgg0
 z0:=Tryz.sizeOf0
 v0:=Tryz.zeroValue0
 t2:=Tryz.underlying2
 a2:=Tryz.isAgg2
 z2:=Tryz.sizeOf2
 v2:=Tryz.zeroValue2
 t3:=Tryz.underlying3
 a3:=Tryz.isAgg3
 z3:=Tryz.sizeOf3
 v3:=Tryz.zeroValue3
 t4:=Tryz.underlying4
 a4:=Tryz.isAgg4
 z4:=Tryz.sizeOf4
 v4:=Tryz.zeroValue4
 t5:=Tryz.underlying5
 a5:=Tryz.isAgg5
 z5:=Tryz.sizeOf5
 v5:=Tryz.zeroValue5
 t9:=Tryz.underlying9
 a9:=Tryz.isAgg9
 z9:=Tryz.sizeOf9
 v9:=Tryz.zeroValue9
 t20:=Tryz.underlying20
 a20:=Tryz.isAgg20
 z20:=Tryz.sizeOf20
 v20:=Tryz.zeroValue20
 t37:=Tryz.underlying36
 a37:=Tryz.isAgg36
 z37:=Tryz.sizeOf36
 v37:=Tryz.zeroValue36
 t46:=Tryz.underlying101
 a46:=Tryz.isAgg101
 z46:=Tryz.sizeOf101
 v46:=Tryz.zeroValue101
 t51:=Tryz.underlying153
 a51:=Tryz.isAgg153
 z51:=Tryz.sizeOf153
 v51:=Tryz.zeroValue153
 t53:=Tryz.underlying165
 a53:=Tryz.isAgg165
 z53:=Tryz.sizeOf165
 v53:=Tryz.zeroValue165
 t171:=Tryz.underlying175
 a171:=Tryz.isAgg175
 z171:=Tryz.sizeOf175
 v171:=Tryz.zeroValue175
 t173:=Tryz.underlying178
 a173:=Tryz.isAgg178
 z173:=Tryz.sizeOf178
 v173:=Tryz.zeroValue178
 t212:=Tryz.underlying190
 a212:=Tryz.isAgg190
 z212:=Tryz.sizeOf190
 v212:=Tryz.zeroValue190
 t213:=Tryz.underlying191
 a213:=Tryz.isAgg191
 z213:=Tryz.sizeOf191
 t232:=Tryz.underlying200
 a232:=Tryz.isAgg200
 z232:=Tryz.sizeOf200
 v232:=Tryz.zeroValue200
 t233:=Tryz.underlying201
 a233:=Tryz.isAgg201
 z233:=Tryz.sizeOf201
 v233:=Tryz.zeroValue201
 g17:=by kernel_rfl
 g18:=by kernel_rfl
 g19:=by kernel_rfl
 i0:=by kernel_rfl
 i2:=by kernel_rfl
 i3:=by kernel_rfl
 i4:=by kernel_rfl
 i5:=by kernel_rfl
 i9:=by kernel_rfl
 i20:=by kernel_rfl
 i37:=by kernel_rfl
 i46:=by kernel_rfl
 i51:=by kernel_rfl
 i53:=by kernel_rfl
 i171:=by kernel_rfl
 i173:=by kernel_rfl
 i212:=by kernel_rfl
 i232:=by kernel_rfl
 i233:=by kernel_rfl
 m17:=by kernel_rfl
 m18:=by kernel_rfl
 m19:=by kernel_rfl }
theorem sh_strconv_Itoa (n : Int) (h0 : -9223372036854775808≤n) (h1 : n≤9223372036854775807) (w : World) (htab : Lib.TabIs Tryz.prog w "internal/strconv.uint64pow10" .u64 Lib.pow10Tab) :
  Calls Tryz.prog 140 #[.int .i64 n] w fun e w'=>e = .returned (.string ⟨(Lib.itoa n).toArray⟩)∧∃ k os,w' = grow (w.drewN k) os:=Any.strconv_Itoa sh_laysM171 n h0 h1 w htab
def sh_laysM173_ren : Go.Shelf.Ren:=⟨fun | 173=>139 | 246=>160 | 283=>175 | 284=>176 | 285=>177 | 286=>178 | 129=>189 | 317=>188 | 318=>190 | 319=>191 | 320=>192 | 337=>196 | 338=>197 | n=>n,fun | 2=>2 | 3=>3 | 9=>9 | 4=>4 | 171=>175 | 0=>0 | 53=>165 | 37=>36 | 5=>5 | 173=>178 | 212=>190 | 51=>153 | 20=>20 | 213=>191 | 46=>101 | 232=>200 | 233=>201 | n=>n,fun | 17=>6 | 18=>7 | 19=>8 | n=>n⟩
theorem sh_laysM173 : Go.Proofs.LaysM.n173 Tryz.prog sh_laysM173_ren:={
 mixed:=by kernel_rfl
 f129:=Tryz.func189.trans (congrArg some (by kernel_rfl))
 f173:=Tryz.func139.trans (congrArg some (by kernel_rfl))
 f246:=Tryz.func160.trans (congrArg some (by kernel_rfl))
 f283:=Tryz.func175.trans (congrArg some (by kernel_rfl))
 f284:=Tryz.func176.trans (congrArg some (by kernel_rfl))
 f285:=Tryz.func177.trans (congrArg some (by kernel_rfl))
 f286:=Tryz.func178.trans (congrArg some (by kernel_rfl))
 f317:=Tryz.func188.trans (congrArg some (by kernel_rfl))
 f318:=Tryz.func190.trans (congrArg some (by kernel_rfl))
 f319:=Tryz.func191.trans (congrArg some (by kernel_rfl))
 f320:=Tryz.func192.trans (congrArg some (by kernel_rfl))
 f337:=Tryz.func196.trans (congrArg some (by kernel_rfl))
 f338:=Tryz.func197.trans (congrArg some (by kernel_rfl))
 t0:=Tryz.underlying0
 a0:=Tryz.isAgg0
 z0:=Tryz.sizeOf0
 v0:=Tryz.zeroValue0
 t2:=Tryz.underlying2
 a2:=Tryz.isAgg2
 z2:=Tryz.sizeOf2
 v2:=Tryz.zeroValue2
 t3:=Tryz.underlying3
 a3:=Tryz.isAgg3
 z3:=Tryz.sizeOf3
 v3:=Tryz.zeroValue3
 t4:=Tryz.underlying4
 a4:=Tryz.isAgg4
 z4:=Tryz.sizeOf4
 v4:=Tryz.zeroValue4
 t5:=Tryz.underlying5
 a5:=Tryz.isAgg5
 z5:=Tryz.sizeOf5
 v5:=Tryz.zeroValue5
 t9:=Tryz.underlying9
 a9:=Tryz.isAgg9
 z9:=Tryz.sizeOf9
 v9:=Tryz.zeroValue9
 t20:=Tryz.underlying20
 a20:=Tryz.isAgg20
 z20:=Tryz.sizeOf20
 v20:=Tryz.zeroValue20
 t37:=Tryz.underlying36
 a37:=Tryz.isAgg36
 z37:=Tryz.sizeOf36
 v37:=Tryz.zeroValue36
 t46:=Tryz.underlying101
 a46:=Tryz.isAgg101
 z46:=Tryz.sizeOf101
 v46:=Tryz.zeroValue101
 t51:=Tryz.underlying153
 a51:=Tryz.isAgg153
 z51:=Tryz.sizeOf153
 v51:=Tryz.zeroValue153
 t53:=Tryz.underlying165
 a53:=Tryz.isAgg165
 z53:=Tryz.sizeOf165
 v53:=Tryz.zeroValue165
 t171:=Tryz.underlying175
 a171:=Tryz.isAgg175
 z171:=Tryz.sizeOf175
 v171:=Tryz.zeroValue175
 t173:=Tryz.underlying178
 a173:=Tryz.isAgg178
 z173:=Tryz.sizeOf178
 v173:=Tryz.zeroValue178
 t212:=Tryz.underlying190
 a212:=Tryz.isAgg190
 z212:=Tryz.sizeOf190
 v212:=Tryz.zeroValue190
 t213:=Tryz.underlying191
 a213:=Tryz.isAgg191
 z213:=Tryz.sizeOf191
 t232:=Tryz.underlying200
 a232:=Tryz.isAgg200
 z232:=Tryz.sizeOf200
 v232:=Tryz.zeroValue200
 t233:=Tryz.underlying201
 a233:=Tryz.isAgg201
 z233:=Tryz.sizeOf201
 v233:=Tryz.zeroValue201
 g17:=by kernel_rfl
 g18:=by kernel_rfl
 g19:=by kernel_rfl
 i0:=by kernel_rfl
 i2:=by kernel_rfl
 i3:=by kernel_rfl
 i4:=by kernel_rfl
 i5:=by kernel_rfl
 i9:=by kernel_rfl
 i20:=by kernel_rfl
 i37:=by kernel_rfl
 i46:=by kernel_rfl
 i51:=by kernel_rfl
 i53:=by kernel_rfl
 i171:=by kernel_rfl
 i173:=by kernel_rfl
 i212:=by kernel_rfl
 i232:=by kernel_rfl
 i233:=by kernel_rfl
 m17:=by kernel_rfl
 m18:=by kernel_rfl
 m19:=by kernel_rfl }
theorem sh_strconv_FormatInt_10 (n : Int) (h0 : -9223372036854775808≤n) (h1 : n≤9223372036854775807) (w : World) (htab : Lib.TabIs Tryz.prog w "internal/strconv.uint64pow10" .u64 Lib.pow10Tab) :
  Calls Tryz.prog 139 #[.int .i64 n,.int .i64 10] w fun e w'=>e = .returned (.string ⟨(Lib.itoa n).toArray⟩)∧∃ k os,w' = grow (w.drewN k) os:=Any.strconv_FormatInt_10 sh_laysM173 n h0 h1 w htab
def sh_lays219_ren : Go.Shelf.Ren:=⟨fun | 219=>107 | 217=>132 | 225=>133 | 224=>134 | 267=>135 | 266=>154 | 314=>155 | n=>n,fun | 9=>9 | 3=>3 | 4=>4 | 5=>5 | 46=>101 | 146=>154 | 51=>153 | n=>n,fun | 1=>1 | n=>n⟩
theorem sh_lays219 : Go.Proofs.Lays.n219 Tryz.prog sh_lays219_ren:={
 mixed:=by kernel_rfl
 f217:=Tryz.func132.trans (congrArg some (by kernel_rfl))
 f219:=Tryz.func107.trans (congrArg some (by kernel_rfl))
 f224:=Tryz.func134.trans (congrArg some (by kernel_rfl))
 f225:=Tryz.func133.trans (congrArg some (by kernel_rfl))
 f266:=Tryz.func154.trans (congrArg some (by kernel_rfl))
 f267:=Tryz.func135.trans (congrArg some (by kernel_rfl))
 f314:=Tryz.func155.trans (congrArg some (by kernel_rfl))
 t3:=Tryz.underlying3
 a3:=Tryz.isAgg3
 z3:=Tryz.sizeOf3
 v3:=Tryz.zeroValue3
 t4:=Tryz.underlying4
 a4:=Tryz.isAgg4
 z4:=Tryz.sizeOf4
 v4:=Tryz.zeroValue4
 t5:=Tryz.underlying5
 a5:=Tryz.isAgg5
 z5:=Tryz.sizeOf5
 v5:=Tryz.zeroValue5
 t9:=Tryz.underlying9
 a9:=Tryz.isAgg9
 z9:=Tryz.sizeOf9
 v9:=Tryz.zeroValue9
 t46:=Tryz.underlying101
 a46:=Tryz.isAgg101
 z46:=Tryz.sizeOf101
 v46:=Tryz.zeroValue101
 t51:=Tryz.underlying153
 a51:=Tryz.isAgg153
 z51:=Tryz.sizeOf153
 v51:=Tryz.zeroValue153
 t146:=Tryz.underlying154
 a146:=Tryz.isAgg154
 z146:=Tryz.sizeOf154
 v146:=Tryz.zeroValue154
 g1:=by kernel_rfl }
theorem sh_stringslite_Index_one (s : ByteArray) (c : UInt8) (w : World) :
  Calls Tryz.prog 107 #[.string s,.string ⟨#[c]⟩] w fun e w'=>e = .returned (.int .i64 (Lib.indexByte s.data.toList c))∧w' = w:=Any.stringslite_Index_one sh_lays219 s c w
def sh_lays144_ren : Go.Shelf.Ren:=⟨fun | 144=>91 | 143=>114 | 219=>107 | 217=>132 | 225=>133 | 224=>134 | 267=>135 | 266=>154 | 314=>155 | n=>n,fun | 9=>9 | 4=>4 | 3=>3 | 5=>5 | 46=>101 | 146=>154 | 51=>153 | n=>n,fun | 1=>1 | n=>n⟩
theorem sh_lays144 : Go.Proofs.Lays.n144 Tryz.prog sh_lays144_ren:={
 mixed:=by kernel_rfl
 f143:=Tryz.func114.trans (congrArg some (by kernel_rfl))
 f144:=Tryz.func91.trans (congrArg some (by kernel_rfl))
 f217:=Tryz.func132.trans (congrArg some (by kernel_rfl))
 f219:=Tryz.func107.trans (congrArg some (by kernel_rfl))
 f224:=Tryz.func134.trans (congrArg some (by kernel_rfl))
 f225:=Tryz.func133.trans (congrArg some (by kernel_rfl))
 f266:=Tryz.func154.trans (congrArg some (by kernel_rfl))
 f267:=Tryz.func135.trans (congrArg some (by kernel_rfl))
 f314:=Tryz.func155.trans (congrArg some (by kernel_rfl))
 t3:=Tryz.underlying3
 a3:=Tryz.isAgg3
 z3:=Tryz.sizeOf3
 v3:=Tryz.zeroValue3
 t4:=Tryz.underlying4
 a4:=Tryz.isAgg4
 z4:=Tryz.sizeOf4
 v4:=Tryz.zeroValue4
 t5:=Tryz.underlying5
 a5:=Tryz.isAgg5
 z5:=Tryz.sizeOf5
 v5:=Tryz.zeroValue5
 t9:=Tryz.underlying9
 a9:=Tryz.isAgg9
 z9:=Tryz.sizeOf9
 v9:=Tryz.zeroValue9
 t46:=Tryz.underlying101
 a46:=Tryz.isAgg101
 z46:=Tryz.sizeOf101
 v46:=Tryz.zeroValue101
 t51:=Tryz.underlying153
 a51:=Tryz.isAgg153
 z51:=Tryz.sizeOf153
 v51:=Tryz.zeroValue153
 t146:=Tryz.underlying154
 a146:=Tryz.isAgg154
 z146:=Tryz.sizeOf154
 v146:=Tryz.zeroValue154
 g1:=by kernel_rfl }
theorem sh_strings_Contains_one (s : ByteArray) (c : UInt8) (w : World) :
  Calls Tryz.prog 91 #[.string s,.string ⟨#[c]⟩] w fun e w'=>e = .returned (.bool (decide (0≤Lib.indexByte s.data.toList c)))∧w' = w:=Any.strings_Contains_one sh_lays144 s c w
def sh_lays99_ren : Go.Shelf.Ren:=⟨fun | 99=>71 | 206=>104 | n=>n,fun | 9=>9 | 4=>4 | 3=>3 | n=>n,fun | n=>n⟩
theorem sh_lays99 : Go.Proofs.Lays.n99 Tryz.prog sh_lays99_ren:={
 mixed:=by kernel_rfl
 f99:=Tryz.func71.trans (congrArg some (by kernel_rfl))
 f206:=Tryz.func104.trans (congrArg some (by kernel_rfl))
 t3:=Tryz.underlying3
 a3:=Tryz.isAgg3
 z3:=Tryz.sizeOf3
 v3:=Tryz.zeroValue3
 t4:=Tryz.underlying4
 a4:=Tryz.isAgg4
 z4:=Tryz.sizeOf4
 v4:=Tryz.zeroValue4
 t9:=Tryz.underlying9
 a9:=Tryz.isAgg9
 z9:=Tryz.sizeOf9
 v9:=Tryz.zeroValue9 }
theorem sh_strings_HasPrefix (s p : ByteArray) (w : World) :
  Calls Tryz.prog 71 #[.string s,.string p] w fun e w'=>e = .returned (.bool (Lib.hasPrefix s.data.toList p.data.toList))∧w' = w:=Any.strings_HasPrefix sh_lays99 s p w
def sh_laysSlH10_f186_ren : Go.Shelf.Ren:=⟨fun | 10=>186 | 6=>195 | n=>n,fun | 22=>61 | 23=>9 | 25=>28 | 3=>3 | 4=>4 | 0=>0 | n=>n,fun | n=>n⟩
theorem sh_laysSlH10_f186 : Go.Proofs.SlLaysH.n10 Tryz.prog sh_laysSlH10_f186_ren:={
 mixed:=by kernel_rfl
 f6:=⟨Tryz.f195.name,by decide,Tryz.func195.trans (congrArg some (by kernel_rfl))⟩
 f10:=⟨Tryz.f186.name,by decide,Tryz.func186.trans (congrArg some (by kernel_rfl))⟩
 t0:=Tryz.underlying0
 a0:=Tryz.isAgg0
 z0:=Tryz.sizeOf0
 v0:=Tryz.zeroValue0
 t3:=Tryz.underlying3
 a3:=Tryz.isAgg3
 z3:=Tryz.sizeOf3
 v3:=Tryz.zeroValue3
 t4:=Tryz.underlying4
 a4:=Tryz.isAgg4
 z4:=Tryz.sizeOf4
 v4:=Tryz.zeroValue4
 t22:=Tryz.underlying61
 a22:=Tryz.isAgg61
 z22:=Tryz.sizeOf61
 v22:=Tryz.zeroValue61
 a23:=Tryz.isAgg9
 z23:=Tryz.sizeOf9
 t25:=Tryz.underlying28
 a25:=Tryz.isAgg28
 z25:=Tryz.sizeOf28
 v25:=Tryz.zeroValue28 }
theorem sh_slices_DeleteFunc {α : Type} [Inhabited α] (enc : α→Value) (hO : OneCell enc) (p : α→Bool) (g : Nat) (lb : Array Value) (eg : ∀ args w,(callFunc g args).run Tryz.prog w = .ok (.enter g args) w) (zr : α) (v23 : ∀ w,(zeroValue 9).run Tryz.prog w = .ok (enc zr) w) (blk off cap : Nat) (d : Array α) (w : World) (hp : PredAt Tryz.prog g lb enc p w) (hpo : PredOver Tryz.prog g lb enc p blk off d.size w) (hH : Holds enc w blk off d) (hsz : d.size≤9223372036854775807) (hcap : d.size≤cap) :
  Calls Tryz.prog 186 #[.slice (some ⟨blk,off,none⟩) d.size cap,.func (.func g) #[] lb] w fun e w'=>e = .returned (.slice (some ⟨blk,off,none⟩) (d.toList.filter fun x=>!p x).length cap)∧∃ q,w' = putRow enc (Sort.ahead w q) blk off ((d.toList.filter fun x=>!p x) ++ List.replicate (d.size - (d.toList.filter fun x=>!p x).length) zr).toArray:=AnyE.slices_DeleteFunc sh_laysSlH10_f186 enc hO p g lb eg zr v23 blk off cap d w hp hpo hH hsz hcap
def sh_lays187_ren : Go.Shelf.Ren:=⟨fun | 187=>92 | 255=>115 | n=>n,fun | 37=>36 | 5=>5 | 3=>3 | n=>n,fun | n=>n⟩
theorem sh_lays187 : Go.Proofs.Lays.n187 Tryz.prog sh_lays187_ren:={
 mixed:=by kernel_rfl
 f187:=Tryz.func92.trans (congrArg some (by kernel_rfl))
 f255:=Tryz.func115.trans (congrArg some (by kernel_rfl))
 t3:=Tryz.underlying3
 a3:=Tryz.isAgg3
 z3:=Tryz.sizeOf3
 v3:=Tryz.zeroValue3
 t5:=Tryz.underlying5
 a5:=Tryz.isAgg5
 z5:=Tryz.sizeOf5
 v5:=Tryz.zeroValue5
 t37:=Tryz.underlying36
 a37:=Tryz.isAgg36
 z37:=Tryz.sizeOf36
 v37:=Tryz.zeroValue36 }
theorem sh_bytes_IndexByte_nil (cv : Int) (w : World) :
  Calls Tryz.prog 92 #[.slice none 0 0,.int .u8 cv] w fun e w'=>e = .returned (.int .i64 (-1))∧w' = w:=Any.bytes_IndexByte_nil sh_lays187 cv w
end Go.Proofs.YtefelnhpfdcleaaGreatDoor
namespace Go.Proofs.YtefelnhpfdcleaaGreatDoor
open Go Go.Sx
set_option maxRecDepth 10000
set_option maxHeartbeats 2000000
theorem trimR_cons (c : UInt8) (r : List UInt8) : trimR (c :: r) = if (trimR r).isEmpty then (if blankB c then [] else [c]) else c :: trimR r:=by
 unfold trimR
 rw [List.reverse_cons,List.dropWhile_append,List.isEmpty_reverse]
 split
 ·by_cases h : blankB c = true
  ·rw [if_pos h,List.dropWhile_cons_of_pos h]; rfl
  ·rw [if_neg h,List.dropWhile_cons_of_neg h]; rfl
 ·rw [List.reverse_append]; rfl
theorem trim_comm (s : List UInt8) : trimR (trimL s) = trimL (trimR s):=by
 induction s with
 | nil=>rfl
 | cons c r ih =>
  by_cases h : blankB c = true
  ·rw [trimL_cons h,ih,trimR_cons]
   split
   ·rename_i he
    rw [List.isEmpty_iff.1 he]
   ·rw [trimL_cons h]
  ·have e : trimL (c :: r) = c :: r:=by rw [trimL,List.dropWhile_cons_of_neg h]
   rw [e,trimR_cons]
   split
   ·rw [trimL,List.dropWhile_cons_of_neg h]
   ·rw [trimL,List.dropWhile_cons_of_neg h]
theorem blank_in (c : UInt8) : [32,9].contains c = blankB c:=by
 have : ∀ n : Fin 256,[32,9].contains (UInt8.ofNat n.1) = blankI (n.1 : Int):=by decide
 have h:=this ⟨c.toNat,c.toNat_lt⟩
 simp only [UInt8.ofNat_toNat] at h
 exact h
theorem trimS_eq (s : List UInt8) : Lib.trimS s [32,9] = trimF s:=by
 rw [trimF,trim_comm]
 unfold Lib.trimS Lib.trimLeftS Lib.trimRightS trimL trimR
 have e : (fun x=>[32,9].contains x) = blankB:=funext blank_in
 rw [e]
def spTrim64 : FSpec:=fun _ xs ls K=>∃ (s c : List UInt8),xs = [.str s,.str c]∧ls = []∧s.length≤9223372036854775807∧c.length < 1000∧(c.all fun b=>decide (b.toNat < 128)) = true∧∀ r,r = Lib.trimS s c→K (.str r) []
theorem trim64_ok : FnOk Tryz.prog gl 94 spTrim64:=by
 refine ⟨⟨Tryz.f94,_,Tryz.func94,rfl,by kernel_rfl⟩,fun xs ls K h=>?_⟩
 obtain ⟨s,c,rfl,rfl,hs,hc,ha,h⟩:=h
 refine ⟨_,_,h _ rfl,callsTo_below fun E B w vals _ _ _ hr=>?_⟩
 obtain ⟨v,u,rfl,hv,hu⟩:=relL_two hr
 rw [rel_str hv,rel_str hu]
 refine (Any.strings_Trim_laid sh_lays160 (by kernel_rfl) ⟨s.toArray⟩ ⟨c.toArray⟩ w (by simpa [ByteArray.size] using hs) (by simp [ByteArray.size]; omega) (ascii_of_all (by simpa using ha))).mono ?_
 rintro e w' ⟨rfl,hB⟩
 exact ⟨_,rfl,fun E=>.ro (.str rfl),hB⟩
theorem trim_ok : FnOk Tryz.prog gl 194 (spStrS trimF):=by
 refine fnOk (gh:=[]) mixed cxOk (tabCons trim64_ok tabNil) Tryz.func194 (by kernel_rfl) (by kernel_rfl) ?_
 intro xs ls K h
 unfold spStrS at h
 obtain ⟨s,rfl,rfl,hl,h⟩:=h
 obtain ⟨k,hk⟩ : ∃ k,k = trimF s:=⟨_,rfl⟩
 refine ⟨_,_,h k hk,fun D hD=>?_⟩
 clear h
 cbv
 refine ⟨s,[32,9],rfl,rfl,hl,by decide,by decide,fun r hr=>?_⟩
 cbv
 exact finStr (by rw [hr,hk,trimS_eq])
end Go.Proofs.YtefelnhpfdcleaaGreatDoor
namespace Go.Proofs.YtefelnhpfdcleaaGreatDoor
open Go.Sx
set_option maxRecDepth 10000
set_option maxHeartbeats 2000000
def spSplit : FSpec:=fun _ xs ls K=>∃ (s : List UInt8) (y : Int),xs = [.str s,.int .u8 (.a y)]∧ls = []∧s.length≤100000∧∀ (k : Option (List (List UInt8))) (l : List (List UInt8)) (n : Int) (b nb : Bool) (f : Nat→List SV),k = partsF y s→l = (k.getD []).map trimF→n = (l.length : Int)→b = k.isSome→nb = k.isNone→f = strRow l→K (.tup [.osl (.a nb) (.a n) 0,.bool (.a b)]) [.own 9 (.a n) 1 true f]
structure SpI (s : List UInt8) (out : List (List UInt8)) (a i : Nat) (A I : Int) (m : Nat) : Prop where
 at_ : At s i I m
 ale : a≤i
 A : ST.den (.a A) = (a : Int)
 out : out.length≤i
 s : s.length≤100000
def splJ (s : List UInt8) (y : Int) (k : Option (List (List UInt8))) (m : Nat) (vs : List (Option SV)) (hp : List Hl) : Prop :=
 ∃ (i a : Nat) (I A n : Int) (nl : Bool) (f : Nat→List SV) (out : List (List UInt8)),vs = [some (.str s),some (.int .u8 (.a y)),some (.osl (.a nl) (.a n) 0),some (.int .i64 (.a A)),some (.int .i64 (.a I))]∧hp = [.own 9 (.a n) 1 true f]∧
  SpI s out a i A I m∧RowS f n (out.map trimF)∧k = pAt y s out a i
def qOf : Option (Nat×List UInt8)→Int
 | none=>0
 | some x=>((1 + x.1 : Nat) : Int)
theorem qOf_zero {o : Option (Nat×List UInt8)} (h : (qOf o == 0) = true) : o = none:=by
 cases o with
 | none=>rfl
 | some x=>simp only [qOf,beq_iff_eq] at h; omega
theorem qOf_some {o : Option (Nat×List UInt8)} (h : (qOf o == 0) = false) : ∃ x,o = some x∧qOf o = ((1 + x.1 : Nat) : Int):=by
 cases o with
 | none=>simp [qOf] at h
 | some x=>exact ⟨x,rfl,rfl⟩
theorem quotedF_drop {s : List UInt8} {i : Nat} : quotedF (s.drop i) = qOf (qdF plainI (s.drop (i + 1))):=by
 rw [quotedF,qAt,qdF_some,List.drop_drop,show i + (0 + 1) = i + 1 by omega]
 cases qdF plainI (s.drop (i + 1)) with
 | none=>rfl
 | some x=>simp only [qOf]
theorem finSpl0 {D : Dn} (hD : D = dn) {k : Option (List (List UInt8))} {kl : List (List UInt8)} {kn : Int} {kb knb : Bool} {kr g : Nat→List SV} (hk : k = none) (hkl : kl = (k.getD []).map trimF) (hkn : kn = (kl.length : Int)) (hkb : kb = k.isSome) (hknb : knb = k.isNone) :
  Fin (.tup [.osl (.a (D.b (.l true))) (.a (D.i (.l 0))) 0,.bool (.a (D.b (.l false)))]) (.tup [.osl (.a knb) (.a kn) 0,.bool (.a kb)]) [.own 9 (.a (D.i (.l 0))) 1 true g] [.own 9 (.a kn) 1 true kr]:=by
 subst hD hk
 have e : kn = 0:=by rw [hkn,hkl]; rfl
 refine finOwn (.tup (.cons (leOsl (by rw [hknb]; rfl) (by rw [e]; rfl)) (.cons (leBool (by rw [hkb]; rfl)) .nil))) (by rw [e]; rfl) fun i hi=>?_
 have hi : (i : Int) < 0:=hi
 omega
theorem finSpl1 {D : Dn} (hD : D = dn) {k : Option (List (List UInt8))} {l kl : List (List UInt8)} {kn : Int} {kb knb : Bool} {kr f : Nat→List SV} (hk : k = some l) (hkl : kl = (k.getD []).map trimF) (hkn : kn = (kl.length : Int)) (hkb : kb = k.isSome) (hknb : knb = k.isNone) (hkr : kr = strRow kl)
  {n : Int} (R : RowS f n (l.map trimF)) {x : BT} {y : ST} (hy : y.den = n) (hx : x.den = false) : Fin (.tup [.osl (.a (D.b x)) (.a (D.i y)) 0,.bool (.a (D.b (.l true)))]) (.tup [.osl (.a knb) (.a kn) 0,.bool (.a kb)]) [.own 9 (.a (D.i y)) 1 true f] [.own 9 (.a kn) 1 true kr]:=by
 subst hD hk
 have hkl : kl = l.map trimF:=hkl
 have e : dn.i y = kn:=by show y.den = _; rw [hy,R.n,hkn,hkl]
 refine finOwn (.tup (.cons (leOsl ?_ e) (.cons (leBool (by rw [hkb]; rfl)) .nil))) e fun i hi=>?_
 ·rw [hknb]; exact hx
 ·have hi : (i : Int) < dn.i y:=hi
  rw [R.f i (by rw [e,hkn,hkl] at hi; omega),hkr,hkl]; rfl
theorem split_ok : FnOk Tryz.prog gl 185 spSplit:=by
 refine fnOk (gh:=[(1,[.own 6 9]),(9,[.own 4 9]),(12,[.own 4 9])]) mixed cxOk (tabCons kind_ok (tabCons quoted_ok (tabCons trim_ok tabNil))) Tryz.func185 (by kernel_rfl) (by kernel_rfl) ?_
 intro xs ls K h
 unfold spSplit at h
 obtain ⟨s,y,rfl,rfl,hl,h⟩:=h
 obtain ⟨k,hk⟩ : ∃ k,k = partsF y s:=⟨_,rfl⟩
 obtain ⟨kl,hkl⟩ : ∃ kl,kl = (k.getD []).map trimF:=⟨_,rfl⟩
 obtain ⟨kn,hkn⟩ : ∃ kn : Int,kn = (kl.length : Int):=⟨_,rfl⟩
 obtain ⟨kb,hkb⟩ : ∃ kb,kb = k.isSome:=⟨_,rfl⟩
 obtain ⟨knb,hknb⟩ : ∃ knb,knb = k.isNone:=⟨_,rfl⟩
 obtain ⟨kr,hkr⟩ : ∃ kr,kr = strRow kl:=⟨_,rfl⟩
 refine ⟨_,_,h k kl kn kb knb kr hk hkl hkn hkb hknb hkr,fun D hD=>?_⟩
 clear h
 have hk : k = pAt y s [] 0 0:=by
  rw [hk,partsF,pAt,cut_self]
  simp
 cbv
 obtain ⟨J,hJ⟩ : ∃ J,J = splJ s y k:=⟨_,rfl⟩
 refine ⟨[0,1,6,7,8],J,⟨rfl,s.length,?_⟩,?_⟩
 ·rw [hJ]
  subst hD
  exact ⟨0,0,_,_,_,_,_,[],rfl,rfl,⟨At.zero (by omega),by omega,rfl,by simp,hl⟩,RowS.nil,hk⟩
 clear hk
 intro m vs hp' hv
 rw [hJ] at hv
 unfold splJ at hv
 obtain ⟨i,a,I,A,n,nl,f,out,rfl,rfl,V,R,hk⟩:=hv
 cbv
 refine br hD (fun h=>?_) (fun h=>?_)<;>cbv
 ·have hlt:=V.at_.lt (of_decide_eq_true (p:=I < (s.length : Int)) h)
  clear h
  refine ⟨V.at_.inS hD hlt,fun c hc=>?_⟩
  have hc2:=byteAt hD V.at_.den hc
  clear hc
  cbv
  refine br hD (fun h=>?_) (fun h=>?_)<;>cbv
  ·have h34 : charI s i = 34:=by rw [←hc2.charI]; have h : (c == 34) = true:=h; simpa using h
   clear h
   rw [pAt_quote hlt V.ale (by rw [h34]; decide) h34] at hk
   refine ⟨by subst hD; exact subS_of (s:=s) (j:=s.length) (b:=.len s) V.at_.den rfl (by omega) (Nat.le_refl _),fun r1 hr1=>?_⟩
   have hr1' : r1 = s.drop i:=by
    have:=sub_of (j:=s.length) (b:=.len s) hD V.at_.den rfl hr1
    rw [this]; exact List.take_of_length_le (by simp)
   clear hr1
   cbv
   refine ⟨_,rfl,rfl,by have:=V.s; rw [hr1',List.length_drop]; omega,fun q hq=>?_⟩
   have hq2 : q = qOf (qdF plainI (s.drop (i + 1))):=by subst hD; rw [hq,hr1']; exact quotedF_drop
   clear hq
   cbv
   refine br hD (fun h=>?_) (fun h=>?_)<;>cbv
   ·have h : (q == 0) = true:=h
    rw [hq2] at h
    rw [qOf_zero h] at hk
    exact finSpl0 hD hk hkl hkn hkb hknb
   ·have h : (q == 0) = false:=h
    rw [hq2] at h
    obtain ⟨x,hx,hqx⟩:=qOf_some h
    rw [hx] at hk
    simp only at hk
    have hlen:=qdF_len _ _ x (Nat.le_refl _) hx
    rw [List.length_drop] at hlen
    have hq3 : ST.den (.bin .add .i64 (.a I) (.a q)) = ((i + 1 + x.1 : Nat) : Int):=by
     have h1:=V.at_.I; have h2:=V.s
     show IntKind.i64.wrap (I + q) = _
     rw [hq2,hqx,wrap64 (by omega) (by omega)]; omega
    clear h
    refine ⟨s.length - (i + 1 + x.1),by have:=V.at_.m; omega,?_⟩
    rw [hJ]
    subst hD
    refine ⟨i + 1 + x.1,a,_,_,_,_,f,out,rfl,rfl,⟨⟨by omega,hq3,rfl,V.at_.len⟩,by have:=V.ale; omega,V.A,by have:=V.out; omega,V.s⟩,R,hk⟩
  have h34 : charI s i≠34:=by rw [←hc2.charI]; have h : (c == 34) = false:=h; simpa using h
  clear h
  refine ⟨_,rfl,rfl,by subst hD; exact hc2.le,fun r hr=>?_⟩
  have hr2 : r = kindI c:=by subst hD; exact hr
  clear hr
  have hsm : plainI (charI s i) = !(kindI c == 0):=by rw [hc2.charI]; unfold charI; rw [←someI_byte,someI]
  rw [←hr2] at hsm
  cbv
  refine br hD (fun h=>?_) (fun h=>?_)<;>cbv
  ·have h : (r == 0) = true:=h
   rw [pAt_bad hlt (by rw [hsm,h]; rfl)] at hk
   exact finSpl0 hD hk hkl hkn hkb hknb
  have hp : plainI (charI s i) = true:=by have h : (r == 0) = false:=h; rw [hsm,h]; rfl
  clear h
  refine br hD (fun h=>?_) (fun h=>?_)<;>cbv
  ·have hy : charI s i = y:=by rw [←hc2.charI]; have h : (c == y) = true:=h; simpa using h
   clear h
   rw [pAt_sep hlt hp h34 hy] at hk
   refine ⟨by subst hD; exact subS_of V.A V.at_.den V.ale (by omega),fun r1 hr1=>?_⟩
   have hr1' : r1 = cut s a i:=sub_of hD V.A V.at_.den hr1
   clear hr1
   cbv
   refine ⟨_,rfl,rfl,by have:=V.s; rw [hr1',cut,List.length_take,List.length_drop]; omega,fun t ht=>?_⟩
   have ht2 : t = trimF (cut s a i):=by rw [ht,hr1']
   clear ht
   cbv
   intro g hg
   have hg0 : g 0 = [.str t]:=hg.h 0 _ rfl
   clear hg
   cbv
   refine ⟨?_,fun f' n' hf'=>?_⟩
   ·have:=V.out; have:=V.s; have h:=R.n; rw [List.length_map] at h; subst hD; exact ⟨rfl,by show (n + 1) * 16≤_; omega,by show n + 1≤_; omega⟩
   have R' : RowS f' n' ((out ++ [cut s a i]).map trimF):=by
    subst hD
    rw [List.map_append,List.map_singleton]
    exact R.more (by rw [hg0,ht2]) hf' (by have:=V.out; have:=V.s; rw [List.length_map]; omega)
   clear hf' hg0
   cbv
   refine ⟨s.length - (i + 1),(V.at_.step hD hlt).1,?_⟩
   rw [hJ]
   subst hD
   exact ⟨i + 1,i + 1,_,_,_,_,f',_,rfl,rfl,⟨(V.at_.step rfl hlt).2,Nat.le_refl _,(V.at_.step rfl hlt).2.I,by have:=V.out; simp; omega,V.s⟩,R',hk⟩
  ·have hy : charI s i≠y:=by rw [←hc2.charI]; have h : (c == y) = false:=h; simpa using h
   clear h
   rw [pAt_more hlt V.ale hp h34 hy] at hk
   refine ⟨s.length - (i + 1),(V.at_.step hD hlt).1,?_⟩
   rw [hJ]
   subst hD
   exact ⟨i + 1,a,_,_,_,_,f,out,rfl,rfl,⟨(V.at_.step rfl hlt).2,by have:=V.ale; omega,V.A,by have:=V.out; omega,V.s⟩,R,hk⟩
 ·have hi:=V.at_.eq (of_decide_eq_false (p:=I < (s.length : Int)) h)
  clear h
  rw [pAt_end hi] at hk
  refine ⟨by subst hD; exact subS_of (s:=s) (j:=s.length) (b:=.len s) V.A rfl (by have:=V.ale; omega) (Nat.le_refl _),fun r1 hr1=>?_⟩
  have hr1' : r1 = s.drop a:=by
   have:=sub_of (j:=s.length) (b:=.len s) hD V.A rfl hr1
   rw [this]; exact List.take_of_length_le (by simp)
  clear hr1
  cbv
  refine ⟨_,rfl,rfl,by have:=V.s; rw [hr1',List.length_drop]; omega,fun t ht=>?_⟩
  have ht2 : t = trimF (s.drop a):=by rw [ht,hr1']
  clear ht
  cbv
  intro g hg
  have hg0 : g 0 = [.str t]:=hg.h 0 _ rfl
  clear hg
  cbv
  refine ⟨?_,fun f' n' hf'=>?_⟩
  ·have:=V.out; have:=V.s; have h:=R.n; rw [List.length_map] at h; subst hD; exact ⟨rfl,by show (n + 1) * 16≤_; omega,by show n + 1≤_; omega⟩
  have R' : RowS f' n' ((out ++ [s.drop a]).map trimF):=by
   subst hD
   rw [List.map_append,List.map_singleton]
   exact R.more (by rw [hg0,ht2]) hf' (by have:=V.out; have:=V.s; rw [List.length_map]; omega)
  clear hf' hg0
  cbv
  exact finSpl1 hD hk hkl hkn hkb hknb hkr R' rfl (by show (nl && false) = false; simp)
end Go.Proofs.YtefelnhpfdcleaaGreatDoor
namespace Go.Proofs.YtefelnhpfdcleaaGreatDoor
open Go Go.RowKit Go.Sx Go.Sort
set_option maxRecDepth 100000
set_option maxHeartbeats 2000000
def emptyP (x : ByteArray) : Bool:=x.toList.isEmpty
theorem del1_run (x : ByteArray) (w : World) : Calls Tryz.prog 187 #[.string x] w fun e w'=>e = .returned (.bool (emptyP x))∧∃ q,w' = w.drewN q:=by
 go_enter Tryz.func187,Tryz.ntmps51
 go_wp2
 go_ret
 exact ⟨rfl,0,rfl⟩
theorem emptyP_bytes (x : List UInt8) : (!emptyP (Sx.bytes x)) = neB x:=by
 unfold emptyP neB Sx.bytes
 rw [Lib.toList_data]
 cases x<;>rfl
theorem filter_bytes (l : List (List UInt8)) : (l.map Sx.bytes).filter (fun x=>!emptyP x) = (l.filter neB).map Sx.bytes:=by
 rw [List.filter_map]
 congr 1
 refine List.filter_congr fun x _=>emptyP_bytes x
theorem bEnter51 : ∀ args w,(callFunc 187 args).run Tryz.prog w = .ok (.enter 187 args) w:=enters_of Tryz.func187 (by kernel_rfl) rfl
theorem putRow_heap {α : Type} [Inhabited α] (enc : α→Value) (w : World) (blk off : Nat) (d : Array α) (k : Nat) : (putRow enc w blk off d).heap[k]? = if blk = k then (w.heap[k]?).map (onCells (putCells enc off d)) else w.heap[k]?:=by
 unfold putRow mapBlock
 simp only [Array.getElem?_modify]
theorem delPut {w : World} {q b : Nat} {cur : Array Value} {fr : Nat×Nat} {t : TypeId} (hg : w.heap[b]? = some (.cells cur t fr)) (N : Array ByteArray) {i : Nat} (hi : i < N.size) (hc : N.size≤cur.size) : (putRow Value.string (Go.Sort.ahead w q) b 0 N).cell? ⟨b,i,none⟩ = some (.string N[i]!):=by
 have h1 : (putRow Value.string (Go.Sort.ahead w q) b 0 N).heap[b]? = some (.cells (putCells Value.string 0 N cur) t fr):=by
  rw [putRow_heap,if_pos rfl]
  have : (Go.Sort.ahead w q).heap[b]? = w.heap[b]?:=rfl
  rw [this,hg]; rfl
 rw [cell_of_row _ b _ _ _ _ h1]
 simp only [putCells,Array.getElem?_mapIdx]
 rw [Array.getElem?_eq_getElem (by omega),Option.map_some,if_pos ⟨Nat.zero_le _,by omega⟩]
 rfl
def spDel : FSpec:=fun _ xs ls K=>∃ (l : List (List UInt8)) (nb : Bool) (n : Int) (f : Nat→List SV),xs = [.osl (.a nb) (.a n) 0,.fn 187]∧ls = [.own 9 (.a n) 1 true f]∧RowS f n l∧0 < l.length∧∀ l' n',l' = l.filter neB→n' = (l'.length : Int)→K (.sl (.a false) (.a n') 1 (strRow l')) [.gone]
theorem delete_ok : FnOk Tryz.prog gl 186 spDel:=by
 refine ⟨⟨Tryz.f186,_,Tryz.func186,rfl,by kernel_rfl⟩,fun xs ls K h=>?_⟩
 obtain ⟨l,nb,n,f,rfl,rfl,R,h0,h⟩:=h
 refine ⟨_,_,h _ _ rfl rfl,?_⟩
 intro B E w vals hw0 hI0 hdom hb hg hh hr
 obtain ⟨v,m,xs,k1,kz,k2,k3,k4,k5,k6⟩:=hh 0
 have k3' : n = (m : Int):=k3
 have hm : m = l.length:=by have:=R.n; omega
 obtain ⟨u,g,rfl,hu,hgv⟩:=relL_two hr
 obtain ⟨huv,hnl⟩:=osl_val hu k1 k2 k3 rfl
 subst huv
 obtain rfl : g = .func (.func 187) #[] #[]:=by
  cases hgv with
  | ro h=>cases h with
   | fn h=>exact h
 rcases k2.2 with ⟨e0,e1⟩ | ⟨b,cap,cur,fr,e0,hg2,hfr,hmc,hcm,hcs,htake⟩
 ·omega
 subst e0
 obtain rfl : fr = (0,0):=by
  rcases hfr with h | ⟨h,_⟩
  ·exact h
  ·cases h
 have hxl : xs.length = l.length:=by rw [k2.1,hm]; simp
 have hxs : xs = l.map fun x=>Value.string (Sx.bytes x):=by
  refine List.ext_getElem (by rw [hxl]; simp) fun i h1 h2=>?_
  have hi : i < l.length:=by omega
  have:=k5.2 i 0 (.str (l.getD i [])) xs[i] (by omega) (by rw [R.f i hi]; rfl) (by simp [List.getElem?_eq_getElem h1])
  cases this with
  | str h =>
   rw [h,List.getElem_map,List.getD_eq_getElem?_getD,List.getElem?_eq_getElem hi]; rfl
 obtain ⟨hO,hnI⟩:=k6 b rfl
 have hlt : b < w.heap.size:=(hb.Obd b 0 hO).1
 obtain ⟨d,hd⟩ : ∃ d,d = (l.map Sx.bytes).toArray:=⟨_,rfl⟩
 have hds : d.size = m:=by rw [hd,hm]; simp
 have hdl : d.toList = l.map Sx.bytes:=by rw [hd]
 have hH : Holds Value.string w b 0 d:=by
  intro j hj
  have hj' : j < l.length:=by omega
  refine ⟨?_,Lib.frozen_of_heap hg2 _⟩
  rw [cell_of_row w b _ cur _ _ hg2,Nat.zero_add]
  have h1 : cur.toList[j]? = some (Value.string (Sx.bytes l[j])):=by
   have : (cur.toList.take (m * 1))[j]? = xs[j]?:=by rw [htake]
   rw [List.getElem?_take,if_pos (by omega),hxs] at this
   rw [this]
   simp [List.getElem?_eq_getElem hj']
  rw [←Array.getElem?_toList,h1,getElem!_pos d j hj]
  simp [hd]
 have hF : (d.toList.filter fun x=>!emptyP x) = (l.filter neB).map Sx.bytes:=by rw [hdl]; exact filter_bytes l
 have run:=sh_slices_DeleteFunc Value.string (fun _=>rfl) emptyP 187 #[] bEnter51 ⟨#[]⟩ Tryz.zeroValue9 b 0 cap d w (fun W x _=>by simpa [FnGives] using del1_run x W) (fun q os dk x _=>by simpa [FnGives] using del1_run x _) hH (by have:=R.len; omega) (by omega)
 rw [hF,hds] at run
 refine run.mono ?_
 clear run
 rintro e w' ⟨rfl,q,rfl⟩
 obtain ⟨l',hl'⟩ : ∃ l',l' = l.filter neB:=⟨_,rfl⟩
 rw [←hl']
 have hle : l'.length≤l.length:=by rw [hl']; exact List.length_filter_le _ _
 obtain ⟨N,hN⟩ : ∃ N,N = (l'.map Sx.bytes ++ List.replicate (m - (l'.map Sx.bytes).length) (⟨#[]⟩ : ByteArray)).toArray:=⟨_,rfl⟩
 rw [←hN]
 have hNs : N.size = m:=by rw [hN]; simp; omega
 have hNi : ∀ i,i < l'.length→N[i]! = Sx.bytes (l'.getD i []):=by
  intro i hi
  rw [getElem!_pos N i (by omega),List.getD_eq_getElem?_getD,List.getElem?_eq_getElem hi]
  simp only [hN,List.getElem_toArray]
  rw [List.getElem_append_left (by simpa using hi)]
  simp
 have hcell : ∀ i,i < l'.length→(putRow Value.string (Go.Sort.ahead w q) b 0 N).cell? ⟨b,i,none⟩ = some (.string (Sx.bytes (l'.getD i []))):=by
  intro i hi
  rw [delPut hg2 N (by omega) (by omega),hNi i hi]
 have hheap : ∀ k,k≠b→(putRow Value.string (Go.Sort.ahead w q) b 0 N).heap[k]? = w.heap[k]?:=fun k hk=>by rw [putRow_heap,if_neg (fun e=>hk e.symm)]; rfl
 have hc2 : ∀ b2 o,b2≠b→(putRow Value.string (Go.Sort.ahead w q) b 0 N).cell? ⟨b2,o,none⟩ = w.cell? ⟨b2,o,none⟩:=fun b2 o hb2=>by simp only [World.cell?]; rw [hheap b2 hb2]
 have hsz : (putRow Value.string (Go.Sort.ahead w q) b 0 N).heap.size = w.heap.size:=by simp [putRow,mapBlock,Go.Sort.ahead]
 have hX:=(hb.Obd b 0 hO).2
 let E' : Env:=⟨E.β,E.τ,E.O,E.κ,E.ζ,fun b2 o=>E.I b2 o∨(b2 = b∧o < l'.length)⟩
 refine ⟨_,E',rfl,⟨hb.os,hb.tape,hb.output,by rw [hsz]; exact hb.size,fun b2 hlt2 hnX=>?_,fun b2 o hi=>?_,fun b2 o hi=>?_,fun b2 o hi=>?_,fun b2 j hO2=>?_,⟨hb.β0.β,hb.β0.τ,hb.β0.ζ⟩⟩,fun k hk=>?_,?_⟩
 ·rw [hheap b2 (fun e=>?_)]
  ·exact hb.old b2 hlt2 hnX
  ·subst e
   rcases hX with h | h
   ·omega
   ·exact hnX h
 ·obtain ⟨i1,i2⟩:=hb.I0 b2 o hi
  refine ⟨.inl i1,?_⟩
  rw [hc2 b2 o (fun e=>hnI o (by rw [←e]; exact i1))]; exact i2
 ·rw [hsz]
  rcases hi with hi | ⟨rfl,_⟩
  ·exact hb.Ibd b2 o hi
  ·exact hlt
 ·rcases hi with hi | ⟨rfl,_⟩
  ·exact hb.Inew b2 o hi
  ·exact .inr hX
 ·rw [hsz]; exact hb.Obd b2 j hO2
 ·obtain rfl : k = 0:=by simpa using hk
  trivial
 ·refine .ro (.sl (fun i j=>.string (Sx.bytes (l'.getD i []))) rfl ?_ ?_ hcm (fun _=>rfl) (fun i hi=>rfl) (fun i j hi hj=>rfl) (fun i j hi hj=>?_) (fun i j s hi hs=>?_))
  ·show (l'.length : Int) = _
   simp
  ·simp; omega
  ·obtain rfl : j = 0:=by omega
   have hi : i < l'.length:=by simpa using hi
   refine ⟨?_,.inr ⟨rfl,by simpa using hi⟩⟩
   simpa using hcell i hi
  ·match j,hs with
   | 0,hs =>
    have hs : some (SV.str (l'.getD i [])) = some s:=hs
    cases hs
    exact .str rfl
   | j + 1,hs=>simp [strRow] at hs
end Go.Proofs.YtefelnhpfdcleaaGreatDoor
namespace Go.Proofs.YtefelnhpfdcleaaGreatDoor
open Go.Sx
set_option maxRecDepth 10000
set_option maxHeartbeats 2000000
def elemsNil (s : List UInt8) : Bool:=(refElementsF s).2 != 0
theorem elements_ok : FnOk Tryz.prog gl 173 (spElems refElementsF elemsNil):=by
 refine fnOk (gh:=[]) mixed cxOk (tabCons split_ok (tabCons delete_ok tabNil)) Tryz.func173 (by kernel_rfl) (by kernel_rfl) ?_
 intro xs ls K h
 unfold spElems at h
 obtain ⟨s,rfl,rfl,hl,h⟩:=h
 obtain ⟨k,hk⟩ : ∃ k,k = refElementsF s:=⟨_,rfl⟩
 obtain ⟨kl,ke⟩:=k
 obtain ⟨kn,hkn⟩ : ∃ kn : Int,kn = (kl.length : Int):=⟨_,rfl⟩
 obtain ⟨knb,hknb⟩ : ∃ knb : Bool,knb = (ke != 0):=⟨_,rfl⟩
 refine ⟨_,_,h kl ke kn knb hk hkn (by rw [hknb,elemsNil,←hk]),fun D hD=>?_⟩
 clear h
 obtain ⟨kr,hkr⟩ : ∃ kr,kr = strRow kl:=⟨_,rfl⟩
 rw [←hkr]
 rw [refElementsF] at hk
 cbv
 refine br hD (fun h=>?_) (fun h=>?_)<;>cbv
 ·have h : decide (2000 < (s.length : Int)) = true:=h
  rw [if_pos (by simpa using h)] at hk
  exact finEl (f:=fun _=>[]) hD hk hkn hkr RowS.nil rfl (by simp only [Prod.mk.injEq] at hk; rw [hknb,hk.2]; rfl) rfl
 have h : decide (2000 < (s.length : Int)) = false:=h
 have h2 : ¬ (2000 < (s.length : Int)):=by simpa using h
 rw [if_neg h2] at hk
 have hs : s.length≤2000:=by omega
 clear h h2
 refine ⟨s,_,rfl,rfl,by omega,fun k l n b nb f hp0 hl' hn hb hnb hf=>?_⟩
 have hp : k = partsF 44 s:=by subst hD; exact hp0
 clear hp0
 rw [←hp] at hk
 cbv
 refine br hD (fun h=>?_) (fun h=>?_)<;>cbv
 ·have h : (!b) = true:=h
  have hn0 : k = none:=by
   cases k with
   | none=>rfl
   | some l=>rw [hb] at h; cases h
  rw [hn0] at hk
  exact finEl (f:=fun _=>[]) hD hk hkn hkr RowS.nil rfl (by simp only [Prod.mk.injEq] at hk; rw [hknb,hk.2]; rfl) rfl
 have h : (!b) = false:=h
 obtain ⟨l0,rfl⟩ : ∃ l,k = some l:=by
  cases k with
  | none=>rw [hb] at h; cases h
  | some l=>exact ⟨l,rfl⟩
 clear h
 obtain ⟨h1,h2,h3⟩:=partsF_len hp.symm
 simp only [Option.getD_some] at hl'
 have hll : l.length = l0.length:=by rw [hl',List.length_map]
 have RL : RowS f n l:=by rw [hf,hn]; exact RowS.row (by omega)
 have hl2e : l.filter neB = keepF l0:=by rw [hl',keepF]
 have hk2 : l.filter neB = kl∧ke = 0:=by simp only [Prod.mk.injEq] at hk; rw [hl2e]; exact ⟨hk.1.symm,hk.2⟩
 refine ⟨l,_,_,f,rfl,rfl,by subst hD; exact RL,by omega,fun l2 n2 hl2 hn2=>?_⟩
 have hl3 : l2 = kl:=by rw [hl2,hk2.1]
 have R2 : RowS (strRow l2) n2 l2:=by
  rw [hn2]; refine RowS.row ?_
  have : (l.filter neB).length≤l.length:=List.length_filter_le _ _
  rw [hl2]; omega
 obtain ⟨g,hg⟩ : ∃ g,g = strRow l2:=⟨_,rfl⟩
 rw [←hg] at R2 ⊢
 cbv
 exact finEl (f:=g) (l':=l2) (e':=0) hD (by rw [hl3,hk2.2]) hkn hkr R2 rfl (by rw [hknb,hk2.2]; rfl) rfl
end Go.Proofs.YtefelnhpfdcleaaGreatDoor
namespace Go.Proofs.YtefelnhpfdcleaaGreatDoor
open Go Go.Sx
set_option maxRecDepth 10000
set_option maxHeartbeats 2000000
def cutF (c : UInt8) : List UInt8→List UInt8×List UInt8×Bool
 | []=>([],[],false)
 | b :: r=>if b == c then ([],r,true) else (b :: (cutF c r).1,(cutF c r).2)
theorem cutF_no {c : UInt8} {s : List UInt8} (h : (cutF c s).2.2 = false) : (cutF c s).1 = s∧(cutF c s).2.1 = []∧Lib.indexByte s c = -1:=by
 induction s with
 | nil=>exact ⟨rfl,rfl,rfl⟩
 | cons b r ih =>
  simp only [cutF] at h ⊢
  split at h
  ·cases h
  ·rename_i hb
   obtain ⟨h1,h2,h3⟩:=ih h
   rw [if_neg hb]
   refine ⟨by rw [h1],h2,?_⟩
   rw [Lib.indexByte,if_neg hb,h3]; rfl
theorem cutF_yes {c : UInt8} {s : List UInt8} (h : (cutF c s).2.2 = true) : Lib.indexByte s c = ((cutF c s).1.length : Int)∧(cutF c s).1 = s.take (cutF c s).1.length∧(cutF c s).2.1 = s.drop ((cutF c s).1.length + 1)∧(cutF c s).1.length < s.length:=by
 induction s with
 | nil=>cases h
 | cons b r ih =>
  simp only [cutF] at h ⊢
  by_cases hb : (b == c) = true
  ·simp only [if_pos hb]
   rw [Lib.indexByte,if_pos hb]
   simp
  ·rw [if_neg hb] at h ⊢
   obtain ⟨h1,h2,h3,h4⟩:=ih h
   rw [Lib.indexByte,if_neg hb,h1]
   refine ⟨?_,?_,?_,by simp; omega⟩
   ·rw [if_neg (by simp)]; simp
   ·simp only [List.length_cons,List.take_succ_cons]; rw [←h2]
   ·simp only [List.length_cons,List.drop_succ_cons]; exact h3
def spIdx1 : FSpec:=fun _ xs ls K=>∃ (s : List UInt8) (c : UInt8),xs = [.str s,.str [c]]∧ls = []∧∀ r : Int,r = Lib.indexByte s c→K (.int .i64 (.a r)) []
theorem index1_ok : FnOk Tryz.prog gl 107 spIdx1:=by
 refine ⟨⟨Tryz.f107,_,Tryz.func107,rfl,by kernel_rfl⟩,fun xs ls K h=>?_⟩
 obtain ⟨s,c,rfl,rfl,h⟩:=h
 refine ⟨_,_,h _ rfl,callsTo_below fun E B w vals _ _ _ hr=>?_⟩
 obtain ⟨v,u,rfl,hv,hu⟩:=relL_two hr
 rw [rel_str hv,rel_str hu]
 refine (sh_stringslite_Index_one ⟨s.toArray⟩ c w).mono ?_
 rintro e w' ⟨rfl,rfl⟩
 exact ⟨_,rfl,fun E=>.ro (.int rfl),RowKit.Below.refl _ _⟩
def spCut : FSpec:=fun _ xs ls K=>∃ (s : List UInt8) (c : UInt8),xs = [.str s,.str [c]]∧ls = []∧s.length≤100000∧∀ a b t,(a,b,t) = cutF c s→K (.tup [.str a,.str b,.bool (.a t)]) []
theorem finCut {D : Dn} (hD : D = dn) {a b a' b' : List UInt8} {t : Bool} {x : BT} (h : (a,b,t) = (a',b',x.den)) : Fin (.tup [.str a',.str b',.bool (.a (D.b x))]) (.tup [.str a,.str b,.bool (.a t)]) [] []:=by
 subst hD
 simp only [Prod.mk.injEq] at h
 obtain ⟨rfl,rfl,rfl⟩:=h
 exact finV (LeV.refl _)
theorem cut90_ok : FnOk Tryz.prog gl 74 spCut:=by
 refine fnOk (gh:=[]) mixed cxOk (tabCons index1_ok tabNil) Tryz.func74 (by kernel_rfl) (by kernel_rfl) ?_
 intro xs ls K h
 unfold spCut at h
 obtain ⟨s,c,rfl,rfl,hl,h⟩:=h
 obtain ⟨k,hk⟩ : ∃ k,k = cutF c s:=⟨_,rfl⟩
 obtain ⟨ka,kb,kt⟩:=k
 refine ⟨_,_,h ka kb kt hk,fun D hD=>?_⟩
 clear h
 cbv
 refine ⟨s,c,rfl,rfl,fun r hr=>?_⟩
 cbv
 refine br hD (fun h=>?_) (fun h=>?_)<;>cbv
 ·have h0 : 0≤r:=of_decide_eq_true (p:=0≤r) h
  have hy : (cutF c s).2.2 = true:=by
   cases hb : (cutF c s).2.2 with
   | true=>rfl
   | false=>rw [(cutF_no hb).2.2] at hr; omega
  obtain ⟨y1,y2,y3,y4⟩:=cutF_yes hy
  rw [←hk] at y1 y2 y3 y4 hy
  simp only at y1 y2 y3 y4 hy
  rw [←hr] at y1
  have hk' : (ka,kb,kt) = (ka,kb,true):=by rw [hy]
  clear hk hy h h0 hr
  have yr : ST.den (.a r) = ((ka.length : Nat) : Int):=y1
  have yr2 : ST.den (.bin .add .i64 (.a r) (.len [c])) = ((ka.length + 1 : Nat) : Int):=by
   show IntKind.i64.wrap (r + (([c] : List UInt8).length : Int)) = _
   rw [y1,List.length_singleton,wrap64 (by omega) (by omega)]; omega
  refine ⟨by subst hD; exact subS_of (s:=s) (i:=0) (a:=.l 0) rfl yr (by omega) (by omega),fun r1 hr1=>?_⟩
  have hr1' : r1 = ka:=by
   have:=sub_of (i:=0) (a:=.l 0) hD rfl yr hr1
   rw [this]; exact y2.symm
  clear hr1
  cbv
  refine ⟨by subst hD; exact subS_of (s:=s) (j:=s.length) (b:=.len s) yr2 rfl (by omega) (Nat.le_refl _),fun r2 hr2=>?_⟩
  have hr2' : r2 = kb:=by
   have:=sub_of (j:=s.length) (b:=.len s) hD yr2 rfl hr2
   rw [this,y3]; exact List.take_of_length_le (by simp)
  clear hr2
  cbv
  refine finCut (x:=.l true) hD ?_
  rw [hk',hr1',hr2']; rfl
 ·have h0 : ¬ 0≤r:=of_decide_eq_false (p:=0≤r) h
  have hy : (cutF c s).2.2 = false:=by
   cases hb : (cutF c s).2.2 with
   | false=>rfl
   | true=>rw [(cutF_yes hb).1] at hr; omega
  obtain ⟨y1,y2,y3⟩:=cutF_no hy
  refine finCut (x:=.l false) hD ?_
  rw [hk]
  exact Prod.ext y1 (Prod.ext y2 hy)
theorem cut_ok : FnOk Tryz.prog gl 36 spCut:=by
 refine fnOk (gh:=[]) mixed cxOk (tabCons cut90_ok tabNil) Tryz.func36 (by kernel_rfl) (by kernel_rfl) ?_
 intro xs ls K h
 unfold spCut at h
 obtain ⟨s,c,rfl,rfl,hl,h⟩:=h
 obtain ⟨k,hk⟩ : ∃ k,k = cutF c s:=⟨_,rfl⟩
 obtain ⟨ka,kb,kt⟩:=k
 refine ⟨_,_,h ka kb kt hk,fun D hD=>?_⟩
 clear h
 cbv
 refine ⟨s,c,rfl,rfl,hl,fun a b t he=>?_⟩
 cbv
 exact finCut hD (by rw [hk,←he]; rfl)
end Go.Proofs.YtefelnhpfdcleaaGreatDoor
namespace Go.Proofs.YtefelnhpfdcleaaGreatDoor
open Go Go.Sx
set_option maxRecDepth 100000
set_option maxHeartbeats 8000000
def kindN (c : Nat) : Int :=
 if (48≤c∧c≤57)∨(65≤c∧c≤90)∨(97≤c∧c≤122)∨c = 45∨c = 46∨c = 95∨c = 126 then 1
 else if c = 33∨c = 36∨(38≤c∧c≤44)∨c = 47∨c = 58∨c = 59∨c = 61∨c = 64 then 2 else 0
def kindCells : List SV:=(List.range 256).map fun c=>.int .u8 (.a (kindN c))
def spIdxB : FSpec:=fun _ xs ls K=>∃ (s : List UInt8) (c : Int),xs = [.str s,.int .u8 (.a c)]∧ls = []∧(0≤c∧c≤255)∧∀ r,r = Lib.indexByte s (UInt8.ofNat c.toNat)→K (.int .i64 (.a r)) []
end Go.Proofs.YtefelnhpfdcleaaGreatDoor
namespace Go.Proofs.YtefelnhpfdcleaaGreatDoor
open Go Go.Shelf Go.RowKit Go.Sort Go.Lib
set_option maxRecDepth 100000
set_option maxHeartbeats 4000000
def sh_laysC174_ren : Go.Shelf.Ren:=⟨fun | 174=>126 | 247=>148 | 245=>149 | 287=>167 | 279=>168 | 280=>169 | 281=>170 | 282=>171 | 321=>180 | 322=>181 | 316=>182 | 171=>140 | 205=>183 | 243=>161 | 246=>160 | 283=>175 | 284=>176 | 285=>177 | 286=>178 | 129=>189 | 317=>188 | 318=>190 | 319=>191 | 320=>192 | 337=>196 | 338=>197 | n=>n,fun | 9=>9 | 3=>3 | 2=>2 | 75=>107 | 85=>135 | 4=>4 | 167=>164 | 5=>5 | 53=>165 | 175=>166 | 46=>101 | 168=>168 | 37=>36 | 0=>0 | 210=>185 | 21=>21 | 127=>124 | 145=>196 | 143=>194 | 171=>175 | 173=>178 | 212=>190 | 51=>153 | 20=>20 | 213=>191 | 232=>200 | 233=>201 | 80=>110 | n=>n,fun | 15=>4 | 16=>5 | 17=>6 | 18=>7 | 19=>8 | n=>n⟩
theorem sh_laysC174 : Go.Proofs.LaysC.n174 Tryz.prog sh_laysC174_ren:={
 mixed:=by kernel_rfl
 f129:=Tryz.func189.trans (congrArg some (by kernel_rfl))
 f171:=Tryz.func140.trans (congrArg some (by kernel_rfl))
 f174:=Tryz.func126.trans (congrArg some (by kernel_rfl))
 f205:=Tryz.func183.trans (congrArg some (by kernel_rfl))
 f243:=Tryz.func161.trans (congrArg some (by kernel_rfl))
 f245:=Tryz.func149.trans (congrArg some (by kernel_rfl))
 f246:=Tryz.func160.trans (congrArg some (by kernel_rfl))
 f247:=Tryz.func148.trans (congrArg some (by kernel_rfl))
 f279:=Tryz.func168.trans (congrArg some (by kernel_rfl))
 f280:=Tryz.func169.trans (congrArg some (by kernel_rfl))
 f281:=Tryz.func170.trans (congrArg some (by kernel_rfl))
 f282:=Tryz.func171.trans (congrArg some (by kernel_rfl))
 f283:=Tryz.func175.trans (congrArg some (by kernel_rfl))
 f284:=Tryz.func176.trans (congrArg some (by kernel_rfl))
 f285:=Tryz.func177.trans (congrArg some (by kernel_rfl))
 f286:=Tryz.func178.trans (congrArg some (by kernel_rfl))
 f287:=Tryz.func167.trans (congrArg some (by kernel_rfl))
 f316:=Tryz.func182.trans (congrArg some (by kernel_rfl))
 f317:=Tryz.func188.trans (congrArg some (by kernel_rfl))
 f318:=Tryz.func190.trans (congrArg some (by kernel_rfl))
 f319:=Tryz.func191.trans (congrArg some (by kernel_rfl))
 f320:=Tryz.func192.trans (congrArg some (by kernel_rfl))
 f321:=Tryz.func180.trans (congrArg some (by kernel_rfl))
 f322:=Tryz.func181.trans (congrArg some (by kernel_rfl))
 f337:=Tryz.func196.trans (congrArg some (by kernel_rfl))
 f338:=Tryz.func197.trans (congrArg some (by kernel_rfl))
 t0:=Tryz.underlying0
 a0:=Tryz.isAgg0
 z0:=Tryz.sizeOf0
 v0:=Tryz.zeroValue0
 t2:=Tryz.underlying2
 a2:=Tryz.isAgg2
 z2:=Tryz.sizeOf2
 v2:=Tryz.zeroValue2
 t3:=Tryz.underlying3
 a3:=Tryz.isAgg3
 z3:=Tryz.sizeOf3
 v3:=Tryz.zeroValue3
 t4:=Tryz.underlying4
 a4:=Tryz.isAgg4
 z4:=Tryz.sizeOf4
 v4:=Tryz.zeroValue4
 t5:=Tryz.underlying5
 a5:=Tryz.isAgg5
 z5:=Tryz.sizeOf5
 v5:=Tryz.zeroValue5
 t9:=Tryz.underlying9
 a9:=Tryz.isAgg9
 z9:=Tryz.sizeOf9
 v9:=Tryz.zeroValue9
 t20:=Tryz.underlying20
 a20:=Tryz.isAgg20
 z20:=Tryz.sizeOf20
 v20:=Tryz.zeroValue20
 t21:=Tryz.underlying21
 a21:=Tryz.isAgg21
 z21:=Tryz.sizeOf21
 v21:=Tryz.zeroValue21
 t37:=Tryz.underlying36
 a37:=Tryz.isAgg36
 z37:=Tryz.sizeOf36
 v37:=Tryz.zeroValue36
 t46:=Tryz.underlying101
 a46:=Tryz.isAgg101
 z46:=Tryz.sizeOf101
 v46:=Tryz.zeroValue101
 t51:=Tryz.underlying153
 a51:=Tryz.isAgg153
 z51:=Tryz.sizeOf153
 v51:=Tryz.zeroValue153
 t53:=Tryz.underlying165
 a53:=Tryz.isAgg165
 z53:=Tryz.sizeOf165
 v53:=Tryz.zeroValue165
 t75:=Tryz.underlying107
 a75:=Tryz.isAgg107
 z75:=Tryz.sizeOf107
 v75:=Tryz.zeroValue107
 t85:=Tryz.underlying135
 a85:=Tryz.isAgg135
 z85:=Tryz.sizeOf135
 v85:=Tryz.zeroValue135
 t127:=Tryz.underlying124
 a127:=Tryz.isAgg124
 z127:=Tryz.sizeOf124
 v127:=Tryz.zeroValue124
 t143:=Tryz.underlying194
 a143:=Tryz.isAgg194
 z143:=Tryz.sizeOf194
 v143:=Tryz.zeroValue194
 t145:=Tryz.underlying196
 a145:=Tryz.isAgg196
 z145:=Tryz.sizeOf196
 v145:=Tryz.zeroValue196
 t167:=Tryz.underlying164
 a167:=Tryz.isAgg164
 z167:=Tryz.sizeOf164
 v167:=Tryz.zeroValue164
 t168:=Tryz.underlying168
 a168:=Tryz.isAgg168
 z168:=Tryz.sizeOf168
 v168:=Tryz.zeroValue168
 t171:=Tryz.underlying175
 a171:=Tryz.isAgg175
 z171:=Tryz.sizeOf175
 v171:=Tryz.zeroValue175
 t173:=Tryz.underlying178
 a173:=Tryz.isAgg178
 z173:=Tryz.sizeOf178
 v173:=Tryz.zeroValue178
 t175:=Tryz.underlying166
 a175:=Tryz.isAgg166
 z175:=Tryz.sizeOf166
 v175:=Tryz.zeroValue166
 t210:=Tryz.underlying185
 a210:=Tryz.isAgg185
 z210:=Tryz.sizeOf185
 v210:=Tryz.zeroValue185
 t212:=Tryz.underlying190
 a212:=Tryz.isAgg190
 z212:=Tryz.sizeOf190
 v212:=Tryz.zeroValue190
 t213:=Tryz.underlying191
 a213:=Tryz.isAgg191
 z213:=Tryz.sizeOf191
 t232:=Tryz.underlying200
 a232:=Tryz.isAgg200
 z232:=Tryz.sizeOf200
 v232:=Tryz.zeroValue200
 t233:=Tryz.underlying201
 a233:=Tryz.isAgg201
 z233:=Tryz.sizeOf201
 v233:=Tryz.zeroValue201
 g15:=by kernel_rfl
 g16:=by kernel_rfl
 g17:=by kernel_rfl
 g18:=by kernel_rfl
 g19:=by kernel_rfl
 t80:=Tryz.underlying110
 a80:=Tryz.isAgg110
 z80:=Tryz.sizeOf110
 v80:=Tryz.zeroValue110
 i0:=by kernel_rfl
 i2:=by kernel_rfl
 i3:=by kernel_rfl
 i4:=by kernel_rfl
 i5:=by kernel_rfl
 i9:=by kernel_rfl
 i20:=by kernel_rfl
 i21:=by kernel_rfl
 i37:=by kernel_rfl
 i46:=by kernel_rfl
 i51:=by kernel_rfl
 i53:=by kernel_rfl
 i75:=by kernel_rfl
 i80:=by kernel_rfl
 i85:=by kernel_rfl
 i127:=by kernel_rfl
 i143:=by kernel_rfl
 i145:=by kernel_rfl
 i167:=by kernel_rfl
 i168:=by kernel_rfl
 i171:=by kernel_rfl
 i173:=by kernel_rfl
 i175:=by kernel_rfl
 i210:=by kernel_rfl
 i212:=by kernel_rfl
 i232:=by kernel_rfl
 i233:=by kernel_rfl
 m15:=by kernel_rfl
 m16:=by kernel_rfl
 m17:=by kernel_rfl
 m18:=by kernel_rfl
 m19:=by kernel_rfl
 c0:=by kernel_rfl
 c2:=by kernel_rfl
 c3:=by kernel_rfl
 c4:=by kernel_rfl
 c5:=by kernel_rfl
 c9:=by kernel_rfl
 c20:=by kernel_rfl
 c21:=by kernel_rfl
 c37:=by kernel_rfl
 c46:=by kernel_rfl
 c51:=by kernel_rfl
 c53:=by kernel_rfl
 c75:=by kernel_rfl
 c80:=by kernel_rfl
 c85:=by kernel_rfl
 c127:=by kernel_rfl
 c143:=by kernel_rfl
 c145:=by kernel_rfl
 c167:=by kernel_rfl
 c168:=by kernel_rfl
 c171:=by kernel_rfl
 c173:=by kernel_rfl
 c175:=by kernel_rfl
 c210:=by kernel_rfl
 c212:=by kernel_rfl
 c213:=by kernel_rfl
 c232:=by kernel_rfl
 c233:=by kernel_rfl }
theorem sh_strconv_ParseInt_10_at64_ok (s : ByteArray) (hmax : s.size≤9223372036854775806) (v : Int) (h : Lib.parseIntB 64 s.data.toList = .ok v) (w : World) :
  Calls Tryz.prog 126 #[.string s,.int .i64 10,.int .i64 64] w fun e w'=>e = .returned (.tuple #[.int .i64 v,.nilIface])∧(w' = w∨∃ t,w' = Lib.bytesWorld w 5 t):=Any.strconv_ParseInt_10_at64_ok sh_laysC174 s hmax v h w
theorem sh_strconv_ParseInt_10_at64_range_var (s : ByteArray) (hlim : s.size≤281474976710656) (h : Lib.parseIntB 64 s.data.toList = .range) (tp : TypeId) (p : Value) (w : World) (hvar : w.var? Tryz.prog "strconv.ErrRange" = some #[.iface tp p]) :
  Calls Tryz.prog 126 #[.string s,.int .i64 10,.int .i64 64] w fun e w'=>∃ N,e = .returned (.tuple #[.int .i64 (Lib.intSat 64 s.data.toList),.iface 168 (.pointer (some ⟨N,0,none⟩))])∧w.heap.size≤N∧w'.heap[N]? = some (.cells #[.string ⟨#[80,97,114,115,101,73,110,116]⟩,.string s,.iface tp p] 185 (0,0))∧Below w.heap.size w w':=Any.strconv_ParseInt_10_at64_range_var sh_laysC174 s hlim h tp p w hvar
def sh_laysGw17_ren : Go.Shelf.Ren:=⟨fun | 17=>116 | 15=>142 | 20=>162 | n=>n,fun | 9=>9 | 23=>127 | 4=>4 | 3=>3 | 0=>0 | 21=>21 | n=>n,fun | n=>n⟩
theorem sh_laysGw17 : Go.Proofs.LaysGw.n17 Tryz.prog sh_laysGw17_ren:={
 mixed:=by kernel_rfl
 f15:=Tryz.func142.trans (congrArg some (by kernel_rfl))
 f17:=Tryz.func116.trans (congrArg some (by kernel_rfl))
 f20:=Tryz.func162.trans (congrArg some (by kernel_rfl))
 t0:=Tryz.underlying0
 a0:=Tryz.isAgg0
 z0:=Tryz.sizeOf0
 v0:=Tryz.zeroValue0
 i0:=by kernel_rfl
 t3:=Tryz.underlying3
 a3:=Tryz.isAgg3
 z3:=Tryz.sizeOf3
 v3:=Tryz.zeroValue3
 i3:=by kernel_rfl
 t4:=Tryz.underlying4
 a4:=Tryz.isAgg4
 z4:=Tryz.sizeOf4
 v4:=Tryz.zeroValue4
 i4:=by kernel_rfl
 t9:=Tryz.underlying9
 a9:=Tryz.isAgg9
 z9:=Tryz.sizeOf9
 v9:=Tryz.zeroValue9
 i9:=by kernel_rfl
 t21:=Tryz.underlying21
 a21:=Tryz.isAgg21
 z21:=Tryz.sizeOf21
 v21:=Tryz.zeroValue21
 i21:=by kernel_rfl
 t23:=Tryz.underlying127
 a23:=Tryz.isAgg127
 z23:=Tryz.sizeOf127
 v23:=Tryz.zeroValue127
 i23:=by kernel_rfl }
theorem sh_strings_ContainsFunc_grows (g : Nat) (lb : Array Value) (eg : ∀ args w,(callFunc g args).run Tryz.prog w = .ok (.enter g args) w) (p : Nat→Bool) (s : ByteArray) (w : World) (hp : PredGrows Tryz.prog g lb p w) :
  Calls Tryz.prog 116 #[.string s,.func (.func g) #[] lb] w fun e w'=>e = .returned (.bool (decide (0≤Lib.idxFunc p true s)))∧Below w.heap.size w w':=Any.strings_ContainsFunc_grows sh_laysGw17 g lb eg p s w hp
end Go.Proofs.YtefelnhpfdcleaaGreatDoor
namespace Go.Sx
open Go Go.ChangeShapes Go.WideShapes Go.RowKit
def oldI (W : World) : Nat→Nat→Prop:=fun b _=>b < W.heap.size
def ROL (I : Nat→Nat→Prop) (w : World) (cs : List SV) (vs : List Value) : Prop:=cs.length = vs.length∧(∀ (i : Nat) (s : SV) (v : Value),cs[i]? = some s→vs[i]? = some v→RO I w s v)∧∀ v∈vs,v.oneCell' = true
theorem ROL.one {I : Nat→Nat→Prop} {w : World} {s : SV} {v : Value} (h : RO I w s v) (h1 : v.oneCell' = true) : ROL I w [s] [v] :=
 ⟨rfl,fun i s' v' a b=>by cases i with | zero=>simp at a b; subst a b; exact h | succ i=>simp at a,by simpa using h1⟩
theorem ROL.nil {I : Nat→Nat→Prop} {w : World} : ROL I w [] []:=⟨rfl,by simp,by simp⟩
theorem ROL.app {I : Nat→Nat→Prop} {w : World} {cs cs' : List SV} {vs vs' : List Value} (h : ROL I w cs vs) (h' : ROL I w cs' vs') : ROL I w (cs ++ cs') (vs ++ vs'):=by
 refine ⟨by simp [h.1,h'.1],fun i s v a b=>?_,fun v hv=>?_⟩
 ·rw [List.getElem?_append] at a b
  rw [h.1] at a
  split at a
  ·rename_i hi
   rw [if_pos hi] at b
   exact h.2.1 i s v a b
  ·rename_i hi
   rw [if_neg hi] at b
   exact h'.2.1 _ s v a b
 ·rcases List.mem_append.1 hv with hv | hv
  ·exact h.2.2 v hv
  ·exact h'.2.2 v hv
section
variable {P : Program}
def OpenT (P : Program) (t : TypeId) {α : Type} (enc : α→List SV) : Prop :=
 ∀ (H : Type) (tok : TypeId×Value→H) (W : World) (spare : Nat→Bool) (held : Bool) (fuel : Nat) (cs : List Value) (x : DataW H×List MemPlace),DataW.trod tok P W 0 spare held fuel t cs = some x→∃ a,ROL (oldI W) W (enc a) cs
theorem OpenT.int {t : TypeId} {k : IntKind} (ht : P.underlying t = some (.int k)) : OpenT P t (fun n : Int=>[.int k (.a n)]):=by
 intro H tok W spare held fuel cs x h
 obtain ⟨n,rfl,_,_⟩:=DataW.trod_int ht h
 exact ⟨n,.one (.int rfl) rfl⟩
theorem OpenT.intB {t : TypeId} {k : IntKind} (ht : P.underlying t = some (.int k)) : OpenT P t (fun n : {n : Int // (Lit.int k n).wf = true}=>[.int k (.a n.1)]):=by
 intro H tok W spare held fuel cs x h
 obtain ⟨n,rfl,_,hw⟩:=DataW.trod_int ht h
 exact ⟨⟨n,hw⟩,.one (.int rfl) rfl⟩
theorem OpenT.bool {t : TypeId} (ht : P.underlying t = some .bool) : OpenT P t (fun b : Bool=>[.bool (.a b)]):=by
 intro H tok W spare held fuel cs x h
 obtain ⟨n,rfl,_⟩:=DataW.trod_bool ht h
 exact ⟨n,.one (.bool rfl) rfl⟩
theorem OpenT.str {t : TypeId} (ht : P.underlying t = some .string) : OpenT P t (fun s : {s : List UInt8 // s.length≤maxLen}=>[.str s.1]):=by
 intro H tok W spare held fuel cs x h
 obtain ⟨s,rfl,_,hs⟩:=DataW.trod_string ht h
 exact ⟨⟨s.data.toList,by simpa using hs⟩,.one (.str (by simp [bytes])) rfl⟩
theorem OpenT.map {t : TypeId} {α β : Type} {enc : α→List SV} {enc' : β→List SV} (h : OpenT P t enc) (f : α→β) (hf : ∀ a,enc' (f a) = enc a) : OpenT P t enc':=by
 intro H tok W spare held fuel cs x hx
 obtain ⟨a,ha⟩:=h H tok W spare held fuel cs x hx
 exact ⟨f a,by rw [hf]; exact ha⟩
theorem cells_get {W : World} {base : Nat} {a : Addr} {n : Nat} {cs : List Value} (h : W.cells? base a n = some cs) : cs.length = n∧∀ i,i < n→W.cell? (a.add i) = cs[i]?:=by
 unfold World.cells? at h
 split at h
 ·have h2:=mapM_some_get h
  have h1 : cs.length = n:=by simpa using mapM_some_length h
  refine ⟨h1,fun i hi=>?_⟩
  exact h2 i i (by simp [hi])
 ·cases h
theorem cell_lt {W : World} {b o : Nat} {sp : Option Nat} {v : Value} (h : W.cell? ⟨b,o,sp⟩ = some v) : b < W.heap.size∧sp = none:=by
 unfold World.cell? at h
 split at h
 ·rename_i c _ _ hc
  split at h
  ·cases h
  ·rename_i hs
   exact ⟨(Array.getElem?_eq_some_iff.1 hc).1,by cases sp<;>simp at hs ⊢⟩
 ·cases h
def rowOfL {α : Type} (enc : α→List SV) (l : List α) (i : Nat) : List SV:=match l[i]? with
 | some a=>enc a
 | none=>[]
def slC {α : Type} (sz : Nat) (enc : α→List SV) (x : Bool×List α) : List SV:=[.sl (.a x.1) (.a x.2.length) sz (rowOfL enc x.2)]
theorem OpenT.slice {t e : TypeId} {α : Type} {sz : Nat} {enc : α→List SV} (ht : P.underlying t = some (.slice e)) (hz : P.cellsOf e = sz) (h0 : 0 < sz) (he : OpenT P e enc) : OpenT P t (fun x : {x : Bool×List α // x.1 = true→x.2 = []}=>slC sz enc x.1):=by
 intro H tok W spare held fuel cs x h
 rcases DataW.trod_slice ht h with ⟨rfl,_⟩ | ⟨a,len,cap,elems,rest,n,_,rfl,_,_,hle,hcap,hlen,hel,_,_⟩
 ·exact ⟨⟨(true,[]),fun _=>rfl⟩,.one (.slnil rfl rfl) rfl⟩
 ·rw [hz] at hel
  have key : ∀ i,i < len→∃ (al : α) (vs : List Value),ROL (oldI W) W (enc al) vs∧vs.length = sz∧∀ j,j < sz→W.cell? ((a.add (i * sz)).add j) = vs[j]?:=by
   intro i hi
   have h1:=hel i hi
   rw [List.getElem?_eq_getElem (by omega)] at h1
   cases hc : W.cells? 0 (a.add (i * sz)) sz with
   | none=>rw [hc] at h1; cases h1
   | some vs =>
    rw [hc] at h1
    obtain ⟨al,hal⟩:=he H tok W _ _ _ vs _ h1
    have hg:=cells_get hc
    exact ⟨al,vs,hal,hg.1,hg.2⟩
  have gen : ∀ len : Nat,(∀ i,i < len→∃ (al : α) (vs : List Value),ROL (oldI W) W (enc al) vs∧vs.length = sz∧∀ j,j < sz→W.cell? ((a.add (i * sz)).add j) = vs[j]?)→∃ (l : List α) (g : Nat→Nat→Value),l.length = len∧∀ i al,l[i]? = some al→(enc al).length = sz∧(∀ j,j < sz→W.cell? ((a.add (i * sz)).add j) = some (g i j)∧(g i j).oneCell' = true)∧∀ j s,(enc al)[j]? = some s→RO (oldI W) W s (g i j):=by
   clear key hel hlen hcap hle h
   intro len key
   induction len with
   | zero=>exact ⟨[],fun _ _=>undef,rfl,by simp⟩
   | succ len ih =>
    obtain ⟨l,g,hl,hg⟩:=ih (fun i hi=>key i (by omega))
    obtain ⟨al,vs,k1,k2,k3⟩:=key len (by omega)
    refine ⟨l ++ [al],fun i j=>if i = len then vs.getD j undef else g i j,by simp [hl],fun i al' hi=>?_⟩
    rw [List.getElem?_append] at hi
    split at hi
    ·rename_i hlt
     have hne : i≠len:=by omega
     obtain ⟨g1,g2,g3⟩:=hg i al' hi
     exact ⟨g1,fun j hj=>by simpa only [if_neg hne] using g2 j hj,fun j s hs=>by simpa only [if_neg hne] using g3 j s hs⟩
    ·rename_i hlt
     have hil : i = len:=by
      have:=(List.getElem?_eq_some_iff.1 hi).1
      simp at this; omega
     subst hil
     have h00 : i - l.length = 0:=by omega
     rw [h00] at hi
     simp at hi
     subst hi
     refine ⟨by rw [k1.1,k2],fun j hj=>?_,fun j s hs=>?_⟩
     ·simp only [if_pos]
      have hjv : vs[j]? = some vs[j]:=List.getElem?_eq_getElem (by omega)
      rw [k3 j hj,hjv]
      simp only [List.getD_eq_getElem?_getD,hjv,Option.getD_some,true_and]
      exact k1.2.2 _ (List.getElem_mem _)
     ·simp only [if_pos]
      have hjl : j < vs.length:=by rw [←k1.1]; exact (List.getElem?_eq_some_iff.1 hs).1
      have hjv : vs[j]? = some vs[j]:=List.getElem?_eq_getElem hjl
      simp only [List.getD_eq_getElem?_getD,hjv,Option.getD_some]
      exact k1.2.1 j s _ hs hjv
  obtain ⟨l,g,hl,hg⟩:=gen len key
  have hspot : 0 < len→a.spot = none:=fun hpos=>by
   obtain ⟨al,hal⟩ : ∃ al,l[0]? = some al:=⟨_,List.getElem?_eq_getElem (by omega)⟩
   obtain ⟨_,g2,_⟩:=hg 0 al hal
   have:=(g2 0 h0).1
   obtain ⟨b,o,sp⟩:=a
   simp only [Nat.zero_mul,Addr.add,if_pos] at this
   exact (cell_lt this).2
  refine ⟨⟨(false,l),fun h=>by cases h⟩,.one (.sl g rfl (by simp [ST.den,hl]) hle hcap hspot (fun i hi=>?_) (fun i j hi hj=>?_) (fun i j hi hj=>?_) (fun i j s hi hs=>?_)) rfl⟩
  ·obtain ⟨al,hal⟩ : ∃ al,l[i]? = some al:=⟨_,List.getElem?_eq_getElem (by omega)⟩
   simp only [rowOfL,hal]
   exact (hg i al hal).1
  ·obtain ⟨al,hal⟩ : ∃ al,l[i]? = some al:=⟨_,List.getElem?_eq_getElem (by omega)⟩
   exact ((hg i al hal).2.1 j hj).2
  ·obtain ⟨al,hal⟩ : ∃ al,l[i]? = some al:=⟨_,List.getElem?_eq_getElem (by omega)⟩
   have hc:=((hg i al hal).2.1 j hj).1
   have e : (a.add (i * sz)).add j = ⟨a.block,a.off + (i * sz + j),none⟩:=by
    have hs:=hspot (by omega)
    obtain ⟨b,o,sp⟩:=a
    simp only at hs
    subst hs
    simp only [add_lit]
    congr 1
    omega
   rw [e] at hc
   exact ⟨hc,(cell_lt hc).1⟩
  ·obtain ⟨al,hal⟩ : ∃ al,l[i]? = some al:=⟨_,List.getElem?_eq_getElem (by omega)⟩
   simp only [rowOfL,hal] at hs
   exact (hg i al hal).2.2 j s hs
def OpenF (P : Program) (fs : List (Nat×TypeId)) (o len : Nat) {α : Type} (enc : α→List SV) : Prop :=
 ∀ (H : Type) (tok : TypeId×Value→H) (W : World) (spare : Nat→Bool) (held : Bool) (cs : List Value),cs.length = o + len→(∀ p∈fs,∃ fuel x,DataW.trod tok P W 0 spare held fuel p.2 ((cs.drop p.1).take (P.cellsOf p.2)) = some x)→∃ a,ROL (oldI W) W (enc a) (cs.drop o)
theorem OpenF.nil {o : Nat} : OpenF P [] o 0 (fun _ : Unit=>[]):=by
 intro H tok W spare held cs hl _
 rw [List.drop_of_length_le (by omega)]
 exact ⟨(),.nil⟩
theorem OpenF.cons {fs : List (Nat×TypeId)} (o n len : Nat) {t : TypeId} {α β : Type} {enc : α→List SV} {enc' : β→List SV} (hn : P.cellsOf t = n) (h : OpenT P t enc) (hs : OpenF P fs (o + n) len enc') : OpenF P ((o,t) :: fs) o (n + len) (fun x : α×β=>enc x.1 ++ enc' x.2):=by
 intro H tok W spare held cs hl hx
 obtain ⟨fuel,x,h1⟩:=hx (o,t) (List.mem_cons_self ..)
 simp only [hn] at h1
 obtain ⟨a,ha⟩:=h H tok W _ _ _ _ _ h1
 obtain ⟨b,hb⟩:=hs H tok W spare held cs (by omega) fun p hp=>hx p (List.mem_cons_of_mem _ hp)
 refine ⟨(a,b),?_⟩
 have e : cs.drop o = (cs.drop o).take n ++ cs.drop (o + n):=by rw [←List.drop_drop,List.take_append_drop]
 rw [e]
 exact ha.app hb
theorem OpenT.struct {t : TypeId} {fields : Array Field} {fs : List (Nat×TypeId)} {len : Nat} {α : Type} {enc : α→List SV} (ht : P.underlying t = some (.struct fields)) (hfs : (fields.toList.map fun f=>(f.offset,f.type)) = fs) (hlen : P.cellsOf t = len) (h : OpenF P fs 0 len enc) : OpenT P t enc:=by
 intro H tok W spare held fuel cs x hx
 obtain ⟨xs,n,_,_,hl,hxl,hf⟩:=DataW.trod_struct ht hx
 have:=h H tok W spare held cs (by omega) fun p hp=>?_
 ·simpa using this
 ·rw [←hfs,List.mem_map] at hp
  obtain ⟨f,hf1,rfl⟩:=hp
  obtain ⟨i,hi,hfi⟩:=List.mem_iff_getElem.1 hf1
  have hi' : i < fields.size:=by simpa using hi
  have:=hf i f (by rw [←hfi]; simp [hi'])
  rw [List.getElem?_eq_getElem (by omega)] at this
  exact ⟨n,_,this⟩
theorem law_run {gl : List (Nat×SV)} {f : FuncId} {xas : List SV} {W : World} {args : List Value} (h : CallsTo P gl f xas [] (.bool (.a true)) [])
  (hgl : ∀ g s,look g gl = some s→RO (oldI W) W s (.pointer (some ⟨g,0,none⟩))∧g < W.heap.size∧glBlk W g s) (hl : xas.length = args.length) (hr : ∀ (i : Nat) (s : SV) (v : Value),xas[i]? = some s→args[i]? = some v→RO (oldI W) W s v) :
  Calls P f ⟨args⟩ W fun e W'=>e = .returned (.bool true)∧Below W.heap.size W W':=by
 refine (h ⟨W,fun _=>False,oldI W,fun _=>none,fun _=>none,fun _=>none,[]⟩ ⟨fun _=>none,fun _=>none,fun _=>none,fun _=>none,fun _=>none,oldI W⟩ W args rfl (fun _ _ h=>h) (fun _ h=>absurd h (by simp)) ⟨rfl,rfl,rfl,Nat.le_refl _,fun _ _ _=>rfl,fun _ _ h=>⟨h,rfl⟩,fun _ _ h=>h,fun _ _ h=>.inl h,fun _ _ h=>(by cases h),⟨fun _ _ h=>(by cases h),fun _ _ h=>(by cases h),fun _ _ h=>(by cases h)⟩⟩ (fun g s h=>⟨(hgl g s h).1,(hgl g s h).2.1,fun h=>h,(hgl g s h).2.2⟩) (fun h=>?_) ⟨hl,fun i s v a b=>.ro (hr i s v a b)⟩).mono fun e W' hq=>?_
 ·simp only [hfOf,nth]
  exact ⟨rfl,rfl,rfl,rfl⟩
 ·obtain ⟨v,E',rfl,hb,_,hv⟩:=hq
  rw [hv.bool_inv]
  exact ⟨rfl,⟨hb.os,hb.tape,hb.output,hb.size,fun k hk=>hb.old k hk (fun h=>h)⟩⟩
section
variable {H : Type} {enc : TypeId×Value→H}
theorem post_of_below {f : Func} {s : ChangeSpec} {apart fresh handsOn again : Bool} {W W' : World} {args : Array Value} {v : Value} {ds gs : List (DataW H)} {before pa pv : List MemPlace}
  (hW : DataW.Whole enc P f.params.toList s.vars apart W args.toList ds gs before)
  (hres : ∀ (b : Nat) (sp : Nat→Bool) (hd : Bool),DataW.TrodAll enc P W' b sp hd f.resultTypes.toList (v.resultList f.resultTypes.size) (s.fn H (ds ++ gs)).results [])
  (hargs : ∀ sp : Nat→Bool,(∀ p∈before,sp p.block = true)→DataW.TrodAll enc P W' 0 sp true f.params.toList args.toList (s.fn H (ds ++ gs)).args pa)
  (hvars : ∀ sp : Nat→Bool,(∀ p∈before,sp p.block = true)→DataW.TrodVars enc P W' sp s.vars (s.fn H (ds ++ gs)).vars pv)
  (hps : before = pa ++ pv) (hb : Below W.heap.size W W')
  (hok : ∀ (j : Nat) (t : TypeId) (r : Value),f.resultTypes[j]? = some t→(v.resultList f.resultTypes.size)[j]? = some r→Value.okWide P W' .any 0 t r) :
  s.post enc P f apart fresh handsOn again W args v W':=by
 have hlt : ∀ p∈before,p.block < W.heap.size:=fun p hp=>hW.lt p hp
 have hold : ∀ p∈before,(fun b=>decide (b < W.heap.size)) p.block = true:=fun p hp=>by simpa using hlt p hp
 refine ⟨ds,gs,before,[],pa,pv,hW,hres _ _ _,hargs _ hold,hvars _ hold,World.keptBut_mono (fun p hp=>⟨hp,?_⟩) (hb.frame (·∈before)),fun _=>?_⟩
 ·rw [hps,List.mem_append] at hp
  exact Or.inr hp
 ·obtain ⟨_,_,_,_,_,hz,hn⟩:=hW
  refine ⟨hok,_,_,([] ++ pa) ++ pv,⟨[] ++ pa,pv,trodAll_append (hargs _ (fun _ _=>rfl)) (hres _ _ _),hvars _ (fun _ _=>rfl),rfl,?_,?_⟩,?_⟩
  ·intro b off hp
   have hin : MemPlace.cell b off∈before:=by rw [hps]; simpa using hp
   rw [hb.frozen (hlt _ hin)]
   exact hz b off hin
  ·intro ha
   have:=hn ha
   rw [hps] at this
   simpa using this
  ·intro p hp _
   rw [hps]
   simpa using hp
theorem trodAll_below (hl : laidOutB P = true) {W W' : World} {sp : Nat→Bool} (hb : Below W.heap.size W W') : ∀ {ts : List TypeId} {vs : List Value} {ds : List (DataW H)} {ps : List MemPlace},(∀ t∈ts,P.readableRec t = true∧t < P.types.size)→
  DataW.TrodAll enc P W 0 (fun _=>true) true ts vs ds ps→(∀ p∈ps,p.block < W.heap.size)→(∀ p∈ps,sp p.block = true)→DataW.TrodAll enc P W' 0 sp true ts vs ds ps
 | [],[],[],_,_,h,_,_=>h
 | t :: ts,v :: vs,d :: ds,ps,ht,h,hlt,hs=>by
  obtain ⟨p,q,h1,h2,rfl⟩:=h
  refine ⟨p,q,WideElems.Trod_stays hl (ht t (List.mem_cons_self ..)).1 (ht t (List.mem_cons_self ..)).2 h1 (fun x hx=>hb.same (hlt x (List.mem_append_left _ hx))) (fun x hx=>hs x (List.mem_append_left _ hx)),?_,rfl⟩
  exact trodAll_below hl hb (fun t h=>ht t (List.mem_cons_of_mem _ h)) h2 (fun x hx=>hlt x (List.mem_append_right _ hx)) (fun x hx=>hs x (List.mem_append_right _ hx))
 | [],_ :: _,_,_,_,h,_,_=>h.elim
 | [],[],_ :: _,_,_,h,_,_=>h.elim
 | _ :: _,[],_,_,_,h,_,_=>h.elim
 | _ :: _,_ :: _,[],_,_,h,_,_=>h.elim
theorem law_post (hl : laidOutB P = true) {fn : Func} {s : ChangeSpec} {apart fresh handsOn again : Bool} {W W' : World} {args : Array Value} {ds gs : List (DataW H)} {before : List MemPlace} {tb : TypeId}
  (hts : ∀ t∈fn.params.toList,P.readableRec t = true∧t < P.types.size) (hv : s.vars = []) (hres : fn.resultTypes = #[tb]) (htb : P.underlying tb = some .bool)
  (hW : DataW.Whole enc P fn.params.toList s.vars apart W args.toList ds gs before) (hfn : (s.fn H (ds ++ gs)) = { results:=[.lit (.bool true)],args:=ds }) (hb : Below W.heap.size W W') :
  s.post enc P fn apart fresh handsOn again W args (.bool true) W':=by
 have hW':=hW
 obtain ⟨p,q,hA,hV,rfl,hz,hn⟩:=hW
 have hlt : ∀ x∈p ++ q,x.block < W.heap.size:=fun x hx=>hW'.lt x hx
 have hq : gs = []∧q = []:=by rw [hv] at hV; exact trodVars_none hV
 obtain ⟨rfl,rfl⟩:=hq
 refine post_of_below (pa:=p) (pv:=[]) hW' (fun b sp hd=>?_) (fun sp hs=>?_) (fun sp hs=>?_) (by simp) hb (ok_one hres rfl (okWide_bool_mk htb _))
 ·rw [hfn,hres]
  exact trodAll_mk1 (shut_bool htb true)
 ·rw [hfn]
  exact trodAll_below hl hb hts hA (fun x hx=>hlt x (by simp [hx])) (fun x hx=>hs x (by simp [hx]))
 ·rw [hfn,hv]
  rfl
end
theorem arg_one {I : Nat→Nat→Prop} {W : World} {s : SV} {v : Value} (hn : ∀ a,v≠.agg a) (h : ROL I W [s] v.cells.toList) : RO I W s v:=by
 cases v with
 | agg a=>exact absurd rfl (hn a)
 | _=>exact h.2.1 0 s _ rfl (by simp [Value.cells])
theorem arg_int {I : Nat→Nat→Prop} {W : World} {r : Reach} {base : Nat} {t : TypeId} {k : IntKind} {s : SV} {v : Value} (ht : P.underlying t = some (.int k)) (hv : Value.okWide P W r base t v) (h : ROL I W [s] v.cells.toList) : RO I W s v:=by
 obtain ⟨n,rfl⟩:=okWide_int ht hv
 exact arg_one (fun _ h=>by cases h) h
theorem arg_string {I : Nat→Nat→Prop} {W : World} {r : Reach} {base : Nat} {t : TypeId} {s : SV} {v : Value} (ht : P.underlying t = some .string) (hv : Value.okWide P W r base t v) (h : ROL I W [s] v.cells.toList) : RO I W s v:=by
 obtain ⟨n,rfl⟩:=okWide_string ht hv
 exact arg_one (fun _ h=>by cases h) h
theorem arg_struct {I : Nat→Nat→Prop} {W : World} {r : Reach} {base : Nat} {t : TypeId} {fs : Array Field} {cs : List SV} {v : Value} (ht : P.underlying t = some (.struct fs)) (hv : Value.okWide P W r base t v) (h : ROL I W cs v.cells.toList) : RO I W (.agg cs) v:=by
 obtain ⟨a,rfl,_⟩:=okWide_struct ht hv
 exact .agg (vs:=a.toList) h.1 h.2.1
end
end Go.Sx
namespace Go.Proofs.YtefelnhpfdcleaaGreatDoor
open Go Go.Sx Go.RowKit Go.Sort
set_option maxRecDepth 100000
set_option maxHeartbeats 2000000
theorem relL_three {E : Env} {w : World} {a b c : SV} {vals : List Value} (h : RelL E w [a,b,c] vals) : ∃ v u t,vals = [v,u,t]∧Rel E w a v∧Rel E w b u∧Rel E w c t:=by
 match vals,h with
 | [v,u,t],h=>exact ⟨v,u,t,rfl,h.2 0 a v rfl rfl,h.2 1 b u rfl rfl,h.2 2 c t rfl rfl⟩
 | [],h=>exact absurd h.1 (by simp)
 | [_],h=>exact absurd h.1 (by simp)
 | [_,_],h=>exact absurd h.1 (by simp)
 | _ :: _ :: _ :: _ :: _,h=>exact absurd h.1 (by simp)
theorem idxB_ok : FnOk Tryz.prog [] 105 spIdxB:=by
 refine ⟨⟨Tryz.f105,_,Tryz.func105,rfl,by kernel_rfl⟩,fun xs ls K h=>?_⟩
 obtain ⟨s,c,rfl,rfl,hc,h⟩:=h
 refine ⟨_,_,h _ rfl,callsTo_below fun E B w vals _ _ _ hr=>?_⟩
 obtain ⟨v,u,rfl,hv,hu⟩:=relL_two hr
 rw [rel_str hv,rel_int hu]
 refine (sh_strings_IndexByte ⟨s.toArray⟩ c w).mono ?_
 rintro e w' ⟨rfl,rfl⟩
 exact ⟨_,rfl,fun E=>.ro (.int rfl),Below.refl _ _⟩
def spHasPre : FSpec:=fun _ xs ls K=>∃ (s p : List UInt8),xs = [.str s,.str p]∧ls = []∧∀ r,r = Lib.hasPrefix s p→K (.bool (.a r)) []
theorem hasPre_ok : FnOk Tryz.prog gl 71 spHasPre:=by
 refine ⟨⟨Tryz.f71,_,Tryz.func71,rfl,by kernel_rfl⟩,fun xs ls K h=>?_⟩
 obtain ⟨s,p,rfl,rfl,h⟩:=h
 refine ⟨_,_,h _ rfl,callsTo_below fun E B w vals _ _ _ hr=>?_⟩
 obtain ⟨v,u,rfl,hv,hu⟩:=relL_two hr
 rw [rel_str hv,rel_str hu]
 refine (sh_strings_HasPrefix ⟨s.toArray⟩ ⟨p.toArray⟩ w).mono ?_
 rintro e w' ⟨rfl,rfl⟩
 exact ⟨_,rfl,fun E=>.ro (.bool rfl),Below.refl _ _⟩
def spCutSuf : FSpec:=fun _ xs ls K=>∃ (s p : List UInt8),xs = [.str s,.str p]∧ls = []∧s.length≤9223372036854775807∧∀ r b,r = Lib.trimSuffix s p→b = Lib.hasSuffix s p→K (.tup [.str r,.bool (.a b)]) []
theorem cutSuf_ok : FnOk Tryz.prog gl 90 spCutSuf:=by
 refine ⟨⟨Tryz.f90,_,Tryz.func90,rfl,by kernel_rfl⟩,fun xs ls K h=>?_⟩
 obtain ⟨s,p,rfl,rfl,hs,h⟩:=h
 refine ⟨_,_,h _ _ rfl rfl,callsTo_below fun E B w vals _ _ _ hr=>?_⟩
 obtain ⟨v,u,rfl,hv,hu⟩:=relL_two hr
 rw [rel_str hv,rel_str hu]
 refine (sh_strings_CutSuffix ⟨s.toArray⟩ ⟨p.toArray⟩ w (by simpa [ByteArray.size] using hs)).mono ?_
 rintro e w' ⟨rfl,rfl⟩
 refine ⟨_,rfl,fun E=>?_,Below.refl _ _⟩
 refine .tup rfl fun i x y a b=>?_
 match i,a,b with
 | 0,a,b=>cases a; cases b; exact .ro (.str rfl)
 | 1,a,b=>cases a; cases b; exact .ro (.bool rfl)
def spCont1 : FSpec:=fun _ xs ls K=>∃ (s : List UInt8) (c : UInt8),xs = [.str s,.str [c]]∧ls = []∧∀ r,r = decide (0≤Lib.indexByte s c)→K (.bool (.a r)) []
theorem cont1_ok : FnOk Tryz.prog gl 91 spCont1:=by
 refine ⟨⟨Tryz.f91,_,Tryz.func91,rfl,by kernel_rfl⟩,fun xs ls K h=>?_⟩
 obtain ⟨s,c,rfl,rfl,h⟩:=h
 refine ⟨_,_,h _ rfl,callsTo_below fun E B w vals _ _ _ hr=>?_⟩
 obtain ⟨v,u,rfl,hv,hu⟩:=relL_two hr
 rw [rel_str hv,rel_str hu]
 refine (sh_strings_Contains_one ⟨s.toArray⟩ c w).mono ?_
 rintro e w' ⟨rfl,rfl⟩
 exact ⟨_,rfl,fun E=>.ro (.bool rfl),Below.refl _ _⟩
theorem kPow : Tryz.prog.globalNamed "internal/strconv.uint64pow10" = some 6:=by kernel_rfl
theorem kErrR : Tryz.prog.globalNamed "strconv.ErrRange" = some 5:=by kernel_rfl
theorem tab_of {B : Bs} (hg : glOk B gl) : Lib.TabIs Tryz.prog B.w0 "internal/strconv.uint64pow10" .u64 Lib.pow10Tab:=by
 obtain ⟨h1,h2,h3,C,t,fr,h4,h5⟩:=hg 6 (.rarr 20 1 powRow) rfl
 unfold Lib.TabIs World.var?
 rw [kPow]
 simp only [Option.bind_some,h4,Option.some.injEq]
 generalize hp : Value.pointer (some ⟨6,0,none⟩) = p at h1
 cases h1 with
 | rarr g hs hl h1 hcell hrel =>
  cases hp
  refine Array.ext (by rw [h5]; simp [Lib.pow10Tab_length]) fun i hi hi'=>?_
  rw [h5] at hi
  have hc:=(hcell i 0 (by omega) (by omega)).1
  have hr:=hrel i 0 (.int .u64 (.a (Lib.pow10Tab.getD i 0))) (by omega) rfl
  have e : C[i]? = some (g i 0):=by
   rw [←hc]
   simp [World.cell?,h4]
  rw [Array.getElem?_eq_getElem (by omega)] at e
  have e2 : g i 0 = .int .u64 (Lib.pow10Tab.getD i 0):=by
   generalize g i 0 = v at hr
   cases hr with
   | int h=>rw [←h]; rfl
  rw [e2] at e
  rw [Option.some.inj e]
  have hi20 : i < Lib.pow10Tab.length:=by rw [Lib.pow10Tab_length]; omega
  simp [List.getD_eq_getElem?_getD,List.getElem?_eq_getElem hi20]
theorem err_of {B : Bs} (hg : glOk B gl) : ∃ tp p,B.w0.var? Tryz.prog "strconv.ErrRange" = some #[.iface tp p]:=by
 obtain ⟨h1,h2,h3,C,t,fr,h4,h5⟩:=hg 5 (.rarr 1 1 errRow) rfl
 unfold World.var?
 rw [kErrR]
 simp only [Option.bind_some,h4,Option.some.injEq]
 generalize hp : Value.pointer (some ⟨5,0,none⟩) = p at h1
 cases h1 with
 | rarr g hs hl h1 hcell hrel =>
  cases hp
  have hc:=(hcell 0 0 (by omega) (by omega)).1
  have hr:=hrel 0 0 (.ifc (.l false)) (by omega) rfl
  have e : C[0]? = some (g 0 0):=by
   rw [←hc]
   simp [World.cell?,h4]
  cases hr with
  | ifc h =>
   rcases h with ⟨_,h⟩ | ⟨⟨tp,q,h⟩,_⟩
   ·cases h
   ·rw [h] at e
    refine ⟨tp,q,?_⟩
    refine Array.ext (by rw [h5]; rfl) fun i hi hi'=>?_
    have : i = 0:=by rw [h5] at hi; omega
    subst this
    rw [Array.getElem?_eq_getElem (by omega)] at e
    exact Option.some.inj e
def spItoa : FSpec:=fun _ xs ls K=>∃ (n : Int),xs = [.int .i64 (.a n)]∧ls = []∧-9223372036854775808≤n∧n≤9223372036854775807∧∀ r,r = Lib.itoa n→K (.str r) []
theorem below_grow {w : World} {k : Nat} {os : Array Obj} : Below w.heap.size w (grow (w.drewN k) os):=by
 refine ⟨rfl,rfl,rfl,?_,fun j hj=>?_⟩
 ·simp [grow,World.drewN]
 ·show (w.heap ++ os)[j]? = w.heap[j]?
  rw [Array.getElem?_append_left hj]
theorem itoa_ok : FnOk Tryz.prog gl 140 spItoa:=by
 refine ⟨⟨Tryz.f140,_,Tryz.func140,rfl,by kernel_rfl⟩,fun xs ls K h=>?_⟩
 obtain ⟨n,rfl,rfl,h0,h1,h⟩:=h
 refine ⟨_,_,h _ rfl,callsTo_below fun E B w vals hg hb hw hr=>?_⟩
 obtain ⟨v,rfl,hv⟩:=relL_one hr
 rw [rel_int hv]
 refine (sh_strconv_Itoa n h0 h1 w (by rw [←hw]; exact tab_of hg)).mono ?_
 rintro e w' ⟨rfl,k,os,rfl⟩
 exact ⟨_,rfl,fun E=>.ro (.str rfl),below_grow⟩
def spFmt : FSpec:=fun _ xs ls K=>∃ (n b : Int),xs = [.int .i64 (.a n),.int .i64 (.a b)]∧ls = []∧-9223372036854775808≤n∧n≤9223372036854775807∧b = 10∧∀ r,r = Lib.itoa n→K (.str r) []
theorem fmt_ok : FnOk Tryz.prog gl 139 spFmt:=by
 refine ⟨⟨Tryz.f139,_,Tryz.func139,rfl,by kernel_rfl⟩,fun xs ls K h=>?_⟩
 obtain ⟨n,b,rfl,rfl,h0,h1,rfl,h⟩:=h
 refine ⟨_,_,h _ rfl,callsTo_below fun E B w vals hg hb hw hr=>?_⟩
 obtain ⟨v,u,rfl,hv,hu⟩:=relL_two hr
 rw [rel_int hv,rel_int hu]
 refine (sh_strconv_FormatInt_10 n h0 h1 w (by rw [←hw]; exact tab_of hg)).mono ?_
 rintro e w' ⟨rfl,k,os,rfl⟩
 exact ⟨_,rfl,fun E=>.ro (.str rfl),below_grow⟩
def fair {α : Type} : Lib.NumEnd α→Bool
 | .ok _=>true
 | .range=>true
 | _=>false
def pInt (s : List UInt8) : Int×Bool:=match Lib.parseIntB 64 s with
 | .ok v=>(v,true)
 | .range=>(Lib.intSat 64 s,false)
 | _=>(0,false)
structure IntS (s : List UInt8) (b z : Int) : Prop where
 b : b = 10
 z : z = 64
 len : s.length≤100000
 ok : fair (Lib.parseIntB 64 s) = true
def spPInt : FSpec:=fun _ xs ls K=>∃ (s : List UInt8) (b z : Int),xs = [.str s,.int .i64 (.a b),.int .i64 (.a z)]∧ls = []∧IntS s b z∧∀ v e,(v,e) = pInt s→K (.tup [.int .i64 (.a v),.ifc (.a e)]) []
theorem pInt_ok : FnOk Tryz.prog gl 126 spPInt:=by
 refine ⟨⟨Tryz.f126,_,Tryz.func126,rfl,by kernel_rfl⟩,fun xs ls K h=>?_⟩
 obtain ⟨s,b,z,rfl,rfl,I,h⟩:=h
 obtain ⟨rfl,rfl,hl,hok⟩:=I
 refine ⟨_,_,h (pInt s).1 (pInt s).2 rfl,callsTo_below fun E B w vals hg hb hw hr=>?_⟩
 obtain ⟨v,u,t,rfl,hv,hu,ht⟩:=relL_three hr
 rw [rel_str hv,rel_int hu,rel_int ht]
 rcases hp : Lib.parseIntB 64 s with x | _ | _
 ·skip
  have e : pInt s = (x,true):=by rw [pInt,hp]
  rw [e]
  refine (sh_strconv_ParseInt_10_at64_ok ⟨s.toArray⟩ (by simp [ByteArray.size]; omega) x hp w).mono ?_
  rintro e w' ⟨rfl,hw'⟩
  refine ⟨_,rfl,fun E=>?_,?_⟩
  ·refine .tup rfl fun i x y a b=>?_
   match i,a,b with
   | 0,a,b=>cases a; cases b; exact .ro (.int rfl)
   | 1,a,b=>cases a; cases b; exact .ro (.ifc (.inl ⟨rfl,rfl⟩))
  ·rcases hw' with rfl | ⟨t,rfl⟩
   ·exact Below.refl _ _
   ·exact Lib.bytesWorld_below _ _ _
 ·rw [hp] at hok
  cases hok
 ·skip
  have e : pInt s = (Lib.intSat 64 s,false):=by rw [pInt,hp]
  rw [e]
  obtain ⟨tp,p,hvar⟩:=err_of hg
  rw [hw] at hvar
  refine (sh_strconv_ParseInt_10_at64_range_var ⟨s.toArray⟩ (by simp [ByteArray.size]; omega) hp tp p w hvar).mono ?_
  rintro e w' ⟨N,rfl,_,_,hB⟩
  refine ⟨_,rfl,fun E=>?_,hB⟩
  refine .tup rfl fun i x y a b=>?_
  match i,a,b with
  | 0,a,b=>cases a; cases b; exact .ro (.int rfl)
  | 1,a,b=>cases a; cases b; exact .ro (.ifc (.inr ⟨⟨_,_,rfl⟩,rfl⟩))
end Go.Proofs.YtefelnhpfdcleaaGreatDoor
namespace Go.Sx
open Go Go.ChangeShapes Go.WideShapes Go.RowKit
section
variable {P : Program}
end
end Go.Sx
namespace Go.Proofs.YtefelnhpfdcleaaGreatDoor
open Go Go.Sx Go.ChangeShapes Go.WideShapes Go.RowKit
set_option maxRecDepth 100000
theorem kOwn : ownKnob Tryz.prog.godebug = none:=by kernel_rfl
theorem kLaidOut : laidOutB Tryz.prog = true:=by kernel_rfl
abbrev laidV : List (String×DataW Unit):=[("math/bits.deBruijn32tab",Rows.laid_math_bits_deBruijn32tab),("math/bits.deBruijn64tab",Rows.laid_math_bits_deBruijn64tab),("internal/strconv.uint64pow10",Rows.laid_internal_strconv_uint64pow10),("unicode/utf8.acceptRanges",Rows.laid_unicode_utf8_acceptRanges),("strconv.ErrRange",Rows.laid_strconv_ErrRange),("strconv.ErrSyntax",Rows.laid_strconv_ErrSyntax),("spillway/request.methods",Rows.laid_spillway_request_methods),("unicode/utf8.first",Rows.laid_unicode_utf8_first)]
theorem door_fits (os : Os) : (World.holding Tryz.prog os ⟨#[],#[],[]⟩).layFits Tryz.prog laidV [] = true:=by kernel_rfl
theorem door_ifaces (os : Os) : (World.holding Tryz.prog os ⟨#[],#[],[]⟩).layIfaces Tryz.prog laidV (World.laidAll Tryz.prog os laidV) = true:=by kernel_rfl
theorem door_met (os : Os) (args : Array Value) : laidMetH Tryz.prog laidV ((World.laidAll Tryz.prog os laidV).forCall (fun _ _=>0) ⟨#[],args,[]⟩).memory:=by
 rw [MakeChecks.laidMetH_plain _ _ _ (by kernel_rfl)]
 exact laidMet_laidAll _ (door_fits os) (door_ifaces os)
theorem kPowT : (Tryz.prog.globals[6]?).map (·.type) = some 190:=by kernel_rfl
theorem kPowU : Tryz.prog.underlying 190 = some (.array 20 165):=by kernel_rfl
theorem kPowE : Tryz.prog.underlying 165 = some (.int .u64):=by kernel_rfl
theorem kPowC : Tryz.prog.cellsOf 165 = 1:=by kernel_rfl
theorem kPowD : Tryz.prog.cellsOf 190 = 20:=by kernel_rfl
theorem kMet : Tryz.prog.globalNamed "spillway/request.methods" = some 0:=by kernel_rfl
theorem kMetT : (Tryz.prog.globals[0]?).map (·.type) = some 92:=by kernel_rfl
theorem kC92 : Tryz.prog.cellsOf 92 = 24:=by kernel_rfl
theorem kC91 : Tryz.prog.cellsOf 91 = 4:=by kernel_rfl
theorem kC4 : Tryz.prog.cellsOf 4 = 1:=by kernel_rfl
theorem kC9 : Tryz.prog.cellsOf 9 = 1:=by kernel_rfl
theorem kF91 : (match Tryz.prog.underlying 91 with | some (.struct fs)=>fs.toList.map (fun f=>(f.offset,f.type)) | _=>[]) = [(0,9),(1,4),(2,4),(3,4)]:=by kernel_rfl
theorem kErrT : (Tryz.prog.globals[5]?).map (·.type) = some 107:=by kernel_rfl
theorem kC196 : Tryz.prog.cellsOf 196 = 1:=by kernel_rfl
theorem kStar : "*" ++ "errors.errorString" = "*errors.errorString":=by decide
theorem kRow194 (u : TypeId) (h : Tryz.prog.typeName? 3 u = some "*errors.errorString") : u = 194 :=
 typeName_ptr_named (nm:="errors.errorString") (by rw [kStar]; kernel_rfl) (by kernel_rfl) (by decide) u (by rw [kStar]; exact h)
theorem met4 {H : Type} {tok : TypeId×Value→H} {W : World} {base : Nat} {spare : Nat→Bool} {held : Bool} {fuel : Nat} {cs : List Value} {s : List UInt8} {a b c : Bool} {ps : List MemPlace} (h : DataW.trod tok Tryz.prog W base spare held fuel 91 cs = some (.agg [.lit (.string s),.lit (.bool a),.lit (.bool b),.lit (.bool c)],ps)) : cs = [.string (Sx.bytes s),.bool a,.bool b,.bool c]:=by
 cases hu : Tryz.prog.underlying 91 with
 | none=>have:=kF91; rw [hu] at this; cases this
 | some d =>
  cases d with
  | struct fs =>
   have hf:=kF91
   rw [hu] at hf
   simp only at hf
   obtain ⟨xs,n,_,hx,hl,hxl,hel⟩:=DataW.trod_struct hu h
   rw [kC91] at hl
   have hs : fs.size = 4:=by have:=congrArg List.length hf; simpa using this
   match cs,hl with
   | [c0,c1,c2,c3],_ =>
    have fk : ∀ (k o t : Nat),[(0,9),(1,4),(2,4),(3,4)][k]? = some (o,t)→∃ fd,fs[k]? = some fd∧fd.offset = o∧fd.type = t:=by
     intro k o t hk
     rw [←hf,List.getElem?_map] at hk
     cases hfd : fs.toList[k]? with
     | none=>rw [hfd] at hk; cases hk
     | some fd =>
      rw [hfd] at hk
      simp only [Option.map_some,Option.some.injEq,Prod.mk.injEq] at hk
      exact ⟨fd,by rw [←hfd,Array.getElem?_toList],hk.1,hk.2⟩
    obtain ⟨d0,g0,o0,t0⟩:=fk 0 0 9 rfl
    obtain ⟨d1,g1,o1,t1⟩:=fk 1 1 4 rfl
    obtain ⟨d2,g2,o2,t2⟩:=fk 2 2 4 rfl
    obtain ⟨d3,g3,o3,t3⟩:=fk 3 3 4 rfl
    have e0:=hel 0 _ g0
    have e1:=hel 1 _ g1
    have e2:=hel 2 _ g2
    have e3:=hel 3 _ g3
    rw [o0,t0,kC9] at e0
    rw [o1,t1,kC4] at e1
    rw [o2,t2,kC4] at e2
    rw [o3,t3,kC4] at e3
    rw [hs] at hxl
    match xs,hxl,hx,e0,e1,e2,e3 with
    | [x0,x1,x2,x3],_,hx,e0,e1,e2,e3 =>
     simp only [Prod.mk.injEq,DataW.agg.injEq,List.map_cons,List.map_nil,List.cons.injEq] at hx
     simp at e0 e1 e2 e3
     obtain ⟨b0,q0,r0,_⟩:=DataW.trod_string Tryz.underlying9 e0
     obtain ⟨b1,q1,r1⟩:=DataW.trod_bool Tryz.underlying4 e1
     obtain ⟨b2,q2,r2⟩:=DataW.trod_bool Tryz.underlying4 e2
     obtain ⟨b3,q3,r3⟩:=DataW.trod_bool Tryz.underlying4 e3
     simp at q0 q1 q2 q3
     subst q0 q1 q2 q3 r0 r1 r2 r3
     simp at hx
     rw [hx.1.1,hx.1.2.1,hx.1.2.2.1,hx.1.2.2.2]
     rfl
  | _=>have:=kF91; rw [hu] at this; cases this
def metVals : List Value:=[.string (Sx.bytes [71,69,84]),.bool true,.bool true,.bool true,.string (Sx.bytes [72,69,65,68]),.bool true,.bool true,.bool true,.string (Sx.bytes [79,80,84,73,79,78,83]),.bool true,.bool true,.bool false,.string (Sx.bytes [84,82,65,67,69]),.bool true,.bool true,.bool true,.string (Sx.bytes [80,85,84]),.bool false,.bool true,.bool false,.string (Sx.bytes [68,69,76,69,84,69]),.bool false,.bool true,.bool false]
theorem met_cells {W : World} (h : laidMet Tryz.prog (laidV.drop 6) W) : ∃ (cs : Array Value) (t : TypeId) (fr : Nat×Nat),W.heap[0]? = some (.cells cs t fr)∧cs.toList = metVals:=by
 obtain ⟨ps,⟨g0,t0,cs0,f0,p0,q0,hg0,ht0,hv0,hd0,_,_⟩,_,_⟩:=h
 obtain rfl:=Option.some.inj (kMet.symm.trans hg0)
 obtain rfl:=Option.some.inj (kMetT.symm.trans ht0)
 obtain ⟨xs,m1,rfl,hx1,hlen,hn3,hel⟩:=DataW.trod_array Tryz.underlying92 hd0
 rw [kC91] at hel
 rw [kC92] at hlen
 simp only [Prod.mk.injEq,Rows.laid_spillway_request_methods,DataW.agg.injEq] at hx1
 have hrow : ∀ (i : Nat) s a b c,i < 6→[DataW.agg [.lit (.string [71,69,84]),.lit (.bool true),.lit (.bool true),.lit (.bool true)],.agg [.lit (.string [72,69,65,68]),.lit (.bool true),.lit (.bool true),.lit (.bool true)],.agg [.lit (.string [79,80,84,73,79,78,83]),.lit (.bool true),.lit (.bool true),.lit (.bool false)],.agg [.lit (.string [84,82,65,67,69]),.lit (.bool true),.lit (.bool true),.lit (.bool true)],.agg [.lit (.string [80,85,84]),.lit (.bool false),.lit (.bool true),.lit (.bool false)],.agg [.lit (.string [68,69,76,69,84,69]),.lit (.bool false),.lit (.bool true),.lit (.bool false)]][i]? = some (DataW.agg (H:=Unit) [.lit (.string s),.lit (.bool a),.lit (.bool b),.lit (.bool c)])→(cs0.toList.drop (i * 4)).take 4 = [.string (Sx.bytes s),.bool a,.bool b,.bool c]:=by
  intro i s a b c hi hd
  rw [hx1.1,List.getElem?_map] at hd
  have:=hel i hi
  cases hxi : xs[i]? with
  | none=>rw [hxi] at hd; cases hd
  | some x =>
   rw [hxi] at hd this
   obtain ⟨x1,x2⟩:=x
   simp only [Option.map_some,Option.some.injEq] at hd
   subst hd
   exact met4 this
 have h0:=hrow 0 _ _ _ _ (by omega) rfl
 have h1:=hrow 1 _ _ _ _ (by omega) rfl
 have h2:=hrow 2 _ _ _ _ (by omega) rfl
 have h3:=hrow 3 _ _ _ _ (by omega) rfl
 have h4:=hrow 4 _ _ _ _ (by omega) rfl
 have h5:=hrow 5 _ _ _ _ (by omega) rfl
 have step : ∀ (k : Nat) (v : List Value),(cs0.toList.drop k).take 4 = v→cs0.toList.drop k = v ++ cs0.toList.drop (k + 4):=by
  intro k v hv
  rw [←hv,←List.drop_drop,List.take_append_drop]
 have hall : cs0.toList = metVals:=by
  have e0:=step 0 _ h0
  rw [List.drop_zero] at e0
  rw [e0,step 4 _ h1,step 8 _ h2,step 12 _ h3,step 16 _ h4,step 20 _ h5,List.drop_eq_nil_of_le (by omega)]
  rfl
 unfold World.var? at hv0
 rw [kMet] at hv0
 simp only [Option.bind_some] at hv0
 split at hv0
 ·rename_i cs t fr hc
  cases hv0
  exact ⟨_,t,fr,hc,hall⟩
 ·cases hv0
theorem met_one : ∀ v,v∈metVals→v.oneCell' = true:=by decide +kernel
theorem met_rel {I : Nat→Nat→Prop} {W : World} : ∀ (j : Nat) (s : SV),methodCells[j]? = some s→∃ v,metVals[j]? = some v∧RO I W s v:=by
 have key : ∀ (l : List SV) (m : List Value),(∀ (x : SV×Value),x∈l.zip m→(∃ t,x = (.str t,.string (Sx.bytes t)))∨∃ b,x = (.bool (.l b),.bool b))→l.length = m.length→∀ (j : Nat) (s : SV),l[j]? = some s→∃ v,m[j]? = some v∧RO I W s v:=by
  intro l m h hl j s hj
  obtain ⟨hjl,e⟩:=List.getElem?_eq_some_iff.1 hj
  have hm : m[j]? = some (m[j]'(by omega)):=List.getElem?_eq_getElem (by omega)
  refine ⟨_,hm,?_⟩
  have hz : (s,m[j]'(by omega))∈l.zip m:=by
   apply List.mem_iff_getElem?.2
   exact ⟨j,by rw [List.getElem?_zip_eq_some]; exact ⟨hj,hm⟩⟩
  rcases h _ hz with ⟨t,e⟩ | ⟨b,e⟩
  ·obtain ⟨e1,e2⟩:=Prod.mk.inj e
   rw [e1,e2]
   exact .str rfl
  ·obtain ⟨e1,e2⟩:=Prod.mk.inj e
   rw [e1,e2]
   exact .bool rfl
 refine key methodCells metVals ?_ rfl
 intro x hx
 simp only [methodCells,metVals,List.zip_cons_cons,List.zip_nil_left,List.mem_cons,List.not_mem_nil,or_false] at hx
 rcases hx with rfl | rfl | rfl | rfl | rfl | rfl | rfl | rfl | rfl | rfl | rfl | rfl | rfl | rfl | rfl | rfl | rfl | rfl | rfl | rfl | rfl | rfl | rfl | rfl
 all_goals first
  | exact .inl ⟨_,rfl⟩
  | exact .inr ⟨_,rfl⟩
theorem gl_of {W : World} (h : laidMetH Tryz.prog laidV W) : ∀ g s,Sx.look g gl = some s→RO (oldI W) W s (.pointer (some ⟨g,0,none⟩))∧g < W.heap.size∧glBlk W g s:=by
 rw [MakeChecks.laidMetH_plain _ _ _ (by kernel_rfl)] at h
 have ht : Lib.TabIs Tryz.prog W "internal/strconv.uint64pow10" .u64 Lib.pow10Tab :=
  Lib.tabIs_of_head kPow kPowT kPowU kPowE kPowC kPowD (h.tail.tail)
 obtain ⟨mc,mt,mf,hm1,hm2⟩:=met_cells h.tail.tail.tail.tail.tail.tail
 obtain ⟨ea,es,he1,_,_,_⟩:=laid_sentinel h.tail.tail.tail.tail kErrR kErrT Tryz.underlying107 kRow194 Tryz.underlying194 Tryz.underlying196 rfl rfl Tryz.underlying9 kC196 kC9
 intro g s hs
 simp only [Sx.look,gl] at hs
 split at hs
 ·rename_i e
  have e : 0 = g:=by simpa using e
  subst e
  cases hs
  have hlt : 0 < W.heap.size:=(Array.getElem?_eq_some_iff.1 hm1).1
  refine ⟨.rptr (fun j=>metVals.getD j undef) rfl (fun j hj=>?_) (fun j hj=>⟨?_,hlt⟩) (fun j s hs=>?_),hlt,trivial⟩
  ·obtain ⟨s,hs⟩ : ∃ s,methodCells[j]? = some s:=⟨_,List.getElem?_eq_getElem hj⟩
   obtain ⟨v,hv,_⟩:=met_rel (I:=oldI W) (W:=W) j s hs
   rw [List.getD_eq_getElem?_getD,hv]
   exact met_one _ (List.mem_of_getElem? hv)
  ·obtain ⟨s,hs⟩ : ∃ s,methodCells[j]? = some s:=⟨_,List.getElem?_eq_getElem hj⟩
   obtain ⟨v,hv,_⟩:=met_rel (I:=oldI W) (W:=W) j s hs
   rw [List.getD_eq_getElem?_getD,hv]
   rw [←hm2,Array.getElem?_toList] at hv
   simp [World.cell?,hm1,hv]
  ·obtain ⟨v,hv,hr⟩:=met_rel (I:=oldI W) (W:=W) j s hs
   rw [List.getD_eq_getElem?_getD,hv]
   exact hr
 split at hs
 ·rename_i e
  have e : 5 = g:=by simpa using e
  subst e
  cases hs
  unfold World.var? at he1
  rw [kErrR] at he1
  simp only [Option.bind_some] at he1
  split at he1
  ·rename_i cs t fr hc
   have hcs:=Option.some.inj he1
   subst hcs
   have hlt : 5 < W.heap.size:=(Array.getElem?_eq_some_iff.1 hc).1
   refine ⟨.rarr (fun _ _=>.iface 194 (.pointer (some ea))) rfl (fun i _=>rfl) (fun i j _ _=>rfl) (fun i j hi hj=>⟨?_,hlt⟩) (fun i j s hi hs=>?_),hlt,_,t,fr,hc,rfl⟩
   ·obtain rfl : i = 0:=by omega
    obtain rfl : j = 0:=by omega
    simp [World.cell?,hc]
   ·match j,hs with
    | 0,hs =>
     have hs : some (SV.ifc (.l false)) = some s:=hs
     cases hs
     exact .ifc (.inr ⟨⟨_,_,rfl⟩,rfl⟩)
    | _ + 1,hs=>simp [errRow] at hs
  ·cases he1
 split at hs
 ·rename_i e
  have e : 6 = g:=by simpa using e
  subst e
  cases hs
  have ht2:=ht
  unfold Lib.TabIs World.var? at ht2
  rw [kPow] at ht2
  simp only [Option.bind_some] at ht2
  split at ht2
  ·rename_i cs t fr hc
   have hlt : 6 < W.heap.size:=(Array.getElem?_eq_some_iff.1 hc).1
   have hsz : cs.size = 20 * 1:=by
    rw [Option.some.inj ht2]; simp [Lib.pow10Tab_length]
   refine ⟨.rarr (fun i _=>.int .u64 (Lib.pow10Tab.getD i 0)) rfl (fun i _=>rfl) (fun i j _ _=>rfl) (fun i j hi hj=>⟨?_,hlt⟩) (fun i j s hi hs=>?_),hlt,cs,t,fr,hc,hsz⟩
   ·have:=ht.cell kPow i (by rw [Lib.pow10Tab_length]; exact hi)
    have e : 0 + (i * 1 + j) = i:=by omega
    show W.cell? ⟨6,0 + (i * 1 + j),none⟩ = _
    rw [e]; exact this
   ·match j,hs with
    | 0,hs =>
     have hs : some (SV.int .u64 (.a (Lib.pow10Tab.getD i 0))) = some s:=hs
     cases hs
     exact .int rfl
    | _ + 1,hs=>simp [powRow] at hs
  ·cases ht2
 ·cases hs
end Go.Proofs.YtefelnhpfdcleaaGreatDoor
namespace Go.Proofs.YtefelnhpfdcleaaGreatDoor
open Go Go.Sx Go.ChangeShapes Go.WideShapes Go.RowKit
set_option maxRecDepth 100000
theorem open3 : OpenT Tryz.prog 3 (fun n : Int=>[.int .i64 (.a n)]):=.int Tryz.underlying3
theorem open9 : OpenT Tryz.prog 9 (fun s : {s : List UInt8 // s.length≤maxLen}=>[.str s.1]):=.str Tryz.underlying9
theorem ro3 {I : Nat→Nat→Prop} {W : World} {s t r : SV} {v u x : Value} (h : RO I W s v) (k : RO I W t u) (l : RO I W r x) : ∀ (i : Nat) (s' : SV) (v' : Value),[s,t,r][i]? = some s'→[v,u,x][i]? = some v'→RO I W s' v'
 | 0,_,_,a,b=>by simp at a b; subst a b; exact h
 | 1,_,_,a,b=>by simp at a b; subst a b; exact k
 | 2,_,_,a,b=>by simp at a b; subst a b; exact l
 | _ + 3,_,_,a,_=>by simp at a
theorem str_fit (x : {s : List UInt8 // s.length≤maxLen}) : x.1.length≤9223372036854775807:=Nat.le_trans x.2 (by decide)
end Go.Proofs.YtefelnhpfdcleaaGreatDoor
namespace Go.Sx
open Go Go.ChangeShapes Go.WideShapes Go.RowKit
section
variable {P : Program}
theorem OpenT.sliceN {t e : TypeId} {α : Type} {sz : Nat} {enc : α→List SV} (ht : P.underlying t = some (.slice e)) (hz : P.cellsOf e = sz) (h0 : 0 < sz) (he : OpenT P e enc) : OpenT P t (fun x : {x : Bool×List α // x.2.length≤maxLen∧(x.1 = true→x.2 = [])}=>slC sz enc x.1):=by
 intro H tok W spare held fuel cs x h
 rcases DataW.trod_slice ht h with ⟨rfl,_⟩ | ⟨a,len,cap,elems,rest,n,_,rfl,_,_,hle,hcap,hlen,hel,_,_⟩
 ·exact ⟨⟨(true,[]),Nat.zero_le _,fun _=>rfl⟩,.one (.slnil rfl rfl) rfl⟩
 ·rw [hz] at hel
  have key : ∀ i,i < len→∃ (al : α) (vs : List Value),ROL (oldI W) W (enc al) vs∧vs.length = sz∧∀ j,j < sz→W.cell? ((a.add (i * sz)).add j) = vs[j]?:=by
   intro i hi
   have h1:=hel i hi
   rw [List.getElem?_eq_getElem (by omega)] at h1
   cases hc : W.cells? 0 (a.add (i * sz)) sz with
   | none=>rw [hc] at h1; cases h1
   | some vs =>
    rw [hc] at h1
    obtain ⟨al,hal⟩:=he H tok W _ _ _ vs _ h1
    have hg:=cells_get hc
    exact ⟨al,vs,hal,hg.1,hg.2⟩
  have gen : ∀ len : Nat,(∀ i,i < len→∃ (al : α) (vs : List Value),ROL (oldI W) W (enc al) vs∧vs.length = sz∧∀ j,j < sz→W.cell? ((a.add (i * sz)).add j) = vs[j]?)→∃ (l : List α) (g : Nat→Nat→Value),l.length = len∧∀ i al,l[i]? = some al→(enc al).length = sz∧(∀ j,j < sz→W.cell? ((a.add (i * sz)).add j) = some (g i j)∧(g i j).oneCell' = true)∧∀ j s,(enc al)[j]? = some s→RO (oldI W) W s (g i j):=by
   clear key hel hlen hcap hle h
   intro len key
   induction len with
   | zero=>exact ⟨[],fun _ _=>undef,rfl,by simp⟩
   | succ len ih =>
    obtain ⟨l,g,hl,hg⟩:=ih (fun i hi=>key i (by omega))
    obtain ⟨al,vs,k1,k2,k3⟩:=key len (by omega)
    refine ⟨l ++ [al],fun i j=>if i = len then vs.getD j undef else g i j,by simp [hl],fun i al' hi=>?_⟩
    rw [List.getElem?_append] at hi
    split at hi
    ·rename_i hlt
     have hne : i≠len:=by omega
     obtain ⟨g1,g2,g3⟩:=hg i al' hi
     exact ⟨g1,fun j hj=>by simpa only [if_neg hne] using g2 j hj,fun j s hs=>by simpa only [if_neg hne] using g3 j s hs⟩
    ·rename_i hlt
     have hil : i = len:=by
      have:=(List.getElem?_eq_some_iff.1 hi).1
      simp at this; omega
     subst hil
     have h00 : i - l.length = 0:=by omega
     rw [h00] at hi
     simp at hi
     subst hi
     refine ⟨by rw [k1.1,k2],fun j hj=>?_,fun j s hs=>?_⟩
     ·simp only [if_pos]
      have hjv : vs[j]? = some vs[j]:=List.getElem?_eq_getElem (by omega)
      rw [k3 j hj,hjv]
      simp only [List.getD_eq_getElem?_getD,hjv,Option.getD_some,true_and]
      exact k1.2.2 _ (List.getElem_mem _)
     ·simp only [if_pos]
      have hjl : j < vs.length:=by rw [←k1.1]; exact (List.getElem?_eq_some_iff.1 hs).1
      have hjv : vs[j]? = some vs[j]:=List.getElem?_eq_getElem hjl
      simp only [List.getD_eq_getElem?_getD,hjv,Option.getD_some]
      exact k1.2.1 j s _ hs hjv
  obtain ⟨l,g,hl,hg⟩:=gen len key
  have hspot : 0 < len→a.spot = none:=fun hpos=>by
   obtain ⟨al,hal⟩ : ∃ al,l[0]? = some al:=⟨_,List.getElem?_eq_getElem (by omega)⟩
   obtain ⟨_,g2,_⟩:=hg 0 al hal
   have:=(g2 0 h0).1
   obtain ⟨b,o,sp⟩:=a
   simp only [Nat.zero_mul,Addr.add,if_pos] at this
   exact (cell_lt this).2
  refine ⟨⟨(false,l),by simp only [hl]; omega,fun h=>by cases h⟩,.one (.sl g rfl (by simp [ST.den,hl]) hle hcap hspot (fun i hi=>?_) (fun i j hi hj=>?_) (fun i j hi hj=>?_) (fun i j s hi hs=>?_)) rfl⟩
  ·obtain ⟨al,hal⟩ : ∃ al,l[i]? = some al:=⟨_,List.getElem?_eq_getElem (by omega)⟩
   simp only [rowOfL,hal]
   exact (hg i al hal).1
  ·obtain ⟨al,hal⟩ : ∃ al,l[i]? = some al:=⟨_,List.getElem?_eq_getElem (by omega)⟩
   exact ((hg i al hal).2.1 j hj).2
  ·obtain ⟨al,hal⟩ : ∃ al,l[i]? = some al:=⟨_,List.getElem?_eq_getElem (by omega)⟩
   have hc:=((hg i al hal).2.1 j hj).1
   have e : (a.add (i * sz)).add j = ⟨a.block,a.off + (i * sz + j),none⟩:=by
    have hs:=hspot (by omega)
    obtain ⟨b,o,sp⟩:=a
    simp only at hs
    subst hs
    simp only [add_lit]
    congr 1
    omega
   rw [e] at hc
   exact ⟨hc,(cell_lt hc).1⟩
  ·obtain ⟨al,hal⟩ : ∃ al,l[i]? = some al:=⟨_,List.getElem?_eq_getElem (by omega)⟩
   simp only [rowOfL,hal] at hs
   exact (hg i al hal).2.2 j s hs
end
end Go.Sx
namespace Go.Proofs.YtefelnhpfdcleaaGreatDoor
open Go Go.Sx
set_option maxRecDepth 100000
set_option maxHeartbeats 8000000
def isMethodF (s : List UInt8) : Bool:=decide (s.length≤16) && tokenF s
def spPredS (p : List UInt8→Bool) : FSpec:=fun _ xs ls K=>∃ (s : List UInt8),xs = [.str s]∧ls = []∧s.length≤9223372036854775807∧∀ r,r = p s→K (.bool (.a r)) []
theorem isMethod_ok : FnOk Tryz.prog gl 70 (spPredS isMethodF):=by
 refine fnOk (gh:=[]) mixed cxOk (tabCons token_ok tabNil) Tryz.func70 (by kernel_rfl) (by kernel_rfl) ?_
 intro xs ls K h
 unfold spPredS at h
 obtain ⟨s,rfl,rfl,hs,h⟩:=h
 obtain ⟨k,hk⟩ : ∃ k,k = isMethodF s:=⟨_,rfl⟩
 refine ⟨_,_,h k hk,fun D hD=>?_⟩
 clear h
 cbv
 refine ⟨s,rfl,rfl,hs,fun t ht=>?_⟩
 cbv
 refine finBool hD ?_
 rw [hk,isMethodF,←ht]
 have : decide ((s.length : Int)≤16) = decide (s.length≤16):=by rw [decide_eq_decide]; omega
 rw [←this]; rfl
def ownF (t : List UInt8) : Bool:=t == [104,111,115,116] || (t == [120,45,114,101,113,117,101,115,116,45,105,100] || (t == [99,111,110,116,101,110,116,45,108,101,110,103,116,104] || t == [116,114,97,110,115,102,101,114,45,101,110,99,111,100,105,110,103]))
theorem isOwn_ok : FnOk Tryz.prog gl 110 (spPredS fun s=>ownF (foldF s)):=by
 refine fnOk (gh:=[]) mixed cxOk (tabCons fold_ok tabNil) Tryz.func110 (by kernel_rfl) (by kernel_rfl) ?_
 intro xs ls K h
 unfold spPredS at h
 obtain ⟨s,rfl,rfl,hs,h⟩:=h
 obtain ⟨k,hk⟩ : ∃ k,k = ownF (foldF s):=⟨_,rfl⟩
 refine ⟨_,_,h k hk,fun D hD=>?_⟩
 clear h
 cbv
 refine ⟨s,rfl,rfl,hs,fun t ht=>?_⟩
 have ht : t = foldF s:=ht
 rw [←ht] at hk
 clear ht
 unfold ownF at hk
 cbv
 refine br hD (fun h=>?_) (fun h=>?_)<;>cbv
 ·have h1 : (t == [104,111,115,116]) = true:=h
  refine finBool hD ?_
  rw [hk,h1]; simp
 have h1 : (t == [104,111,115,116]) = false:=h
 rw [h1,Bool.false_or] at hk
 clear h h1
 refine br hD (fun h=>?_) (fun h=>?_)<;>cbv
 ·have h1 : (t == [120,45,114,101,113,117,101,115,116,45,105,100]) = true:=h
  refine finBool hD ?_
  rw [hk,h1]; simp
 have h1 : (t == [120,45,114,101,113,117,101,115,116,45,105,100]) = false:=h
 rw [h1,Bool.false_or] at hk
 clear h h1
 refine br hD (fun h=>?_) (fun h=>?_)<;>cbv
 ·have h1 : (t == [99,111,110,116,101,110,116,45,108,101,110,103,116,104]) = true:=h
  refine finBool hD ?_
  rw [hk,h1]; simp
 have h1 : (t == [99,111,110,116,101,110,116,45,108,101,110,103,116,104]) = false:=h
 rw [h1,Bool.false_or] at hk
 clear h h1
 refine br hD (fun h=>?_) (fun h=>?_)<;>cbv
 ·have h1 : (t == [116,114,97,110,115,102,101,114,45,101,110,99,111,100,105,110,103]) = true:=h
  refine finBool hD ?_
  rw [hk,h1]; simp
 have h1 : (t == [116,114,97,110,115,102,101,114,45,101,110,99,111,100,105,110,103]) = false:=h
 rw [h1] at hk
 clear h h1
 refine finBool hD ?_
 rw [hk]; rfl
def hostSet : List UInt8:=[97,98,99,100,101,102,103,104,105,106,107,108,109,110,111,112,113,114,115,116,117,118,119,120,121,122,48,49,50,51,52,53,54,55,56,57,45,46,58]
def hostF (s : List UInt8) : Bool:=s != [] && (decide (s.length≤100) && (Lib.trimS s hostSet == []))
theorem isHost_ok : FnOk Tryz.prog gl 83 (spPredS hostF):=by
 refine fnOk (gh:=[]) mixed cxOk (tabCons trim64_ok tabNil) Tryz.func83 (by kernel_rfl) (by kernel_rfl) ?_
 intro xs ls K h
 unfold spPredS at h
 obtain ⟨s,rfl,rfl,hs,h⟩:=h
 obtain ⟨k,hk⟩ : ∃ k,k = hostF s:=⟨_,rfl⟩
 refine ⟨_,_,h k hk,fun D hD=>?_⟩
 clear h
 cbv
 refine ⟨s,hostSet,rfl,rfl,hs,by decide,by decide,fun t ht=>?_⟩
 cbv
 refine finBool hD ?_
 rw [hk,hostF,←ht]
 have : decide ((s.length : Int)≤100) = decide (s.length≤100):=by rw [decide_eq_decide]; omega
 rw [←this,←Bool.and_assoc]; rfl
def ttM : List (Nat×TI):=[
 (3,⟨.int .i64,1,8,[.int .i64 (.l 0)]⟩),
 (4,⟨.bool,1,1,[.bool (.l false)]⟩),
 (9,⟨.string,1,16,[.str []]⟩),
 (23,⟨.int .i64,1,8,[.int .i64 (.l 0)]⟩),
 (91,⟨.struct [(0,9),(1,4),(2,4),(3,4)],4,24,[.str [],.bool (.l false),.bool (.l false),.bool (.l false)]⟩),
 (92,⟨.array 6 91,24,144,[.str [],.bool (.l false),.bool (.l false),.bool (.l false),.str [],.bool (.l false),.bool (.l false),.bool (.l false),.str [],.bool (.l false),.bool (.l false),.bool (.l false),.str [],.bool (.l false),.bool (.l false),.bool (.l false),.str [],.bool (.l false),.bool (.l false),.bool (.l false),.str [],.bool (.l false),.bool (.l false),.bool (.l false)]⟩)]
theorem ttM_ok : Sx.ttB Tryz.prog ttM = true:=by kernel_rfl
theorem cxOkM {tab : List (Nat×FSpec)} {gl : List (Nat×SV)} {gh : List (Nat×List Gh)} {its : List (Nat×(FSpec→FSpec))} {yl : List FSpec} : CxOk Tryz.prog ⟨dn,ttM,tab,gl,[],gh,its,yl⟩:=⟨rfl,ttM_ok,fun _ h=>(by cases h)⟩
def bareF (s : List UInt8) : Bool:=if s = [71,69,84] then true else if s = [72,69,65,68] then true else if s = [79,80,84,73,79,78,83] then false else if s = [84,82,65,67,69] then true else if s = [80,85,84] then false else if s = [68,69,76,69,84,69] then false else false
theorem isBare_ok : FnOk Tryz.prog gl 56 (spPredS bareF):=by
 refine fnOk (gh:=[(999986,[.freeze 10])]) mixed cxOkM tabNil Tryz.func56 (by kernel_rfl) (by kernel_rfl) ?_
 intro xs ls K h
 unfold spPredS at h
 obtain ⟨s,rfl,rfl,hs,h⟩:=h
 obtain ⟨k,hk⟩ : ∃ k,k = bareF s:=⟨_,rfl⟩
 refine ⟨_,_,h k hk,fun D hD=>?_⟩
 clear h
 unfold bareF at hk
 cbv
 refine br hD (fun h=>?_) (fun h=>?_)<;>cbv
 ·have h1 : s = [71,69,84]:=by have h : ([71,69,84] == s) = true:=h; exact (eq_of_beq h).symm
  refine finBool hD ?_
  rw [hk,if_pos h1]; rfl
 have h1 : ¬ s = [71,69,84]:=by have h : ([71,69,84] == s) = false:=h; intro e; rw [e] at h; simp at h
 rw [if_neg h1] at hk
 clear h h1
 refine br hD (fun h=>?_) (fun h=>?_)<;>cbv
 ·have h1 : s = [72,69,65,68]:=by have h : ([72,69,65,68] == s) = true:=h; exact (eq_of_beq h).symm
  refine finBool hD ?_
  rw [hk,if_pos h1]; rfl
 have h1 : ¬ s = [72,69,65,68]:=by have h : ([72,69,65,68] == s) = false:=h; intro e; rw [e] at h; simp at h
 rw [if_neg h1] at hk
 clear h h1
 refine br hD (fun h=>?_) (fun h=>?_)<;>cbv
 ·have h1 : s = [79,80,84,73,79,78,83]:=by have h : ([79,80,84,73,79,78,83] == s) = true:=h; exact (eq_of_beq h).symm
  refine finBool hD ?_
  rw [hk,if_pos h1]; rfl
 have h1 : ¬ s = [79,80,84,73,79,78,83]:=by have h : ([79,80,84,73,79,78,83] == s) = false:=h; intro e; rw [e] at h; simp at h
 rw [if_neg h1] at hk
 clear h h1
 refine br hD (fun h=>?_) (fun h=>?_)<;>cbv
 ·have h1 : s = [84,82,65,67,69]:=by have h : ([84,82,65,67,69] == s) = true:=h; exact (eq_of_beq h).symm
  refine finBool hD ?_
  rw [hk,if_pos h1]; rfl
 have h1 : ¬ s = [84,82,65,67,69]:=by have h : ([84,82,65,67,69] == s) = false:=h; intro e; rw [e] at h; simp at h
 rw [if_neg h1] at hk
 clear h h1
 refine br hD (fun h=>?_) (fun h=>?_)<;>cbv
 ·have h1 : s = [80,85,84]:=by have h : ([80,85,84] == s) = true:=h; exact (eq_of_beq h).symm
  refine finBool hD ?_
  rw [hk,if_pos h1]; rfl
 have h1 : ¬ s = [80,85,84]:=by have h : ([80,85,84] == s) = false:=h; intro e; rw [e] at h; simp at h
 rw [if_neg h1] at hk
 clear h h1
 refine br hD (fun h=>?_) (fun h=>?_)<;>cbv
 ·have h1 : s = [68,69,76,69,84,69]:=by have h : ([68,69,76,69,84,69] == s) = true:=h; exact (eq_of_beq h).symm
  refine finBool hD ?_
  rw [hk,if_pos h1]; rfl
 have h1 : ¬ s = [68,69,76,69,84,69]:=by have h : ([68,69,76,69,84,69] == s) = false:=h; intro e; rw [e] at h; simp at h
 rw [if_neg h1] at hk
 clear h h1
 refine finBool hD ?_
 rw [hk]; rfl
end Go.Proofs.YtefelnhpfdcleaaGreatDoor
namespace Go.Proofs.YtefelnhpfdcleaaGreatDoor
open Go Go.Sx Go.RowKit
set_option maxRecDepth 100000
set_option maxHeartbeats 2000000
theorem run_plain {P : Program} {b : Bool} {gl : List (Nat×SV)} {f : FuncId} {xs : List SV} {W : World} {args : List Value} (h : CallsTo P gl f xs [] (.bool (.a b)) [])
  (hgl : ∀ g s,Sx.look g gl = some s→RO (oldI W) W s (.pointer (some ⟨g,0,none⟩))∧g < W.heap.size∧glBlk W g s) (hl : xs.length = args.length) (hr : ∀ (i : Nat) (s : SV) (v : Value),xs[i]? = some s→args[i]? = some v→RO (oldI W) W s v) :
  Calls P f ⟨args⟩ W fun e W'=>e = .returned (.bool b)∧Below W.heap.size W W':=by
 refine (h ⟨W,fun _=>False,oldI W,fun _=>none,fun _=>none,fun _=>none,[]⟩ ⟨fun _=>none,fun _=>none,fun _=>none,fun _=>none,fun _=>none,oldI W⟩ W args rfl (fun _ _ h=>h) (fun _ h=>absurd h (by simp)) ⟨rfl,rfl,rfl,Nat.le_refl _,fun _ _ _=>rfl,fun _ _ h=>⟨h,rfl⟩,fun _ _ h=>h,fun _ _ h=>.inl h,fun _ _ h=>(by cases h),⟨fun _ _ h=>(by cases h),fun _ _ h=>(by cases h),fun _ _ h=>(by cases h)⟩⟩ (fun g s h=>⟨(hgl g s h).1,(hgl g s h).2.1,fun h=>h,(hgl g s h).2.2⟩) (fun h=>?_) ⟨hl,fun i s v a b=>.ro (hr i s v a b)⟩).mono fun e W' hq=>?_
 ·simp only [hfOf,nth]
  exact ⟨rfl,rfl,rfl,rfl⟩
 ·obtain ⟨v,E',rfl,hb,_,hv⟩:=hq
  rw [hv.bool_inv]
  exact ⟨rfl,⟨hb.os,hb.tape,hb.output,hb.size,fun k hk=>hb.old k hk (fun h=>h)⟩⟩
def badR (x : Nat) : Bool:=decide (x≠9) && (decide (x < 32) || decide (126 < x))
def okB (c : UInt8) : Bool:=decide (c.toNat = 9) || (decide (32≤c.toNat) && decide (c.toNat≤126))
def plainB (s : List UInt8) : Bool:=s.all okB
def spRune : FSpec:=fun _ xs ls K=>∃ (x : Nat),xs = [.int .i32 (.a (x : Int))]∧ls = []∧∀ r,r = badR x→K (.bool (.a r)) []
theorem rune_ok : FnOk Tryz.prog [] 117 spRune:=by
 refine fnOk (gh:=[]) mixed cxOk tabNil Tryz.func117 (by kernel_rfl) (by kernel_rfl) ?_
 intro xs ls K h
 unfold spRune at h
 obtain ⟨x,rfl,rfl,h⟩:=h
 obtain ⟨k,hk⟩ : ∃ k,k = badR x:=⟨_,rfl⟩
 refine ⟨_,_,h k hk,fun D hD=>?_⟩
 clear h
 cbv
 refine finBool hD ?_
 rw [hk]
 have e1 : ((x : Int) = 9)↔x = 9:=by omega
 have e2 : ((x : Int) < 32)↔x < 32:=by omega
 have e3 : ((126 : Int) < x)↔126 < x:=by omega
 simp only [BT.den,cmpDen,ST.den,badR]
 rw [Bool.eq_iff_iff]
 simp only [Bool.and_eq_true,Bool.or_eq_true,bne_iff_ne,decide_eq_true_eq,Int.ofNat_eq_natCast]
 constructor
 ·rintro ⟨h1,h2⟩
  exact ⟨fun e=>h1 (e1.2 e),h2.imp (fun e=>e2.1 (of_decide_eq_true e)) (fun e=>e3.1 (of_decide_eq_true e))⟩
 ·rintro ⟨h1,h2⟩
  exact ⟨fun e=>h1 (e1.1 e),h2.imp (fun e=>decide_eq_true (e2.2 e)) (fun e=>decide_eq_true (e3.2 e))⟩
theorem okB_bad (c : UInt8) : okB c = !badR c.toNat:=by
 unfold okB badR
 by_cases h1 : c.toNat = 9<;>by_cases h2 : c.toNat < 32<;>by_cases h3 : 126 < c.toNat<;>simp [h1,h2,h3]<;>omega
theorem idx_from (s : ByteArray) : ∀ (f pos : Nat),s.size≤pos + f→decide (0≤Lib.idxFuncFrom badR true s f pos) = !((s.data.toList.drop pos).all okB)
 | 0,pos,h=>by
  have : s.data.toList.drop pos = []:=List.drop_eq_nil_of_le (show s.data.toList.length≤pos from h)
  rw [this]; rfl
 | f + 1,pos,h=>by
  unfold Lib.idxFuncFrom
  by_cases hp : pos < s.size
  ·have hp' : pos < s.data.toList.length:=hp
   have hd : s.data.toList.drop pos = s[pos]'hp :: s.data.toList.drop (pos + 1):=by
    rw [List.drop_eq_getElem_cons hp']; rfl
   rw [if_pos hp,hd,List.all_cons]
   by_cases ha : (s[pos]'hp).toNat < 128
   ·rw [decode_ascii s pos hp ha]
    have ih:=idx_from s f (pos + 1) (by omega)
    have hb:=okB_bad (s[pos]'hp)
    by_cases hr : badR (s[pos]'hp).toNat = true
    ·rw [if_pos hr,hb,hr]; simp
    ·rw [if_neg hr,hb,ih]
     simp only [Bool.not_eq_true] at hr
     rw [hr]; simp
   ·obtain ⟨d1,_⟩:=decode_high s pos hp (by omega)
    have hr : badR (Utf8.decode s pos).1 = true:=by
     unfold badR
     simp; omega
    have hb : okB (s[pos]'hp) = false:=by
     rw [okB_bad]
     simp only [badR]
     simp; omega
    rw [if_pos hr,hb]; simp
  ·rw [if_neg hp]
   have : s.data.toList.drop pos = []:=List.drop_eq_nil_of_le (show s.data.toList.length≤pos from Nat.not_lt.1 hp)
   rw [this]; rfl
def spPlainH : FSpec:=fun _ xs ls K=>∃ (s : List UInt8),xs = [.str s]∧ls = []∧∀ r,r = plainB s→K (.bool (.a r)) []
def spHasR : FSpec:=fun _ xs ls K=>∃ (s : List UInt8),xs = [.str s,.fn 117]∧ls = []∧∀ r,r = !plainB s→K (.bool (.a r)) []
theorem bEnter117 : ∀ args w,(callFunc 117 args).run Tryz.prog w = .ok (.enter 117 args) w:=enters_of Tryz.func117 (by kernel_rfl) rfl
theorem rune_grows (w : World) : PredGrows Tryz.prog 117 #[] badR w:=by
 intro W x _ _
 obtain ⟨r,ls',⟨hr,hl⟩,hc⟩:=rune_ok.2 [.int .i32 (.a (x : Int))] [] (fun r ls'=>r = .bool (.a (badR x))∧ls' = []) ⟨x,rfl,rfl,fun r hr=>by rw [hr]; exact ⟨rfl,rfl⟩⟩
 subst hr hl
 refine run_plain (gl:=[]) hc (fun g s h=>by simp [Sx.look] at h) (by simp [encR]) fun i s v a b=>?_
 cases i with
 | zero=>simp [encR] at a b; subst a b; exact .int rfl
 | succ i=>simp at a
theorem hasR_ok : FnOk Tryz.prog gl 116 spHasR:=by
 refine ⟨⟨Tryz.f116,_,Tryz.func116,rfl,by kernel_rfl⟩,fun xs ls K h=>?_⟩
 obtain ⟨s,rfl,rfl,h⟩:=h
 refine ⟨_,_,h _ rfl,callsTo_below fun E B w vals _ _ _ hr=>?_⟩
 obtain ⟨v,g,rfl,hu,hgv⟩:=relL_two hr
 rw [rel_str hu,hgv.fn_inv]
 refine (sh_strings_ContainsFunc_grows 117 #[] bEnter117 badR (Sx.bytes s) w (rune_grows w)).mono ?_
 rintro e w' ⟨rfl,hB⟩
 refine ⟨_,rfl,fun E=>.ro (.bool ?_),hB⟩
 have:=idx_from (Sx.bytes s) (Sx.bytes s).size 0 (by omega)
 show (!plainB s) = _
 rw [Lib.idxFunc,this]; rfl
theorem hplain_ok : FnOk Tryz.prog gl 93 spPlainH:=by
 refine fnOk (gh:=[]) mixed cxOk (tabCons hasR_ok tabNil) Tryz.func93 (by kernel_rfl) (by kernel_rfl) ?_
 intro xs ls K h
 unfold spPlainH at h
 obtain ⟨s,rfl,rfl,h⟩:=h
 obtain ⟨k,hk⟩ : ∃ k,k = plainB s:=⟨_,rfl⟩
 refine ⟨_,_,h k hk,fun D hD=>?_⟩
 clear h
 cbv
 refine ⟨s,rfl,rfl,fun r hr=>?_⟩
 cbv
 refine finBool hD ?_
 rw [hk,←Bool.not_not (plainB s),←hr]
 simp [BT.den]
end Go.Proofs.YtefelnhpfdcleaaGreatDoor
namespace Go.Proofs.YtefelnhpfdcleaaGreatDoor
open Go.Sx
set_option maxRecDepth 100000
set_option maxHeartbeats 8000000
structure HF where
 name : List UInt8
 value : List UInt8
 deriving Inhabited
def hfCells (x : HF) : List SV:=[.str x.name,.str x.value]
def HF.small (x : HF) : Prop:=x.name.length≤9223372036854775807∧x.value.length≤9223372036854775807
structure RowH (f : Nat→List SV) (n : Int) (l : List HF) : Prop where
 n : n = l.length
 f : ∀ i,i < l.length→f i = hfCells (l.getD i default)
 len : l.length≤9223372036854775807
 small : ∀ i,i < l.length→(l.getD i default).small
def sizeH (x : HF) : Int:=x.name.length + x.value.length + 4
structure SizeOk (a b : List UInt8) : Prop where
 a : a.length≤1000000000000
 b : b.length≤1000000000000
def spSize : FSpec:=fun _ xs ls K=>∃ (a b : List UInt8),xs = [.agg [.str a,.str b]]∧ls = []∧SizeOk a b∧∀ r,r = sizeH ⟨a,b⟩→K (.int .i64 (.a r)) []
theorem size_ok : FnOk Tryz.prog gl 112 spSize:=by
 refine fnOk (gh:=[]) mixed cxOk tabNil Tryz.func112 (by kernel_rfl) (by kernel_rfl) ?_
 intro xs ls K h
 unfold spSize at h
 obtain ⟨a,b,rfl,rfl,hs,h⟩:=h
 obtain ⟨k,hk⟩ : ∃ k,k = sizeH ⟨a,b⟩:=⟨_,rfl⟩
 refine ⟨_,_,h k hk,fun D hD=>?_⟩
 clear h
 cbv
 refine finInt hD ?_
 have h1:=hs.a; have h2:=hs.b
 rw [hk]
 show IntKind.i64.wrap (IntKind.i64.wrap ((a.length : Int) + b.length) + 4) = _
 rw [wrap64 (n:=(a.length : Int) + b.length) (by omega) (by omega),wrap64 (by omega) (by omega)]
 rfl
def badH (x : HF) : Bool:=!tokenF x.name || (!plainB x.value || trimF x.value != x.value)
def checkL : List HF→Int→Int
 | [],n=>if 8192 < n then 3 else 0
 | x :: l,n=>if badH x then 6 else if 2000 < x.value.length then 3 else checkL l (n + sizeH x)
def checkF (l : List HF) : Int:=if 100 < l.length then 3 else checkL l 2
def spCheck : FSpec:=fun _ xs ls K=>∃ (l : List HF) (nl : Bool) (n : Int) (f : Nat→List SV),xs = [.sl (.a nl) (.a n) 2 f]∧ls = []∧RowH f n l∧∀ r,r = checkF l→K (.int .i64 (.a r)) []
structure ChJ (k : Int) (l : List HF) (i : Nat) (I N : Int) (m : Nat) : Prop where
 at_ : AtR l i I m
 lo : 0≤N
 hi : N≤3000 * (i + 1)
 k : k = checkL (l.drop i) N
def chJ (k : Int) (l : List HF) (nl : Bool) (n : Int) (f : Nat→List SV) (m : Nat) (vs : List (Option SV)) (hp : List Hl) : Prop :=
 ∃ (i : Nat) (I N : Int),vs = [some (.int .i64 (.a N)),some (.sl (.a nl) (.a n) 2 f),some (.int .i64 (.a n)),some (.int .i64 (.a I))]∧hp = []∧ChJ k l i I N m
theorem check_ok : FnOk Tryz.prog gl 85 spCheck:=by
 refine fnOk (gh:=[]) mixed cxOk (tabCons token_ok (tabCons hplain_ok (tabCons trim64_ok (tabCons size_ok tabNil)))) Tryz.func85 (by kernel_rfl) (by kernel_rfl) ?_
 intro xs ls K h
 unfold spCheck at h
 obtain ⟨l,nl,n,f,rfl,rfl,R,h⟩:=h
 obtain ⟨k,hk⟩ : ∃ k,k = checkF l:=⟨_,rfl⟩
 refine ⟨_,_,h k hk,fun D hD=>?_⟩
 clear h
 obtain ⟨J,hJ⟩ : ∃ J,J = chJ k l nl n f:=⟨_,rfl⟩
 cbv
 refine br hD (fun h=>?_) (fun h=>?_)<;>cbv
 ·refine finInt hD ?_
  have h2 : 100 < n:=of_decide_eq_true (p:=(100 : Int) < n) h
  rw [hk,checkF,if_pos (by have:=R.n; omega)]
  rfl
 have h2 : n≤100:=by
  have:=of_decide_eq_false (p:=(100 : Int) < n) h
  omega
 clear h
 refine ⟨[3,9,10,11],J,⟨rfl,l.length,?_⟩,?_⟩
 ·rw [hJ]
  subst hD
  refine ⟨0,0,2,rfl,rfl,AtR.zero R.len,by omega,by omega,?_⟩
  rw [hk,checkF,if_neg (by have:=R.n; omega)]
  rfl
 intro m vs hp hj
 rw [hJ] at hj
 obtain ⟨i,I,N,rfl,rfl,V⟩:=hj
 clear hk
 cbv
 refine br hD (fun h=>?_) (fun h=>?_)<;>cbv
 ·have hlt:=V.at_.lt R.n (of_decide_eq_true (p:=I < n) h)
  clear h
  refine ⟨V.at_.inB hD R.n hlt,fun j hj=>?_⟩
  obtain rfl:=V.at_.j hD hj
  clear hj
  have e1:=R.f j hlt
  have hsm:=R.small j hlt
  have hk2:=V.k
  rw [dropR (d:=default) hlt] at hk2
  obtain ⟨x,hx⟩ : ∃ x,x = l.getD j default:=⟨_,rfl⟩
  rw [←hx] at e1 hk2 hsm
  obtain ⟨a,b⟩:=x
  cbv
  rw [e1]
  cbv
  refine ⟨a,rfl,rfl,hsm.1,fun t ht=>?_⟩
  cbv
  refine ⟨b,rfl,rfl,fun p hp=>?_⟩
  cbv
  refine ⟨b,_,rfl,rfl,hsm.2,?_,?_,fun q hq=>?_⟩
  ·decide
  ·decide
  cbv
  have hbad : ∀ v : Bool,(((!t || !p) || !(q == b)) = v)→badH ⟨a,b⟩ = v:=by
   intro v hv
   rw [←hv,ht,hp,hq,trimS_eq,Bool.or_assoc]
   rfl
  clear ht hp hq
  refine br hD (fun h=>?_) (fun h=>?_)<;>cbv
  ·have h3:=hbad true (by simpa [BT.den] using h)
   refine finInt hD ?_
   rw [hk2,checkL,if_pos h3]; rfl
  have h3:=hbad false (by simpa [BT.den] using h)
  clear h hbad
  refine br hD (fun h=>?_) (fun h=>?_)<;>cbv
  ·have h4 : (2000 : Int) < b.length:=of_decide_eq_true (p:=(2000 : Int) < b.length) h
   refine finInt hD ?_
   rw [hk2,checkL,h3,if_neg (by simp),if_pos (by show 2000 < b.length; omega)]; rfl
  have h4 : b.length≤2000:=by
   have:=of_decide_eq_false (p:=(2000 : Int) < b.length) h
   omega
  clear h
  have ha : a.length≤64:=by
   unfold badH at h3
   simp only [Bool.or_eq_false_iff,Bool.not_eq_false'] at h3
   have:=h3.1
   unfold tokenF at this
   simp only [Bool.and_eq_true,decide_eq_true_eq] at this
   exact this.2.2
  refine ⟨a,b,rfl,rfl,⟨by omega,by omega⟩,fun z hz=>?_⟩
  cbv
  obtain ⟨g1,g2⟩:=V.at_.step hD hlt
  refine ⟨_,g1,?_⟩
  rw [hJ]
  have h5 : z = a.length + b.length + 4:=hz
  have h6:=V.lo
  have h7:=V.hi
  have h8:=V.at_.le
  have h9 : IntKind.i64.wrap (N + z) = N + z:=wrap64 (by omega) (by have:=R.n; omega)
  subst hD
  refine ⟨j + 1,_,_,rfl,rfl,g2,?_,?_,?_⟩
  ·show 0≤IntKind.i64.wrap (N + z); omega
  ·show IntKind.i64.wrap (N + z)≤_; omega
  ·show k = checkL _ (IntKind.i64.wrap (N + z))
   rw [h9,hk2,checkL,h3,if_neg (by simp),if_neg (by show ¬ 2000 < b.length; omega),h5]
   rfl
 ·have hi:=V.at_.eq R.n (of_decide_eq_false (p:=I < n) h)
  have hk2:=V.k
  rw [hi,List.drop_length] at hk2
  clear h
  refine br hD (fun h=>?_) (fun h=>?_)<;>cbv
  ·refine finInt hD ?_
   have h2 : 8192 < N:=of_decide_eq_true (p:=(8192 : Int) < N) h
   rw [hk2,checkL,if_pos h2]; rfl
  ·refine finInt hD ?_
   have h2 : ¬ 8192 < N:=of_decide_eq_false (p:=(8192 : Int) < N) h
   rw [hk2,checkL,if_neg h2]; rfl
end Go.Proofs.YtefelnhpfdcleaaGreatDoor
namespace Go.Proofs.YtefelnhpfdcleaaGreatDoor
open Go.Sx
set_option maxRecDepth 100000
set_option maxHeartbeats 8000000
def spNamed : FSpec:=fun _ xs ls K=>∃ (nl : Bool) (n : Int) (f : Nat→List SV) (s : List UInt8),xs = [.sl (.a nl) (.a n) 2 f,.str s]∧ls = []∧s.length≤9223372036854775807∧
 ∀ t,t = foldF s→K (.clo 184 [.ptr 0 0,.ptr 1 0]) [.blk 29 [.sl (.a nl) (.a n) 2 f],.blk 9 [.str t]]
theorem named_ok : FnOk Tryz.prog gl 172 spNamed:=by
 refine fnOkG (gh:=[]) mixed cxOk (tabCons fold_ok tabNil) Tryz.func172 (by kernel_rfl) (by kernel_rfl) ?_
 intro xs ls K h
 unfold spNamed at h
 obtain ⟨nl,n,f,s,rfl,rfl,hs,h⟩:=h
 obtain ⟨k,hk⟩ : ∃ k,k = foldF s:=⟨_,rfl⟩
 refine ⟨_,_,h k hk,fun D hD=>?_⟩
 clear h
 cbv
 refine ⟨s,rfl,rfl,hs,fun t ht=>?_⟩
 rw [←hk] at ht
 subst ht
 cbv
 subst hD
 exact fin_eq rfl rfl
end Go.Proofs.YtefelnhpfdcleaaGreatDoor
namespace Go.Proofs.YtefelnhpfdcleaaGreatDoor
open Go.Sx
set_option maxRecDepth 100000
set_option maxHeartbeats 8000000
def setF (F : List UInt8→Bool) (s : List UInt8) : List UInt8→Bool:=fun k=>if k = s then true else F k
def addEls (F : List UInt8→Bool) (els : List (List UInt8)) : List UInt8→Bool:=els.foldl (fun F s=>if tokenF s then setF F (foldF s) else F) F
def hopsR (t : List UInt8) : List HF→(List UInt8→Bool)→(List UInt8→Bool)×Bool
 | [],F=>(F,true)
 | x :: l,F=>if foldF x.name = t then (if (refElementsF x.value).2 = 0 then hopsR t l (addEls F (refElementsF x.value).1) else (F,false)) else hopsR t l F
def recFr (a b c : Nat) : List (Nat×Option SV):=[(2,some (.ptr a 0)),(3,some (.ptr b 0)),(5,some (.ptr c 0))]
def hopsY (c : LC) : FSpec:=fun _ xs ls K=>∃ (i : Int) (v : List UInt8) (F : List UInt8→Bool),
 xs = [.yv 0,.int .i64 (.a i),.str v]∧ls = [.lrec c (recFr 1 2 3) 0 none,.blk 156 [.raw (.map none)],.blk 23 [.int .i64 (.a 0)],.blk 156 [.mapv 4],.mset F]∧v.length≤9223372036854775807∧
 ((refElementsF v).2 = 0→∀ F',F' = addEls F (refElementsF v).1→K (.bool (.a true)) [.lrec c (recFr 1 2 3) 0 none,.blk 156 [.raw (.map none)],.blk 23 [.int .i64 (.a 0)],.blk 156 [.mapv 4],.mset F'])∧
 ((refElementsF v).2≠0→K (.bool (.a false)) [.lrec c (recFr 1 2 3) 2 (some .ret),.blk 156 [.raw (.map none)],.blk 23 [.int .i64 (.a 6)],.blk 156 [.mapv 4],.mset F])
def itHops (Y : FSpec) : FSpec:=fun _ xs ls K=>∃ (c : LC) (l : List HF) (nl : Bool) (n : Int) (f : Nat→List SV) (t : List UInt8) (F : List UInt8→Bool),Y = hopsY c∧
 xs = [.yv 0,.ptr 1 0,.ptr 2 0]∧ls = [.lrec c (recFr 3 4 5) 0 none,.blk 29 [.sl (.a nl) (.a n) 2 f],.blk 9 [.str t],.blk 156 [.raw (.map none)],.blk 23 [.int .i64 (.a 0)],.blk 156 [.mapv 6],.mset F]∧RowH f n l∧
 (∀ F',hopsR t l F = (F',true)→K (.tup []) [.lrec c (recFr 3 4 5) 0 none,.blk 29 [.sl (.a nl) (.a n) 2 f],.blk 9 [.str t],.blk 156 [.raw (.map none)],.blk 23 [.int .i64 (.a 0)],.blk 156 [.mapv 6],.mset F'])∧
 (∀ F',hopsR t l F = (F',false)→K (.tup []) [.lrec c (recFr 3 4 5) 2 (some .ret),.blk 29 [.sl (.a nl) (.a n) 2 f],.blk 9 [.str t],.blk 156 [.raw (.map none)],.blk 23 [.int .i64 (.a 6)],.blk 156 [.mapv 6],.mset F'])
structure NmJ (t : List UInt8) (k : (List UInt8→Bool)×Bool) (l : List HF) (F : List UInt8→Bool) (i : Nat) (I : Int) (m : Nat) : Prop where
 lie : AtR l i I m
 k : k = hopsR t (l.drop i) F
def nmJ (c : LC) (t : List UInt8) (k : (List UInt8→Bool)×Bool) (l : List HF) (nl : Bool) (n : Int) (f : Nat→List SV) (m : Nat) (vs : List (Option SV)) (hp : List Hl) : Prop :=
 ∃ (i : Nat) (I : Int) (F : List UInt8→Bool),vs = [some (.yv 0),some (.ptr 2 0),some (.sl (.a nl) (.a n) 2 f),some (.int .i64 (.a n)),some (.int .i64 (.a I))]∧
  hp = [.lrec c (recFr 3 4 5) 0 none,.blk 29 [.sl (.a nl) (.a n) 2 f],.blk 9 [.str t],.blk 156 [.raw (.map none)],.blk 23 [.int .i64 (.a 0)],.blk 156 [.mapv 6],.mset F]∧NmJ t k l F i I m
theorem named1_ok (Y : FSpec) (hY : YOk Tryz.prog gl Y) : FnOk Tryz.prog gl 184 (itHops Y):=by
 refine fnOkI (gh:=[]) (its:=[]) (yl:=[Y]) mixed cxOk (tabCons fold_ok tabNil) ⟨fun _ h=>(by cases h),fun Z h=>by rw [List.mem_singleton] at h; subst h; exact hY⟩ Tryz.func184 (by kernel_rfl) (by kernel_rfl) ?_
 intro xs ls K h
 unfold itHops at h
 obtain ⟨c,l,nl,n,f,t,F,rfl,rfl,rfl,R,h1,h2⟩:=h
 obtain ⟨k,hk⟩ : ∃ k,k = hopsR t l F:=⟨_,rfl⟩
 obtain ⟨r,ls',hK,hr,hls⟩ : ∃ r ls',K r ls'∧r = SV.tup []∧ls' = (if k.2 then [.lrec c (recFr 3 4 5) 0 none,.blk 29 [.sl (.a nl) (.a n) 2 f],.blk 9 [.str t],.blk 156 [.raw (.map none)],.blk 23 [.int .i64 (.a 0)],.blk 156 [.mapv 6],.mset k.1] else [.lrec c (recFr 3 4 5) 2 (some .ret),.blk 29 [.sl (.a nl) (.a n) 2 f],.blk 9 [.str t],.blk 156 [.raw (.map none)],.blk 23 [.int .i64 (.a 6)],.blk 156 [.mapv 6],.mset k.1]):=by
  obtain ⟨F',b⟩:=k
  cases b
  ·exact ⟨_,_,h2 F' hk.symm,rfl,rfl⟩
  ·exact ⟨_,_,h1 F' hk.symm,rfl,rfl⟩
 refine ⟨r,ls',hK,fun D hD=>?_⟩
 clear hK h1 h2
 subst hr
 obtain ⟨J,hJ⟩ : ∃ J,J = nmJ c t k l nl n f:=⟨_,rfl⟩
 cbv
 refine ⟨[0,2,6,7,8],J,⟨rfl,l.length,?_⟩,?_⟩
 ·rw [hJ]
  subst hD
  exact ⟨0,0,F,rfl,rfl,AtR.zero R.len,hk⟩
 intro m vs hp hj
 rw [hJ] at hj
 obtain ⟨i,I,F,rfl,rfl,V⟩:=hj
 clear hk
 cbv
 refine br hD (fun h=>?_) (fun h=>?_)<;>cbv
 ·have hlt:=V.lie.lt R.n (of_decide_eq_true (p:=I < n) h)
  clear h
  refine ⟨V.lie.inB hD R.n hlt,fun j hj=>?_⟩
  obtain rfl:=V.lie.j hD hj
  clear hj
  have e1:=R.f j hlt
  have hsm:=R.small j hlt
  have hk2:=V.k
  rw [dropR (d:=default) hlt] at hk2
  obtain ⟨x,hx⟩ : ∃ x,x = l.getD j default:=⟨_,rfl⟩
  rw [←hx] at e1 hk2 hsm
  obtain ⟨a,b⟩:=x
  cbv
  rw [e1]
  cbv
  refine ⟨a,rfl,rfl,hsm.1,fun z hz=>?_⟩
  cbv
  refine br hD (fun h=>?_) (fun h=>?_)<;>cbv
  ·have h3 : foldF a = t:=by rw [←hz]; simpa using h
   clear h
   refine ⟨I,b,F,?_,?_,hsm.2,fun he F' hF'=>?_,fun he=>?_⟩
   ·subst hD; rfl
   ·subst hD; rfl
   ·cbv
    refine br hD (fun h=>?_) (fun h=>?_)
    ·cbv
     exact absurd h (by simp [BT.den])
    cbv
    obtain ⟨g1,g2⟩:=V.lie.step hD hlt
    generalize l.length - (j + 1) = m' at g1 g2
    have e5 : k = hopsR t (l.drop (j + 1)) F':=by rw [hk2,hopsR,if_pos h3,if_pos he,hF']
    refine ⟨m',g1,?_⟩
    rw [hJ]
    unfold nmJ
    cbv
    subst hD
    exact ⟨j + 1,_,F',rfl,rfl,g2,e5⟩
   ·cbv
    refine br hD (fun h=>?_) (fun h=>?_)
    ·cbv
     have e5 : k = (F,false):=by rw [hk2,hopsR,if_pos h3,if_neg he]
     rw [hls,e5]
     subst hD
     exact fin_eq rfl rfl
    ·cbv
     exact absurd h (by rw [hz]; simp [BT.den,h3])
  ·have h3 : foldF a≠t:=by rw [←hz]; simpa using h
   clear h
   refine br hD (fun h=>?_) (fun h=>?_)
   ·cbv
    exact absurd h (by rw [hz]; simp [BT.den,h3])
   cbv
   obtain ⟨g1,g2⟩:=V.lie.step hD hlt
   generalize l.length - (j + 1) = m' at g1 g2
   have e5 : k = hopsR t (l.drop (j + 1)) F:=by rw [hk2,hopsR,if_neg h3]
   refine ⟨m',g1,?_⟩
   rw [hJ]
   unfold nmJ
   cbv
   subst hD
   exact ⟨j + 1,_,F,rfl,rfl,g2,e5⟩
 ·have hi:=V.lie.eq R.n (of_decide_eq_false (p:=I < n) h)
  have hk2:=V.k
  rw [hi,List.drop_length] at hk2
  clear h
  rw [hls,hk2]
  subst hD
  exact fin_eq rfl rfl
end Go.Proofs.YtefelnhpfdcleaaGreatDoor
namespace Go.Proofs.YtefelnhpfdcleaaGreatDoor
open Go.Sx
set_option maxRecDepth 100000
set_option maxHeartbeats 8000000
def conn : List UInt8:=[99,111,110,110,101,99,116,105,111,110]
def fixedL : List (List UInt8):=[conn,[107,101,101,112,45,97,108,105,118,101],[112,114,111,120,121,45,99,111,110,110,101,99,116,105,111,110],[116,101],[116,114,97,105,108,101,114],[116,114,97,110,115,102,101,114,45,101,110,99,111,100,105,110,103],[117,112,103,114,97,100,101]]
def baseS : List UInt8→Bool:=fixedL.foldl setF fun _=>false
def hopsF (l : List HF) : (List UInt8→Bool)×Bool:=hopsR conn l baseS
def hopsK (l : List HF) : SV×List Hl :=
 if checkF l≠0 then (.tup [.raw (.map none),.int .i64 (.a (checkF l))],[]) else
 if (hopsF l).2 then (.tup [.mapv 0,.int .i64 (.a 0)],[.mset (hopsF l).1]) else (.tup [.raw (.map none),.int .i64 (.a 6)],[])
def spHops : FSpec:=fun _ xs ls K=>∃ (l : List HF) (nl : Bool) (n : Int) (f : Nat→List SV),xs = [.sl (.a nl) (.a n) 2 f]∧ls = []∧RowH f n l∧∀ k,k = hopsK l→K k.1 k.2
theorem MapOf.eq {F' F : List UInt8→Bool} {s : List UInt8} (h : MapOf F' F s true) : F' = setF F s:=funext fun k=>h.h k
structure HopJ (els : List (List UInt8)) (F0 F : List UInt8→Bool) (i : Nat) (I L : Int) (m : Nat) : Prop where
 lie : AtR els i I m
 L : L = els.length
 k : addEls F0 els = addEls F (els.drop i)
def hopJ (c : LC) (els : List (List UInt8)) (F0 : List UInt8→Bool) (nb : Bool) (n : Int) (f : Nat→List SV) (m : Nat) (vs : List (Option SV)) (hp : List Hl) : Prop :=
 ∃ (i : Nat) (I : Int) (F : List UInt8→Bool),vs = [some (.ptr 3 0),some (.sl (.a nb) (.a n) 1 f),some (.int .i64 (.a n)),some (.int .i64 (.a I))]∧
  hp = [.lrec c (recFr 1 2 3) 1 none,.blk 156 [.raw (.map none)],.blk 23 [.int .i64 (.a 0)],.blk 156 [.mapv 4],.mset F]∧HopJ els F0 F i I n m
theorem refEl_len {v : List UInt8} {l : List (List UInt8)} (h : l = (refElementsF v).1) : l.length≤9223372036854775807:=by
 have:=(refElementsF_len v).1; rw [←h] at this; omega
theorem refEl_small {v : List UInt8} {l : List (List UInt8)} (h : l = (refElementsF v).1) (i : Nat) (hi : i < l.length) : (l.getD i []).length≤9223372036854775807:=by
 have:=(refElementsF_len v).2 (l.getD i []) (by rw [←h,List.getD_eq_getElem?_getD,List.getElem?_eq_getElem hi]; exact List.getElem_mem hi)
 omega
theorem hops_ok : FnOk Tryz.prog gl 156 spHops:=by
 refine fnOkI (gh:=[]) (its:=[(184,itHops)]) (yl:=[]) mixed cxOk (tabCons check_ok (tabConsG named_ok (tabCons elements_ok (tabCons token_ok (tabCons fold_ok tabNil))))) ⟨fun x h Y hY=>by rw [List.mem_singleton] at h; subst h; exact named1_ok Y hY,fun _ h=>(by cases h)⟩ Tryz.func156 (by kernel_rfl) (by kernel_rfl) ?_
 intro xs ls K h
 unfold spHops at h
 obtain ⟨l,nl,n,f,rfl,rfl,R,h⟩:=h
 obtain ⟨k,hk⟩ : ∃ k,k = hopsK l:=⟨_,rfl⟩
 refine ⟨_,_,h k hk,fun D hD=>?_⟩
 clear h
 cbv
 refine ⟨l,_,_,f,rfl,rfl,by subst hD; exact R,fun e he=>?_⟩
 cbv
 refine br hD (fun h=>?_) (fun h=>?_)<;>cbv
 ·have h1 : e≠0:=by simpa using h
  rw [he] at h1
  rw [hk,hopsK,if_pos h1,←he]
  subst hD
  exact fin_eq rfl rfl
 have h1 : checkF l = 0:=by rw [←he]; simpa using h
 clear h
 have hk2 : k = if (hopsF l).2 then (.tup [.mapv 0,.int .i64 (.a 0)],[.mset (hopsF l).1]) else (.tup [.raw (.map none),.int .i64 (.a 6)],[]):=by
  rw [hk,hopsK,if_neg (by simp [h1])]
 clear hk
 intro F1 h1; obtain rfl : F1 = setF _ _:=MapOf.eq (by subst hD; exact h1); clear h1; cbv
 intro F2 h2; obtain rfl : F2 = setF _ _:=MapOf.eq (by subst hD; exact h2); clear h2; cbv
 intro F3 h3; obtain rfl : F3 = setF _ _:=MapOf.eq (by subst hD; exact h3); clear h3; cbv
 intro F4 h4; obtain rfl : F4 = setF _ _:=MapOf.eq (by subst hD; exact h4); clear h4; cbv
 intro F5 h5; obtain rfl : F5 = setF _ _:=MapOf.eq (by subst hD; exact h5); clear h5; cbv
 intro F6 h6; obtain rfl : F6 = setF _ _:=MapOf.eq (by subst hD; exact h6); clear h6; cbv
 intro F7 h7; obtain rfl : F7 = setF _ _:=MapOf.eq (by subst hD; exact h7); clear h7; cbv
 refine ⟨_,_,f,conn,rfl,rfl,by decide,fun t ht=>?_⟩
 have ht : t = conn:=ht
 subst ht
 cbv
 intro c hc
 refine ⟨[2,3,5],hopsY c,?_,?_⟩
 ·rintro xs ls K' ⟨i,v,F,rfl,rfl,hv,h1,h2⟩
  refine ⟨⟨_,rfl⟩,?_⟩
  obtain ⟨els,hels⟩ : ∃ l,l = (refElementsF v).1:=⟨_,rfl⟩
  obtain ⟨ee,hee⟩ : ∃ l,l = (refElementsF v).2:=⟨_,rfl⟩
  obtain ⟨r,ls',hK,hr,hls⟩ : ∃ r ls',K' r ls'∧r = SV.bool (.a (ee == 0))∧ls' = (if ee = 0 then [.lrec c (recFr 1 2 3) 0 none,.blk 156 [.raw (.map none)],.blk 23 [.int .i64 (.a 0)],.blk 156 [.mapv 4],.mset (addEls F els)] else [.lrec c (recFr 1 2 3) 2 (some .ret),.blk 156 [.raw (.map none)],.blk 23 [.int .i64 (.a 6)],.blk 156 [.mapv 4],.mset F]):=by
   by_cases he : (refElementsF v).2 = 0
   ·refine ⟨_,_,h1 he _ rfl,?_,?_⟩
    ·rw [hee,he]; rfl
    ·rw [hee,he,if_pos rfl,hels]
   ·refine ⟨_,_,h2 he,?_,?_⟩
    ·have : ((refElementsF v).2 == 0) = false:=by simpa using he
     rw [hee,this]
    ·rw [hee,if_neg he]
  refine ⟨r,ls',hK,?_⟩
  clear hK h1 h2
  subst hr
  cbv
  refine ⟨v,rfl,rfl,hv,fun l e n nb hle hn hnb=>?_⟩
  have hl2 : l = els:=by rw [hels,←hle]
  have he2 : e = ee:=by rw [hee,←hle]
  subst hl2 he2
  have RS : RowS (strRow l) n l:=by rw [hn]; exact RowS.row (refEl_len hels)
  obtain ⟨g,hg⟩ : ∃ g,g = strRow l:=⟨_,rfl⟩
  rw [←hg] at RS ⊢
  clear hle hg hn
  cbv
  refine br hD (fun h=>?_) (fun h=>?_)
  ·have he : e≠0:=by simpa using h
   rw [if_neg he] at hls
   have he3 : (e == 0) = false:=by simpa using he
   rw [hls,he3]
   cbv
   subst hD
   exact fin_eq rfl rfl
  ·have he : e = 0:=by simpa using h
   clear h
   rw [if_pos he] at hls
   rw [he]
   obtain ⟨J,hJ⟩ : ∃ J,J = hopJ c l F nb n g:=⟨_,rfl⟩
   cbv
   refine ⟨[5,30,31,32],J,⟨rfl,l.length,?_⟩,?_⟩
   ·rw [hJ]
    subst hD
    exact ⟨0,0,F,rfl,rfl,AtR.zero RS.len,RS.n,rfl⟩
   intro m vs hp hj
   rw [hJ] at hj
   obtain ⟨i,I,F2,rfl,rfl,V⟩:=hj
   cbv
   refine br hD (fun h=>?_) (fun h=>?_)<;>cbv
   ·have hlt:=V.lie.lt RS.n (of_decide_eq_true (p:=I < n) h)
    clear h
    refine ⟨V.lie.inB hD RS.n hlt,fun j hj=>?_⟩
    obtain rfl:=V.lie.j hD hj
    clear hj
    have e1:=RS.f j hlt
    have hk2:=V.k
    rw [dropR (d:=[]) hlt] at hk2
    have hsm:=refEl_small hels j hlt
    obtain ⟨x,hx⟩ : ∃ x,x = l.getD j []:=⟨_,rfl⟩
    rw [←hx] at e1 hk2 hsm
    cbv
    rw [e1]
    cbv
    refine ⟨x,rfl,rfl,hsm,fun t ht=>?_⟩
    cbv
    obtain ⟨g1,g2⟩:=V.lie.step hD hlt
    generalize l.length - (j + 1) = m' at g1 g2
    refine br hD (fun h=>?_) (fun h=>?_)<;>cbv
    ·have h3 : tokenF x = true:=by rw [←ht]; simpa using h
     clear h
     refine ⟨x,rfl,rfl,hsm,fun y hy=>?_⟩
     have hy : y = foldF x:=hy
     cbv
     intro F3 h3'
     obtain rfl : F3 = setF F2 y:=MapOf.eq (by subst hD; exact h3')
     clear h3'
     cbv
     refine ⟨m',g1,?_⟩
     rw [hJ]
     unfold hopJ
     subst hD
     refine ⟨j + 1,_,_,rfl,rfl,g2,RS.n,?_⟩
     rw [hk2,hy]
     simp only [addEls,List.foldl_cons,h3,if_true]
    ·have h3 : tokenF x = false:=by rw [←ht]; simpa using h
     clear h
     refine ⟨m',g1,?_⟩
     rw [hJ]
     unfold hopJ
     subst hD
     refine ⟨j + 1,_,F2,rfl,rfl,g2,RS.n,?_⟩
     rw [hk2]
     simp only [addEls,List.foldl_cons,h3,Bool.false_eq_true,if_false]
   ·have hi:=V.lie.eq RS.n (of_decide_eq_false (p:=I < n) h)
    have hk2:=V.k
    rw [hi,List.drop_length] at hk2
    clear h
    have hk3 : addEls F l = F2:=hk2
    rw [hls,hk3]
    cbv
    subst hD
    exact fin_eq rfl rfl
 ·cbv
  refine ⟨c,l,nl,n,f,conn,baseS,rfl,rfl,by subst hD; rfl,R,fun F' hF=>?_,fun F' hF=>?_⟩
  ·have e5 : k = (.tup [.mapv 0,.int .i64 (.a 0)],[.mset F']):=by
    rw [hk2,hopsF,hF]; rfl
   rw [e5]
   cbv
   subst hD
   exact fin_eq rfl rfl
  ·have e5 : k = (.tup [.raw (.map none),.int .i64 (.a 6)],[]):=by
    rw [hk2,hopsF,hF]; rfl
   rw [e5]
   cbv
   subst hD
   exact fin_eq rfl rfl
end Go.Proofs.YtefelnhpfdcleaaGreatDoor
