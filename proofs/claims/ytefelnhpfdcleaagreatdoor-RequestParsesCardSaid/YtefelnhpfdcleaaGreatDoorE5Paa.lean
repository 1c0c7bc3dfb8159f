/- Part of the proofs of the statements about requests (layer 7): a symbolic executor over the code, that it is sound, and contracts of functions; it has no conditions of its own. -/
import Derived.Test.YtefelnhpfdcleaaGreatDoorSzPaz
import Derived.Test.YtefelnhpfdcleaaGreatDoorSzPbd
import Derived.Test.YtefelnhpfdcleaaGreatDoorSzPbg
import Derived.Test.YtefelnhpfdcleaaGreatDoorTzPaf
import Derived.Test.YtefelnhpfdcleaaGreatDoorSzPbh
namespace Go.Proofs.YtefelnhpfdcleaaGreatDoor
open Go Go.Sx Go.ChangeShapes Go.WideShapes Go.RowKit
set_option maxRecDepth 100000
theorem ro1 {I : Nat→Nat→Prop} {W : World} {s : SV} {v : Value} (h : RO I W s v) : ∀ (i : Nat) (s' : SV) (v' : Value),[s][i]? = some s'→[v][i]? = some v'→RO I W s' v'
 | 0,_,_,a,b=>by simp at a b; subst a b; exact h
 | _ + 1,_,_,a,_=>by simp at a
end Go.Proofs.YtefelnhpfdcleaaGreatDoor
namespace Go.Proofs.YtefelnhpfdcleaaGreatDoor
open Go Go.Sx Go.ChangeShapes Go.WideShapes Go.RowKit
set_option maxRecDepth 100000
abbrev StD:={s : List UInt8 // s.length≤maxLen}
abbrev HfD:=StD×StD×Unit
def Aq (x : HfD) : HF:=⟨x.1.1,x.2.1.1⟩
end Go.Proofs.YtefelnhpfdcleaaGreatDoor
namespace Go.Proofs.YtefelnhpfdcleaaGreatDoor
open Go Go.Sx Go.ChangeShapes Go.WideShapes Go.RowKit
set_option maxRecDepth 100000
abbrev U8:={n : Int // (Lit.int .u8 n).wf = true}
def u8C (n : U8) : List SV:=[.int .u8 (.a n.1)]
theorem Acx : B9 Tryz.prog 5 u8C:=.intB Tryz.underlying5
abbrev BsD:={x : Bool×List U8 // x.2.length≤maxLen∧(x.1 = true→x.2 = [])}
theorem Rh : B9 Tryz.prog 36 (fun x : BsD=>slC 1 u8C x.1):=.sliceN Tryz.underlying36 (by kernel_rfl) (by decide) Acx
def Aij (x : BsD) : SV:=.sl (.a x.1.1) (.a (x.1.2.length : Int)) 1 (Ci u8C x.1.2)
def Ff (x : BsD) : List UInt8:=x.1.2.map fun n=>UInt8.ofNat n.1.toNat
theorem Ur (n : U8) : 0≤n.1∧n.1≤255:=by
 have:=n.2
 simpa [Lit.wf,IntKind.min,IntKind.max,IntKind.signed,IntKind.bits] using this
theorem Nj (x : BsD) : Bn (Ci u8C x.1.2) (x.1.2.length : Int) (Ff x):=by
 refine ⟨by unfold Ff; rw [List.length_map],fun i hi=>?_⟩
 unfold Ff at hi ⊢
 rw [List.length_map] at hi
 unfold Ci
 rw [List.getElem?_eq_getElem hi,List.getD_eq_getElem?_getD,List.getElem?_map,List.getElem?_eq_getElem hi]
 have hf:=Ur x.1.2[i]
 have h8:=Aah ⟨x.1.2[i].1.toNat,by omega⟩
 simp only [Option.map_some,Option.getD_some,u8C]
 simp only at h8
 rw [h8]
 congr 3
 omega
end Go.Proofs.YtefelnhpfdcleaaGreatDoor
namespace Go.Proofs.YtefelnhpfdcleaaGreatDoor
open Go Go.Sx
set_option maxRecDepth 100000
set_option maxHeartbeats 16000000
theorem Hk {P : Go.Program} {gl : List (Nat×SV)} {f : Go.FuncId} {as1 as2 : List SV} {ls : List Hl} {r : SV} {ls' : List Hl} (h : LeL as1 as2) (c : Dk P gl f as2 ls r ls') : Dk P gl f as1 ls r ls' :=
 fun B E w vals hw hI hdom hb hg hh hr=>c B E w vals hw hI hdom hb hg hh (h E w vals hr)
def Vf (l : List HF) (i : Nat) : List SV:=B6 (l.getD i default)
theorem Gd.total {r : Rq} {nl : Bool} {n : Int} {f : Nat→List SV} (R : Gd r nl n f) : Gd r nl n (Vf r.fields):=⟨R.id1,R.id2,R.method,R.target,R.host,R.body,⟨R.row.n,fun _ _=>rfl,R.row.len,R.row.small⟩,R.nil⟩
end Go.Proofs.YtefelnhpfdcleaaGreatDoor
namespace Go.Proofs.YtefelnhpfdcleaaGreatDoor
open Go Go.Sx
set_option maxRecDepth 100000
set_option maxHeartbeats 16000000
def spParses : FSpec:=fun _ xs ls K=>∃ (b : List UInt8) (nl : Bool) (n : Int) (f : Nat→List SV),xs = [.sl (.a nl) (.a n) 1 f]∧ls = []∧Bn f n b∧Yn f b∧K (.bool (.a true)) []
theorem Y2 : Ar Tryz.prog gl 5 spParses:=by
 refine A4 (gh:=[]) mixed A0 (Aa Pp (Aa P0 (Aa Vs (Aa Ps Ae)))) Tryz.func5 (by kernel_rfl) (by kernel_rfl) ?_
 intro xs ls K h
 unfold spParses at h
 obtain ⟨b,nl,n,f,rfl,rfl,R,hT,h⟩:=h
 refine ⟨_,_,h,fun D hD=>?_⟩
 clear h
 cbv
 refine br hD (fun h=>?_) (fun h=>?_)<;>cbv
 ·exact Aj hD rfl
 have h : decide (12000 < n) = false:=h
 have hb : LeN b.length 1000000:=⟨by have:=of_decide_eq_false h; have:=R.n; omega⟩
 clear h
 refine ⟨b,nl,n,f,by subst hD; rfl,rfl,R,hb.h,fun r g n1 b1 k e h1 G1=>?_⟩
 cbv
 refine ⟨b,nl,n,f,by subst hD; rfl,rfl,R,hT,hb.h,fun r2 g2 n2 b2 k2 e2 h2 G2=>?_⟩
 cbv
 rw [←h1] at h2
 simp only [Prod.mk.injEq] at h2
 obtain ⟨rfl,rfl,rfl⟩:=h2
 refine ⟨r2,r2,_,_,_,_,_,_,by subst hD; rfl,rfl,G1.row,G2.row,fun q hq=>?_⟩
 cbv
 rw [decide_eq_true rfl] at hq
 subst hq
 refine Aj hD ?_
 show (((true && (k2 == k2)) && (e2 == e2)) && true) = true
 simp
theorem Bn.total {f : Nat→List SV} {n : Int} {b : List UInt8} (R : Bn f n b) : Bn (byteRow b) n b∧Yn (byteRow b) b:=⟨⟨R.n,fun _ _=>rfl⟩,fun _=>rfl⟩
theorem rowULe {f : Nat→List SV} {n : Int} {b : List UInt8} {nl : Bool} (R : Bn f n b) : LeV (.sl (.a nl) (.a n) 1 f) (.sl (.a nl) (.a n) 1 (byteRow b)):=by
 refine .sl rfl rfl fun i hi=>?_
 have hi : (i : Int) < n:=hi
 rw [R.f i (by have:=R.n; omega)]
 rfl
def spParsesD : FSpec:=fun _ xs ls K=>∃ (b : List UInt8) (nl : Bool) (n : Int) (f : Nat→List SV),xs = [.sl (.a nl) (.a n) 1 f]∧ls = []∧Bn f n b∧K (.bool (.a true)) []
theorem Afj : Ar Tryz.prog gl 5 spParsesD:=by
 refine ⟨Y2.1,fun xs ls K h=>?_⟩
 obtain ⟨b,nl,n,f,rfl,rfl,R,h⟩:=h
 obtain ⟨v,ls',hK,hc⟩:=Y2.2 _ [] K ⟨b,nl,n,byteRow b,rfl,rfl,R.total.1,R.total.2,h⟩
 exact ⟨v,ls',hK,Hk (LeL.cons (rowULe R) LeL.nil) hc⟩
end Go.Proofs.YtefelnhpfdcleaaGreatDoor
