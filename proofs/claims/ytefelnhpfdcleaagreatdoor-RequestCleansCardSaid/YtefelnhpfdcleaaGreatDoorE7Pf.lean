/- Part of the proofs of the statements about requests (layer 7): a symbolic executor over the code, that it is sound, and contracts of functions; it has no conditions of its own. -/
import Derived.Lib.ItoaLen
import Derived.Lib.Strings
import Derived.Lib.Slices
import Derived.Lib.Walk
import Derived.Lib.Builder
import Derived.Lib.AppendStr
import Derived.Lib.UnsafeStr
import Derived.WalkKit
import Derived.Laws.Externs
import Derived.Laws.IdiomCopy
import Derived.Shelf.Bytes.SlIndexAt
import Derived.Test.YtefelnhpfdcleaaGreatDoorE7Pe
namespace Go.Proofs.YtefelnhpfdcleaaGreatDoor
open Go.Sx
set_option maxRecDepth 100000
set_option maxHeartbeats 8000000
structure HF where
 name : List UInt8
 value : List UInt8
 deriving Inhabited
def hfCells (x : HF) : List SV:=[.str x.name,.str x.value]
def HF.small (x : HF) : Prop:=x.name.length≤9223372036854775807∧x.value.length≤9223372036854775807
structure RowH (f : Nat→List SV) (n : Int) (l : List HF) : Prop where
 n : n = l.length
 f : ∀ i,i < l.length→f i = hfCells (l.getD i default)
 len : l.length≤9223372036854775807
 small : ∀ i,i < l.length→(l.getD i default).small
def sizeH (x : HF) : Int:=x.name.length + x.value.length + 4
structure SizeOk (a b : List UInt8) : Prop where
 a : a.length≤1000000000000
 b : b.length≤1000000000000
def spSize : FSpec:=fun _ xs ls K=>∃ (a b : List UInt8),xs = [.agg [.str a,.str b]]∧ls = []∧SizeOk a b∧∀ r,r = sizeH ⟨a,b⟩→K (.int .i64 (.a r)) []
theorem size_ok : FnOk Tryz.prog gl 112 spSize:=by
 refine fnOk (gh:=[]) mixed cxOk tabNil Tryz.func112 (by kernel_rfl) (by kernel_rfl) ?_
 intro xs ls K h
 unfold spSize at h
 obtain ⟨a,b,rfl,rfl,hs,h⟩:=h
 obtain ⟨k,hk⟩ : ∃ k,k = sizeH ⟨a,b⟩:=⟨_,rfl⟩
 refine ⟨_,_,h k hk,fun D hD=>?_⟩
 clear h
 cbv
 refine finInt hD ?_
 have h1:=hs.a; have h2:=hs.b
 rw [hk]
 show IntKind.i64.wrap (IntKind.i64.wrap ((a.length : Int) + b.length) + 4) = _
 rw [wrap64 (n:=(a.length : Int) + b.length) (by omega) (by omega),wrap64 (by omega) (by omega)]
 rfl
def badH (x : HF) : Bool:=!tokenF x.name || (!plainB x.value || trimF x.value != x.value)
def checkL : List HF→Int→Int
 | [],n=>if 8192 < n then 3 else 0
 | x :: l,n=>if badH x then 6 else if 2000 < x.value.length then 3 else checkL l (n + sizeH x)
def checkF (l : List HF) : Int:=if 100 < l.length then 3 else checkL l 2
def spCheck : FSpec:=fun _ xs ls K=>∃ (l : List HF) (nl : Bool) (n : Int) (f : Nat→List SV),xs = [.sl (.a nl) (.a n) 2 f]∧ls = []∧RowH f n l∧∀ r,r = checkF l→K (.int .i64 (.a r)) []
structure ChJ (k : Int) (l : List HF) (i : Nat) (I N : Int) (m : Nat) : Prop where
 at_ : AtR l i I m
 lo : 0≤N
 hi : N≤3000 * (i + 1)
 k : k = checkL (l.drop i) N
def chJ (k : Int) (l : List HF) (nl : Bool) (n : Int) (f : Nat→List SV) (m : Nat) (vs : List (Option SV)) (hp : List Hl) : Prop :=
 ∃ (i : Nat) (I N : Int),vs = [some (.int .i64 (.a N)),some (.sl (.a nl) (.a n) 2 f),some (.int .i64 (.a n)),some (.int .i64 (.a I))]∧hp = []∧ChJ k l i I N m
theorem check_ok : FnOk Tryz.prog gl 85 spCheck:=by
 refine fnOk (gh:=[]) mixed cxOk (tabCons token_ok (tabCons hplain_ok (tabCons trim64_ok (tabCons size_ok tabNil)))) Tryz.func85 (by kernel_rfl) (by kernel_rfl) ?_
 intro xs ls K h
 unfold spCheck at h
 obtain ⟨l,nl,n,f,rfl,rfl,R,h⟩:=h
 obtain ⟨k,hk⟩ : ∃ k,k = checkF l:=⟨_,rfl⟩
 refine ⟨_,_,h k hk,fun D hD=>?_⟩
 clear h
 obtain ⟨J,hJ⟩ : ∃ J,J = chJ k l nl n f:=⟨_,rfl⟩
 cbv
 refine br hD (fun h=>?_) (fun h=>?_)<;>cbv
 ·refine finInt hD ?_
  have h2 : 100 < n:=of_decide_eq_true (p:=(100 : Int) < n) h
  rw [hk,checkF,if_pos (by have:=R.n; omega)]
  rfl
 have h2 : n≤100:=by
  have:=of_decide_eq_false (p:=(100 : Int) < n) h
  omega
 clear h
 refine ⟨[3,9,10,11],J,⟨rfl,l.length,?_⟩,?_⟩
 ·rw [hJ]
  subst hD
  refine ⟨0,0,2,rfl,rfl,AtR.zero R.len,by omega,by omega,?_⟩
  rw [hk,checkF,if_neg (by have:=R.n; omega)]
  rfl
 intro m vs hp hj
 rw [hJ] at hj
 obtain ⟨i,I,N,rfl,rfl,V⟩:=hj
 clear hk
 cbv
 refine br hD (fun h=>?_) (fun h=>?_)<;>cbv
 ·have hlt:=V.at_.lt R.n (of_decide_eq_true (p:=I < n) h)
  clear h
  refine ⟨V.at_.inB hD R.n hlt,fun j hj=>?_⟩
  obtain rfl:=V.at_.j hD hj
  clear hj
  have e1:=R.f j hlt
  have hsm:=R.small j hlt
  have hk2:=V.k
  rw [dropR (d:=default) hlt] at hk2
  obtain ⟨x,hx⟩ : ∃ x,x = l.getD j default:=⟨_,rfl⟩
  rw [←hx] at e1 hk2 hsm
  obtain ⟨a,b⟩:=x
  cbv
  rw [e1]
  cbv
  refine ⟨a,rfl,rfl,hsm.1,fun t ht=>?_⟩
  cbv
  refine ⟨b,rfl,rfl,fun p hp=>?_⟩
  cbv
  refine ⟨b,_,rfl,rfl,hsm.2,?_,?_,fun q hq=>?_⟩
  ·decide
  ·decide
  cbv
  have hbad : ∀ v : Bool,(((!t || !p) || !(q == b)) = v)→badH ⟨a,b⟩ = v:=by
   intro v hv
   rw [←hv,ht,hp,hq,trimS_eq,Bool.or_assoc]
   rfl
  clear ht hp hq
  refine br hD (fun h=>?_) (fun h=>?_)<;>cbv
  ·have h3:=hbad true (by simpa [BT.den] using h)
   refine finInt hD ?_
   rw [hk2,checkL,if_pos h3]; rfl
  have h3:=hbad false (by simpa [BT.den] using h)
  clear h hbad
  refine br hD (fun h=>?_) (fun h=>?_)<;>cbv
  ·have h4 : (2000 : Int) < b.length:=of_decide_eq_true (p:=(2000 : Int) < b.length) h
   refine finInt hD ?_
   rw [hk2,checkL,h3,if_neg (by simp),if_pos (by show 2000 < b.length; omega)]; rfl
  have h4 : b.length≤2000:=by
   have:=of_decide_eq_false (p:=(2000 : Int) < b.length) h
   omega
  clear h
  have ha : a.length≤64:=by
   unfold badH at h3
   simp only [Bool.or_eq_false_iff,Bool.not_eq_false'] at h3
   have:=h3.1
   unfold tokenF at this
   simp only [Bool.and_eq_true,decide_eq_true_eq] at this
   exact this.2.2
  refine ⟨a,b,rfl,rfl,⟨by omega,by omega⟩,fun z hz=>?_⟩
  cbv
  obtain ⟨g1,g2⟩:=V.at_.step hD hlt
  refine ⟨_,g1,?_⟩
  rw [hJ]
  have h5 : z = a.length + b.length + 4:=hz
  have h6:=V.lo
  have h7:=V.hi
  have h8:=V.at_.le
  have h9 : IntKind.i64.wrap (N + z) = N + z:=wrap64 (by omega) (by have:=R.n; omega)
  subst hD
  refine ⟨j + 1,_,_,rfl,rfl,g2,?_,?_,?_⟩
  ·show 0≤IntKind.i64.wrap (N + z); omega
  ·show IntKind.i64.wrap (N + z)≤_; omega
  ·show k = checkL _ (IntKind.i64.wrap (N + z))
   rw [h9,hk2,checkL,h3,if_neg (by simp),if_neg (by show ¬ 2000 < b.length; omega),h5]
   rfl
 ·have hi:=V.at_.eq R.n (of_decide_eq_false (p:=I < n) h)
  have hk2:=V.k
  rw [hi,List.drop_length] at hk2
  clear h
  refine br hD (fun h=>?_) (fun h=>?_)<;>cbv
  ·refine finInt hD ?_
   have h2 : 8192 < N:=of_decide_eq_true (p:=(8192 : Int) < N) h
   rw [hk2,checkL,if_pos h2]; rfl
  ·refine finInt hD ?_
   have h2 : ¬ 8192 < N:=of_decide_eq_false (p:=(8192 : Int) < N) h
   rw [hk2,checkL,if_neg h2]; rfl
end Go.Proofs.YtefelnhpfdcleaaGreatDoor
namespace Go.Proofs.YtefelnhpfdcleaaGreatDoor
open Go.Sx
set_option maxRecDepth 100000
set_option maxHeartbeats 8000000
def spNamed : FSpec:=fun _ xs ls K=>∃ (nl : Bool) (n : Int) (f : Nat→List SV) (s : List UInt8),xs = [.sl (.a nl) (.a n) 2 f,.str s]∧ls = []∧s.length≤9223372036854775807∧
 ∀ t,t = foldF s→K (.clo 184 [.ptr 0 0,.ptr 1 0]) [.blk 29 [.sl (.a nl) (.a n) 2 f],.blk 9 [.str t]]
theorem named_ok : FnOk Tryz.prog gl 172 spNamed:=by
 refine fnOkG (gh:=[]) mixed cxOk (tabCons fold_ok tabNil) Tryz.func172 (by kernel_rfl) (by kernel_rfl) ?_
 intro xs ls K h
 unfold spNamed at h
 obtain ⟨nl,n,f,s,rfl,rfl,hs,h⟩:=h
 obtain ⟨k,hk⟩ : ∃ k,k = foldF s:=⟨_,rfl⟩
 refine ⟨_,_,h k hk,fun D hD=>?_⟩
 clear h
 cbv
 refine ⟨s,rfl,rfl,hs,fun t ht=>?_⟩
 rw [←hk] at ht
 subst ht
 cbv
 subst hD
 exact fin_eq rfl rfl
end Go.Proofs.YtefelnhpfdcleaaGreatDoor
namespace Go.Proofs.YtefelnhpfdcleaaGreatDoor
open Go.Sx
set_option maxRecDepth 100000
set_option maxHeartbeats 8000000
def setF (F : List UInt8→Bool) (s : List UInt8) : List UInt8→Bool:=fun k=>if k = s then true else F k
def addEls (F : List UInt8→Bool) (els : List (List UInt8)) : List UInt8→Bool:=els.foldl (fun F s=>if tokenF s then setF F (foldF s) else F) F
def hopsR (t : List UInt8) : List HF→(List UInt8→Bool)→(List UInt8→Bool)×Bool
 | [],F=>(F,true)
 | x :: l,F=>if foldF x.name = t then (if (refElementsF x.value).2 = 0 then hopsR t l (addEls F (refElementsF x.value).1) else (F,false)) else hopsR t l F
def recFr (a b c : Nat) : List (Nat×Option SV):=[(2,some (.ptr a 0)),(3,some (.ptr b 0)),(5,some (.ptr c 0))]
def hopsY (c : LC) : FSpec:=fun _ xs ls K=>∃ (i : Int) (v : List UInt8) (F : List UInt8→Bool),
 xs = [.yv 0,.int .i64 (.a i),.str v]∧ls = [.lrec c (recFr 1 2 3) 0 none,.blk 156 [.raw (.map none)],.blk 23 [.int .i64 (.a 0)],.blk 156 [.mapv 4],.mset F]∧v.length≤9223372036854775807∧
 ((refElementsF v).2 = 0→∀ F',F' = addEls F (refElementsF v).1→K (.bool (.a true)) [.lrec c (recFr 1 2 3) 0 none,.blk 156 [.raw (.map none)],.blk 23 [.int .i64 (.a 0)],.blk 156 [.mapv 4],.mset F'])∧
 ((refElementsF v).2≠0→K (.bool (.a false)) [.lrec c (recFr 1 2 3) 2 (some .ret),.blk 156 [.raw (.map none)],.blk 23 [.int .i64 (.a 6)],.blk 156 [.mapv 4],.mset F])
def itHops (Y : FSpec) : FSpec:=fun _ xs ls K=>∃ (c : LC) (l : List HF) (nl : Bool) (n : Int) (f : Nat→List SV) (t : List UInt8) (F : List UInt8→Bool),Y = hopsY c∧
 xs = [.yv 0,.ptr 1 0,.ptr 2 0]∧ls = [.lrec c (recFr 3 4 5) 0 none,.blk 29 [.sl (.a nl) (.a n) 2 f],.blk 9 [.str t],.blk 156 [.raw (.map none)],.blk 23 [.int .i64 (.a 0)],.blk 156 [.mapv 6],.mset F]∧RowH f n l∧
 (∀ F',hopsR t l F = (F',true)→K (.tup []) [.lrec c (recFr 3 4 5) 0 none,.blk 29 [.sl (.a nl) (.a n) 2 f],.blk 9 [.str t],.blk 156 [.raw (.map none)],.blk 23 [.int .i64 (.a 0)],.blk 156 [.mapv 6],.mset F'])∧
 (∀ F',hopsR t l F = (F',false)→K (.tup []) [.lrec c (recFr 3 4 5) 2 (some .ret),.blk 29 [.sl (.a nl) (.a n) 2 f],.blk 9 [.str t],.blk 156 [.raw (.map none)],.blk 23 [.int .i64 (.a 6)],.blk 156 [.mapv 6],.mset F'])
structure NmJ (t : List UInt8) (k : (List UInt8→Bool)×Bool) (l : List HF) (F : List UInt8→Bool) (i : Nat) (I : Int) (m : Nat) : Prop where
 lie : AtR l i I m
 k : k = hopsR t (l.drop i) F
def nmJ (c : LC) (t : List UInt8) (k : (List UInt8→Bool)×Bool) (l : List HF) (nl : Bool) (n : Int) (f : Nat→List SV) (m : Nat) (vs : List (Option SV)) (hp : List Hl) : Prop :=
 ∃ (i : Nat) (I : Int) (F : List UInt8→Bool),vs = [some (.yv 0),some (.ptr 2 0),some (.sl (.a nl) (.a n) 2 f),some (.int .i64 (.a n)),some (.int .i64 (.a I))]∧
  hp = [.lrec c (recFr 3 4 5) 0 none,.blk 29 [.sl (.a nl) (.a n) 2 f],.blk 9 [.str t],.blk 156 [.raw (.map none)],.blk 23 [.int .i64 (.a 0)],.blk 156 [.mapv 6],.mset F]∧NmJ t k l F i I m
theorem named1_ok (Y : FSpec) (hY : YOk Tryz.prog gl Y) : FnOk Tryz.prog gl 184 (itHops Y):=by
 refine fnOkI (gh:=[]) (its:=[]) (yl:=[Y]) mixed cxOk (tabCons fold_ok tabNil) ⟨fun _ h=>(by cases h),fun Z h=>by rw [List.mem_singleton] at h; subst h; exact hY⟩ Tryz.func184 (by kernel_rfl) (by kernel_rfl) ?_
 intro xs ls K h
 unfold itHops at h
 obtain ⟨c,l,nl,n,f,t,F,rfl,rfl,rfl,R,h1,h2⟩:=h
 obtain ⟨k,hk⟩ : ∃ k,k = hopsR t l F:=⟨_,rfl⟩
 obtain ⟨r,ls',hK,hr,hls⟩ : ∃ r ls',K r ls'∧r = SV.tup []∧ls' = (if k.2 then [.lrec c (recFr 3 4 5) 0 none,.blk 29 [.sl (.a nl) (.a n) 2 f],.blk 9 [.str t],.blk 156 [.raw (.map none)],.blk 23 [.int .i64 (.a 0)],.blk 156 [.mapv 6],.mset k.1] else [.lrec c (recFr 3 4 5) 2 (some .ret),.blk 29 [.sl (.a nl) (.a n) 2 f],.blk 9 [.str t],.blk 156 [.raw (.map none)],.blk 23 [.int .i64 (.a 6)],.blk 156 [.mapv 6],.mset k.1]):=by
  obtain ⟨F',b⟩:=k
  cases b
  ·exact ⟨_,_,h2 F' hk.symm,rfl,rfl⟩
  ·exact ⟨_,_,h1 F' hk.symm,rfl,rfl⟩
 refine ⟨r,ls',hK,fun D hD=>?_⟩
 clear hK h1 h2
 subst hr
 obtain ⟨J,hJ⟩ : ∃ J,J = nmJ c t k l nl n f:=⟨_,rfl⟩
 cbv
 refine ⟨[0,2,6,7,8],J,⟨rfl,l.length,?_⟩,?_⟩
 ·rw [hJ]
  subst hD
  exact ⟨0,0,F,rfl,rfl,AtR.zero R.len,hk⟩
 intro m vs hp hj
 rw [hJ] at hj
 obtain ⟨i,I,F,rfl,rfl,V⟩:=hj
 clear hk
 cbv
 refine br hD (fun h=>?_) (fun h=>?_)<;>cbv
 ·have hlt:=V.lie.lt R.n (of_decide_eq_true (p:=I < n) h)
  clear h
  refine ⟨V.lie.inB hD R.n hlt,fun j hj=>?_⟩
  obtain rfl:=V.lie.j hD hj
  clear hj
  have e1:=R.f j hlt
  have hsm:=R.small j hlt
  have hk2:=V.k
  rw [dropR (d:=default) hlt] at hk2
  obtain ⟨x,hx⟩ : ∃ x,x = l.getD j default:=⟨_,rfl⟩
  rw [←hx] at e1 hk2 hsm
  obtain ⟨a,b⟩:=x
  cbv
  rw [e1]
  cbv
  refine ⟨a,rfl,rfl,hsm.1,fun z hz=>?_⟩
  cbv
  refine br hD (fun h=>?_) (fun h=>?_)<;>cbv
  ·have h3 : foldF a = t:=by rw [←hz]; simpa using h
   clear h
   refine ⟨I,b,F,?_,?_,hsm.2,fun he F' hF'=>?_,fun he=>?_⟩
   ·subst hD; rfl
   ·subst hD; rfl
   ·cbv
    refine br hD (fun h=>?_) (fun h=>?_)
    ·cbv
     exact absurd h (by simp [BT.den])
    cbv
    obtain ⟨g1,g2⟩:=V.lie.step hD hlt
    generalize l.length - (j + 1) = m' at g1 g2
    have e5 : k = hopsR t (l.drop (j + 1)) F':=by rw [hk2,hopsR,if_pos h3,if_pos he,hF']
    refine ⟨m',g1,?_⟩
    rw [hJ]
    unfold nmJ
    cbv
    subst hD
    exact ⟨j + 1,_,F',rfl,rfl,g2,e5⟩
   ·cbv
    refine br hD (fun h=>?_) (fun h=>?_)
    ·cbv
     have e5 : k = (F,false):=by rw [hk2,hopsR,if_pos h3,if_neg he]
     rw [hls,e5]
     subst hD
     exact fin_eq rfl rfl
    ·cbv
     exact absurd h (by rw [hz]; simp [BT.den,h3])
  ·have h3 : foldF a≠t:=by rw [←hz]; simpa using h
   clear h
   refine br hD (fun h=>?_) (fun h=>?_)
   ·cbv
    exact absurd h (by rw [hz]; simp [BT.den,h3])
   cbv
   obtain ⟨g1,g2⟩:=V.lie.step hD hlt
   generalize l.length - (j + 1) = m' at g1 g2
   have e5 : k = hopsR t (l.drop (j + 1)) F:=by rw [hk2,hopsR,if_neg h3]
   refine ⟨m',g1,?_⟩
   rw [hJ]
   unfold nmJ
   cbv
   subst hD
   exact ⟨j + 1,_,F,rfl,rfl,g2,e5⟩
 ·have hi:=V.lie.eq R.n (of_decide_eq_false (p:=I < n) h)
  have hk2:=V.k
  rw [hi,List.drop_length] at hk2
  clear h
  rw [hls,hk2]
  subst hD
  exact fin_eq rfl rfl
end Go.Proofs.YtefelnhpfdcleaaGreatDoor
namespace Go.Proofs.YtefelnhpfdcleaaGreatDoor
open Go.Sx
set_option maxRecDepth 100000
set_option maxHeartbeats 8000000
def conn : List UInt8:=[99,111,110,110,101,99,116,105,111,110]
def fixedL : List (List UInt8):=[conn,[107,101,101,112,45,97,108,105,118,101],[112,114,111,120,121,45,99,111,110,110,101,99,116,105,111,110],[116,101],[116,114,97,105,108,101,114],[116,114,97,110,115,102,101,114,45,101,110,99,111,100,105,110,103],[117,112,103,114,97,100,101]]
def baseS : List UInt8→Bool:=fixedL.foldl setF fun _=>false
def hopsF (l : List HF) : (List UInt8→Bool)×Bool:=hopsR conn l baseS
def hopsK (l : List HF) : SV×List Hl :=
 if checkF l≠0 then (.tup [.raw (.map none),.int .i64 (.a (checkF l))],[]) else
 if (hopsF l).2 then (.tup [.mapv 0,.int .i64 (.a 0)],[.mset (hopsF l).1]) else (.tup [.raw (.map none),.int .i64 (.a 6)],[])
def spHops : FSpec:=fun _ xs ls K=>∃ (l : List HF) (nl : Bool) (n : Int) (f : Nat→List SV),xs = [.sl (.a nl) (.a n) 2 f]∧ls = []∧RowH f n l∧∀ k,k = hopsK l→K k.1 k.2
theorem MapOf.eq {F' F : List UInt8→Bool} {s : List UInt8} (h : MapOf F' F s true) : F' = setF F s:=funext fun k=>h.h k
structure HopJ (els : List (List UInt8)) (F0 F : List UInt8→Bool) (i : Nat) (I L : Int) (m : Nat) : Prop where
 lie : AtR els i I m
 L : L = els.length
 k : addEls F0 els = addEls F (els.drop i)
def hopJ (c : LC) (els : List (List UInt8)) (F0 : List UInt8→Bool) (nb : Bool) (n : Int) (f : Nat→List SV) (m : Nat) (vs : List (Option SV)) (hp : List Hl) : Prop :=
 ∃ (i : Nat) (I : Int) (F : List UInt8→Bool),vs = [some (.ptr 3 0),some (.sl (.a nb) (.a n) 1 f),some (.int .i64 (.a n)),some (.int .i64 (.a I))]∧
  hp = [.lrec c (recFr 1 2 3) 1 none,.blk 156 [.raw (.map none)],.blk 23 [.int .i64 (.a 0)],.blk 156 [.mapv 4],.mset F]∧HopJ els F0 F i I n m
theorem refEl_len {v : List UInt8} {l : List (List UInt8)} (h : l = (refElementsF v).1) : l.length≤9223372036854775807:=by
 have:=(refElementsF_len v).1; rw [←h] at this; omega
theorem refEl_small {v : List UInt8} {l : List (List UInt8)} (h : l = (refElementsF v).1) (i : Nat) (hi : i < l.length) : (l.getD i []).length≤9223372036854775807:=by
 have:=(refElementsF_len v).2 (l.getD i []) (by rw [←h,List.getD_eq_getElem?_getD,List.getElem?_eq_getElem hi]; exact List.getElem_mem hi)
 omega
theorem hops_ok : FnOk Tryz.prog gl 156 spHops:=by
 refine fnOkI (gh:=[]) (its:=[(184,itHops)]) (yl:=[]) mixed cxOk (tabCons check_ok (tabConsG named_ok (tabCons elements_ok (tabCons token_ok (tabCons fold_ok tabNil))))) ⟨fun x h Y hY=>by rw [List.mem_singleton] at h; subst h; exact named1_ok Y hY,fun _ h=>(by cases h)⟩ Tryz.func156 (by kernel_rfl) (by kernel_rfl) ?_
 intro xs ls K h
 unfold spHops at h
 obtain ⟨l,nl,n,f,rfl,rfl,R,h⟩:=h
 obtain ⟨k,hk⟩ : ∃ k,k = hopsK l:=⟨_,rfl⟩
 refine ⟨_,_,h k hk,fun D hD=>?_⟩
 clear h
 cbv
 refine ⟨l,_,_,f,rfl,rfl,by subst hD; exact R,fun e he=>?_⟩
 cbv
 refine br hD (fun h=>?_) (fun h=>?_)<;>cbv
 ·have h1 : e≠0:=by simpa using h
  rw [he] at h1
  rw [hk,hopsK,if_pos h1,←he]
  subst hD
  exact fin_eq rfl rfl
 have h1 : checkF l = 0:=by rw [←he]; simpa using h
 clear h
 have hk2 : k = if (hopsF l).2 then (.tup [.mapv 0,.int .i64 (.a 0)],[.mset (hopsF l).1]) else (.tup [.raw (.map none),.int .i64 (.a 6)],[]):=by
  rw [hk,hopsK,if_neg (by simp [h1])]
 clear hk
 intro F1 h1; obtain rfl : F1 = setF _ _:=MapOf.eq (by subst hD; exact h1); clear h1; cbv
 intro F2 h2; obtain rfl : F2 = setF _ _:=MapOf.eq (by subst hD; exact h2); clear h2; cbv
 intro F3 h3; obtain rfl : F3 = setF _ _:=MapOf.eq (by subst hD; exact h3); clear h3; cbv
 intro F4 h4; obtain rfl : F4 = setF _ _:=MapOf.eq (by subst hD; exact h4); clear h4; cbv
 intro F5 h5; obtain rfl : F5 = setF _ _:=MapOf.eq (by subst hD; exact h5); clear h5; cbv
 intro F6 h6; obtain rfl : F6 = setF _ _:=MapOf.eq (by subst hD; exact h6); clear h6; cbv
 intro F7 h7; obtain rfl : F7 = setF _ _:=MapOf.eq (by subst hD; exact h7); clear h7; cbv
 refine ⟨_,_,f,conn,rfl,rfl,by decide,fun t ht=>?_⟩
 have ht : t = conn:=ht
 subst ht
 cbv
 intro c hc
 refine ⟨[2,3,5],hopsY c,?_,?_⟩
 ·rintro xs ls K' ⟨i,v,F,rfl,rfl,hv,h1,h2⟩
  refine ⟨⟨_,rfl⟩,?_⟩
  obtain ⟨els,hels⟩ : ∃ l,l = (refElementsF v).1:=⟨_,rfl⟩
  obtain ⟨ee,hee⟩ : ∃ l,l = (refElementsF v).2:=⟨_,rfl⟩
  obtain ⟨r,ls',hK,hr,hls⟩ : ∃ r ls',K' r ls'∧r = SV.bool (.a (ee == 0))∧ls' = (if ee = 0 then [.lrec c (recFr 1 2 3) 0 none,.blk 156 [.raw (.map none)],.blk 23 [.int .i64 (.a 0)],.blk 156 [.mapv 4],.mset (addEls F els)] else [.lrec c (recFr 1 2 3) 2 (some .ret),.blk 156 [.raw (.map none)],.blk 23 [.int .i64 (.a 6)],.blk 156 [.mapv 4],.mset F]):=by
   by_cases he : (refElementsF v).2 = 0
   ·refine ⟨_,_,h1 he _ rfl,?_,?_⟩
    ·rw [hee,he]; rfl
    ·rw [hee,he,if_pos rfl,hels]
   ·refine ⟨_,_,h2 he,?_,?_⟩
    ·have : ((refElementsF v).2 == 0) = false:=by simpa using he
     rw [hee,this]
    ·rw [hee,if_neg he]
  refine ⟨r,ls',hK,?_⟩
  clear hK h1 h2
  subst hr
  cbv
  refine ⟨v,rfl,rfl,hv,fun l e n nb hle hn hnb=>?_⟩
  have hl2 : l = els:=by rw [hels,←hle]
  have he2 : e = ee:=by rw [hee,←hle]
  subst hl2 he2
  have RS : RowS (strRow l) n l:=by rw [hn]; exact RowS.row (refEl_len hels)
  obtain ⟨g,hg⟩ : ∃ g,g = strRow l:=⟨_,rfl⟩
  rw [←hg] at RS ⊢
  clear hle hg hn
  cbv
  refine br hD (fun h=>?_) (fun h=>?_)
  ·have he : e≠0:=by simpa using h
   rw [if_neg he] at hls
   have he3 : (e == 0) = false:=by simpa using he
   rw [hls,he3]
   cbv
   subst hD
   exact fin_eq rfl rfl
  ·have he : e = 0:=by simpa using h
   clear h
   rw [if_pos he] at hls
   rw [he]
   obtain ⟨J,hJ⟩ : ∃ J,J = hopJ c l F nb n g:=⟨_,rfl⟩
   cbv
   refine ⟨[5,30,31,32],J,⟨rfl,l.length,?_⟩,?_⟩
   ·rw [hJ]
    subst hD
    exact ⟨0,0,F,rfl,rfl,AtR.zero RS.len,RS.n,rfl⟩
   intro m vs hp hj
   rw [hJ] at hj
   obtain ⟨i,I,F2,rfl,rfl,V⟩:=hj
   cbv
   refine br hD (fun h=>?_) (fun h=>?_)<;>cbv
   ·have hlt:=V.lie.lt RS.n (of_decide_eq_true (p:=I < n) h)
    clear h
    refine ⟨V.lie.inB hD RS.n hlt,fun j hj=>?_⟩
    obtain rfl:=V.lie.j hD hj
    clear hj
    have e1:=RS.f j hlt
    have hk2:=V.k
    rw [dropR (d:=[]) hlt] at hk2
    have hsm:=refEl_small hels j hlt
    obtain ⟨x,hx⟩ : ∃ x,x = l.getD j []:=⟨_,rfl⟩
    rw [←hx] at e1 hk2 hsm
    cbv
    rw [e1]
    cbv
    refine ⟨x,rfl,rfl,hsm,fun t ht=>?_⟩
    cbv
    obtain ⟨g1,g2⟩:=V.lie.step hD hlt
    generalize l.length - (j + 1) = m' at g1 g2
    refine br hD (fun h=>?_) (fun h=>?_)<;>cbv
    ·have h3 : tokenF x = true:=by rw [←ht]; simpa using h
     clear h
     refine ⟨x,rfl,rfl,hsm,fun y hy=>?_⟩
     have hy : y = foldF x:=hy
     cbv
     intro F3 h3'
     obtain rfl : F3 = setF F2 y:=MapOf.eq (by subst hD; exact h3')
     clear h3'
     cbv
     refine ⟨m',g1,?_⟩
     rw [hJ]
     unfold hopJ
     subst hD
     refine ⟨j + 1,_,_,rfl,rfl,g2,RS.n,?_⟩
     rw [hk2,hy]
     simp only [addEls,List.foldl_cons,h3,if_true]
    ·have h3 : tokenF x = false:=by rw [←ht]; simpa using h
     clear h
     refine ⟨m',g1,?_⟩
     rw [hJ]
     unfold hopJ
     subst hD
     refine ⟨j + 1,_,F2,rfl,rfl,g2,RS.n,?_⟩
     rw [hk2]
     simp only [addEls,List.foldl_cons,h3,Bool.false_eq_true,if_false]
   ·have hi:=V.lie.eq RS.n (of_decide_eq_false (p:=I < n) h)
    have hk2:=V.k
    rw [hi,List.drop_length] at hk2
    clear h
    have hk3 : addEls F l = F2:=hk2
    rw [hls,hk3]
    cbv
    subst hD
    exact fin_eq rfl rfl
 ·cbv
  refine ⟨c,l,nl,n,f,conn,baseS,rfl,rfl,by subst hD; rfl,R,fun F' hF=>?_,fun F' hF=>?_⟩
  ·have e5 : k = (.tup [.mapv 0,.int .i64 (.a 0)],[.mset F']):=by
    rw [hk2,hopsF,hF]; rfl
   rw [e5]
   cbv
   subst hD
   exact fin_eq rfl rfl
  ·have e5 : k = (.tup [.raw (.map none),.int .i64 (.a 6)],[]):=by
    rw [hk2,hopsF,hF]; rfl
   rw [e5]
   cbv
   subst hD
   exact fin_eq rfl rfl
end Go.Proofs.YtefelnhpfdcleaaGreatDoor
namespace Go.Proofs.YtefelnhpfdcleaaGreatDoor
open Go Go.Sx
set_option maxRecDepth 100000
set_option maxHeartbeats 8000000
def hfRow (l : List HF) (i : Nat) : List SV:=match l[i]? with
 | some x=>hfCells x
 | none=>[]
theorem hfRow_at {l : List HF} {i : Nat} (h : i < l.length) : hfRow l i = hfCells (l.getD i default):=by
 unfold hfRow
 rw [List.getElem?_eq_getElem h,List.getD_eq_getElem?_getD,List.getElem?_eq_getElem h]; rfl
theorem RowH.row {l : List HF} (h : l.length≤9223372036854775807) (hs : ∀ i,i < l.length→(l.getD i default).small) : RowH (hfRow l) l.length l:=⟨rfl,fun _ hi=>hfRow_at hi,h,hs⟩
def spCloneH : FSpec:=fun _ xs ls K=>∃ (l : List HF) (nl : Bool) (n : Int) (f : Nat→List SV),xs = [.sl (.a nl) (.a n) 2 f]∧ls = []∧RowH f n l∧l.length≤100000∧(nl = true→l = [])∧
 ∀ g n',RowH g n' l→K (.osl (.a nl) (.a n') 0) [.own 69 (.a n') 2 true g]
theorem clone_ok : FnOk Tryz.prog gl 158 spCloneH:=by
 refine fnOk (gh:=[(2,[.own 2 69]),(3,[]),(999985,[])]) mixed cxOk tabNil Tryz.func158 (by kernel_rfl) (by kernel_rfl) ?_
 intro xs ls K h
 unfold spCloneH at h
 obtain ⟨l,nl,n,f,rfl,rfl,R,hl,hn,h⟩:=h
 obtain ⟨g,hg⟩ : ∃ g,g = hfRow l:=⟨_,rfl⟩
 obtain ⟨n0,hn0⟩ : ∃ n0 : Int,n0 = l.length:=⟨_,rfl⟩
 have R0 : RowH g n0 l:=by rw [hg,hn0]; exact RowH.row R.len R.small
 refine ⟨_,_,h g n0 R0,fun D hD=>?_⟩
 clear h hn0 hg
 cbv
 refine br hD (fun h=>?_) (fun h=>?_)<;>cbv
 ·have h2 : nl = true:=h
  have h3:=hn h2
  subst h2 h3
  subst hD
  have hn0 : n0 = 0:=R0.n
  subst hn0
  exact finOwn (leOsl rfl rfl) rfl fun i hi=>absurd hi (by show ¬ ((i : Int) < 0); omega)
 ·have h2 : nl = false:=h
  subst h2
  intro f0 h0
  clear h0
  cbv
  refine ⟨?_,fun f1 n1 hm=>?_⟩
  ·subst hD; exact ⟨rfl,by have:=R.n; show ((0 : Int) + n) * 32≤_; omega,by have:=R.n; show (0 : Int) + n≤_; omega⟩
  cbv
  have e1 : n1 = n0:=by subst hD; have:=R.n; have:=R0.n; have h5 : n1 = 0 + n:=hm.len; omega
  have e2 : ∀ i,i < l.length→f1 i = g i:=by
   intro i hi
   rw [hm.hi i i (by subst hD; show (i : Int) = 0 + i; omega) (by subst hD; have:=R.n; show (i : Int) < n; omega),R.f i hi,R0.f i hi]
  clear hm
  subst hD
  refine finOwn (leOsl rfl ?_) ?_ fun i hi=>e2 i (by have:=R0.n; have hi : (i : Int) < n1:=hi; omega)
  ·exact e1
  ·exact e1
def spDelH : FSpec:=fun _ xs ls K=>∃ (a b : List UInt8) (F : List UInt8→Bool),xs = [.agg [.str a,.str b],.ptr 0 0]∧ls = [.blk 156 [.mapv 1],.mset F]∧a.length≤9223372036854775807∧
 ∀ r,r = F (foldF a)→K (.bool (.a r)) [.blk 156 [.mapv 1],.mset F]
theorem del_ok : FnOk Tryz.prog gl 159 spDelH:=by
 refine fnOkG (gh:=[]) mixed cxOk (tabCons fold_ok tabNil) Tryz.func159 (by kernel_rfl) (by kernel_rfl) ?_
 intro xs ls K h
 unfold spDelH at h
 obtain ⟨a,b,F,rfl,rfl,ha,h⟩:=h
 refine ⟨_,_,h _ rfl,fun D hD=>?_⟩
 clear h
 obtain ⟨k,hk⟩ : ∃ k,k = F (foldF a):=⟨_,rfl⟩
 rw [←hk]
 cbv
 refine ⟨a,rfl,rfl,ha,fun t ht=>?_⟩
 have ht : t = foldF a:=ht
 cbv
 rw [ht,←hk]
 subst hD
 exact fin_eq rfl rfl
def keepH (F : List UInt8→Bool) (x : HF) : Bool:=!F (foldF x.name)
def idxH (p : HF→Bool) : List HF→Int→Int
 | [],_=>-1
 | x :: l,i=>if p x then i else idxH p l (i + 1)
def idxDel (F : List UInt8→Bool) (l : List HF) : Int:=idxH (fun x=>F (foldF x.name)) l 0
def spIdxH : FSpec:=fun _ xs ls K=>∃ (l : List HF) (F : List UInt8→Bool) (nl : Bool) (n : Int) (f : Nat→List SV),xs = [.osl (.a nl) (.a n) 0,.clo 159 [.ptr 1 0]]∧ls = [.own 69 (.a n) 2 true f,.blk 156 [.mapv 2],.mset F]∧RowH f n l∧
 ∀ r,r = idxDel F l→K (.int .i64 (.a r)) [.own 69 (.a n) 2 true f,.blk 156 [.mapv 2],.mset F]
structure IxJ (k : Int) (F : List UInt8→Bool) (l : List HF) (i : Nat) (I : Int) (m : Nat) : Prop where
 lie : AtR l i I m
 k : k = idxH (fun x=>F (foldF x.name)) (l.drop i) I
def ixJ (k : Int) (F : List UInt8→Bool) (l : List HF) (nl : Bool) (n : Int) (f : Nat→List SV) (m : Nat) (vs : List (Option SV)) (hp : List Hl) : Prop :=
 ∃ (i : Nat) (I : Int),vs = [some (.osl (.a nl) (.a n) 0),some (.clo 159 [.ptr 1 0]),some (.int .i64 (.a n)),some (.int .i64 (.a I))]∧hp = [.own 69 (.a n) 2 true f,.blk 156 [.mapv 2],.mset F]∧IxJ k F l i I m
theorem idxH_ok : FnOk Tryz.prog gl 174 spIdxH:=by
 refine fnOkG (gh:=[]) mixed cxOk (tabConsG del_ok tabNil) Tryz.func174 (by kernel_rfl) (by kernel_rfl) ?_
 intro xs ls K h
 unfold spIdxH at h
 obtain ⟨l,F,nl,n,f,rfl,rfl,R,h⟩:=h
 obtain ⟨k,hk⟩ : ∃ k,k = idxDel F l:=⟨_,rfl⟩
 refine ⟨_,_,h k hk,fun D hD=>?_⟩
 clear h
 obtain ⟨J,hJ⟩ : ∃ J,J = ixJ k F l nl n f:=⟨_,rfl⟩
 cbv
 refine ⟨[0,1,7,8],J,⟨rfl,l.length,?_⟩,?_⟩
 ·rw [hJ]
  subst hD
  exact ⟨0,0,rfl,rfl,AtR.zero R.len,hk⟩
 intro m vs hp hj
 rw [hJ] at hj
 obtain ⟨i,I,rfl,rfl,V⟩:=hj
 clear hk
 cbv
 refine br hD (fun h=>?_) (fun h=>?_)<;>cbv
 ·have hlt:=V.lie.lt R.n (of_decide_eq_true (p:=I < n) h)
  clear h
  refine ⟨⟨by subst hD; rfl⟩,V.lie.inB hD R.n hlt,fun j hj=>?_⟩
  obtain rfl:=V.lie.j hD hj
  clear hj
  have e1:=R.f j hlt
  have hsm:=R.small j hlt
  have hk2:=V.k
  rw [dropR (d:=default) hlt] at hk2
  obtain ⟨x,hx⟩ : ∃ x,x = l.getD j default:=⟨_,rfl⟩
  rw [←hx] at e1 hk2 hsm
  obtain ⟨a,b⟩:=x
  cbv
  rw [e1]
  cbv
  refine ⟨⟨by subst hD; rfl⟩,⟨by subst hD; have:=R.n; show (j : Int) < n; omega⟩,?_⟩
  refine ⟨a,b,F,?_,?_,hsm.1,fun t ht=>?_⟩
  ·rfl
  ·rfl
  cbv
  refine br hD (fun h=>?_) (fun h=>?_)<;>cbv
  ·have h3 : F (foldF a) = true:=by rw [←ht]; simpa using h
   subst hD
   rw [hk2,idxH,if_pos h3]
   exact fin_eq rfl rfl
  ·have h3 : F (foldF a) = false:=by rw [←ht]; simpa using h
   clear h
   obtain ⟨g1,g2⟩:=V.lie.step hD hlt
   refine ⟨_,g1,?_⟩
   rw [hJ]
   unfold ixJ
   subst hD
   refine ⟨j + 1,_,rfl,rfl,g2,?_⟩
   rw [hk2,idxH,if_neg (by rw [h3]; simp)]
   have h6:=g2.I
   have h7:=V.lie.I
   rw [h6,h7]; rfl
 ·have hi:=V.lie.eq R.n (of_decide_eq_false (p:=I < n) h)
  have hk2:=V.k
  rw [hi,List.drop_length] at hk2
  clear h
  subst hD
  rw [hk2]
  exact fin_eq rfl rfl
end Go.Proofs.YtefelnhpfdcleaaGreatDoor
namespace Go.Proofs.YtefelnhpfdcleaaGreatDoor
open Go Go.Sx
set_option maxRecDepth 100000
set_option maxHeartbeats 8000000
def keptH (F : List UInt8→Bool) (l : List HF) : List HF:=l.filter (keepH F)
def spDelF : FSpec:=fun _ xs ls K=>∃ (l : List HF) (F : List UInt8→Bool) (nl : Bool) (n : Int) (f : Nat→List SV),xs = [.osl (.a nl) (.a n) 0,.clo 159 [.ptr 1 0]]∧ls = [.own 69 (.a n) 2 true f,.blk 156 [.mapv 2],.mset F]∧RowH f n l∧
 ∀ g n',RowH g n' (keptH F l)→K (.sl (.a nl) (.a n') 2 g) [.gone,.blk 156 [.mapv 2],.mset F]
structure DelJ (F : List UInt8→Bool) (l : List HF) (f : Nat→List SV) (j : Nat) (I J : Int) (m : Nat) : Prop where
 lie : AtR l j J m
 I : I = ((keptH F (l.take j)).length : Int)
 row : ∀ k,k < (keptH F (l.take j)).length→f k = hfCells ((keptH F (l.take j)).getD k default)
 rest : ∀ k,j≤k→k < l.length→f k = hfCells (l.getD k default)
 tot : ∀ k,k < l.length→∃ x,f k = hfCells x
 lt : (keptH F (l.take j)).length < j
def delJ (F : List UInt8→Bool) (l : List HF) (nl : Bool) (n : Int) (m : Nat) (vs : List (Option SV)) (hp : List Hl) : Prop :=
 ∃ (j : Nat) (I J : Int) (f : Nat→List SV),vs = [some (.osl (.a nl) (.a n) 0),some (.clo 159 [.ptr 1 0]),some (.int .i64 (.a I)),some (.int .i64 (.a J))]∧hp = [.own 69 (.a n) 2 true f,.blk 156 [.mapv 2],.mset F]∧DelJ F l f j I J m
theorem keptH_take (F : List UInt8→Bool) (l : List HF) {j : Nat} (h : j < l.length) : keptH F (l.take (j + 1)) = keptH F (l.take j) ++ (if keepH F (l.getD j default) then [l.getD j default] else []):=by
 unfold keptH
 rw [List.take_succ_eq_append_getElem h,List.filter_append,List.getD_eq_getElem?_getD,List.getElem?_eq_getElem h]
 congr 1
 simp only [Option.getD_some,List.filter_cons,List.filter_nil]
theorem idxH_none {p : HF→Bool} : ∀ {l : List HF} {i : Int},0≤i→idxH p l i = -1→l.filter (fun x=>!p x) = l
 | [],_,_,_=>rfl
 | x :: l,i,hi,h=>by
  unfold idxH at h
  split at h
  ·omega
  ·rename_i hp
   rw [List.filter_cons,if_pos (by simpa using hp),idxH_none (by omega) h]
theorem idxH_some {p : HF→Bool} : ∀ {l : List HF} {i : Int},0≤i→idxH p l i≠-1→∃ j : Nat,idxH p l i = i + j∧j < l.length∧p (l.getD j default) = true∧(l.take j).filter (fun x=>!p x) = l.take j
 | [],_,_,h=>absurd rfl h
 | x :: l,i,hi,h=>by
  unfold idxH at h ⊢
  split at h
  ·rename_i hp
   exact ⟨0,by rw [if_pos hp]; omega,by simp,by simpa using hp,by simp⟩
  ·rename_i hp
   rw [if_neg hp]
   obtain ⟨j,h1,h2,h3,h4⟩:=idxH_some (by omega) h
   refine ⟨j + 1,by rw [h1]; omega,by simp; omega,by simpa using h3,?_⟩
   rw [List.take_succ_cons,List.filter_cons,if_pos (by simpa using hp),h4]
theorem keptH_len (F : List UInt8→Bool) (l : List HF) : (keptH F l).length≤l.length:=List.length_filter_le _ _
theorem keptH_small {F : List UInt8→Bool} {l : List HF} (h : ∀ i,i < l.length→(l.getD i default).small) : ∀ i,i < (keptH F l).length→((keptH F l).getD i default).small:=by
 intro i hi
 have hm : (keptH F l).getD i default∈l:=by
  rw [List.getD_eq_getElem?_getD,List.getElem?_eq_getElem hi]
  exact (List.mem_filter.1 (List.getElem_mem hi)).1
 obtain ⟨k,hk,e⟩:=List.mem_iff_getElem.1 hm
 have:=h k hk
 rwa [List.getD_eq_getElem?_getD,List.getElem?_eq_getElem hk,Option.getD_some,e] at this
theorem delF_ok : FnOk Tryz.prog gl 157 spDelF:=by
 refine fnOkG (gh:=[(3,[.share 4])]) mixed cxOk (tabConsG idxH_ok (tabConsG del_ok tabNil)) Tryz.func157 (by kernel_rfl) (by kernel_rfl) ?_
 intro xs ls K h
 unfold spDelF at h
 obtain ⟨l,F,nl,n,f,rfl,rfl,R,h⟩:=h
 obtain ⟨l2,hl2⟩ : ∃ l2,l2 = keptH F l:=⟨_,rfl⟩
 obtain ⟨g,hg⟩ : ∃ g,g = hfRow l2:=⟨_,rfl⟩
 obtain ⟨n2,hn2⟩ : ∃ n2 : Int,n2 = l2.length:=⟨_,rfl⟩
 have R2 : RowH g n2 l2:=by
  rw [hg,hn2]; refine RowH.row ?_ ?_
  ·have:=keptH_len F l; have:=R.len; rw [hl2]; omega
  ·rw [hl2]; exact keptH_small R.small
 refine ⟨_,_,h g n2 (by rw [←hl2]; exact R2),fun D hD=>?_⟩
 clear h hn2 hg
 obtain ⟨J,hJ⟩ : ∃ J,J = delJ F l nl n:=⟨_,rfl⟩
 cbv
 refine ⟨l,F,nl,n,f,?_,?_,R,fun i hi=>?_⟩
 ·subst hD; rfl
 ·subst hD; rfl
 cbv
 refine br hD (fun h=>?_) (fun h=>?_)<;>cbv
 ·have h2 : i = -1:=by simpa using h
  clear h
  have h3 : keptH F l = l:=idxH_none (Int.le_refl 0) (show idxDel F l = -1 by rw [←hi]; exact h2)
  rw [h3] at hl2
  subst hl2
  refine ⟨⟨by subst hD; rfl⟩,?_⟩
  subst hD
  refine ⟨LeV.sl rfl ?_ fun k hk=>?_,LeH.refl _,Nat.le_refl _⟩
  ·show n = n2; rw [R.n,R2.n]
  ·have hk : (k : Int) < n:=hk
   have:=R.n
   rw [R.f k (by omega),R2.f k (by omega)]
 have h2 : i≠-1:=by simpa using h
 clear h
 obtain ⟨i0,h3,h4,h5,h6⟩:=idxH_some (Int.le_refl 0) (by rw [hi] at h2; exact h2)
 have h3 : i = (i0 : Int):=by rw [hi]; show idxH _ l 0 = _; rw [h3]; omega
 have hk0 : keptH F (l.take (i0 + 1)) = l.take i0:=by
  rw [keptH_take F l h4]
  have : keepH F (l.getD i0 default) = false:=by unfold keepH; rw [h5]; rfl
  rw [this,if_neg (by simp),List.append_nil]; exact h6
 clear hi h2
 refine ⟨[0,1,5,6],J,⟨rfl,l.length - (i0 + 1),?_⟩,?_⟩
 ·rw [hJ]
  subst hD
  refine ⟨i0 + 1,_,_,f,rfl,rfl,⟨by omega,?_,rfl,R.len⟩,?_,fun k hk=>?_,fun k _ hk=>R.f k hk,fun k hk=>⟨_,R.f k hk⟩,?_⟩
  ·have:=R.len
   show IntKind.i64.wrap (i + 1) = _
   rw [h3,wrap64 (by omega) (by omega)]; omega
  ·rw [hk0,List.length_take]; show i = _; omega
  ·rw [hk0] at hk ⊢
   rw [List.length_take] at hk
   rw [R.f k (by omega),List.getD_eq_getElem?_getD,List.getD_eq_getElem?_getD,List.getElem?_take,if_pos (by omega)]
  ·rw [hk0,List.length_take]; omega
 clear h3 h4 h5 h6 hk0
 intro m vs hp hj
 rw [hJ] at hj
 obtain ⟨j,I,Jv,f1,rfl,rfl,V⟩:=hj
 cbv
 refine br hD (fun h=>?_) (fun h=>?_)<;>cbv
 ·have hlt:=V.lie.lt R.n (of_decide_eq_true (p:=Jv < n) h)
  clear h
  refine ⟨⟨by subst hD; rfl⟩,V.lie.inB hD R.n hlt,fun q hq=>?_⟩
  obtain rfl:=V.lie.j hD hq
  clear hq
  have e1:=V.rest q (Nat.le_refl q) hlt
  have hsm:=R.small q hlt
  have hkt:=keptH_take F l hlt
  obtain ⟨x,hx⟩ : ∃ x,x = l.getD q default:=⟨_,rfl⟩
  rw [←hx] at e1 hkt hsm
  obtain ⟨a,b⟩:=x
  cbv
  rw [e1]
  cbv
  refine ⟨⟨by subst hD; rfl⟩,⟨by subst hD; have:=R.n; show (q : Int) < n; omega⟩,?_⟩
  refine ⟨a,b,F,?_,?_,hsm.1,fun t ht=>?_⟩
  ·rfl
  ·rfl
  cbv
  refine br hD (fun h=>?_) (fun h=>?_)<;>cbv
  ·have h3 : keepH F ⟨a,b⟩ = true:=by
    have h : (!t) = true:=h
    unfold keepH; rw [←h,ht]
   clear h
   rw [if_pos h3] at hkt
   refine ⟨⟨by subst hD; rfl⟩,?_,fun p hp=>?_⟩
   ·subst hD
    have h1:=V.I; have h2:=V.lt; have:=R.n
    exact ⟨by show 0≤I; omega,by show I < n; omega⟩
   have hp2 : p = (keptH F (l.take q)).length:=by
    have hp : (p : Int) = I:=by subst hD; exact hp.h
    have:=V.I; omega
   clear hp
   have hplt : p < l.length:=by have:=V.lt; omega
   obtain ⟨y,hy⟩:=V.tot p hplt
   obtain ⟨c,d⟩:=y
   cbv
   refine ⟨⟨by subst hD; rfl⟩,⟨by subst hD; have:=R.n; show (p : Int) < n; omega⟩,?_⟩
   rw [hy]
   cbv
   intro f2 hf2
   cbv
   obtain ⟨g1,g2⟩:=V.lie.step hD hlt
   generalize hgm : l.length - (q + 1) = m' at g1 g2
   refine ⟨m',g1,?_⟩
   rw [hJ]
   unfold delJ
   subst hD
   have hat : f2 p = hfCells ⟨a,b⟩:=hf2.at_
   have hln : (keptH F (l.take (q + 1))).length = p + 1:=by rw [hkt,List.length_append,←hp2]; rfl
   refine ⟨q + 1,_,_,f2,rfl,rfl,g2,?_,fun k hk=>?_,fun k hk hk2=>?_,fun k hk=>?_,?_⟩
   ·rw [hln]
    have h1:=V.I; have h3:=R.len
    show IntKind.i64.wrap (I + 1) = _
    rw [wrap64 (by omega) (by omega)]; omega
   ·rw [hln] at hk
    rw [hkt]
    by_cases e : k = p
    ·subst e
     rw [hat,List.getD_eq_getElem?_getD,List.getElem?_append_right (by omega),←hp2,Nat.sub_self]; rfl
    ·rw [hf2.other k e,V.row k (by omega),List.getD_eq_getElem?_getD,List.getD_eq_getElem?_getD,List.getElem?_append_left (by omega)]
   ·have h4:=V.lt
    rw [hf2.other k (by omega)]
    exact V.rest k (by omega) hk2
   ·by_cases e : k = p
    ·subst e; exact ⟨_,hat⟩
    ·rw [hf2.other k e]; exact V.tot k hk
   ·rw [hln]; have:=V.lt; omega
  ·have h3 : keepH F ⟨a,b⟩ = false:=by
    have h : (!t) = false:=h
    unfold keepH; rw [←h,ht]
   clear h
   rw [if_neg (by rw [h3]; simp),List.append_nil] at hkt
   obtain ⟨g1,g2⟩:=V.lie.step hD hlt
   generalize hgm : l.length - (q + 1) = m' at g1 g2
   refine ⟨m',g1,?_⟩
   rw [hJ]
   unfold delJ
   subst hD
   refine ⟨q + 1,_,_,f1,rfl,rfl,g2,?_,?_,fun k hk=>V.rest k (by omega),V.tot,?_⟩
   ·rw [hkt]; exact V.I
   ·rw [hkt]; exact V.row
   ·rw [hkt]; have:=V.lt; omega
 ·have hi:=V.lie.eq R.n (of_decide_eq_false (p:=Jv < n) h)
  clear h
  have hk2 : keptH F (l.take j) = l2:=by rw [hi,List.take_length,hl2]
  have hI : I = (l2.length : Int):=by rw [←hk2]; exact V.I
  have hle : l2.length≤l.length:=by rw [hl2]; exact keptH_len F l
  have hrow : ∀ k,k < l2.length→f1 k = hfCells (l2.getD k default):=by rw [←hk2]; exact V.row
  have R1 : I = n2:=by rw [R2.n]; exact hI
  have R3 : 0≤n2∧n2≤n:=by have:=R2.n; have:=R.n; omega
  clear hk2 hI V
  refine ⟨⟨by subst hD; rfl⟩,by subst hD; exact ⟨by show 0≤I; omega,by show I≤n; omega,Int.le_refl _⟩,?_⟩
  refine ⟨⟨by subst hD; rfl⟩,fun f3 hf3=>?_⟩
  cbv
  refine ⟨⟨by subst hD; rfl⟩,by subst hD; exact ⟨Int.le_refl _,by show 0≤I; omega,by show I≤n; omega⟩,?_⟩
  subst hD
  refine ⟨LeV.sl rfl R1 fun k hk=>?_,LeH.refl _,Nat.le_refl _⟩
  have hk : (k : Int) < I:=hk
  have h4 : k < l2.length:=by have:=R2.n; omega
  rw [hf3.lo k hk,hrow k h4,R2.f k h4]
def stripF (l : List HF) : List HF×Int :=
 if checkF l≠0 then ([],checkF l) else if (hopsF l).2 then (keptH (hopsF l).1 l,0) else ([],6)
structure ResH (l : List HF) (nb : Bool) (n : Int) (f : Nat→List SV) : Prop where
 row : RowH f n l
 nil : nb = true→l = []
def spStrip : FSpec:=fun _ xs ls K=>∃ (l : List HF) (nl : Bool) (n : Int) (f : Nat→List SV),xs = [.sl (.a nl) (.a n) 2 f]∧ls = []∧RowH f n l∧(nl = true→l = [])∧
 ∀ r e nb n' g,(r,e) = stripF l→ResH r nb n' g→(nb = (nl || e != 0))→K (.tup [.sl (.a nb) (.a n') 2 g,.int .i64 (.a e)]) []
theorem checkF_len {l : List HF} (h : checkF l = 0) : l.length≤100:=by
 unfold checkF at h
 split at h
 ·cases h
 ·omega
theorem strip_ok : FnOk Tryz.prog gl 138 spStrip:=by
 refine fnOkG (gh:=[]) mixed cxOk (tabConsG hops_ok (tabConsG clone_ok (tabConsG delF_ok tabNil))) Tryz.func138 (by kernel_rfl) (by kernel_rfl) ?_
 intro xs ls K h
 unfold spStrip at h
 obtain ⟨l,nl,n,f,rfl,rfl,R,hnl,h⟩:=h
 obtain ⟨k,hk⟩ : ∃ k,k = stripF l:=⟨_,rfl⟩
 obtain ⟨kr,ke⟩:=k
 obtain ⟨g,hg⟩ : ∃ g,g = hfRow kr:=⟨_,rfl⟩
 obtain ⟨n2,hn2⟩ : ∃ n2 : Int,n2 = kr.length:=⟨_,rfl⟩
 have hkr : kr = []∨kr = keptH (hopsF l).1 l:=by
  unfold stripF at hk
  split at hk
  ·simp only [Prod.mk.injEq] at hk; exact .inl hk.1
  ·split at hk
   ·simp only [Prod.mk.injEq] at hk; exact .inr hk.1
   ·simp only [Prod.mk.injEq] at hk; exact .inl hk.1
 have R2 : RowH g n2 kr:=by
  rw [hg,hn2]
  rcases hkr with rfl | rfl
  ·exact ⟨rfl,fun i hi=>absurd hi (by simp),by simp,fun i hi=>absurd hi (by simp)⟩
  ·refine RowH.row ?_ (keptH_small R.small)
   have:=keptH_len (hopsF l).1 l; have:=R.len; omega
 obtain ⟨nb,hnb⟩ : ∃ nb,nb = (nl || ke != 0):=⟨_,rfl⟩
 refine ⟨_,_,h kr ke nb n2 g hk ⟨R2,fun hb=>?_⟩ hnb,fun D hD=>?_⟩
 ·rcases hkr with h1 | h1
  ·exact h1
  ·rw [hnb] at hb
   simp only [Bool.or_eq_true,bne_iff_ne,ne_eq] at hb
   rcases hb with hb | hb
   ·rw [h1,hnl hb]; rfl
   ·unfold stripF at hk
    split at hk
    ·simp only [Prod.mk.injEq] at hk; exact hk.1
    ·split at hk
     ·simp only [Prod.mk.injEq] at hk; exact absurd hk.2 hb
     ·simp only [Prod.mk.injEq] at hk; exact hk.1
 clear h hg hn2
 unfold stripF at hk
 cbv
 refine ⟨l,_,_,f,rfl,rfl,by subst hD; exact R,fun k hkk=>?_⟩
 unfold hopsK at hkk
 obtain ⟨ce,hce⟩ : ∃ ce,ce = checkF l:=⟨_,rfl⟩
 rw [←hce] at hkk hk
 by_cases h1 : ce≠0
 ·rw [if_pos h1] at hkk hk
  rw [hkk]
  cbv
  refine br hD (fun h=>?_) (fun h=>?_)
  ·cbv
   simp only [Prod.mk.injEq] at hk
   obtain ⟨rfl,rfl⟩:=hk
   subst hD
   refine ⟨LeV.tup (LeL.cons (LeV.sl ?_ ?_ fun i hi=>absurd hi (by show ¬ ((i : Int) < 0); omega)) (LeL.refl _)),LeH.refl _,Nat.le_refl _⟩
   ·show true = nb
    rw [hnb]; simp [h1]
   ·show 0 = n2; rw [R2.n]; rfl
  ·cbv
   exact absurd h (by simp [BT.den,cmpDen,h1])
 ·have hc0 : checkF l = 0:=by rw [←hce]; simpa using h1
  rw [if_neg h1] at hkk hk
  by_cases h2 : (hopsF l).2 = true
  ·rw [if_pos h2] at hkk hk
   simp only [Prod.mk.injEq] at hk
   obtain ⟨rfl,rfl⟩:=hk
   obtain ⟨F,hF⟩ : ∃ F,F = (hopsF l).1:=⟨_,rfl⟩
   rw [←hF] at hkk R2
   rw [hkk]
   cbv
   refine br hD (fun h=>?_) (fun h=>?_)
   ·cbv
    exact absurd h (by simp [BT.den,cmpDen])
   cbv
   refine ⟨l,nl,n,f,?_,rfl,R,by have:=checkF_len hc0; omega,hnl,fun g1 n1 R1=>?_⟩
   ·subst hD; rfl
   cbv
   refine ⟨l,F,nl,n1,g1,?_,?_,R1,fun g3 n3 R3=>?_⟩
   ·subst hD; rfl
   ·subst hD; rfl
   cbv
   subst hD
   refine ⟨LeV.tup (LeL.cons (LeV.sl ?_ ?_ fun i hi=>?_) (LeL.refl _)),LeH.refl _,Nat.le_refl _⟩
   ·show nl = nb
    rw [hnb]; simp
   ·show n3 = n2; rw [R2.n,R3.n]
   ·have hi : (i : Int) < n3:=hi
    have:=R3.n
    rw [R3.f i (by omega),R2.f i (by omega)]
  ·rw [if_neg h2] at hkk hk
   simp only [Prod.mk.injEq] at hk
   obtain ⟨rfl,rfl⟩:=hk
   rw [hkk]
   cbv
   refine br hD (fun h=>?_) (fun h=>?_)
   ·cbv
    subst hD
    refine ⟨LeV.tup (LeL.cons (LeV.sl ?_ ?_ fun i hi=>absurd hi (by show ¬ ((i : Int) < 0); omega)) (LeL.refl _)),LeH.refl _,Nat.le_refl _⟩
    ·show true = nb
     rw [hnb]; simp
    ·show 0 = n2; rw [R2.n]; rfl
   ·cbv
    exact absurd h (by simp [BT.den,cmpDen])
end Go.Proofs.YtefelnhpfdcleaaGreatDoor
namespace Go.Proofs.YtefelnhpfdcleaaGreatDoor
open Go Go.Sx
set_option maxRecDepth 100000
set_option maxHeartbeats 16000000
abbrev CS:=List (List UInt8)×Bool×Int
def capp (x : List UInt8) (σ : CS) : CS:=(σ.1 ++ [x],false,σ.2.2 + 1)
def cpop (σ : CS) : CS:=(σ.1.dropLast,σ.2.1,σ.2.2 + 1)
def cstep (σ : CS) (s : List UInt8) (last : Bool) : CS :=
 if s≠[46]∧s≠[46,46] then capp s σ else
 if last then capp [] (if s = [46,46]∧σ.1≠[] then cpop σ else σ) else (if s = [46,46]∧σ.1≠[] then cpop σ else σ)
def cfr (h : Nat) : List (Nat×Option SV):=[(8,some (.ptr h 0))]
def cleanY (c : LC) : FSpec:=fun _ xs ls K=>∃ (s : List UInt8) (last : Bool) (st : List (List UInt8)) (nl : Bool) (g n : Int) (f : Nat→List SV),
 xs = [.yv 0,.str s,.bool (.a last)]∧ls = [.lrec c (cfr 1) 0 none,.blk 61 [.vsl (.a nl) (.a n) (.a g) 2],.vec 9 (.a n) (.a g) 1 f]∧RowS f n st∧st.length≤100000∧
 ∀ st' nl' g' n' f',(st',nl',g') = cstep (st,nl,g) s last→RowS f' n' st'→K (.bool (.a true)) [.lrec c (cfr 1) 0 none,.blk 61 [.vsl (.a nl') (.a n') (.a g') 2],.vec 9 (.a n') (.a g') 1 f']
theorem cutF_lt {c : UInt8} {s : List UInt8} (h : (cutF c s).2.2 = true) : (cutF c s).2.1.length < s.length:=by
 obtain ⟨_,_,h3,h4⟩:=cutF_yes h
 rw [h3,List.length_drop]; omega
def segFold (σ : CS) (rest : List UInt8) : CS :=
 if h : (cutF 47 rest).2.2 = true then segFold (cstep σ (cutF 47 rest).1 false) (cutF 47 rest).2.1 else cstep σ (cutF 47 rest).1 true
 termination_by rest.length
decreasing_by exact cutF_lt h
theorem segFold_more {σ : CS} {rest a b : List UInt8} (h : (a,b,true) = cutF 47 rest) : segFold σ rest = segFold (cstep σ a false) b:=by
 rw [segFold,dif_pos (by rw [←h]),←h]
theorem segFold_last {σ : CS} {rest a b : List UInt8} (h : (a,b,false) = cutF 47 rest) : segFold σ rest = cstep σ a true:=by
 rw [segFold,dif_neg (by rw [←h]; simp),←h]
theorem cstep_len (σ : CS) (s : List UInt8) (last : Bool) : (cstep σ s last).1.length≤σ.1.length + 1:=by
 unfold cstep capp cpop
 split
 ·simp
 ·split<;>split<;>simp<;>omega
theorem segFold_len : ∀ (n : Nat) (σ : CS) (rest : List UInt8),rest.length≤n→(segFold σ rest).1.length≤σ.1.length + rest.length + 1
 | 0,σ,rest,h=>by
  have : rest = []:=List.eq_nil_of_length_eq_zero (by omega)
  subst this
  rw [segFold,dif_neg (by simp [cutF])]
  have:=cstep_len σ (cutF 47 []).1 true
  simp only [List.length_nil]; omega
 | n + 1,σ,rest,h=>by
  rw [segFold]
  split
  ·rename_i hc
   have h1:=cutF_lt hc
   have h2:=segFold_len n (cstep σ (cutF 47 rest).1 false) (cutF 47 rest).2.1 (by omega)
   have h3:=cstep_len σ (cutF 47 rest).1 false
   omega
  ·have:=cstep_len σ (cutF 47 rest).1 true
   omega
theorem finClean {c : LC} {path : List UInt8} {nl : Bool} {n n2 g : Int} {f f2 : Nat→List SV} {st : List (List UInt8)} (R : RowS f n st) (R2 : RowS f2 n2 st) :
  Fin (.tup []) (.tup []) [.lrec c (cfr 2) 0 none,.blk 9 [.str path],.blk 61 [.vsl (.a nl) (.a n) (.a g) 3],.vec 9 (.a n) (.a g) 1 f] [.lrec c (cfr 2) 0 none,.blk 9 [.str path],.blk 61 [.vsl (.a nl) (.a n2) (.a g) 3],.vec 9 (.a n2) (.a g) 1 f2]:=by
 obtain rfl : n = n2:=by rw [R.n,R2.n]
 refine ⟨LeV.refl _,leH_of (LeH.cons (fun _ _ _ h=>h) (LeH.cons (fun _ _ _ h=>h) (LeH.cons (fun _ _ _ h=>h) (LeH.cons (leH_vec rfl rfl fun i hi=>?_) fun _ _ _ _ h=>h)))),Nat.le_refl _⟩
 have hi : (i : Int) < n:=hi
 have:=R.n
 rw [R.f i (by omega),R2.f i (by omega)]
def spSegs : FSpec:=fun _ xs ls K=>∃ (s : List UInt8),xs = [.str s]∧ls = []∧K (.clo 78 [.ptr 0 0]) [.blk 9 [.str s]]
theorem segs_ok : FnOk Tryz.prog gl 38 spSegs:=by
 refine fnOkG (gh:=[]) mixed cxOk tabNil Tryz.func38 (by kernel_rfl) (by kernel_rfl) ?_
 intro xs ls K h
 unfold spSegs at h
 obtain ⟨s,rfl,rfl,h⟩:=h
 refine ⟨_,_,h,fun D hD=>?_⟩
 clear h
 cbv
 subst hD
 exact fin_eq rfl rfl
def itClean (Y : FSpec) : FSpec:=fun _ xs ls K=>∃ (c : LC) (path : List UInt8) (st : List (List UInt8)) (nl : Bool) (g n : Int) (f : Nat→List SV),Y = cleanY c∧
 xs = [.yv 0,.ptr 1 0]∧ls = [.lrec c (cfr 2) 0 none,.blk 9 [.str path],.blk 61 [.vsl (.a nl) (.a n) (.a g) 3],.vec 9 (.a n) (.a g) 1 f]∧RowS f n st∧1≤path.length∧st.length + path.length≤50000∧
 ∀ st' nl' g' n' f',(st',nl',g') = segFold (st,nl,g) (path.drop 1)→RowS f' n' st'→K (.tup []) [.lrec c (cfr 2) 0 none,.blk 9 [.str path],.blk 61 [.vsl (.a nl') (.a n') (.a g') 3],.vec 9 (.a n') (.a g') 1 f']
structure SgJ (k : CS) (rest : List UInt8) (st : List (List UInt8)) (nl : Bool) (g n : Int) (f : Nat→List SV) (m : Nat) : Prop where
 m : m = rest.length
 row : RowS f n st
 k : k = segFold (st,nl,g) rest
 len : st.length + rest.length≤50000
def sgJ (c : LC) (path : List UInt8) (k : CS) (m : Nat) (vs : List (Option SV)) (hp : List Hl) : Prop :=
 ∃ (rest : List UInt8) (st : List (List UInt8)) (nl : Bool) (g n : Int) (f : Nat→List SV),vs = [some (.yv 0),some (.str rest)]∧
  hp = [.lrec c (cfr 2) 0 none,.blk 9 [.str path],.blk 61 [.vsl (.a nl) (.a n) (.a g) 3],.vec 9 (.a n) (.a g) 1 f]∧SgJ k rest st nl g n f m
theorem segs1_ok (Y : FSpec) (hY : YOk Tryz.prog gl Y) : FnOk Tryz.prog gl 78 (itClean Y):=by
 refine fnOkI (gh:=[]) (its:=[]) (yl:=[Y]) mixed cxOk (tabCons cut_ok tabNil) ⟨fun _ h=>(by cases h),fun Z h=>by rw [List.mem_singleton] at h; subst h; exact hY⟩ Tryz.func78 (by kernel_rfl) (by kernel_rfl) ?_
 intro xs ls K h
 unfold itClean at h
 obtain ⟨c,path,st,nl,g,n,f,rfl,rfl,rfl,R,hp1,hlen,h⟩:=h
 obtain ⟨k,hk⟩ : ∃ k,k = segFold (st,nl,g) (path.drop 1):=⟨_,rfl⟩
 obtain ⟨n2,f2,R2⟩ : ∃ n2 f2,RowS f2 n2 k.1:=⟨_,_,RowS.row (l:=k.1) (by
  have:=segFold_len path.length (st,nl,g) (path.drop 1) (by simp)
  rw [←hk] at this
  simp only [List.length_drop] at this; omega)⟩
 refine ⟨_,_,h k.1 k.2.1 k.2.2 n2 f2 hk R2,fun D hD=>?_⟩
 clear h
 obtain ⟨k1,k2,k3⟩:=k
 obtain ⟨J,hJ⟩ : ∃ J,J = sgJ c path (k1,k2,k3):=⟨_,rfl⟩
 simp only at R2
 cbv
 refine ⟨by subst hD; exact ⟨by decide,by show (1 : Int)≤path.length; omega,Int.le_refl _⟩,fun r hr=>?_⟩
 have hr2 : r = path.drop 1:=by
  have h1 : r = (path.drop 1).take ((path.length : Int).toNat - 1):=by subst hD; exact hr.h
  rw [h1,List.take_of_length_le (by rw [List.length_drop]; omega)]
 clear hr
 cbv
 refine ⟨[0,3],J,⟨rfl,r.length,?_⟩,?_⟩
 ·rw [hJ]
  subst hD
  refine ⟨r,st,nl,g,n,f,rfl,rfl,rfl,R,by rw [hk,hr2],by rw [hr2,List.length_drop]; omega⟩
 clear hk hr2 R hlen
 intro m vs hp hj
 rw [hJ] at hj
 obtain ⟨rest,st,nl,g,n,f,rfl,rfl,V⟩:=hj
 cbv
 refine ⟨rest,47,rfl,rfl,by have:=V.len; omega,fun a b t hc=>?_⟩
 cbv
 refine ⟨a,!t,st,nl,g,n,f,?_,?_,V.row,by have:=V.len; omega,fun st' nl' g' n' f' hst R'=>?_⟩
 ·subst hD; rfl
 ·subst hD; rfl
 cbv
 refine br hD (fun h=>?_) (fun h=>?_)
 ·cbv
  have ht : t = false:=by simpa [BT.den] using h
  subst ht
  have e1:=V.k
  have hst : (st',nl',g') = cstep (st,nl,g) a true:=hst
  rw [segFold_last hc,←hst] at e1
  simp only [Prod.mk.injEq] at e1
  obtain ⟨rfl,rfl,rfl⟩:=e1
  subst hD
  exact finClean R' R2
 ·cbv
  have ht : t = true:=by simpa [BT.den] using h
  subst ht
  have e1:=V.k
  rw [segFold_more hc] at e1
  have hb : b.length < rest.length:=by
   have:=cutF_lt (c:=47) (s:=rest) (by rw [←hc])
   rw [←hc] at this; exact this
  have hst2 : st'.length≤st.length + 1:=by
   have:=cstep_len (st,nl,g) a false
   rw [show (!true) = false from rfl] at hst
   rw [←hst] at this; exact this
  refine ⟨b.length,by have:=V.m; omega,?_⟩
  rw [hJ]
  unfold sgJ
  subst hD
  refine ⟨b,st',nl',g',n',f',rfl,rfl,rfl,R',?_,by have:=V.len; omega⟩
  rw [e1,hst]; rfl
end Go.Proofs.YtefelnhpfdcleaaGreatDoor
namespace Go.Proofs.YtefelnhpfdcleaaGreatDoor
open Go Go.Sx Go.RowKit
set_option maxRecDepth 100000
set_option maxHeartbeats 2000000
theorem cell_in {W : World} {b o : Nat} {sp : Option Nat} {v : Value} (h : W.cell? ⟨b,o,sp⟩ = some v) : b < W.heap.size:=by
 unfold World.cell? at h
 split at h
 ·rename_i c _ _ hc
  exact (Array.getElem?_eq_some_iff.1 hc).1
 ·cases h
def spJoin : FSpec:=fun _ xs ls K=>∃ (l : List (List UInt8)) (sep : List UInt8) (nl : Bool) (n : Int) (f : Nat→List SV),xs = [.sl (.a nl) (.a n) 1 f,.str sep]∧ls = []∧RowS f n l∧l.length≤1000000∧(Lib.join l sep).length≤140737488355328∧∀ r,r = Lib.join l sep→K (.str r) []
theorem join_ok : FnOk Tryz.prog gl 40 spJoin:=by
 refine ⟨⟨Tryz.f40,_,Tryz.func40,rfl,by kernel_rfl⟩,fun xs ls K h=>?_⟩
 obtain ⟨l,sep,nl,n,f,rfl,rfl,R,hN,hL,h⟩:=h
 refine ⟨_,_,h _ rfl,callsTo_below fun E B w vals _ _ _ hr=>?_⟩
 obtain ⟨v,u,rfl,hv,hu⟩:=relL_two hr
 rw [rel_str hu]
 have hRn:=R.n
 have none : ∀ (a : Option Addr) (c : Nat),l.length = 0→Calls Tryz.prog 40 ⟨[.slice a 0 c,.string (Sx.bytes sep)]⟩ w fun e w'=>∃ v,e = .returned v∧(∀ E,Rel E w' (.str (Lib.join l sep)) v)∧Below w.heap.size w w':=by
  intro a c h0
  obtain rfl : l = []:=List.eq_nil_of_length_eq_zero h0
  refine (sh_strings_Join_none a c (Sx.bytes sep) w).mono ?_
  rintro e w' ⟨rfl,rfl⟩
  exact ⟨_,rfl,fun E=>.ro (.str rfl),Below.refl _ _⟩
 cases hv with
 | ro h =>
  cases h with
  | slnil h hn =>
   have hn : n = 0:=hn
   exact none _ _ (by omega)
  | sl g h hn hc hcm hs hl h1 hcell hrel =>
   rename_i a m cap
   have hn : n = (m : Int):=hn
   have hm : l.length = m:=by omega
   by_cases h0 : m = 0
   ·subst h0; exact none _ _ hm
   ·obtain ⟨bk,o,sp⟩:=a
    obtain rfl : sp = Option.none:=hs (by omega)
    have cells : ∀ j,j < m→w.cell? ⟨bk,o + j,Option.none⟩ = some (.string (Sx.bytes (l.getD j []))):=by
     intro j hj
     have e1:=(hcell j 0 hj (by omega)).1
     have e2:=hrel j 0 (.str (l.getD j [])) hj (by rw [R.f j (by omega)]; rfl)
     simp only [Nat.mul_one,Nat.add_zero] at e1
     rw [e1]
     cases e2 with
     | str h=>rw [h]
    have hmap : (l.map Sx.bytes).map (·.data.toList) = l:=by
     rw [List.map_map]
     have : ((fun x : ByteArray=>x.data.toList)∘Sx.bytes) = id:=by funext s; simp [Sx.bytes]
     rw [this,List.map_id]
    have:=sh_strings_Join bk o cap (l.map Sx.bytes) (Sx.bytes sep) w (fun j x hx=>?_) (cell_in (cells 0 (by omega))) (by rw [List.length_map]; omega) (by rw [List.length_map]; omega) (by rw [hmap]; simpa [Sx.bytes] using hL)
    ·rw [hmap,List.length_map,hm] at this
     refine this.mono ?_
     rintro e w' ⟨rfl,hB⟩
     exact ⟨_,rfl,fun E=>.ro (.str (by simp [Sx.bytes])),hB⟩
    ·rw [List.getElem?_map] at hx
     obtain ⟨s,hs1,rfl⟩:=Option.map_eq_some_iff.1 hx
     have hj : j < l.length:=(List.getElem?_eq_some_iff.1 hs1).1
     rw [cells j (by omega),List.getD_eq_getElem?_getD,hs1]; rfl
end Go.Proofs.YtefelnhpfdcleaaGreatDoor
namespace Go.Proofs.YtefelnhpfdcleaaGreatDoor
open Go Go.Sx
set_option maxRecDepth 100000
set_option maxHeartbeats 40000000
def cleanF (s : List UInt8) : List UInt8×Int :=
 if (splitF s).2.2.2≠0 then ([],(splitF s).2.2.2) else
 ([47] ++ Lib.join (segFold ([],true,0) ((normL (splitF s).1 0).drop 1)).1 [47] ++ (if (splitF s).2.2.1 then [63] ++ normL (splitF s).2.1 0 else []),0)
theorem normL_len (s : List UInt8) : ∀ (m i : Nat),s.length - i≤m→(normL s i).length≤s.length - i∧(i < s.length→1≤(normL s i).length)
 | m,i,hm=>by
  by_cases hi : i < s.length
  ·cases m with
   | zero=>omega
   | succ m =>
    by_cases he : escAt s i = true
    ·have h3:=escAt_len he
     rw [normL_esc hi he]
     have ih:=(normL_len s m (i + 3) (by omega)).1
     have hO : 1≤(escO (escV s i)).length∧(escO (escV s i)).length≤3:=by unfold escO; split<;>simp
     simp only [List.length_append]
     omega
    ·rw [normL_one hi (by simpa using he)]
     have ih:=(normL_len s m (i + 1) (by omega)).1
     simp only [List.length_cons]
     omega
  ·rw [normL,dif_neg hi]
   simp; omega
theorem splitF_ok {s p q : List UInt8} {h : Bool} (hs : (p,q,h,(0 : Int)) = splitF s) : s.length≤500∧1≤p.length∧p.length≤500∧q.length≤500:=by
 unfold splitF at hs
 split at hs
 ·rename_i h1
  simp only [Prod.mk.injEq] at hs
  exact absurd hs.2.2.2.symm h1
 ·rename_i h1
  have h0 : (orgF s).2 = 0:=by simpa using h1
  have hl:=orgF_len h0
  split at hs
  ·simp only [Prod.mk.injEq] at hs; omega
  ·simp only [Prod.mk.injEq] at hs
   obtain ⟨rfl,rfl,rfl,_⟩:=hs
   have hp : Lib.hasPrefix s [47] = true:=by
    unfold orgF at h0
    split at h0
    ·cases h0
    ·split at h0
     ·cases h0
     ·rename_i h5; simpa using h5
   have key : ∀ (c : UInt8) (s : List UInt8),(cutF c s).1.length≤s.length∧(cutF c s).2.1.length≤s.length:=by
    intro c s
    induction s with
    | nil=>exact ⟨Nat.le_refl _,Nat.le_refl _⟩
    | cons b r ih=>unfold cutF; split<;>simp<;>omega
   refine ⟨hl,?_,by have:=(key 63 s).1; omega,by have:=(key 63 s).2; omega⟩
   cases s with
   | nil=>cases hp
   | cons b r =>
    have hb : b = 47:=by
     simp [Lib.hasPrefix,List.isPrefixOf] at hp
     exact hp.symm
    subst hb
    simp [cutF]
structure CBound (p q : List UInt8) : Prop where
 p1 : 1≤p.length
 p : p.length≤500
 q : q.length≤500
def spClean : FSpec:=fun _ xs ls K=>∃ (s : List UInt8),xs = [.str s]∧ls = []∧s.length≤9223372036854775807∧∀ t e,(t,e) = cleanF s→K (.tup [.str t,.int .i64 (.a e)]) []
structure EqI (a b : Int) : Prop where
 h : a = b
theorem finCR {c : LC} {fr : List (Nat×Option SV)} {bt : BT} {nlT : BT} {nT gT nT' gT' : ST} {k2 : Bool} {n1 n2 k3 : Int} {f1 f2 : Nat→List SV} {st : List (List UInt8)} (hb : bt.den = true) (h1 : nlT.den = k2) (h2 : nT.den = n1) (h3 : gT.den = k3) (h4 : nT'.den = n1) (h5 : gT'.den = k3) (R : RowS f1 n1 st) (R2 : RowS f2 n2 st) :
  Fin (.bool bt) (.bool (.a true)) [.lrec c fr 0 none,.blk 61 [.vsl nlT nT gT 2],.vec 9 nT' gT' 1 f1] [.lrec c fr 0 none,.blk 61 [.vsl (.a k2) (.a n2) (.a k3) 2],.vec 9 (.a n2) (.a k3) 1 f2]:=by
 obtain rfl : n1 = n2:=by rw [R.n,R2.n]
 refine ⟨leBool hb,leH_of (LeH.cons (fun _ _ _ h=>h) (LeH.cons (leH_blk (LeL.cons (leVsl h1 h2 h3) LeL.nil)) (LeH.cons (leH_vec h4 h5 fun i hi=>?_) fun _ _ _ _ h=>h))),Nat.le_refl _⟩
 rw [h4] at hi
 have:=R.n
 rw [R.f i (by omega),R2.f i (by omega)]
theorem RowS.pop {f : Nat→List SV} {n : Int} {st : List (List UInt8)} (R : RowS f n st) (h : 1≤st.length) : RowS f (n - 1) st.dropLast:=by
 have hn:=R.n
 refine ⟨by rw [List.length_dropLast]; omega,fun i hi=>?_,by have:=R.len; rw [List.length_dropLast]; omega⟩
 rw [List.length_dropLast] at hi
 rw [R.f i (by omega),List.getD_eq_getElem?_getD,List.getD_eq_getElem?_getD,List.getElem?_dropLast,if_pos (by omega)]
theorem cstep_mem {B : Nat} {σ : CS} {s : List UInt8} {last : Bool} (h : ∀ x∈σ.1,x.length≤B) (hs : s.length≤B) : ∀ x∈(cstep σ s last).1,x.length≤B:=by
 have hp : ∀ x∈(if s = [46,46]∧σ.1≠[] then cpop σ else σ).1,x.length≤B:=by
  split
  ·exact fun x hx=>h x (List.dropLast_subset _ hx)
  ·exact h
 intro x hx
 unfold cstep at hx
 split at hx
 ·simp only [capp,List.mem_append,List.mem_singleton] at hx
  rcases hx with hx | rfl
  ·exact h x hx
  ·exact hs
 ·split at hx
  ·simp only [capp,List.mem_append,List.mem_singleton] at hx
   rcases hx with hx | rfl
   ·exact hp x hx
   ·simp
  ·exact hp x hx
theorem cutF_len (c : UInt8) (s : List UInt8) : (cutF c s).1.length≤s.length∧(cutF c s).2.1.length≤s.length:=by
 induction s with
 | nil=>exact ⟨Nat.le_refl _,Nat.le_refl _⟩
 | cons b r ih=>unfold cutF; split<;>simp<;>omega
theorem segFold_mem {B : Nat} : ∀ (n : Nat) (σ : CS) (rest : List UInt8),rest.length≤n→rest.length≤B→(∀ x∈σ.1,x.length≤B)→∀ x∈(segFold σ rest).1,x.length≤B
 | n,σ,rest,h,hB,hσ=>by
  have hc:=(cutF_len 47 rest).1
  rw [segFold]
  split
  ·rename_i hc2
   have h1:=cutF_lt hc2
   cases n with
   | zero=>omega
   | succ n=>exact segFold_mem n _ _ (by omega) (by omega) (cstep_mem hσ (by omega))
  ·exact cstep_mem hσ (by omega)
theorem joinTail_len {B : Nat} : ∀ {l : List (List UInt8)},(∀ x∈l,x.length≤B)→(Lib.joinTail [47] l).length≤l.length * (B + 1)
 | [],_=>by simp [Lib.joinTail]
 | x :: l,h=>by
  have h1:=joinTail_len (l:=l) fun y hy=>h y (List.mem_cons_of_mem _ hy)
  have h2:=h x (List.mem_cons_self ..)
  have : Lib.joinTail [47] (x :: l) = [47] ++ x ++ Lib.joinTail [47] l:=by simp [Lib.joinTail]
  rw [this]
  simp only [List.length_append,List.length_cons,List.length_nil,Nat.add_mul,Nat.one_mul]
  omega
theorem join_len {B : Nat} {l : List (List UInt8)} (h : ∀ x∈l,x.length≤B) : (Lib.join l [47]).length≤l.length * (B + 1):=by
 cases l with
 | nil=>simp [Lib.join_nil]
 | cons x l =>
  rw [Lib.join_cons]
  have h1:=joinTail_len (l:=l) fun y hy=>h y (List.mem_cons_of_mem _ hy)
  have h2:=h x (List.mem_cons_self ..)
  simp only [List.length_append,List.length_cons,Nat.add_mul,Nat.one_mul]
  omega
theorem clean_ok : FnOk Tryz.prog gl 15 spClean:=by
 refine fnOkI (gh:=[(4,[.vecb 8 0 9]),(2000014,[.vshareb 8 0])]) (its:=[(78,itClean)]) (yl:=[]) mixed cxOk (tabCons split_ok7 (tabCons normal_ok (tabConsG segs_ok (tabCons join_ok tabNil)))) ⟨fun x h Y hY=>by rw [List.mem_singleton] at h; subst h; exact segs1_ok Y hY,fun _ h=>(by cases h)⟩ Tryz.func15 (by kernel_rfl) (by kernel_rfl) ?_
 intro xs ls K h
 unfold spClean at h
 obtain ⟨s,rfl,rfl,hs,h⟩:=h
 obtain ⟨k,hk⟩ : ∃ k,k = cleanF s:=⟨_,rfl⟩
 obtain ⟨kt,ke⟩:=k
 refine ⟨_,_,h kt ke hk,fun D hD=>?_⟩
 clear h
 unfold cleanF at hk
 cbv
 refine ⟨s,rfl,rfl,hs,fun p q hb e hsp=>?_⟩
 rw [←hsp] at hk
 simp only at hk
 cbv
 refine br hD (fun h=>?_) (fun h=>?_)
 ·cbv
  have h1 : e≠0:=by simpa using h
  rw [if_pos h1] at hk
  simp only [Prod.mk.injEq] at hk
  obtain ⟨rfl,rfl⟩:=hk
  subst hD
  exact fin_eq rfl rfl
 have h1 : e = 0:=by simpa using h
 subst h1
 rw [if_neg (by simp)] at hk
 have CB : CBound p q:=by
  obtain ⟨_,a,b,c⟩:=splitF_ok hsp
  exact ⟨a,b,c⟩
 clear h hsp
 cbv
 refine ⟨p,rfl,rfl,by have:=CB.p; omega,fun pn hpn=>?_⟩
 have hpl:=(normL_len p p.length 0 (by omega))
 rw [←hpn] at hpl hk
 have PB : 1≤pn.length∧pn.length≤500:=by have:=CB.p1; have:=CB.p; omega
 clear hpl hpn
 cbv
 refine ⟨pn,rfl,rfl,?_⟩
 cbv
 intro c hc
 refine ⟨[8],cleanY c,?_,?_⟩
 ·rintro xs ls K' ⟨x,last,st,nl,g,n,f,rfl,rfl,R,hl,h⟩
  refine ⟨⟨_,rfl⟩,?_⟩
  obtain ⟨k,hk⟩ : ∃ k,k = cstep (st,nl,g) x last:=⟨_,rfl⟩
  obtain ⟨n2,f2,R2⟩ : ∃ n2 f2,RowS f2 n2 k.1:=⟨_,_,RowS.row (l:=k.1) (by have:=cstep_len (st,nl,g) x last; rw [←hk] at this; simp only at this; omega)⟩
  refine ⟨_,_,h k.1 k.2.1 k.2.2 n2 f2 hk R2,?_⟩
  clear h
  obtain ⟨k1,k2,k3⟩:=k
  simp only at R2
  unfold cstep at hk
  cbv
  refine br hD (fun h=>?_) (fun h=>?_)<;>cbv
  ·have hx : x≠[46]∧x≠[46,46]:=by
    have h : (!(x == [46]) && !(x == [46,46])) = true:=h
    simpa using h
   rw [if_pos hx] at hk
   simp only [capp,Prod.mk.injEq] at hk
   obtain ⟨hq1,hq2,hq3⟩:=hk
   subst hq1 hq2
   have hk3 : EqI k3 _:=⟨hq3⟩
   clear hq3
   clear h hx
   intro f0 hf0
   have h0 : f0 0 = [.str x]:=hf0.h 0 _ rfl
   clear hf0
   cbv
   refine ⟨by subst hD; exact ⟨rfl,by have:=R.n; have:=hl; show (n + 1) * 16≤_; omega,by have:=R.n; have:=hl; show n + 1≤_; omega⟩,⟨by subst hD; rfl⟩,fun f1 n1 hm g1 hg=>?_⟩
   have e1 : RowS f1 n1 (st ++ [x]):=R.more h0 (by subst hD; exact hm) (by have:=hl; omega)
   have e2 : g1 = k3:=by subst hD; rw [hk3.h]; exact hg.h
   clear hm hg
   cbv
   subst hD
   exact finCR rfl (Bool.and_false nl) rfl e2 rfl e2 e1 R2
  have hx : ¬ (x≠[46]∧x≠[46,46]):=by
   have h : (!(x == [46]) && !(x == [46,46])) = false:=h
   simpa using h
  rw [if_neg hx] at hk
  clear h hx
  refine br hD (fun h=>?_) (fun h=>?_)<;>cbv
  ·have hx : x = [46,46]∧st≠[]:=by
    have h : ((x == [46,46]) && decide (0 < n)) = true:=h
    simp only [Bool.and_eq_true,beq_iff_eq,decide_eq_true_eq] at h
    refine ⟨h.1,fun e=>?_⟩
    have:=R.n
    rw [e] at this
    have:=h.2
    simp at *; omega
   have hpos : 1≤st.length:=by
    cases st with
    | nil=>exact absurd rfl hx.2
    | cons a b=>simp
   simp only [if_pos hx,cpop] at hk
   clear h hx
   have Rp:=R.pop hpos
   have hlp : st.dropLast.length≤99999:=by rw [List.length_dropLast]; omega
   generalize st.dropLast = sp at hk Rp hlp
   obtain ⟨np,hnp⟩ : ∃ np,np = n - 1:=⟨_,rfl⟩
   rw [←hnp] at Rp
   have hn1 : IntKind.i64.wrap (n - 1) = np:=by have:=R.n; rw [wrap64 (by omega) (by omega)]; exact hnp.symm
   have hnb : 0≤np∧np≤n:=by have:=Rp.n; omega
   clear hnp
   refine ⟨⟨by subst hD; rfl⟩,⟨by subst hD; rfl⟩,by subst hD; exact ⟨Int.le_refl _,by show 0≤IntKind.i64.wrap (n - 1); rw [hn1]; exact hnb.1,by show IntKind.i64.wrap (n - 1)≤n; rw [hn1]; exact hnb.2⟩,fun g2 hg2=>?_⟩
   have eg : EqI g2 (g + 1):=⟨by subst hD; exact hg2.h⟩
   clear hg2
   cbv
   refine br hD (fun h=>?_) (fun h=>?_)<;>cbv
   ·have hlast : last = true:=h
    subst hlast
    rw [if_pos rfl] at hk
    simp only [capp,Prod.mk.injEq] at hk
    obtain ⟨hq1,hq2,hq3⟩:=hk
    subst hq1 hq2
    have hk3 : EqI k3 _:=⟨hq3⟩
    clear hq3
    clear h
    intro f0 hf0
    have h0 : f0 0 = [.str []]:=hf0.h 0 _ rfl
    clear hf0
    cbv
    refine ⟨by subst hD; exact ⟨rfl,by have:=Rp.n; show (IntKind.i64.wrap (n - 1) + 1) * 16≤_; rw [hn1]; omega,by have:=Rp.n; show IntKind.i64.wrap (n - 1) + 1≤_; rw [hn1]; omega⟩,⟨by subst hD; rfl⟩,fun f1 n1 hm g1 hg=>?_⟩
    have e1 : RowS f1 n1 (sp ++ [[]]):=Rp.more h0 (by subst hD; rw [←hn1]; exact hm) (by omega)
    have e2 : g1 = k3:=by subst hD; rw [hk3.h,←eg.h]; exact hg.h
    clear hm hg
    cbv
    subst hD
    exact finCR rfl (Bool.and_false nl) rfl e2 rfl e2 e1 R2
   ·have hlast : last = false:=h
    subst hlast
    rw [if_neg (by simp)] at hk
    simp only [Prod.mk.injEq] at hk
    obtain ⟨hq1,hq2,hq3⟩:=hk
    subst hq1 hq2
    have hk3 : EqI k3 _:=⟨hq3⟩
    clear hq3
    clear h
    subst hD
    exact finCR (n1:=np) rfl rfl hn1 (by rw [hk3.h]; exact eg.h) hn1 (by rw [hk3.h]; exact eg.h) Rp R2
  have hx : ¬ (x = [46,46]∧st≠[]):=by
   have h : ((x == [46,46]) && decide (0 < n)) = false:=h
   rintro ⟨h1,h2⟩
   have h3 : 0 < n:=by
    have:=R.n
    cases st with
    | nil=>exact absurd rfl h2
    | cons a b=>rw [this]; simp
   rw [h1] at h
   simp [h3] at h
  simp only [if_neg hx] at hk
  clear h hx
  refine br hD (fun h=>?_) (fun h=>?_)<;>cbv
  ·have hlast : last = true:=h
   subst hlast
   rw [if_pos rfl] at hk
   simp only [capp,Prod.mk.injEq] at hk
   obtain ⟨hq1,hq2,hq3⟩:=hk
   subst hq1 hq2
   have hk3 : EqI k3 _:=⟨hq3⟩
   clear hq3
   clear h
   intro f0 hf0
   have h0 : f0 0 = [.str []]:=hf0.h 0 _ rfl
   clear hf0
   cbv
   refine ⟨by subst hD; exact ⟨rfl,by have:=R.n; have:=hl; show (n + 1) * 16≤_; omega,by have:=R.n; have:=hl; show n + 1≤_; omega⟩,⟨by subst hD; rfl⟩,fun f1 n1 hm g1 hg=>?_⟩
   have e1 : RowS f1 n1 (st ++ [[]]):=R.more h0 (by subst hD; exact hm) (by have:=hl; omega)
   have e2 : g1 = k3:=by subst hD; rw [hk3.h]; exact hg.h
   clear hm hg
   cbv
   subst hD
   exact finCR rfl (Bool.and_false nl) rfl e2 rfl e2 e1 R2
  ·have hlast : last = false:=h
   subst hlast
   rw [if_neg (by simp)] at hk
   simp only [Prod.mk.injEq] at hk
   obtain ⟨hq1,hq2,hq3⟩:=hk
   subst hq1 hq2
   have hk3 : EqI k3 _:=⟨hq3⟩
   clear hq3
   clear h
   subst hD
   exact finCR rfl rfl rfl hk3.h.symm rfl hk3.h.symm R R2
 ·cbv
  refine ⟨c,pn,[],true,0,0,fun _=>[],rfl,rfl,by subst hD; rfl,RowS.nil,PB.1,by have:=PB.2; simp only [List.length_nil]; omega,fun st nl g n f hst R=>?_⟩
  have hst1 : (segFold ([],true,0) (List.drop 1 pn)).1 = st:=by rw [←hst]
  rw [hst1] at hk
  have SL : st.length≤600∧(Lib.join st [47]).length≤400000:=by
   have h1:=segFold_len pn.length ([],true,0) (pn.drop 1) (by simp)
   have h2:=segFold_mem (B:=pn.length) pn.length ([],true,0) (pn.drop 1) (by simp) (by simp) (fun x hx=>by simp at hx)
   rw [hst1] at h1 h2
   simp only [List.length_drop,List.length_nil] at h1
   have h3:=join_len h2
   have h4 : st.length≤501:=by omega
   have h5 : st.length * (pn.length + 1)≤501 * 501:=Nat.mul_le_mul h4 (by omega)
   omega
  clear hst hst1
  cbv
  refine ⟨⟨⟨by subst hD; rfl⟩,⟨by subst hD; rfl⟩⟩,?_⟩
  refine ⟨st,[47],nl,n,f,by subst hD; rfl,rfl,R,by omega,by omega,fun j hj=>?_⟩
  rw [←hj] at hk
  have hjl : j.length≤400000:=by rw [hj]; exact SL.2
  clear hj
  cbv
  refine ⟨⟨by simp only [List.length_cons,List.length_nil]; omega⟩,fun u hu=>?_⟩
  have hu : u = [47] ++ j:=hu.h
  rw [←hu] at hk
  have hul : u.length≤400001:=by rw [hu]; simp; omega
  clear hu
  cbv
  refine br hD (fun h=>?_) (fun h=>?_)<;>cbv
  ·have hb1 : hb = true:=h
   subst hb1
   rw [if_pos rfl] at hk
   clear h
   refine ⟨q,rfl,rfl,by have:=CB.q; omega,fun qn hqn=>?_⟩
   have hql:=(normL_len q q.length 0 (by omega)).1
   rw [←hqn] at hql hk
   have hql : qn.length≤500:=by have:=CB.q; omega
   clear hqn
   cbv
   refine ⟨⟨by simp only [List.length_cons,List.length_nil]; omega⟩,fun u2 hu2=>?_⟩
   have hu2 : u2 = [63] ++ qn:=hu2.h
   rw [←hu2] at hk
   have hul2 : u2.length≤501:=by rw [hu2]; simp; omega
   clear hu2
   cbv
   refine ⟨⟨by omega⟩,fun u3 hu3=>?_⟩
   have hu3 : u3 = u ++ u2:=hu3.h
   rw [←hu3] at hk
   simp only [Prod.mk.injEq] at hk
   obtain ⟨hq1,hq2⟩:=hk
   subst hq1 hq2
   cbv
   subst hD
   exact fin_eq rfl rfl
  ·have hb1 : hb = false:=h
   subst hb1
   rw [if_neg (by simp),List.append_nil] at hk
   simp only [Prod.mk.injEq] at hk
   obtain ⟨hq1,hq2⟩:=hk
   subst hq1 hq2
   subst hD
   exact fin_eq rfl rfl
end Go.Proofs.YtefelnhpfdcleaaGreatDoor
namespace Go.Proofs.YtefelnhpfdcleaaGreatDoor
open Go Go.Sx
set_option maxRecDepth 100000
set_option maxHeartbeats 2000000
structure Rq where
 id : Int
 method : List UInt8
 target : List UInt8
 host : List UInt8
 fields : List HF
 body : List UInt8
structure RqOk (r : Rq) (nl : Bool) (n : Int) (f : Nat→List SV) : Prop where
 id1 : -9223372036854775808≤r.id
 id2 : r.id≤9223372036854775807
 method : r.method.length≤9223372036854775807
 target : r.target.length≤9223372036854775807
 host : r.host.length≤9223372036854775807
 body : r.body.length≤9223372036854775807
 row : RowH f n r.fields
 nil : nl = true→r.fields = []
def sHost : List UInt8:=[72,111,115,116]
def sXId : List UInt8:=[88,45,82,101,113,117,101,115,116,45,73,100]
def sCL : List UInt8:=[67,111,110,116,101,110,116,45,76,101,110,103,116,104]
def sPost : List UInt8:=[80,79,83,84]
def sPut : List UInt8:=[80,85,84]
def sPatch : List UInt8:=[80,65,84,67,72]
def sConnect : List UInt8:=[67,79,78,78,69,67,84]
def sId : List UInt8:=[105,100]
def sMethod : List UInt8:=[109,101,116,104,111,100]
def sTarget : List UInt8:=[116,97,114,103,101,116]
def sHostP : List UInt8:=[104,111,115,116]
def sFields : List UInt8:=[102,105,101,108,100,115]
def sBody : List UInt8:=[98,111,100,121]
def hasBody (r : Rq) : Bool:=((r.body != [] || r.method == sPost) || r.method == sPut) || r.method == sPatch
def writtenF (r : Rq) : List HF×Int :=
 if (stripF r.fields).2≠0 then ([],(stripF r.fields).2) else
 (([⟨sHost,r.host⟩,⟨sXId,Lib.itoa r.id⟩] ++ (stripF r.fields).1) ++ (if hasBody r then [⟨sCL,Lib.itoa r.body.length⟩] else []),0)
theorem RowH.app {f g f' : Nat→List SV} {n m n' : Int} {a b : List HF} (R : RowH f n a) (S : RowH g m b) (h : MoreRow f' n' n m f g) (hl : a.length + b.length≤9223372036854775807) : RowH f' n' (a ++ b):=by
 have hn:=R.n; have hm:=S.n
 refine ⟨by rw [h.len,hn,hm,List.length_append]; omega,fun i hi=>?_,by rw [List.length_append]; exact hl,fun i hi=>?_⟩
 ·rw [List.length_append] at hi
  rw [List.getD_eq_getElem?_getD,List.getElem?_append]
  split
  ·rename_i h1
   rw [h.lo i (by omega),R.f i h1,List.getD_eq_getElem?_getD]
  ·rename_i h1
   rw [h.hi i (i - a.length) (by omega) (by omega),S.f _ (by omega),List.getD_eq_getElem?_getD]
 ·rw [List.length_append] at hi
  rw [List.getD_eq_getElem?_getD,List.getElem?_append]
  split
  ·rename_i h1
   have:=R.small i h1
   rwa [List.getD_eq_getElem?_getD] at this
  ·rename_i h1
   have:=S.small (i - a.length) (by omega)
   rwa [List.getD_eq_getElem?_getD] at this
theorem RowH.one {f : Nat→List SV} {x : HF} (h : f 0 = hfCells x) (hs : x.small) : RowH f 1 [x]:=by
 refine ⟨rfl,fun i hi=>?_,by simp,fun i hi=>?_⟩
 ·have : i = 0:=by simpa using hi
  subst this; exact h
 ·have : i = 0:=by simpa using hi
  subst this; exact hs
theorem RowH.two {f : Nat→List SV} {x y : HF} (h : f 0 = hfCells x) (h1 : f 1 = hfCells y) (hs : x.small) (hs1 : y.small) : RowH f 2 [x,y]:=by
 refine ⟨rfl,fun i hi=>?_,by simp,fun i hi=>?_⟩
 ·match i,hi with
  | 0,_=>exact h
  | 1,_=>exact h1
 ·match i,hi with
  | 0,_=>exact hs
  | 1,_=>exact hs1
theorem stripF_len (l : List HF) : (stripF l).2 = 0→(stripF l).1.length≤100:=by
 intro h
 unfold stripF at h ⊢
 split
 ·simp
 ·rename_i h1
  rw [if_neg h1] at h
  have h1 : checkF l = 0:=by simpa using h1
  have:=checkF_len h1
  split
  ·have:=keptH_len (hopsF l).1 l
   simp only; omega
  ·simp
theorem itoa_len {n : Int} (h1 : -9223372036854775808≤n) (h2 : n≤9223372036854775807) : (Lib.itoa n).length≤9223372036854775807:=by
 have:=Lib.itoa_length_le n h1 h2; omega
def spWritten : FSpec:=fun _ xs ls K=>∃ (r : Rq) (nl : Bool) (n : Int) (f : Nat→List SV),xs = [.agg [.int .i64 (.a r.id),.str r.method,.str r.target,.str r.host,.sl (.a nl) (.a n) 2 f,.str r.body]]∧ls = []∧RqOk r nl n f∧
 ∀ l e nb n' g,(l,e) = writtenF r→RowH g n' l→nb = (e != 0)→K (.tup [.sl (.a nb) (.a n') 2 g,.int .i64 (.a e)]) []
theorem rowOf (l : List HF) (h : l.length≤9223372036854775807) (hs : ∀ i,i < l.length→(l.getD i default).small) : ∃ g n,RowH g n l:=⟨_,_,RowH.row h hs⟩
theorem small_append {a b : List HF} (h : ∀ i,i < a.length→(a.getD i default).small) (h2 : ∀ i,i < b.length→(b.getD i default).small) : ∀ i,i < (a ++ b).length→((a ++ b).getD i default).small:=by
 intro i hi
 rw [List.length_append] at hi
 rw [List.getD_eq_getElem?_getD,List.getElem?_append]
 split
 ·rename_i h1
  have:=h i h1
  rwa [List.getD_eq_getElem?_getD] at this
 ·rename_i h1
  have:=h2 (i - a.length) (by omega)
  rwa [List.getD_eq_getElem?_getD] at this
theorem stripF_small {l : List HF} (h : ∀ i,i < l.length→(l.getD i default).small) : ∀ i,i < (stripF l).1.length→((stripF l).1.getD i default).small:=by
 unfold stripF
 split
 ·intro i hi; simp at hi
 ·split
  ·exact keptH_small h
  ·intro i hi; simp at hi
theorem finSl {D : Dn} (hD : D = dn) {nb : Bool} {n n2 e : Int} {g g2 : Nat→List SV} {x : BT} {y z : ST} {l : List HF} (h1 : x.den = nb) (R : RowH g2 n2 l) (h2 : y.den = n2) (h3 : z.den = e) (R2 : RowH g n l) :
  Fin (.tup [.sl (.a (D.b x)) (.a (D.i y)) 2 g2,.int .i64 (.a (D.i z))]) (.tup [.sl (.a nb) (.a n) 2 g,.int .i64 (.a e)]) [] []:=by
 subst hD h1 h3
 have hn : n2 = n:=by rw [R.n,R2.n]
 refine finV (LeV.tup (LeL.cons (LeV.sl rfl (by show y.den = n; rw [h2,hn]) fun i hi=>?_) (LeL.refl _)))
 have hi : (i : Int) < y.den:=hi
 have:=R.n
 rw [R.f i (by omega),R2.f i (by omega)]
theorem written_ok : FnOk Tryz.prog gl 111 spWritten:=by
 refine fnOk (gh:=[]) mixed cxOk (tabCons strip_ok (tabCons fmt_ok (tabCons itoa_ok tabNil))) Tryz.func111 (by kernel_rfl) (by kernel_rfl) ?_
 intro xs ls K h
 unfold spWritten at h
 obtain ⟨r,nl,n,f,rfl,rfl,R,h⟩:=h
 obtain ⟨k,hk⟩ : ∃ k,k = writtenF r:=⟨_,rfl⟩
 obtain ⟨kl,ke⟩:=k
 have hs0 : ∀ x : HF,∀ (a b : List UInt8),x = ⟨a,b⟩→a.length≤100→b.length≤9223372036854775807→x.small:=fun x a b e h1 h2=>by subst e; exact ⟨by show a.length≤_; omega,h2⟩
 have hxs : HF.small ⟨sHost,r.host⟩:=hs0 _ _ _ rfl (by decide) R.host
 have hys : HF.small ⟨sXId,Lib.itoa r.id⟩:=hs0 _ _ _ rfl (by decide) (itoa_len R.id1 R.id2)
 have hzs : HF.small ⟨sCL,Lib.itoa r.body.length⟩:=hs0 _ _ _ rfl (by decide) (itoa_len (by omega) (by have:=R.body; omega))
 have hg : ∃ g n',RowH g n' kl:=by
  unfold writtenF at hk
  split at hk
  ·simp only [Prod.mk.injEq] at hk
   rw [hk.1]; exact rowOf [] (by simp) (fun i hi=>absurd hi (by simp))
  ·rename_i h1
   have h1 : (stripF r.fields).2 = 0:=by simpa using h1
   have h2:=stripF_len _ h1
   simp only [Prod.mk.injEq] at hk
   rw [hk.1]
   refine rowOf _ ?_ (small_append (small_append (fun i hi=>?_) (stripF_small R.row.small)) ?_)
   ·simp only [List.length_append]
    split<;>simp<;>omega
   ·match i,hi with
    | 0,_=>exact hxs
    | 1,_=>exact hys
   ·split
    ·intro i hi
     have : i = 0:=by simpa using hi
     subst this; exact hzs
    ·intro i hi; simp at hi
 obtain ⟨g,n2,R2⟩:=hg
 obtain ⟨nb,hnb⟩ : ∃ nb,nb = (ke != 0):=⟨_,rfl⟩
 refine ⟨_,_,h kl ke nb n2 g hk R2 hnb,fun D hD=>?_⟩
 clear h
 obtain ⟨id,me,ta,ho,fs,bo⟩:=r
 simp only at R hxs hys hzs
 unfold writtenF at hk
 simp only at hk
 cbv
 refine ⟨fs,_,_,f,rfl,rfl,by subst hD; exact R.row,by subst hD; exact R.nil,fun l e nb2 n3 g3 hl RR hnb2=>?_⟩
 have hl2:=stripF_len fs
 rw [←hl] at hl2 hk
 simp only at hl2 hk
 have R3:=RR.row
 clear RR hl
 cbv
 refine br hD (fun h=>?_) (fun h=>?_)<;>cbv
 ·have h1 : e≠0:=by simpa using h
  rw [if_pos h1] at hk
  simp only [Prod.mk.injEq] at hk
  obtain ⟨rfl,rfl⟩:=hk
  exact finSl hD (by rw [hnb]; simp [h1]) (l:=[]) ⟨rfl,fun i hi=>absurd hi (by simp),by simp,fun i hi=>absurd hi (by simp)⟩ rfl rfl R2
 have h1 : e = 0:=by simpa using h
 rw [if_neg (by simp [h1])] at hk
 have hl3:=hl2 h1
 clear h hl2
 refine ⟨_,_,rfl,rfl,by subst hD; exact R.id1,by subst hD; exact R.id2,by subst hD; rfl,fun ids hids=>?_⟩
 cbv
 have hids : ids = Lib.itoa id:=by subst hD; exact hids
 rw [←hids] at hk hys
 clear hids
 intro f2 hf2
 cbv
 have hR2 : RowH f2 2 [⟨sHost,ho⟩,⟨sXId,ids⟩]:=RowH.two (hf2.h 0 _ rfl) (hf2.h 1 _ rfl) hxs hys
 clear hf2
 have hn3:=R3.n
 refine ⟨?_,fun f4 n4 hm=>?_⟩
 ·subst hD
  refine ⟨rfl,?_,?_⟩
  ·show ((2 : Int) + n3) * 32≤140737488355328
   omega
  ·show (2 : Int) + n3≤9223372036854775807
   omega
 cbv
 have R4 : RowH f4 n4 ([⟨sHost,ho⟩,⟨sXId,ids⟩] ++ l):=hR2.app R3 (by subst hD; exact hm) (by simp only [List.length_cons,List.length_nil]; omega)
 clear hm hR2 hn3
 have hl4 : (([⟨sHost,ho⟩,⟨sXId,ids⟩] : List HF) ++ l).length≤102:=by simp; omega
 obtain ⟨l4,hl4e⟩ : ∃ l4,l4 = ([⟨sHost,ho⟩,⟨sXId,ids⟩] : List HF) ++ l:=⟨_,rfl⟩
 rw [←hl4e] at hk R4 hl4
 clear hl4e
 refine br hD (fun h=>?_) (fun h=>?_)<;>cbv
 ·have hb : hasBody ⟨id,me,ta,ho,fs,bo⟩ = true:=h
  rw [if_pos hb] at hk
  clear h hb
  refine ⟨_,rfl,rfl,by subst hD; show -9223372036854775808≤(bo.length : Int); omega,by subst hD; show (bo.length : Int)≤_; have:=R.body; simp only at this; omega,fun bs hbs=>?_⟩
  cbv
  have hbs : bs = Lib.itoa (bo.length : Int):=by subst hD; exact hbs
  rw [←hbs] at hk hzs
  clear hbs
  intro f5 hf5
  cbv
  have hR5 : RowH f5 1 [⟨sCL,bs⟩]:=RowH.one (hf5.h 0 _ rfl) hzs
  clear hf5
  refine ⟨by subst hD; exact ⟨rfl,by have:=R4.n; show (n4 + 1) * 32≤_; omega,by have:=R4.n; show n4 + 1≤_; omega⟩,fun f6 n6 hm=>?_⟩
  cbv
  have R6 : RowH f6 n6 (l4 ++ [⟨sCL,bs⟩]):=R4.app hR5 (by subst hD; exact hm) (by simp only [List.length_cons,List.length_nil]; omega)
  clear hm
  simp only [Prod.mk.injEq] at hk
  obtain ⟨hq1,hq2⟩:=hk
  subst hq1 hq2
  exact finSl hD (by rw [hnb]; rfl) R6 rfl rfl R2
 ·have hb : hasBody ⟨id,me,ta,ho,fs,bo⟩ = false:=h
  rw [if_neg (by rw [hb]; simp),List.append_nil] at hk
  simp only [Prod.mk.injEq] at hk
  obtain ⟨hq1,hq2⟩:=hk
  subst hq1 hq2
  exact finSl hD (by rw [hnb]; rfl) R4 rfl rfl R2
end Go.Proofs.YtefelnhpfdcleaaGreatDoor
namespace Go.Proofs.YtefelnhpfdcleaaGreatDoor
open Go Go.Sx
set_option maxRecDepth 100000
set_option maxHeartbeats 8000000
structure Fr where
 hosts : List (List UInt8)
 ids : List (List UInt8)
 lens : List (List UInt8)
 coded : Bool
 rest : List HF
def nHost : List UInt8:=[104,111,115,116]
def nId : List UInt8:=[120,45,114,101,113,117,101,115,116,45,105,100]
def nLen : List UInt8:=[99,111,110,116,101,110,116,45,108,101,110,103,116,104]
def nTE : List UInt8:=[116,114,97,110,115,102,101,114,45,101,110,99,111,100,105,110,103]
def frStep (r : Fr) (x : HF) : Fr :=
 if foldF x.name = nHost then { r with hosts:=r.hosts ++ [x.value] } else
 if foldF x.name = nId then { r with ids:=r.ids ++ [x.value] } else
 if foldF x.name = nLen then { r with lens:=r.lens ++ [x.value] } else
 if foldF x.name = nTE then { r with coded:=true } else { r with rest:=r.rest ++ [x] }
def frameF (l : List HF) : Fr:=l.foldl frStep ⟨[],[],[],false,[]⟩
structure GrS (f : Nat→List SV) (n : Int) (nl : Bool) (l : List (List UInt8)) : Prop where
 row : RowS f n l
 nl : nl = l.isEmpty
structure GrH (f : Nat→List SV) (n : Int) (nl : Bool) (l : List HF) : Prop where
 row : RowH f n l
 nl : nl = l.isEmpty
structure FrV (r : Fr) (f1 f2 f3 f4 : Nat→List SV) (n1 n2 n3 n4 : Int) (b1 b2 b3 b4 : Bool) : Prop where
 g1 : GrS f1 n1 b1 r.hosts
 g2 : GrS f2 n2 b2 r.ids
 g3 : GrS f3 n3 b3 r.lens
 g4 : GrH f4 n4 b4 r.rest
def spFrame : FSpec:=fun _ xs ls K=>∃ (l : List HF) (nl : Bool) (n : Int) (f : Nat→List SV),xs = [.sl (.a nl) (.a n) 2 f]∧ls = []∧RowH f n l∧l.length≤100∧
 ∀ r f1 f2 f3 f4 n1 n2 n3 n4 b1 b2 b3 b4,r = frameF l→FrV r f1 f2 f3 f4 n1 n2 n3 n4 b1 b2 b3 b4→K (.agg [.sl (.a b1) (.a n1) 1 f1,.sl (.a b2) (.a n2) 1 f2,.sl (.a b3) (.a n3) 1 f3,.bool (.a r.coded),.sl (.a b4) (.a n4) 2 f4]) []
structure FrJ (l : List HF) (k r : Fr) (f1 f2 f3 f4 : Nat→List SV) (n1 n2 n3 n4 : Int) (b1 b2 b3 b4 : Bool) (i : Nat) (I : Int) (m : Nat) : Prop where
 lie : AtR l i I m
 v : FrV r f1 f2 f3 f4 n1 n2 n3 n4 b1 b2 b3 b4
 k : k = (l.drop i).foldl frStep r
 len : r.hosts.length + r.ids.length + r.lens.length + r.rest.length≤i
def z80 : List SV:=[.sl (.a true) (.a 0) 1 (fun _=>[]),.sl (.a true) (.a 0) 1 (fun _=>[]),.sl (.a true) (.a 0) 1 (fun _=>[]),.bool (.a false),.sl (.a true) (.a 0) 2 (fun _=>[])]
def frJ (l : List HF) (k : Fr) (nl : Bool) (n : Int) (f : Nat→List SV) (m : Nat) (vs : List (Option SV)) (hp : List Hl) : Prop :=
 ∃ (r : Fr) (f1 f2 f3 f4 : Nat→List SV) (n1 n2 n3 n4 : Int) (b1 b2 b3 b4 c : Bool) (i : Nat) (I : Int),vs = [some (.ptr 0 0),some (.ptr 1 0),some (.sl (.a nl) (.a n) 2 f),some (.int .i64 (.a n)),some (.int .i64 (.a I))]∧
  hp = [.blk 80 z80,.blk 80 [.gsl (.a b1) (.a n1) 1 f1 2,.gsl (.a b2) (.a n2) 1 f2 3,.gsl (.a b3) (.a n3) 1 f3 4,.bool (.a c),.gsl (.a b4) (.a n4) 2 f4 5],.tail 9 (.a n1) 1,.tail 9 (.a n2) 1,.tail 9 (.a n3) 1,.tail 69 (.a n4) 2]∧c = r.coded∧FrJ l k r f1 f2 f3 f4 n1 n2 n3 n4 b1 b2 b3 b4 i I m
theorem nilRow' : RowH (fun _=>[]) 0 []:=⟨rfl,fun i hi=>absurd hi (by simp),by simp,fun i hi=>absurd hi (by simp)⟩
theorem GrS.nil : GrS (fun _=>[]) 0 true []:=⟨RowS.nil,rfl⟩
theorem GrH.nil : GrH (fun _=>[]) 0 true []:=⟨nilRow',rfl⟩
theorem GrS.more {f f' g : Nat→List SV} {n n' : Int} {nl nl' : Bool} {l : List (List UInt8)} {x : List UInt8} (G : GrS f n nl l) (hg : g 0 = [.str x]) (h : MoreRow f' n' n 1 f g) (hl : l.length≤100) (hb : nl' = false) : GrS f' n' nl' (l ++ [x]):=⟨G.row.more hg h (by omega),by rw [hb]; simp⟩
theorem GrH.more {f f' g : Nat→List SV} {n n' : Int} {nl nl' : Bool} {l : List HF} {x : HF} (G : GrH f n nl l) (hg : g 0 = hfCells x) (hs : x.small) (h : MoreRow f' n' n 1 f g) (hl : l.length≤100) (hb : nl' = false) : GrH f' n' nl' (l ++ [x]) :=
 ⟨G.row.app (RowH.one hg hs) h (by simp only [List.length_cons,List.length_nil]; omega),by rw [hb]; simp⟩
theorem RowH.smallM {f : Nat→List SV} {n : Int} {l : List HF} (R : RowH f n l) (x : HF) (hx : x∈l) : x.small:=by
 obtain ⟨k,hk,e⟩:=List.mem_iff_getElem.1 hx
 have:=R.small k hk
 rwa [List.getD_eq_getElem?_getD,List.getElem?_eq_getElem hk,Option.getD_some,e] at this
theorem frame_len : ∀ (l : List HF) (r : Fr),(∀ x∈l,x.small)→(∀ x∈r.rest,x.small)→
  (l.foldl frStep r).hosts.length≤r.hosts.length + l.length∧(l.foldl frStep r).ids.length≤r.ids.length + l.length∧(l.foldl frStep r).lens.length≤r.lens.length + l.length∧(l.foldl frStep r).rest.length≤r.rest.length + l.length∧∀ x∈(l.foldl frStep r).rest,x.small
 | [],r,_,h=>⟨Nat.le_refl _,Nat.le_refl _,Nat.le_refl _,Nat.le_refl _,h⟩
 | x :: l,r,hl,h=>by
  have hx:=hl x (List.mem_cons_self ..)
  have step : (frStep r x).hosts.length≤r.hosts.length + 1∧(frStep r x).ids.length≤r.ids.length + 1∧(frStep r x).lens.length≤r.lens.length + 1∧(frStep r x).rest.length≤r.rest.length + 1∧∀ y∈(frStep r x).rest,y.small:=by
   unfold frStep
   split
   ·exact ⟨by simp,by simp,by simp,by simp,h⟩
   ·split
    ·exact ⟨by simp,by simp,by simp,by simp,h⟩
    ·split
     ·exact ⟨by simp,by simp,by simp,by simp,h⟩
     ·split
      ·exact ⟨by simp,by simp,by simp,by simp,h⟩
      ·refine ⟨by simp,by simp,by simp,by simp,fun y hy=>?_⟩
       simp only [List.mem_append,List.mem_singleton] at hy
       rcases hy with hy | rfl
       ·exact h y hy
       ·exact hx
  obtain ⟨s1,s2,s3,s4,s5⟩:=step
  obtain ⟨t1,t2,t3,t4,t5⟩:=frame_len l (frStep r x) (fun y hy=>hl y (List.mem_cons_of_mem _ hy)) s5
  simp only [List.foldl_cons,List.length_cons]
  exact ⟨by omega,by omega,by omega,by omega,t5⟩
theorem leGrS {f f2 : Nat→List SV} {n n2 : Int} {b b2 : Bool} {l : List (List UInt8)} {x : BT} {y : ST} (G : GrS f n b l) (G2 : GrS f2 n2 b2 l) (hx : x.den = b:=by rfl) (hy : y.den = n:=by rfl) : LeV (.sl x y 1 f) (.sl (.a b2) (.a n2) 1 f2):=by
 refine LeV.sl (by rw [hx,G.nl,G2.nl.symm]; rfl) (by rw [hy,G.row.n,G2.row.n.symm]; rfl) fun i hi=>?_
 rw [hy] at hi
 have:=G.row.n
 rw [G.row.f i (by omega),G2.row.f i (by omega)]
theorem leGrH {f f2 : Nat→List SV} {n n2 : Int} {b b2 : Bool} {l : List HF} {x : BT} {y : ST} (G : GrH f n b l) (G2 : GrH f2 n2 b2 l) (hx : x.den = b:=by rfl) (hy : y.den = n:=by rfl) : LeV (.sl x y 2 f) (.sl (.a b2) (.a n2) 2 f2):=by
 refine LeV.sl (by rw [hx,G.nl,G2.nl.symm]; rfl) (by rw [hy,G.row.n,G2.row.n.symm]; rfl) fun i hi=>?_
 rw [hy] at hi
 have:=G.row.n
 rw [G.row.f i (by omega),G2.row.f i (by omega)]
theorem frame_ok : FnOk Tryz.prog gl 54 spFrame:=by
 refine fnOkG (gh:=[(1,[.hold 3 0 9,.hold 3 1 9,.hold 3 2 9,.hold 3 4 69])]) mixed cxOk (tabCons fold_ok tabNil) Tryz.func54 (by kernel_rfl) (by kernel_rfl) ?_
 intro xs ls K h
 unfold spFrame at h
 obtain ⟨l,nl,n,f,rfl,rfl,R,hl,h⟩:=h
 obtain ⟨k,hk⟩ : ∃ k,k = frameF l:=⟨_,rfl⟩
 have hk0 : k = l.foldl frStep ⟨[],[],[],false,[]⟩:=hk
 have hV : ∃ f1 f2 f3 f4 n1 n2 n3 n4 b1 b2 b3 b4,FrV k f1 f2 f3 f4 n1 n2 n3 n4 b1 b2 b3 b4:=by
  obtain ⟨L1,L2,L3,L4,L5⟩:=frame_len l ⟨[],[],[],false,[]⟩ (fun x hx=>R.smallM x hx) (fun x hx=>by cases hx)
  rw [←hk0] at L1 L2 L3 L4 L5
  simp only [List.length_nil] at L1 L2 L3 L4
  exact ⟨_,_,_,_,_,_,_,_,_,_,_,_,⟨RowS.row (by omega),rfl⟩,⟨RowS.row (by omega),rfl⟩,⟨RowS.row (by omega),rfl⟩,⟨RowH.row (by omega) (fun i hi=>L5 _ (by rw [List.getD_eq_getElem?_getD,List.getElem?_eq_getElem hi]; exact List.getElem_mem hi)),rfl⟩⟩
 obtain ⟨f1,f2,f3,f4,n1,n2,n3,n4,b1,b2,b3,b4,hV⟩:=hV
 obtain ⟨J,hJ⟩ : ∃ J,J = frJ l k nl n f:=⟨_,rfl⟩
 refine ⟨_,_,h k f1 f2 f3 f4 n1 n2 n3 n4 b1 b2 b3 b4 hk hV,fun D hD=>?_⟩
 cbv
 clear h
 refine ⟨[2,3,6,7,8],J,⟨rfl,l.length,?_⟩,?_⟩
 ·rw [hJ]
  subst hD
  exact ⟨⟨[],[],[],false,[]⟩,_,_,_,_,_,_,_,_,_,_,_,_,_,0,_,rfl,rfl,rfl,⟨AtR.zero R.len,⟨GrS.nil,GrS.nil,GrS.nil,GrH.nil⟩,hk,Nat.le_refl _⟩⟩
 clear hk hk0
 intro m vs hp hj
 rw [hJ] at hj
 obtain ⟨r,e1,e2,e3,e4,m1,m2,m3,m4,c1,c2,c3,c4,c,i,I,rfl,rfl,hc,V⟩:=hj
 cbv
 refine br hD (fun h=>?_) (fun h=>?_)<;>cbv
 ·have hlt:=V.lie.lt R.n (of_decide_eq_true (p:=I < n) h)
  clear h
  refine ⟨V.lie.inB hD R.n hlt,fun j hj=>?_⟩
  obtain rfl:=V.lie.j hD hj
  clear hj
  have q1:=R.f j hlt
  have hsm:=R.small j hlt
  have hk2:=V.k
  rw [dropR (d:=default) hlt] at hk2
  obtain ⟨x,hx⟩ : ∃ x,x = l.getD j default:=⟨_,rfl⟩
  rw [←hx] at q1 hk2 hsm
  obtain ⟨a,b⟩:=x
  cbv
  rw [q1]
  cbv
  refine ⟨a,rfl,rfl,hsm.1,fun t ht=>?_⟩
  cbv
  have ht : t = foldF a:=ht
  rw [List.foldl_cons,frStep] at hk2
  simp only at hk2
  rw [←ht] at hk2
  clear ht
  refine br hD (fun h=>?_) (fun h=>?_)<;>cbv
  ·have h1 : t = nHost:=eq_of_beq (show (t == nHost) = true from h)
   rw [if_pos h1] at hk2
   clear h h1
   intro g hg
   cbv
   have hg0 : g 0 = [.str b]:=hg.h 0 _ rfl
   clear hg
   have hln : r.hosts.length≤100:=by have:=V.len; have:=V.lie.le; omega
   have hN : m1 = (r.hosts.length : Int):=V.v.g1.row.n
   refine ⟨by subst hD; exact ⟨rfl,by show (m1 + 1) * 16≤_; omega,by show m1 + 1≤_; omega⟩,fun f' n' hm=>?_⟩
   cbv
   have G2 : ∀ nl',nl' = false→GrS f' n' nl' (r.hosts ++ [b]):=fun nl' hb=>V.v.g1.more hg0 (by subst hD; exact hm) (by omega) hb
   clear hm hN
   obtain ⟨y1,y2⟩:=V.lie.step hD hlt
   refine ⟨_,y1,?_⟩
   rw [hJ]
   unfold frJ
   subst hD
   refine ⟨⟨r.hosts ++ [b],r.ids,r.lens,r.coded,r.rest⟩,f',e2,e3,e4,n',m2,m3,m4,_,c2,c3,c4,c,j + 1,_,rfl,rfl,hc,⟨y2,⟨G2 _ (Bool.and_false _),V.v.g2,V.v.g3,V.v.g4⟩,hk2,by have:=V.len; simp only [List.length_append,List.length_cons,List.length_nil]; omega⟩⟩
  have h1 : ¬ t = nHost:=by
   have h : (t == nHost) = false:=h
   intro e; rw [e] at h; simp at h
  rw [if_neg h1] at hk2
  clear h h1
  refine br hD (fun h=>?_) (fun h=>?_)<;>cbv
  ·have h1 : t = nId:=eq_of_beq (show (t == nId) = true from h)
   rw [if_pos h1] at hk2
   clear h h1
   intro g hg
   cbv
   have hg0 : g 0 = [.str b]:=hg.h 0 _ rfl
   clear hg
   have hln : r.ids.length≤100:=by have:=V.len; have:=V.lie.le; omega
   have hN : m2 = (r.ids.length : Int):=V.v.g2.row.n
   refine ⟨by subst hD; exact ⟨rfl,by show (m2 + 1) * 16≤_; omega,by show m2 + 1≤_; omega⟩,fun f' n' hm=>?_⟩
   cbv
   have G2 : ∀ nl',nl' = false→GrS f' n' nl' (r.ids ++ [b]):=fun nl' hb=>V.v.g2.more hg0 (by subst hD; exact hm) (by omega) hb
   clear hm hN
   obtain ⟨y1,y2⟩:=V.lie.step hD hlt
   refine ⟨_,y1,?_⟩
   rw [hJ]
   unfold frJ
   subst hD
   refine ⟨⟨r.hosts,r.ids ++ [b],r.lens,r.coded,r.rest⟩,e1,f',e3,e4,m1,n',m3,m4,c1,_,c3,c4,c,j + 1,_,rfl,rfl,hc,⟨y2,⟨V.v.g1,G2 _ (Bool.and_false _),V.v.g3,V.v.g4⟩,hk2,by have:=V.len; simp only [List.length_append,List.length_cons,List.length_nil]; omega⟩⟩
  have h1 : ¬ t = nId:=by
   have h : (t == nId) = false:=h
   intro e; rw [e] at h; simp at h
  rw [if_neg h1] at hk2
  clear h h1
  refine br hD (fun h=>?_) (fun h=>?_)<;>cbv
  ·have h1 : t = nLen:=eq_of_beq (show (t == nLen) = true from h)
   rw [if_pos h1] at hk2
   clear h h1
   intro g hg
   cbv
   have hg0 : g 0 = [.str b]:=hg.h 0 _ rfl
   clear hg
   have hln : r.lens.length≤100:=by have:=V.len; have:=V.lie.le; omega
   have hN : m3 = (r.lens.length : Int):=V.v.g3.row.n
   refine ⟨by subst hD; exact ⟨rfl,by show (m3 + 1) * 16≤_; omega,by show m3 + 1≤_; omega⟩,fun f' n' hm=>?_⟩
   cbv
   have G2 : ∀ nl',nl' = false→GrS f' n' nl' (r.lens ++ [b]):=fun nl' hb=>V.v.g3.more hg0 (by subst hD; exact hm) (by omega) hb
   clear hm hN
   obtain ⟨y1,y2⟩:=V.lie.step hD hlt
   refine ⟨_,y1,?_⟩
   rw [hJ]
   unfold frJ
   subst hD
   refine ⟨⟨r.hosts,r.ids,r.lens ++ [b],r.coded,r.rest⟩,e1,e2,f',e4,m1,m2,n',m4,c1,c2,_,c4,c,j + 1,_,rfl,rfl,hc,⟨y2,⟨V.v.g1,V.v.g2,G2 _ (Bool.and_false _),V.v.g4⟩,hk2,by have:=V.len; simp only [List.length_append,List.length_cons,List.length_nil]; omega⟩⟩
  have h1 : ¬ t = nLen:=by
   have h : (t == nLen) = false:=h
   intro e; rw [e] at h; simp at h
  rw [if_neg h1] at hk2
  clear h h1
  refine br hD (fun h=>?_) (fun h=>?_)<;>cbv
  ·have h1 : t = nTE:=eq_of_beq (show (t == nTE) = true from h)
   rw [if_pos h1] at hk2
   clear h h1
   obtain ⟨y1,y2⟩:=V.lie.step hD hlt
   refine ⟨_,y1,?_⟩
   rw [hJ]
   unfold frJ
   subst hD
   exact ⟨⟨r.hosts,r.ids,r.lens,true,r.rest⟩,e1,e2,e3,e4,m1,m2,m3,m4,c1,c2,c3,c4,true,j + 1,_,rfl,rfl,rfl,⟨y2,⟨V.v.g1,V.v.g2,V.v.g3,V.v.g4⟩,hk2,by have:=V.len; simp only; omega⟩⟩
  have h1 : ¬ t = nTE:=by
   have h : (t == nTE) = false:=h
   intro e; rw [e] at h; simp at h
  rw [if_neg h1] at hk2
  clear h h1
  intro g hg
  cbv
  have hg0 : g 0 = hfCells ⟨a,b⟩:=hg.h 0 _ rfl
  clear hg
  have hln : r.rest.length≤100:=by have:=V.len; have:=V.lie.le; omega
  have hN : m4 = (r.rest.length : Int):=V.v.g4.row.n
  refine ⟨by subst hD; exact ⟨rfl,by show (m4 + 1) * 32≤_; omega,by show m4 + 1≤_; omega⟩,fun f' n' hm=>?_⟩
  cbv
  have G2 : ∀ nl',nl' = false→GrH f' n' nl' (r.rest ++ [⟨a,b⟩]):=fun nl' hb=>V.v.g4.more hg0 hsm (by subst hD; exact hm) (by omega) hb
  clear hm hN
  obtain ⟨y1,y2⟩:=V.lie.step hD hlt
  refine ⟨_,y1,?_⟩
  rw [hJ]
  unfold frJ
  subst hD
  refine ⟨⟨r.hosts,r.ids,r.lens,r.coded,r.rest ++ [⟨a,b⟩]⟩,e1,e2,e3,f',m1,m2,m3,n',c1,c2,c3,(c4 && false),c,j + 1,_,rfl,rfl,hc,⟨y2,⟨V.v.g1,V.v.g2,V.v.g3,G2 _ (Bool.and_false _)⟩,hk2,by have:=V.len; simp only [List.length_append,List.length_cons,List.length_nil]; omega⟩⟩
 ·have hi:=V.lie.eq R.n (of_decide_eq_false (p:=I < n) h)
  have hk2:=V.k
  rw [hi,List.drop_length] at hk2
  have hk3 : k = r:=hk2
  subst hk3
  subst hD
  refine ⟨LeV.agg (LeL.cons (leGrS V.v.g1 hV.g1) (LeL.cons (leGrS V.v.g2 hV.g2) (LeL.cons (leGrS V.v.g3 hV.g3) (LeL.cons (leBool hc) (LeL.cons (leGrH V.v.g4 hV.g4) LeL.nil))))),LeH.refl _,Nat.le_refl _⟩
end Go.Proofs.YtefelnhpfdcleaaGreatDoor
namespace Go.Proofs.YtefelnhpfdcleaaGreatDoor
open Go Go.Sx
set_option maxRecDepth 100000
set_option maxHeartbeats 16000000
def segW (w : List UInt8) : List UInt8→List (List UInt8)
 | []=>[w]
 | b :: r=>if b = 47 then w :: segW [] r else segW (w ++ [b]) r
structure SgR (s : List UInt8) (k out : List (List UInt8)) (fr i : Nat) (F I n : Int) (b : Bool) (f : Nat→List SV) (m : Nat) : Prop where
 lie : At s i I m
 F : F = fr
 f1 : 1≤fr
 le : fr≤i
 row : GrS f n b out
 ol : out.length≤i
 k : k = out ++ segW ((s.drop fr).take (i - fr)) (s.drop i)
 len : s.length≤100000
end Go.Proofs.YtefelnhpfdcleaaGreatDoor
namespace Go.Proofs.YtefelnhpfdcleaaGreatDoor
open Go Go.Sx
set_option maxRecDepth 100000
set_option maxHeartbeats 16000000
def cst (st : List (List UInt8)) (s : List UInt8) (last : Bool) : List (List UInt8) :=
 if s≠[46]∧s≠[46,46] then st ++ [s] else
 if last then (if s = [46,46]∧st≠[] then st.dropLast else st) ++ [[]] else (if s = [46,46]∧st≠[] then st.dropLast else st)
theorem cstep_cst (σ : CS) (s : List UInt8) (last : Bool) : (cstep σ s last).1 = cst σ.1 s last:=by
 unfold cstep cst
 split
 ·rfl
 ·split
  ·split<;>rfl
  ·split<;>rfl
def foldSeg : List (List UInt8)→List (List UInt8)→List (List UInt8)
 | st,[]=>st
 | st,x :: r=>foldSeg (cst st x r.isEmpty) r
theorem segW_cut (s : List UInt8) : ∀ w,segW w s = if (cutF 47 s).2.2 then (w ++ (cutF 47 s).1) :: segW [] (cutF 47 s).2.1 else [w ++ (cutF 47 s).1]:=by
 induction s with
 | nil=>intro w; simp [segW,cutF]
 | cons b r ih =>
  intro w
  rw [show segW w (b :: r) = if b = 47 then w :: segW [] r else segW (w ++ [b]) r from rfl,show cutF 47 (b :: r) = if b == 47 then ([],r,true) else (b :: (cutF 47 r).1,(cutF 47 r).2) from rfl]
  by_cases hb : b = 47
  ·have hb2 : (b == 47) = true:=by rw [hb]; rfl
   simp only [if_pos hb,if_pos hb2,if_true,List.append_nil]
  ·have hb2 : ¬ (b == 47) = true:=by simpa using hb
   simp only [if_neg hb,if_neg hb2]
   rw [ih]
   split<;>simp only [List.append_assoc,List.singleton_append]
theorem segW_ne (s w : List UInt8) : segW w s≠[]:=by
 rw [segW_cut]; split<;>simp
theorem segFold_seg : ∀ (n : Nat) (σ : CS) (rest : List UInt8),rest.length≤n→(segFold σ rest).1 = foldSeg σ.1 (segW [] rest)
 | n,σ,rest,hn=>by
  rw [segW_cut,segFold]
  by_cases h : (cutF 47 rest).2.2 = true
  ·rw [dif_pos h,if_pos h]
   have h1:=cutF_lt h
   cases n with
   | zero=>omega
   | succ n =>
    rw [segFold_seg n _ _ (by omega),cstep_cst]
    show _ = foldSeg (cst σ.1 ([] ++ (cutF 47 rest).1) (segW [] (cutF 47 rest).2.1).isEmpty) (segW [] (cutF 47 rest).2.1)
    have : (segW [] (cutF 47 rest).2.1).isEmpty = false:=by
     have:=segW_ne (cutF 47 rest).2.1 []
     simpa using this
    rw [this,List.nil_append]
  ·rw [dif_neg h,if_neg h,cstep_cst]
   rfl
theorem cst_ne (st : List (List UInt8)) (s : List UInt8) : cst st s true≠[]:=by
 unfold cst
 split
 ·simp
 ·simp
theorem foldSeg_ne : ∀ (l st : List (List UInt8)),l≠[]→foldSeg st l≠[]
 | [],_,h=>absurd rfl h
 | [x],st,_=>cst_ne st x
 | x :: y :: r,st,_=>by
  rw [foldSeg]
  exact foldSeg_ne (y :: r) _ (by simp)
theorem flat_join : ∀ {l : List (List UInt8)},l≠[]→l.flatMap (fun x=>47 :: x) = [47] ++ Lib.join l [47]
 | [],h=>absurd rfl h
 | x :: l,_=>by
  rw [Lib.join_cons]
  have key : ∀ m : List (List UInt8),m.flatMap (fun x=>47 :: x) = Lib.joinTail [47] m:=by
   intro m
   induction m with
   | nil=>rfl
   | cons y m ih =>
    have : Lib.joinTail [47] (y :: m) = [47] ++ y ++ Lib.joinTail [47] m:=by simp [Lib.joinTail]
    rw [this,←ih]
    simp
  rw [←key]
  simp
theorem cleanF_ref {s p q : List UInt8} {h : Bool} (hs : (p,q,h,(0 : Int)) = splitF s) : cleanF s = ((foldSeg [] (segW [] ((normL p 0).drop 1))).flatMap (fun x=>47 :: x) ++ (if h then [63] ++ normL q 0 else []),0):=by
 unfold cleanF
 rw [←hs,if_neg (by simp),segFold_seg _ _ _ (Nat.le_refl _),flat_join (foldSeg_ne _ _ (segW_ne _ _))]
end Go.Proofs.YtefelnhpfdcleaaGreatDoor
namespace Go.Proofs.YtefelnhpfdcleaaGreatDoor
open Go Go.Sx
set_option maxRecDepth 100000
set_option maxHeartbeats 16000000
def anyOwn (l : List HF) : Bool:=l.any fun x=>ownF (foldF x.name)
def chkFieldsF (r : Rq) : List HF×Int :=
 if checkF r.fields≠0 then ([],checkF r.fields) else if anyOwn r.fields then ([],8) else
 if (writtenF r).2≠0 then ([],(writtenF r).2) else ((writtenF r).1,checkF (writtenF r).1)
def spChk : FSpec:=fun _ xs ls K=>∃ (r : Rq) (nl : Bool) (n : Int) (f : Nat→List SV),xs = [.agg [.int .i64 (.a r.id),.str r.method,.str r.target,.str r.host,.sl (.a nl) (.a n) 2 f,.str r.body]]∧ls = []∧RqOk r nl n f∧
 ∀ l e nb n' g,(l,e) = chkFieldsF r→RowH g n' l→nb = l.isEmpty→K (.tup [.sl (.a nb) (.a n') 2 g,.int .i64 (.a e)]) []
structure OwJ (l : List HF) (k : Bool) (i : Nat) (I : Int) (m : Nat) : Prop where
 lie : AtR l i I m
 k : k = anyOwn (l.drop i)
theorem writtenF_ne (r : Rq) (h : (writtenF r).2 = 0) : (writtenF r).1.isEmpty = false:=by
 unfold writtenF at h ⊢
 split
 ·rename_i h1; rw [if_pos h1] at h; exact absurd h h1
 ·rfl
theorem itoaS (n : Int) (h1 : -9223372036854775808≤n) (h2 : n≤9223372036854775807) (a : List UInt8) (ha : a.length≤100) : HF.small ⟨a,Lib.itoa n⟩:=⟨by show a.length≤_; omega,itoa_len h1 h2⟩
theorem writtenF_row {r : Rq} {nl : Bool} {n : Int} {f : Nat→List SV} (R : RqOk r nl n f) : ∃ g n',RowH g n' (writtenF r).1:=by
 unfold writtenF
 split
 ·exact rowOf [] (by simp) (fun i hi=>absurd hi (by simp))
 ·rename_i h1
  have h1 : (stripF r.fields).2 = 0:=by simpa using h1
  have h2:=stripF_len _ h1
  refine rowOf _ ?_ (small_append (small_append (fun i hi=>?_) (stripF_small R.row.small)) ?_)
  ·simp only [List.length_append]
   split<;>simp<;>omega
  ·match i,hi with
   | 0,_=>exact ⟨by show sHost.length≤_; decide,R.host⟩
   | 1,_=>exact itoaS _ R.id1 R.id2 _ (by decide)
  ·split
   ·intro i hi
    have : i = 0:=by simpa using hi
    subst this; exact itoaS _ (by omega) (by have:=R.body; omega) _ (by decide)
   ·intro i hi; simp at hi
theorem nilRow : RowH (fun _=>[]) 0 []:=⟨rfl,fun i hi=>absurd hi (by simp),by simp,fun i hi=>absurd hi (by simp)⟩
def owJ (r : Rq) (k : Bool) (nl : Bool) (n : Int) (f : Nat→List SV) (m : Nat) (vs : List (Option SV)) (hp : List Hl) : Prop :=
 ∃ (i : Nat) (I : Int),vs = [some (.ptr 0 0),some (.sl (.a nl) (.a n) 2 f),some (.int .i64 (.a n)),some (.int .i64 (.a I))]∧hp = [.blk 31 [.int .i64 (.a r.id),.str r.method,.str r.target,.str r.host,.sl (.a nl) (.a n) 2 f,.str r.body]]∧OwJ r.fields k i I m
theorem chk_ok : FnOk Tryz.prog gl 84 spChk:=by
 refine fnOk (gh:=[]) mixed cxOk (tabCons check_ok (tabCons isOwn_ok (tabCons written_ok tabNil))) Tryz.func84 (by kernel_rfl) (by kernel_rfl) ?_
 intro xs ls K h
 unfold spChk at h
 obtain ⟨r,nl,n,f,rfl,rfl,R,h⟩:=h
 obtain ⟨k,hk⟩ : ∃ k,k = chkFieldsF r:=⟨_,rfl⟩
 obtain ⟨kl,ke⟩:=k
 have hg : ∃ g n',RowH g n' kl:=by
  unfold chkFieldsF at hk
  split at hk
  ·simp only [Prod.mk.injEq] at hk; rw [hk.1]; exact ⟨_,_,nilRow⟩
  ·split at hk
   ·simp only [Prod.mk.injEq] at hk; rw [hk.1]; exact ⟨_,_,nilRow⟩
   ·split at hk
    ·simp only [Prod.mk.injEq] at hk; rw [hk.1]; exact ⟨_,_,nilRow⟩
    ·simp only [Prod.mk.injEq] at hk; rw [hk.1]; exact writtenF_row R
 obtain ⟨g,n2,R2⟩:=hg
 obtain ⟨nb,hnb⟩ : ∃ nb,nb = kl.isEmpty:=⟨_,rfl⟩
 refine ⟨_,_,h kl ke nb n2 g hk R2 hnb,fun D hD=>?_⟩
 clear h
 unfold chkFieldsF at hk
 obtain ⟨wl,hwl⟩ : ∃ w,w = writtenF r:=⟨_,rfl⟩
 have hwn:=writtenF_ne r
 rw [←hwl] at hk hwn
 obtain ⟨wl,we⟩:=wl
 simp only at hk hwn
 obtain ⟨J,hJ⟩ : ∃ J,J = owJ r (anyOwn r.fields) nl n f:=⟨_,rfl⟩
 obtain ⟨ao,hao⟩ : ∃ a,a = anyOwn r.fields:=⟨_,rfl⟩
 rw [←hao] at hk hJ
 obtain ⟨id,me,ta,ho,fs,bo⟩:=r
 simp only at R hJ hao hk
 cbv
 refine ⟨fs,_,_,f,rfl,rfl,by subst hD; exact R.row,fun e he=>?_⟩
 cbv
 rw [←he] at hk
 clear he
 refine br hD (fun h=>?_) (fun h=>?_)<;>cbv
 ·have h1 : e≠0:=by simpa using h
  rw [if_pos h1] at hk
  simp only [Prod.mk.injEq] at hk
  obtain ⟨hq1,hq2⟩:=hk
  subst hq1 hq2
  exact finSl hD (by rw [hnb]; rfl) nilRow rfl rfl R2
 have h1 : e = 0:=by simpa using h
 rw [if_neg (by simp [h1])] at hk
 clear h h1
 refine ⟨[1,16,17,18],J,⟨rfl,fs.length,?_⟩,?_⟩
 ·rw [hJ]
  subst hD
  exact ⟨0,0,rfl,rfl,AtR.zero R.row.len,hao⟩
 clear hao
 intro m vs hp hj
 rw [hJ] at hj
 obtain ⟨i,I,rfl,rfl,V⟩:=hj
 simp only at V
 cbv
 refine br hD (fun h=>?_) (fun h=>?_)<;>cbv
 ·have hlt:=V.lie.lt R.row.n (of_decide_eq_true (p:=I < n) h)
  clear h
  refine ⟨V.lie.inB hD R.row.n hlt,fun j hj=>?_⟩
  cbv
  obtain rfl:=V.lie.j hD hj
  clear hj
  have e1:=R.row.f j hlt
  have hsm:=R.row.small j hlt
  have hk2:=V.k
  rw [dropR (d:=default) hlt] at hk2
  obtain ⟨x,hx⟩ : ∃ x,x = fs.getD j default:=⟨_,rfl⟩
  rw [←hx] at e1 hk2 hsm
  obtain ⟨a,b⟩:=x
  rw [e1]
  cbv
  refine ⟨a,rfl,rfl,hsm.1,fun t ht=>?_⟩
  cbv
  have ht : t = ownF (foldF a):=ht
  have hk3 : ao = (t || anyOwn (fs.drop (j + 1))):=by rw [hk2,ht]; rfl
  clear ht hk2
  refine br hD (fun h=>?_) (fun h=>?_)<;>cbv
  ·have h1 : t = true:=h
   have hk4 : ao = true:=by rw [hk3,h1]; rfl
   rw [if_pos hk4] at hk
   simp only [Prod.mk.injEq] at hk
   obtain ⟨hq1,hq2⟩:=hk
   subst hq1 hq2
   exact finSl hD (by rw [hnb]; rfl) nilRow rfl rfl R2
  ·have h1 : t = false:=h
   obtain ⟨g1,g2⟩:=V.lie.step hD hlt
   refine ⟨_,g1,?_⟩
   rw [hJ]
   unfold owJ
   subst hD
   exact ⟨j + 1,_,rfl,rfl,g2,by rw [hk3,h1]; rfl⟩
 ·have hi:=V.lie.eq R.row.n (of_decide_eq_false (p:=I < n) h)
  have hk2:=V.k
  rw [hi,List.drop_length] at hk2
  have hk3 : ao = false:=hk2
  rw [if_neg (by rw [hk3]; simp)] at hk
  clear h hk2
  refine ⟨⟨id,me,ta,ho,fs,bo⟩,nl,n,f,by subst hD; rfl,rfl,R,fun l e2 nb2 n3 g3 hw R3 hnb2=>?_⟩
  cbv
  rw [←hwl] at hw
  simp only [Prod.mk.injEq] at hw
  obtain ⟨hq1,hq2⟩:=hw
  subst hq1 hq2
  refine br hD (fun h=>?_) (fun h=>?_)<;>cbv
  ·have h1 : e2≠0:=by simpa using h
   rw [if_pos h1] at hk
   simp only [Prod.mk.injEq] at hk
   obtain ⟨hq1,hq2⟩:=hk
   subst hq1 hq2
   exact finSl hD (by rw [hnb]; rfl) nilRow rfl rfl R2
  ·have h1 : e2 = 0:=by simpa using h
   rw [if_neg (by simp [h1])] at hk
   have hne:=hwn h1
   refine ⟨l,_,_,g3,rfl,rfl,by subst hD; exact R3,fun c hc=>?_⟩
   cbv
   rw [←hc] at hk
   clear hc
   simp only [Prod.mk.injEq] at hk
   obtain ⟨hq1,hq2⟩:=hk
   subst hq1 hq2
   refine finSl hD ?_ R3 rfl rfl R2
   rw [hnb,hne,hnb2,h1]; rfl
end Go.Proofs.YtefelnhpfdcleaaGreatDoor
namespace Go.Proofs.YtefelnhpfdcleaaGreatDoor
open Go Go.Sx
set_option maxRecDepth 100000
set_option maxHeartbeats 16000000
def examineF (r : Rq) : List UInt8×List HF×Int :=
 if r.id < 1∨1000000000 < r.id then (sId,[],7) else if !isMethodF r.method then (sMethod,[],6) else if r.method = sConnect then (sMethod,[],9) else
 if (orgF r.target).2≠0 then (sTarget,[],(orgF r.target).2) else if !hostF r.host then (sHostP,[],6) else
 if (chkFieldsF r).2≠0 then (sFields,[],(chkFieldsF r).2) else if 65536 < r.body.length then (sBody,[],3) else if (r.body != [] && bareF r.method) = true then (sBody,[],2) else ([],(chkFieldsF r).1,0)
def spExam : FSpec:=fun _ xs ls K=>∃ (r : Rq) (nl : Bool) (n : Int) (f : Nat→List SV),xs = [.agg [.int .i64 (.a r.id),.str r.method,.str r.target,.str r.host,.sl (.a nl) (.a n) 2 f,.str r.body]]∧ls = []∧RqOk r nl n f∧
 ∀ p l e nb n' g,(p,l,e) = examineF r→RowH g n' l→nb = l.isEmpty→K (.tup [.str p,.sl (.a nb) (.a n') 2 g,.int .i64 (.a e)]) []
theorem finEx {D : Dn} (hD : D = dn) {p p' : List UInt8} {nb : Bool} {n n2 e : Int} {g g2 : Nat→List SV} {x : BT} {y z : ST} {l : List HF} (hp : p' = p) (h1 : x.den = nb) (R : RowH g2 n2 l) (h2 : y.den = n2) (h3 : z.den = e) (R2 : RowH g n l) :
  Fin (.tup [.str p',.sl (.a (D.b x)) (.a (D.i y)) 2 g2,.int .i64 (.a (D.i z))]) (.tup [.str p,.sl (.a nb) (.a n) 2 g,.int .i64 (.a e)]) [] []:=by
 subst hD h1 h3 hp
 have hn : n2 = n:=by rw [R.n,R2.n]
 refine finV (LeV.tup (LeL.cons (LeV.refl _) (LeL.cons (LeV.sl rfl (by show y.den = n; rw [h2,hn]) fun i hi=>?_) (LeL.refl _))))
 have hi : (i : Int) < y.den:=hi
 have:=R.n
 rw [R.f i (by omega),R2.f i (by omega)]
theorem chkFieldsF_row {r : Rq} {nl : Bool} {n : Int} {f : Nat→List SV} (R : RqOk r nl n f) : ∃ g n',RowH g n' (chkFieldsF r).1:=by
 unfold chkFieldsF
 split
 ·exact ⟨_,_,nilRow⟩
 ·split
  ·exact ⟨_,_,nilRow⟩
  ·split
   ·exact ⟨_,_,nilRow⟩
   ·exact writtenF_row R
theorem exam_ok : FnOk Tryz.prog gl 43 spExam:=by
 refine fnOk (gh:=[]) mixed cxOk (tabCons isMethod_ok (tabCons origin_ok (tabCons isHost_ok (tabCons chk_ok (tabCons isBare_ok tabNil))))) Tryz.func43 (by kernel_rfl) (by kernel_rfl) ?_
 intro xs ls K h
 unfold spExam at h
 obtain ⟨r,nl,n,f,rfl,rfl,R,h⟩:=h
 obtain ⟨k,hk⟩ : ∃ k,k = examineF r:=⟨_,rfl⟩
 obtain ⟨kp,kl,ke⟩:=k
 have hg : ∃ g n',RowH g n' kl:=by
  unfold examineF at hk
  repeat' split at hk
  all_goals (simp only [Prod.mk.injEq] at hk; rw [hk.2.1])
  all_goals first | exact ⟨_,_,nilRow⟩ | exact chkFieldsF_row R
 obtain ⟨g,n2,R2⟩:=hg
 obtain ⟨nb,hnb⟩ : ∃ nb,nb = kl.isEmpty:=⟨_,rfl⟩
 refine ⟨_,_,h kp kl ke nb n2 g hk R2 hnb,fun D hD=>?_⟩
 clear h
 unfold examineF at hk
 obtain ⟨ck,hck⟩ : ∃ w,w = chkFieldsF r:=⟨_,rfl⟩
 rw [←hck] at hk
 obtain ⟨cl,ce⟩:=ck
 obtain ⟨id,me,ta,ho,fs,bo⟩:=r
 have Rme:=R.method
 have Rta:=R.target
 have Rho:=R.host
 simp only at hk Rme Rta Rho
 cbv
 refine br hD (fun h=>?_) (fun h=>?_)<;>cbv
 ·have h1 : id < 1∨1000000000 < id:=by
   have h : (decide (id < 1) || decide (1000000000 < id)) = true:=h
   simpa using h
  rw [if_pos h1] at hk
  simp only [Prod.mk.injEq] at hk
  obtain ⟨hq1,hq2,hq3⟩:=hk
  subst hq1 hq2 hq3
  exact finEx hD rfl (by rw [hnb]; rfl) nilRow rfl rfl R2
 have h1 : ¬ (id < 1∨1000000000 < id):=by
  have h : (decide (id < 1) || decide (1000000000 < id)) = false:=h
  simp only [Bool.or_eq_false_iff,decide_eq_false_iff_not] at h
  omega
 rw [if_neg h1] at hk
 clear h h1
 refine ⟨me,rfl,rfl,Rme,fun im him=>?_⟩
 cbv
 rw [←him] at hk
 clear him
 refine br hD (fun h=>?_) (fun h=>?_)<;>cbv
 ·have h1 : (!im) = true:=h
  rw [if_pos h1] at hk
  simp only [Prod.mk.injEq] at hk
  obtain ⟨hq1,hq2,hq3⟩:=hk
  subst hq1 hq2 hq3
  exact finEx hD rfl (by rw [hnb]; rfl) nilRow rfl rfl R2
 have h1 : (!im) = false:=h
 rw [if_neg (by rw [h1]; simp)] at hk
 clear h h1
 refine br hD (fun h=>?_) (fun h=>?_)<;>cbv
 ·have h1 : me = sConnect:=eq_of_beq (show (me == sConnect) = true from h)
  rw [if_pos h1] at hk
  simp only [Prod.mk.injEq] at hk
  obtain ⟨hq1,hq2,hq3⟩:=hk
  subst hq1 hq2 hq3
  exact finEx hD rfl (by rw [hnb]; rfl) nilRow rfl rfl R2
 have h1 : ¬ me = sConnect:=by
  have h : (me == sConnect) = false:=h
  intro e; rw [e] at h; simp at h
 rw [if_neg h1] at hk
 clear h h1
 refine ⟨ta,rfl,rfl,Rta,fun oi oe ho2=>?_⟩
 cbv
 rw [←ho2] at hk
 simp only at hk
 clear ho2
 refine br hD (fun h=>?_) (fun h=>?_)<;>cbv
 ·have h1 : oe≠0:=by simpa using h
  rw [if_pos h1] at hk
  simp only [Prod.mk.injEq] at hk
  obtain ⟨hq1,hq2,hq3⟩:=hk
  subst hq1 hq2 hq3
  exact finEx hD rfl (by rw [hnb]; rfl) nilRow rfl rfl R2
 have h1 : ¬ oe≠0:=by simpa using h
 rw [if_neg h1] at hk
 clear h h1
 refine ⟨ho,rfl,rfl,Rho,fun hh hhh=>?_⟩
 cbv
 rw [←hhh] at hk
 clear hhh
 refine br hD (fun h=>?_) (fun h=>?_)<;>cbv
 ·have h1 : (!hh) = true:=h
  rw [if_pos h1] at hk
  simp only [Prod.mk.injEq] at hk
  obtain ⟨hq1,hq2,hq3⟩:=hk
  subst hq1 hq2 hq3
  exact finEx hD rfl (by rw [hnb]; rfl) nilRow rfl rfl R2
 have h1 : (!hh) = false:=h
 rw [if_neg (by rw [h1]; simp)] at hk
 clear h h1
 refine ⟨⟨id,me,ta,ho,fs,bo⟩,nl,n,f,by subst hD; rfl,rfl,R,fun l e nb2 n3 g3 hc R3 hnb2=>?_⟩
 cbv
 rw [←hck] at hc
 simp only [Prod.mk.injEq] at hc
 obtain ⟨hq1,hq2⟩:=hc
 subst hq1 hq2
 refine br hD (fun h=>?_) (fun h=>?_)<;>cbv
 ·have h1 : e≠0:=by simpa using h
  rw [if_pos h1] at hk
  simp only [Prod.mk.injEq] at hk
  obtain ⟨hq1,hq2,hq3⟩:=hk
  subst hq1 hq2 hq3
  exact finEx hD rfl (by rw [hnb]; rfl) nilRow rfl rfl R2
 have h1 : ¬ e≠0:=by simpa using h
 rw [if_neg h1] at hk
 clear h h1
 refine br hD (fun h=>?_) (fun h=>?_)<;>cbv
 ·have h1 : 65536 < bo.length:=by have h : decide ((65536 : Int) < (bo.length : Int)) = true:=h; simp only [decide_eq_true_eq] at h; omega
  rw [if_pos h1] at hk
  simp only [Prod.mk.injEq] at hk
  obtain ⟨hq1,hq2,hq3⟩:=hk
  subst hq1 hq2 hq3
  exact finEx hD rfl (by rw [hnb]; rfl) nilRow rfl rfl R2
 have h1 : ¬ 65536 < bo.length:=by have h : decide ((65536 : Int) < (bo.length : Int)) = false:=h; simp only [decide_eq_false_iff_not] at h; omega
 rw [if_neg h1] at hk
 clear h h1
 refine ⟨me,rfl,rfl,Rme,fun b hb=>?_⟩
 cbv
 rw [←hb] at hk
 clear hb
 refine br hD (fun h=>?_) (fun h=>?_)<;>cbv
 ·have h1 : (bo != [] && b) = true:=h
  rw [if_pos h1] at hk
  simp only [Prod.mk.injEq] at hk
  obtain ⟨hq1,hq2,hq3⟩:=hk
  subst hq1 hq2 hq3
  exact finEx hD rfl (by rw [hnb]; rfl) nilRow rfl rfl R2
 ·have h1 : ¬ (bo != [] && b) = true:=by
   have h : (bo != [] && b) = false:=h
   rw [h]; simp
  rw [if_neg h1] at hk
  simp only [Prod.mk.injEq] at hk
  obtain ⟨hq1,hq2,hq3⟩:=hk
  subst hq1 hq2 hq3
  exact finEx hD rfl (by rw [hnb,←hnb2]; rfl) R3 rfl rfl R2
def checkRF (r : Rq) : List UInt8×Int:=((examineF r).1,(examineF r).2.2)
def spCheckR : FSpec:=fun _ xs ls K=>∃ (r : Rq) (nl : Bool) (n : Int) (f : Nat→List SV),xs = [.agg [.int .i64 (.a r.id),.str r.method,.str r.target,.str r.host,.sl (.a nl) (.a n) 2 f,.str r.body]]∧ls = []∧RqOk r nl n f∧
 ∀ p e,(p,e) = checkRF r→K (.tup [.str p,.int .i64 (.a e)]) []
theorem checkR_ok : FnOk Tryz.prog gl 27 spCheckR:=by
 refine fnOk (gh:=[]) mixed cxOk (tabCons exam_ok tabNil) Tryz.func27 (by kernel_rfl) (by kernel_rfl) ?_
 intro xs ls K h
 unfold spCheckR at h
 obtain ⟨r,nl,n,f,rfl,rfl,R,h⟩:=h
 obtain ⟨k,hk⟩ : ∃ k,k = checkRF r:=⟨_,rfl⟩
 obtain ⟨kp,ke⟩:=k
 refine ⟨_,_,h kp ke hk,fun D hD=>?_⟩
 clear h
 unfold checkRF at hk
 obtain ⟨ck,hck⟩ : ∃ w,w = examineF r:=⟨_,rfl⟩
 rw [←hck] at hk
 obtain ⟨cp,cl,ce⟩:=ck
 obtain ⟨id,me,ta,ho,fs,bo⟩:=r
 simp only [Prod.mk.injEq] at hk
 obtain ⟨hq1,hq2⟩:=hk
 subst hq1 hq2
 cbv
 refine ⟨⟨id,me,ta,ho,fs,bo⟩,nl,n,f,by subst hD; rfl,rfl,R,fun p l e nb2 n3 g3 hc R3 hnb2=>?_⟩
 cbv
 rw [←hck] at hc
 simp only [Prod.mk.injEq] at hc
 obtain ⟨hq1,hq2,hq3⟩:=hc
 subst hq1 hq2 hq3
 subst hD
 exact fin_eq rfl rfl
end Go.Proofs.YtefelnhpfdcleaaGreatDoor
namespace Go.Proofs.YtefelnhpfdcleaaGreatDoor
open Go Go.RowKit Go.Sx
set_option maxHeartbeats 2000000
set_option maxRecDepth 100000
theorem bSize : (Tryz.prog.info? 104).map (·.size) = some 2:=by kernel_rfl
theorem bLies : liesAt Tryz.prog Tryz.prog.depth 104 (2 / Tryz.prog.cellsOf 104) 0 104 1 = true:=by kernel_rfl
theorem bUnd : Tryz.prog.underlying 102 = some (.pointer 104):=by kernel_rfl
theorem bUnsafe : Tryz.prog.underlying 141 = some .unsafePointer:=by kernel_rfl
theorem bByte : (Tryz.prog.info? 5).map (fun i=>(i.zero,i.size,i.bytes)) = some (some (.int .u8 0),1,1):=by kernel_rfl
theorem bSlice : Tryz.prog.underlying 36 = some (.slice 5):=by kernel_rfl
theorem copyCheck_used (b : Nat) (w : World) (h0 : w.cell? ⟨b,0,none⟩ = some (.pointer (some ⟨b,0,none⟩))) :
  Calls Tryz.prog 108 #[.pointer (some ⟨b,0,none⟩)] w fun e w'=>e = .returned (.tuple #[])∧w' = w:=by
 obtain ⟨j,hj,_⟩:=Option.map_eq_some_iff.1 bSize
 go_enter Tryz.func108,Tryz.ntmps108
 go_wp2
 rw [Lib.run_neq_ptr_same w _ bUnd hj]
 go_wp2
 go_end0
 exact ⟨rfl,rfl⟩
theorem copyCheck_fresh (b : Nat) (w : World) (h0 : w.cell? ⟨b,0,none⟩ = some (.pointer none)) (hsh : w.shape? b = some (104,2)) (hfz : w.frozen? ⟨b,0,none⟩ = false) :
  Calls Tryz.prog 108 #[.pointer (some ⟨b,0,none⟩)] w fun e w'=>e = .returned (.tuple #[])∧w' = w.setCell ⟨b,0,none⟩ (.pointer (some ⟨b,0,none⟩)):=by
 obtain ⟨j,hj,hjs⟩:=Option.map_eq_some_iff.1 bSize
 go_enter Tryz.func108,Tryz.ntmps108
 go_wp2
 rw [Lib.run_to_unsafe w ⟨b,0,none⟩ bUnd bUnsafe hj (by rw [hjs]; decide) hsh (Nat.zero_lt_succ 1)]
 simp only [Result.andThen]
 rw [Oper.upon_value]
 go_wp2
 rw [run_callFunc_extern Tryz.func136 (by kernel_rfl) (by kernel_rfl) (by kernel_rfl) (e:=Extern.AbiNoEscape.same) (by kernel_rfl)]
 rw [Lib.run_noEscape]
 simp only [Result.andThen]
 rw [Oper.upon_value]
 go_wp2
 rw [Lib.run_from_unsafe w ⟨b,0,none⟩ bUnsafe bUnd hj hsh bLies]
 simp only [Result.andThen]
 rw [Oper.upon_value]
 go_wp2
 go_end0
 exact ⟨rfl,rfl⟩
structure BKept (b : Nat) (v v' : Value) (w w' : World) : Prop where
 os : w'.os = w.os
 tape : w'.tape = w.tape
 output : w'.output = w.output
 size : w.heap.size≤w'.heap.size
 block : ∀ k,k < w.heap.size→k≠b→some k≠v.ownBlock→w'.heap[k]? = w.heap[k]?
 new : ∀ k,v'.ownBlock = some k→v.ownBlock = some k∨w.heap.size≤k
theorem copyCheck_run (b : Nat) (p v : Value) (s : List UInt8) (w : World) (hbk : w.heap[b]? = some (.cells #[p,v] 104 (0,0))) (hp : p = .pointer none∨p = .pointer (some ⟨b,0,none⟩)) (hown : w.ownsRow 0 5 1 v s.length (Lib.byteCells s)) (hne : v.ownBlock≠some b) :
  Calls Tryz.prog 108 #[.pointer (some ⟨b,0,none⟩)] w fun e w'=>e = .returned (.tuple #[])∧w'.heap[b]? = some (.cells #[.pointer (some ⟨b,0,none⟩),v] 104 (0,0))∧w'.ownsRow 0 5 1 v s.length (Lib.byteCells s)∧w'.os = w.os∧w'.tape = w.tape∧w'.output = w.output∧w'.heap.size = w.heap.size∧∀ k,k≠b→w'.heap[k]? = w.heap[k]?:=by
 rcases hp with rfl | rfl
 ·have hlt : b < w.heap.size:=by
   rcases Nat.lt_or_ge b w.heap.size with h' | h'
   ·exact h'
   ·simp [Array.getElem?_eq_none h'] at hbk
  refine (copyCheck_fresh b w (by rw [Lib.cell_of_heap hbk]; rfl) (by simp [World.shape?,hbk]) (Lib.frozen_of_heap hbk 0)).mono ?_
  rintro e w' ⟨rfl,rfl⟩
  refine ⟨rfl,by simp [World.setCell,Array.getElem?_modify,hbk],?_,rfl,rfl,rfl,by simp [World.setCell],fun k hk=>RowKit.Below.heap_setCell _ _ _ _ (fun e=>hk (by simp [e]))⟩
  refine hown.kept (row:=some b) ⟨rfl,rfl,rfl,by simp [World.setCell],fun k _ hk=>RowKit.Below.heap_setCell _ _ _ _ (fun e=>hk (by simp [e]))⟩ (Or.inr hne)
 ·refine (copyCheck_used b w (by rw [Lib.cell_of_heap hbk]; rfl)).mono ?_
  rintro e w' ⟨rfl,rfl⟩
  exact ⟨rfl,hbk,hown,rfl,rfl,rfl,rfl,fun _ _=>rfl⟩
end Go.Proofs.YtefelnhpfdcleaaGreatDoor
namespace Go.Proofs.YtefelnhpfdcleaaGreatDoor
open Go Go.RowKit Go.Sx
set_option maxHeartbeats 2000000
set_option maxRecDepth 100000
structure BldAt (w : World) (b : Nat) (p v : Value) (s : List UInt8) : Prop where
 pp : p = .pointer none∨p = .pointer (some ⟨b,0,none⟩)
 at_ : w.heap[b]? = some (.cells #[p,v] 104 (0,0))
 own : w.ownsRow 0 5 1 v s.length (Lib.byteCells s)
 ne : v.ownBlock≠some b
def bldPost (w' : World) (b : Nat) (v' : Value) : Hl→Prop
 | .bld T e s'=>T = 104∧e = 5∧∃ p',BldAt w' b p' v' s'
 | .gone=>v'.ownBlock = none
 | _=>False
theorem callsTo_bld {gl : List (Nat×SV)} {f : FuncId} {as1 : List SV} {s : List UInt8} {r : SV} {hl : Hl}
  (run : ∀ (E : Env) (b : Nat) (p v : Value) (w : World) (vals : List Value),BldAt w b p v s→RelL E w as1 vals→Calls Tryz.prog f ⟨.pointer (some ⟨b,0,none⟩) :: vals⟩ w fun e w'=>∃ ev v',e = .returned ev∧(∀ E,Rel E w' r ev)∧BKept b v v' w w'∧bldPost w' b v' hl) :
  CallsTo Tryz.prog gl f (.ptr 0 0 :: as1) [.bld 104 5 s] r [hl]:=by
 intro B E w vals hw0 hI0 hdom hb hg hh hr
 have h0:=hh 0
 obtain ⟨b,p,v,h1,h2,h3,h4,h5,h6,h7,h8⟩:=h0
 match vals,hr with
 | u :: vals,hr =>
  obtain ⟨b',hb',hu⟩:=(hr.2 0 _ u rfl rfl).ptr_inv
  obtain rfl : b = b':=Option.some.inj (h1.symm.trans hb')
  subst hu
  refine (run E b p v w vals ⟨h3,h4,h5,h6⟩ ⟨by have:=hr.1; simpa using this,fun i s' u' a c=>hr.2 (i + 1) s' u' a c⟩).mono ?_
  rintro e w' ⟨ev,v',rfl,hev,K,hpost⟩
  let E' : Env:=⟨E.β,E.τ,fun k=>if v'.ownBlock = some k then some 0 else E.O k,E.κ,E.ζ,E.I⟩
  have hX : ∀ k,E.O k = some 0→B.w0.heap.size≤k∨B.X k:=fun k hk=>(hb.Obd k 0 hk).2
  have hkeep : ∀ k,k < w.heap.size→(∀ j,E.O k = some j→j≠0)→w'.heap[k]? = w.heap[k]?:=by
   intro k hk hn
   refine K.block k hk (fun e=>?_) (fun e=>?_)
   ·subst e; exact hn 0 h2 rfl
   ·exact hn 0 (h8 k e.symm).1 rfl
  have hcell : ∀ b2 o,E.I b2 o→w'.cell? ⟨b2,o,none⟩ = w.cell? ⟨b2,o,none⟩:=by
   intro b2 o hi
   simp only [World.cell?]
   rw [K.block b2 (hb.Ibd b2 o hi) (fun e=>by subst e; exact h7 o hi) (fun e=>(h8 b2 e.symm).2 o hi)]
  have hown' : ∀ k,v'.ownBlock = some k→B.w0.heap.size≤k∨B.X k:=by
   intro k hk
   rcases K.new k hk with h | h
   ·exact hX k (h8 k h).1
   ·left; have:=hb.size; omega
  refine ⟨ev,E',rfl,⟨K.os.trans hb.os,K.tape.trans hb.tape,K.output.trans hb.output,Nat.le_trans hb.size K.size,fun b2 hlt hnX=>?_,fun b2 o hi=>?_,fun b2 o hi=>Nat.lt_of_lt_of_le (hb.Ibd b2 o hi) K.size,hb.Inew,fun b2 j hO=>?_,⟨hb.β0.β,hb.β0.τ,hb.β0.ζ⟩⟩,fun k hk=>?_,hev E'⟩
  ·rw [hkeep b2 (by have:=hb.size; omega) (fun j hj e=>?_)]
   ·exact hb.old b2 hlt hnX
   ·subst e
    rcases hX b2 hj with h | h
    ·omega
    ·exact hnX h
  ·obtain ⟨i1,i2⟩:=hb.I0 b2 o hi
   exact ⟨i1,by rw [hcell b2 o i1]; exact i2⟩
  ·have hO : (if v'.ownBlock = some b2 then some 0 else E.O b2) = some j:=hO
   split at hO
   ·rename_i hv
    refine ⟨?_,hown' b2 hv⟩
    cases hl with
    | bld T e s' =>
     obtain ⟨_,_,p',hA⟩:=hpost
     exact (hA.own.lt b2 hv).2
    | gone =>
     have hn : v'.ownBlock = none:=hpost
     rw [hn] at hv; cases hv
    | _=>exact hpost.elim
   ·obtain ⟨o1,o2⟩:=hb.Obd b2 j hO
    exact ⟨Nat.lt_of_lt_of_le o1 K.size,o2⟩
  ·obtain rfl : k = 0:=by simpa using hk
   cases hl with
   | bld T e s' =>
    obtain ⟨rfl,rfl,p',hA⟩:=hpost
    have hI : ∀ g,v'.ownBlock = some g→∀ o,¬ E.I g o:=by
     intro g hg o hi
     rcases K.new g hg with h | h
     ·exact (h8 g h).2 o hi
     ·have:=hb.Ibd g o hi; omega
    refine ⟨b,p',v',h1,?_,hA.pp,hA.at_,hA.own,hA.ne,h7,fun g hg=>⟨?_,hI g hg⟩⟩
    ·show (if v'.ownBlock = some b then some 0 else E.O b) = some 0
     rw [if_neg hA.ne]; exact h2
    ·show (if v'.ownBlock = some g then some 0 else E.O g) = some 0
     rw [if_pos hg]
   | gone=>trivial
   | _=>exact hpost.elim
 | [],hr=>exact absurd hr.1 (by simp)
end Go.Proofs.YtefelnhpfdcleaaGreatDoor
namespace Go.Proofs.YtefelnhpfdcleaaGreatDoor
open Go Go.RowKit Go.Sx
set_option maxHeartbeats 2000000
set_option maxRecDepth 100000
theorem bPtr : Tryz.prog.underlying 124 = some (.pointer 5):=by kernel_rfl
theorem bCells : Tryz.prog.cellsOf 5 = 1:=by kernel_rfl
structure SKept (v : Value) (w w' : World) : Prop where
 os : w'.os = w.os
 tape : w'.tape = w.tape
 output : w'.output = w.output
 size : w.heap.size≤w'.heap.size
 block : ∀ k,k < w.heap.size→some k≠v.ownBlock→w'.heap[k]? = w.heap[k]?
theorem SKept.drew (v : Value) (w : World) : SKept v w w.drew:=⟨rfl,rfl,rfl,Nat.le_refl _,fun _ _ _=>rfl⟩
theorem unsafeString_none (W : World) (q : Option Addr) : (Builtin.unsafeString_ #[124,3] 9 #[.pointer q,.int .i64 0]).run Tryz.prog W = .ok (.string .empty) W :=
 Lib.run_unsafeString_none W _ _ _ q
theorem string_some (b g cap : Nat) (p : Value) (cur : Array Value) (l : List UInt8) (w : World) (h0 : l≠[]) (hbk : w.heap[b]? = some (.cells #[p,.slice (some ⟨g,0,none⟩) l.length cap] 104 (0,0))) (hg : w.heap[g]? = some (.cells cur 5 (0,0)))
  (hown : w.ownsRow 0 5 1 (.slice (some ⟨g,0,none⟩) l.length cap) l.length (Lib.byteCells l)) (hnc : l.length≤cap) (hcm : cap≤maxLen) (hcs : cur.size = cap * 1) :
  Calls Tryz.prog 81 #[.pointer (some ⟨b,0,none⟩)] w fun e w'=>e = .returned (.string ⟨l.toArray⟩)∧SKept (.slice (some ⟨g,0,none⟩) l.length cap) w w':=by
 have hl0 : l.length≠0:=by simpa using h0
 have c1 : w.drew.cell? ⟨b,1,none⟩ = some (.slice (some ⟨g,0,none⟩) l.length cap):=by
  have : w.drew.heap[b]? = some (.cells #[p,.slice (some ⟨g,0,none⟩) l.length cap] 104 (0,0)):=hbk
  rw [Lib.cell_of_heap this]; rfl
 have hSD : (Builtin.unsafeSliceData_ #[36] 124 #[.slice (some ⟨g,0,none⟩) l.length cap]).run Tryz.prog w.drew = .ok (.pointer (some ⟨g,0,none⟩)) w.drew :=
  Lib.run_unsafeSliceData_row _ _ _ _ _ _ (by omega)
 have hUS : (Builtin.unsafeString_ #[124,3] 9 #[.pointer (some ⟨g,0,none⟩),.int .i64 l.length]).run Tryz.prog w.drew = .ok (.string ⟨l.toArray⟩) (w.drew.freeze ⟨g,0,none⟩ l.length):=by
  refine Lib.run_unsafeString_row w.drew 124 3 9 5 bPtr bCells g cur.size (by have hg' : w.drew.heap[g]? = some (.cells cur 5 (0,0)):=hg; simp [World.shape?,hg']) l h0 (by omega) (by unfold maxLen at hcm; omega) ?_
  intro j x hx
  have:=hown.cells (g:=g) rfl j (.int .u8 x.toNat) (by simp [Lib.byteCells,hx])
  exact this
 have hfz : SKept (.slice (some ⟨g,0,none⟩) l.length cap) w (w.drew.freeze ⟨g,0,none⟩ l.length):=by
  unfold World.freeze
  rw [if_neg hl0]
  refine ⟨rfl,rfl,rfl,by simp,fun k hk hne=>?_⟩
  simp only [Array.getElem?_modify]
  rw [if_neg (fun e=>hne (by rw [←e]; rfl))]
  rfl
 go_enter Tryz.func81,Tryz.ntmps81
 go_wp2
 go_region
 all_goals (go_wp2; go_ret; exact ⟨rfl,hfz⟩)
theorem string_nil (b : Nat) (p : Value) (w : World) (hbk : w.heap[b]? = some (.cells #[p,.slice none 0 0] 104 (0,0))) :
  Calls Tryz.prog 81 #[.pointer (some ⟨b,0,none⟩)] w fun e w'=>e = .returned (.string ⟨#[]⟩)∧SKept (.slice none 0 0) w w':=by
 have hUS:=unsafeString_none
 have c1 : w.drew.cell? ⟨b,1,none⟩ = some (.slice none 0 0):=by
  have : w.drew.heap[b]? = some (.cells #[p,.slice none 0 0] 104 (0,0)):=hbk
  rw [Lib.cell_of_heap this]; rfl
 have hSD : (Builtin.unsafeSliceData_ #[36] 124 #[.slice none 0 0]).run Tryz.prog w.drew = .ok (.pointer none) w.drew:=rfl
 go_enter Tryz.func81,Tryz.ntmps81
 go_wp2
 go_region
 all_goals (go_wp2; go_ret; exact ⟨rfl,SKept.drew _ w⟩)
theorem string_room (b g cap : Nat) (p : Value) (w : World) (hc0 : cap≠0) (hbk : w.heap[b]? = some (.cells #[p,.slice (some ⟨g,0,none⟩) 0 cap] 104 (0,0))) :
  Calls Tryz.prog 81 #[.pointer (some ⟨b,0,none⟩)] w fun e w'=>e = .returned (.string ⟨#[]⟩)∧SKept (.slice (some ⟨g,0,none⟩) 0 cap) w w':=by
 have hUS:=unsafeString_none
 have c1 : w.drew.cell? ⟨b,1,none⟩ = some (.slice (some ⟨g,0,none⟩) 0 cap):=by
  have : w.drew.heap[b]? = some (.cells #[p,.slice (some ⟨g,0,none⟩) 0 cap] 104 (0,0)):=hbk
  rw [Lib.cell_of_heap this]; rfl
 have hSD : (Builtin.unsafeSliceData_ #[36] 124 #[.slice (some ⟨g,0,none⟩) 0 cap]).run Tryz.prog w.drew = .ok (.pointer (some ⟨g,0,none⟩)) w.drew :=
  Lib.run_unsafeSliceData_row _ _ _ _ _ _ hc0
 clear hc0
 go_enter Tryz.func81,Tryz.ntmps81
 go_wp2
 go_region
 all_goals (go_wp2; go_ret; exact ⟨rfl,SKept.drew _ w⟩)
theorem string_noroom (b g : Nat) (p : Value) (cur : Array Value) (w : World) (hbk : w.heap[b]? = some (.cells #[p,.slice (some ⟨g,0,none⟩) 0 0] 104 (0,0))) (hg : w.heap[g]? = some (.cells cur 5 (0,0))) :
  Calls Tryz.prog 81 #[.pointer (some ⟨b,0,none⟩)] w fun e w'=>e = .returned (.string ⟨#[]⟩)∧SKept (.slice (some ⟨g,0,none⟩) 0 0) w w':=by
 have hUS:=unsafeString_none
 have hlt : b < w.heap.size:=by
  rcases Nat.lt_or_ge b w.heap.size with h' | h'
  ·exact h'
  ·simp [Array.getElem?_eq_none h'] at hbk
 have c1 : w.drew.cell? ⟨b,1,none⟩ = some (.slice (some ⟨g,0,none⟩) 0 0):=by
  have : w.drew.heap[b]? = some (.cells #[p,.slice (some ⟨g,0,none⟩) 0 0] 104 (0,0)):=hbk
  rw [Lib.cell_of_heap this]; rfl
 have hSD : (Builtin.unsafeSliceData_ #[36] 124 #[.slice (some ⟨g,0,none⟩) 0 0]).run Tryz.prog w.drew = .ok (.pointer (some ⟨w.drew.heap.size,0,none⟩)) (w.drew.alloc (.view ⟨g,0,none⟩ 5)) :=
  Lib.run_unsafeSliceData_zero w.drew _ _ 5 bPtr ⟨g,0,none⟩ 0 (5,cur.size) (by have hg' : w.drew.heap[g]? = some (.cells cur 5 (0,0)):=hg; simp [World.shape?,hg'])
 have c2 : (w.drew.alloc (.view ⟨g,0,none⟩ 5)).cell? ⟨b,1,none⟩ = some (.slice (some ⟨g,0,none⟩) 0 0):=by
  have : (w.drew.alloc (.view ⟨g,0,none⟩ 5)).heap[b]? = _:=(Lib.alloc_old w.drew _ b hlt).trans hbk
  rw [Lib.cell_of_heap this]; rfl
 have c3 : (w.alloc (.view ⟨g,0,none⟩ 5)).drew.cell? ⟨b,1,none⟩ = some (.slice (some ⟨g,0,none⟩) 0 0):=c2
 have c0 : w.cell? ⟨b,1,none⟩ = some (.slice (some ⟨g,0,none⟩) 0 0):=c1
 have hk : SKept (.slice (some ⟨g,0,none⟩) 0 0) w (w.alloc (.view ⟨g,0,none⟩ 5)).drew:=⟨rfl,rfl,rfl,by show w.heap.size≤(w.heap.push _).size; simp,fun k hk _=>Lib.alloc_old w _ k hk⟩
 go_enter Tryz.func81,Tryz.ntmps81
 go_wp2
 go_region
 all_goals (go_wp2; go_ret; exact ⟨rfl,hk⟩)
theorem SKept.b {v : Value} {b : Nat} {w w' : World} (h : SKept v w w') : BKept b v .nilIface w w' :=
 ⟨h.os,h.tape,h.output,h.size,fun k h1 _ h3=>h.block k h1 h3,fun k hk=>by simp [Value.ownBlock] at hk⟩
theorem string_run (b : Nat) (p v : Value) (s : List UInt8) (w : World) (A : BldAt w b p v s) :
  Calls Tryz.prog 81 #[.pointer (some ⟨b,0,none⟩)] w fun e w'=>e = .returned (.string (Sx.bytes s))∧SKept v w w':=by
 have hown:=A.own
 have hbk:=A.at_
 rcases hown.2 with ⟨rfl,h0⟩ | ⟨g,cap,cur,rfl,_,hg,hnc,hcm,hcs,_⟩
 ·obtain rfl : s = []:=List.eq_nil_of_length_eq_zero h0
  exact string_nil b p w hbk
 ·by_cases h0 : s = []
  ·subst h0
   by_cases hc : cap = 0
   ·subst hc; exact string_noroom b g p cur w hbk hg
   ·exact string_room b g cap p w hc hbk
  ·exact string_some b g cap p cur s w h0 hbk hg hown hnc hcm hcs
def spBS : FSpec:=fun _ xs ls K=>∃ (s : List UInt8),xs = [.ptr 0 0]∧ls = [.bld 104 5 s]∧K (.str s) [.gone]
theorem string_ok : FnOk Tryz.prog gl 81 spBS:=by
 refine ⟨⟨Tryz.f81,_,Tryz.func81,rfl,by kernel_rfl⟩,fun xs ls K h=>?_⟩
 obtain ⟨s,rfl,rfl,h⟩:=h
 refine ⟨_,_,h,callsTo_bld (as1:=[]) fun E b p v w vals A hr=>?_⟩
 obtain rfl : vals = []:=List.eq_nil_of_length_eq_zero (by have:=hr.1; simpa using this.symm)
 refine (string_run b p v s w A).mono ?_
 rintro e w' ⟨rfl,k⟩
 exact ⟨_,.nilIface,rfl,fun E=>.ro (.str rfl),k.b,rfl⟩
end Go.Proofs.YtefelnhpfdcleaaGreatDoor
namespace Go.Proofs.YtefelnhpfdcleaaGreatDoor
open Go Go.RowKit Go.Sx
set_option maxHeartbeats 2000000
set_option maxRecDepth 100000
theorem bStr : Tryz.prog.underlying 9 = some .string:=by kernel_rfl
theorem bByteI : ∃ i,Tryz.prog.info? 5 = some i∧i.zero = some (.int .u8 0)∧i.size = 1∧i.bytes = 1:=by
 obtain ⟨i,hi,h⟩:=Option.map_eq_some_iff.1 bByte
 simp only [Prod.mk.injEq] at h
 exact ⟨i,hi,h.1,h.2.1,h.2.2⟩
theorem str_law {w : World} {v : Value} {n : Nat} {xs : List Value} (hown : w.ownsRow 0 5 1 v n xs) (s : ByteArray) (hb : n + s.size≤140737488355328) :
  ∃ v' w',(Builtin.append_ #[36,9] 36 #[v,.string s]).run Tryz.prog w = .ok v' w'∧w'.ownsRow 0 5 1 v' (n + s.size) (xs ++ Lib.strCells s)∧w.grownBy w' v.ownBlock∧(v'.ownBlock = v.ownBlock∨v'.ownBlock = some w.heap.size):=by
 obtain ⟨i,hi,hz,hs1,hb1⟩:=bByteI
 have h63 : n + s.size≤maxLen:=by unfold maxLen; omega
 obtain ⟨v',w',hr,h2,h3,_⟩:=Lib.run_append_own_string (P:=Tryz.prog) w 0 36 9 36 5 i bSlice bStr hi hz hs1 hb1 v n xs hown s h63 hb (Nat.zero_le _)
 refine ⟨v',w',hr,h2,h3,?_⟩
 have hxl : xs.length = n:=by simpa using hown.1
 rcases hown.2 with ⟨rfl,rfl⟩ | ⟨g,cap,cur,rfl,hbg,hg,hnc,hcm,hcs,htake⟩
 ·by_cases hm : s.size = 0
  ·have hf:=Lib.run_firstCells_string (P:=Tryz.prog) w 1 s
   rw [hm] at hf
   simp [Builtin.append_,run_underlying bSlice,run_underlying bStr,sizeOf,typeInfo,hi,hs1,Builtin.lenOf,hm,hf] at hr
   left; rw [←hr.1]
  ·have hr2:=run_append_nil_string (P:=Tryz.prog) w 36 9 36 5 i (.int .u8 0) bSlice bStr hi hz s (by omega) (by unfold maxLen at h63; omega) (by rw [hb1]; omega)
   rw [hr] at hr2
   injection hr2 with e1 e2
   right; rw [e1]; rfl
 ·by_cases hroom : n + s.size≤cap
  ·have hcs' : cur.size = cap:=by simpa using hcs
   have hr2:=Lib.run_append_room_string (P:=Tryz.prog) w 36 9 36 5 i bSlice bStr hi hs1 g n cap cur hg s hroom (by omega)
   rw [hr] at hr2
   injection hr2 with e1 e2
   left; rw [e1]; rfl
  ·have holds : ∀ j u,xs[j]? = some u→w.cell? ((⟨g,0,none⟩ : Addr).add j) = some u:=hown.cells (g:=g) rfl
   have hr2:=Lib.run_append_grow_string (P:=Tryz.prog) w 36 9 36 5 i (.int .u8 0) bSlice bStr hi hz ⟨g,0,none⟩ n cap xs (by rw [hs1]; simpa using hxl) holds s (by omega) (by unfold maxLen at h63; omega) (by rw [hb1]; exact growslice_fits (by omega) (by omega))
   rw [hr] at hr2
   injection hr2 with e1 e2
   right; rw [e1]; rfl
theorem wpl_str {ops : Array Oper} {rest : List Oper} {o : Oper} {a : Act} {w : World} {Q : Exit→Act→World→Prop} (hgd : o.guard = none) (sl x : Operand)
  (ho : o.op = .call { callee:=.builtin .append,args:=#[sl,x],argTypes:=#[36,9] }) (hty : o.type = 36) {v : Value} {n : Nat} {xs : List Value} (hs : a.eval sl = v) (hown : w.ownsRow 0 5 1 v n xs) (s : ByteArray) (hx : a.eval x = .string s) (hb : n + s.size≤140737488355328)
  (h : ∀ v' w',w'.ownsRow 0 5 1 v' (n + s.size) (xs ++ Lib.strCells s)→w.grownBy w' v.ownBlock→(v'.ownBlock = v.ownBlock∨v'.ownBlock = some w.heap.size)→wpList Tryz.prog ops Q rest (a.put o.dst v') w') : wpList Tryz.prog ops Q (o :: rest) a w:=by
 refine wpList_plain hgd fun K hK=>?_
 obtain ⟨v',w',hr,h2,h3,h4⟩:=str_law hown s hb
 unfold Oper.wp execOp
 simp only [ho,hty,resolve,invoke,builtin,Sem.run_bind,Sem.run_pure,Result.andThen_ok,List.map_toArray,List.map_cons,List.map_nil,hs,hx,hr]
 exact hK _ _ (h v' w' h2 h3 h4)
theorem writeString_run (b : Nat) (p v : Value) (s t : List UInt8) (w : World) (hbk : w.heap[b]? = some (.cells #[p,v] 104 (0,0))) (hp : p = .pointer none∨p = .pointer (some ⟨b,0,none⟩)) (hown : w.ownsRow 0 5 1 v s.length (Lib.byteCells s)) (hne : v.ownBlock≠some b) (hlen : s.length + t.length≤140737488355328) :
  Calls Tryz.prog 80 #[.pointer (some ⟨b,0,none⟩),.string (Sx.bytes t)] w fun e w'=>e = .returned (.tuple #[.int .i64 t.length,.nilIface])∧∃ v',w'.heap[b]? = some (.cells #[.pointer (some ⟨b,0,none⟩),v'] 104 (0,0))∧w'.ownsRow 0 5 1 v' (s.length + t.length) (Lib.byteCells s ++ Lib.strCells (Sx.bytes t))∧v'.ownBlock≠some b∧BKept b v v' w w':=by
 have hts : (Sx.bytes t).size = t.length:=rfl
 go_enter Tryz.func80,Tryz.ntmps80
 go_wp2_with (go_at_call 108; refine (copyCheck_run b p v s _ hbk hp hown hne).mono ?_)
 rintro e w1 ⟨rfl,hbk1,hown1,k1,k2,k3,k4,k5⟩
 have c0 : w1.cell? ⟨b,0,none⟩ = some (.pointer (some ⟨b,0,none⟩)):=by rw [Lib.cell_of_heap hbk1]; rfl
 have c1 : w1.cell? ⟨b,1,none⟩ = some v:=by rw [Lib.cell_of_heap hbk1]; rfl
 go_wp2_with (at_builtin; refine wpl_str (v:=v) (n:=s.length) (xs:=Lib.byteCells s) rfl _ _ rfl rfl rfl hown1 (Sx.bytes t) rfl (by rw [hts]; exact hlen) ?_)
 intro v' w2 hown2 hg hblk
 have hlt : b < w1.heap.size:=by
  rcases Nat.lt_or_ge b w1.heap.size with h' | h'
  ·exact h'
  ·simp [Array.getElem?_eq_none h'] at hbk1
 have hold : ∀ k,k < w1.heap.size→some k≠v.ownBlock→w2.heap[k]? = w1.heap[k]?:=fun k hk hne2=>hg.block k hk hne2
 have hsz : w1.heap.size≤w2.heap.size:=hg.size
 have hgos : w2.os = w1.os∧w2.tape = w1.tape∧w2.output = w1.output:=⟨hg.os,hg.tape,hg.output⟩
 have hne2 : v'.ownBlock≠some b:=by
  rcases hblk with h | h
  ·rw [h]; exact hne
  ·rw [h]; intro e; simp at e; omega
 have hb2 : w2.heap[b]? = some (.cells #[.pointer (some ⟨b,0,none⟩),v] 104 (0,0)):=by rw [hold b hlt (fun e=>hne e.symm)]; exact hbk1
 have d0 : w2.cell? ⟨b,0,none⟩ = some (.pointer (some ⟨b,0,none⟩)):=by rw [Lib.cell_of_heap hb2]; rfl
 have d1 : w2.cell? ⟨b,1,none⟩ = some v:=by rw [Lib.cell_of_heap hb2]; rfl
 have f1 : w2.frozen? ⟨b,1,none⟩ = false:=Lib.frozen_of_heap hb2 1
 have hnew : ∀ k,v'.ownBlock = some k→v.ownBlock = some k∨w.heap.size≤k:=by
  intro k hk
  rcases hblk with h | h
  ·left; rw [←h]; exact hk
  ·right; rw [h] at hk; simp at hk; omega
 obtain ⟨v2,hv2⟩ : ∃ v2,v2 = v':=⟨_,rfl⟩
 have hsh : ∃ a c,v' = .slice a (s.length + t.length) c:=by
  rcases hown2.2 with ⟨h,h2⟩ | ⟨g,cap,cur,h,_⟩
  ·have h2 : s.length + t.length = 0:=h2
   rw [h,h2]; exact ⟨_,_,rfl⟩
  ·exact ⟨_,_,h⟩
 obtain ⟨ao,co,rfl⟩:=hsh
 go_wp2
 go_ret2
 refine ⟨by simp [hts],_,by simp [World.setCell,Array.getElem?_modify,hb2],?_,hne2,⟨?_,?_,?_,by simp [World.setCell]; omega,fun k h1 h2 h3=>?_,hnew⟩⟩
 ·exact hown2.kept (row:=some b) ⟨rfl,rfl,rfl,by simp [World.setCell],fun k _ hk=>RowKit.Below.heap_setCell _ _ _ _ (fun e=>hk (by simp [e]))⟩ (Or.inr hne2)
 ·exact hgos.1.trans k1
 ·exact hgos.2.1.trans k2
 ·exact hgos.2.2.trans k3
 ·rw [RowKit.Below.heap_setCell _ _ _ _ (fun e=>h2 (by simp [e])),hold k (by omega) h3]
  exact k5 k h2
def spWS : FSpec:=fun _ xs ls K=>∃ (s t : List UInt8),xs = [.ptr 0 0,.str t]∧ls = [.bld 104 5 s]∧s.length + t.length≤140737488355328∧∀ r n,r = s ++ t→n = (t.length : Int)→K (.tup [.int .i64 (.a n),.raw .nilIface]) [.bld 104 5 r]
theorem writeString_ok : FnOk Tryz.prog gl 80 spWS:=by
 refine ⟨⟨Tryz.f80,_,Tryz.func80,rfl,by kernel_rfl⟩,fun xs ls K h=>?_⟩
 obtain ⟨s,t,rfl,rfl,hs,h⟩:=h
 refine ⟨_,_,h _ _ rfl rfl,callsTo_bld fun E b p v w vals A hr=>?_⟩
 obtain ⟨u,rfl,hu⟩:=relL_one hr
 rw [rel_str hu]
 refine (writeString_run b p v s t w A.at_ A.pp A.own A.ne hs).mono ?_
 rintro e w' ⟨rfl,v',k1,k2,k3,k4⟩
 refine ⟨_,v',rfl,fun E=>?_,k4,rfl,rfl,_,.inr rfl,k1,?_,k3⟩
 ·refine .tup rfl fun i x y a b=>?_
  match i,a,b with
  | 0,a,b=>cases a; cases b; exact .ro (.int rfl)
  | 1,a,b=>cases a; cases b; exact .ro (.raw rfl)
 ·have : Lib.byteCells (s ++ t) = Lib.byteCells s ++ Lib.strCells (Sx.bytes t):=by simp [Lib.byteCells,Lib.strCells,Sx.bytes]
  rw [this,List.length_append]
  exact k2
end Go.Proofs.YtefelnhpfdcleaaGreatDoor
namespace Go.Proofs.YtefelnhpfdcleaaGreatDoor
open Go Go.Sx
set_option maxRecDepth 100000
set_option maxHeartbeats 16000000
def lineH (x : HF) : List UInt8:=((x.name ++ [58,32]) ++ x.value) ++ [13,10]
def linesL (l : List HF) : List UInt8:=l.flatMap lineH ++ [13,10]
def printF (l : List HF) : List UInt8×Int:=if checkF l≠0 then ([],checkF l) else (linesL l,0)
theorem checkL_field : ∀ {l : List HF} {n : Int},checkL l n = 0→∀ x∈l,x.name.length≤64∧x.value.length≤2000
 | [],_,_,x,hx=>by cases hx
 | y :: l,n,h,x,hx=>by
  unfold checkL at h
  split at h
  ·cases h
  ·rename_i hb
   split at h
   ·cases h
   ·rename_i hv
    rcases List.mem_cons.1 hx with rfl | hx
    ·refine ⟨?_,by omega⟩
     have hb : badH x = false:=by simpa using hb
     unfold badH at hb
     simp only [Bool.or_eq_false_iff,Bool.not_eq_false'] at hb
     have:=hb.1
     unfold tokenF at this
     simp only [Bool.and_eq_true,decide_eq_true_eq] at this
     exact this.2.2
    ·exact checkL_field h x hx
theorem checkF_field {l : List HF} (h : checkF l = 0) : ∀ x∈l,x.name.length≤64∧x.value.length≤2000:=by
 unfold checkF at h
 split at h
 ·cases h
 ·exact checkL_field h
def spPrint : FSpec:=fun _ xs ls K=>∃ (l : List HF) (nl : Bool) (n : Int) (f : Nat→List SV),xs = [.sl (.a nl) (.a n) 2 f]∧ls = []∧RowH f n l∧∀ t e,(t,e) = printF l→K (.tup [.str t,.int .i64 (.a e)]) []
structure PrJ (l : List HF) (k t : List UInt8) (i : Nat) (I : Int) (m : Nat) : Prop where
 lie : AtR l i I m
 k : k = t ++ linesL (l.drop i)
 len : t.length≤3000 * i
def prJ (l : List HF) (k : List UInt8) (nl : Bool) (n : Int) (f : Nat→List SV) (m : Nat) (vs : List (Option SV)) (hp : List Hl) : Prop :=
 ∃ (t : List UInt8) (i : Nat) (I : Int),vs = [some (.ptr 0 0),some (.sl (.a nl) (.a n) 2 f),some (.int .i64 (.a n)),some (.int .i64 (.a I))]∧hp = [.bld 104 5 t]∧PrJ l k t i I m
theorem print_ok : FnOk Tryz.prog gl 44 spPrint:=by
 refine fnOk (gh:=[(4,[.bld 5 5])]) mixed cxOk (tabCons check_ok (tabCons writeString_ok (tabCons string_ok tabNil))) Tryz.func44 (by kernel_rfl) (by kernel_rfl) ?_
 intro xs ls K h
 unfold spPrint at h
 obtain ⟨l,nl,n,f,rfl,rfl,R,h⟩:=h
 obtain ⟨k,hk⟩ : ∃ k,k = printF l:=⟨_,rfl⟩
 obtain ⟨kt,ke⟩:=k
 refine ⟨_,_,h kt ke hk,fun D hD=>?_⟩
 clear h
 unfold printF at hk
 obtain ⟨J,hJ⟩ : ∃ J,J = prJ l kt nl n f:=⟨_,rfl⟩
 cbv
 refine ⟨l,_,_,f,rfl,rfl,by subst hD; exact R,fun e he=>?_⟩
 cbv
 have hcf:=checkF_field (l:=l)
 have hcl:=checkF_len (l:=l)
 rw [←he] at hk hcf hcl
 clear he
 refine br hD (fun h=>?_) (fun h=>?_)<;>cbv
 ·have h1 : e≠0:=by simpa using h
  rw [if_pos h1] at hk
  simp only [Prod.mk.injEq] at hk
  obtain ⟨hq1,hq2⟩:=hk
  subst hq1 hq2
  subst hD
  exact fin_eq rfl rfl
 have h1 : e = 0:=by simpa using h
 rw [if_neg (by simp [h1])] at hk
 simp only [Prod.mk.injEq] at hk
 obtain ⟨hq1,hq2⟩:=hk
 have hcf:=hcf h1
 have hcl:=hcl h1
 clear h
 refine ⟨[5,13,14,15],J,⟨rfl,l.length,?_⟩,?_⟩
 ·rw [hJ]
  subst hD
  exact ⟨[],0,0,rfl,rfl,AtR.zero R.len,hq1,by simp⟩
 clear hq1
 intro m vs hp hj
 rw [hJ] at hj
 obtain ⟨t,i,I,rfl,rfl,V⟩:=hj
 cbv
 refine br hD (fun h=>?_) (fun h=>?_)<;>cbv
 ·have hlt:=V.lie.lt R.n (of_decide_eq_true (p:=I < n) h)
  clear h
  refine ⟨V.lie.inB hD R.n hlt,fun j hj=>?_⟩
  obtain rfl:=V.lie.j hD hj
  clear hj
  have e1:=R.f j hlt
  have hsm:=hcf (l.getD j default) (by rw [List.getD_eq_getElem?_getD,List.getElem?_eq_getElem hlt]; exact List.getElem_mem hlt)
  have hk2:=V.k
  have hlen:=V.len
  rw [dropR (d:=default) hlt] at hk2
  obtain ⟨x,hx⟩ : ∃ x,x = l.getD j default:=⟨_,rfl⟩
  rw [←hx] at e1 hk2 hsm
  obtain ⟨a,b⟩:=x
  simp only at hsm
  cbv
  rw [e1]
  cbv
  refine ⟨⟨by simp only [List.length_cons,List.length_nil]; omega⟩,fun s1 hs1=>?_⟩
  cbv
  have hs1 : s1 = a ++ [58,32]:=hs1.h
  have l1 : s1.length≤66:=by rw [hs1]; simp; omega
  refine ⟨⟨by omega⟩,fun s2 hs2=>?_⟩
  cbv
  have hs2 : s2 = s1 ++ b:=hs2.h
  have l2 : s2.length≤2066:=by rw [hs2]; simp; omega
  refine ⟨⟨by simp only [List.length_cons,List.length_nil]; omega⟩,fun s3 hs3=>?_⟩
  cbv
  have hs3 : s3 = s2 ++ [13,10]:=hs3.h
  have l3 : s3.length≤2068:=by rw [hs3]; simp; omega
  have hline : s3 = lineH ⟨a,b⟩:=by rw [hs3,hs2,hs1]; rfl
  clear hs1 hs2 hs3
  refine ⟨t,s3,rfl,rfl,by omega,fun r nn hr hnn=>?_⟩
  cbv
  obtain ⟨g1,g2⟩:=V.lie.step hD hlt
  refine ⟨_,g1,?_⟩
  rw [hJ]
  unfold prJ
  subst hD
  refine ⟨r,j + 1,_,rfl,rfl,g2,?_,?_⟩
  ·rw [hk2,hr,hline]; simp [linesL]
  ·rw [hr,List.length_append]; omega
 ·have hi:=V.lie.eq R.n (of_decide_eq_false (p:=I < n) h)
  have hk2:=V.k
  have hlen:=V.len
  rw [hi,List.drop_length] at hk2
  clear h
  refine ⟨t,[13,10],rfl,rfl,by simp only [List.length_cons,List.length_nil]; omega,fun r nn hr hnn=>?_⟩
  cbv
  have hk3 : r = kt:=by rw [hr,hk2]; rfl
  refine ⟨r,rfl,rfl,?_⟩
  cbv
  rw [hk3,hq2]
  subst hD
  exact fin_eq rfl rfl
end Go.Proofs.YtefelnhpfdcleaaGreatDoor
namespace Go.Proofs.YtefelnhpfdcleaaGreatDoor
open Go Go.Sx
set_option maxRecDepth 100000
set_option maxHeartbeats 4000000
def sVer : List UInt8:=[32,72,84,84,80,47,49,46,49,13,10]
def encodeF (r : Rq) : List UInt8×Int :=
 if (examineF r).2.2≠0 then ([],(examineF r).2.2) else if (printF (examineF r).2.1).2≠0 then ([],(printF (examineF r).2.1).2) else
 (((((r.method ++ [32]) ++ r.target) ++ sVer) ++ (printF (examineF r).2.1).1) ++ r.body,0)
structure ExOk (r : Rq) : Prop where
 method : isMethodF r.method = true
 org : (orgF r.target).2 = 0
 chk : (chkFieldsF r).2 = 0
 host : hostF r.host = true
 body : r.body.length≤65536
 fields : (examineF r).2.1 = (chkFieldsF r).1
 id1 : 1≤r.id
 id2 : r.id≤1000000000
 part : (examineF r).1 = []
theorem examineF_ok {r : Rq} (h : (examineF r).2.2 = 0) : ExOk r:=by
 have h0:=h
 unfold examineF at h
 split at h
 ·cases h
 ·rename_i g1
  split at h
  ·cases h
  ·rename_i g2
   split at h
   ·cases h
   ·rename_i g3
    split at h
    ·rename_i g4; exact absurd h g4
    ·rename_i g4
     split at h
     ·cases h
     ·rename_i g5
      split at h
      ·rename_i g6; exact absurd h g6
      ·rename_i g6
       split at h
       ·cases h
       ·rename_i g7
        split at h
        ·cases h
        ·rename_i g8
         refine ⟨by simpa using g2,by simpa using g4,by simpa using g6,by simpa using g5,by omega,?_,by omega,by omega,?_⟩
         ·unfold examineF
          rw [if_neg g1,if_neg g2,if_neg g3,if_neg g4,if_neg g5,if_neg g6,if_neg g7,if_neg g8]
         ·unfold examineF
          rw [if_neg g1,if_neg g2,if_neg g3,if_neg g4,if_neg g5,if_neg g6,if_neg g7,if_neg g8]
theorem ExOk.method_len {r : Rq} (E : ExOk r) : r.method.length≤16:=by
 have:=E.method
 unfold isMethodF at this
 simp only [Bool.and_eq_true,decide_eq_true_eq] at this
 exact this.1
theorem linesL_len {l : List HF} (h : ∀ x∈l,x.name.length≤64∧x.value.length≤2000) : (linesL l).length≤3000 * l.length + 2:=by
 have : (l.flatMap lineH).length≤3000 * l.length:=by
  induction l with
  | nil=>simp
  | cons x l ih =>
   have h1:=h x (List.mem_cons_self ..)
   have h2:=ih fun y hy=>h y (List.mem_cons_of_mem _ hy)
   simp only [List.flatMap_cons,List.length_append,List.length_cons,lineH,List.length_nil]
   omega
 unfold linesL
 simp only [List.length_append,List.length_cons,List.length_nil]
 omega
theorem printF_len {l : List HF} : (printF l).1.length≤400000:=by
 unfold printF
 split
 ·simp
 ·rename_i h
  have h : checkF l = 0:=by simpa using h
  have h1:=linesL_len (checkF_field h)
  have h2:=checkF_len h
  simp only; omega
def spEnc : FSpec:=fun _ xs ls K=>∃ (r : Rq) (nl : Bool) (n : Int) (f : Nat→List SV),xs = [.agg [.int .i64 (.a r.id),.str r.method,.str r.target,.str r.host,.sl (.a nl) (.a n) 2 f,.str r.body]]∧ls = []∧RqOk r nl n f∧
 ∀ t e,(t,e) = encodeF r→K (.tup [.str t,.int .i64 (.a e)]) []
theorem encode_ok : FnOk Tryz.prog gl 18 spEnc:=by
 refine fnOk (gh:=[]) mixed cxOk (tabCons exam_ok (tabCons print_ok tabNil)) Tryz.func18 (by kernel_rfl) (by kernel_rfl) ?_
 intro xs ls K h
 unfold spEnc at h
 obtain ⟨r,nl,n,f,rfl,rfl,R,h⟩:=h
 obtain ⟨k,hk⟩ : ∃ k,k = encodeF r:=⟨_,rfl⟩
 obtain ⟨kt,ke⟩:=k
 refine ⟨_,_,h kt ke hk,fun D hD=>?_⟩
 clear h
 unfold encodeF at hk
 have hE:=examineF_ok (r:=r)
 have hM : (examineF r).2.2 = 0→r.method.length≤16:=fun h=>(hE h).method_len
 have hT : (examineF r).2.2 = 0→r.target.length≤500:=fun h=>orgF_len (hE h).org
 have hB : (examineF r).2.2 = 0→r.body.length≤65536:=fun h=>(hE h).body
 clear hE
 obtain ⟨ck,hck⟩ : ∃ w,w = examineF r:=⟨_,rfl⟩
 rw [←hck] at hk hM hT hB
 obtain ⟨cp,cl,ce⟩:=ck
 obtain ⟨id,me,ta,ho,fs,bo⟩:=r
 simp only at hk hM hT hB
 cbv
 refine ⟨⟨id,me,ta,ho,fs,bo⟩,nl,n,f,by subst hD; rfl,rfl,R,fun p l e nb2 n3 g3 hc R3 hnb2=>?_⟩
 cbv
 rw [←hck] at hc
 simp only [Prod.mk.injEq] at hc
 obtain ⟨hq1,hq2,hq3⟩:=hc
 subst hq1 hq2 hq3
 clear hck
 refine br hD (fun h=>?_) (fun h=>?_)<;>cbv
 ·have h1 : e≠0:=by simpa using h
  rw [if_pos h1] at hk
  simp only [Prod.mk.injEq] at hk
  obtain ⟨hq1,hq2⟩:=hk
  subst hq1 hq2
  subst hD
  exact fin_eq rfl rfl
 have h1 : e = 0:=by simpa using h
 rw [if_neg (by simp [h1])] at hk
 have hM:=hM h1
 have hT:=hT h1
 have hB:=hB h1
 clear h
 refine ⟨l,_,_,g3,rfl,rfl,by subst hD; exact R3,fun t e2 ht=>?_⟩
 cbv
 have hPl:=printF_len (l:=l)
 rw [←ht] at hk hPl
 simp only at hk hPl
 clear ht
 refine br hD (fun h=>?_) (fun h=>?_)<;>cbv
 ·have h1 : e2≠0:=by simpa using h
  rw [if_pos h1] at hk
  simp only [Prod.mk.injEq] at hk
  obtain ⟨hq1,hq2⟩:=hk
  subst hq1 hq2
  subst hD
  exact fin_eq rfl rfl
 have h1 : e2 = 0:=by simpa using h
 rw [if_neg (by simp [h1])] at hk
 simp only [Prod.mk.injEq] at hk
 obtain ⟨hq1,hq2⟩:=hk
 clear h
 refine ⟨⟨by simp only [List.length_cons,List.length_nil]; omega⟩,fun s1 hs1=>?_⟩
 cbv
 have hs1 : s1 = me ++ [32]:=hs1.h
 have l1 : s1.length≤17:=by rw [hs1]; simp; omega
 refine ⟨⟨by omega⟩,fun s2 hs2=>?_⟩
 cbv
 have hs2 : s2 = s1 ++ ta:=hs2.h
 have l2 : s2.length≤517:=by rw [hs2]; simp; omega
 refine ⟨⟨by simp only [List.length_cons,List.length_nil]; omega⟩,fun s3 hs3=>?_⟩
 cbv
 have hs3 : s3 = s2 ++ sVer:=hs3.h
 have l3 : s3.length≤528:=by rw [hs3,List.length_append]; have : sVer.length = 11:=rfl; omega
 refine ⟨⟨by omega⟩,fun s4 hs4=>?_⟩
 cbv
 have hs4 : s4 = s3 ++ t:=hs4.h
 have l4 : s4.length≤400528:=by rw [hs4,List.length_append]; omega
 refine ⟨⟨by omega⟩,fun s5 hs5=>?_⟩
 cbv
 have hs5 : s5 = s4 ++ bo:=hs5.h
 have : s5 = kt:=by rw [hs5,hs4,hs3,hs2,hs1,hq1]
 rw [this,hq2]
 subst hD
 exact fin_eq rfl rfl
end Go.Proofs.YtefelnhpfdcleaaGreatDoor
namespace Go.Proofs.YtefelnhpfdcleaaGreatDoor
open Go Go.Sx
set_option maxRecDepth 100000
set_option maxHeartbeats 4000000
def findV (t : List UInt8) : List HF→Option (List UInt8)
 | []=>none
 | x :: l=>if foldF x.name = t then some x.value else findV t l
def keyBad (kind : Int) (name : List UInt8) : Bool :=
 (!(kind == 3) && kind != 1 && kind != 2 || (kind == 3) && !tokenF name) || !(kind == 3) && name != []
def keyF (r : Rq) (kind : Int) (name : List UInt8) : List UInt8×Int :=
 if keyBad kind name then ([],2) else if (checkRF r).2≠0 then ([],(checkRF r).2) else
 if kind = 2 then (r.host,0) else if kind = 1 then ((cutF 63 (cleanF r.target).1).1,(cleanF r.target).2) else
 match findV (foldF name) r.fields with
 | some v=>(v,0)
 | none=>([],4)
def totS (l : List (List UInt8)) : Nat:=(l.map fun x=>x.length + 1).sum
theorem totS_append (a b : List (List UInt8)) : totS (a ++ b) = totS a + totS b:=by simp [totS]
theorem totS_one (x : List UInt8) : totS [x] = x.length + 1:=by simp [totS]
theorem totS_pop : ∀ (l : List (List UInt8)),totS l.dropLast≤totS l
 | []=>Nat.le_refl _
 | [x]=>by simp [totS]
 | x :: y :: l=>by
  have:=totS_pop (y :: l)
  rw [List.dropLast_cons_cons]
  simp only [totS,List.map_cons,List.sum_cons] at this ⊢
  omega
theorem cstep_tot (σ : CS) (s : List UInt8) (last : Bool) : totS (cstep σ s last).1≤totS σ.1 + s.length + 1:=by
 have hp : totS (if s = [46,46]∧σ.1≠[] then cpop σ else σ).1≤totS σ.1:=by
  split
  ·exact totS_pop σ.1
  ·exact Nat.le_refl _
 unfold cstep
 split
 ·simp only [capp,totS_append,totS_one]; omega
 ·split
  ·simp only [capp,totS_append,totS_one,List.length_nil]; omega
  ·omega
theorem cutF_sum {c : UInt8} {s : List UInt8} (h : (cutF c s).2.2 = true) : (cutF c s).1.length + (cutF c s).2.1.length + 1≤s.length:=by
 obtain ⟨_,_,h3,h4⟩:=cutF_yes h
 rw [h3,List.length_drop]; omega
theorem segFold_tot : ∀ (n : Nat) (σ : CS) (rest : List UInt8),rest.length≤n→totS (segFold σ rest).1≤totS σ.1 + rest.length + 1
 | n,σ,rest,h=>by
  rw [segFold]
  split
  ·rename_i hc
   have h1:=cutF_sum hc
   cases n with
   | zero=>omega
   | succ n =>
    have h2:=segFold_tot n (cstep σ (cutF 47 rest).1 false) (cutF 47 rest).2.1 (by omega)
    have h3:=cstep_tot σ (cutF 47 rest).1 false
    omega
  ·have h3:=cstep_tot σ (cutF 47 rest).1 true
   have:=(cutF_len 47 rest).1
   omega
theorem joinTail_tot : ∀ (l : List (List UInt8)),(Lib.joinTail [47] l).length = totS l
 | []=>by simp [Lib.joinTail,totS]
 | x :: l=>by
  have h1:=joinTail_tot l
  have : Lib.joinTail [47] (x :: l) = [47] ++ x ++ Lib.joinTail [47] l:=by simp [Lib.joinTail]
  rw [this]
  simp only [List.length_append,List.length_cons,List.length_nil,h1,totS,List.map_cons,List.sum_cons]
  omega
theorem join_tot (l : List (List UInt8)) : (Lib.join l [47]).length≤totS l:=by
 cases l with
 | nil=>simp [Lib.join_nil]
 | cons x l =>
  rw [Lib.join_cons,List.length_append,joinTail_tot]
  simp only [totS,List.map_cons,List.sum_cons]
  omega
theorem cleanF_len (s : List UInt8) : (cleanF s).1.length≤100000:=by
 unfold cleanF
 split
 ·simp
 ·rename_i h
  obtain ⟨sp,hsp⟩ : ∃ x,x = splitF s:=⟨_,rfl⟩
  obtain ⟨p,q,hb,e⟩:=sp
  rw [←hsp] at h ⊢
  have he : e = 0:=by simpa using h
  subst he
  obtain ⟨_,h1,h2,h3⟩:=splitF_ok hsp
  simp only
  have n1:=(normL_len p p.length 0 (by omega)).1
  have n2:=(normL_len q q.length 0 (by omega)).1
  have t1:=segFold_tot ((normL p 0).drop 1).length ([],true,0) ((normL p 0).drop 1) (Nat.le_refl _)
  have t2:=join_tot (segFold ([],true,0) ((normL p 0).drop 1)).1
  simp only [totS,List.map_nil,List.sum_nil,List.length_drop] at t1
  simp only [totS] at t2
  simp only [List.length_append,List.length_cons,List.length_nil]
  split
  ·simp only [List.length_append,List.length_cons,List.length_nil]; omega
  ·simp only [List.length_nil]; omega
def spKey : FSpec:=fun _ xs ls K=>∃ (r : Rq) (kind : Int) (name : List UInt8) (nl : Bool) (n : Int) (f : Nat→List SV),xs = [.agg [.int .i64 (.a r.id),.str r.method,.str r.target,.str r.host,.sl (.a nl) (.a n) 2 f,.str r.body],.int .i64 (.a kind),.str name]∧ls = []∧RqOk r nl n f∧name.length≤9223372036854775807∧
 ∀ t e,(t,e) = keyF r kind name→K (.tup [.str t,.int .i64 (.a e)]) []
structure KyJ (l : List HF) (k : Option (List UInt8)) (t : List UInt8) (i : Nat) (I : Int) (m : Nat) : Prop where
 lie : AtR l i I m
 k : k = findV t (l.drop i)
def kyJ (r : Rq) (k : Option (List UInt8)) (name : List UInt8) (nl : Bool) (n : Int) (f : Nat→List SV) (m : Nat) (vs : List (Option SV)) (hp : List Hl) : Prop :=
 ∃ (i : Nat) (I : Int),vs = [some (.str name),some (.sl (.a nl) (.a n) 2 f),some (.int .i64 (.a n)),some (.int .i64 (.a I))]∧hp = [.blk 31 [.int .i64 (.a r.id),.str r.method,.str r.target,.str r.host,.sl (.a nl) (.a n) 2 f,.str r.body]]∧KyJ r.fields k (foldF name) i I m
theorem key_ok : FnOk Tryz.prog gl 20 spKey:=by
 refine fnOk (gh:=[]) mixed cxOk (tabCons token_ok (tabCons checkR_ok (tabCons clean_ok (tabCons cut_ok (tabCons fold_ok tabNil))))) Tryz.func20 (by kernel_rfl) (by kernel_rfl) ?_
 intro xs ls K h
 unfold spKey at h
 obtain ⟨r,kind,name,nl,n,f,rfl,rfl,R,hnm,h⟩:=h
 obtain ⟨id,me,ta,ho,fs,bo⟩:=r
 have Rta:=R.target
 have Rrow:=R.row
 simp only at Rta Rrow
 obtain ⟨k,hk0⟩ : ∃ k,k = keyF ⟨id,me,ta,ho,fs,bo⟩ kind name:=⟨_,rfl⟩
 obtain ⟨kt,ke⟩:=k
 have hk:=hk0
 unfold keyF keyBad at hk
 obtain ⟨fv,hfv⟩ : ∃ a,a = findV (foldF name) fs:=⟨_,rfl⟩
 obtain ⟨J,hJ⟩ : ∃ J,J = kyJ ⟨id,me,ta,ho,fs,bo⟩ fv name nl n f:=⟨_,rfl⟩
 simp only at hk
 rw [←hfv] at hk
 obtain ⟨ck,hck⟩ : ∃ w,w = checkRF ⟨id,me,ta,ho,fs,bo⟩:=⟨_,rfl⟩
 rw [←hck] at hk
 obtain ⟨cp,ce⟩:=ck
 simp only at hk
 refine ⟨_,_,h kt ke hk0,fun D hD=>?_⟩
 cbv
 clear h hk0
 refine ⟨name,rfl,rfl,hnm,fun tk htk=>?_⟩
 cbv
 rw [←htk] at hk
 clear htk
 refine br hD (fun h=>?_) (fun h=>?_)<;>cbv
 ·have h1 : ((!(kind == 3) && kind != 1 && kind != 2 || (kind == 3) && !tk) || !(kind == 3) && name != []) = true:=h
  rw [if_pos h1] at hk
  simp only [Prod.mk.injEq] at hk
  obtain ⟨hq1,hq2⟩:=hk
  subst hq1 hq2
  subst hD
  exact fin_eq rfl rfl
 have h1 : ((!(kind == 3) && kind != 1 && kind != 2 || (kind == 3) && !tk) || !(kind == 3) && name != []) = false:=h
 rw [if_neg (by rw [h1]; simp)] at hk
 clear h h1
 refine ⟨⟨id,me,ta,ho,fs,bo⟩,nl,n,f,by subst hD; rfl,rfl,R,fun p e hc=>?_⟩
 cbv
 rw [←hck] at hc
 simp only [Prod.mk.injEq] at hc
 obtain ⟨hq1,hq2⟩:=hc
 subst hq1 hq2
 clear hck
 refine br hD (fun h=>?_) (fun h=>?_)<;>cbv
 ·have h1 : e≠0:=by simpa using h
  rw [if_pos h1] at hk
  simp only [Prod.mk.injEq] at hk
  obtain ⟨hq1,hq2⟩:=hk
  subst hq1 hq2
  subst hD
  exact fin_eq rfl rfl
 have h1 : ¬ e≠0:=by simpa using h
 rw [if_neg h1] at hk
 clear h h1
 refine br hD (fun h=>?_) (fun h=>?_)<;>cbv
 ·have h1 : kind = 2:=by simpa using h
  rw [if_pos h1] at hk
  simp only [Prod.mk.injEq] at hk
  obtain ⟨hq1,hq2⟩:=hk
  subst hq1 hq2
  subst hD
  exact fin_eq rfl rfl
 have h1 : ¬ kind = 2:=by simpa using h
 rw [if_neg h1] at hk
 clear h h1
 refine br hD (fun h=>?_) (fun h=>?_)<;>cbv
 ·have h1 : kind = 1:=by simpa using h
  rw [if_pos h1] at hk
  have hcl:=cleanF_len ta
  clear h h1
  refine ⟨ta,rfl,rfl,Rta,fun t e2 ht=>?_⟩
  cbv
  rw [←ht] at hk hcl
  simp only at hk hcl
  clear ht
  refine ⟨t,63,rfl,rfl,hcl,fun a b c hab=>?_⟩
  cbv
  rw [←hab] at hk
  simp only [Prod.mk.injEq] at hk
  obtain ⟨hq1,hq2⟩:=hk
  subst hq1 hq2
  subst hD
  exact fin_eq rfl rfl
 have h1 : ¬ kind = 1:=by simpa using h
 rw [if_neg h1] at hk
 clear h h1
 refine ⟨[2,73,74,75],J,⟨rfl,fs.length,?_⟩,?_⟩
 ·rw [hJ]
  subst hD
  exact ⟨0,0,rfl,rfl,AtR.zero Rrow.len,hfv⟩
 clear hfv
 intro m vs hp hj
 rw [hJ] at hj
 obtain ⟨i,I,rfl,rfl,V⟩:=hj
 simp only at V
 cbv
 refine br hD (fun h=>?_) (fun h=>?_)<;>cbv
 ·have hlt:=V.lie.lt Rrow.n (of_decide_eq_true (p:=I < n) h)
  clear h
  refine ⟨V.lie.inB hD Rrow.n hlt,fun j hj=>?_⟩
  obtain rfl:=V.lie.j hD hj
  clear hj
  have e1:=Rrow.f j hlt
  have hsm:=Rrow.small j hlt
  have hk2:=V.k
  rw [dropR (d:=default) hlt] at hk2
  obtain ⟨x,hx⟩ : ∃ x,x = fs.getD j default:=⟨_,rfl⟩
  rw [←hx] at e1 hk2 hsm
  obtain ⟨a,b⟩:=x
  cbv
  rw [e1]
  cbv
  refine ⟨a,rfl,rfl,hsm.1,fun t ht=>?_⟩
  cbv
  have ht : t = foldF a:=ht
  refine ⟨name,rfl,rfl,hnm,fun u hu=>?_⟩
  cbv
  have hu : u = foldF name:=hu
  refine br hD (fun h=>?_) (fun h=>?_)<;>cbv
  ·have h1 : foldF a = foldF name:=by
    have h : (t == u) = true:=h
    rw [←ht,←hu]; exact eq_of_beq h
   rw [findV,if_pos h1] at hk2
   rw [hk2] at hk
   simp only [Prod.mk.injEq] at hk
   obtain ⟨hq1,hq2⟩:=hk
   subst hq1 hq2
   subst hD
   exact fin_eq rfl rfl
  ·have h1 : ¬ foldF a = foldF name:=by
    have h : (t == u) = false:=h
    rw [←ht,←hu]; intro e; rw [e] at h; simp at h
   rw [findV,if_neg h1] at hk2
   obtain ⟨g1,g2⟩:=V.lie.step hD hlt
   refine ⟨_,g1,?_⟩
   rw [hJ]
   unfold kyJ
   subst hD
   exact ⟨j + 1,_,rfl,rfl,g2,hk2⟩
 ·have hi:=V.lie.eq Rrow.n (of_decide_eq_false (p:=I < n) h)
  have hk2:=V.k
  rw [hi,List.drop_length] at hk2
  have hk3 : fv = none:=hk2
  rw [hk3] at hk
  simp only [Prod.mk.injEq] at hk
  obtain ⟨hq1,hq2⟩:=hk
  subst hq1 hq2
  subst hD
  exact fin_eq rfl rfl
end Go.Proofs.YtefelnhpfdcleaaGreatDoor
namespace Go.Proofs.YtefelnhpfdcleaaGreatDoor
open Go Go.Sx
set_option maxRecDepth 100000
set_option maxHeartbeats 16000000
structure DeJ (s k t : List UInt8) (i : Nat) (I n : Int) (f : Nat→List SV) (m : Nat) : Prop where
 lie : At s i I m
 row : RowU f n t
 k : k = t ++ normL s i
 le : t.length≤i
 len : s.length≤100000
end Go.Proofs.YtefelnhpfdcleaaGreatDoor
namespace Go.Proofs.YtefelnhpfdcleaaGreatDoor
open Go Go.Sx
set_option maxRecDepth 100000
set_option maxHeartbeats 16000000
def markQ (s : List UInt8) (i e : Nat) : Nat:=if (cutF 63 (s.drop i)).2.2 then min e (i + (cutF 63 (s.drop i)).1.length) else e
theorem markQ_step {s : List UInt8} {i e : Nat} (h : i < s.length) (hc : charI s i≠63) : markQ s i e = markQ s (i + 1) e:=by
 unfold markQ
 rw [drop_at h]
 have hb : (s.getD i 0 == 63) = false:=by
  rw [beq_eq_false_iff_ne]
  intro h2
  apply hc
  unfold charI
  rw [h2]; rfl
 simp only [cutF,hb,Bool.false_eq_true,if_false,List.length_cons]
 split<;>omega
theorem markQ_hit {s : List UInt8} {i e : Nat} (h : i < s.length) (hc : charI s i = 63) : markQ s i e = min e i:=by
 unfold markQ
 rw [drop_at h]
 have hb : (s.getD i 0 == 63) = true:=by
  rw [beq_iff_eq]
  unfold charI at hc
  have : (s.getD i 0).toNat = 63:=by omega
  exact UInt8.toNat_inj.1 this
 rw [cutF,if_pos hb]
 simp
theorem val_not63 {c : Int} (h : 0≤valueI c) : c≠63:=by
 intro e
 rw [e] at h
 revert h
 decide
theorem orgL_cut (s : List UInt8) : ∀ (m i e r : Nat),s.length - i≤m→orgL s i e = some r→r = markQ s i e
 | m,i,e,r,hm,h=>by
  by_cases hi : i < s.length
  ·cases m with
   | zero=>omega
   | succ m =>
    by_cases he : escAt s i = true
    ·have h3:=escAt_len he
     rw [orgL_esc hi he] at h
     have ih:=orgL_cut s m (i + 3) e r (by omega) h
     have hP : hexP s i:=of_decide_eq_true he
     obtain ⟨_,p1,p2,p3⟩:=hP
     rw [ih,markQ_step hi (by rw [p1]; decide),markQ_step (by omega) (val_not63 p2),markQ_step (by omega) (val_not63 p3)]
    ·have he : escAt s i = false:=by simpa using he
     by_cases hq : charI s i = 63
     ·rw [orgL_mark hi he hq] at h
      have ih:=orgL_cut s m (i + 1) _ r (by omega) h
      rw [ih,markQ_hit hi hq]
      unfold markQ
      split<;>omega
     ·by_cases hk : kindN (charI s i).toNat = 0
      ·rw [orgL_bad hi he hq hk] at h; cases h
      ·rw [orgL_more hi he hq hk] at h
       rw [markQ_step hi hq]
       exact orgL_cut s m (i + 1) e r (by omega) h
  ·rw [orgL,dif_neg hi] at h
   have h:=Option.some.inj h
   unfold markQ
   rw [List.drop_eq_nil_of_le (by omega)]
   simp [cutF,h]
theorem orgF_cut {s : List UInt8} (h : (orgF s).2 = 0) : (orgF s).1 = ((cutF 63 s).1.length : Int):=by
 unfold orgF at h ⊢
 split at h
 ·cases h
 ·rename_i h1
  split at h
  ·cases h
  ·rename_i h2
   rw [if_neg h1,if_neg h2]
   cases ho : orgL s 0 s.length with
   | none=>rw [ho] at h; cases h
   | some r =>
    have:=orgL_cut s s.length 0 s.length r (by omega) ho
    simp only
    rw [this]
    unfold markQ
    rw [List.drop_zero]
    cases hc : (cutF 63 s).2.2 with
    | true =>
     simp only [if_true,Nat.zero_add]
     have:=(cutF_len' 63 s).1
     omega
    | false =>
     simp only [Bool.false_eq_true,if_false]
     rw [(cutF_no hc).1]
theorem splitF_ref {s : List UInt8} (h : (orgF s).2 = 0) : splitF s = ((cutF 63 s).1,(cutF 63 s).2.1,(cutF 63 s).2.2,0):=by
 unfold splitF
 rw [if_neg (by rw [h]; simp),if_neg (by rw [orgF_cut h]; simp)]
end Go.Proofs.YtefelnhpfdcleaaGreatDoor
namespace Go.Proofs.YtefelnhpfdcleaaGreatDoor
open Go Go.Sx
set_option maxRecDepth 100000
set_option maxHeartbeats 40000000
structure ClJ (l st kk : List (List UInt8)) (i : Nat) (I n N : Int) (f fl : Nat→List SV) (m : Nat) : Prop where
 lie : AtR l i I m
 rl : RowS fl N l
 row : RowS f n st
 sl : st.length≤i
 ll : l.length≤501
 sm : ∀ x∈st,x.length≤500
 lm : ∀ x∈l,x.length≤500
 k : kk = foldSeg st (l.drop i)
structure CoJ (st : List (List UInt8)) (o k : List UInt8) (i : Nat) (I n : Int) (f : Nat→List SV) (m : Nat) : Prop where
 lie : AtR st i I m
 row : RowS f n st
 sl : st.length≤501
 sm : ∀ x∈st,x.length≤500
 ol : o.length≤501 * i
 k : k = o ++ (st.drop i).flatMap (fun x=>47 :: x)
end Go.Proofs.YtefelnhpfdcleaaGreatDoor
namespace Go.Proofs.YtefelnhpfdcleaaGreatDoor
open Go Go.Sx Go.RowKit
set_option maxRecDepth 100000
set_option maxHeartbeats 4000000
def spIdxRow : FSpec:=fun _ xs ls K=>∃ (t : List UInt8) (nl : Bool) (n c : Int) (f : Nat→List SV),xs = [.sl (.a nl) (.a n) 1 f,.int .u8 (.a c)]∧ls = []∧RowU f n t∧c = 10∧∀ r,r = Lib.indexByte t 10→K (.int .i64 (.a r)) []
theorem bytesOf_nat (t : List UInt8) : Lib.bytesOf (t.map fun c=>(c.toNat : Int)) = t:=by
 unfold Lib.bytesOf
 rw [List.map_map]
 conv=>rhs; rw [←List.map_id t]
 refine List.map_congr_left fun c _=>?_
 simp [Function.comp]
theorem idxRow_ok : FnOk Tryz.prog gl 92 spIdxRow:=by
 refine ⟨⟨Tryz.f92,_,Tryz.func92,rfl,by kernel_rfl⟩,fun xs ls K h=>?_⟩
 obtain ⟨t,nl,n,c,f,rfl,rfl,R,rfl,h⟩:=h
 refine ⟨_,_,h _ rfl,callsTo_below fun E B w vals _ _ _ hr=>?_⟩
 obtain ⟨v,u,rfl,hv,hu⟩:=relL_two hr
 rw [rel_int hu]
 rcases (Rel.sl_inv hv).sl_inv with ⟨rfl,hn,_⟩ | ⟨a,m,cap,g,rfl,_,hn,hc,hcm,hs,hl,h1,hcell,hrel⟩
 ·have ht : t = []:=by
   have:=R.n
   have hn : n = 0:=hn
   exact List.length_eq_zero_iff.1 (by omega)
  subst ht
  refine (sh_bytes_IndexByte_nil 10 w).mono ?_
  rintro e w' ⟨rfl,rfl⟩
  exact ⟨_,rfl,fun E=>.ro (.int rfl),Below.refl _ _⟩
 ·have hm : t.length = m:=by
   have:=R.n
   have hn : n = (m : Int):=hn
   omega
  have hh : ∀ i,i < m→w.cell? (a.add i) = some (.int .u8 ((t.map fun c=>(c.toNat : Int)).getD i 0)):=by
   intro i hi
   have e1:=(hcell i 0 hi (by omega)).1
   have e2:=hrel i 0 (.int .u8 (.a ((t.getD i 0).toNat : Int))) hi (by rw [R.f i (by omega)]; rfl)
   have e3 : g i 0 = .int .u8 ((t.getD i 0).toNat : Int):=by
    generalize g i 0 = v at e2
    cases e2 with
    | int h=>rw [←h]; rfl
   have e4 : a.add i = ⟨a.block,a.off + (i * 1 + 0),none⟩:=by
    have:=hs (by omega)
    cases a; simp only at this; subst this; simp [Addr.add]
   rw [e4,e1,e3]
   have hi' : i < t.length:=by omega
   simp [List.getD_eq_getElem?_getD,List.getElem?_eq_getElem hi']
  refine (Any.bytes_IndexByte_at sh_lays187 a m cap _ 10 w (by simpa using hm) hh).mono ?_
  rintro e w' ⟨rfl,rfl⟩
  rw [bytesOf_nat]
  exact ⟨_,rfl,fun E=>.ro (.int rfl),Below.refl _ _⟩
end Go.Proofs.YtefelnhpfdcleaaGreatDoor
namespace Go.Proofs.YtefelnhpfdcleaaGreatDoor
open Go Go.Sx
set_option maxRecDepth 100000
set_option maxHeartbeats 16000000
def hpG (b : List UInt8) : Nat→Nat→List HF→List HF×Int×Int
 | 0,_,_=>([],0,0)
 | m + 1,p,r =>
  if (decide (Lib.indexByte (b.drop p) 10 < 0) && decide (8192 < b.length)) || decide (8192≤(p : Int) + Lib.indexByte (b.drop p) 10) then ([],0,3) else
  if Lib.indexByte (b.drop p) 10 < 0 then ([],0,10) else
  if (!Lib.hasSuffix ((b.drop p).take (Lib.indexByte (b.drop p) 10).toNat) [13]) || decide (0≤Lib.indexByte (Lib.trimSuffix ((b.drop p).take (Lib.indexByte (b.drop p) 10).toNat) [13]) 13) then ([],0,6) else
  if Lib.trimSuffix ((b.drop p).take (Lib.indexByte (b.drop p) 10).toNat) [13] = [] then (r,(p : Int) + Lib.indexByte (b.drop p) 10 + 1,0) else
  if (!(cutF 58 (Lib.trimSuffix ((b.drop p).take (Lib.indexByte (b.drop p) 10).toNat) [13])).2.2 || !tokenF (cutF 58 (Lib.trimSuffix ((b.drop p).take (Lib.indexByte (b.drop p) 10).toNat) [13])).1) || !plainB (cutF 58 (Lib.trimSuffix ((b.drop p).take (Lib.indexByte (b.drop p) 10).toNat) [13])).2.1 then ([],0,6) else
  if decide (2000 < (trimF (cutF 58 (Lib.trimSuffix ((b.drop p).take (Lib.indexByte (b.drop p) 10).toNat) [13])).2.1).length) || decide (r.length = 100) then ([],0,3) else
  hpG b m (p + (Lib.indexByte (b.drop p) 10).toNat + 1) (r ++ [⟨(cutF 58 (Lib.trimSuffix ((b.drop p).take (Lib.indexByte (b.drop p) 10).toNat) [13])).1,trimF (cutF 58 (Lib.trimSuffix ((b.drop p).take (Lib.indexByte (b.drop p) 10).toNat) [13])).2.1⟩])
def hparseF (b : List UInt8) : List HF×Int×Int:=hpG b (b.length + 1) 0 []
def spHParse : FSpec:=fun _ xs ls K=>∃ (b : List UInt8) (nl : Bool) (n : Int) (f : Nat→List SV),xs = [.sl (.a nl) (.a n) 1 f]∧ls = []∧RowU f n b∧b.length≤1000000∧
 ∀ l f1 n1 b1 k e,(l,k,e) = hparseF b→GrH f1 n1 b1 l→K (.tup [.sl (.a b1) (.a n1) 2 f1,.int .i64 (.a k),.int .i64 (.a e)]) []
structure HpJ (b : List UInt8) (k : List HF×Int×Int) (p : Nat) (P : Int) (m : Nat) (r : List HF) (f1 : Nat→List SV) (n1 : Int) (b1 : Bool) : Prop where
 eP : P = p
 le : p≤b.length
 le2 : p≤8192
 lt : b.length - p < m
 k : k = hpG b m p r
 G : GrH f1 n1 b1 r
 len : r.length≤100
def hpJ (b : List UInt8) (k : List HF×Int×Int) (nl : Bool) (n : Int) (f : Nat→List SV) (m : Nat) (vs : List (Option SV)) (hp : List Hl) : Prop :=
 ∃ (p : Nat) (P : Int) (r : List HF) (f1 : Nat→List SV) (n1 : Int) (b1 : Bool),vs = [some (.sl (.a nl) (.a n) 1 f),some (.gsl (.a b1) (.a n1) 2 f1 0),some (.int .i64 (.a P))]∧hp = [.tail 69 (.a n1) 2]∧HpJ b k p P m r f1 n1 b1
theorem indexB_lt {s : List UInt8} {c : UInt8} : -1≤Lib.indexByte s c∧(0≤Lib.indexByte s c→Lib.indexByte s c < (s.length : Int)):=by
 cases h : (cutF c s).2.2 with
 | false=>have:=(cutF_no h).2.2; rw [this]; exact ⟨by omega,fun h=>by omega⟩
 | true=>obtain ⟨h1,_,_,h4⟩:=cutF_yes h; rw [h1]; exact ⟨by omega,fun _=>by omega⟩
theorem hpG_small : ∀ (m p : Nat) (r : List HF) (b : List UInt8),b.length≤1000000→r.length≤100→(∀ x∈r,x.small)→(hpG b m p r).1.length≤100∧∀ x∈(hpG b m p r).1,x.small
 | 0,p,r,b,_,_,_=>⟨by simp [hpG],fun x hx=>by simp [hpG] at hx⟩
 | m + 1,p,r,b,hb,hr,hs=>by
  have h0 : ([] : List HF).length≤100∧∀ x∈([] : List HF),x.small:=⟨by simp,fun x hx=>by cases hx⟩
  unfold hpG
  split
  ·exact h0
  split
  ·exact h0
  split
  ·exact h0
  split
  ·exact ⟨hr,hs⟩
  split
  ·exact h0
  split
  ·exact h0
  rename_i h
  simp only [Bool.or_eq_true,decide_eq_true_eq,not_or] at h
  obtain ⟨h1,h2⟩:=h
  refine hpG_small m _ _ b hb (by rw [List.length_append]; simp only [List.length_cons,List.length_nil]; omega) fun x hx=>?_
  rcases List.mem_append.1 hx with hx | hx
  ·exact hs x hx
  ·have hx:=List.mem_singleton.1 hx
   subst hx
   refine ⟨?_,by show (trimF _).length≤_; omega⟩
   show (cutF 58 _).1.length≤_
   refine Nat.le_trans (cutF_len' 58 _).1 ?_
   rw [Lib.trimSuffix]
   have e : ((b.drop p).take (Lib.indexByte (b.drop p) 10).toNat).length≤1000000:=by rw [List.length_take,List.length_drop]; omega
   split
   ·rw [List.length_take]; omega
   ·omega
structure HpE (e : Int) (t : List UInt8) : Prop where
 lo : -1≤e
 hi : 0≤e→e < (t.length : Int)
structure HpS (s : List UInt8) : Prop where
 len : s.length≤8192
theorem finHP {D : Dn} (hD : D = dn) {l l' : List HF} {f f1 : Nat→List SV} {n n1 k e : Int} {b b1 : Bool} {x : BT} {y z w : ST} (h : (l,k,e) = (l',z.den,w.den)) (G : GrH f n b l') (hG : GrH f1 n1 b1 l) (hx : x.den = b) (hy : y.den = n) :
  Fin (.tup [.sl (.a (D.b x)) (.a (D.i y)) 2 f,.int .i64 (.a (D.i z)),.int .i64 (.a (D.i w))]) (.tup [.sl (.a b1) (.a n1) 2 f1,.int .i64 (.a k),.int .i64 (.a e)]) [] []:=by
 subst hD
 simp only [Prod.mk.injEq] at h
 obtain ⟨rfl,rfl,rfl⟩:=h
 exact finV (.tup (.cons (leGrH G hG hx hy) (.cons (leInt rfl) (.cons (leInt rfl) .nil))))
theorem hparse_ok : FnOk Tryz.prog gl 53 spHParse:=by
 refine fnOk (gh:=[(1,[.attach 5 69])]) mixed cxOk (tabCons idxRow_ok (tabCons cutSuf_ok (tabCons cont1_ok (tabCons cut_ok (tabCons token_ok (tabCons hplain_ok (tabCons trim64_ok tabNil))))))) Tryz.func53 (by kernel_rfl) (by kernel_rfl) ?_
 intro xs ls K h
 unfold spHParse at h
 obtain ⟨b,nl,n,f,rfl,rfl,R,hb,h⟩:=h
 obtain ⟨k,hk⟩ : ∃ k,k = hparseF b:=⟨_,rfl⟩
 have hS:=hpG_small (b.length + 1) 0 [] b hb (by simp) (fun x hx=>by cases hx)
 have hk0 : k = hpG b (b.length + 1) 0 []:=hk
 rw [←hk0] at hS
 obtain ⟨J,hJ⟩ : ∃ J,J = hpJ b k nl n f:=⟨_,rfl⟩
 obtain ⟨kl,kk,ke⟩:=k
 have hG : ∃ f1 n1 b1,GrH f1 n1 b1 kl:=⟨_,_,_,⟨RowH.row (by have:=hS.1; simp only at this; omega) (fun i hi=>hS.2 _ (by rw [List.getD_eq_getElem?_getD,List.getElem?_eq_getElem hi]; exact List.getElem_mem hi)),rfl⟩⟩
 obtain ⟨f1,n1,b1,hG⟩:=hG
 clear hS
 refine ⟨_,_,h kl f1 n1 b1 kk ke hk hG,fun D hD=>?_⟩
 cbv
 clear h
 refine ⟨[0,5,6],J,⟨rfl,b.length + 1,?_⟩,?_⟩
 ·rw [hJ]
  subst hD
  exact ⟨0,_,[],_,_,_,rfl,rfl,⟨rfl,by omega,by omega,by omega,hk0,GrH.nil,by simp⟩⟩
 clear hk hk0
 intro m vs hp hj
 rw [hJ] at hj
 obtain ⟨p,P,r,e1,m1,c1,rfl,rfl,V⟩:=hj
 have hP:=V.eP
 have hle:=V.le
 have hk:=V.k
 obtain ⟨m0,rfl⟩ : ∃ m0,m = m0 + 1:=⟨m - 1,by have:=V.lt; omega⟩
 rw [hpG,←hP] at hk
 obtain ⟨t,ht⟩ : ∃ t,t = b.drop p:=⟨_,rfl⟩
 rw [←ht] at hk
 have htl : t.length = b.length - p:=by rw [ht,List.length_drop]
 have VP : VI P p:=⟨hP⟩
 clear hP
 refine ⟨by subst hD; exact ⟨by show (0 : Int)≤P; rw [VP.h]; omega,by show P≤n; rw [VP.h,R.n]; omega,Int.le_refl _⟩,fun f2 n2 hsub=>?_⟩
 cbv
 have R2 : RowU f2 n2 t:=by
  have:=R.sub (a:=p) (b:=b.length) hsub (by subst hD; exact VP.h) (by subst hD; exact R.n) hle (Nat.le_refl _)
  rw [ht]
  have e : (b.drop p).take (b.length - p) = b.drop p:=List.take_of_length_le (by rw [List.length_drop]; exact Nat.le_refl _)
  rwa [e] at this
 clear hsub
 refine ⟨t,_,_,_,f2,rfl,rfl,by subst hD; exact R2,by subst hD; rfl,fun e he=>?_⟩
 cbv
 rw [←he] at hk
 have hb1 : HpE e t:=by rw [he]; exact ⟨indexB_lt.1,indexB_lt.2⟩
 have hdn : decide (8192 < n) = decide (8192 < b.length):=by rw [decide_eq_decide,R.n]; omega
 refine br hD (fun h=>?_) (fun h=>?_)<;>cbv
 ·have h : (decide (e < 0) && decide (8192 < n)) = true:=h
  rw [hdn] at h
  rw [if_pos (by rw [h]; rfl)] at hk
  exact finHP hD hk GrH.nil hG rfl rfl
 have h1 : (decide (e < 0) && decide (8192 < b.length)) = false:=by
  have h : (decide (e < 0) && decide (8192 < n)) = false:=h
  rw [hdn] at h
  exact h
 rw [h1,Bool.false_or] at hk
 clear h
 have hw1 : IntKind.i64.wrap (P + e) = P + e:=by have:=VP.h; have:=hb1.lo; have:=hb1.hi; exact wrap64 (by omega) (by omega)
 refine br hD (fun h=>?_) (fun h=>?_)<;>cbv
 ·have h : decide (8192≤IntKind.i64.wrap (P + e)) = true:=h
  rw [hw1] at h
  rw [if_pos h] at hk
  exact finHP hD hk GrH.nil hG rfl rfl
 have h2 : ¬ 8192≤P + e:=by
  have h : decide (8192≤IntKind.i64.wrap (P + e)) = false:=h
  rw [hw1] at h
  simpa using h
 rw [if_neg (by simpa using h2)] at hk
 clear h
 refine br hD (fun h=>?_) (fun h=>?_)<;>cbv
 ·have h : decide (e < 0) = true:=h
  rw [if_pos (by simpa using h)] at hk
  exact finHP hD hk GrH.nil hG rfl rfl
 have h3 : ¬ e < 0:=by
  have h : decide (e < 0) = false:=h
  simpa using h
 rw [if_neg h3] at hk
 clear h
 obtain ⟨q,hq⟩ : ∃ q : Nat,q = e.toNat:=⟨_,rfl⟩
 rw [←hq] at hk
 have VE : VI e q:=⟨by omega⟩
 have hql : q < t.length:=by have:=hb1.hi (by omega); have:=VE.h; omega
 have hpq : p + q < 8192:=by have:=VP.h; have:=VE.h; omega
 clear hq h1 h2 h3
 refine ⟨by subst hD; exact ⟨by show (0 : Int)≤P; rw [VP.h]; omega,by show P≤IntKind.i64.wrap (P + e); rw [hw1,VE.h]; omega,by show IntKind.i64.wrap (P + e)≤n; rw [hw1,VP.h,VE.h,R.n]; omega⟩,fun f3 n3 hsub=>?_⟩
 cbv
 have R3 : RowU f3 n3 (t.take q):=by
  have:=R.sub (a:=p) (b:=p + q) hsub (by subst hD; exact VP.h) (by subst hD; show IntKind.i64.wrap (P + e) = _; rw [hw1,VP.h,VE.h]; omega) (by omega) (by omega)
  rw [←ht] at this
  have e : p + q - p = q:=by omega
  rwa [e] at this
 clear hsub
 refine ⟨by subst hD; exact R3.byte,fun s hs=>?_⟩
 cbv
 have hs : s = t.take q:=by subst hD; exact R3.str hs
 rw [←hs] at hk
 have hsl : HpS s:=⟨by rw [hs,List.length_take]; omega⟩
 clear hs R3
 refine ⟨s,[13],rfl,rfl,by have:=hsl.len; omega,fun l is hl his=>?_⟩
 cbv
 rw [←hl,←his] at hk
 have hll : HpS l:=⟨by
  have:=hsl.len
  rw [hl,Lib.trimSuffix]
  split
  ·rw [List.length_take]; omega
  ·exact this⟩
 clear hl his hsl
 refine ⟨l,13,rfl,rfl,fun cc hcc=>?_⟩
 cbv
 rw [←hcc] at hk
 clear hcc
 refine br hD (fun h=>?_) (fun h=>?_)<;>cbv
 ·have h : (!is || cc) = true:=h
  rw [if_pos h] at hk
  exact finHP hD hk GrH.nil hG rfl rfl
 have h : (!is || cc) = false:=h
 rw [if_neg (by rw [h]; simp)] at hk
 clear h
 have hw2 : IntKind.i64.wrap (P + IntKind.i64.wrap (e + 1)) = P + e + 1:=by
  have:=VP.h; have:=VE.h
  rw [wrap64 (n:=e + 1) (by omega) (by omega),wrap64 (by omega) (by omega)]; omega
 refine br hD (fun h=>?_) (fun h=>?_)<;>cbv
 ·have h1 : l = []:=by
   have h : (l == []) = true:=h
   exact eq_of_beq h
  rw [if_pos h1] at hk
  exact finHP hD (by rw [hk]; rw [←hw2]; rfl) V.G hG rfl rfl
 have h1 : ¬ l = []:=by
  have h : (l == []) = false:=h
  intro e; rw [e] at h; simp at h
 rw [if_neg h1] at hk
 clear h h1
 obtain ⟨c,hc⟩ : ∃ c,c = cutF 58 l:=⟨_,rfl⟩
 rw [←hc] at hk
 refine ⟨l,58,rfl,rfl,by have:=hll.len; omega,fun na va ok hc2=>?_⟩
 cbv
 rw [←hc] at hc2
 subst hc2
 have hnl : HpS na:=⟨by have h:=(cutF_len' 58 l).1; rw [←hc] at h; exact Nat.le_trans h hll.len⟩
 have hvl : HpS va:=⟨by have h:=(cutF_len' 58 l).2; rw [←hc] at h; exact Nat.le_trans h hll.len⟩
 clear hc hll
 refine ⟨na,rfl,rfl,by have:=hnl.len; omega,fun tk htk=>?_⟩
 cbv
 rw [←htk] at hk
 clear htk
 refine ⟨va,rfl,rfl,fun pl hpl=>?_⟩
 cbv
 simp only at hk
 rw [←hpl] at hk
 clear hpl
 refine br hD (fun h=>?_) (fun h=>?_)<;>cbv
 ·have h : ((!ok || !tk) || !pl) = true:=h
  rw [if_pos h] at hk
  exact finHP hD hk GrH.nil hG rfl rfl
 have h : ((!ok || !tk) || !pl) = false:=h
 rw [if_neg (by rw [h]; simp)] at hk
 clear h
 refine ⟨va,[32,9],rfl,rfl,by have:=hvl.len; omega,by decide,by decide,fun v hv=>?_⟩
 cbv
 have hv : v = trimF va:=by rw [hv,trimS_eq]
 rw [←hv] at hk
 clear hv hvl
 have hm1 : m1 = (r.length : Int):=V.G.row.n
 have hd2 : decide (m1 = 100) = decide (r.length = 100):=by rw [decide_eq_decide,hm1]; omega
 refine br hD (fun h=>?_) (fun h=>?_)<;>cbv
 ·have h : (decide (2000 < (v.length : Int)) || (m1 == 100)) = true:=h
  have h : (decide (2000 < v.length) || decide (r.length = 100)) = true:=by
   rw [←hd2]
   rcases Bool.or_eq_true_iff.1 h with h | h
   ·rw [decide_eq_true (by have:=of_decide_eq_true h; omega)]; rfl
   ·rw [decide_eq_true (eq_of_beq h)]; simp
  rw [if_pos h] at hk
  exact finHP hD hk GrH.nil hG rfl rfl
 have h : ¬ 2000 < v.length∧¬ r.length = 100:=by
  have h : (decide (2000 < (v.length : Int)) || (m1 == 100)) = false:=h
  rw [Bool.or_eq_false_iff] at h
  refine ⟨fun e=>?_,fun e=>?_⟩
  ·have:=of_decide_eq_false h.1; omega
  ·have h2:=h.2; rw [hm1,e] at h2; simp at h2
 obtain ⟨h4,h5⟩:=h
 rw [if_neg (by simp [h4,h5])] at hk
 have hvs : HpS v:=⟨by omega⟩
 clear h4 hd2 hm1
 intro g hg
 cbv
 have hg0 : g 0 = hfCells ⟨na,v⟩:=hg.h 0 _ rfl
 clear hg
 have hN : m1 = (r.length : Int):=V.G.row.n
 have hrl:=V.len
 refine ⟨by subst hD; exact ⟨rfl,by show (m1 + 1) * 32≤_; omega,by show m1 + 1≤_; omega⟩,fun f' n' hm=>?_⟩
 cbv
 have G2 : ∀ nl',nl' = false→GrH f' n' nl' (r ++ [⟨na,v⟩]):=fun nl' hb=>V.G.more hg0 ⟨by have:=hnl.len; show na.length≤_; omega,by have:=hvs.len; show v.length≤_; omega⟩ (by subst hD; exact hm) (by omega) hb
 clear hm hN
 refine ⟨m0,Nat.lt_succ_self _,?_⟩
 rw [hJ]
 unfold hpJ
 subst hD
 exact ⟨p + q + 1,_,r ++ [⟨na,v⟩],f',n',(c1 && false),rfl,rfl,⟨by show IntKind.i64.wrap (P + IntKind.i64.wrap (e + 1)) = _; rw [hw2,VP.h,VE.h]; omega,by omega,by omega,by have:=V.lt; omega,hk,G2 _ (Bool.and_false _),by rw [List.length_append]; simp only [List.length_cons,List.length_nil]; omega⟩⟩
end Go.Proofs.YtefelnhpfdcleaaGreatDoor
namespace Go.Proofs.YtefelnhpfdcleaaGreatDoor
open Go Go.Sx
set_option maxRecDepth 100000
set_option maxHeartbeats 16000000
theorem hpG_val (b : List UInt8) : ∀ (m p : Nat) (r : List HF),p≤b.length→(∀ x∈r,x.value.length≤2000)→
  (∀ x∈(hpG b m p r).1,x.value.length≤2000)∧0≤(hpG b m p r).2.1∧(hpG b m p r).2.1≤b.length
 | 0,p,r,_,_=>⟨fun x hx=>by simp [hpG] at hx,by simp [hpG],by simp [hpG]⟩
 | m + 1,p,r,hp,hs=>by
  have h0 : ∀ z : Int,(∀ x∈(([],0,z) : List HF×Int×Int).1,x.value.length≤2000)∧0≤(([],0,z) : List HF×Int×Int).2.1∧(([],0,z) : List HF×Int×Int).2.1≤(b.length : Int):=fun z=>⟨fun x hx=>(nomatch hx),by simp,by simp⟩
  have hi:=indexB_lt (s:=b.drop p) (c:=10)
  rw [List.length_drop] at hi
  unfold hpG
  split
  ·exact h0 _
  split
  ·exact h0 _
  rename_i hn
  have hi2:=hi.2 (by omega)
  split
  ·exact h0 _
  split
  ·exact ⟨hs,by show 0≤(p : Int) + _ + 1; omega,by show (p : Int) + _ + 1≤_; omega⟩
  split
  ·exact h0 _
  split
  ·exact h0 _
  rename_i h
  simp only [Bool.or_eq_true,decide_eq_true_eq,not_or] at h
  obtain ⟨h1,h2⟩:=h
  refine hpG_val b m _ _ (by omega) fun x hx=>?_
  rcases List.mem_append.1 hx with hx | hx
  ·exact hs x hx
  ·have hx:=List.mem_singleton.1 hx
   subst hx
   show (trimF _).length≤_
   omega
theorem hparse_val (b : List UInt8) : (∀ x∈(hparseF b).1,x.value.length≤2000)∧0≤(hparseF b).2.1∧(hparseF b).2.1≤b.length:=hpG_val b _ 0 [] (by omega) (fun x hx=>by cases hx)
structure FrSm (r : Fr) : Prop where
 hosts : ∀ s∈r.hosts,s.length≤2000
 ids : ∀ s∈r.ids,s.length≤2000
 lens : ∀ s∈r.lens,s.length≤2000
theorem frame_val : ∀ (l : List HF) (r : Fr),(∀ x∈l,x.value.length≤2000)→FrSm r→FrSm (l.foldl frStep r)
 | [],_,_,h=>h
 | x :: l,r,hl,h=>by
  have hx:=hl x (List.mem_cons_self ..)
  refine frame_val l _ (fun y hy=>hl y (List.mem_cons_of_mem _ hy)) ?_
  have ap : ∀ {a : List (List UInt8)},(∀ s∈a,s.length≤2000)→∀ s∈a ++ [x.value],s.length≤2000:=by
   intro a ha s hs
   rcases List.mem_append.1 hs with hs | hs
   ·exact ha s hs
   ·rw [List.mem_singleton.1 hs]; exact hx
  unfold frStep
  split
  ·exact ⟨ap h.hosts,h.ids,h.lens⟩
  split
  ·exact ⟨h.hosts,ap h.ids,h.lens⟩
  split
  ·exact ⟨h.hosts,h.ids,ap h.lens⟩
  split
  ·exact ⟨h.hosts,h.ids,h.lens⟩
  ·exact ⟨h.hosts,h.ids,h.lens⟩
theorem frameF_val {l : List HF} (h : ∀ x∈l,x.value.length≤2000) : FrSm (frameF l) :=
 frame_val l _ h ⟨fun s hs=>(nomatch hs),fun s hs=>(nomatch hs),fun s hs=>(nomatch hs)⟩
theorem numberF_val (s : List UInt8) (hi : Int) (h0 : 0≤hi) : 0≤(numberF s hi).1∧(numberF s hi).1≤hi:=by
 unfold numberF intF
 split
 ·exact ⟨by simp,h0⟩
 split
 ·exact ⟨by simp,h0⟩
 split
 ·exact ⟨by simp,h0⟩
 ·rename_i h
  simp only [not_or] at h
  exact ⟨by show 0≤(pInt s).1; omega,by show (pInt s).1≤hi; omega⟩
theorem readLineF_val (b : List UInt8) : 0≤(readLineF b).2.2.1∧(readLineF b).2.2.1≤b.length∧(readLineF b).1.length≤1025∧(readLineF b).2.1.length≤1025:=by
 have h0 : ∀ z : Int,0≤(([],[],0,z) : List UInt8×List UInt8×Int×Int).2.2.1∧(([],[],0,z) : List UInt8×List UInt8×Int×Int).2.2.1≤(b.length : Int)∧(([],[],0,z) : List UInt8×List UInt8×Int×Int).1.length≤1025∧(([],[],0,z) : List UInt8×List UInt8×Int×Int).2.1.length≤1025:=fun z=>⟨by simp,by simp,by simp,by simp⟩
 unfold readLineF
 split
 ·exact h0 _
 split
 ·exact h0 _
 rename_i h1
 split
 ·exact h0 _
 have h2 : (cutF 10 (b.take 1024)).2.2 = true:=by simpa using h1
 obtain ⟨_,_,_,h4⟩:=cutF_yes h2
 rw [List.length_take] at h4
 have ht : (Lib.trimSuffix ((cutF 10 (b.take 1024)).1 ++ [10]) rVer).length≤1025:=by
  rw [Lib.trimSuffix]
  split
  ·rw [List.length_take]; simp only [List.length_append,List.length_cons,List.length_nil]; omega
  ·simp only [List.length_append,List.length_cons,List.length_nil]; omega
 have hc:=cutF_len' 32 (Lib.trimSuffix ((cutF 10 (b.take 1024)).1 ++ [10]) rVer)
 exact ⟨by show 0≤((cutF 10 (b.take 1024)).1.length : Int) + 1; omega,by show ((cutF 10 (b.take 1024)).1.length : Int) + 1≤_; omega,Nat.le_trans hc.1 ht,Nat.le_trans hc.2 ht⟩
def rqZ : Rq:=⟨0,[],[],[],[],[]⟩
def parseD (b : List UInt8) (r : Rq) (p sz : Int) : Rq×Int×Int :=
 if (checkRF r).2≠0 then (rqZ,0,(checkRF r).2) else if decide (0 < sz) && bareF r.method then (rqZ,0,2) else if (b.length : Int) - p < sz then (rqZ,0,10) else
 (⟨r.id,r.method,r.target,r.host,r.fields,(b.drop p.toNat).take sz.toNat⟩,p + sz,0)
def parseC (b me ta : List UInt8) (p : Int) (ho : List UInt8) (fs : List HF) (ia la : Int×Int) : Rq×Int×Int :=
 if ia.2 = 6∨la.2 = 6 then (rqZ,0,6) else if la.2≠0 then (rqZ,0,3) else parseD b ⟨ia.1,me,ta,ho,fs,[]⟩ p la.1
def frBad (fr : Fr) : Bool:=((fr.hosts.length != 1 || fr.ids.length != 1) || decide (1 < fr.lens.length)) || fr.coded
def lenS (fr : Fr) : List UInt8:=if fr.lens.length = 0 then [48] else fr.lens.getD 0 []
def parseB (b me ta : List UInt8) (p : Int) (fr : Fr) : Rq×Int×Int :=
 if frBad fr then (rqZ,0,6) else parseC b me ta p (fr.hosts.getD 0 []) fr.rest (numberF (fr.ids.getD 0 []) 1000000000) (numberF (lenS fr) 65536)
def parseF (b : List UInt8) : Rq×Int×Int :=
 if (readLineF b).2.2.2≠0 then (rqZ,0,(readLineF b).2.2.2) else
 if (hparseF (b.drop (readLineF b).2.2.1.toNat)).2.2≠0 then (rqZ,0,(hparseF (b.drop (readLineF b).2.2.1.toNat)).2.2) else
 parseB b (readLineF b).1 (readLineF b).2.1 ((readLineF b).2.2.1 + (hparseF (b.drop (readLineF b).2.2.1.toNat)).2.1) (frameF (hparseF (b.drop (readLineF b).2.2.1.toNat)).1)
def spParse : FSpec:=fun _ xs ls K=>∃ (b : List UInt8) (nl : Bool) (n : Int) (f : Nat→List SV),xs = [.sl (.a nl) (.a n) 1 f]∧ls = []∧RowU f n b∧b.length≤1000000∧
 ∀ r f1 n1 b1 k e,(r,k,e) = parseF b→GrH f1 n1 b1 r.fields→K (.tup [.agg [.int .i64 (.a r.id),.str r.method,.str r.target,.str r.host,.sl (.a b1) (.a n1) 2 f1,.str r.body],.int .i64 (.a k),.int .i64 (.a e)]) []
theorem parseF_row (b : List UInt8) (hb : b.length≤1000000) : ∃ f1 n1 b1,GrH f1 n1 b1 (parseF b).1.fields:=by
 have h0 : ∃ f1 n1 b1,GrH f1 n1 b1 rqZ.fields:=⟨_,_,_,GrH.nil⟩
 unfold parseF
 split
 ·exact h0
 split
 ·exact h0
 unfold parseB
 split
 ·exact h0
 unfold parseC
 split
 ·exact h0
 split
 ·exact h0
 unfold parseD
 split
 ·exact h0
 split
 ·exact h0
 split
 ·exact h0
 obtain ⟨c,hc⟩ : ∃ c,c = b.drop (readLineF b).2.2.1.toNat:=⟨_,rfl⟩
 rw [←hc]
 have hcl : c.length≤1000000:=by rw [hc,List.length_drop]; omega
 have hS:=hpG_small (c.length + 1) 0 [] c hcl (by simp) (fun x hx=>by cases hx)
 obtain ⟨L1,L2,L3,L4,L5⟩:=frame_len (hparseF c).1 ⟨[],[],[],false,[]⟩ hS.2 (fun x hx=>by cases hx)
 have hl : (hparseF c).1.length≤100:=hS.1
 simp only [List.length_nil] at L4
 exact ⟨_,_,_,⟨RowH.row (l:=(frameF (hparseF c).1).rest) (by unfold frameF; omega) (fun i hi=>L5 _ (by rw [List.getD_eq_getElem?_getD,List.getElem?_eq_getElem hi]; exact List.getElem_mem hi)),rfl⟩⟩
structure PV (b me ta : List UInt8) (p : Int) : Prop where
 lo : 0≤p
 hi : p≤(b.length : Int)
 me : me.length≤1025
 ta : ta.length≤1025
theorem finPs {D : Dn} (hD : D = dn) {l l' : Rq} {f f1 : Nat→List SV} {n n1 k e : Int} {b b1 : Bool} {x : BT} {i y z w : ST} {me ta ho bo : List UInt8} (h : (l,k,e) = (l',z.den,w.den)) (h1 : i.den = l'.id) (h2 : me = l'.method) (h3 : ta = l'.target) (h4 : ho = l'.host) (h5 : bo = l'.body) (G : GrH f n b l'.fields) (hG : GrH f1 n1 b1 l.fields) (hx : x.den = b) (hy : y.den = n) :
  Fin (.tup [.agg [.int .i64 (.a (D.i i)),.str me,.str ta,.str ho,.sl (.a (D.b x)) (.a (D.i y)) 2 f,.str bo],.int .i64 (.a (D.i z)),.int .i64 (.a (D.i w))]) (.tup [.agg [.int .i64 (.a l.id),.str l.method,.str l.target,.str l.host,.sl (.a b1) (.a n1) 2 f1,.str l.body],.int .i64 (.a k),.int .i64 (.a e)]) [] []:=by
 subst hD h2 h3 h4 h5
 simp only [Prod.mk.injEq] at h
 obtain ⟨rfl,rfl,rfl⟩:=h
 exact finV (.tup (.cons (LeV.agg (.cons (leInt h1) (.cons (LeV.refl _) (.cons (LeV.refl _) (.cons (LeV.refl _) (.cons (leGrH G hG hx hy) (.cons (LeV.refl _) .nil))))))) (.cons (leInt rfl) (.cons (leInt rfl) .nil))))
theorem parse_ok : FnOk Tryz.prog gl 22 spParse:=by
 refine fnOk (gh:=[]) mixed cxOk (tabCons readLine_ok (tabCons hparse_ok (tabCons frame_ok (tabCons number_ok (tabCons checkR_ok (tabCons isBare_ok tabNil)))))) Tryz.func22 (by kernel_rfl) (by kernel_rfl) ?_
 intro xs ls K h
 unfold spParse at h
 obtain ⟨b,nl,n,f,rfl,rfl,R,hb,h⟩:=h
 obtain ⟨k,hk0⟩ : ∃ k,k = parseF b:=⟨_,rfl⟩
 obtain ⟨f1,n1,b1,hG⟩:=parseF_row b hb
 rw [←hk0] at hG
 obtain ⟨kr,kk,ke⟩:=k
 have hk:=hk0
 unfold parseF at hk
 have hrv:=readLineF_val b
 obtain ⟨rl,hrl⟩ : ∃ c,c = readLineF b:=⟨_,rfl⟩
 rw [←hrl] at hk hrv
 obtain ⟨me,ta,p,e0⟩:=rl
 simp only at hk hrv
 have PV0 : PV b me ta p:=⟨hrv.1,hrv.2.1,hrv.2.2.1,hrv.2.2.2⟩
 clear hrv
 refine ⟨_,_,h kr f1 n1 b1 kk ke hk0 hG,fun D hD=>?_⟩
 cbv
 clear h hk0
 refine ⟨b,_,_,_,rfl,rfl,by subst hD; exact R,hb,fun me' ta' p' e0' hm=>?_⟩
 cbv
 rw [←hrl] at hm
 simp only [Prod.mk.injEq] at hm
 obtain ⟨rfl,rfl,rfl,rfl⟩:=hm
 clear hrl
 refine br hD (fun h=>?_) (fun h=>?_)<;>cbv
 ·have h1 : ¬ e0' = 0:=by have h : (e0' != 0) = true:=h; simpa using h
  rw [if_pos h1] at hk
  exact finPs hD hk rfl rfl rfl rfl rfl GrH.nil hG rfl rfl
 rw [if_neg (by have h : (e0' != 0) = false:=h; simpa using h)] at hk
 clear h
 obtain ⟨P,hP⟩ : ∃ P : Nat,P = p'.toNat:=⟨_,rfl⟩
 rw [←hP] at hk
 have VP : VI p' P:=⟨by have:=PV0.lo; omega⟩
 clear hP
 obtain ⟨t,ht⟩ : ∃ t,t = b.drop P:=⟨_,rfl⟩
 rw [←ht] at hk
 refine ⟨by subst hD; exact ⟨PV0.lo,by show p'≤n; rw [R.n]; exact PV0.hi,Int.le_refl _⟩,fun f2 n2 hsub=>?_⟩
 cbv
 have R2 : RowU f2 n2 t:=by
  have:=R.sub (a:=P) (b:=b.length) hsub (by subst hD; exact VP.h) (by subst hD; exact R.n) (by have:=VP.h; have:=PV0.hi; omega) (Nat.le_refl _)
  rw [ht]
  have e : (b.drop P).take (b.length - P) = b.drop P:=List.take_of_length_le (by rw [List.length_drop]; exact Nat.le_refl _)
  rwa [e] at this
 have htl : VI (t.length : Int) (b.length - P):=⟨by rw [ht,List.length_drop]⟩
 clear hsub ht
 have htm : t.length≤1000000:=by have:=htl.h; omega
 have hv1:=hparse_val t
 have hv2 : (hparseF t).1.length≤100∧∀ x∈(hparseF t).1,x.small:=hpG_small (t.length + 1) 0 [] t htm (by simp) (fun x hx=>by cases hx)
 obtain ⟨hp,hhp⟩ : ∃ c,c = hparseF t:=⟨_,rfl⟩
 rw [←hhp] at hk hv1 hv2
 obtain ⟨l,c,e1⟩:=hp
 simp only at hk hv1 hv2
 have PC : PV t me' ta' c:=⟨hv1.2.1,hv1.2.2,PV0.me,PV0.ta⟩
 have FS:=frameF_val hv1.1
 obtain ⟨hv21,hv22⟩:=hv2
 clear hv1
 refine ⟨t,_,_,_,rfl,rfl,by subst hD; exact R2,htm,fun l' g2 gn gb c' e1' hm hg2=>?_⟩
 cbv
 rw [←hhp] at hm
 simp only [Prod.mk.injEq] at hm
 obtain ⟨rfl,rfl,rfl⟩:=hm
 clear hhp
 refine br hD (fun h=>?_) (fun h=>?_)<;>cbv
 ·have h1 : ¬ e1' = 0:=by have h : (e1' != 0) = true:=h; simpa using h
  rw [if_pos h1] at hk
  exact finPs hD hk rfl rfl rfl rfl rfl GrH.nil hG rfl rfl
 rw [if_neg (by have h : (e1' != 0) = false:=h; simpa using h)] at hk
 clear h
 obtain ⟨fr,hfr⟩ : ∃ c,c = frameF l':=⟨_,rfl⟩
 rw [←hfr] at hk FS
 refine ⟨l',_,_,_,rfl,rfl,by subst hD; exact hg2.row,hv21,fun fr' g3 g4 g5 g6 m3 m4 m5 m6 q3 q4 q5 q6 hfr' FV=>?_⟩
 cbv
 rw [←hfr] at hfr'
 subst hfr'
 clear hfr hg2
 have N3:=FV.g1.row.n
 have N4:=FV.g2.row.n
 have N5:=FV.g3.row.n
 have hbad : (((m3 != 1 || m4 != 1) || decide (1 < m5)) || fr'.coded) = frBad fr':=by
  unfold frBad
  have a1 : (m3 != 1) = (fr'.hosts.length != 1):=by rw [N3,Bool.eq_iff_iff]; simp only [bne_iff_ne]; omega
  have a2 : (m4 != 1) = (fr'.ids.length != 1):=by rw [N4,Bool.eq_iff_iff]; simp only [bne_iff_ne]; omega
  have a3 : decide (1 < m5) = decide (1 < fr'.lens.length):=by rw [N5,decide_eq_decide]; omega
  rw [a1,a2,a3]
 have VN : VI m3 fr'.hosts.length∧VI m4 fr'.ids.length∧VI m5 fr'.lens.length:=⟨⟨N3⟩,⟨N4⟩,⟨N5⟩⟩
 clear N3 N4 N5
 refine br hD (fun h=>?_) (fun h=>?_)<;>cbv
 ·have h1 : frBad fr' = true:=by rw [←hbad]; exact h
  rw [parseB,if_pos h1] at hk
  exact finPs hD hk rfl rfl rfl rfl rfl GrH.nil hG rfl rfl
 have h1 : frBad fr' = false:=by rw [←hbad]; exact h
 rw [parseB,if_neg (by rw [h1]; simp)] at hk
 clear h hbad
 have hl1 : fr'.hosts.length = 1∧fr'.ids.length = 1∧fr'.lens.length≤1:=by unfold frBad at h1; simp only [Bool.or_eq_false_iff,bne_eq_false_iff_eq,decide_eq_false_iff_not] at h1; omega
 clear h1
 obtain ⟨ids0,hids⟩ : ∃ c,c = fr'.ids.getD 0 []:=⟨_,rfl⟩
 obtain ⟨ho0,hho⟩ : ∃ c,c = fr'.hosts.getD 0 []:=⟨_,rfl⟩
 have hids0 : ids0.length≤2000:=FS.ids _ (by rw [hids,List.getD_eq_getElem?_getD,List.getElem?_eq_getElem (by omega)]; exact List.getElem_mem _)
 have hho0 : ho0.length≤2000:=FS.hosts _ (by rw [hho,List.getD_eq_getElem?_getD,List.getElem?_eq_getElem (by omega)]; exact List.getElem_mem _)
 rw [←hids,←hho] at hk
 refine br hD (fun h=>?_) (fun h=>?_)<;>cbv
 ·have h : (m5 == 0) = true:=h
  have hl5 : fr'.lens.length = 0:=by have:=VN.2.2.h; have:=eq_of_beq h; omega
  obtain ⟨len0,hlen⟩ : ∃ c : List UInt8,c = [48]:=⟨_,rfl⟩
  have hls : lenS fr' = len0:=by rw [lenS,if_pos hl5,hlen]
  have hlen0 : len0.length≤2000:=by rw [hlen]; simp
  rw [hls] at hk
  clear h
  intro g hg
  cbv
  have q2 : g 0 = [.str len0]:=by rw [hlen]; exact hg.h 0 _ rfl
  clear hg
  clear hlen
  refine ⟨by subst hD; exact ⟨Int.le_refl _,by show (0 : Int) < m4; rw [VN.2.1.h]; omega⟩,fun j hj=>?_⟩
  obtain rfl : j = 0:=by subst hD; exact Int.ofNat.inj hj.h
  clear hj
  have q1:=FV.g2.row.f 0 (by omega)
  rw [←hids] at q1
  cbv
  rw [q1]
  cbv
  refine ⟨ids0,_,rfl,rfl,by omega,fun iv ie hi=>?_⟩
  cbv
  have hi : (iv,ie) = numberF ids0 1000000000:=by subst hD; exact hi
  rw [←hi] at hk
  have NI:=numberF_val ids0 1000000000 (by omega)
  rw [←hi] at NI
  simp only at NI
  clear hi
  refine ⟨by subst hD; exact ⟨Int.le_refl _,by show (0 : Int) < 1; decide⟩,fun j hj=>?_⟩
  obtain rfl : j = 0:=by subst hD; exact Int.ofNat.inj hj.h
  clear hj
  cbv
  rw [q2]
  cbv
  refine ⟨len0,_,rfl,rfl,by omega,fun sv se hi=>?_⟩
  cbv
  have hi : (sv,se) = numberF len0 65536:=by subst hD; exact hi
  rw [←hi] at hk
  have NS:=numberF_val len0 65536 (by omega)
  rw [←hi] at NS
  simp only at NS
  clear hi q1 q2
  rw [parseC] at hk
  simp only at hk
  refine br hD (fun h=>?_) (fun h=>?_)<;>cbv
  ·have h : (ie == 6 || se == 6) = true:=h
   rw [if_pos (by simpa using h)] at hk
   exact finPs hD hk rfl rfl rfl rfl rfl GrH.nil hG rfl rfl
  have h : (ie == 6 || se == 6) = false:=h
  rw [if_neg (by rw [Bool.or_eq_false_iff] at h; have h2:=h.1; have h3:=h.2; simp only [beq_eq_false_iff_ne] at h2 h3; omega)] at hk
  clear h
  refine br hD (fun h=>?_) (fun h=>?_)<;>cbv
  ·have h : (se != 0) = true:=h
   rw [if_pos (by simpa using h)] at hk
   exact finPs hD hk rfl rfl rfl rfl rfl GrH.nil hG rfl rfl
  have h : (se != 0) = false:=h
  rw [if_neg (by simpa using h)] at hk
  clear h
  refine ⟨by subst hD; exact ⟨Int.le_refl _,by show (0 : Int) < m3; rw [VN.1.h]; omega⟩,fun j hj=>?_⟩
  obtain rfl : j = 0:=by subst hD; exact Int.ofNat.inj hj.h
  clear hj
  have q1:=FV.g1.row.f 0 (by omega)
  rw [←hho] at q1
  cbv
  rw [q1]
  cbv
  clear q1
  rw [parseD] at hk
  simp only at hk
  have hkn : (b.length : Int) = n:=R.n.symm
  rw [hkn] at hk
  refine ⟨⟨D.i (.a iv),me',ta',ho0,fr'.rest,[]⟩,_,_,_,rfl,rfl,by subst hD; exact ⟨by show _≤iv; omega,by show iv≤_; omega,by have:=PV0.me; show me'.length≤_; omega,by have:=PV0.ta; show ta'.length≤_; omega,by show ho0.length≤_; omega,by simp,FV.g4.row,fun e=>by have:=FV.g4.nl; have e : q6 = true:=e; rw [e] at this; exact List.isEmpty_iff.1 this.symm⟩,fun cp ce hce=>?_⟩
  cbv
  have hce : (cp,ce) = checkRF ⟨iv,me',ta',ho0,fr'.rest,[]⟩:=by subst hD; exact hce
  rw [←hce] at hk
  simp only at hk
  clear hce
  refine br hD (fun h=>?_) (fun h=>?_)<;>cbv
  ·have h : (ce != 0) = true:=h
   rw [if_pos (by simpa using h)] at hk
   exact finPs hD hk rfl rfl rfl rfl rfl GrH.nil hG rfl rfl
  have h : (ce != 0) = false:=h
  rw [if_neg (by simpa using h)] at hk
  clear h
  refine ⟨me',rfl,rfl,by have:=PV0.me; omega,fun bb hbb=>?_⟩
  cbv
  rw [←hbb] at hk
  clear hbb
  refine br hD (fun h=>?_) (fun h=>?_)<;>cbv
  ·have h : (decide (0 < sv) && bb) = true:=h
   rw [if_pos h] at hk
   exact finPs hD hk rfl rfl rfl rfl rfl GrH.nil hG rfl rfl
  have h : (decide (0 < sv) && bb) = false:=h
  rw [if_neg (by rw [h]; simp)] at hk
  clear h
  have hw : IntKind.i64.wrap (p' + c') = p' + c':=wrap64 (by have:=PV0.lo; have:=PC.lo; omega) (by have:=PC.hi; have:=PV0.hi; omega)
  have hws : IntKind.i64.wrap (n - IntKind.i64.wrap (p' + c')) = n - (p' + c'):=by rw [hw]; exact wrap64 (by have:=PC.hi; have:=PV0.hi; have:=R.n; omega) (by have:=PV0.lo; have:=PC.lo; have:=R.n; omega)
  refine br hD (fun h=>?_) (fun h=>?_)<;>cbv
  ·have h : decide (IntKind.i64.wrap (n - IntKind.i64.wrap (p' + c')) < sv) = true:=h
   rw [hws] at h
   rw [if_pos (of_decide_eq_true h)] at hk
   exact finPs hD hk rfl rfl rfl rfl rfl GrH.nil hG rfl rfl
  have h : decide (IntKind.i64.wrap (n - IntKind.i64.wrap (p' + c')) < sv) = false:=h
  rw [hws] at h
  have h2:=of_decide_eq_false h
  rw [if_neg h2] at hk
  clear h hws
  have hw2 : IntKind.i64.wrap (IntKind.i64.wrap (p' + c') + sv) = p' + c' + sv:=by rw [hw]; exact wrap64 (by have:=PV0.lo; have:=PC.lo; omega) (by have:=R.n; omega)
  refine ⟨by subst hD; exact ⟨by show 0≤IntKind.i64.wrap (p' + c'); rw [hw]; have:=PV0.lo; have:=PC.lo; omega,by show IntKind.i64.wrap (p' + c')≤IntKind.i64.wrap (IntKind.i64.wrap (p' + c') + sv); rw [hw2,hw]; omega,by show IntKind.i64.wrap (IntKind.i64.wrap (p' + c') + sv)≤n; rw [hw2]; omega⟩,fun f7 n7 hsub=>?_⟩
  cbv
  have R7 : RowU f7 n7 ((b.drop (p' + c').toNat).take sv.toNat):=by
   have h0 : 0≤p' + c':=by have:=PV0.lo; have:=PC.lo; omega
   have:=R.sub (a:=(p' + c').toNat) (b:=(p' + c').toNat + sv.toNat) hsub (by subst hD; show IntKind.i64.wrap (p' + c') = _; rw [hw]; omega) (by subst hD; show IntKind.i64.wrap (IntKind.i64.wrap (p' + c') + sv) = _; rw [hw2]; omega) (by omega) (by have:=R.n; omega)
   have e : (p' + c').toNat + sv.toNat - (p' + c').toNat = sv.toNat:=by omega
   rwa [e] at this
  clear hsub
  refine ⟨by subst hD; exact R7.byte,fun bo hbo=>?_⟩
  cbv
  have hbo : bo = (b.drop (p' + c').toNat).take sv.toNat:=by subst hD; exact R7.str hbo
  rw [←hbo] at hk
  refine finPs hD (by rw [hk]; show _ = (_,IntKind.i64.wrap (IntKind.i64.wrap (p' + c') + sv),_); rw [hw2]; rfl) rfl rfl rfl rfl rfl FV.g4 hG rfl rfl
 have h : (m5 == 0) = false:=h
 have hl5 : fr'.lens.length = 1:=by have:=VN.2.2.h; simp only [beq_eq_false_iff_ne] at h; omega
 obtain ⟨len0,hlen⟩ : ∃ c,c = fr'.lens.getD 0 []:=⟨_,rfl⟩
 have hls : lenS fr' = len0:=by rw [lenS,if_neg (by omega),hlen]
 have hlen0 : len0.length≤2000:=FS.lens _ (by rw [hlen,List.getD_eq_getElem?_getD,List.getElem?_eq_getElem (by omega)]; exact List.getElem_mem _)
 rw [hls] at hk
 clear h
 refine ⟨by subst hD; exact ⟨Int.le_refl _,by show (0 : Int) < m4; rw [VN.2.1.h]; omega⟩,fun j hj=>?_⟩
 obtain rfl : j = 0:=by subst hD; exact Int.ofNat.inj hj.h
 clear hj
 have q1:=FV.g2.row.f 0 (by omega)
 rw [←hids] at q1
 cbv
 rw [q1]
 cbv
 refine ⟨ids0,_,rfl,rfl,by omega,fun iv ie hi=>?_⟩
 cbv
 have hi : (iv,ie) = numberF ids0 1000000000:=by subst hD; exact hi
 rw [←hi] at hk
 have NI:=numberF_val ids0 1000000000 (by omega)
 rw [←hi] at NI
 simp only at NI
 clear hi
 refine ⟨by subst hD; exact ⟨Int.le_refl _,by show (0 : Int) < m5; rw [VN.2.2.h]; omega⟩,fun j hj=>?_⟩
 obtain rfl : j = 0:=by subst hD; exact Int.ofNat.inj hj.h
 clear hj
 have q2:=FV.g3.row.f 0 (by omega)
 rw [←hlen] at q2
 cbv
 rw [q2]
 cbv
 refine ⟨len0,_,rfl,rfl,by omega,fun sv se hi=>?_⟩
 cbv
 have hi : (sv,se) = numberF len0 65536:=by subst hD; exact hi
 rw [←hi] at hk
 have NS:=numberF_val len0 65536 (by omega)
 rw [←hi] at NS
 simp only at NS
 clear hi q1 q2
 rw [parseC] at hk
 simp only at hk
 refine br hD (fun h=>?_) (fun h=>?_)<;>cbv
 ·have h : (ie == 6 || se == 6) = true:=h
  rw [if_pos (by simpa using h)] at hk
  exact finPs hD hk rfl rfl rfl rfl rfl GrH.nil hG rfl rfl
 have h : (ie == 6 || se == 6) = false:=h
 rw [if_neg (by rw [Bool.or_eq_false_iff] at h; have h2:=h.1; have h3:=h.2; simp only [beq_eq_false_iff_ne] at h2 h3; omega)] at hk
 clear h
 refine br hD (fun h=>?_) (fun h=>?_)<;>cbv
 ·have h : (se != 0) = true:=h
  rw [if_pos (by simpa using h)] at hk
  exact finPs hD hk rfl rfl rfl rfl rfl GrH.nil hG rfl rfl
 have h : (se != 0) = false:=h
 rw [if_neg (by simpa using h)] at hk
 clear h
 refine ⟨by subst hD; exact ⟨Int.le_refl _,by show (0 : Int) < m3; rw [VN.1.h]; omega⟩,fun j hj=>?_⟩
 obtain rfl : j = 0:=by subst hD; exact Int.ofNat.inj hj.h
 clear hj
 have q1:=FV.g1.row.f 0 (by omega)
 rw [←hho] at q1
 cbv
 rw [q1]
 cbv
 clear q1
 rw [parseD] at hk
 simp only at hk
 have hkn : (b.length : Int) = n:=R.n.symm
 rw [hkn] at hk
 refine ⟨⟨D.i (.a iv),me',ta',ho0,fr'.rest,[]⟩,_,_,_,rfl,rfl,by subst hD; exact ⟨by show _≤iv; omega,by show iv≤_; omega,by have:=PV0.me; show me'.length≤_; omega,by have:=PV0.ta; show ta'.length≤_; omega,by show ho0.length≤_; omega,by simp,FV.g4.row,fun e=>by have:=FV.g4.nl; have e : q6 = true:=e; rw [e] at this; exact List.isEmpty_iff.1 this.symm⟩,fun cp ce hce=>?_⟩
 cbv
 have hce : (cp,ce) = checkRF ⟨iv,me',ta',ho0,fr'.rest,[]⟩:=by subst hD; exact hce
 rw [←hce] at hk
 simp only at hk
 clear hce
 refine br hD (fun h=>?_) (fun h=>?_)<;>cbv
 ·have h : (ce != 0) = true:=h
  rw [if_pos (by simpa using h)] at hk
  exact finPs hD hk rfl rfl rfl rfl rfl GrH.nil hG rfl rfl
 have h : (ce != 0) = false:=h
 rw [if_neg (by simpa using h)] at hk
 clear h
 refine ⟨me',rfl,rfl,by have:=PV0.me; omega,fun bb hbb=>?_⟩
 cbv
 rw [←hbb] at hk
 clear hbb
 refine br hD (fun h=>?_) (fun h=>?_)<;>cbv
 ·have h : (decide (0 < sv) && bb) = true:=h
  rw [if_pos h] at hk
  exact finPs hD hk rfl rfl rfl rfl rfl GrH.nil hG rfl rfl
 have h : (decide (0 < sv) && bb) = false:=h
 rw [if_neg (by rw [h]; simp)] at hk
 clear h
 have hw : IntKind.i64.wrap (p' + c') = p' + c':=wrap64 (by have:=PV0.lo; have:=PC.lo; omega) (by have:=PC.hi; have:=PV0.hi; omega)
 have hws : IntKind.i64.wrap (n - IntKind.i64.wrap (p' + c')) = n - (p' + c'):=by rw [hw]; exact wrap64 (by have:=PC.hi; have:=PV0.hi; have:=R.n; omega) (by have:=PV0.lo; have:=PC.lo; have:=R.n; omega)
 refine br hD (fun h=>?_) (fun h=>?_)<;>cbv
 ·have h : decide (IntKind.i64.wrap (n - IntKind.i64.wrap (p' + c')) < sv) = true:=h
  rw [hws] at h
  rw [if_pos (of_decide_eq_true h)] at hk
  exact finPs hD hk rfl rfl rfl rfl rfl GrH.nil hG rfl rfl
 have h : decide (IntKind.i64.wrap (n - IntKind.i64.wrap (p' + c')) < sv) = false:=h
 rw [hws] at h
 have h2:=of_decide_eq_false h
 rw [if_neg h2] at hk
 clear h hws
 have hw2 : IntKind.i64.wrap (IntKind.i64.wrap (p' + c') + sv) = p' + c' + sv:=by rw [hw]; exact wrap64 (by have:=PV0.lo; have:=PC.lo; omega) (by have:=R.n; omega)
 refine ⟨by subst hD; exact ⟨by show 0≤IntKind.i64.wrap (p' + c'); rw [hw]; have:=PV0.lo; have:=PC.lo; omega,by show IntKind.i64.wrap (p' + c')≤IntKind.i64.wrap (IntKind.i64.wrap (p' + c') + sv); rw [hw2,hw]; omega,by show IntKind.i64.wrap (IntKind.i64.wrap (p' + c') + sv)≤n; rw [hw2]; omega⟩,fun f7 n7 hsub=>?_⟩
 cbv
 have R7 : RowU f7 n7 ((b.drop (p' + c').toNat).take sv.toNat):=by
  have h0 : 0≤p' + c':=by have:=PV0.lo; have:=PC.lo; omega
  have:=R.sub (a:=(p' + c').toNat) (b:=(p' + c').toNat + sv.toNat) hsub (by subst hD; show IntKind.i64.wrap (p' + c') = _; rw [hw]; omega) (by subst hD; show IntKind.i64.wrap (IntKind.i64.wrap (p' + c') + sv) = _; rw [hw2]; omega) (by omega) (by have:=R.n; omega)
  have e : (p' + c').toNat + sv.toNat - (p' + c').toNat = sv.toNat:=by omega
  rwa [e] at this
 clear hsub
 refine ⟨by subst hD; exact R7.byte,fun bo hbo=>?_⟩
 cbv
 have hbo : bo = (b.drop (p' + c').toNat).take sv.toNat:=by subst hD; exact R7.str hbo
 rw [←hbo] at hk
 refine finPs hD (by rw [hk]; show _ = (_,IntKind.i64.wrap (IntKind.i64.wrap (p' + c') + sv),_); rw [hw2]; rfl) rfl rfl rfl rfl rfl FV.g4 hG rfl rfl
end Go.Proofs.YtefelnhpfdcleaaGreatDoor
namespace Go.Proofs.YtefelnhpfdcleaaGreatDoor
open Go Go.Sx
set_option maxRecDepth 100000
set_option maxHeartbeats 4000000
instance : DecidableEq HF:=fun a b=>decidable_of_iff (a.name = b.name∧a.value = b.value) (by cases a; cases b; simp)
instance : DecidableEq Rq:=fun a b=>decidable_of_iff (a.id = b.id∧a.method = b.method∧a.target = b.target∧a.host = b.host∧a.fields = b.fields∧a.body = b.body) (by cases a; cases b; simp)
def spEqH : FSpec:=fun _ xs ls K=>∃ (a b : List HF) (na nb : Bool) (A B : Int) (f g : Nat→List SV),xs = [.sl (.a na) (.a A) 2 f,.sl (.a nb) (.a B) 2 g]∧ls = []∧RowH f A a∧RowH g B b∧∀ r : Bool,r = decide (a = b)→K (.bool (.a r)) []
structure EqJ (k : Bool) (a b : List HF) (i : Nat) (I : Int) (m : Nat) : Prop where
 at_ : AtR a i I m
 k : k = decide (a.drop i = b.drop i)
def eqJ (k : Bool) (a b : List HF) (na nb : Bool) (A B : Int) (f g : Nat→List SV) (m : Nat) (vs : List (Option SV)) (hp : List Hl) : Prop :=
 ∃ (i : Nat) (I : Int),vs = [some (.sl (.a na) (.a A) 2 f),some (.sl (.a nb) (.a B) 2 g),some (.int .i64 (.a I))]∧hp = []∧EqJ k a b i I m
theorem dropH {l : List HF} {i : Nat} (h : i < l.length) : l.drop i = l.getD i default :: l.drop (i + 1):=by
 rw [List.getD_eq_getElem?_getD,List.getElem?_eq_getElem h,Option.getD_some,List.drop_eq_getElem_cons h]
theorem equal_ok : FnOk Tryz.prog gl 63 spEqH:=by
 refine fnOk (gh:=[]) mixed cxOk tabNil Tryz.func63 (by kernel_rfl) (by kernel_rfl) ?_
 intro xs ls K h
 unfold spEqH at h
 obtain ⟨a,b,na,nb,A,B,f,g,rfl,rfl,RA,RB,h⟩:=h
 obtain ⟨k,hk⟩ : ∃ k,k = decide (a = b):=⟨_,rfl⟩
 refine ⟨_,_,h k hk,fun D hD=>?_⟩
 cbv
 clear h
 refine br hD (fun h=>?_) (fun h=>?_)<;>cbv
 ·have h2 : A≠B:=by simpa using h
  refine finBool hD ?_
  rw [hk]
  have h3 : a≠b:=fun e=>h2 (by rw [RA.n,RB.n,e])
  show false = _
  symm
  exact decide_eq_false h3
 have h2 : A = B:=by simpa using h
 have hlab : a.length = b.length:=by have:=RA.n; have:=RB.n; omega
 clear h
 obtain ⟨J,hJ⟩ : ∃ J,J = eqJ k a b na nb A B f g:=⟨_,rfl⟩
 refine ⟨[0,1,5],J,⟨rfl,a.length,?_⟩,?_⟩
 ·rw [hJ]
  subst hD
  exact ⟨0,0,rfl,rfl,AtR.zero RA.len,hk⟩
 intro m vs hp' hv
 rw [hJ] at hv
 unfold eqJ at hv
 obtain ⟨i,I,rfl,rfl,V⟩:=hv
 clear hk
 cbv
 refine br hD (fun h=>?_) (fun h=>?_)<;>cbv
 ·have hlt:=V.at_.lt RA.n (of_decide_eq_true (p:=I < A) h)
  clear h
  have hltb : i < b.length:=by omega
  have inA:=V.at_.inB hD RA.n hlt
  have inB' : Sx.InB (D.i (.a I)) (D.i (.a B)):=by have:=V.at_.I; have:=RB.n; subst hD; exact ⟨by show 0≤I; omega,by show I < B; omega⟩
  have hk2:=V.k
  rw [dropH hlt,dropH hltb] at hk2
  have e1:=RA.f i hlt
  have d1:=RB.f i hltb
  obtain ⟨x,hx⟩ : ∃ x,x = a.getD i default:=⟨_,rfl⟩
  obtain ⟨y,hy⟩ : ∃ y,y = b.getD i default:=⟨_,rfl⟩
  rw [←hx] at e1 hk2
  rw [←hy] at d1 hk2
  clear hx hy
  obtain ⟨x1,x2⟩:=x
  obtain ⟨y1,y2⟩:=y
  have hst:=V.at_.step hD hlt
  refine ⟨inA,fun j hj=>?_⟩
  have hj:=V.at_.j hD hj
  cbv
  rw [hj,e1]
  cbv
  refine ⟨inB',fun j2 hj2=>?_⟩
  have hj2:=V.at_.j hD hj2
  cbv
  rw [hj2,d1]
  cbv
  refine br hD (fun h=>?_) (fun h=>?_)<;>cbv
  ·have h : (!((x1 == y1) && (x2 == y2))) = true:=h
   refine finBool hD ?_
   show false = k
   rw [hk2]
   symm
   apply decide_eq_false
   intro e
   injection e with e1 e2
   injection e1 with e3 e4
   rw [e3,e4] at h
   simp at h
  ·have h : (!((x1 == y1) && (x2 == y2))) = false:=h
   simp only [Bool.not_eq_false',Bool.and_eq_true,beq_iff_eq] at h
   refine ⟨_,hst.1,?_⟩
   rw [hJ]
   unfold eqJ
   subst hD
   refine ⟨i + 1,_,rfl,rfl,⟨hst.2,?_⟩⟩
   rw [hk2,h.1,h.2]
   simp
 ·have he:=V.at_.eq RA.n (of_decide_eq_false (p:=I < A) h)
  refine finBool hD ?_
  show true = k
  rw [V.k,List.drop_eq_nil_of_le (by omega),List.drop_eq_nil_of_le (by omega)]
  rfl
def spSameR : FSpec:=fun _ xs ls K=>∃ (a b : Rq) (na nb : Bool) (A B : Int) (f g : Nat→List SV),xs = [.agg [.int .i64 (.a a.id),.str a.method,.str a.target,.str a.host,.sl (.a na) (.a A) 2 f,.str a.body],.agg [.int .i64 (.a b.id),.str b.method,.str b.target,.str b.host,.sl (.a nb) (.a B) 2 g,.str b.body]]∧ls = []∧RowH f A a.fields∧RowH g B b.fields∧∀ r : Bool,r = decide (a = b)→K (.bool (.a r)) []
theorem sameR_ok : FnOk Tryz.prog gl 24 spSameR:=by
 refine fnOk (gh:=[]) mixed cxOk (tabCons equal_ok tabNil) Tryz.func24 (by kernel_rfl) (by kernel_rfl) ?_
 intro xs ls K h
 unfold spSameR at h
 obtain ⟨a,b,na,nb,A,B,f,g,rfl,rfl,RA,RB,h⟩:=h
 obtain ⟨k,hk⟩ : ∃ k,k = decide (a = b):=⟨_,rfl⟩
 refine ⟨_,_,h k hk,fun D hD=>?_⟩
 obtain ⟨i1,m1,t1,h1,l1,b1⟩:=a
 obtain ⟨i2,m2,t2,h2,l2,b2⟩:=b
 cbv
 clear h
 refine ⟨l1,l2,na,nb,A,B,f,g,by subst hD; rfl,rfl,RA,RB,fun r hr=>?_⟩
 cbv
 refine finBool hD ?_
 show ((((((i1 == i2) && (m1 == m2)) && (t1 == t2)) && (h1 == h2)) && (b1 == b2)) && r) = k
 rw [hk,hr,Bool.eq_iff_iff]
 simp only [Bool.and_eq_true,beq_iff_eq,decide_eq_true_eq,Rq.mk.injEq]
 grind
def exL : List HF:=[⟨[67,111,110,110,101,99,116,105,111,110],[99,108,111,115,101]⟩,⟨[65,99,99,101,112,116],[42]⟩]
def exTarget : List UInt8:=[47,97,47,46,46,47,98,37,55,101,63,120]
def exR : Rq:=⟨7,[71,69,84],exTarget,[104],exL,[]⟩
def spEx : FSpec:=fun _ xs ls K=>xs = []∧ls = []∧∀ f n b,GrH f n b exL→K (.agg [.int .i64 (.a 7),.str [71,69,84],.str [47,97,47,46,46,47,98,37,55,101,63,120],.str [104],.sl (.a b) (.a n) 2 f,.str []]) []
theorem example_ok : FnOk Tryz.prog gl 31 spEx:=by
 refine fnOk (gh:=[]) mixed cxOk tabNil Tryz.func31 (by kernel_rfl) (by kernel_rfl) ?_
 intro xs ls K h
 unfold spEx at h
 obtain ⟨rfl,rfl,h⟩:=h
 have hG : ∃ f1 n1 b1,GrH f1 n1 b1 exL:=⟨_,_,_,⟨RowH.row (by decide) (fun i hi=>by
  have hi : i < 2:=hi
  rcases i with _ | _ | i
  ·exact ⟨by decide,by decide⟩
  ·exact ⟨by decide,by decide⟩
  ·omega),rfl⟩⟩
 obtain ⟨f1,n1,b1,hG⟩:=hG
 refine ⟨_,_,h f1 n1 b1 hG,fun D hD=>?_⟩
 cbv
 clear h
 intro g hg
 cbv
 have g0:=hg.h 0 _ rfl
 have g1:=hg.h 1 _ rfl
 have G : GrH g 2 false exL:=⟨⟨rfl,fun i hi=>by
  have hi : i < 2:=hi
  rcases i with _ | _ | i
  ·exact g0
  ·exact g1
  ·omega,by decide,fun i hi=>by
  have hi : i < 2:=hi
  rcases i with _ | _ | i
  ·exact ⟨by decide,by decide⟩
  ·exact ⟨by decide,by decide⟩
  ·omega⟩,rfl⟩
 subst hD
 exact finV (.agg (.cons (leInt rfl) (.cons (LeV.refl _) (.cons (LeV.refl _) (.cons (LeV.refl _) (.cons (leGrH G hG rfl rfl) (.cons (LeV.refl _) .nil)))))))
end Go.Proofs.YtefelnhpfdcleaaGreatDoor
namespace Go.Proofs.YtefelnhpfdcleaaGreatDoor
open Go Go.Sx
set_option maxRecDepth 100000
set_option maxHeartbeats 4000000
def exS : List UInt8:=[71,69,84,32,47,97,47,46,46,47,98,37,55,101,63,120,32,72,84,84,80,47,49,46,49,13,10,72,111,115,116,58,32,104,13,10,88,45,82,101,113,117,101,115,116,45,73,100,58,32,55,13,10,65,99,99,101,112,116,58,32,42,13,10,13,10]
def exS2 : List UInt8:=[71,69,84,32,47,97,47,46,46,47,98,37,55,101,63,120,32,72,84,84,80,47,49,46,49,13,10,72,111,115,116,58,32,104,13,10,88,45,82,101,113,117,101,115,116,45,73,100,58,32,55,13,10,65,99,99,101,112,116,58,32,42,13,10,13,10,71,69,84]
def exL2 : List HF:=[⟨[65,99,99,101,112,116],[42]⟩]
def exR2 : Rq:=⟨7,[71,69,84],exTarget,[104],exL2,[]⟩
theorem ex_encode : encodeF exR = (exS,0):=by kernel_rfl
theorem ex_clean : cleanF exTarget = ([47,98,126,63,120],0):=by kernel_rfl
theorem ex_key : keyF exR 3 [97,99,99,101,112,116] = ([42],0):=by kernel_rfl
theorem ex_parse : parseF exS2 = (exR2,66,0):=by kernel_rfl
end Go.Proofs.YtefelnhpfdcleaaGreatDoor
namespace Go.Proofs.YtefelnhpfdcleaaGreatDoor
open Go Go.Sx
set_option maxRecDepth 100000
set_option maxHeartbeats 8000000
theorem exOk {f : Nat→List SV} {n : Int} {b : Bool} (G : GrH f n b exL) : RqOk exR b n f :=
 ⟨by decide,by decide,by decide,by decide,by decide,by decide,G.row,fun h=>by have h2:=G.nl; rw [h] at h2; cases h2⟩
theorem RowU.of {f : Nat→List SV} {n : Int} {s : List UInt8} (h : BytesOf f s) (hn : n = s.length) : RowU f n s:=by
 refine ⟨hn,fun i hi=>?_⟩
 rw [h.h]
 rfl
theorem RowH.ex1 {f f' : Nat→List SV} {n n' : Int} (R : RowH f n exL) (h : SubRow f' n' f 1 n) : RowH f' n' exL2:=by
 have hn : n = 2:=R.n
 refine ⟨by rw [h.len,hn]; rfl,fun i hi=>?_,by decide,fun i hi=>?_⟩
 ·have hi : i < 1:=hi
  obtain rfl : i = 0:=by omega
  rw [h.row 0 1 (by omega),R.f 1 (by decide)]
  rfl
 ·have hi : i < 1:=hi
  obtain rfl : i = 0:=by omega
  exact ⟨by decide,by decide⟩
def spT : FSpec:=fun _ xs ls K=>xs = []∧ls = []∧K (.bool (.a true)) []
theorem shown_ok : FnOk Tryz.prog gl 12 spT:=by
 refine fnOk (gh:=[]) mixed cxOk (tabCons example_ok (tabCons encode_ok (tabCons clean_ok (tabCons key_ok (tabCons parse_ok (tabCons sameR_ok tabNil)))))) Tryz.func12 (by kernel_rfl) (by kernel_rfl) ?_
 intro xs ls K h
 unfold spT at h
 obtain ⟨rfl,rfl,h⟩:=h
 refine ⟨_,_,h,fun D hD=>?_⟩
 cbv
 clear h
 intro f1 n1 b1 G1
 cbv
 refine ⟨exR,b1,n1,f1,by subst hD; rfl,rfl,exOk G1,fun s e hs=>?_⟩
 cbv
 rw [ex_encode] at hs
 obtain ⟨hs,he⟩:=Prod.mk.inj hs
 intro f2 n2 b2 G2
 cbv
 refine ⟨exTarget,rfl,rfl,by decide,fun t e2 ht=>?_⟩
 cbv
 rw [ex_clean] at ht
 obtain ⟨ht,he2⟩:=Prod.mk.inj ht
 intro f3 n3 b3 G3
 cbv
 refine ⟨exR,3,[97,99,99,101,112,116],b3,n3,f3,by subst hD; rfl,rfl,exOk G3,by decide,fun k e3 hk=>?_⟩
 cbv
 rw [ex_key] at hk
 obtain ⟨hk,he3⟩:=Prod.mk.inj hk
 refine ⟨⟨by rw [hs]; decide⟩,fun r hr=>?_⟩
 cbv
 have hr : r = exS2:=by rw [hr.h,hs]; rfl
 refine ⟨⟨by rw [hr]; decide⟩,fun f4 h4=>?_⟩
 cbv
 refine ⟨exS2,_,_,f4,rfl,rfl,by subst hD; exact RowU.of (by rw [←hr]; exact h4) (by rw [←hr]; rfl),by decide,fun q f5 n5 b5 kk e4 hq G5=>?_⟩
 cbv
 rw [ex_parse] at hq
 obtain ⟨hq1,hq2⟩:=Prod.mk.inj hq
 obtain ⟨hkk,he4⟩:=Prod.mk.inj hq2
 subst hq1
 clear hq hq2
 intro f6 n6 b6 G6
 cbv
 refine ⟨by subst hD; exact ⟨by decide,by show (1 : Int)≤n6; rw [G6.row.n]; decide,Int.le_refl _⟩,fun f7 n7 h7=>?_⟩
 cbv
 refine ⟨exR2,exR2,b5,b6,n5,n7,f5,f7,by subst hD; rfl,rfl,G5.row,RowH.ex1 G6.row (by subst hD; exact h7),fun z hz=>?_⟩
 cbv
 refine finBool hD ?_
 have hz : z = true:=by rw [hz]; exact decide_eq_true rfl
 rw [hs,ht,hk,hz,hkk,he,he2,he3,he4]
 rfl
end Go.Proofs.YtefelnhpfdcleaaGreatDoor
namespace Go.Proofs.YtefelnhpfdcleaaGreatDoor
open Go Go.Sx
set_option maxRecDepth 100000
set_option maxHeartbeats 8000000
def spTStr : FSpec:=fun _ xs ls K=>∃ (s : List UInt8),xs = [.str s]∧ls = []∧s.length≤9223372036854775807∧K (.bool (.a true)) []
end Go.Proofs.YtefelnhpfdcleaaGreatDoor
namespace Go.Proofs.YtefelnhpfdcleaaGreatDoor
open Go Go.Sx
set_option maxRecDepth 100000
set_option maxHeartbeats 400000
inductive Un : List UInt8→Prop
 | nil : Un []
 | esc (a b : UInt8) (s : List UInt8) : 0≤valueI (a.toNat : Int)→0≤valueI (b.toNat : Int)→Un s→Un (37 :: a :: b :: s)
 | one (c : UInt8) (s : List UInt8) : (kindN c.toNat≠0∨c = 63)→Un s→Un (c :: s)
inductive Nu : List UInt8→Prop
 | nil : Nu []
 | esc (v : Nat) (s : List UInt8) : v < 256→kindN v≠1→Nu s→Nu (37 :: digL.getD (v / 16) 0 :: digL.getD (v % 16) 0 :: s)
 | one (c : UInt8) (s : List UInt8) : (kindN c.toNat≠0∨c = 63)→Nu s→Nu (c :: s)
inductive NrR : List UInt8→List UInt8→Prop
 | nil : NrR [] []
 | esc (a b : UInt8) (s t : List UInt8) : 0≤valueI (a.toNat : Int)→0≤valueI (b.toNat : Int)→NrR s t→NrR (37 :: a :: b :: s) (escO (16 * valueI (a.toNat : Int) + valueI (b.toNat : Int)) ++ t)
 | one (c : UInt8) (s t : List UInt8) : (kindN c.toNat≠0∨c = 63)→NrR s t→NrR (c :: s) (c :: t)
theorem drop_consE {s u : List UInt8} {c : UInt8} {i : Nat} (h : s.drop i = c :: u) : i < s.length∧s.getD i 0 = c∧s.drop (i + 1) = u:=by
 have hl : i < s.length:=by
  have:=congrArg List.length h
  simp at this; omega
 rw [drop_at hl] at h
 exact ⟨hl,(List.cons.inj h).1,(List.cons.inj h).2⟩
theorem charI_at {s u : List UInt8} {c : UInt8} {i : Nat} (h : s.drop i = c :: u) : charI s i = (c.toNat : Int):=by
 unfold charI; rw [(drop_consE h).2.1]
theorem esc_at {s u : List UInt8} {a b : UInt8} {i : Nat} (h : s.drop i = 37 :: a :: b :: u) (ha : 0≤valueI (a.toNat : Int)) (hb : 0≤valueI (b.toNat : Int)) :
  i + 2 < s.length∧escAt s i = true∧escV s i = 16 * valueI (a.toNat : Int) + valueI (b.toNat : Int)∧s.drop (i + 3) = u:=by
 obtain ⟨h1,h2,h3⟩:=drop_consE h
 obtain ⟨g1,g2,g3⟩:=drop_consE h3
 obtain ⟨k1,k2,k3⟩:=drop_consE g3
 have e0:=charI_at h
 have e1:=charI_at h3
 have e2:=charI_at g3
 have hp : hexP s i:=⟨k1,by rw [e0]; rfl,by rw [e1]; exact ha,by rw [show i + 2 = i + 1 + 1 by omega,e2]; exact hb⟩
 refine ⟨k1,?_,?_,k3⟩
 ·unfold escAt; exact decide_eq_true hp
 ·unfold escV; rw [if_pos hp,e1,show i + 2 = i + 1 + 1 by omega,e2]
theorem one37 {c : UInt8} (h : kindN c.toNat≠0∨c = 63) : c≠37:=by
 rintro rfl
 rcases h with h | h
 ·exact h (by decide)
 ·exact absurd h (by decide)
theorem noesc {s u : List UInt8} {c : UInt8} {i : Nat} (h : s.drop i = c :: u) (hc : c≠37) : escAt s i = false:=by
 unfold escAt
 rw [decide_eq_false_iff_not]
 rintro ⟨_,h2,_⟩
 rw [charI_at h] at h2
 exact hc (UInt8.toNat_inj.1 (by show c.toNat = 37; omega))
theorem orgL_un (s : List UInt8) : ∀ (m i e r : Nat),s.length - i≤m→orgL s i e = some r→Un (s.drop i)
 | m,i,e,r,hm,h=>by
  by_cases hl : i < s.length
  ·cases m with
   | zero=>omega
   | succ m =>
    cases he : escAt s i with
    | true =>
     rw [orgL_esc hl he] at h
     have hp : hexP s i:=of_decide_eq_true he
     have ih:=orgL_un s m (i + 3) e r (by omega) h
     have d0:=drop_at hl
     have d1:=drop_at (show i + 1 < s.length by have:=hp.1; omega)
     have d2:=drop_at (show i + 1 + 1 < s.length by have:=hp.1; omega)
     rw [d0,d1,d2]
     have h37 : s.getD i 0 = 37:=UInt8.toNat_inj.1 (by have:=hp.2.1; unfold charI at this; show (s.getD i 0).toNat = 37; omega)
     rw [h37]
     exact Un.esc _ _ _ hp.2.2.1 hp.2.2.2 ih
    | false =>
     rw [drop_at hl]
     by_cases h63 : charI s i = 63
     ·rw [orgL_mark hl he h63] at h
      exact Un.one _ _ (.inr (UInt8.toNat_inj.1 (by unfold charI at h63; show (s.getD i 0).toNat = 63; omega))) (orgL_un s m (i + 1) _ r (by omega) h)
     ·by_cases hk : kindN (charI s i).toNat = 0
      ·rw [orgL_bad hl he h63 hk] at h; cases h
      ·rw [orgL_more hl he h63 hk] at h
       exact Un.one _ _ (.inl (by unfold charI at hk; simpa using hk)) (orgL_un s m (i + 1) _ r (by omega) h)
  ·rw [List.drop_eq_nil_of_le (by omega)]; exact Un.nil
theorem un_orgL {u : List UInt8} (h : Un u) : ∀ (s : List UInt8) (i e : Nat),i≤s.length→s.drop i = u→∃ r,orgL s i e = some r:=by
 induction h with
 | nil =>
  intro s i e hi hd
  have : i = s.length:=by have:=congrArg List.length hd; simp at this; omega
  exact ⟨e,orgL_end this⟩
 | esc a b u ha hb _ ih =>
  intro s i e hi hd
  obtain ⟨h1,h2,_,h4⟩:=esc_at hd ha hb
  rw [orgL_esc (by omega) h2]
  exact ih s (i + 3) e (by omega) h4
 | one c u hc _ ih =>
  intro s i e hi hd
  obtain ⟨h1,h2,h3⟩:=drop_consE hd
  have he:=noesc hd (one37 hc)
  by_cases h63 : charI s i = 63
  ·rw [orgL_mark h1 he h63]; exact ih s (i + 1) _ (by omega) h3
  ·have hk : kindN (charI s i).toNat≠0:=by
    rw [charI_at hd] at h63 ⊢
    rcases hc with hc | hc
    ·simpa using hc
    ·exact absurd (by rw [hc]; rfl) h63
   rw [orgL_more h1 he h63 hk]; exact ih s (i + 1) _ (by omega) h3
theorem nr_of {u : List UInt8} (h : Un u) : ∀ (s : List UInt8) (i : Nat),i≤s.length→s.drop i = u→NrR u (normL s i):=by
 induction h with
 | nil =>
  intro s i hi hd
  have : i = s.length:=by have:=congrArg List.length hd; simp at this; omega
  rw [normL_end this]; exact .nil
 | esc a b u ha hb _ ih =>
  intro s i hi hd
  obtain ⟨h1,h2,h3,h4⟩:=esc_at hd ha hb
  rw [normL_esc (by omega) h2,h3]
  exact .esc _ _ _ _ ha hb (ih s (i + 3) (by omega) h4)
 | one c u hc _ ih =>
  intro s i hi hd
  obtain ⟨h1,h2,h3⟩:=drop_consE hd
  rw [normL_one h1 (noesc hd (one37 hc)),h2]
  exact .one _ _ _ hc (ih s (i + 1) (by omega) h3)
theorem dig_val : ∀ d : Fin 16,valueI ((digL.getD d.1 0).toNat : Int) = (d.1 : Int):=by decide
theorem dig_val' {d : Nat} (h : d < 16) : valueI ((digL.getD d 0).toNat : Int) = (d : Int):=dig_val ⟨d,h⟩
theorem Nu.un {s : List UInt8} (h : Nu s) : Un s:=by
 induction h with
 | nil=>exact .nil
 | esc v s hv _ _ ih=>exact .esc _ _ _ (by rw [dig_val' (by omega)]; omega) (by rw [dig_val' (by omega)]; omega) ih
 | one c s hc _ ih=>exact .one _ _ hc ih
theorem nu_norm {u : List UInt8} (h : Nu u) : ∀ (s : List UInt8) (i : Nat),i≤s.length→s.drop i = u→normL s i = u:=by
 induction h with
 | nil =>
  intro s i hi hd
  have : i = s.length:=by have:=congrArg List.length hd; simp at this; omega
  rw [normL_end this]
 | esc v u hv hk _ ih =>
  intro s i hi hd
  have e1:=dig_val' (show v / 16 < 16 by omega)
  have e2:=dig_val' (show v % 16 < 16 by omega)
  obtain ⟨h1,h2,h3,h4⟩:=esc_at hd (by rw [e1]; omega) (by rw [e2]; omega)
  rw [normL_esc (by omega) h2,h3,e1,e2,ih s (i + 3) (by omega) h4]
  have : (16 * ((v / 16 : Nat) : Int) + ((v % 16 : Nat) : Int)).toNat = v:=by omega
  unfold escO
  rw [this,if_neg hk]; rfl
 | one c u hc _ ih =>
  intro s i hi hd
  obtain ⟨h1,h2,h3⟩:=drop_consE hd
  rw [normL_one h1 (noesc hd (one37 hc)),h2,ih s (i + 1) (by omega) h3]
theorem nr_nu {s t : List UInt8} (h : NrR s t) : Nu t:=by
 induction h with
 | nil=>exact .nil
 | esc a b s t ha hb _ ih =>
  have h1:=(valueI_le (a.toNat : Int)).2
  have h2:=(valueI_le (b.toNat : Int)).2
  obtain ⟨v,hv⟩ : ∃ v : Nat,16 * valueI (a.toNat : Int) + valueI (b.toNat : Int) = v:=⟨_,(Int.toNat_of_nonneg (by omega)).symm⟩
  have hv2 : v < 256:=by omega
  rw [hv]
  unfold escO
  rw [Int.toNat_natCast]
  by_cases hk : kindN v = 1
  ·rw [if_pos hk]
   refine .one _ _ (.inl ?_) ih
   rw [toNat8 ⟨v,hv2⟩]
   show kindN v≠0
   rw [hk]; decide
  ·rw [if_neg hk]
   exact .esc v _ hv2 hk ih
 | one c s t hc _ ih=>exact .one _ _ hc ih
theorem escO_63 : ∀ v : Fin 256,(63 : UInt8) ∉ escO (v.1 : Int):=by decide +kernel
theorem nr_63 {s t : List UInt8} (h : NrR s t) (h63 : (63 : UInt8) ∉ s) : (63 : UInt8) ∉ t:=by
 induction h with
 | nil=>exact h63
 | esc a b s t ha hb _ ih =>
  have h1:=(valueI_le (a.toNat : Int)).2
  have h2:=(valueI_le (b.toNat : Int)).2
  obtain ⟨v,hv⟩ : ∃ v : Nat,16 * valueI (a.toNat : Int) + valueI (b.toNat : Int) = v:=⟨_,(Int.toNat_of_nonneg (by omega)).symm⟩
  rw [hv,List.mem_append,not_or]
  exact ⟨escO_63 ⟨v,by omega⟩,ih (fun e=>h63 (by simp [e]))⟩
 | one c s t hc _ ih =>
  rw [List.mem_cons,not_or] at h63 ⊢
  exact ⟨h63.1,ih h63.2⟩
theorem nr_47 {s t : List UInt8} (h : NrR s t) (h47 : s.getD 0 0 = 47) : t.getD 0 0 = 47:=by
 cases h with
 | nil=>exact h47
 | esc=>exact absurd h47 (by simp)
 | one c s t=>simpa using h47
theorem val47 : ¬ 0≤valueI (((47 : UInt8).toNat : Nat) : Int):=by decide
theorem val63 : ¬ 0≤valueI (((63 : UInt8).toNat : Nat) : Int):=by decide
structure Sep (c : UInt8) : Prop where
 n37 : c≠37
 val : ¬ 0≤valueI (c.toNat : Int)
theorem sep47 : Sep 47:=⟨by decide,val47⟩
theorem sep63 : Sep 63:=⟨by decide,val63⟩
theorem Un.cut {c : UInt8} (hc : Sep c) {u : List UInt8} (h : Un u) : ∀ a b,u = a ++ c :: b→Un a∧Un b:=by
 induction h with
 | nil=>intro a b h; simp at h
 | esc x y s hx hy _ ih =>
  intro a b h
  match a,h with
  | [],h=>exact absurd (List.cons.inj h).1.symm hc.n37
  | [p],h=>have:=(List.cons.inj (List.cons.inj h).2).1; exact absurd (by rw [←this]; exact hx) hc.val
  | [p,q],h=>have:=(List.cons.inj (List.cons.inj (List.cons.inj h).2).2).1; exact absurd (by rw [←this]; exact hy) hc.val
  | p :: q :: r :: a,h =>
   simp only [List.cons_append,List.cons.injEq] at h
   obtain ⟨rfl,rfl,rfl,h⟩:=h
   obtain ⟨h1,h2⟩:=ih a b h
   exact ⟨.esc _ _ _ hx hy h1,h2⟩
 | one x s hx hs ih =>
  intro a b h
  match a,h with
  | [],h=>rw [(List.cons.inj h).2] at hs; exact ⟨.nil,hs⟩
  | p :: a,h =>
   simp only [List.cons_append,List.cons.injEq] at h
   obtain ⟨rfl,h⟩:=h
   obtain ⟨h1,h2⟩:=ih a b h
   exact ⟨.one _ _ hx h1,h2⟩
theorem Nu.cut {c : UInt8} (hc : Sep c) {u : List UInt8} (h : Nu u) : ∀ a b,u = a ++ c :: b→Nu a∧Nu b:=by
 induction h with
 | nil=>intro a b h; simp at h
 | esc v s hv hk _ ih =>
  intro a b h
  match a,h with
  | [],h=>exact absurd (List.cons.inj h).1.symm hc.n37
  | [p],h=>have:=(List.cons.inj (List.cons.inj h).2).1; exact absurd (by rw [←this,dig_val' (by omega)]; omega) hc.val
  | [p,q],h=>have:=(List.cons.inj (List.cons.inj (List.cons.inj h).2).2).1; exact absurd (by rw [←this,dig_val' (by omega)]; omega) hc.val
  | p :: q :: r :: a,h =>
   simp only [List.cons_append,List.cons.injEq] at h
   obtain ⟨rfl,rfl,rfl,h⟩:=h
   obtain ⟨h1,h2⟩:=ih a b h
   exact ⟨.esc _ _ hv hk h1,h2⟩
 | one x s hx hs ih =>
  intro a b h
  match a,h with
  | [],h=>rw [(List.cons.inj h).2] at hs; exact ⟨.nil,hs⟩
  | p :: a,h =>
   simp only [List.cons_append,List.cons.injEq] at h
   obtain ⟨rfl,h⟩:=h
   obtain ⟨h1,h2⟩:=ih a b h
   exact ⟨.one _ _ hx h1,h2⟩
theorem Nu.app {a b : List UInt8} (h : Nu a) (hb : Nu b) : Nu (a ++ b):=by
 induction h with
 | nil=>exact hb
 | esc v s hv hk _ ih=>exact .esc _ _ hv hk ih
 | one c s hc _ ih=>exact .one _ _ hc ih
theorem cutF_spec (c : UInt8) (s : List UInt8) : c ∉ (cutF c s).1∧s = (cutF c s).1 ++ (if (cutF c s).2.2 then c :: (cutF c s).2.1 else [])∧((cutF c s).2.2 = false→(cutF c s).2.1 = []):=by
 induction s with
 | nil=>simp [cutF]
 | cons b r ih =>
  rw [show cutF c (b :: r) = if b == c then ([],r,true) else (b :: (cutF c r).1,(cutF c r).2) from rfl]
  by_cases hb : b = c
  ·rw [if_pos (by simpa using hb)]; simp [hb]
  ·rw [if_neg (by simpa using hb)]
   obtain ⟨h1,h2,h3⟩:=ih
   refine ⟨?_,?_,h3⟩
   ·rw [List.mem_cons,not_or]; exact ⟨fun e=>hb e.symm,h1⟩
   ·show b :: r = b :: ((cutF c r).1 ++ _)
    rw [←h2]
theorem cutF_app {c : UInt8} : ∀ {a : List UInt8},c ∉ a→∀ b,cutF c (a ++ c :: b) = (a,b,true)
 | [],_,b=>by simp [cutF]
 | x :: a,h,b=>by
  rw [List.mem_cons,not_or] at h
  show (if x == c then ([],a ++ c :: b,true) else (x :: (cutF c (a ++ c :: b)).1,(cutF c (a ++ c :: b)).2)) = _
  rw [if_neg (by simpa using fun e=>h.1 e.symm),cutF_app h.2 b]
theorem cutF_none {c : UInt8} : ∀ {a : List UInt8},c ∉ a→cutF c a = (a,[],false)
 | [],_=>by simp [cutF]
 | x :: a,h=>by
  rw [List.mem_cons,not_or] at h
  show (if x == c then _ else _) = _
  rw [if_neg (by simpa using fun e=>h.1 e.symm),cutF_none h.2]
structure Seg (x : List UInt8) : Prop where
 nu : Nu x
 n47 : (47 : UInt8) ∉ x
 n63 : (63 : UInt8) ∉ x
structure Good (x : List UInt8) : Prop where
 seg : Seg x
 d1 : x≠[46]
 d2 : x≠[46,46]
theorem Seg.nil : Seg []:=⟨.nil,by simp,by simp⟩
theorem Good.nil : Good []:=⟨.nil,by simp,by simp⟩
theorem segW_seg : ∀ (u w : List UInt8),(47 : UInt8) ∉ w→(63 : UInt8) ∉ w ++ u→Nu (w ++ u)→∀ x∈segW w u,Seg x
 | [],w,h1,h2,h3=>fun x hx=>by
  rw [List.mem_singleton.1 hx]
  rw [List.append_nil] at h2 h3
  exact ⟨h3,h1,h2⟩
 | b :: r,w,h1,h2,h3=>fun x hx=>by
  unfold segW at hx
  split at hx
  ·rename_i hb
   subst hb
   obtain ⟨n1,n2⟩:=h3.cut sep47 _ _ rfl
   rw [List.mem_append,not_or] at h2
   rcases List.mem_cons.1 hx with rfl | hx
   ·exact ⟨n1,h1,h2.1⟩
   ·exact segW_seg r [] (by simp) (by simpa using fun e=>h2.2 (List.mem_cons_of_mem _ e)) n2 x hx
  ·rename_i hb
   refine segW_seg r (w ++ [b]) ?_ (by simpa using h2) (by simpa using h3) x hx
   rw [List.mem_append,not_or]
   exact ⟨h1,by simpa using fun e=>hb e.symm⟩
theorem cst_good {st : List (List UInt8)} {s : List UInt8} {last : Bool} (h : ∀ x∈st,Good x) (hs : Seg s) : ∀ x∈cst st s last,Good x:=by
 have hp : ∀ x∈(if s = [46,46]∧st≠[] then st.dropLast else st),Good x:=by
  intro x hx
  split at hx
  ·exact h x (List.dropLast_subset _ hx)
  ·exact h x hx
 intro x hx
 unfold cst at hx
 split at hx
 ·rename_i hd
  rcases List.mem_append.1 hx with hx | hx
  ·exact h x hx
  ·rw [List.mem_singleton.1 hx]; exact ⟨hs,hd.1,hd.2⟩
 ·split at hx
  ·rcases List.mem_append.1 hx with hx | hx
   ·exact hp x hx
   ·rw [List.mem_singleton.1 hx]; exact .nil
  ·exact hp x hx
theorem foldSeg_good : ∀ (l st : List (List UInt8)),(∀ x∈st,Good x)→(∀ x∈l,Seg x)→∀ x∈foldSeg st l,Good x
 | [],st,h,_=>h
 | y :: l,st,h,hl=>by
  unfold foldSeg
  exact foldSeg_good l _ (cst_good h (hl y (List.mem_cons_self ..))) (fun x hx=>hl x (List.mem_cons_of_mem _ hx))
theorem foldSeg_id : ∀ (l st : List (List UInt8)),(∀ x∈l,Good x)→foldSeg st l = st ++ l
 | [],st,_=>by simp [foldSeg]
 | y :: l,st,h=>by
  have hy:=h y (List.mem_cons_self ..)
  unfold foldSeg
  rw [show cst st y l.isEmpty = st ++ [y] by unfold cst; rw [if_pos ⟨hy.d1,hy.d2⟩],foldSeg_id l _ (fun x hx=>h x (List.mem_cons_of_mem _ hx))]
  simp
def flat (L : List (List UInt8)) : List UInt8:=L.flatMap fun x=>47 :: x
theorem flat_cons (x : List UInt8) (L : List (List UInt8)) : flat (x :: L) = 47 :: (x ++ flat L):=by simp [flat]
theorem flat_nil : flat [] = []:=rfl
theorem segW_app : ∀ (x w r : List UInt8),(47 : UInt8) ∉ x→segW w (x ++ 47 :: r) = (w ++ x) :: segW [] r
 | [],w,r,_=>by simp [segW]
 | b :: x,w,r,h=>by
  rw [List.mem_cons,not_or] at h
  rw [List.cons_append,segW,if_neg (fun e=>h.1 e.symm),segW_app x _ r h.2]
  simp
theorem segW_last : ∀ (x w : List UInt8),(47 : UInt8) ∉ x→segW w x = [w ++ x]
 | [],w,_=>by simp [segW]
 | b :: x,w,h=>by
  rw [List.mem_cons,not_or] at h
  rw [segW,if_neg (fun e=>h.1 e.symm),segW_last x _ h.2]
  simp
theorem segW_flat : ∀ (L : List (List UInt8)),L≠[]→(∀ x∈L,(47 : UInt8) ∉ x)→segW [] ((flat L).drop 1) = L
 | [],h,_=>absurd rfl h
 | [x],_,h=>by
  rw [flat_cons,flat_nil,List.append_nil,List.drop_succ_cons,List.drop_zero,segW_last x [] (h x (List.mem_cons_self ..)),List.nil_append]
 | x :: y :: L,_,h=>by
  have ih:=segW_flat (y :: L) (by simp) (fun z hz=>h z (List.mem_cons_of_mem _ hz))
  rw [flat_cons y L] at ih
  rw [flat_cons x,List.drop_succ_cons,List.drop_zero,flat_cons y L,segW_app x [] _ (h x (List.mem_cons_self ..)),List.nil_append]
  rw [List.drop_succ_cons,List.drop_zero] at ih
  rw [ih]
theorem flat_nu : ∀ (L : List (List UInt8)),(∀ x∈L,Good x)→Nu (flat L)∧(63 : UInt8) ∉ flat L
 | [],_=>⟨.nil,by simp [flat]⟩
 | x :: L,h=>by
  have hx:=h x (List.mem_cons_self ..)
  obtain ⟨h1,h2⟩:=flat_nu L (fun z hz=>h z (List.mem_cons_of_mem _ hz))
  rw [flat_cons]
  refine ⟨.one _ _ (.inl (by decide)) (hx.seg.nu.app h1),?_⟩
  rw [List.mem_cons,List.mem_append,not_or,not_or]
  exact ⟨by decide,hx.seg.n63,h2⟩
theorem flat_len : ∀ (L : List (List UInt8)),(flat L).length = totS L
 | []=>rfl
 | x :: L=>by
  rw [flat_cons]
  simp only [List.length_cons,List.length_append,flat_len L,totS,List.map_cons,List.sum_cons]
  omega
structure Cleaned (s t : List UInt8) (L : List (List UInt8)) (Q : List UInt8) (hb : Bool) : Prop where
 eq : t = flat L ++ (if hb then 63 :: Q else [])
 ne : L≠[]
 good : ∀ x∈L,Good x
 q : Nu Q
 q0 : hb = false→Q = []
 len : t.length≤s.length
 s500 : s.length≤500
 sp : splitF t = (flat L,Q,hb,0)
 has : (splitF s).2.2 = (hb,0)
 again : cleanF t = (t,0)
theorem orgF_un {s : List UInt8} (h : (orgF s).2 = 0) : Un s∧s≠[]∧charI s 0 = 47∧s.length≤500:=by
 have hl:=orgF_len h
 unfold orgF at h
 rw [if_neg (by omega),pre47] at h
 split at h
 ·cases h
 rename_i h0
 have h0 : s≠[]∧charI s 0 = 47:=by simpa using h0
 cases ho : orgL s 0 s.length with
 | none=>rw [ho] at h; cases h
 | some r =>
  have:=orgL_un s s.length 0 s.length r (by omega) ho
  rw [List.drop_zero] at this
  exact ⟨this,h0.1,h0.2,hl⟩
theorem un_orgF {s : List UInt8} (h : Un s) (h0 : s≠[]) (h1 : charI s 0 = 47) (hl : s.length≤500) : (orgF s).2 = 0:=by
 unfold orgF
 rw [if_neg (by omega),pre47,if_neg (by simpa using ⟨h0,h1⟩)]
 obtain ⟨r,hr⟩:=un_orgL h s 0 s.length (by omega) (by rw [List.drop_zero])
 rw [hr]
theorem splitF_err {s : List UInt8} (h : (splitF s).2.2.2 = 0) : (orgF s).2 = 0:=by
 unfold splitF at h
 split at h
 ·exact h
 ·rename_i g; simpa using g
theorem cleanF_err {s : List UInt8} (h : (cleanF s).2 = 0) : (splitF s).2.2.2 = 0:=by
 unfold cleanF at h
 split at h
 ·exact h
 ·rename_i g; simpa using g
theorem norm0 {s : List UInt8} (h : Nu s) : normL s 0 = s:=nu_norm h s 0 (by omega) List.drop_zero
theorem charI_47 {s : List UInt8} (h : charI s 0 = 47) : s.getD 0 0 = 47:=by
 unfold charI at h
 exact UInt8.toNat_inj.1 (by show (s.getD 0 0).toNat = 47; omega)
theorem clean_of {s t : List UInt8} (h : (t,(0 : Int)) = cleanF s) : ∃ L Q hb,Cleaned s t L Q hb:=by
 have he : (cleanF s).2 = 0:=by rw [←h]
 have ho:=splitF_err (cleanF_err he)
 obtain ⟨hu,hne,h47,hl⟩:=orgF_un ho
 have hsp:=splitF_ref ho
 obtain ⟨c1,c2,c3⟩:=cutF_spec 63 s
 obtain ⟨p,hp⟩ : ∃ p,p = (cutF 63 s).1:=⟨_,rfl⟩
 obtain ⟨q,hq⟩ : ∃ q,q = (cutF 63 s).2.1:=⟨_,rfl⟩
 obtain ⟨hb,hhb⟩ : ∃ b,b = (cutF 63 s).2.2:=⟨_,rfl⟩
 rw [←hp,←hq,←hhb] at hsp c2
 rw [←hp] at c1
 rw [←hq,←hhb] at c3
 have hup : Un p∧Un q:=by
  cases hb with
  | false =>
   simp only [Bool.false_eq_true,if_false,List.append_nil] at c2
   rw [c3 rfl,←c2]
   exact ⟨hu,.nil⟩
  | true =>
   simp only [if_true] at c2
   exact hu.cut sep63 p q c2
 have hp47 : p.getD 0 0 = 47:=by
  have:=charI_47 h47
  rw [c2] at this
  cases p with
  | nil =>
   exfalso
   cases hb with
   | false=>simp at this
   | true=>simp at this
  | cons x p=>simpa using this
 have r1:=nr_of hup.1 p 0 (by omega) List.drop_zero
 have r2:=nr_of hup.2 q 0 (by omega) List.drop_zero
 have n1:=nr_nu r1
 have n2:=nr_nu r2
 have m63:=nr_63 r1 c1
 have m47:=nr_47 r1 hp47
 have l1:=(normL_len p p.length 0 (by omega)).1
 have l2:=(normL_len q q.length 0 (by omega)).1
 have hcl:=cleanF_ref hsp.symm
 obtain ⟨P,hP⟩ : ∃ P,P = normL p 0:=⟨_,rfl⟩
 obtain ⟨Q,hQ⟩ : ∃ Q,Q = normL q 0:=⟨_,rfl⟩
 rw [←hP,←hQ] at hcl
 rw [←hP] at n1 m63 m47 l1
 rw [←hQ] at n2 l2
 obtain ⟨L,hL⟩ : ∃ L,L = foldSeg [] (segW [] (P.drop 1)):=⟨_,rfl⟩
 rw [←hL] at hcl
 have hP0 : ∃ P',P = 47 :: P':=by
  cases P with
  | nil=>simp at m47
  | cons x P=>exact ⟨P,by simp at m47; rw [m47]⟩
 obtain ⟨P',hP'⟩:=hP0
 have hne : L≠[]:=by rw [hL]; exact foldSeg_ne _ _ (segW_ne _ _)
 have hgood : ∀ x∈L,Good x:=by
  rw [hL]
  refine foldSeg_good _ _ (fun x hx=>by cases hx) (segW_seg _ [] (by simp) ?_ ?_)
  ·rw [hP'] at m63 ⊢; rw [List.drop_succ_cons,List.drop_zero,List.nil_append]; exact fun e=>m63 (List.mem_cons_of_mem _ e)
  ·rw [hP'] at n1 ⊢; rw [List.drop_succ_cons,List.drop_zero,List.nil_append]; exact (n1.cut sep47 [] P' rfl).2
 have hlen : totS L≤P.length:=by
  have h1:=segFold_tot (P.drop 1).length ([],true,0) (P.drop 1) (Nat.le_refl _)
  rw [segFold_seg _ _ _ (Nat.le_refl _)] at h1
  simp only at h1
  rw [←hL] at h1
  rw [hP'] at h1 ⊢
  simp [totS] at h1 ⊢
  omega
 have hteq : t = flat L ++ (if hb then 63 :: Q else []):=by
  rw [hcl] at h
  exact (Prod.mk.inj h).1
 have hq0 : hb = false→Q = []:=fun e=>by rw [hQ,c3 e]; exact normL_end (by simp)
 have htl : t.length≤s.length:=by
  rw [hteq,c2,List.length_append,List.length_append,flat_len]
  simp only [Nat.sub_zero] at l1 l2
  cases hb with
  | false=>simp; omega
  | true=>simp only [if_true,List.length_cons]; omega
 obtain ⟨f1,f2⟩:=flat_nu L hgood
 have hfl : ∃ w,flat L = 47 :: w:=by
  cases L with
  | nil=>exact absurd rfl hne
  | cons x L=>exact ⟨_,flat_cons x L⟩
 obtain ⟨w,hw⟩:=hfl
 have hcut : cutF 63 t = (flat L,Q,hb):=by
  rw [hteq]
  cases hb with
  | false=>rw [if_neg (by simp),List.append_nil,cutF_none f2,hq0 rfl]
  | true=>rw [if_pos rfl,cutF_app f2]
 have hut : Nu t:=by
  rw [hteq]
  refine f1.app ?_
  split
  ·exact .one _ _ (.inr rfl) n2
  ·exact .nil
 have hot : (orgF t).2 = 0:=by
  refine un_orgF hut.un ?_ ?_ (by omega)
  ·rw [hteq,hw]; simp
  ·rw [hteq,hw]; rfl
 have hst : splitF t = (flat L,Q,hb,0):=by rw [splitF_ref hot,hcut]
 refine ⟨L,Q,hb,hteq,hne,hgood,n2,hq0,htl,hl,hst,by rw [hsp],?_⟩
 rw [cleanF_ref hst.symm,norm0 f1,norm0 n2,segW_flat L hne (fun x hx=>(hgood x hx).seg.n47),foldSeg_id L [] hgood,List.nil_append,hteq]
 rfl
end Go.Proofs.YtefelnhpfdcleaaGreatDoor
namespace Go.Proofs.YtefelnhpfdcleaaGreatDoor
open Go Go.Sx
set_option maxRecDepth 100000
set_option maxHeartbeats 400000
theorem flat_head (L : List (List UInt8)) : ∃ w,flat L ++ [47] = 47 :: w:=by
 cases L with
 | nil=>exact ⟨[],rfl⟩
 | cons x L=>exact ⟨_,by rw [flat_cons]; rfl⟩
theorem no_dots {w : List UInt8} (hw : (47 : UInt8) ∉ w) : ∀ (L : List (List UInt8)),(∀ x∈L,(47 : UInt8) ∉ x∧x≠w)→∀ pre r,flat L ++ [47]≠pre ++ 47 :: (w ++ 47 :: r)
 | [],_,pre,r=>fun h=>by
  have:=congrArg List.length h
  simp only [flat,List.flatMap_nil,List.nil_append,List.length_append,List.length_cons,List.length_nil] at this
  omega
 | x :: L,hL,pre,r=>fun h=>by
  have hx:=hL x (List.mem_cons_self ..)
  have ih:=no_dots hw L (fun z hz=>hL z (List.mem_cons_of_mem _ hz))
  obtain ⟨v,hv⟩:=flat_head L
  rw [flat_cons,List.cons_append,List.append_assoc] at h
  cases pre with
  | nil =>
   have h2:=(List.cons.inj h).2
   rw [hv] at h2
   have e1:=cutF_app hx.1 v
   rw [h2,cutF_app hw] at e1
   exact hx.2 (Prod.mk.inj e1).1.symm
  | cons p pre =>
   have h2:=(List.cons.inj h).2
   rcases List.append_eq_append_iff.1 h2 with ⟨a,ha,hb⟩ | ⟨c,hc,hd⟩
   ·exact ih a r hb
   ·cases c with
    | nil=>exact ih [] r (by simpa using hd.symm)
    | cons y c =>
     have:=(List.cons.inj hd).1
     exact hx.1 (by rw [hc,this]; simp)
theorem dig37 : ∀ d : Fin 16,digL.getD d.1 0≠37:=by decide
theorem dig37' {d : Nat} (h : d < 16) : digL.getD d 0≠37:=dig37 ⟨d,h⟩
theorem Nu.pct {u : List UInt8} (h : Nu u) : ∀ pre a b r,u = pre ++ 37 :: a :: b :: r→∃ v,v < 256∧kindN v≠1∧a = digL.getD (v / 16) 0∧b = digL.getD (v % 16) 0:=by
 induction h with
 | nil=>intro pre a b r h; simp at h
 | esc v s hv hk _ ih =>
  intro pre a b r h
  match pre,h with
  | [],h =>
   simp only [List.nil_append,List.cons.injEq] at h
   exact ⟨v,hv,hk,h.2.1.symm,h.2.2.1.symm⟩
  | [p],h=>exact absurd (List.cons.inj (List.cons.inj h).2).1 (dig37' (by omega))
  | [p,q],h=>exact absurd (List.cons.inj (List.cons.inj (List.cons.inj h).2).2).1 (dig37' (by omega))
  | p :: q :: t :: pre,h =>
   simp only [List.cons_append,List.cons.injEq] at h
   exact ih pre a b r h.2.2.2
 | one c s hc _ ih =>
  intro pre a b r h
  match pre,h with
  | [],h=>exact absurd (List.cons.inj h).1 (one37 hc)
  | p :: pre,h =>
   simp only [List.cons_append,List.cons.injEq] at h
   exact ih pre a b r h.2
theorem dig4 : ∀ v : Fin 256,kindN v.1≠1→digL.getD (v.1 / 16) 0 = 52→¬ (49≤(digL.getD (v.1 % 16) 0).toNat∧(digL.getD (v.1 % 16) 0).toNat≤57):=by decide +kernel
theorem dig3 : ∀ v : Fin 256,kindN v.1≠1→digL.getD (v.1 / 16) 0 = 51→¬ (48≤(digL.getD (v.1 % 16) 0).toNat∧(digL.getD (v.1 % 16) 0).toNat≤57):=by decide +kernel
theorem pre_split {d p : List UInt8} {i : Nat} (h : Lib.hasPrefix (d.drop i) p = true) : ∃ r,d = d.take i ++ (p ++ r):=by
 unfold Lib.hasPrefix at h
 rw [List.isPrefixOf_iff_prefix] at h
 obtain ⟨r,hr⟩:=h
 exact ⟨r,by rw [hr,List.take_append_drop]⟩
theorem pre_third {d : List UInt8} {x y : UInt8} {i : Nat} (h : Lib.hasPrefix (d.drop i) [x,y] = true) (hl : i + 2 < d.length) : ∃ r,d = d.take i ++ x :: y :: d.getD (i + 2) 0 :: r:=by
 obtain ⟨r,hr⟩:=pre_split h
 have hi : (d.take i).length = i:=by rw [List.length_take]; omega
 have h2 : d.drop (i + 2) = r:=by
  have h3 : d.drop i = x :: y :: r:=by
   conv=>lhs; rw [hr]
   have:=List.drop_left (l₁:=d.take i) (l₂:=[x,y] ++ r)
   rw [hi] at this
   exact this
  rw [←List.drop_drop,h3]; rfl
 exact ⟨d.drop (i + 3),by rw [←drop_at hl,h2]; exact hr⟩
theorem path_fine {L : List (List UInt8)} (hL : ∀ x∈L,Good x) {d : List UInt8} (hd : d = flat L ++ [47]) (i : Nat) :
  Lib.hasPrefix (d.drop i) [47,46,47] = false∧Lib.hasPrefix (d.drop i) [47,46,46,47] = false∧
  (Lib.hasPrefix (d.drop i) [37,52] = true→i + 2 < d.length→¬ (49≤charI d (i + 2)∧charI d (i + 2)≤57))∧
  (Lib.hasPrefix (d.drop i) [37,51] = true→i + 2 < d.length→¬ (48≤charI d (i + 2)∧charI d (i + 2)≤57)):=by
 have hnu : Nu d:=by rw [hd]; exact (flat_nu L hL).1.app (.one _ _ (.inl (by decide)) .nil)
 refine ⟨?_,?_,fun h hl=>?_,fun h hl=>?_⟩
 ·cases hp : Lib.hasPrefix (d.drop i) [47,46,47] with
  | false=>rfl
  | true =>
   obtain ⟨r,hr⟩:=pre_split hp
   exact absurd (hd.symm.trans hr) (no_dots (w:=[46]) (by decide) L (fun x hx=>⟨(hL x hx).seg.n47,(hL x hx).d1⟩) _ r)
 ·cases hp : Lib.hasPrefix (d.drop i) [47,46,46,47] with
  | false=>rfl
  | true =>
   obtain ⟨r,hr⟩:=pre_split hp
   exact absurd (hd.symm.trans hr) (no_dots (w:=[46,46]) (by decide) L (fun x hx=>⟨(hL x hx).seg.n47,(hL x hx).d2⟩) _ r)
 ·obtain ⟨r,hr⟩:=pre_third h hl
  obtain ⟨v,hv,hk,h1,h2⟩:=hnu.pct _ _ _ _ hr
  have:=dig4 ⟨v,hv⟩ hk h1.symm
  rw [←h2] at this
  unfold charI
  omega
 ·obtain ⟨r,hr⟩:=pre_third h hl
  obtain ⟨v,hv,hk,h1,h2⟩:=hnu.pct _ _ _ _ hr
  have:=dig3 ⟨v,hv⟩ hk h1.symm
  rw [←h2] at this
  unfold charI
  omega
end Go.Proofs.YtefelnhpfdcleaaGreatDoor
