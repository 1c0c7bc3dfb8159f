/- Part of the proofs of the statements about responses and messages (layers 9 and 10): a symbolic executor over the code, that it is sound, and contracts of functions; it has no conditions of its own. -/
import Derived.Lib.ItoaLen
import Derived.Shelf.Bytes.SlIndexAt
import Derived.Lib.Strings
import Derived.Lib.Slices
import Derived.Lib.Walk
import Derived.Lib.Builder
import Derived.Lib.AppendStr
import Derived.Lib.UnsafeStr
import Derived.WalkKit
import Derived.Laws.Externs
import Derived.Laws.IdiomCopy
import Derived.Test.YtdoogdbjiijifaaGreatDoorSzPay
import Derived.Test.YtdoogdbjiijifaaGreatDoorSzPav
namespace Go.Proofs.YtdoogdbjiijifaaGreatDoor
open Go.Sx
set_option maxRecDepth 100000
set_option maxHeartbeats 8000000
structure HF where
 name : List UInt8
 value : List UInt8
 deriving Inhabited
def Ed (x : HF) : List SV:=[.str x.name,.str x.value]
def HF.small (x : HF) : Prop:=x.name.length≤9223372036854775807∧x.value.length≤9223372036854775807
structure Bz (f : Nat→List SV) (n : Int) (l : List HF) : Prop where
 n : n = l.length
 f : ∀ i,i < l.length→f i = Ed (l.getD i default)
 len : l.length≤9223372036854775807
 small : ∀ i,i < l.length→(l.getD i default).small
def Xz (x : HF) : Int:=x.name.length + x.value.length + 4
structure SizeOk (a b : List UInt8) : Prop where
 a : a.length≤1000000000000
 b : b.length≤1000000000000
def spSize : FSpec:=fun _ xs ls K=>∃ (a b : List UInt8),xs = [.agg [.str a,.str b]]∧ls = []∧SizeOk a b∧∀ r,r = Xz ⟨a,b⟩→K (.int .i64 (.a r)) []
theorem size_ok : A2 Tryz.prog gl 175 spSize:=by
 refine Dg (gh:=[]) mixed Dp Aw Tryz.func175 (by kernel_rfl) (by kernel_rfl) ?_
 intro xs ls K h
 unfold spSize at h
 obtain ⟨a,b,rfl,rfl,hs,h⟩:=h
 obtain ⟨k,hk⟩ : ∃ k,k = Xz ⟨a,b⟩:=⟨_,rfl⟩
 refine ⟨_,_,h k hk,fun D hD=>?_⟩
 clear h
 cbv
 refine Bv hD ?_
 have h1:=hs.a; have h2:=hs.b
 rw [hk]
 show IntKind.i64.wrap (IntKind.i64.wrap ((a.length : Int) + b.length) + 4) = _
 rw [Bl (n:=(a.length : Int) + b.length) (by omega) (by omega),Bl (by omega) (by omega)]
 rfl
def Ace (x : HF) : Bool:=!Bj x.name || (!Ci x.value || trimF x.value != x.value)
def Ff : List HF→Int→Int
 | [],n=>if 8192 < n then 3 else 0
 | x :: l,n=>if Ace x then 6 else if 2000 < x.value.length then 3 else Ff l (n + Xz x)
def A7 (l : List HF) : Int:=if 100 < l.length then 3 else Ff l 2
def spCheck : FSpec:=fun _ xs ls K=>∃ (l : List HF) (nl : Bool) (n : Int) (f : Nat→List SV),xs = [.sl (.a nl) (.a n) 2 f]∧ls = []∧Bz f n l∧∀ r,r = A7 l→K (.int .i64 (.a r)) []
structure ChJ (k : Int) (l : List HF) (i : Nat) (I N : Int) (m : Nat) : Prop where
 at_ : AtR l i I m
 lo : 0≤N
 hi : N≤3000 * (i + 1)
 k : k = Ff (l.drop i) N
def chJ (k : Int) (l : List HF) (nl : Bool) (n : Int) (f : Nat→List SV) (m : Nat) (vs : List (Option SV)) (hp : List Hl) : Prop :=
 ∃ (i : Nat) (I N : Int),vs = [some (.int .i64 (.a N)),some (.sl (.a nl) (.a n) 2 f),some (.int .i64 (.a n)),some (.int .i64 (.a I))]∧hp = []∧ChJ k l i I N m
theorem Nw : A2 Tryz.prog gl 125 spCheck:=by
 refine Dg (gh:=[]) mixed Dp (Ah H8 (Ah Va (Ah K1 (Ah size_ok Aw)))) Tryz.func125 (by kernel_rfl) (by kernel_rfl) ?_
 intro xs ls K h
 unfold spCheck at h
 obtain ⟨l,nl,n,f,rfl,rfl,R,h⟩:=h
 obtain ⟨k,hk⟩ : ∃ k,k = A7 l:=⟨_,rfl⟩
 refine ⟨_,_,h k hk,fun D hD=>?_⟩
 clear h
 obtain ⟨J,hJ⟩ : ∃ J,J = chJ k l nl n f:=⟨_,rfl⟩
 cbv
 refine br hD (fun h=>?_) (fun h=>?_)<;>cbv
 ·refine Bv hD ?_
  have h2 : 100 < n:=of_decide_eq_true (p:=(100 : Int) < n) h
  rw [hk,A7,if_pos (by have:=R.n; omega)]
  rfl
 have h2 : n≤100:=by
  have:=of_decide_eq_false (p:=(100 : Int) < n) h
  omega
 clear h
 refine ⟨[3,9,10,11],J,⟨rfl,l.length,?_⟩,?_⟩
 ·rw [hJ]
  subst hD
  refine ⟨0,0,2,rfl,rfl,AtR.zero R.len,by omega,by omega,?_⟩
  rw [hk,A7,if_neg (by have:=R.n; omega)]
  rfl
 intro m vs hp hj
 rw [hJ] at hj
 obtain ⟨i,I,N,rfl,rfl,V⟩:=hj
 clear hk
 cbv
 refine br hD (fun h=>?_) (fun h=>?_)<;>cbv
 ·have hlt:=V.at_.lt R.n (of_decide_eq_true (p:=I < n) h)
  clear h
  refine ⟨V.at_.inB hD R.n hlt,fun j hj=>?_⟩
  obtain rfl:=V.at_.j hD hj
  clear hj
  have e1:=R.f j hlt
  have hsm:=R.small j hlt
  have hk2:=V.k
  rw [Nr (d:=default) hlt] at hk2
  obtain ⟨x,hx⟩ : ∃ x,x = l.getD j default:=⟨_,rfl⟩
  rw [←hx] at e1 hk2 hsm
  obtain ⟨a,b⟩:=x
  cbv
  rw [e1]
  cbv
  refine ⟨a,rfl,rfl,hsm.1,fun t ht=>?_⟩
  cbv
  refine ⟨b,rfl,rfl,fun p hp=>?_⟩
  cbv
  refine ⟨b,_,rfl,rfl,hsm.2,?_,?_,fun q hq=>?_⟩
  ·decide
  ·decide
  cbv
  have hbad : ∀ v : Bool,(((!t || !p) || !(q == b)) = v)→Ace ⟨a,b⟩ = v:=by
   intro v hv
   rw [←hv,ht,hp,hq,Q2,Bool.or_assoc]
   rfl
  clear ht hp hq
  refine br hD (fun h=>?_) (fun h=>?_)<;>cbv
  ·have h3:=hbad true (by simpa [BT.den] using h)
   refine Bv hD ?_
   rw [hk2,Ff,if_pos h3]; rfl
  have h3:=hbad false (by simpa [BT.den] using h)
  clear h hbad
  refine br hD (fun h=>?_) (fun h=>?_)<;>cbv
  ·have h4 : (2000 : Int) < b.length:=of_decide_eq_true (p:=(2000 : Int) < b.length) h
   refine Bv hD ?_
   rw [hk2,Ff,h3,if_neg (by simp),if_pos (by show 2000 < b.length; omega)]; rfl
  have h4 : b.length≤2000:=by
   have:=of_decide_eq_false (p:=(2000 : Int) < b.length) h
   omega
  clear h
  have ha : a.length≤64:=by
   unfold Ace at h3
   simp only [Bool.or_eq_false_iff,Bool.not_eq_false'] at h3
   have:=h3.1
   unfold Bj at this
   simp only [Bool.and_eq_true,decide_eq_true_eq] at this
   exact this.2.2
  refine ⟨a,b,rfl,rfl,⟨by omega,by omega⟩,fun z hz=>?_⟩
  cbv
  obtain ⟨g1,g2⟩:=V.at_.step hD hlt
  refine ⟨_,g1,?_⟩
  rw [hJ]
  have h5 : z = a.length + b.length + 4:=hz
  have h6:=V.lo
  have h7:=V.hi
  have h8:=V.at_.le
  have h9 : IntKind.i64.wrap (N + z) = N + z:=Bl (by omega) (by have:=R.n; omega)
  subst hD
  refine ⟨j + 1,_,_,rfl,rfl,g2,?_,?_,?_⟩
  ·show 0≤IntKind.i64.wrap (N + z); omega
  ·show IntKind.i64.wrap (N + z)≤_; omega
  ·show k = Ff _ (IntKind.i64.wrap (N + z))
   rw [h9,hk2,Ff,h3,if_neg (by simp),if_neg (by show ¬ 2000 < b.length; omega),h5]
   rfl
 ·have hi:=V.at_.eq R.n (of_decide_eq_false (p:=I < n) h)
  have hk2:=V.k
  rw [hi,List.drop_length] at hk2
  clear h
  refine br hD (fun h=>?_) (fun h=>?_)<;>cbv
  ·refine Bv hD ?_
   have h2 : 8192 < N:=of_decide_eq_true (p:=(8192 : Int) < N) h
   rw [hk2,Ff,if_pos h2]; rfl
  ·refine Bv hD ?_
   have h2 : ¬ 8192 < N:=of_decide_eq_false (p:=(8192 : Int) < N) h
   rw [hk2,Ff,if_neg h2]; rfl
end Go.Proofs.YtdoogdbjiijifaaGreatDoor
namespace Go.Proofs.YtdoogdbjiijifaaGreatDoor
open Go.Sx
set_option maxRecDepth 100000
set_option maxHeartbeats 8000000
def spNamed : FSpec:=fun _ xs ls K=>∃ (nl : Bool) (n : Int) (f : Nat→List SV) (s : List UInt8),xs = [.sl (.a nl) (.a n) 2 f,.str s]∧ls = []∧s.length≤9223372036854775807∧
 ∀ t,t = foldF s→K (.clo 230 [.ptr 0 0,.ptr 1 0]) [.blk 23 [.sl (.a nl) (.a n) 2 f],.blk 9 [.str t]]
theorem Aia : A2 Tryz.prog gl 177 spNamed:=by
 refine Ek (gh:=[]) mixed Dp (Ah W2 Aw) Tryz.func177 (by kernel_rfl) (by kernel_rfl) ?_
 intro xs ls K h
 unfold spNamed at h
 obtain ⟨nl,n,f,s,rfl,rfl,hs,h⟩:=h
 obtain ⟨k,hk⟩ : ∃ k,k = foldF s:=⟨_,rfl⟩
 refine ⟨_,_,h k hk,fun D hD=>?_⟩
 clear h
 cbv
 refine ⟨s,rfl,rfl,hs,fun t ht=>?_⟩
 rw [←hk] at ht
 subst ht
 cbv
 subst hD
 exact Abz rfl rfl
end Go.Proofs.YtdoogdbjiijifaaGreatDoor
namespace Go.Proofs.YtdoogdbjiijifaaGreatDoor
open Go.Sx
set_option maxRecDepth 100000
set_option maxHeartbeats 8000000
def setF (F : List UInt8→Bool) (s : List UInt8) : List UInt8→Bool:=fun k=>if k = s then true else F k
def Ach (F : List UInt8→Bool) (els : List (List UInt8)) : List UInt8→Bool:=els.foldl (fun F s=>if Bj s then setF F (foldF s) else F) F
def Adt (t : List UInt8) : List HF→(List UInt8→Bool)→(List UInt8→Bool)×Bool
 | [],F=>(F,true)
 | x :: l,F=>if foldF x.name = t then (if (Ba x.value).2 = 0 then Adt t l (Ach F (Ba x.value).1) else (F,false)) else Adt t l F
structure NmJ (t : List UInt8) (k : (List UInt8→Bool)×Bool) (l : List HF) (F : List UInt8→Bool) (i : Nat) (I : Int) (m : Nat) : Prop where
 lie : AtR l i I m
 k : k = Adt t (l.drop i) F
end Go.Proofs.YtdoogdbjiijifaaGreatDoor
namespace Go.Proofs.YtdoogdbjiijifaaGreatDoor
open Go.Sx
set_option maxRecDepth 100000
set_option maxHeartbeats 8000000
def conn : List UInt8:=[99,111,110,110,101,99,116,105,111,110]
def fixedL : List (List UInt8):=[conn,[107,101,101,112,45,97,108,105,118,101],[112,114,111,120,121,45,99,111,110,110,101,99,116,105,111,110],[116,101],[116,114,97,105,108,101,114],[116,114,97,110,115,102,101,114,45,101,110,99,111,100,105,110,103],[117,112,103,114,97,100,101]]
def baseS : List UInt8→Bool:=fixedL.foldl setF fun _=>false
def hopsF (l : List HF) : (List UInt8→Bool)×Bool:=Adt conn l baseS
theorem Aeh.eq {F' F : List UInt8→Bool} {s : List UInt8} (h : Aeh F' F s true) : F' = setF F s:=funext fun k=>h.h k
structure HopJ (els : List (List UInt8)) (F0 F : List UInt8→Bool) (i : Nat) (I L : Int) (m : Nat) : Prop where
 lie : AtR els i I m
 L : L = els.length
 k : Ach F0 els = Ach F (els.drop i)
end Go.Proofs.YtdoogdbjiijifaaGreatDoor
namespace Go.Proofs.YtdoogdbjiijifaaGreatDoor
open Go Go.Sx
set_option maxRecDepth 100000
set_option maxHeartbeats 8000000
def Adu (l : List HF) (i : Nat) : List SV:=match l[i]? with
 | some x=>Ed x
 | none=>[]
theorem Aiv {l : List HF} {i : Nat} (h : i < l.length) : Adu l i = Ed (l.getD i default):=by
 unfold Adu
 rw [List.getElem?_eq_getElem h,List.getD_eq_getElem?_getD,List.getElem?_eq_getElem h]; rfl
theorem Bz.row {l : List HF} (h : l.length≤9223372036854775807) (hs : ∀ i,i < l.length→(l.getD i default).small) : Bz (Adu l) l.length l:=⟨rfl,fun _ hi=>Aiv hi,h,hs⟩
def keepH (F : List UInt8→Bool) (x : HF) : Bool:=!F (foldF x.name)
def idxH (p : HF→Bool) : List HF→Int→Int
 | [],_=>-1
 | x :: l,i=>if p x then i else idxH p l (i + 1)
structure IxJ (k : Int) (F : List UInt8→Bool) (l : List HF) (i : Nat) (I : Int) (m : Nat) : Prop where
 lie : AtR l i I m
 k : k = idxH (fun x=>F (foldF x.name)) (l.drop i) I
end Go.Proofs.YtdoogdbjiijifaaGreatDoor
namespace Go.Proofs.YtdoogdbjiijifaaGreatDoor
open Go Go.Sx
set_option maxRecDepth 100000
set_option maxHeartbeats 8000000
def Y9 (F : List UInt8→Bool) (l : List HF) : List HF:=l.filter (keepH F)
structure DelJ (F : List UInt8→Bool) (l : List HF) (f : Nat→List SV) (j : Nat) (I J : Int) (m : Nat) : Prop where
 lie : AtR l j J m
 I : I = ((Y9 F (l.take j)).length : Int)
 row : ∀ k,k < (Y9 F (l.take j)).length→f k = Ed ((Y9 F (l.take j)).getD k default)
 rest : ∀ k,j≤k→k < l.length→f k = Ed (l.getD k default)
 tot : ∀ k,k < l.length→∃ x,f k = Ed x
 lt : (Y9 F (l.take j)).length < j
def Q8 (l : List HF) : List HF×Int :=
 if A7 l≠0 then ([],A7 l) else if (hopsF l).2 then (Y9 (hopsF l).1 l,0) else ([],6)
structure ResH (l : List HF) (nb : Bool) (n : Int) (f : Nat→List SV) : Prop where
 row : Bz f n l
 nil : nb = true→l = []
theorem Ti {l : List HF} (h : A7 l = 0) : l.length≤100:=by
 unfold A7 at h
 split at h
 ·cases h
 ·omega
end Go.Proofs.YtdoogdbjiijifaaGreatDoor
namespace Go.Proofs.YtdoogdbjiijifaaGreatDoor
open Go Go.Sx
set_option maxRecDepth 100000
set_option maxHeartbeats 16000000
abbrev CS:=List (List UInt8)×Bool×Int
def capp (x : List UInt8) (σ : CS) : CS:=(σ.1 ++ [x],false,σ.2.2 + 1)
def cpop (σ : CS) : CS:=(σ.1.dropLast,σ.2.1,σ.2.2 + 1)
def cstep (σ : CS) (s : List UInt8) (last : Bool) : CS :=
 if s≠[46]∧s≠[46,46] then capp s σ else
 if last then capp [] (if s = [46,46]∧σ.1≠[] then cpop σ else σ) else (if s = [46,46]∧σ.1≠[] then cpop σ else σ)
theorem cutF_lt {c : UInt8} {s : List UInt8} (h : (Ap c s).2.2 = true) : (Ap c s).2.1.length < s.length:=by
 obtain ⟨_,_,h3,h4⟩:=Iv h
 rw [h3,List.length_drop]; omega
def Wd (σ : CS) (rest : List UInt8) : CS :=
 if _h : (Ap 47 rest).2.2 = true then Wd (cstep σ (Ap 47 rest).1 false) (Ap 47 rest).2.1 else cstep σ (Ap 47 rest).1 true
 termination_by rest.length
decreasing_by exact cutF_lt _h
structure SgJ (k : CS) (rest : List UInt8) (st : List (List UInt8)) (nl : Bool) (g n : Int) (f : Nat→List SV) (m : Nat) : Prop where
 m : m = rest.length
 row : Cb f n st
 k : k = Wd (st,nl,g) rest
 len : st.length + rest.length≤50000
end Go.Proofs.YtdoogdbjiijifaaGreatDoor
namespace Go.Proofs.YtdoogdbjiijifaaGreatDoor
open Go Go.Sx Go.RowKit
set_option maxRecDepth 100000
set_option maxHeartbeats 2000000
end Go.Proofs.YtdoogdbjiijifaaGreatDoor
namespace Go.Proofs.YtdoogdbjiijifaaGreatDoor
open Go Go.Sx
set_option maxRecDepth 100000
set_option maxHeartbeats 40000000
def cleanF (s : List UInt8) : List UInt8×Int :=
 if (Lu s).2.2.2≠0 then ([],(Lu s).2.2.2) else
 ([47] ++ Lib.join (Wd ([],true,0) ((normL (Lu s).1 0).drop 1)).1 [47] ++ (if (Lu s).2.2.1 then [63] ++ normL (Lu s).2.1 0 else []),0)
structure CBound (p q : List UInt8) : Prop where
 p1 : 1≤p.length
 p : p.length≤500
 q : q.length≤500
structure EqI (a b : Int) : Prop where
 h : a = b
end Go.Proofs.YtdoogdbjiijifaaGreatDoor
namespace Go.Proofs.YtdoogdbjiijifaaGreatDoor
open Go Go.Sx
set_option maxRecDepth 100000
set_option maxHeartbeats 2000000
structure Rq where
 id : Int
 method : List UInt8
 target : List UInt8
 host : List UInt8
 fields : List HF
 body : List UInt8
structure RqOk (r : Rq) (nl : Bool) (n : Int) (f : Nat→List SV) : Prop where
 id1 : -9223372036854775808≤r.id
 id2 : r.id≤9223372036854775807
 method : r.method.length≤9223372036854775807
 target : r.target.length≤9223372036854775807
 host : r.host.length≤9223372036854775807
 body : r.body.length≤9223372036854775807
 row : Bz f n r.fields
 nil : nl = true→r.fields = []
def X4 : List UInt8:=[72,111,115,116]
def Ag9 : List UInt8:=[88,45,82,101,113,117,101,115,116,45,73,100]
def sCL : List UInt8:=[67,111,110,116,101,110,116,45,76,101,110,103,116,104]
def sPost : List UInt8:=[80,79,83,84]
def sPut : List UInt8:=[80,85,84]
def sPatch : List UInt8:=[80,65,84,67,72]
def Ri : List UInt8:=[67,79,78,78,69,67,84]
def sId : List UInt8:=[105,100]
def Acy : List UInt8:=[109,101,116,104,111,100]
def sTarget : List UInt8:=[116,97,114,103,101,116]
def sHostP : List UInt8:=[104,111,115,116]
def sFields : List UInt8:=[102,105,101,108,100,115]
def sBody : List UInt8:=[98,111,100,121]
def Gc (r : Rq) : Bool:=((r.body != [] || r.method == sPost) || r.method == sPut) || r.method == sPatch
def A0 (r : Rq) : List HF×Int :=
 if (Q8 r.fields).2≠0 then ([],(Q8 r.fields).2) else
 (([⟨X4,r.host⟩,⟨Ag9,Lib.itoa r.id⟩] ++ (Q8 r.fields).1) ++ (if Gc r then [⟨sCL,Lib.itoa r.body.length⟩] else []),0)
theorem Bz.app {f g f' : Nat→List SV} {n m n' : Int} {a b : List HF} (R : Bz f n a) (S : Bz g m b) (h : Hq f' n' n m f g) (hl : a.length + b.length≤9223372036854775807) : Bz f' n' (a ++ b):=by
 have hn:=R.n; have hm:=S.n
 refine ⟨by rw [h.len,hn,hm,List.length_append]; omega,fun i hi=>?_,by rw [List.length_append]; exact hl,fun i hi=>?_⟩
 ·rw [List.length_append] at hi
  rw [List.getD_eq_getElem?_getD,List.getElem?_append]
  split
  ·rename_i h1
   rw [h.lo i (by omega),R.f i h1,List.getD_eq_getElem?_getD]
  ·rename_i h1
   rw [h.hi i (i - a.length) (by omega) (by omega),S.f _ (by omega),List.getD_eq_getElem?_getD]
 ·rw [List.length_append] at hi
  rw [List.getD_eq_getElem?_getD,List.getElem?_append]
  split
  ·rename_i h1
   have:=R.small i h1
   rwa [List.getD_eq_getElem?_getD] at this
  ·rename_i h1
   have:=S.small (i - a.length) (by omega)
   rwa [List.getD_eq_getElem?_getD] at this
theorem Bz.one {f : Nat→List SV} {x : HF} (h : f 0 = Ed x) (hs : x.small) : Bz f 1 [x]:=by
 refine ⟨rfl,fun i hi=>?_,by simp,fun i hi=>?_⟩
 ·have : i = 0:=by simpa using hi
  subst this; exact h
 ·have : i = 0:=by simpa using hi
  subst this; exact hs
theorem Bz.two {f : Nat→List SV} {x y : HF} (h : f 0 = Ed x) (h1 : f 1 = Ed y) (hs : x.small) (hs1 : y.small) : Bz f 2 [x,y]:=by
 refine ⟨rfl,fun i hi=>?_,by simp,fun i hi=>?_⟩
 ·match i,hi with
  | 0,_=>exact h
  | 1,_=>exact h1
 ·match i,hi with
  | 0,_=>exact hs
  | 1,_=>exact hs1
theorem Lj (l : List HF) (h : l.length≤9223372036854775807) (hs : ∀ i,i < l.length→(l.getD i default).small) : ∃ g n,Bz g n l:=⟨_,_,Bz.row h hs⟩
end Go.Proofs.YtdoogdbjiijifaaGreatDoor
namespace Go.Proofs.YtdoogdbjiijifaaGreatDoor
open Go Go.Sx
set_option maxRecDepth 100000
set_option maxHeartbeats 8000000
structure Fr where
 hosts : List (List UInt8)
 ids : List (List UInt8)
 lens : List (List UInt8)
 coded : Bool
 rest : List HF
def Ke : List UInt8:=[104,111,115,116]
def nId : List UInt8:=[120,45,114,101,113,117,101,115,116,45,105,100]
def nLen : List UInt8:=[99,111,110,116,101,110,116,45,108,101,110,103,116,104]
def nTE : List UInt8:=[116,114,97,110,115,102,101,114,45,101,110,99,111,100,105,110,103]
def S3 (r : Fr) (x : HF) : Fr :=
 if foldF x.name = Ke then { r with hosts:=r.hosts ++ [x.value] } else
 if foldF x.name = nId then { r with ids:=r.ids ++ [x.value] } else
 if foldF x.name = nLen then { r with lens:=r.lens ++ [x.value] } else
 if foldF x.name = nTE then { r with coded:=true } else { r with rest:=r.rest ++ [x] }
def H5 (l : List HF) : Fr:=l.foldl S3 ⟨[],[],[],false,[]⟩
structure GrS (f : Nat→List SV) (n : Int) (nl : Bool) (l : List (List UInt8)) : Prop where
 row : Cb f n l
 nl : nl = l.isEmpty
structure GrH (f : Nat→List SV) (n : Int) (nl : Bool) (l : List HF) : Prop where
 row : Bz f n l
 nl : nl = l.isEmpty
structure FrV (r : Fr) (f1 f2 f3 f4 : Nat→List SV) (n1 n2 n3 n4 : Int) (b1 b2 b3 b4 : Bool) : Prop where
 g1 : GrS f1 n1 b1 r.hosts
 g2 : GrS f2 n2 b2 r.ids
 g3 : GrS f3 n3 b3 r.lens
 g4 : GrH f4 n4 b4 r.rest
structure FrJ (l : List HF) (k r : Fr) (f1 f2 f3 f4 : Nat→List SV) (n1 n2 n3 n4 : Int) (b1 b2 b3 b4 : Bool) (i : Nat) (I : Int) (m : Nat) : Prop where
 lie : AtR l i I m
 v : FrV r f1 f2 f3 f4 n1 n2 n3 n4 b1 b2 b3 b4
 k : k = (l.drop i).foldl S3 r
 len : r.hosts.length + r.ids.length + r.lens.length + r.rest.length≤i
theorem Qt : Bz (fun _=>[]) 0 []:=⟨rfl,fun i hi=>absurd hi (by simp),by simp,fun i hi=>absurd hi (by simp)⟩
theorem GrS.nil : GrS (fun _=>[]) 0 true []:=⟨Cb.nil,rfl⟩
theorem GrH.nil : GrH (fun _=>[]) 0 true []:=⟨Qt,rfl⟩
theorem GrS.more {f f' g : Nat→List SV} {n n' : Int} {nl nl' : Bool} {l : List (List UInt8)} {x : List UInt8} (G : GrS f n nl l) (hg : g 0 = [.str x]) (h : Hq f' n' n 1 f g) (hl : l.length≤100) (hb : nl' = false) : GrS f' n' nl' (l ++ [x]):=⟨G.row.more hg h (by omega),by rw [hb]; simp⟩
theorem GrH.more {f f' g : Nat→List SV} {n n' : Int} {nl nl' : Bool} {l : List HF} {x : HF} (G : GrH f n nl l) (hg : g 0 = Ed x) (hs : x.small) (h : Hq f' n' n 1 f g) (hl : l.length≤100) (hb : nl' = false) : GrH f' n' nl' (l ++ [x]) :=
 ⟨G.row.app (Bz.one hg hs) h (by simp only [List.length_cons,List.length_nil]; omega),by rw [hb]; simp⟩
theorem Adn {f f2 : Nat→List SV} {n n2 : Int} {b b2 : Bool} {l : List (List UInt8)} {x : BT} {y : ST} (G : GrS f n b l) (G2 : GrS f2 n2 b2 l) (hx : x.den = b:=by rfl) (hy : y.den = n:=by rfl) : LeV (.sl x y 1 f) (.sl (.a b2) (.a n2) 1 f2):=by
 refine LeV.sl (by rw [hx,G.nl,G2.nl.symm]; rfl) (by rw [hy,G.row.n,G2.row.n.symm]; rfl) fun i hi=>?_
 rw [hy] at hi
 have:=G.row.n
 rw [G.row.f i (by omega),G2.row.f i (by omega)]
theorem Aik {f f2 : Nat→List SV} {n n2 : Int} {b b2 : Bool} {l : List HF} {x : BT} {y : ST} (G : GrH f n b l) (G2 : GrH f2 n2 b2 l) (hx : x.den = b:=by rfl) (hy : y.den = n:=by rfl) : LeV (.sl x y 2 f) (.sl (.a b2) (.a n2) 2 f2):=by
 refine LeV.sl (by rw [hx,G.nl,G2.nl.symm]; rfl) (by rw [hy,G.row.n,G2.row.n.symm]; rfl) fun i hi=>?_
 rw [hy] at hi
 have:=G.row.n
 rw [G.row.f i (by omega),G2.row.f i (by omega)]
end Go.Proofs.YtdoogdbjiijifaaGreatDoor
namespace Go.Proofs.YtdoogdbjiijifaaGreatDoor
open Go Go.Sx Go.RowKit
set_option maxRecDepth 100000
set_option maxHeartbeats 4000000
def spIdxRow : FSpec:=fun _ xs ls K=>∃ (t : List UInt8) (nl : Bool) (n c : Int) (f : Nat→List SV),xs = [.sl (.a nl) (.a n) 1 f,.int .u8 (.a c)]∧ls = []∧A8 f n t∧c = 10∧∀ r,r = Lib.indexByte t 10→K (.int .i64 (.a r)) []
theorem Aac (t : List UInt8) : Lib.bytesOf (t.map fun c=>(c.toNat : Int)) = t:=by
 unfold Lib.bytesOf
 rw [List.map_map]
 conv=>rhs; rw [←List.map_id t]
 refine List.map_congr_left fun c _=>?_
 simp [Function.comp]
theorem U9 : A2 Tryz.prog gl 53 spIdxRow:=by
 refine ⟨⟨Tryz.f53,_,Tryz.func53,rfl,by kernel_rfl⟩,fun xs ls K h=>?_⟩
 obtain ⟨t,nl,n,c,f,rfl,rfl,R,rfl,h⟩:=h
 refine ⟨_,_,h _ rfl,Bm fun E B w vals _ _ _ hr=>?_⟩
 obtain ⟨v,u,rfl,hv,hu⟩:=D2 hr
 rw [Ac4 hu]
 rcases (Rel.sl_inv hv).sl_inv with ⟨rfl,hn,_⟩ | ⟨a,m,cap,g,rfl,_,hn,hc,hcm,hs,hl,h1,hcell,hrel⟩
 ·have ht : t = []:=by
   have:=R.n
   have hn : n = 0:=hn
   exact List.length_eq_zero_iff.1 (by omega)
  subst ht
  refine (I3 10 w).mono ?_
  rintro e w' ⟨rfl,rfl⟩
  exact ⟨_,rfl,fun E=>.ro (.int rfl),Below.refl _ _⟩
 ·have hm : t.length = m:=by
   have:=R.n
   have hn : n = (m : Int):=hn
   omega
  have hh : ∀ i,i < m→w.cell? (a.add i) = some (.int .u8 ((t.map fun c=>(c.toNat : Int)).getD i 0)):=by
   intro i hi
   have e1:=(hcell i 0 hi (by omega)).1
   have e2:=hrel i 0 (.int .u8 (.a ((t.getD i 0).toNat : Int))) hi (by rw [R.f i (by omega)]; rfl)
   have e3 : g i 0 = .int .u8 ((t.getD i 0).toNat : Int):=by
    generalize g i 0 = v at e2
    cases e2 with
    | int h=>rw [←h]; rfl
   have e4 : a.add i = ⟨a.block,a.off + (i * 1 + 0),none⟩:=by
    have:=hs (by omega)
    cases a; simp only at this; subst this; simp [Addr.add]
   rw [e4,e1,e3]
   have hi' : i < t.length:=by omega
   simp [List.getD_eq_getElem?_getD,List.getElem?_eq_getElem hi']
  refine (Any.bytes_IndexByte_at Rh a m cap _ 10 w (by simpa using hm) hh).mono ?_
  rintro e w' ⟨rfl,rfl⟩
  rw [Aac]
  exact ⟨_,rfl,fun E=>.ro (.int rfl),Below.refl _ _⟩
end Go.Proofs.YtdoogdbjiijifaaGreatDoor
namespace Go.Proofs.YtdoogdbjiijifaaGreatDoor
open Go Go.Sx
set_option maxRecDepth 100000
set_option maxHeartbeats 16000000
def hpG (b : List UInt8) : Nat→Nat→List HF→List HF×Int×Int
 | 0,_,_=>([],0,0)
 | m + 1,p,r =>
  if (decide (Lib.indexByte (b.drop p) 10 < 0) && decide (8192 < b.length)) || decide (8192≤(p : Int) + Lib.indexByte (b.drop p) 10) then ([],0,3) else
  if Lib.indexByte (b.drop p) 10 < 0 then ([],0,10) else
  if (!Lib.hasSuffix ((b.drop p).take (Lib.indexByte (b.drop p) 10).toNat) [13]) || decide (0≤Lib.indexByte (Lib.trimSuffix ((b.drop p).take (Lib.indexByte (b.drop p) 10).toNat) [13]) 13) then ([],0,6) else
  if Lib.trimSuffix ((b.drop p).take (Lib.indexByte (b.drop p) 10).toNat) [13] = [] then (r,(p : Int) + Lib.indexByte (b.drop p) 10 + 1,0) else
  if (!(Ap 58 (Lib.trimSuffix ((b.drop p).take (Lib.indexByte (b.drop p) 10).toNat) [13])).2.2 || !Bj (Ap 58 (Lib.trimSuffix ((b.drop p).take (Lib.indexByte (b.drop p) 10).toNat) [13])).1) || !Ci (Ap 58 (Lib.trimSuffix ((b.drop p).take (Lib.indexByte (b.drop p) 10).toNat) [13])).2.1 then ([],0,6) else
  if decide (2000 < (trimF (Ap 58 (Lib.trimSuffix ((b.drop p).take (Lib.indexByte (b.drop p) 10).toNat) [13])).2.1).length) || decide (r.length = 100) then ([],0,3) else
  hpG b m (p + (Lib.indexByte (b.drop p) 10).toNat + 1) (r ++ [⟨(Ap 58 (Lib.trimSuffix ((b.drop p).take (Lib.indexByte (b.drop p) 10).toNat) [13])).1,trimF (Ap 58 (Lib.trimSuffix ((b.drop p).take (Lib.indexByte (b.drop p) 10).toNat) [13])).2.1⟩])
def Ax (b : List UInt8) : List HF×Int×Int:=hpG b (b.length + 1) 0 []
def spHParse : FSpec:=fun _ xs ls K=>∃ (b : List UInt8) (nl : Bool) (n : Int) (f : Nat→List SV),xs = [.sl (.a nl) (.a n) 1 f]∧ls = []∧A8 f n b∧b.length≤1000000∧
 ∀ l f1 n1 b1 k e,(l,k,e) = Ax b→GrH f1 n1 b1 l→K (.tup [.sl (.a b1) (.a n1) 2 f1,.int .i64 (.a k),.int .i64 (.a e)]) []
structure HpJ (b : List UInt8) (k : List HF×Int×Int) (p : Nat) (P : Int) (m : Nat) (r : List HF) (f1 : Nat→List SV) (n1 : Int) (b1 : Bool) : Prop where
 eP : P = p
 le : p≤b.length
 le2 : p≤8192
 lt : b.length - p < m
 k : k = hpG b m p r
 G : GrH f1 n1 b1 r
 len : r.length≤100
def hpJ (b : List UInt8) (k : List HF×Int×Int) (nl : Bool) (n : Int) (f : Nat→List SV) (m : Nat) (vs : List (Option SV)) (hp : List Hl) : Prop :=
 ∃ (p : Nat) (P : Int) (r : List HF) (f1 : Nat→List SV) (n1 : Int) (b1 : Bool),vs = [some (.sl (.a nl) (.a n) 1 f),some (.gsl (.a b1) (.a n1) 2 f1 0),some (.int .i64 (.a P))]∧hp = [.tail 100 (.a n1) 2]∧HpJ b k p P m r f1 n1 b1
theorem K6 {s : List UInt8} {c : UInt8} : -1≤Lib.indexByte s c∧(0≤Lib.indexByte s c→Lib.indexByte s c < (s.length : Int)):=by
 cases h : (Ap c s).2.2 with
 | false=>have:=(Qy h).2.2; rw [this]; exact ⟨by omega,fun h=>by omega⟩
 | true=>obtain ⟨h1,_,_,h4⟩:=Iv h; rw [h1]; exact ⟨by omega,fun _=>by omega⟩
theorem Iq : ∀ (m p : Nat) (r : List HF) (b : List UInt8),b.length≤1000000→r.length≤100→(∀ x∈r,x.small)→(hpG b m p r).1.length≤100∧∀ x∈(hpG b m p r).1,x.small
 | 0,p,r,b,_,_,_=>⟨by simp [hpG],fun x hx=>by simp [hpG] at hx⟩
 | m + 1,p,r,b,hb,hr,hs=>by
  have h0 : ([] : List HF).length≤100∧∀ x∈([] : List HF),x.small:=⟨by simp,fun x hx=>by cases hx⟩
  unfold hpG
  split
  ·exact h0
  split
  ·exact h0
  split
  ·exact h0
  split
  ·exact ⟨hr,hs⟩
  split
  ·exact h0
  split
  ·exact h0
  rename_i h
  simp only [Bool.or_eq_true,decide_eq_true_eq,not_or] at h
  obtain ⟨h1,h2⟩:=h
  refine Iq m _ _ b hb (by rw [List.length_append]; simp only [List.length_cons,List.length_nil]; omega) fun x hx=>?_
  rcases List.mem_append.1 hx with hx | hx
  ·exact hs x hx
  ·have hx:=List.mem_singleton.1 hx
   subst hx
   refine ⟨?_,by show (trimF _).length≤_; omega⟩
   show (Ap 58 _).1.length≤_
   refine Nat.le_trans (O7 58 _).1 ?_
   rw [Lib.trimSuffix]
   have e : ((b.drop p).take (Lib.indexByte (b.drop p) 10).toNat).length≤1000000:=by rw [List.length_take,List.length_drop]; omega
   split
   ·rw [List.length_take]; omega
   ·omega
structure HpE (e : Int) (t : List UInt8) : Prop where
 lo : -1≤e
 hi : 0≤e→e < (t.length : Int)
structure HpS (s : List UInt8) : Prop where
 len : s.length≤8192
theorem S8 {D : Dn} (hD : D = dn) {l l' : List HF} {f f1 : Nat→List SV} {n n1 k e : Int} {b b1 : Bool} {x : BT} {y z w : ST} (h : (l,k,e) = (l',z.den,w.den)) (G : GrH f n b l') (hG : GrH f1 n1 b1 l) (hx : x.den = b) (hy : y.den = n) :
  Fin (.tup [.sl (.a (D.b x)) (.a (D.i y)) 2 f,.int .i64 (.a (D.i z)),.int .i64 (.a (D.i w))]) (.tup [.sl (.a b1) (.a n1) 2 f1,.int .i64 (.a k),.int .i64 (.a e)]) [] []:=by
 subst hD
 simp only [Prod.mk.injEq] at h
 obtain ⟨rfl,rfl,rfl⟩:=h
 exact Gf (.tup (.cons (Aik G hG hx hy) (.cons (Al rfl) (.cons (Al rfl) .nil))))
theorem Oz : A2 Tryz.prog gl 58 spHParse:=by
 refine Dg (gh:=[(1,[.attach 5 100])]) mixed Dp (Ah U9 (Ah Vn (Ah Ajk (Ah cut_ok (Ah H8 (Ah Va (Ah K1 Aw))))))) Tryz.func58 (by kernel_rfl) (by kernel_rfl) ?_
 intro xs ls K h
 unfold spHParse at h
 obtain ⟨b,nl,n,f,rfl,rfl,R,hb,h⟩:=h
 obtain ⟨k,hk⟩ : ∃ k,k = Ax b:=⟨_,rfl⟩
 have hS:=Iq (b.length + 1) 0 [] b hb (by simp) (fun x hx=>by cases hx)
 have hk0 : k = hpG b (b.length + 1) 0 []:=hk
 rw [←hk0] at hS
 obtain ⟨J,hJ⟩ : ∃ J,J = hpJ b k nl n f:=⟨_,rfl⟩
 obtain ⟨kl,kk,ke⟩:=k
 have hG : ∃ f1 n1 b1,GrH f1 n1 b1 kl:=⟨_,_,_,⟨Bz.row (by have:=hS.1; simp only at this; omega) (fun i hi=>hS.2 _ (by rw [List.getD_eq_getElem?_getD,List.getElem?_eq_getElem hi]; exact List.getElem_mem hi)),rfl⟩⟩
 obtain ⟨f1,n1,b1,hG⟩:=hG
 clear hS
 refine ⟨_,_,h kl f1 n1 b1 kk ke hk hG,fun D hD=>?_⟩
 cbv
 clear h
 refine ⟨[0,5,6],J,⟨rfl,b.length + 1,?_⟩,?_⟩
 ·rw [hJ]
  subst hD
  exact ⟨0,_,[],_,_,_,rfl,rfl,⟨rfl,by omega,by omega,by omega,hk0,GrH.nil,by simp⟩⟩
 clear hk hk0
 intro m vs hp hj
 rw [hJ] at hj
 obtain ⟨p,P,r,e1,m1,c1,rfl,rfl,V⟩:=hj
 have hP:=V.eP
 have hle:=V.le
 have hk:=V.k
 obtain ⟨m0,rfl⟩ : ∃ m0,m = m0 + 1:=⟨m - 1,by have:=V.lt; omega⟩
 rw [hpG,←hP] at hk
 obtain ⟨t,ht⟩ : ∃ t,t = b.drop p:=⟨_,rfl⟩
 rw [←ht] at hk
 have htl : t.length = b.length - p:=by rw [ht,List.length_drop]
 have VP : VI P p:=⟨hP⟩
 clear hP
 refine ⟨by subst hD; exact ⟨by show (0 : Int)≤P; rw [VP.h]; omega,by show P≤n; rw [VP.h,R.n]; omega,Int.le_refl _⟩,fun f2 n2 hsub=>?_⟩
 cbv
 have R2 : A8 f2 n2 t:=by
  have:=R.sub (a:=p) (b:=b.length) hsub (by subst hD; exact VP.h) (by subst hD; exact R.n) hle (Nat.le_refl _)
  rw [ht]
  have e : (b.drop p).take (b.length - p) = b.drop p:=List.take_of_length_le (by rw [List.length_drop]; exact Nat.le_refl _)
  rwa [e] at this
 clear hsub
 refine ⟨t,_,_,_,f2,rfl,rfl,by subst hD; exact R2,by subst hD; rfl,fun e he=>?_⟩
 cbv
 rw [←he] at hk
 have hb1 : HpE e t:=by rw [he]; exact ⟨K6.1,K6.2⟩
 have hdn : decide (8192 < n) = decide (8192 < b.length):=by rw [decide_eq_decide,R.n]; omega
 refine br hD (fun h=>?_) (fun h=>?_)<;>cbv
 ·have h : (decide (e < 0) && decide (8192 < n)) = true:=h
  rw [hdn] at h
  rw [if_pos (by rw [h]; rfl)] at hk
  exact S8 hD hk GrH.nil hG rfl rfl
 have h1 : (decide (e < 0) && decide (8192 < b.length)) = false:=by
  have h : (decide (e < 0) && decide (8192 < n)) = false:=h
  rw [hdn] at h
  exact h
 rw [h1,Bool.false_or] at hk
 clear h
 have hw1 : IntKind.i64.wrap (P + e) = P + e:=by have:=VP.h; have:=hb1.lo; have:=hb1.hi; exact Bl (by omega) (by omega)
 refine br hD (fun h=>?_) (fun h=>?_)<;>cbv
 ·have h : decide (8192≤IntKind.i64.wrap (P + e)) = true:=h
  rw [hw1] at h
  rw [if_pos h] at hk
  exact S8 hD hk GrH.nil hG rfl rfl
 have h2 : ¬ 8192≤P + e:=by
  have h : decide (8192≤IntKind.i64.wrap (P + e)) = false:=h
  rw [hw1] at h
  simpa using h
 rw [if_neg (by simpa using h2)] at hk
 clear h
 refine br hD (fun h=>?_) (fun h=>?_)<;>cbv
 ·have h : decide (e < 0) = true:=h
  rw [if_pos (by simpa using h)] at hk
  exact S8 hD hk GrH.nil hG rfl rfl
 have h3 : ¬ e < 0:=by
  have h : decide (e < 0) = false:=h
  simpa using h
 rw [if_neg h3] at hk
 clear h
 obtain ⟨q,hq⟩ : ∃ q : Nat,q = e.toNat:=⟨_,rfl⟩
 rw [←hq] at hk
 have VE : VI e q:=⟨by omega⟩
 have hql : q < t.length:=by have:=hb1.hi (by omega); have:=VE.h; omega
 have hpq : p + q < 8192:=by have:=VP.h; have:=VE.h; omega
 clear hq h1 h2 h3
 refine ⟨by subst hD; exact ⟨by show (0 : Int)≤P; rw [VP.h]; omega,by show P≤IntKind.i64.wrap (P + e); rw [hw1,VE.h]; omega,by show IntKind.i64.wrap (P + e)≤n; rw [hw1,VP.h,VE.h,R.n]; omega⟩,fun f3 n3 hsub=>?_⟩
 cbv
 have R3 : A8 f3 n3 (t.take q):=by
  have:=R.sub (a:=p) (b:=p + q) hsub (by subst hD; exact VP.h) (by subst hD; show IntKind.i64.wrap (P + e) = _; rw [hw1,VP.h,VE.h]; omega) (by omega) (by omega)
  rw [←ht] at this
  have e : p + q - p = q:=by omega
  rwa [e] at this
 clear hsub
 refine ⟨by subst hD; exact R3.byte,fun s hs=>?_⟩
 cbv
 have hs : s = t.take q:=by subst hD; exact R3.str hs
 rw [←hs] at hk
 have hsl : HpS s:=⟨by rw [hs,List.length_take]; omega⟩
 clear hs R3
 refine ⟨s,[13],rfl,rfl,by have:=hsl.len; omega,fun l is hl his=>?_⟩
 cbv
 rw [←hl,←his] at hk
 have hll : HpS l:=⟨by
  have:=hsl.len
  rw [hl,Lib.trimSuffix]
  split
  ·rw [List.length_take]; omega
  ·exact this⟩
 clear hl his hsl
 refine ⟨l,13,rfl,rfl,fun cc hcc=>?_⟩
 cbv
 rw [←hcc] at hk
 clear hcc
 refine br hD (fun h=>?_) (fun h=>?_)<;>cbv
 ·have h : (!is || cc) = true:=h
  rw [if_pos h] at hk
  exact S8 hD hk GrH.nil hG rfl rfl
 have h : (!is || cc) = false:=h
 rw [if_neg (by rw [h]; simp)] at hk
 clear h
 have hw2 : IntKind.i64.wrap (P + IntKind.i64.wrap (e + 1)) = P + e + 1:=by
  have:=VP.h; have:=VE.h
  rw [Bl (n:=e + 1) (by omega) (by omega),Bl (by omega) (by omega)]; omega
 refine br hD (fun h=>?_) (fun h=>?_)<;>cbv
 ·have h1 : l = []:=by
   have h : (l == []) = true:=h
   exact eq_of_beq h
  rw [if_pos h1] at hk
  exact S8 hD (by rw [hk]; rw [←hw2]; rfl) V.G hG rfl rfl
 have h1 : ¬ l = []:=by
  have h : (l == []) = false:=h
  intro e; rw [e] at h; simp at h
 rw [if_neg h1] at hk
 clear h h1
 obtain ⟨c,hc⟩ : ∃ c,c = Ap 58 l:=⟨_,rfl⟩
 rw [←hc] at hk
 refine ⟨l,58,rfl,rfl,by have:=hll.len; omega,fun na va ok hc2=>?_⟩
 cbv
 rw [←hc] at hc2
 subst hc2
 have hnl : HpS na:=⟨by have h:=(O7 58 l).1; rw [←hc] at h; exact Nat.le_trans h hll.len⟩
 have hvl : HpS va:=⟨by have h:=(O7 58 l).2; rw [←hc] at h; exact Nat.le_trans h hll.len⟩
 clear hc hll
 refine ⟨na,rfl,rfl,by have:=hnl.len; omega,fun tk htk=>?_⟩
 cbv
 rw [←htk] at hk
 clear htk
 refine ⟨va,rfl,rfl,fun pl hpl=>?_⟩
 cbv
 simp only at hk
 rw [←hpl] at hk
 clear hpl
 refine br hD (fun h=>?_) (fun h=>?_)<;>cbv
 ·have h : ((!ok || !tk) || !pl) = true:=h
  rw [if_pos h] at hk
  exact S8 hD hk GrH.nil hG rfl rfl
 have h : ((!ok || !tk) || !pl) = false:=h
 rw [if_neg (by rw [h]; simp)] at hk
 clear h
 refine ⟨va,[32,9],rfl,rfl,by have:=hvl.len; omega,by decide,by decide,fun v hv=>?_⟩
 cbv
 have hv : v = trimF va:=by rw [hv,Q2]
 rw [←hv] at hk
 clear hv hvl
 have hm1 : m1 = (r.length : Int):=V.G.row.n
 have hd2 : decide (m1 = 100) = decide (r.length = 100):=by rw [decide_eq_decide,hm1]; omega
 refine br hD (fun h=>?_) (fun h=>?_)<;>cbv
 ·have h : (decide (2000 < (v.length : Int)) || (m1 == 100)) = true:=h
  have h : (decide (2000 < v.length) || decide (r.length = 100)) = true:=by
   rw [←hd2]
   rcases Bool.or_eq_true_iff.1 h with h | h
   ·rw [decide_eq_true (by have:=of_decide_eq_true h; omega)]; rfl
   ·rw [decide_eq_true (eq_of_beq h)]; simp
  rw [if_pos h] at hk
  exact S8 hD hk GrH.nil hG rfl rfl
 have h : ¬ 2000 < v.length∧¬ r.length = 100:=by
  have h : (decide (2000 < (v.length : Int)) || (m1 == 100)) = false:=h
  rw [Bool.or_eq_false_iff] at h
  refine ⟨fun e=>?_,fun e=>?_⟩
  ·have:=of_decide_eq_false h.1; omega
  ·have h2:=h.2; rw [hm1,e] at h2; simp at h2
 obtain ⟨h4,h5⟩:=h
 rw [if_neg (by simp [h4,h5])] at hk
 have hvs : HpS v:=⟨by omega⟩
 clear h4 hd2 hm1
 intro g hg
 cbv
 have hg0 : g 0 = Ed ⟨na,v⟩:=hg.h 0 _ rfl
 clear hg
 have hN : m1 = (r.length : Int):=V.G.row.n
 have hrl:=V.len
 refine ⟨by subst hD; exact ⟨rfl,by show (m1 + 1) * 32≤_; omega,by show m1 + 1≤_; omega⟩,fun f' n' hm=>?_⟩
 cbv
 have G2 : ∀ nl',nl' = false→GrH f' n' nl' (r ++ [⟨na,v⟩]):=fun nl' hb=>V.G.more hg0 ⟨by have:=hnl.len; show na.length≤_; omega,by have:=hvs.len; show v.length≤_; omega⟩ (by subst hD; exact hm) (by omega) hb
 clear hm hN
 refine ⟨m0,Nat.lt_succ_self _,?_⟩
 rw [hJ]
 unfold hpJ
 subst hD
 exact ⟨p + q + 1,_,r ++ [⟨na,v⟩],f',n',(c1 && false),rfl,rfl,⟨by show IntKind.i64.wrap (P + IntKind.i64.wrap (e + 1)) = _; rw [hw2,VP.h,VE.h]; omega,by omega,by omega,by have:=V.lt; omega,hk,G2 _ (Bool.and_false _),by rw [List.length_append]; simp only [List.length_cons,List.length_nil]; omega⟩⟩
end Go.Proofs.YtdoogdbjiijifaaGreatDoor
namespace Go.Proofs.YtdoogdbjiijifaaGreatDoor
open Go Go.Sx
set_option maxRecDepth 100000
set_option maxHeartbeats 400000
def Aif (t : List UInt8) (z : Int) : List UInt8×List UInt8×Int×Int :=
 if Qv true (Ap 32 t).2.2 (Ap 32 t).1 (Ap 32 t).2.1 (decide (0≤Lib.indexByte (Ap 32 t).2.1 32)) then ([],[],0,6) else ((Ap 32 t).1,(Ap 32 t).2.1,z,0)
def Aig (w : List UInt8) : List UInt8×List UInt8×Int×Int :=
 if Qv (Lib.hasSuffix (w ++ [10]) rVer) (Ap 32 (Lib.trimSuffix (w ++ [10]) rVer)).2.2 (Ap 32 (Lib.trimSuffix (w ++ [10]) rVer)).1 (Ap 32 (Lib.trimSuffix (w ++ [10]) rVer)).2.1 (decide (0≤Lib.indexByte (Ap 32 (Lib.trimSuffix (w ++ [10]) rVer)).2.1 32)) then ([],[],0,6) else
 ((Ap 32 (Lib.trimSuffix (w ++ [10]) rVer)).1,(Ap 32 (Lib.trimSuffix (w ++ [10]) rVer)).2.1,(w.length : Int) + 1,0)
theorem Ye (b : List UInt8) : Cw b = if !(Ap 10 (b.take 1024)).2.2 && decide (b.length < 1024) then ([],[],0,10) else if !(Ap 10 (b.take 1024)).2.2 then ([],[],0,3) else Aig (Ap 10 (b.take 1024)).1:=rfl
def lnK (b : List UInt8) (i : Nat) : Prop:=Ap 10 (b.take 1024) = ((b.take 1024).take i ++ (Ap 10 ((b.take 1024).drop i)).1,(Ap 10 ((b.take 1024).drop i)).2)
theorem Agx {s : List UInt8} (h2 : s.drop (s.length - 11) = rVer) : Lib.hasSuffix s rVer = true:=by
 unfold Lib.hasSuffix
 rw [List.isSuffixOf_iff_suffix]
 exact ⟨s.take (s.length - 11),by rw [←h2]; exact List.take_append_drop _ s⟩
theorem Afm {w s : List UInt8} (e : s = w ++ [10]) (h2 : s.drop (s.length - 11) = rVer) : Aig w = Aif (s.take (s.length - 11)) (s.length : Int):=by
 unfold Aig Aif
 have h3:=Agx h2
 have h4 : Lib.trimSuffix s rVer = s.take (s.length - 11):=by unfold Lib.trimSuffix; rw [if_pos h3]; rfl
 rw [←e,h3,h4]
 have : ((w.length : Int) + 1) = (s.length : Int):=by rw [e]; simp
 rw [this]
def spK (t : List UInt8) (k : Nat) (p : Int) : Prop :=
 (p = -1∧Ap 32 t = (t.take k ++ (Ap 32 (t.drop k)).1,(Ap 32 (t.drop k)).2))∨
 (∃ q : Nat,p = q∧q < k∧Ap 32 t = (t.take q,t.drop (q + 1),true)∧∀ j,q + 1≤j→j < k→t.getD j 0≠32)
theorem Km {s : List UInt8} {c : UInt8} (h : ∀ j,j < s.length→s.getD j 0≠c) : Lib.indexByte s c = -1:=by
 induction s with
 | nil=>rfl
 | cons b r ih =>
  unfold Lib.indexByte
  have h0:=h 0 (by simp)
  rw [if_neg (by simpa using h0),ih (fun j hj=>by have:=h (j + 1) (by simpa using hj); simpa using this)]
  rfl
end Go.Proofs.YtdoogdbjiijifaaGreatDoor
namespace Go.Proofs.YtdoogdbjiijifaaGreatDoor
open Go Go.Sx
set_option maxRecDepth 100000
set_option maxHeartbeats 4000000
end Go.Proofs.YtdoogdbjiijifaaGreatDoor
namespace Go.Proofs.YtdoogdbjiijifaaGreatDoor
open Go Go.Sx
set_option maxRecDepth 100000
set_option maxHeartbeats 8000000
structure HpS2 (a b : List UInt8) : Prop where
 a : a.length≤64
 b : b.length≤2000
structure RcJ (k : Int) (l : List HF) (i : Nat) (I N : Int) (m : Nat) : Prop where
 lie : AtR l i I m
 lo : 0≤N
 hi : N≤3000 * (i + 1)
 len : l.length≤100
 k : k = Ff (l.drop i) N
def inF : List (List UInt8)→List UInt8→Bool
 | [],_=>false
 | x :: l,s=>(x == s) || inF l s
end Go.Proofs.YtdoogdbjiijifaaGreatDoor
namespace Go.Proofs.YtdoogdbjiijifaaGreatDoor
open Go Go.Sx
set_option maxRecDepth 100000
set_option maxHeartbeats 16000000
def Jj (l : List HF) : Bool:=l.any fun x=>R6 (foldF x.name)
def B7 (r : Rq) : List HF×Int :=
 if A7 r.fields≠0 then ([],A7 r.fields) else if Jj r.fields then ([],8) else
 if (A0 r).2≠0 then ([],(A0 r).2) else ((A0 r).1,A7 (A0 r).1)
structure OwJ (l : List HF) (k : Bool) (i : Nat) (I : Int) (m : Nat) : Prop where
 lie : AtR l i I m
 k : k = Jj (l.drop i)
end Go.Proofs.YtdoogdbjiijifaaGreatDoor
namespace Go.Proofs.YtdoogdbjiijifaaGreatDoor
open Go Go.Sx
set_option maxRecDepth 100000
set_option maxHeartbeats 16000000
def Bt (r : Rq) : List UInt8×List HF×Int :=
 if r.id < 1∨1000000000 < r.id then (sId,[],7) else if !Ip r.method then (Acy,[],6) else if r.method = Ri then (Acy,[],9) else
 if (R8 r.target).2≠0 then (sTarget,[],(R8 r.target).2) else if !Aiu r.host then (sHostP,[],6) else
 if (B7 r).2≠0 then (sFields,[],(B7 r).2) else if 65536 < r.body.length then (sBody,[],3) else if (r.body != [] && Aec r.method) = true then (sBody,[],2) else ([],(B7 r).1,0)
def Ad8 (r : Rq) : List UInt8×Int:=((Bt r).1,(Bt r).2.2)
end Go.Proofs.YtdoogdbjiijifaaGreatDoor
namespace Go.Proofs.YtdoogdbjiijifaaGreatDoor
open Go Go.RowKit Go.Sx
set_option maxHeartbeats 2000000
set_option maxRecDepth 100000
structure BKept (b : Nat) (v v' : Value) (w w' : World) : Prop where
 os : w'.os = w.os
 tape : w'.tape = w.tape
 output : w'.output = w.output
 size : w.heap.size≤w'.heap.size
 block : ∀ k,k < w.heap.size→k≠b→some k≠v.ownBlock→w'.heap[k]? = w.heap[k]?
 new : ∀ k,v'.ownBlock = some k→v.ownBlock = some k∨w.heap.size≤k
end Go.Proofs.YtdoogdbjiijifaaGreatDoor
namespace Go.Proofs.YtdoogdbjiijifaaGreatDoor
open Go Go.RowKit Go.Sx
set_option maxHeartbeats 2000000
set_option maxRecDepth 100000
structure BldAt (w : World) (b : Nat) (p v : Value) (s : List UInt8) : Prop where
 pp : p = .pointer none∨p = .pointer (some ⟨b,0,none⟩)
 at_ : w.heap[b]? = some (.cells #[p,v] 180 (0,0))
 own : w.ownsRow 0 5 1 v s.length (Lib.byteCells s)
 ne : v.ownBlock≠some b
end Go.Proofs.YtdoogdbjiijifaaGreatDoor
namespace Go.Proofs.YtdoogdbjiijifaaGreatDoor
open Go Go.RowKit Go.Sx
set_option maxHeartbeats 2000000
set_option maxRecDepth 100000
structure Aef (v : Value) (w w' : World) : Prop where
 os : w'.os = w.os
 tape : w'.tape = w.tape
 output : w'.output = w.output
 size : w.heap.size≤w'.heap.size
 block : ∀ k,k < w.heap.size→some k≠v.ownBlock→w'.heap[k]? = w.heap[k]?
theorem Aef.drew (v : Value) (w : World) : Aef v w w.drew:=⟨rfl,rfl,rfl,Nat.le_refl _,fun _ _ _=>rfl⟩
theorem Aef.b {v : Value} {b : Nat} {w w' : World} (h : Aef v w w') : BKept b v .nilIface w w' :=
 ⟨h.os,h.tape,h.output,h.size,fun k h1 _ h3=>h.block k h1 h3,fun k hk=>by simp [Value.ownBlock] at hk⟩
end Go.Proofs.YtdoogdbjiijifaaGreatDoor
namespace Go.Proofs.YtdoogdbjiijifaaGreatDoor
open Go Go.RowKit Go.Sx
set_option maxHeartbeats 2000000
set_option maxRecDepth 100000
end Go.Proofs.YtdoogdbjiijifaaGreatDoor
namespace Go.Proofs.YtdoogdbjiijifaaGreatDoor
open Go Go.Sx
set_option maxRecDepth 100000
set_option maxHeartbeats 16000000
def F6 (x : HF) : List UInt8:=((x.name ++ [58,32]) ++ x.value) ++ [13,10]
def Ca (l : List HF) : List UInt8:=l.flatMap F6 ++ [13,10]
def Rx (l : List HF) : List UInt8×Int:=if A7 l≠0 then ([],A7 l) else (Ca l,0)
structure PrJ (l : List HF) (k t : List UInt8) (i : Nat) (I : Int) (m : Nat) : Prop where
 lie : AtR l i I m
 k : k = t ++ Ca (l.drop i)
 len : t.length≤3000 * i
end Go.Proofs.YtdoogdbjiijifaaGreatDoor
namespace Go.Proofs.YtdoogdbjiijifaaGreatDoor
open Go Go.Sx
set_option maxRecDepth 100000
set_option maxHeartbeats 4000000
def sVer : List UInt8:=[32,72,84,84,80,47,49,46,49,13,10]
def Np (r : Rq) : List UInt8×Int :=
 if (Bt r).2.2≠0 then ([],(Bt r).2.2) else if (Rx (Bt r).2.1).2≠0 then ([],(Rx (Bt r).2.1).2) else
 (((((r.method ++ [32]) ++ r.target) ++ sVer) ++ (Rx (Bt r).2.1).1) ++ r.body,0)
structure ExOk (r : Rq) : Prop where
 method : Ip r.method = true
 org : (R8 r.target).2 = 0
 chk : (B7 r).2 = 0
 host : Aiu r.host = true
 body : r.body.length≤65536
 fields : (Bt r).2.1 = (B7 r).1
 id1 : 1≤r.id
 id2 : r.id≤1000000000
 part : (Bt r).1 = []
theorem Zo {r : Rq} (h : (Bt r).2.2 = 0) : ExOk r:=by
 have h0:=h
 unfold Bt at h
 split at h
 ·cases h
 ·rename_i g1
  split at h
  ·cases h
  ·rename_i g2
   split at h
   ·cases h
   ·rename_i g3
    split at h
    ·rename_i g4; exact absurd h g4
    ·rename_i g4
     split at h
     ·cases h
     ·rename_i g5
      split at h
      ·rename_i g6; exact absurd h g6
      ·rename_i g6
       split at h
       ·cases h
       ·rename_i g7
        split at h
        ·cases h
        ·rename_i g8
         refine ⟨by simpa using g2,by simpa using g4,by simpa using g6,by simpa using g5,by omega,?_,by omega,by omega,?_⟩
         ·unfold Bt
          rw [if_neg g1,if_neg g2,if_neg g3,if_neg g4,if_neg g5,if_neg g6,if_neg g7,if_neg g8]
         ·unfold Bt
          rw [if_neg g1,if_neg g2,if_neg g3,if_neg g4,if_neg g5,if_neg g6,if_neg g7,if_neg g8]
end Go.Proofs.YtdoogdbjiijifaaGreatDoor
