/- Part of the proofs of the statements about requests (layer 7): a symbolic executor over the code, that it is sound, and contracts of functions; it has no conditions of its own. -/
import Derived.Test.YtefelnhpfdcleaaGreatDoorSzPaz
namespace Go.Proofs.YtefelnhpfdcleaaGreatDoor
open Go.Sx
set_option maxRecDepth 100000
set_option maxHeartbeats 8000000
structure HF where
 name : List UInt8
 value : List UInt8
 deriving Inhabited
def B6 (x : HF) : List SV:=[.str x.name,.str x.value]
def HF.small (x : HF) : Prop:=x.name.length≤9223372036854775807∧x.value.length≤9223372036854775807
structure A9 (f : Nat→List SV) (n : Int) (l : List HF) : Prop where
 n : n = l.length
 f : ∀ i,i < l.length→f i = B6 (l.getD i default)
 len : l.length≤9223372036854775807
 small : ∀ i,i < l.length→(l.getD i default).small
def G9 (x : HF) : Int:=x.name.length + x.value.length + 4
structure SizeOk (a b : List UInt8) : Prop where
 a : a.length≤1000000000000
 b : b.length≤1000000000000
def spSize : FSpec:=fun _ xs ls K=>∃ (a b : List UInt8),xs = [.agg [.str a,.str b]]∧ls = []∧SizeOk a b∧∀ r,r = G9 ⟨a,b⟩→K (.int .i64 (.a r)) []
theorem size_ok : Ar Tryz.prog gl 112 spSize:=by
 refine A4 (gh:=[]) mixed A0 Ae Tryz.func112 (by kernel_rfl) (by kernel_rfl) ?_
 intro xs ls K h
 unfold spSize at h
 obtain ⟨a,b,rfl,rfl,hs,h⟩:=h
 obtain ⟨k,hk⟩ : ∃ k,k = G9 ⟨a,b⟩:=⟨_,rfl⟩
 refine ⟨_,_,h k hk,fun D hD=>?_⟩
 clear h
 cbv
 refine Bq hD ?_
 have h1:=hs.a; have h2:=hs.b
 rw [hk]
 show IntKind.i64.wrap (IntKind.i64.wrap ((a.length : Int) + b.length) + 4) = _
 rw [Am (n:=(a.length : Int) + b.length) (by omega) (by omega),Am (by omega) (by omega)]
 rfl
def Pk (x : HF) : Bool:=!Br x.name || (!D2 x.value || trimF x.value != x.value)
def Ck : List HF→Int→Int
 | [],n=>if 8192 < n then 3 else 0
 | x :: l,n=>if Pk x then 6 else if 2000 < x.value.length then 3 else Ck l (n + G9 x)
def A7 (l : List HF) : Int:=if 100 < l.length then 3 else Ck l 2
def spCheck : FSpec:=fun _ xs ls K=>∃ (l : List HF) (nl : Bool) (n : Int) (f : Nat→List SV),xs = [.sl (.a nl) (.a n) 2 f]∧ls = []∧A9 f n l∧∀ r,r = A7 l→K (.int .i64 (.a r)) []
structure ChJ (k : Int) (l : List HF) (i : Nat) (I N : Int) (m : Nat) : Prop where
 at_ : AtR l i I m
 lo : 0≤N
 hi : N≤3000 * (i + 1)
 k : k = Ck (l.drop i) N
def chJ (k : Int) (l : List HF) (nl : Bool) (n : Int) (f : Nat→List SV) (m : Nat) (vs : List (Option SV)) (hp : List Hl) : Prop :=
 ∃ (i : Nat) (I N : Int),vs = [some (.int .i64 (.a N)),some (.sl (.a nl) (.a n) 2 f),some (.int .i64 (.a n)),some (.int .i64 (.a I))]∧hp = []∧ChJ k l i I N m
theorem Xf : Ar Tryz.prog gl 85 spCheck:=by
 refine A4 (gh:=[]) mixed A0 (Aa L0 (Aa Zk (Aa Jr (Aa size_ok Ae)))) Tryz.func85 (by kernel_rfl) (by kernel_rfl) ?_
 intro xs ls K h
 unfold spCheck at h
 obtain ⟨l,nl,n,f,rfl,rfl,R,h⟩:=h
 obtain ⟨k,hk⟩ : ∃ k,k = A7 l:=⟨_,rfl⟩
 refine ⟨_,_,h k hk,fun D hD=>?_⟩
 clear h
 obtain ⟨J,hJ⟩ : ∃ J,J = chJ k l nl n f:=⟨_,rfl⟩
 cbv
 refine br hD (fun h=>?_) (fun h=>?_)<;>cbv
 ·refine Bq hD ?_
  have h2 : 100 < n:=of_decide_eq_true (p:=(100 : Int) < n) h
  rw [hk,A7,if_pos (by have:=R.n; omega)]
  rfl
 have h2 : n≤100:=by
  have:=of_decide_eq_false (p:=(100 : Int) < n) h
  omega
 clear h
 refine ⟨[3,9,10,11],J,⟨rfl,l.length,?_⟩,?_⟩
 ·rw [hJ]
  subst hD
  refine ⟨0,0,2,rfl,rfl,AtR.zero R.len,by omega,by omega,?_⟩
  rw [hk,A7,if_neg (by have:=R.n; omega)]
  rfl
 intro m vs hp hj
 rw [hJ] at hj
 obtain ⟨i,I,N,rfl,rfl,V⟩:=hj
 clear hk
 cbv
 refine br hD (fun h=>?_) (fun h=>?_)<;>cbv
 ·have hlt:=V.at_.lt R.n (of_decide_eq_true (p:=I < n) h)
  clear h
  refine ⟨V.at_.inB hD R.n hlt,fun j hj=>?_⟩
  obtain rfl:=V.at_.j hD hj
  clear hj
  have e1:=R.f j hlt
  have hsm:=R.small j hlt
  have hk2:=V.k
  rw [Qv (d:=default) hlt] at hk2
  obtain ⟨x,hx⟩ : ∃ x,x = l.getD j default:=⟨_,rfl⟩
  rw [←hx] at e1 hk2 hsm
  obtain ⟨a,b⟩:=x
  cbv
  rw [e1]
  cbv
  refine ⟨a,rfl,rfl,hsm.1,fun t ht=>?_⟩
  cbv
  refine ⟨b,rfl,rfl,fun p hp=>?_⟩
  cbv
  refine ⟨b,_,rfl,rfl,hsm.2,?_,?_,fun q hq=>?_⟩
  ·decide
  ·decide
  cbv
  have hbad : ∀ v : Bool,(((!t || !p) || !(q == b)) = v)→Pk ⟨a,b⟩ = v:=by
   intro v hv
   rw [←hv,ht,hp,hq,Ut,Bool.or_assoc]
   rfl
  clear ht hp hq
  refine br hD (fun h=>?_) (fun h=>?_)<;>cbv
  ·have h3:=hbad true (by simpa [BT.den] using h)
   refine Bq hD ?_
   rw [hk2,Ck,if_pos h3]; rfl
  have h3:=hbad false (by simpa [BT.den] using h)
  clear h hbad
  refine br hD (fun h=>?_) (fun h=>?_)<;>cbv
  ·have h4 : (2000 : Int) < b.length:=of_decide_eq_true (p:=(2000 : Int) < b.length) h
   refine Bq hD ?_
   rw [hk2,Ck,h3,if_neg (by simp),if_pos (by show 2000 < b.length; omega)]; rfl
  have h4 : b.length≤2000:=by
   have:=of_decide_eq_false (p:=(2000 : Int) < b.length) h
   omega
  clear h
  have ha : a.length≤64:=by
   unfold Pk at h3
   simp only [Bool.or_eq_false_iff,Bool.not_eq_false'] at h3
   have:=h3.1
   unfold Br at this
   simp only [Bool.and_eq_true,decide_eq_true_eq] at this
   exact this.2.2
  refine ⟨a,b,rfl,rfl,⟨by omega,by omega⟩,fun z hz=>?_⟩
  cbv
  obtain ⟨g1,g2⟩:=V.at_.step hD hlt
  refine ⟨_,g1,?_⟩
  rw [hJ]
  have h5 : z = a.length + b.length + 4:=hz
  have h6:=V.lo
  have h7:=V.hi
  have h8:=V.at_.le
  have h9 : IntKind.i64.wrap (N + z) = N + z:=Am (by omega) (by have:=R.n; omega)
  subst hD
  refine ⟨j + 1,_,_,rfl,rfl,g2,?_,?_,?_⟩
  ·show 0≤IntKind.i64.wrap (N + z); omega
  ·show IntKind.i64.wrap (N + z)≤_; omega
  ·show k = Ck _ (IntKind.i64.wrap (N + z))
   rw [h9,hk2,Ck,h3,if_neg (by simp),if_neg (by show ¬ 2000 < b.length; omega),h5]
   rfl
 ·have hi:=V.at_.eq R.n (of_decide_eq_false (p:=I < n) h)
  have hk2:=V.k
  rw [hi,List.drop_length] at hk2
  clear h
  refine br hD (fun h=>?_) (fun h=>?_)<;>cbv
  ·refine Bq hD ?_
   have h2 : 8192 < N:=of_decide_eq_true (p:=(8192 : Int) < N) h
   rw [hk2,Ck,if_pos h2]; rfl
  ·refine Bq hD ?_
   have h2 : ¬ 8192 < N:=of_decide_eq_false (p:=(8192 : Int) < N) h
   rw [hk2,Ck,if_neg h2]; rfl
end Go.Proofs.YtefelnhpfdcleaaGreatDoor
namespace Go.Proofs.YtefelnhpfdcleaaGreatDoor
open Go.Sx
set_option maxRecDepth 100000
set_option maxHeartbeats 8000000
def spNamed : FSpec:=fun _ xs ls K=>∃ (nl : Bool) (n : Int) (f : Nat→List SV) (s : List UInt8),xs = [.sl (.a nl) (.a n) 2 f,.str s]∧ls = []∧s.length≤9223372036854775807∧
 ∀ t,t = Ao s→K (.clo 184 [.ptr 0 0,.ptr 1 0]) [.blk 29 [.sl (.a nl) (.a n) 2 f],.blk 9 [.str t]]
theorem Alp : Ar Tryz.prog gl 172 spNamed:=by
 refine Wz (gh:=[]) mixed A0 (Aa K9 Ae) Tryz.func172 (by kernel_rfl) (by kernel_rfl) ?_
 intro xs ls K h
 unfold spNamed at h
 obtain ⟨nl,n,f,s,rfl,rfl,hs,h⟩:=h
 obtain ⟨k,hk⟩ : ∃ k,k = Ao s:=⟨_,rfl⟩
 refine ⟨_,_,h k hk,fun D hD=>?_⟩
 clear h
 cbv
 refine ⟨s,rfl,rfl,hs,fun t ht=>?_⟩
 rw [←hk] at ht
 subst ht
 cbv
 subst hD
 exact B7 rfl rfl
end Go.Proofs.YtefelnhpfdcleaaGreatDoor
namespace Go.Proofs.YtefelnhpfdcleaaGreatDoor
open Go.Sx
set_option maxRecDepth 100000
set_option maxHeartbeats 8000000
def Hc (F : List UInt8→Bool) (s : List UInt8) : List UInt8→Bool:=fun k=>if k = s then true else F k
def Gc (F : List UInt8→Bool) (els : List (List UInt8)) : List UInt8→Bool:=els.foldl (fun F s=>if Br s then Hc F (Ao s) else F) F
def Ei (t : List UInt8) : List HF→(List UInt8→Bool)→(List UInt8→Bool)×Bool
 | [],F=>(F,true)
 | x :: l,F=>if Ao x.name = t then (if (Al x.value).2 = 0 then Ei t l (Gc F (Al x.value).1) else (F,false)) else Ei t l F
def Lm (a b c : Nat) : List (Nat×Option SV):=[(2,some (.ptr a 0)),(3,some (.ptr b 0)),(5,some (.ptr c 0))]
def hopsY (c : LC) : FSpec:=fun _ xs ls K=>∃ (i : Int) (v : List UInt8) (F : List UInt8→Bool),
 xs = [.yv 0,.int .i64 (.a i),.str v]∧ls = [.lrec c (Lm 1 2 3) 0 none,.blk 156 [.raw (.map none)],.blk 23 [.int .i64 (.a 0)],.blk 156 [.mapv 4],.mset F]∧v.length≤9223372036854775807∧
 ((Al v).2 = 0→∀ F',F' = Gc F (Al v).1→K (.bool (.a true)) [.lrec c (Lm 1 2 3) 0 none,.blk 156 [.raw (.map none)],.blk 23 [.int .i64 (.a 0)],.blk 156 [.mapv 4],.mset F'])∧
 ((Al v).2≠0→K (.bool (.a false)) [.lrec c (Lm 1 2 3) 2 (some .ret),.blk 156 [.raw (.map none)],.blk 23 [.int .i64 (.a 6)],.blk 156 [.mapv 4],.mset F])
def Af4 (Y : FSpec) : FSpec:=fun _ xs ls K=>∃ (c : LC) (l : List HF) (nl : Bool) (n : Int) (f : Nat→List SV) (t : List UInt8) (F : List UInt8→Bool),Y = hopsY c∧
 xs = [.yv 0,.ptr 1 0,.ptr 2 0]∧ls = [.lrec c (Lm 3 4 5) 0 none,.blk 29 [.sl (.a nl) (.a n) 2 f],.blk 9 [.str t],.blk 156 [.raw (.map none)],.blk 23 [.int .i64 (.a 0)],.blk 156 [.mapv 6],.mset F]∧A9 f n l∧
 (∀ F',Ei t l F = (F',true)→K (.tup []) [.lrec c (Lm 3 4 5) 0 none,.blk 29 [.sl (.a nl) (.a n) 2 f],.blk 9 [.str t],.blk 156 [.raw (.map none)],.blk 23 [.int .i64 (.a 0)],.blk 156 [.mapv 6],.mset F'])∧
 (∀ F',Ei t l F = (F',false)→K (.tup []) [.lrec c (Lm 3 4 5) 2 (some .ret),.blk 29 [.sl (.a nl) (.a n) 2 f],.blk 9 [.str t],.blk 156 [.raw (.map none)],.blk 23 [.int .i64 (.a 6)],.blk 156 [.mapv 6],.mset F'])
structure NmJ (t : List UInt8) (k : (List UInt8→Bool)×Bool) (l : List HF) (F : List UInt8→Bool) (i : Nat) (I : Int) (m : Nat) : Prop where
 lie : AtR l i I m
 k : k = Ei t (l.drop i) F
def nmJ (c : LC) (t : List UInt8) (k : (List UInt8→Bool)×Bool) (l : List HF) (nl : Bool) (n : Int) (f : Nat→List SV) (m : Nat) (vs : List (Option SV)) (hp : List Hl) : Prop :=
 ∃ (i : Nat) (I : Int) (F : List UInt8→Bool),vs = [some (.yv 0),some (.ptr 2 0),some (.sl (.a nl) (.a n) 2 f),some (.int .i64 (.a n)),some (.int .i64 (.a I))]∧
  hp = [.lrec c (Lm 3 4 5) 0 none,.blk 29 [.sl (.a nl) (.a n) 2 f],.blk 9 [.str t],.blk 156 [.raw (.map none)],.blk 23 [.int .i64 (.a 0)],.blk 156 [.mapv 6],.mset F]∧NmJ t k l F i I m
theorem Ai7 (Y : FSpec) (hY : YOk Tryz.prog gl Y) : Ar Tryz.prog gl 184 (Af4 Y):=by
 refine Ahr (gh:=[]) (its:=[]) (yl:=[Y]) mixed A0 (Aa K9 Ae) ⟨fun _ h=>(by cases h),fun Z h=>by rw [List.mem_singleton] at h; subst h; exact hY⟩ Tryz.func184 (by kernel_rfl) (by kernel_rfl) ?_
 intro xs ls K h
 unfold Af4 at h
 obtain ⟨c,l,nl,n,f,t,F,rfl,rfl,rfl,R,h1,h2⟩:=h
 obtain ⟨k,hk⟩ : ∃ k,k = Ei t l F:=⟨_,rfl⟩
 obtain ⟨r,ls',hK,hr,hls⟩ : ∃ r ls',K r ls'∧r = SV.tup []∧ls' = (if k.2 then [.lrec c (Lm 3 4 5) 0 none,.blk 29 [.sl (.a nl) (.a n) 2 f],.blk 9 [.str t],.blk 156 [.raw (.map none)],.blk 23 [.int .i64 (.a 0)],.blk 156 [.mapv 6],.mset k.1] else [.lrec c (Lm 3 4 5) 2 (some .ret),.blk 29 [.sl (.a nl) (.a n) 2 f],.blk 9 [.str t],.blk 156 [.raw (.map none)],.blk 23 [.int .i64 (.a 6)],.blk 156 [.mapv 6],.mset k.1]):=by
  obtain ⟨F',b⟩:=k
  cases b
  ·exact ⟨_,_,h2 F' hk.symm,rfl,rfl⟩
  ·exact ⟨_,_,h1 F' hk.symm,rfl,rfl⟩
 refine ⟨r,ls',hK,fun D hD=>?_⟩
 clear hK h1 h2
 subst hr
 obtain ⟨J,hJ⟩ : ∃ J,J = nmJ c t k l nl n f:=⟨_,rfl⟩
 cbv
 refine ⟨[0,2,6,7,8],J,⟨rfl,l.length,?_⟩,?_⟩
 ·rw [hJ]
  subst hD
  exact ⟨0,0,F,rfl,rfl,AtR.zero R.len,hk⟩
 intro m vs hp hj
 rw [hJ] at hj
 obtain ⟨i,I,F,rfl,rfl,V⟩:=hj
 clear hk
 cbv
 refine br hD (fun h=>?_) (fun h=>?_)<;>cbv
 ·have hlt:=V.lie.lt R.n (of_decide_eq_true (p:=I < n) h)
  clear h
  refine ⟨V.lie.inB hD R.n hlt,fun j hj=>?_⟩
  obtain rfl:=V.lie.j hD hj
  clear hj
  have e1:=R.f j hlt
  have hsm:=R.small j hlt
  have hk2:=V.k
  rw [Qv (d:=default) hlt] at hk2
  obtain ⟨x,hx⟩ : ∃ x,x = l.getD j default:=⟨_,rfl⟩
  rw [←hx] at e1 hk2 hsm
  obtain ⟨a,b⟩:=x
  cbv
  rw [e1]
  cbv
  refine ⟨a,rfl,rfl,hsm.1,fun z hz=>?_⟩
  cbv
  refine br hD (fun h=>?_) (fun h=>?_)<;>cbv
  ·have h3 : Ao a = t:=by rw [←hz]; simpa using h
   clear h
   refine ⟨I,b,F,?_,?_,hsm.2,fun he F' hF'=>?_,fun he=>?_⟩
   ·subst hD; rfl
   ·subst hD; rfl
   ·cbv
    refine br hD (fun h=>?_) (fun h=>?_)
    ·cbv
     exact absurd h (by simp [BT.den])
    cbv
    obtain ⟨g1,g2⟩:=V.lie.step hD hlt
    generalize l.length - (j + 1) = m' at g1 g2
    have e5 : k = Ei t (l.drop (j + 1)) F':=by rw [hk2,Ei,if_pos h3,if_pos he,hF']
    refine ⟨m',g1,?_⟩
    rw [hJ]
    unfold nmJ
    cbv
    subst hD
    exact ⟨j + 1,_,F',rfl,rfl,g2,e5⟩
   ·cbv
    refine br hD (fun h=>?_) (fun h=>?_)
    ·cbv
     have e5 : k = (F,false):=by rw [hk2,Ei,if_pos h3,if_neg he]
     rw [hls,e5]
     subst hD
     exact B7 rfl rfl
    ·cbv
     exact absurd h (by rw [hz]; simp [BT.den,h3])
  ·have h3 : Ao a≠t:=by rw [←hz]; simpa using h
   clear h
   refine br hD (fun h=>?_) (fun h=>?_)
   ·cbv
    exact absurd h (by rw [hz]; simp [BT.den])
   cbv
   obtain ⟨g1,g2⟩:=V.lie.step hD hlt
   generalize l.length - (j + 1) = m' at g1 g2
   have e5 : k = Ei t (l.drop (j + 1)) F:=by rw [hk2,Ei,if_neg h3]
   refine ⟨m',g1,?_⟩
   rw [hJ]
   unfold nmJ
   cbv
   subst hD
   exact ⟨j + 1,_,F,rfl,rfl,g2,e5⟩
 ·have hi:=V.lie.eq R.n (of_decide_eq_false (p:=I < n) h)
  have hk2:=V.k
  rw [hi,List.drop_length] at hk2
  clear h
  rw [hls,hk2]
  subst hD
  exact B7 rfl rfl
end Go.Proofs.YtefelnhpfdcleaaGreatDoor
namespace Go.Proofs.YtefelnhpfdcleaaGreatDoor
open Go.Sx
set_option maxRecDepth 100000
set_option maxHeartbeats 8000000
def conn : List UInt8:=[99,111,110,110,101,99,116,105,111,110]
def fixedL : List (List UInt8):=[conn,[107,101,101,112,45,97,108,105,118,101],[112,114,111,120,121,45,99,111,110,110,101,99,116,105,111,110],[116,101],[116,114,97,105,108,101,114],[116,114,97,110,115,102,101,114,45,101,110,99,111,100,105,110,103],[117,112,103,114,97,100,101]]
def Kq : List UInt8→Bool:=fixedL.foldl Hc fun _=>false
def F8 (l : List HF) : (List UInt8→Bool)×Bool:=Ei conn l Kq
def Adk (l : List HF) : SV×List Hl :=
 if A7 l≠0 then (.tup [.raw (.map none),.int .i64 (.a (A7 l))],[]) else
 if (F8 l).2 then (.tup [.mapv 0,.int .i64 (.a 0)],[.mset (F8 l).1]) else (.tup [.raw (.map none),.int .i64 (.a 6)],[])
def spHops : FSpec:=fun _ xs ls K=>∃ (l : List HF) (nl : Bool) (n : Int) (f : Nat→List SV),xs = [.sl (.a nl) (.a n) 2 f]∧ls = []∧A9 f n l∧∀ k,k = Adk l→K k.1 k.2
theorem Lu.eq {F' F : List UInt8→Bool} {s : List UInt8} (h : Lu F' F s true) : F' = Hc F s:=funext fun k=>h.h k
structure HopJ (els : List (List UInt8)) (F0 F : List UInt8→Bool) (i : Nat) (I L : Int) (m : Nat) : Prop where
 lie : AtR els i I m
 L : L = els.length
 k : Gc F0 els = Gc F (els.drop i)
def hopJ (c : LC) (els : List (List UInt8)) (F0 : List UInt8→Bool) (nb : Bool) (n : Int) (f : Nat→List SV) (m : Nat) (vs : List (Option SV)) (hp : List Hl) : Prop :=
 ∃ (i : Nat) (I : Int) (F : List UInt8→Bool),vs = [some (.ptr 3 0),some (.sl (.a nb) (.a n) 1 f),some (.int .i64 (.a n)),some (.int .i64 (.a I))]∧
  hp = [.lrec c (Lm 1 2 3) 1 none,.blk 156 [.raw (.map none)],.blk 23 [.int .i64 (.a 0)],.blk 156 [.mapv 4],.mset F]∧HopJ els F0 F i I n m
theorem Air {v : List UInt8} {l : List (List UInt8)} (h : l = (Al v).1) : l.length≤9223372036854775807:=by
 have:=(B4 v).1; rw [←h] at this; omega
theorem Ack {v : List UInt8} {l : List (List UInt8)} (h : l = (Al v).1) (i : Nat) (hi : i < l.length) : (l.getD i []).length≤9223372036854775807:=by
 have:=(B4 v).2 (l.getD i []) (by rw [←h,List.getD_eq_getElem?_getD,List.getElem?_eq_getElem hi]; exact List.getElem_mem hi)
 omega
theorem hops_ok : Ar Tryz.prog gl 156 spHops:=by
 refine Ahr (gh:=[]) (its:=[(184,Af4)]) (yl:=[]) mixed A0 (Aa Xf (Fu Alp (Aa Adu (Aa L0 (Aa K9 Ae))))) ⟨fun x h Y hY=>by rw [List.mem_singleton] at h; subst h; exact Ai7 Y hY,fun _ h=>(by cases h)⟩ Tryz.func156 (by kernel_rfl) (by kernel_rfl) ?_
 intro xs ls K h
 unfold spHops at h
 obtain ⟨l,nl,n,f,rfl,rfl,R,h⟩:=h
 obtain ⟨k,hk⟩ : ∃ k,k = Adk l:=⟨_,rfl⟩
 refine ⟨_,_,h k hk,fun D hD=>?_⟩
 clear h
 cbv
 refine ⟨l,_,_,f,rfl,rfl,by subst hD; exact R,fun e he=>?_⟩
 cbv
 refine br hD (fun h=>?_) (fun h=>?_)<;>cbv
 ·have h1 : e≠0:=by simpa using h
  rw [he] at h1
  rw [hk,Adk,if_pos h1,←he]
  subst hD
  exact B7 rfl rfl
 have h1 : A7 l = 0:=by rw [←he]; simpa using h
 clear h
 have hk2 : k = if (F8 l).2 then (.tup [.mapv 0,.int .i64 (.a 0)],[.mset (F8 l).1]) else (.tup [.raw (.map none),.int .i64 (.a 6)],[]):=by
  rw [hk,Adk,if_neg (by simp [h1])]
 clear hk
 intro F1 h1; obtain rfl : F1 = Hc _ _:=Lu.eq (by subst hD; exact h1); clear h1; cbv
 intro F2 h2; obtain rfl : F2 = Hc _ _:=Lu.eq (by subst hD; exact h2); clear h2; cbv
 intro F3 h3; obtain rfl : F3 = Hc _ _:=Lu.eq (by subst hD; exact h3); clear h3; cbv
 intro F4 h4; obtain rfl : F4 = Hc _ _:=Lu.eq (by subst hD; exact h4); clear h4; cbv
 intro F5 h5; obtain rfl : F5 = Hc _ _:=Lu.eq (by subst hD; exact h5); clear h5; cbv
 intro F6 h6; obtain rfl : F6 = Hc _ _:=Lu.eq (by subst hD; exact h6); clear h6; cbv
 intro F7 h7; obtain rfl : F7 = Hc _ _:=Lu.eq (by subst hD; exact h7); clear h7; cbv
 refine ⟨_,_,f,conn,rfl,rfl,by decide,fun t ht=>?_⟩
 have ht : t = conn:=ht
 subst ht
 cbv
 intro c hc
 refine ⟨[2,3,5],hopsY c,?_,?_⟩
 ·rintro xs ls K' ⟨i,v,F,rfl,rfl,hv,h1,h2⟩
  refine ⟨⟨_,rfl⟩,?_⟩
  obtain ⟨els,hels⟩ : ∃ l,l = (Al v).1:=⟨_,rfl⟩
  obtain ⟨ee,hee⟩ : ∃ l,l = (Al v).2:=⟨_,rfl⟩
  obtain ⟨r,ls',hK,hr,hls⟩ : ∃ r ls',K' r ls'∧r = SV.bool (.a (ee == 0))∧ls' = (if ee = 0 then [.lrec c (Lm 1 2 3) 0 none,.blk 156 [.raw (.map none)],.blk 23 [.int .i64 (.a 0)],.blk 156 [.mapv 4],.mset (Gc F els)] else [.lrec c (Lm 1 2 3) 2 (some .ret),.blk 156 [.raw (.map none)],.blk 23 [.int .i64 (.a 6)],.blk 156 [.mapv 4],.mset F]):=by
   by_cases he : (Al v).2 = 0
   ·refine ⟨_,_,h1 he _ rfl,?_,?_⟩
    ·rw [hee,he]; rfl
    ·rw [hee,he,if_pos rfl,hels]
   ·refine ⟨_,_,h2 he,?_,?_⟩
    ·have : ((Al v).2 == 0) = false:=by simpa using he
     rw [hee,this]
    ·rw [hee,if_neg he]
  refine ⟨r,ls',hK,?_⟩
  clear hK h1 h2
  subst hr
  cbv
  refine ⟨v,rfl,rfl,hv,fun l e n nb hle hn hnb=>?_⟩
  have hl2 : l = els:=by rw [hels,←hle]
  have he2 : e = ee:=by rw [hee,←hle]
  subst hl2 he2
  have RS : A8 (Dd l) n l:=by rw [hn]; exact A8.row (Air hels)
  obtain ⟨g,hg⟩ : ∃ g,g = Dd l:=⟨_,rfl⟩
  rw [←hg] at RS ⊢
  clear hle hg hn
  cbv
  refine br hD (fun h=>?_) (fun h=>?_)
  ·have he : e≠0:=by simpa using h
   rw [if_neg he] at hls
   have he3 : (e == 0) = false:=by simpa using he
   rw [hls,he3]
   cbv
   subst hD
   exact B7 rfl rfl
  ·have he : e = 0:=by simpa using h
   clear h
   rw [if_pos he] at hls
   rw [he]
   obtain ⟨J,hJ⟩ : ∃ J,J = hopJ c l F nb n g:=⟨_,rfl⟩
   cbv
   refine ⟨[5,30,31,32],J,⟨rfl,l.length,?_⟩,?_⟩
   ·rw [hJ]
    subst hD
    exact ⟨0,0,F,rfl,rfl,AtR.zero RS.len,RS.n,rfl⟩
   intro m vs hp hj
   rw [hJ] at hj
   obtain ⟨i,I,F2,rfl,rfl,V⟩:=hj
   cbv
   refine br hD (fun h=>?_) (fun h=>?_)<;>cbv
   ·have hlt:=V.lie.lt RS.n (of_decide_eq_true (p:=I < n) h)
    clear h
    refine ⟨V.lie.inB hD RS.n hlt,fun j hj=>?_⟩
    obtain rfl:=V.lie.j hD hj
    clear hj
    have e1:=RS.f j hlt
    have hk2:=V.k
    rw [Qv (d:=[]) hlt] at hk2
    have hsm:=Ack hels j hlt
    obtain ⟨x,hx⟩ : ∃ x,x = l.getD j []:=⟨_,rfl⟩
    rw [←hx] at e1 hk2 hsm
    cbv
    rw [e1]
    cbv
    refine ⟨x,rfl,rfl,hsm,fun t ht=>?_⟩
    cbv
    obtain ⟨g1,g2⟩:=V.lie.step hD hlt
    generalize l.length - (j + 1) = m' at g1 g2
    refine br hD (fun h=>?_) (fun h=>?_)<;>cbv
    ·have h3 : Br x = true:=by rw [←ht]; simpa using h
     clear h
     refine ⟨x,rfl,rfl,hsm,fun y hy=>?_⟩
     have hy : y = Ao x:=hy
     cbv
     intro F3 h3'
     obtain rfl : F3 = Hc F2 y:=Lu.eq (by subst hD; exact h3')
     clear h3'
     cbv
     refine ⟨m',g1,?_⟩
     rw [hJ]
     unfold hopJ
     subst hD
     refine ⟨j + 1,_,_,rfl,rfl,g2,RS.n,?_⟩
     rw [hk2,hy]
     simp only [Gc,List.foldl_cons,h3,if_true]
    ·have h3 : Br x = false:=by rw [←ht]; simpa using h
     clear h
     refine ⟨m',g1,?_⟩
     rw [hJ]
     unfold hopJ
     subst hD
     refine ⟨j + 1,_,F2,rfl,rfl,g2,RS.n,?_⟩
     rw [hk2]
     simp only [Gc,List.foldl_cons,h3,Bool.false_eq_true,if_false]
   ·have hi:=V.lie.eq RS.n (of_decide_eq_false (p:=I < n) h)
    have hk2:=V.k
    rw [hi,List.drop_length] at hk2
    clear h
    have hk3 : Gc F l = F2:=hk2
    rw [hls,hk3]
    cbv
    subst hD
    exact B7 rfl rfl
 ·cbv
  refine ⟨c,l,nl,n,f,conn,Kq,rfl,rfl,by subst hD; rfl,R,fun F' hF=>?_,fun F' hF=>?_⟩
  ·have e5 : k = (.tup [.mapv 0,.int .i64 (.a 0)],[.mset F']):=by
    rw [hk2,F8,hF]; rfl
   rw [e5]
   cbv
   subst hD
   exact B7 rfl rfl
  ·have e5 : k = (.tup [.raw (.map none),.int .i64 (.a 6)],[]):=by
    rw [hk2,F8,hF]; rfl
   rw [e5]
   cbv
   subst hD
   exact B7 rfl rfl
end Go.Proofs.YtefelnhpfdcleaaGreatDoor
namespace Go.Proofs.YtefelnhpfdcleaaGreatDoor
open Go Go.Sx
set_option maxRecDepth 100000
set_option maxHeartbeats 8000000
def Tf (l : List HF) (i : Nat) : List SV:=match l[i]? with
 | some x=>B6 x
 | none=>[]
theorem Al7 {l : List HF} {i : Nat} (h : i < l.length) : Tf l i = B6 (l.getD i default):=by
 unfold Tf
 rw [List.getElem?_eq_getElem h,List.getD_eq_getElem?_getD,List.getElem?_eq_getElem h]; rfl
theorem A9.row {l : List HF} (h : l.length≤9223372036854775807) (hs : ∀ i,i < l.length→(l.getD i default).small) : A9 (Tf l) l.length l:=⟨rfl,fun _ hi=>Al7 hi,h,hs⟩
def spCloneH : FSpec:=fun _ xs ls K=>∃ (l : List HF) (nl : Bool) (n : Int) (f : Nat→List SV),xs = [.sl (.a nl) (.a n) 2 f]∧ls = []∧A9 f n l∧l.length≤100000∧(nl = true→l = [])∧
 ∀ g n',A9 g n' l→K (.osl (.a nl) (.a n') 0) [.own 69 (.a n') 2 true g]
theorem Amu : Ar Tryz.prog gl 158 spCloneH:=by
 refine A4 (gh:=[(2,[.own 2 69]),(3,[]),(999985,[])]) mixed A0 Ae Tryz.func158 (by kernel_rfl) (by kernel_rfl) ?_
 intro xs ls K h
 unfold spCloneH at h
 obtain ⟨l,nl,n,f,rfl,rfl,R,hl,hn,h⟩:=h
 obtain ⟨g,hg⟩ : ∃ g,g = Tf l:=⟨_,rfl⟩
 obtain ⟨n0,hn0⟩ : ∃ n0 : Int,n0 = l.length:=⟨_,rfl⟩
 have R0 : A9 g n0 l:=by rw [hg,hn0]; exact A9.row R.len R.small
 refine ⟨_,_,h g n0 R0,fun D hD=>?_⟩
 clear h hn0 hg
 cbv
 refine br hD (fun h=>?_) (fun h=>?_)<;>cbv
 ·have h2 : nl = true:=h
  have h3:=hn h2
  subst h2 h3
  subst hD
  have hn0 : n0 = 0:=R0.n
  subst hn0
  exact Se (Ze rfl rfl) rfl fun i hi=>absurd hi (by show ¬ ((i : Int) < 0); omega)
 ·have h2 : nl = false:=h
  subst h2
  intro f0 h0
  clear h0
  cbv
  refine ⟨?_,fun f1 n1 hm=>?_⟩
  ·subst hD; exact ⟨rfl,by have:=R.n; show ((0 : Int) + n) * 32≤_; omega,by have:=R.n; show (0 : Int) + n≤_; omega⟩
  cbv
  have e1 : n1 = n0:=by subst hD; have:=R.n; have:=R0.n; have h5 : n1 = 0 + n:=hm.len; omega
  have e2 : ∀ i,i < l.length→f1 i = g i:=by
   intro i hi
   rw [hm.hi i i (by subst hD; show (i : Int) = 0 + i; omega) (by subst hD; have:=R.n; show (i : Int) < n; omega),R.f i hi,R0.f i hi]
  clear hm
  subst hD
  refine Se (Ze rfl ?_) ?_ fun i hi=>e2 i (by have:=R0.n; have hi : (i : Int) < n1:=hi; omega)
  ·exact e1
  ·exact e1
def spDelH : FSpec:=fun _ xs ls K=>∃ (a b : List UInt8) (F : List UInt8→Bool),xs = [.agg [.str a,.str b],.ptr 0 0]∧ls = [.blk 156 [.mapv 1],.mset F]∧a.length≤9223372036854775807∧
 ∀ r,r = F (Ao a)→K (.bool (.a r)) [.blk 156 [.mapv 1],.mset F]
theorem Amp : Ar Tryz.prog gl 159 spDelH:=by
 refine Wz (gh:=[]) mixed A0 (Aa K9 Ae) Tryz.func159 (by kernel_rfl) (by kernel_rfl) ?_
 intro xs ls K h
 unfold spDelH at h
 obtain ⟨a,b,F,rfl,rfl,ha,h⟩:=h
 refine ⟨_,_,h _ rfl,fun D hD=>?_⟩
 clear h
 obtain ⟨k,hk⟩ : ∃ k,k = F (Ao a):=⟨_,rfl⟩
 rw [←hk]
 cbv
 refine ⟨a,rfl,rfl,ha,fun t ht=>?_⟩
 have ht : t = Ao a:=ht
 cbv
 rw [ht,←hk]
 subst hD
 exact B7 rfl rfl
def Lr (F : List UInt8→Bool) (x : HF) : Bool:=!F (Ao x.name)
def Wq (p : HF→Bool) : List HF→Int→Int
 | [],_=>-1
 | x :: l,i=>if p x then i else Wq p l (i + 1)
def Af6 (F : List UInt8→Bool) (l : List HF) : Int:=Wq (fun x=>F (Ao x.name)) l 0
def spIdxH : FSpec:=fun _ xs ls K=>∃ (l : List HF) (F : List UInt8→Bool) (nl : Bool) (n : Int) (f : Nat→List SV),xs = [.osl (.a nl) (.a n) 0,.clo 159 [.ptr 1 0]]∧ls = [.own 69 (.a n) 2 true f,.blk 156 [.mapv 2],.mset F]∧A9 f n l∧
 ∀ r,r = Af6 F l→K (.int .i64 (.a r)) [.own 69 (.a n) 2 true f,.blk 156 [.mapv 2],.mset F]
structure IxJ (k : Int) (F : List UInt8→Bool) (l : List HF) (i : Nat) (I : Int) (m : Nat) : Prop where
 lie : AtR l i I m
 k : k = Wq (fun x=>F (Ao x.name)) (l.drop i) I
def ixJ (k : Int) (F : List UInt8→Bool) (l : List HF) (nl : Bool) (n : Int) (f : Nat→List SV) (m : Nat) (vs : List (Option SV)) (hp : List Hl) : Prop :=
 ∃ (i : Nat) (I : Int),vs = [some (.osl (.a nl) (.a n) 0),some (.clo 159 [.ptr 1 0]),some (.int .i64 (.a n)),some (.int .i64 (.a I))]∧hp = [.own 69 (.a n) 2 true f,.blk 156 [.mapv 2],.mset F]∧IxJ k F l i I m
theorem idxH_ok : Ar Tryz.prog gl 174 spIdxH:=by
 refine Wz (gh:=[]) mixed A0 (Fu Amp Ae) Tryz.func174 (by kernel_rfl) (by kernel_rfl) ?_
 intro xs ls K h
 unfold spIdxH at h
 obtain ⟨l,F,nl,n,f,rfl,rfl,R,h⟩:=h
 obtain ⟨k,hk⟩ : ∃ k,k = Af6 F l:=⟨_,rfl⟩
 refine ⟨_,_,h k hk,fun D hD=>?_⟩
 clear h
 obtain ⟨J,hJ⟩ : ∃ J,J = ixJ k F l nl n f:=⟨_,rfl⟩
 cbv
 refine ⟨[0,1,7,8],J,⟨rfl,l.length,?_⟩,?_⟩
 ·rw [hJ]
  subst hD
  exact ⟨0,0,rfl,rfl,AtR.zero R.len,hk⟩
 intro m vs hp hj
 rw [hJ] at hj
 obtain ⟨i,I,rfl,rfl,V⟩:=hj
 clear hk
 cbv
 refine br hD (fun h=>?_) (fun h=>?_)<;>cbv
 ·have hlt:=V.lie.lt R.n (of_decide_eq_true (p:=I < n) h)
  clear h
  refine ⟨⟨by subst hD; rfl⟩,V.lie.inB hD R.n hlt,fun j hj=>?_⟩
  obtain rfl:=V.lie.j hD hj
  clear hj
  have e1:=R.f j hlt
  have hsm:=R.small j hlt
  have hk2:=V.k
  rw [Qv (d:=default) hlt] at hk2
  obtain ⟨x,hx⟩ : ∃ x,x = l.getD j default:=⟨_,rfl⟩
  rw [←hx] at e1 hk2 hsm
  obtain ⟨a,b⟩:=x
  cbv
  rw [e1]
  cbv
  refine ⟨⟨by subst hD; rfl⟩,⟨by subst hD; have:=R.n; show (j : Int) < n; omega⟩,?_⟩
  refine ⟨a,b,F,?_,?_,hsm.1,fun t ht=>?_⟩
  ·rfl
  ·rfl
  cbv
  refine br hD (fun h=>?_) (fun h=>?_)<;>cbv
  ·have h3 : F (Ao a) = true:=by rw [←ht]; simpa using h
   subst hD
   rw [hk2,Wq,if_pos h3]
   exact B7 rfl rfl
  ·have h3 : F (Ao a) = false:=by rw [←ht]; simpa using h
   clear h
   obtain ⟨g1,g2⟩:=V.lie.step hD hlt
   refine ⟨_,g1,?_⟩
   rw [hJ]
   unfold ixJ
   subst hD
   refine ⟨j + 1,_,rfl,rfl,g2,?_⟩
   rw [hk2,Wq,if_neg (by rw [h3]; simp)]
   have h6:=g2.I
   have h7:=V.lie.I
   rw [h6,h7]; rfl
 ·have hi:=V.lie.eq R.n (of_decide_eq_false (p:=I < n) h)
  have hk2:=V.k
  rw [hi,List.drop_length] at hk2
  clear h
  subst hD
  rw [hk2]
  exact B7 rfl rfl
end Go.Proofs.YtefelnhpfdcleaaGreatDoor
namespace Go.Proofs.YtefelnhpfdcleaaGreatDoor
open Go Go.Sx
set_option maxRecDepth 100000
set_option maxHeartbeats 8000000
def E4 (F : List UInt8→Bool) (l : List HF) : List HF:=l.filter (Lr F)
def spDelF : FSpec:=fun _ xs ls K=>∃ (l : List HF) (F : List UInt8→Bool) (nl : Bool) (n : Int) (f : Nat→List SV),xs = [.osl (.a nl) (.a n) 0,.clo 159 [.ptr 1 0]]∧ls = [.own 69 (.a n) 2 true f,.blk 156 [.mapv 2],.mset F]∧A9 f n l∧
 ∀ g n',A9 g n' (E4 F l)→K (.sl (.a nl) (.a n') 2 g) [.gone,.blk 156 [.mapv 2],.mset F]
structure DelJ (F : List UInt8→Bool) (l : List HF) (f : Nat→List SV) (j : Nat) (I J : Int) (m : Nat) : Prop where
 lie : AtR l j J m
 I : I = ((E4 F (l.take j)).length : Int)
 row : ∀ k,k < (E4 F (l.take j)).length→f k = B6 ((E4 F (l.take j)).getD k default)
 rest : ∀ k,j≤k→k < l.length→f k = B6 (l.getD k default)
 tot : ∀ k,k < l.length→∃ x,f k = B6 x
 lt : (E4 F (l.take j)).length < j
def delJ (F : List UInt8→Bool) (l : List HF) (nl : Bool) (n : Int) (m : Nat) (vs : List (Option SV)) (hp : List Hl) : Prop :=
 ∃ (j : Nat) (I J : Int) (f : Nat→List SV),vs = [some (.osl (.a nl) (.a n) 0),some (.clo 159 [.ptr 1 0]),some (.int .i64 (.a I)),some (.int .i64 (.a J))]∧hp = [.own 69 (.a n) 2 true f,.blk 156 [.mapv 2],.mset F]∧DelJ F l f j I J m
theorem Wm (F : List UInt8→Bool) (l : List HF) {j : Nat} (h : j < l.length) : E4 F (l.take (j + 1)) = E4 F (l.take j) ++ (if Lr F (l.getD j default) then [l.getD j default] else []):=by
 unfold E4
 rw [List.take_succ_eq_append_getElem h,List.filter_append,List.getD_eq_getElem?_getD,List.getElem?_eq_getElem h]
 congr 1
 simp only [Option.getD_some,List.filter_cons,List.filter_nil]
theorem Zj {p : HF→Bool} : ∀ {l : List HF} {i : Int},0≤i→Wq p l i = -1→l.filter (fun x=>!p x) = l
 | [],_,_,_=>rfl
 | x :: l,i,hi,h=>by
  unfold Wq at h
  split at h
  ·omega
  ·rename_i hp
   rw [List.filter_cons,if_pos (by simpa using hp),Zj (by omega) h]
theorem Zi {p : HF→Bool} : ∀ {l : List HF} {i : Int},0≤i→Wq p l i≠-1→∃ j : Nat,Wq p l i = i + j∧j < l.length∧p (l.getD j default) = true∧(l.take j).filter (fun x=>!p x) = l.take j
 | [],_,_,h=>absurd rfl h
 | x :: l,i,hi,h=>by
  unfold Wq at h ⊢
  split at h
  ·rename_i hp
   exact ⟨0,by rw [if_pos hp]; omega,by simp,by simpa using hp,by simp⟩
  ·rename_i hp
   rw [if_neg hp]
   obtain ⟨j,h1,h2,h3,h4⟩:=Zi (by omega) h
   refine ⟨j + 1,by rw [h1]; omega,by simp; omega,by simpa using h3,?_⟩
   rw [List.take_succ_cons,List.filter_cons,if_pos (by simpa using hp),h4]
theorem Nn (F : List UInt8→Bool) (l : List HF) : (E4 F l).length≤l.length:=List.length_filter_le _ _
theorem Mw {F : List UInt8→Bool} {l : List HF} (h : ∀ i,i < l.length→(l.getD i default).small) : ∀ i,i < (E4 F l).length→((E4 F l).getD i default).small:=by
 intro i hi
 have hm : (E4 F l).getD i default∈l:=by
  rw [List.getD_eq_getElem?_getD,List.getElem?_eq_getElem hi]
  exact (List.mem_filter.1 (List.getElem_mem hi)).1
 obtain ⟨k,hk,e⟩:=List.mem_iff_getElem.1 hm
 have:=h k hk
 rwa [List.getD_eq_getElem?_getD,List.getElem?_eq_getElem hk,Option.getD_some,e] at this
theorem delF_ok : Ar Tryz.prog gl 157 spDelF:=by
 refine Wz (gh:=[(3,[.share 4])]) mixed A0 (Fu idxH_ok (Fu Amp Ae)) Tryz.func157 (by kernel_rfl) (by kernel_rfl) ?_
 intro xs ls K h
 unfold spDelF at h
 obtain ⟨l,F,nl,n,f,rfl,rfl,R,h⟩:=h
 obtain ⟨l2,hl2⟩ : ∃ l2,l2 = E4 F l:=⟨_,rfl⟩
 obtain ⟨g,hg⟩ : ∃ g,g = Tf l2:=⟨_,rfl⟩
 obtain ⟨n2,hn2⟩ : ∃ n2 : Int,n2 = l2.length:=⟨_,rfl⟩
 have R2 : A9 g n2 l2:=by
  rw [hg,hn2]; refine A9.row ?_ ?_
  ·have:=Nn F l; have:=R.len; rw [hl2]; omega
  ·rw [hl2]; exact Mw R.small
 refine ⟨_,_,h g n2 (by rw [←hl2]; exact R2),fun D hD=>?_⟩
 clear h hn2 hg
 obtain ⟨J,hJ⟩ : ∃ J,J = delJ F l nl n:=⟨_,rfl⟩
 cbv
 refine ⟨l,F,nl,n,f,?_,?_,R,fun i hi=>?_⟩
 ·subst hD; rfl
 ·subst hD; rfl
 cbv
 refine br hD (fun h=>?_) (fun h=>?_)<;>cbv
 ·have h2 : i = -1:=by simpa using h
  clear h
  have h3 : E4 F l = l:=Zj (Int.le_refl 0) (show Af6 F l = -1 by rw [←hi]; exact h2)
  rw [h3] at hl2
  subst hl2
  refine ⟨⟨by subst hD; rfl⟩,?_⟩
  subst hD
  refine ⟨LeV.sl rfl ?_ fun k hk=>?_,LeH.refl _,Nat.le_refl _⟩
  ·show n = n2; rw [R.n,R2.n]
  ·have hk : (k : Int) < n:=hk
   have:=R.n
   rw [R.f k (by omega),R2.f k (by omega)]
 have h2 : i≠-1:=by simpa using h
 clear h
 obtain ⟨i0,h3,h4,h5,h6⟩:=Zi (Int.le_refl 0) (by rw [hi] at h2; exact h2)
 have h3 : i = (i0 : Int):=by rw [hi]; show Wq _ l 0 = _; rw [h3]; omega
 have hk0 : E4 F (l.take (i0 + 1)) = l.take i0:=by
  rw [Wm F l h4]
  have : Lr F (l.getD i0 default) = false:=by unfold Lr; rw [h5]; rfl
  rw [this,if_neg (by simp),List.append_nil]; exact h6
 clear hi h2
 refine ⟨[0,1,5,6],J,⟨rfl,l.length - (i0 + 1),?_⟩,?_⟩
 ·rw [hJ]
  subst hD
  refine ⟨i0 + 1,_,_,f,rfl,rfl,⟨by omega,?_,rfl,R.len⟩,?_,fun k hk=>?_,fun k _ hk=>R.f k hk,fun k hk=>⟨_,R.f k hk⟩,?_⟩
  ·have:=R.len
   show IntKind.i64.wrap (i + 1) = _
   rw [h3,Am (by omega) (by omega)]; omega
  ·rw [hk0,List.length_take]; show i = _; omega
  ·rw [hk0] at hk ⊢
   rw [List.length_take] at hk
   rw [R.f k (by omega),List.getD_eq_getElem?_getD,List.getD_eq_getElem?_getD,List.getElem?_take,if_pos (by omega)]
  ·rw [hk0,List.length_take]; omega
 clear h3 h4 h5 h6 hk0
 intro m vs hp hj
 rw [hJ] at hj
 obtain ⟨j,I,Jv,f1,rfl,rfl,V⟩:=hj
 cbv
 refine br hD (fun h=>?_) (fun h=>?_)<;>cbv
 ·have hlt:=V.lie.lt R.n (of_decide_eq_true (p:=Jv < n) h)
  clear h
  refine ⟨⟨by subst hD; rfl⟩,V.lie.inB hD R.n hlt,fun q hq=>?_⟩
  obtain rfl:=V.lie.j hD hq
  clear hq
  have e1:=V.rest q (Nat.le_refl q) hlt
  have hsm:=R.small q hlt
  have hkt:=Wm F l hlt
  obtain ⟨x,hx⟩ : ∃ x,x = l.getD q default:=⟨_,rfl⟩
  rw [←hx] at e1 hkt hsm
  obtain ⟨a,b⟩:=x
  cbv
  rw [e1]
  cbv
  refine ⟨⟨by subst hD; rfl⟩,⟨by subst hD; have:=R.n; show (q : Int) < n; omega⟩,?_⟩
  refine ⟨a,b,F,?_,?_,hsm.1,fun t ht=>?_⟩
  ·rfl
  ·rfl
  cbv
  refine br hD (fun h=>?_) (fun h=>?_)<;>cbv
  ·have h3 : Lr F ⟨a,b⟩ = true:=by
    have h : (!t) = true:=h
    unfold Lr; rw [←h,ht]
   clear h
   rw [if_pos h3] at hkt
   refine ⟨⟨by subst hD; rfl⟩,?_,fun p hp=>?_⟩
   ·subst hD
    have h1:=V.I; have h2:=V.lt; have:=R.n
    exact ⟨by show 0≤I; omega,by show I < n; omega⟩
   have hp2 : p = (E4 F (l.take q)).length:=by
    have hp : (p : Int) = I:=by subst hD; exact hp.h
    have:=V.I; omega
   clear hp
   have hplt : p < l.length:=by have:=V.lt; omega
   obtain ⟨y,hy⟩:=V.tot p hplt
   obtain ⟨c,d⟩:=y
   cbv
   refine ⟨⟨by subst hD; rfl⟩,⟨by subst hD; have:=R.n; show (p : Int) < n; omega⟩,?_⟩
   rw [hy]
   cbv
   intro f2 hf2
   cbv
   obtain ⟨g1,g2⟩:=V.lie.step hD hlt
   generalize hgm : l.length - (q + 1) = m' at g1 g2
   refine ⟨m',g1,?_⟩
   rw [hJ]
   unfold delJ
   subst hD
   have hat : f2 p = B6 ⟨a,b⟩:=hf2.at_
   have hln : (E4 F (l.take (q + 1))).length = p + 1:=by rw [hkt,List.length_append,←hp2]; rfl
   refine ⟨q + 1,_,_,f2,rfl,rfl,g2,?_,fun k hk=>?_,fun k hk hk2=>?_,fun k hk=>?_,?_⟩
   ·rw [hln]
    have h1:=V.I; have h3:=R.len
    show IntKind.i64.wrap (I + 1) = _
    rw [Am (by omega) (by omega)]; omega
   ·rw [hln] at hk
    rw [hkt]
    by_cases e : k = p
    ·subst e
     rw [hat,List.getD_eq_getElem?_getD,List.getElem?_append_right (by omega),←hp2,Nat.sub_self]; rfl
    ·rw [hf2.other k e,V.row k (by omega),List.getD_eq_getElem?_getD,List.getD_eq_getElem?_getD,List.getElem?_append_left (by omega)]
   ·have h4:=V.lt
    rw [hf2.other k (by omega)]
    exact V.rest k (by omega) hk2
   ·by_cases e : k = p
    ·subst e; exact ⟨_,hat⟩
    ·rw [hf2.other k e]; exact V.tot k hk
   ·rw [hln]; have:=V.lt; omega
  ·have h3 : Lr F ⟨a,b⟩ = false:=by
    have h : (!t) = false:=h
    unfold Lr; rw [←h,ht]
   clear h
   rw [if_neg (by rw [h3]; simp),List.append_nil] at hkt
   obtain ⟨g1,g2⟩:=V.lie.step hD hlt
   generalize hgm : l.length - (q + 1) = m' at g1 g2
   refine ⟨m',g1,?_⟩
   rw [hJ]
   unfold delJ
   subst hD
   refine ⟨q + 1,_,_,f1,rfl,rfl,g2,?_,?_,fun k hk=>V.rest k (by omega),V.tot,?_⟩
   ·rw [hkt]; exact V.I
   ·rw [hkt]; exact V.row
   ·rw [hkt]; have:=V.lt; omega
 ·have hi:=V.lie.eq R.n (of_decide_eq_false (p:=Jv < n) h)
  clear h
  have hk2 : E4 F (l.take j) = l2:=by rw [hi,List.take_length,hl2]
  have hI : I = (l2.length : Int):=by rw [←hk2]; exact V.I
  have hle : l2.length≤l.length:=by rw [hl2]; exact Nn F l
  have hrow : ∀ k,k < l2.length→f1 k = B6 (l2.getD k default):=by rw [←hk2]; exact V.row
  have R1 : I = n2:=by rw [R2.n]; exact hI
  have R3 : 0≤n2∧n2≤n:=by have:=R2.n; have:=R.n; omega
  clear hk2 hI V
  refine ⟨⟨by subst hD; rfl⟩,by subst hD; exact ⟨by show 0≤I; omega,by show I≤n; omega,Int.le_refl _⟩,?_⟩
  refine ⟨⟨by subst hD; rfl⟩,fun f3 hf3=>?_⟩
  cbv
  refine ⟨⟨by subst hD; rfl⟩,by subst hD; exact ⟨Int.le_refl _,by show 0≤I; omega,by show I≤n; omega⟩,?_⟩
  subst hD
  refine ⟨LeV.sl rfl R1 fun k hk=>?_,LeH.refl _,Nat.le_refl _⟩
  have hk : (k : Int) < I:=hk
  have h4 : k < l2.length:=by have:=R2.n; omega
  rw [hf3.lo k hk,hrow k h4,R2.f k h4]
def Bm (l : List HF) : List HF×Int :=
 if A7 l≠0 then ([],A7 l) else if (F8 l).2 then (E4 (F8 l).1 l,0) else ([],6)
structure ResH (l : List HF) (nb : Bool) (n : Int) (f : Nat→List SV) : Prop where
 row : A9 f n l
 nil : nb = true→l = []
def spStrip : FSpec:=fun _ xs ls K=>∃ (l : List HF) (nl : Bool) (n : Int) (f : Nat→List SV),xs = [.sl (.a nl) (.a n) 2 f]∧ls = []∧A9 f n l∧(nl = true→l = [])∧
 ∀ r e nb n' g,(r,e) = Bm l→ResH r nb n' g→(nb = (nl || e != 0))→K (.tup [.sl (.a nb) (.a n') 2 g,.int .i64 (.a e)]) []
theorem Di {l : List HF} (h : A7 l = 0) : l.length≤100:=by
 unfold A7 at h
 split at h
 ·cases h
 ·omega
theorem Akp : Ar Tryz.prog gl 138 spStrip:=by
 refine Wz (gh:=[]) mixed A0 (Fu hops_ok (Fu Amu (Fu delF_ok Ae))) Tryz.func138 (by kernel_rfl) (by kernel_rfl) ?_
 intro xs ls K h
 unfold spStrip at h
 obtain ⟨l,nl,n,f,rfl,rfl,R,hnl,h⟩:=h
 obtain ⟨k,hk⟩ : ∃ k,k = Bm l:=⟨_,rfl⟩
 obtain ⟨kr,ke⟩:=k
 obtain ⟨g,hg⟩ : ∃ g,g = Tf kr:=⟨_,rfl⟩
 obtain ⟨n2,hn2⟩ : ∃ n2 : Int,n2 = kr.length:=⟨_,rfl⟩
 have hkr : kr = []∨kr = E4 (F8 l).1 l:=by
  unfold Bm at hk
  split at hk
  ·simp only [Prod.mk.injEq] at hk; exact .inl hk.1
  ·split at hk
   ·simp only [Prod.mk.injEq] at hk; exact .inr hk.1
   ·simp only [Prod.mk.injEq] at hk; exact .inl hk.1
 have R2 : A9 g n2 kr:=by
  rw [hg,hn2]
  rcases hkr with rfl | rfl
  ·exact ⟨rfl,fun i hi=>absurd hi (by simp),by simp,fun i hi=>absurd hi (by simp)⟩
  ·refine A9.row ?_ (Mw R.small)
   have:=Nn (F8 l).1 l; have:=R.len; omega
 obtain ⟨nb,hnb⟩ : ∃ nb,nb = (nl || ke != 0):=⟨_,rfl⟩
 refine ⟨_,_,h kr ke nb n2 g hk ⟨R2,fun hb=>?_⟩ hnb,fun D hD=>?_⟩
 ·rcases hkr with h1 | h1
  ·exact h1
  ·rw [hnb] at hb
   simp only [Bool.or_eq_true,bne_iff_ne,ne_eq] at hb
   rcases hb with hb | hb
   ·rw [h1,hnl hb]; rfl
   ·unfold Bm at hk
    split at hk
    ·simp only [Prod.mk.injEq] at hk; exact hk.1
    ·split at hk
     ·simp only [Prod.mk.injEq] at hk; exact absurd hk.2 hb
     ·simp only [Prod.mk.injEq] at hk; exact hk.1
 clear h hg hn2
 unfold Bm at hk
 cbv
 refine ⟨l,_,_,f,rfl,rfl,by subst hD; exact R,fun k hkk=>?_⟩
 unfold Adk at hkk
 obtain ⟨ce,hce⟩ : ∃ ce,ce = A7 l:=⟨_,rfl⟩
 rw [←hce] at hkk hk
 by_cases h1 : ce≠0
 ·rw [if_pos h1] at hkk hk
  rw [hkk]
  cbv
  refine br hD (fun h=>?_) (fun h=>?_)
  ·cbv
   simp only [Prod.mk.injEq] at hk
   obtain ⟨rfl,rfl⟩:=hk
   subst hD
   refine ⟨LeV.tup (LeL.cons (LeV.sl ?_ ?_ fun i hi=>absurd hi (by show ¬ ((i : Int) < 0); omega)) (LeL.refl _)),LeH.refl _,Nat.le_refl _⟩
   ·show true = nb
    rw [hnb]; simp [h1]
   ·show 0 = n2; rw [R2.n]; rfl
  ·cbv
   exact absurd h (by simp [BT.den,B8,h1])
 ·have hc0 : A7 l = 0:=by rw [←hce]; simpa using h1
  rw [if_neg h1] at hkk hk
  by_cases h2 : (F8 l).2 = true
  ·rw [if_pos h2] at hkk hk
   simp only [Prod.mk.injEq] at hk
   obtain ⟨rfl,rfl⟩:=hk
   obtain ⟨F,hF⟩ : ∃ F,F = (F8 l).1:=⟨_,rfl⟩
   rw [←hF] at hkk R2
   rw [hkk]
   cbv
   refine br hD (fun h=>?_) (fun h=>?_)
   ·cbv
    exact absurd h (by simp [BT.den,B8])
   cbv
   refine ⟨l,nl,n,f,?_,rfl,R,by have:=Di hc0; omega,hnl,fun g1 n1 R1=>?_⟩
   ·subst hD; rfl
   cbv
   refine ⟨l,F,nl,n1,g1,?_,?_,R1,fun g3 n3 R3=>?_⟩
   ·subst hD; rfl
   ·subst hD; rfl
   cbv
   subst hD
   refine ⟨LeV.tup (LeL.cons (LeV.sl ?_ ?_ fun i hi=>?_) (LeL.refl _)),LeH.refl _,Nat.le_refl _⟩
   ·show nl = nb
    rw [hnb]; simp
   ·show n3 = n2; rw [R2.n,R3.n]
   ·have hi : (i : Int) < n3:=hi
    have:=R3.n
    rw [R3.f i (by omega),R2.f i (by omega)]
  ·rw [if_neg h2] at hkk hk
   simp only [Prod.mk.injEq] at hk
   obtain ⟨rfl,rfl⟩:=hk
   rw [hkk]
   cbv
   refine br hD (fun h=>?_) (fun h=>?_)
   ·cbv
    subst hD
    refine ⟨LeV.tup (LeL.cons (LeV.sl ?_ ?_ fun i hi=>absurd hi (by show ¬ ((i : Int) < 0); omega)) (LeL.refl _)),LeH.refl _,Nat.le_refl _⟩
    ·show true = nb
     rw [hnb]; simp
    ·show 0 = n2; rw [R2.n]; rfl
   ·cbv
    exact absurd h (by simp [BT.den,B8])
end Go.Proofs.YtefelnhpfdcleaaGreatDoor
