/- Part of the proofs of the statements about requests (layer 7): a symbolic executor over the code, that it is sound, and contracts of functions; it has no conditions of its own. -/
import Derived.Test.YtefelnhpfdcleaaGreatDoorSzPaz
import Derived.Test.YtefelnhpfdcleaaGreatDoorSzPbd
import Derived.Test.YtefelnhpfdcleaaGreatDoorSzPbg
import Derived.Test.YtefelnhpfdcleaaGreatDoorTzPaf
import Derived.Test.YtefelnhpfdcleaaGreatDoorVzPaa
import Derived.Test.YtefelnhpfdcleaaGreatDoorSzPbh
namespace Go.Proofs.YtefelnhpfdcleaaGreatDoor
open Go Go.Sx Go.ChangeShapes Go.WideShapes Go.RowKit
set_option maxRecDepth 100000
theorem ro2 {I : Nat→Nat→Prop} {W : World} {s t : SV} {v u : Value} (h : RO I W s v) (k : RO I W t u) : ∀ (i : Nat) (s' : SV) (v' : Value),[s,t][i]? = some s'→[v,u][i]? = some v'→RO I W s' v'
 | 0,_,_,a,b=>by simp at a b; subst a b; exact h
 | 1,_,_,a,b=>by simp at a b; subst a b; exact k
 | _ + 2,_,_,a,_=>by simp at a
end Go.Proofs.YtefelnhpfdcleaaGreatDoor
namespace Go.Proofs.YtefelnhpfdcleaaGreatDoor
open Go Go.Sx Go.ChangeShapes Go.WideShapes Go.RowKit
set_option maxRecDepth 100000
abbrev StD:={s : List UInt8 // s.length≤maxLen}
abbrev HfD:=StD×StD×Unit
def Aq (x : HfD) : HF:=⟨x.1.1,x.2.1.1⟩
end Go.Proofs.YtefelnhpfdcleaaGreatDoor
namespace Go.Proofs.YtefelnhpfdcleaaGreatDoor
open Go Go.Sx Go.ChangeShapes Go.WideShapes Go.RowKit
set_option maxRecDepth 100000
abbrev U8:={n : Int // (Lit.int .u8 n).wf = true}
def u8C (n : U8) : List SV:=[.int .u8 (.a n.1)]
theorem Acx : B9 Tryz.prog 5 u8C:=.intB Tryz.underlying5
abbrev BsD:={x : Bool×List U8 // x.2.length≤maxLen∧(x.1 = true→x.2 = [])}
theorem Rh : B9 Tryz.prog 36 (fun x : BsD=>slC 1 u8C x.1):=.sliceN Tryz.underlying36 (by kernel_rfl) (by decide) Acx
def Aij (x : BsD) : SV:=.sl (.a x.1.1) (.a (x.1.2.length : Int)) 1 (Ci u8C x.1.2)
def Ff (x : BsD) : List UInt8:=x.1.2.map fun n=>UInt8.ofNat n.1.toNat
theorem Ur (n : U8) : 0≤n.1∧n.1≤255:=by
 have:=n.2
 simpa [Lit.wf,IntKind.min,IntKind.max,IntKind.signed,IntKind.bits] using this
theorem Nj (x : BsD) : Bn (Ci u8C x.1.2) (x.1.2.length : Int) (Ff x):=by
 refine ⟨by unfold Ff; rw [List.length_map],fun i hi=>?_⟩
 unfold Ff at hi ⊢
 rw [List.length_map] at hi
 unfold Ci
 rw [List.getElem?_eq_getElem hi,List.getD_eq_getElem?_getD,List.getElem?_map,List.getElem?_eq_getElem hi]
 have hf:=Ur x.1.2[i]
 have h8:=Aah ⟨x.1.2[i].1.toNat,by omega⟩
 simp only [Option.map_some,Option.getD_some,u8C]
 simp only at h8
 rw [h8]
 congr 3
 omega
end Go.Proofs.YtefelnhpfdcleaaGreatDoor
namespace Go.Proofs.YtefelnhpfdcleaaGreatDoor
open Go Go.Sx
set_option maxRecDepth 100000
set_option maxHeartbeats 16000000
end Go.Proofs.YtefelnhpfdcleaaGreatDoor
namespace Go.Proofs.YtefelnhpfdcleaaGreatDoor
open Go Go.Sx
set_option maxRecDepth 100000
set_option maxHeartbeats 8000000
def spFeedR : FSpec:=fun _ xs ls K=>∃ (a b : List UInt8) (nl nl2 : Bool) (n n2 : Int) (f f2 : Nat→List SV),xs = [.sl (.a nl) (.a n) 1 f,.sl (.a nl2) (.a n2) 1 f2]∧ls = []∧Bn f n a∧Bn f2 n2 b∧a.length + b.length≤1000000∧
 ∀ l left e f1 n1 b1 f3 n3 b3,(l,left,e) = Ahu (a ++ b)→b3 = (e != 0)→GrQ f1 n1 b1 l→Bn f3 n3 left→K (.tup [.sl (.a b1) (.a n1) 6 f1,.sl (.a b3) (.a n3) 1 f3,.int .i64 (.a e)]) []
structure FdR (all : List UInt8) (k : List Rq×List UInt8×Int) (b : List UInt8) (l : List Rq) (m : Nat) (f1 : Nat→List SV) (n1 : Int) (b1 : Bool) (f : Nat→List SV) (n : Int) : Prop where
 lt : b.length < m
 k : k = Hi m b l
 G : GrQ f1 n1 b1 l
 R : Bn f n b
 T : Yn f b
 len : l.length + b.length≤all.length
def fdR (all : List UInt8) (z : Int) (k : List Rq×List UInt8×Int) (m : Nat) (vs : List (Option SV)) (hp : List Hl) : Prop :=
 ∃ (b : List UInt8) (l : List Rq) (f1 : Nat→List SV) (n1 : Int) (b1 : Bool) (f : Nat→List SV) (n : Int),vs = [some (.sl (.a false) (.a n) 1 f),some (.gsl (.a b1) (.a n1) 6 f1 1)]∧hp = [.tail 5 (.a z) 1,.tail 31 (.a n1) 6]∧FdR all k b l m f1 n1 b1 f n
theorem Afc : Ar Tryz.prog gl 33 spFeedR:=by
 refine A4 (gh:=[(1,[.tot 7]),(2,[.attach 8 31])]) mixed A0 (Aa Vs Ae) Tryz.func33 (by kernel_rfl) (by kernel_rfl) ?_
 intro xs ls K h
 unfold spFeedR at h
 obtain ⟨a,b,nl,nl2,n,n2,f,f2,rfl,rfl,R,R2,hb,h⟩:=h
 obtain ⟨all,hall⟩ : ∃ all,all = a ++ b:=⟨_,rfl⟩
 obtain ⟨k,hk⟩ : ∃ k,k = Ahu (a ++ b):=⟨_,rfl⟩
 have hal : all.length≤1000000:=by rw [hall,List.length_append]; omega
 have hfit:=Sf (all.length + 1) all [] hal (fun r hr=>by cases hr)
 have hk0 : k = Hi (all.length + 1) all []:=by rw [hk,hall]; rfl
 rw [←hk0] at hfit
 obtain ⟨kl,kb,ke⟩:=k
 simp only [List.length_nil,Nat.zero_add] at hfit
 obtain ⟨hf1,hf2,hf3⟩:=hfit
 have hG : GrQ (qRow kl) kl.length kl.isEmpty kl:=⟨Ks.canon hf1 (by omega),rfl⟩
 obtain ⟨f1,n1,b1,hG⟩ : ∃ f1 n1 b1,GrQ f1 n1 b1 kl:=⟨_,_,_,hG⟩
 obtain ⟨z3,VZ⟩ : ∃ z : Int,VI z kb.length:=⟨_,⟨rfl⟩⟩
 refine ⟨_,_,h kl kb ke f1 n1 b1 (byteRow kb) z3 (ke != 0) hk rfl hG ⟨VZ.h,fun i _=>rfl⟩,fun D hD=>?_⟩
 cbv
 clear h hk hf1 hf2 hf3
 have HL : LeN all.length 1000000:=⟨hal⟩
 have VA : VI n a.length:=⟨R.n⟩
 have VB : VI n2 b.length:=⟨R2.n⟩
 have HE : EqNN all.length (a.length + b.length):=⟨by rw [hall,List.length_append]⟩
 clear hal hb
 intro g0 hg0
 cbv
 clear hg0
 refine ⟨by subst hD; exact ⟨rfl,by show ((0 : Int) + n) * 1≤_; rw [VA.h]; have:=HL.h; have:=HE.h; omega,by show (0 : Int) + n≤_; rw [VA.h]; have:=HL.h; have:=HE.h; omega⟩,fun f3 n3 hm=>?_⟩
 cbv
 have R3 : Bn f3 n3 a:=by
  have R0 : Bn g0 0 []:=⟨rfl,fun i hi=>absurd hi (by simp)⟩
  have:=R0.more R.n R.f (by subst hD; exact hm)
  simpa using this
 clear hm
 have V3 : VI n3 a.length:=⟨R3.n⟩
 refine ⟨by subst hD; exact ⟨rfl,by show (n3 + n2) * 1≤_; rw [V3.h,VB.h]; have:=HL.h; have:=HE.h; omega,by show n3 + n2≤_; rw [V3.h,VB.h]; have:=HL.h; have:=HE.h; omega⟩,fun f4 n4 hm=>?_⟩
 cbv
 have R4 : Bn f4 n4 all:=by rw [hall]; exact R3.more R2.n R2.f (by subst hD; exact hm)
 clear hm R3 R R2
 refine ⟨byteRow all,⟨fun i hi=>?_⟩,?_⟩
 ·have hi : (i : Int) < n4:=by subst hD; exact hi
  exact (R4.f i (by have:=R4.n; omega)).symm
 cbv
 have R5 : Bn (byteRow all) n4 all:=⟨R4.n,fun i _=>rfl⟩
 clear R4
 obtain ⟨J,hJ⟩ : ∃ J,J = fdR all n4 (kl,kb,ke):=⟨_,rfl⟩
 refine ⟨[7,8],J,⟨rfl,all.length + 1,?_⟩,?_⟩
 ·rw [hJ]
  subst hD
  exact ⟨all,[],_,_,_,_,n4,rfl,rfl,⟨by omega,hk0,GrQ.nil,R5,fun _=>rfl,by simp⟩⟩
 intro m vs hp hv
 rw [hJ] at hv
 unfold fdR at hv
 obtain ⟨bb,l,e1,m1,c1,g,N,rfl,rfl,V⟩:=hv
 have hk:=V.k
 obtain ⟨m0,rfl⟩ : ∃ m0,m = m0 + 1:=⟨m - 1,by have:=V.lt; omega⟩
 rw [Hi] at hk
 have hpos:=Ow (b:=bb)
 obtain ⟨q,hq⟩ : ∃ q,q = Bp bb:=⟨_,rfl⟩
 rw [←hq] at hk hpos
 obtain ⟨r,c,e⟩:=q
 simp only at hk hpos
 have HPs : ParV e c bb.length:=⟨hpos⟩
 clear hpos
 have hbl : bb.length≤1000000:=by have:=V.len; have:=HL.h; omega
 cbv
 refine ⟨bb,_,_,_,rfl,rfl,by subst hD; exact V.R,by subst hD; exact V.T,hbl,fun r' g2 n5 b5 c' e' hm hG2=>?_⟩
 cbv
 rw [←hq] at hm
 simp only [Prod.mk.injEq] at hm
 obtain ⟨rfl,rfl,rfl⟩:=hm
 clear hq
 refine br hD (fun h=>?_) (fun h=>?_)<;>cbv
 ·have h : (e' == 10) = true:=h
  have h10 : e' = 10:=eq_of_beq h
  rw [if_neg (by omega),if_pos h10] at hk
  simp only [Prod.mk.injEq] at hk
  obtain ⟨rfl,rfl,rfl⟩:=hk
  subst hD
  have R:=V.R
  have hn:=R.n
  refine D6 (.tup (.cons (Aa6 V.G.row hG.row ?_ rfl rfl) (.cons (LeV.sl ?_ (hn.trans VZ.h.symm) fun i hi=>?_) (.cons (E7 rfl) .nil))))
  ·show c1 = b1
   rw [V.G.nl,hG.nl]
  ·rfl
  ·have hi : (i : Int) < N:=hi
   rw [R.f i (by omega)]; rfl
 have h : (e' == 10) = false:=h
 have h10 : ¬ e' = 10:=by simpa using h
 clear h
 refine br hD (fun h=>?_) (fun h=>?_)<;>cbv
 ·have h : (e' != 0) = true:=h
  have hne : ¬ e' = 0:=by simpa using h
  rw [if_neg hne,if_neg h10] at hk
  simp only [Prod.mk.injEq] at hk
  obtain ⟨rfl,rfl,rfl⟩:=hk
  subst hD
  refine D6 (.tup (.cons (Aa6 V.G.row hG.row ?_ rfl rfl) (.cons (LeV.sl ?_ VZ.h.symm fun i hi=>?_) (.cons (E7 rfl) .nil))))
  ·show c1 = b1
   rw [V.G.nl,hG.nl]
  ·show true = (ke != 0)
   exact h.symm
  ·have hi : (i : Int) < 0:=hi
   omega
 have h : (e' != 0) = false:=h
 have h : e' = 0:=by simpa using h
 rw [if_pos h] at hk
 have hp:=HPs.h h
 clear HPs h h10
 have VC : VI c' c'.toNat:=⟨by omega⟩
 have HP : LeN c'.toNat bb.length∧LeN 1 c'.toNat:=⟨⟨by omega⟩,⟨by omega⟩⟩
 clear hp
 intro g3 hg3
 cbv
 have hg0 : Akf (g3 0) r':=⟨b5,n5,g2,by rw [hg3.h 0 _ rfl]; subst hD; rfl,hG2⟩
 clear hg3
 have VN : VI m1 l.length:=⟨V.G.row.n⟩
 have hll : l.length≤1000000:=by have:=V.len; have:=HL.h; omega
 refine ⟨by subst hD; exact ⟨rfl,by show (m1 + 1) * 96≤_; rw [VN.h]; omega,by show m1 + 1≤_; rw [VN.h]; omega⟩,fun f' n' hm=>?_⟩
 cbv
 have G2 : ∀ nl',nl' = false→GrQ f' n' nl' (l ++ [r']):=fun nl' hb=>V.G.more hg0 (by subst hD; exact hm) hll hb
 clear hm
 refine ⟨by subst hD; exact ⟨by show (0 : Int)≤c'; rw [VC.h]; omega,by show c'≤N; rw [VC.h,V.R.n]; have:=HP.1.h; omega,Int.le_refl _⟩,fun f7 n7 hsub=>?_⟩
 cbv
 have R7 : Bn f7 n7 (bb.drop c'.toNat):=by
  have:=V.R.sub (a:=c'.toNat) (b:=bb.length) hsub (by subst hD; exact VC.h) (by subst hD; exact V.R.n) HP.1.h (Nat.le_refl _)
  have e : (bb.drop c'.toNat).take (bb.length - c'.toNat) = bb.drop c'.toNat:=List.take_of_length_le (by rw [List.length_drop]; exact Nat.le_refl _)
  rwa [e] at this
 have T7 : Yn f7 (bb.drop c'.toNat):=V.T.sub hsub (by subst hD; exact VC.h)
 clear hsub
 refine ⟨m0,Nat.lt_succ_self _,?_⟩
 rw [hJ]
 unfold fdR
 subst hD
 exact ⟨bb.drop c'.toNat,l ++ [r'],f',n',(c1 && false),f7,n7,rfl,rfl,⟨by have:=V.lt; have:=HP.1.h; have:=HP.2.h; rw [List.length_drop]; omega,hk,G2 _ (Bool.and_false _),R7,T7,by have:=V.len; have:=HP.1.h; have:=HP.2.h; rw [List.length_append,List.length_drop]; simp only [List.length_cons,List.length_nil]; omega⟩⟩
end Go.Proofs.YtefelnhpfdcleaaGreatDoor
namespace Go.Proofs.YtefelnhpfdcleaaGreatDoor
open Go Go.Sx
set_option maxRecDepth 100000
set_option maxHeartbeats 16000000
def spFeeds : FSpec:=fun _ xs ls K=>∃ (a b : List UInt8) (nl nl2 : Bool) (n n2 : Int) (f f2 : Nat→List SV),xs = [.sl (.a nl) (.a n) 1 f,.sl (.a nl2) (.a n2) 1 f2]∧ls = []∧Bn f n a∧Bn f2 n2 b∧K (.bool (.a true)) []
theorem Amh : Ar Tryz.prog gl 10 spFeeds:=by
 refine A4 (gh:=[]) mixed A0 (Aa Pp (Aa Aht (Aa Afc (Aa Yv Ae)))) Tryz.func10 (by kernel_rfl) (by kernel_rfl) ?_
 intro xs ls K h
 unfold spFeeds at h
 obtain ⟨a,b,nl,nl2,n,n2,f,f2,rfl,rfl,R,R2,h⟩:=h
 refine ⟨_,_,h,fun D hD=>?_⟩
 clear h
 cbv
 refine br hD (fun h=>?_) (fun h=>?_)<;>cbv
 ·exact Aj hD rfl
 have h : (decide (6000 < n) || decide (6000 < n2)) = false:=h
 have hb : a.length + b.length≤1000000:=by
  rw [Bool.or_eq_false_iff] at h
  have:=of_decide_eq_false h.1; have:=of_decide_eq_false h.2; have:=R.n; have:=R2.n; omega
 clear h
 refine ⟨a,b,nl,nl2,n,n2,f,f2,by subst hD; rfl,rfl,R,R2,hb,fun l left e g m1 b1 g3 m3 b3 h1 _ G1 R3=>?_⟩
 cbv
 refine ⟨a,b,nl,nl2,n,n2,f,f2,by subst hD; rfl,rfl,R,R2,hb,fun l2 left2 e2 g4 m4 b4 g5 m5 b5 h2 _ G2 R4=>?_⟩
 cbv
 rw [←h1] at h2
 simp only [Prod.mk.injEq] at h2
 obtain ⟨rfl,rfl,rfl⟩:=h2
 refine ⟨l2,l2,_,_,_,_,_,_,by subst hD; rfl,rfl,G1.row,G2.row,fun q hq=>?_⟩
 cbv
 rw [decide_eq_true rfl] at hq
 subst hq
 refine ⟨fun _=>by subst hD; exact R3.byte,fun s1 _ hs1=>?_⟩
 cbv
 refine ⟨fun _=>by subst hD; exact R4.byte,fun s2 _ hs2=>?_⟩
 cbv
 have e1 : s1 = left2:=R3.str (by subst hD; exact hs1 rfl)
 have e2 : s2 = left2:=R4.str (by subst hD; exact hs2 rfl)
 subst e1 e2
 refine Aj hD ?_
 show (((true && (s2 == s2)) && (e2 == e2)) && true) = true
 simp
end Go.Proofs.YtefelnhpfdcleaaGreatDoor
