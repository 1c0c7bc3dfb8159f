/- Part of the proofs of the statements about requests (layer 7): a symbolic executor over the code, that it is sound, and contracts of functions; it has no conditions of its own. -/
import Derived.Test.YtefelnhpfdcleaaGreatDoorSzPbg
namespace Go.Proofs.YtefelnhpfdcleaaGreatDoor
open Go Go.Sx
set_option maxRecDepth 100000
set_option maxHeartbeats 8000000
def Ahi (all : List UInt8) (e : Int) : Bool:=all.isEmpty || (e != 0)
def spFeed : FSpec:=fun _ xs ls K=>∃ (a b : List UInt8) (nl nl2 : Bool) (n n2 : Int) (f f2 : Nat→List SV),xs = [.sl (.a nl) (.a n) 1 f,.sl (.a nl2) (.a n2) 1 f2]∧ls = []∧Bn f n a∧Bn f2 n2 b∧a.length + b.length≤1000000∧
 ∀ l left e f1 n1 b1 f3 n3 b3,(l,left,e) = Ahu (a ++ b)→b3 = Ahi (a ++ b) e→GrQ f1 n1 b1 l→Bn f3 n3 left→K (.tup [.sl (.a b1) (.a n1) 6 f1,.sl (.a b3) (.a n3) 1 f3,.int .i64 (.a e)]) []
theorem newRowU {f f' : Nat→List SV} {n n' : Int} {t : List UInt8} (hn : n = t.length) (hf : ∀ i,i < t.length→f i = [.int .u8 (.a ((t.getD i 0).toNat : Int))]) (h : Anf f' n' n f) : Bn f' n' t :=
 ⟨by rw [h.len,hn],fun i hi=>by rw [h.row i (by omega)]; exact hf i hi⟩
structure ParV (e c : Int) (n : Nat) : Prop where
 h : e = 0→1≤c∧c≤(n : Int)
structure FdJ (all : List UInt8) (k : List Rq×List UInt8×Int) (b : List UInt8) (l : List Rq) (m : Nat) (f1 : Nat→List SV) (n1 : Int) (b1 : Bool) (f : Nat→List SV) (n : Int) : Prop where
 lt : b.length < m
 k : k = Hi m b l
 G : GrQ f1 n1 b1 l
 R : Bn f n b
 len : l.length + b.length≤all.length
def fdJ (all : List UInt8) (z : Int) (k : List Rq×List UInt8×Int) (m : Nat) (vs : List (Option SV)) (hp : List Hl) : Prop :=
 ∃ (b : List UInt8) (l : List Rq) (f1 : Nat→List SV) (n1 : Int) (b1 : Bool) (f : Nat→List SV) (n : Int),vs = [some (.gsl (.a b1) (.a n1) 6 f1 0),some (.sl (.a all.isEmpty) (.a n) 1 f)]∧hp = [.tail 31 (.a n1) 6,.tail 5 (.a z) 1]∧FdJ all k b l m f1 n1 b1 f n
theorem Aht : Ar Tryz.prog gl 32 spFeed:=by
 refine A4 (gh:=[(0,[.attach 4 31]),(1,[.tot 5])]) mixed A0 (Aa P0 Ae) Tryz.func32 (by kernel_rfl) (by kernel_rfl) ?_
 intro xs ls K h
 unfold spFeed at h
 obtain ⟨a,b,nl,nl2,n,n2,f,f2,rfl,rfl,R,R2,hb,h⟩:=h
 obtain ⟨all,hall⟩ : ∃ all,all = a ++ b:=⟨_,rfl⟩
 obtain ⟨k,hk⟩ : ∃ k,k = Ahu (a ++ b):=⟨_,rfl⟩
 have hal : all.length≤1000000:=by rw [hall,List.length_append]; omega
 have hfit:=Sf (all.length + 1) all [] hal (fun r hr=>by cases hr)
 have hk0 : k = Hi (all.length + 1) all []:=by rw [hk,hall]; rfl
 rw [←hk0] at hfit
 obtain ⟨kl,kb,ke⟩:=k
 simp only [List.length_nil,Nat.zero_add] at hfit
 obtain ⟨hf1,hf2,hf3⟩:=hfit
 have hG : GrQ (qRow kl) kl.length kl.isEmpty kl:=⟨Ks.canon hf1 (by omega),rfl⟩
 obtain ⟨f1,n1,b1,hG⟩ : ∃ f1 n1 b1,GrQ f1 n1 b1 kl:=⟨_,_,_,hG⟩
 obtain ⟨z3,VZ⟩ : ∃ z : Int,VI z kb.length:=⟨_,⟨rfl⟩⟩
 refine ⟨_,_,h kl kb ke f1 n1 b1 (byteRow kb) z3 (Ahi all ke) hk (by rw [hall]) hG ⟨VZ.h,fun i _=>rfl⟩,fun D hD=>?_⟩
 cbv
 clear h hk hf1 hf2 hf3
 have HL : LeN all.length 1000000:=⟨hal⟩
 have VA : VI n a.length:=⟨R.n⟩
 have VB : VI n2 b.length:=⟨R2.n⟩
 have HE : EqNN all.length (a.length + b.length):=⟨by rw [hall,List.length_append]⟩
 clear hal hb
 refine ⟨by subst hD; exact ⟨by show n * 1≤_; rw [VA.h]; have:=HL.h; have:=HE.h; omega,by show n≤_; rw [VA.h]; have:=HL.h; have:=HE.h; omega⟩,fun f3 n3 hm=>?_⟩
 cbv
 have R3 : Bn f3 n3 a:=newRowU R.n R.f (by subst hD; exact hm)
 clear hm
 have V3 : VI n3 a.length:=⟨R3.n⟩
 refine ⟨by subst hD; exact ⟨rfl,by show (n3 + n2) * 1≤_; rw [V3.h,VB.h]; have:=HL.h; have:=HE.h; omega,by show n3 + n2≤_; rw [V3.h,VB.h]; have:=HL.h; have:=HE.h; omega⟩,fun f4 n4 hm=>?_⟩
 cbv
 have R4 : Bn f4 n4 all:=by rw [hall]; exact R3.more R2.n R2.f (by subst hD; exact hm)
 clear hm R3 R R2
 refine ⟨byteRow all,⟨fun i hi=>?_⟩,?_⟩
 ·have hi : (i : Int) < n4:=by subst hD; exact hi
  exact (R4.f i (by have:=R4.n; omega)).symm
 cbv
 have R5 : Bn (byteRow all) n4 all:=⟨R4.n,fun i _=>rfl⟩
 clear R4
 obtain ⟨J,hJ⟩ : ∃ J,J = fdJ all n4 (kl,kb,ke):=⟨_,rfl⟩
 refine ⟨[4,5],J,⟨rfl,all.length + 1,?_⟩,?_⟩
 ·rw [hJ]
  subst hD
  have hbe : ((n == 0) && (n2 == 0)) = all.isEmpty:=by
   rw [Bool.eq_iff_iff,Bool.and_eq_true,beq_iff_eq,beq_iff_eq,VA.h,VB.h,List.isEmpty_iff,←List.length_eq_zero_iff,HE.h]; omega
  refine ⟨all,[],_,_,_,_,n4,?_,rfl,⟨by omega,hk0,GrQ.nil,R5,by simp⟩⟩
  rw [←hbe]; rfl
 intro m vs hp hv
 rw [hJ] at hv
 unfold fdJ at hv
 obtain ⟨bb,l,e1,m1,c1,g,N,rfl,rfl,V⟩:=hv
 have hk:=V.k
 obtain ⟨m0,rfl⟩ : ∃ m0,m = m0 + 1:=⟨m - 1,by have:=V.lt; omega⟩
 rw [Hi] at hk
 have hpos:=Ow (b:=bb)
 obtain ⟨q,hq⟩ : ∃ q,q = Bp bb:=⟨_,rfl⟩
 rw [←hq] at hk hpos
 obtain ⟨r,c,e⟩:=q
 simp only at hk hpos
 have HPs : ParV e c bb.length:=⟨hpos⟩
 clear hpos
 have hbl : bb.length≤1000000:=by have:=V.len; have:=HL.h; omega
 cbv
 refine ⟨bb,_,_,_,rfl,rfl,by subst hD; exact V.R,hbl,fun r' g2 n5 b5 c' e' hm hG2=>?_⟩
 cbv
 rw [←hq] at hm
 simp only [Prod.mk.injEq] at hm
 obtain ⟨rfl,rfl,rfl⟩:=hm
 clear hq
 refine br hD (fun h=>?_) (fun h=>?_)<;>cbv
 ·have h : (e' == 0) = true:=h
  have h:=eq_of_beq h
  rw [if_pos h] at hk
  have hp:=HPs.h h
  clear HPs h
  have VC : VI c' c'.toNat:=⟨by omega⟩
  have HP : LeN c'.toNat bb.length∧LeN 1 c'.toNat:=⟨⟨by omega⟩,⟨by omega⟩⟩
  clear hp
  intro g3 hg3
  cbv
  have hg0 : Akf (g3 0) r':=⟨b5,n5,g2,by rw [hg3.h 0 _ rfl]; subst hD; rfl,hG2⟩
  clear hg3
  have VN : VI m1 l.length:=⟨V.G.row.n⟩
  have hll : l.length≤1000000:=by have:=V.len; have:=HL.h; omega
  refine ⟨by subst hD; exact ⟨rfl,by show (m1 + 1) * 96≤_; rw [VN.h]; omega,by show m1 + 1≤_; rw [VN.h]; omega⟩,fun f' n' hm=>?_⟩
  cbv
  have G2 : ∀ nl',nl' = false→GrQ f' n' nl' (l ++ [r']):=fun nl' hb=>V.G.more hg0 (by subst hD; exact hm) hll hb
  clear hm
  refine ⟨by subst hD; exact ⟨by show (0 : Int)≤c'; rw [VC.h]; omega,by show c'≤N; rw [VC.h,V.R.n]; have:=HP.1.h; omega,Int.le_refl _⟩,fun f7 n7 hsub=>?_⟩
  cbv
  have R7 : Bn f7 n7 (bb.drop c'.toNat):=by
   have:=V.R.sub (a:=c'.toNat) (b:=bb.length) hsub (by subst hD; exact VC.h) (by subst hD; exact V.R.n) HP.1.h (Nat.le_refl _)
   have e : (bb.drop c'.toNat).take (bb.length - c'.toNat) = bb.drop c'.toNat:=List.take_of_length_le (by rw [List.length_drop]; exact Nat.le_refl _)
   rwa [e] at this
  clear hsub
  refine ⟨m0,Nat.lt_succ_self _,?_⟩
  rw [hJ]
  unfold fdJ
  subst hD
  exact ⟨bb.drop c'.toNat,l ++ [r'],f',n',(c1 && false),f7,n7,rfl,rfl,⟨by have:=V.lt; have:=HP.1.h; have:=HP.2.h; rw [List.length_drop]; omega,hk,G2 _ (Bool.and_false _),R7,by have:=V.len; have:=HP.1.h; have:=HP.2.h; rw [List.length_append,List.length_drop]; simp only [List.length_cons,List.length_nil]; omega⟩⟩
 have h : (e' == 0) = false:=h
 have hne : ¬ e' = 0:=by simpa using h
 rw [if_neg hne] at hk
 clear h HPs
 refine br hD (fun h=>?_) (fun h=>?_)<;>cbv
 ·have h : (e' == 10) = true:=h
  rw [if_pos (eq_of_beq h)] at hk
  simp only [Prod.mk.injEq] at hk
  obtain ⟨rfl,rfl,rfl⟩:=hk
  subst hD
  have R:=V.R
  have hn:=R.n
  refine D6 (.tup (.cons (Aa6 V.G.row hG.row ?_ rfl rfl) (.cons (LeV.sl ?_ (hn.trans VZ.h.symm) fun i hi=>?_) (.cons (E7 rfl) .nil))))
  ·show c1 = b1
   rw [V.G.nl,hG.nl]
  ·show all.isEmpty = (all.isEmpty || false)
   rw [Bool.or_false]
  ·have hi : (i : Int) < N:=hi
   rw [R.f i (by omega)]; rfl
 have h : (e' == 10) = false:=h
 rw [if_neg (by simpa using h)] at hk
 simp only [Prod.mk.injEq] at hk
 obtain ⟨rfl,rfl,rfl⟩:=hk
 subst hD
 refine D6 (.tup (.cons (Aa6 V.G.row hG.row ?_ rfl rfl) (.cons (LeV.sl ?_ VZ.h.symm fun i hi=>?_) (.cons (E7 rfl) .nil))))
 ·show c1 = b1
  rw [V.G.nl,hG.nl]
 ·show true = (all.isEmpty || (ke != 0))
  have : (ke != 0) = true:=by simpa using hne
  rw [this,Bool.or_true]
 ·have hi : (i : Int) < 0:=hi
  omega
end Go.Proofs.YtefelnhpfdcleaaGreatDoor
namespace Go.Proofs.YtefelnhpfdcleaaGreatDoor
open Go Go.Sx
set_option maxRecDepth 100000
set_option maxHeartbeats 8000000
instance : DecidableEq (List Rq):=inferInstance
def spSameQ : FSpec:=fun _ xs ls K=>∃ (a b : List Rq) (na nb : Bool) (A B : Int) (f g : Nat→List SV),xs = [.sl (.a na) (.a A) 6 f,.sl (.a nb) (.a B) 6 g]∧ls = []∧Ks f A a∧Ks g B b∧∀ r : Bool,r = decide (a = b)→K (.bool (.a r)) []
def sqJ (k : Bool) (a b : List Rq) (na nb : Bool) (A B : Int) (f g : Nat→List SV) (m : Nat) (vs : List (Option SV)) (hp : List Hl) : Prop :=
 ∃ (i : Nat) (I : Int),vs = [some (.sl (.a na) (.a A) 6 f),some (.sl (.a nb) (.a B) 6 g),some (.int .i64 (.a I))]∧hp = []∧AtR a i I m∧k = decide (a.drop i = b.drop i)
theorem dropQ {l : List Rq} {i : Nat} (h : i < l.length) : l.drop i = l.getD i rqZ :: l.drop (i + 1):=by
 rw [List.getD_eq_getElem?_getD,List.getElem?_eq_getElem h,Option.getD_some,List.drop_eq_getElem_cons h]
theorem Yv : Ar Tryz.prog gl 34 spSameQ:=by
 refine A4 (gh:=[]) mixed A0 (Aa Ps Ae) Tryz.func34 (by kernel_rfl) (by kernel_rfl) ?_
 intro xs ls K h
 unfold spSameQ at h
 obtain ⟨a,b,na,nb,A,B,f,g,rfl,rfl,RA,RB,h⟩:=h
 obtain ⟨k,hk⟩ : ∃ k,k = decide (a = b):=⟨_,rfl⟩
 refine ⟨_,_,h k hk,fun D hD=>?_⟩
 cbv
 clear h
 refine br hD (fun h=>?_) (fun h=>?_)<;>cbv
 ·have h2 : A≠B:=by simpa using h
  refine Aj hD ?_
  rw [hk]
  have h3 : a≠b:=fun e=>h2 (by rw [RA.n,RB.n,e])
  show false = _
  symm
  exact decide_eq_false h3
 have h2 : A = B:=by simpa using h
 have hlab : EqNN a.length b.length:=⟨by have:=RA.n; have:=RB.n; omega⟩
 clear h h2
 obtain ⟨J,hJ⟩ : ∃ J,J = sqJ k a b na nb A B f g:=⟨_,rfl⟩
 refine ⟨[0,1,5],J,⟨rfl,a.length,?_⟩,?_⟩
 ·rw [hJ]
  subst hD
  exact ⟨0,0,rfl,rfl,AtR.zero RA.len,hk⟩
 clear hk
 intro m vs hp' hv
 rw [hJ] at hv
 unfold sqJ at hv
 obtain ⟨i,I,rfl,rfl,V,hk2⟩:=hv
 cbv
 refine br hD (fun h=>?_) (fun h=>?_)<;>cbv
 ·have hlt:=V.lt RA.n (of_decide_eq_true (p:=I < A) h)
  clear h
  have hltb : i < b.length:=by have:=hlab.h; omega
  have inA:=V.inB hD RA.n hlt
  have inB' : Sx.InB (D.i (.a I)) (D.i (.a B)):=by have:=V.I; have:=RB.n; subst hD; exact ⟨by show 0≤I; omega,by show I < B; omega⟩
  rw [dropQ hlt,dropQ hltb] at hk2
  obtain ⟨l1,n1,g1,e1,G1⟩:=RA.f i hlt
  obtain ⟨l2,n2,g2,e2,G2⟩:=RB.f i hltb
  obtain ⟨x,hx⟩ : ∃ x,x = a.getD i rqZ:=⟨_,rfl⟩
  obtain ⟨y,hy⟩ : ∃ y,y = b.getD i rqZ:=⟨_,rfl⟩
  rw [←hx] at e1 hk2 G1
  rw [←hy] at e2 hk2 G2
  clear hx hy
  have hst:=V.step hD hlt
  unfold X0 at e1 e2
  refine ⟨inA,fun j hj=>?_⟩
  have hj:=V.j hD hj
  cbv
  rw [hj,e1]
  cbv
  refine ⟨inB',fun j2 hj2=>?_⟩
  have hj2:=V.j hD hj2
  cbv
  rw [hj2,e2]
  cbv
  clear hj hj2 e1 e2
  refine ⟨x,y,_,_,_,_,_,_,by subst hD; rfl,rfl,G1.row,G2.row,fun r hr=>?_⟩
  cbv
  refine br hD (fun h=>?_) (fun h=>?_)<;>cbv
  ·have h : (!r) = true:=h
   refine Aj hD ?_
   show false = k
   rw [hk2]
   symm
   apply decide_eq_false
   intro e
   injection e with e1 e2
   rw [e1,decide_eq_true rfl] at hr
   rw [hr] at h; cases h
  ·have h : (!r) = false:=h
   have hxy : x = y:=by
    have : r = true:=by simpa using h
    rw [this] at hr
    exact of_decide_eq_true hr.symm
   refine ⟨_,hst.1,?_⟩
   rw [hJ]
   unfold sqJ
   subst hD
   refine ⟨i + 1,_,rfl,rfl,hst.2,?_⟩
   rw [hk2,hxy]
   simp
 ·have he:=V.eq RA.n (of_decide_eq_false (p:=I < A) h)
  refine Aj hD ?_
  show true = k
  rw [hk2,List.drop_eq_nil_of_le (by omega),List.drop_eq_nil_of_le (by have:=hlab.h; omega)]
  rfl
end Go.Proofs.YtefelnhpfdcleaaGreatDoor
