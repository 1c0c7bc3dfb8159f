/- Part of the proofs of the statements about requests (layer 7): a symbolic executor over the code, that it is sound, and contracts of functions; it has no conditions of its own. -/
import Derived.Test.YtefelnhpfdcleaaGreatDoorTzPab
import Derived.Test.YtefelnhpfdcleaaGreatDoorTzPaa
import Derived.Test.YtefelnhpfdcleaaGreatDoorSzPbd
namespace Go.Proofs.YtefelnhpfdcleaaGreatDoor
open Go Go.Sx
set_option maxRecDepth 100000
set_option maxHeartbeats 16000000
theorem Ahb (t : List UInt8) : I4 t = inF ownL t:=by
 have e : ∀ (a b : List UInt8),(a == b) = (b == a):=fun a b=>by rw [Bool.eq_iff_iff,beq_iff_eq,beq_iff_eq]; exact eq_comm
 unfold I4
 rw [e t,e t,e t,e t]
 show _ = (_ || (_ || (_ || (_ || false))))
 rw [Bool.or_false]
theorem Aee (x : HF) (l : List HF) : Ed (x :: l) = (I4 (Ao x.name) || Ed l):=rfl
def spFieldsR : FSpec:=fun _ xs ls K=>∃ (r : Rq) (nl : Bool) (n : Int) (f : Nat→List SV),xs = [.agg [.int .i64 (.a r.id),.str r.method,.str r.target,.str r.host,.sl (.a nl) (.a n) 2 f,.str r.body]]∧ls = []∧Gd r nl n f∧0≤r.id∧∀ e,e = (A1 r).2→K (.int .i64 (.a e)) []
def fiJ (r : Rq) (k : Bool) (nl : Bool) (n : Int) (f : Nat→List SV) (m : Nat) (vs : List (Option SV)) (hp : List Hl) : Prop :=
 ∃ (i : Nat) (I : Int),vs = [some (.ptr 0 0),some (.int .i64 (.a I))]∧hp = [.blk 31 [.int .i64 (.a r.id),.str r.method,.str r.target,.str r.host,.sl (.a nl) (.a n) 2 f,.str r.body]]∧OwJ r.fields k i I m
theorem Aat : Ar Tryz.prog gl 69 spFieldsR:=by
 refine A4 (gh:=[]) mixed A0 (Aa Jc (Aa Alf (Aa D1 (Aa Abc (Aa X1 Ae))))) Tryz.func69 (by kernel_rfl) (by kernel_rfl) ?_
 intro xs ls K h
 unfold spFieldsR at h
 obtain ⟨r,nl,n,f,rfl,rfl,R,hid,h⟩:=h
 obtain ⟨k,hk⟩ : ∃ k,k = (A1 r).2:=⟨_,rfl⟩
 obtain ⟨wg,wn,hwR⟩:=Ku R
 refine ⟨_,_,h k hk,fun D hD=>?_⟩
 clear h
 have hwn:=Sv r
 obtain ⟨wl,hwl⟩ : ∃ w,w = Ai r:=⟨_,rfl⟩
 unfold A1 at hk
 rw [←hwl] at hk hwR hwn
 obtain ⟨wl,we⟩:=wl
 simp only at hk hwR hwn
 obtain ⟨ao,hao⟩ : ∃ a,a = Ed r.fields:=⟨_,rfl⟩
 obtain ⟨J,hJ⟩ : ∃ J,J = fiJ r ao nl n f:=⟨_,rfl⟩
 rw [←hao] at hk
 obtain ⟨id,me,ta,ho,fs,bo⟩:=r
 simp only at R hao hk hid
 cbv
 refine ⟨fs,_,_,f,by subst hD; rfl,rfl,R.row,fun e he=>?_⟩
 cbv
 rw [←he] at hk
 clear he
 refine br hD (fun h=>?_) (fun h=>?_)<;>cbv
 ·have h1 : e≠0:=by simpa using h
  rw [if_pos h1] at hk
  exact Bq hD hk.symm
 have h1 : ¬ e≠0:=by simpa using h
 rw [if_neg h1] at hk
 clear h h1
 refine ⟨[1,4],J,⟨rfl,fs.length,?_⟩,?_⟩
 ·rw [hJ]
  subst hD
  exact ⟨0,0,rfl,rfl,⟨AtR.zero R.row.len,hao⟩⟩
 clear hao
 intro m vs hp hj
 rw [hJ] at hj
 obtain ⟨i,I,rfl,rfl,V⟩:=hj
 have VR:=R.row
 simp only at VR
 cbv
 refine br hD (fun h=>?_) (fun h=>?_)<;>cbv
 ·have hlt:=V.lie.lt VR.n (of_decide_eq_true (p:=I < n) h)
  clear h
  have inA:=V.lie.inB hD VR.n hlt
  have hx:=VR.f i hlt
  have hsm:=VR.small i hlt
  have hst:=V.lie.step hD hlt
  have hko:=V.k
  simp only at hlt hx hsm hko
  rw [M7 hlt,Aee,Ahb] at hko
  obtain ⟨x,hxx⟩ : ∃ x,x = fs.getD i default:=⟨_,rfl⟩
  rw [←hxx] at hx hko hsm
  clear hxx
  obtain ⟨xn,xv⟩:=x
  simp only at hko
  intro of on ob Go
  cbv
  refine ⟨inA,fun j hj=>?_⟩
  have hj:=V.lie.j hD hj
  cbv
  rw [hj,hx]
  cbv
  refine ⟨xn,rfl,rfl,hsm.1,fun w hw=>?_⟩
  cbv
  rw [←hw] at hko
  refine ⟨ownL,w,ob,on,of,by subst hD; rfl,rfl,Go.row,fun q hq=>?_⟩
  cbv
  rw [←hq] at hko
  refine br hD (fun h=>?_) (fun h=>?_)<;>cbv
  ·have h : q = true:=h
   rw [h,Bool.true_or] at hko
   rw [if_pos hko] at hk
   exact Bq hD hk.symm
  ·have h : q = false:=h
   rw [h,Bool.false_or] at hko
   refine ⟨_,hst.1,?_⟩
   rw [hJ]
   unfold fiJ
   subst hD
   exact ⟨i + 1,_,rfl,rfl,⟨hst.2,hko⟩⟩
 have hi:=V.lie.eq VR.n (of_decide_eq_false (p:=I < n) h)
 have hko:=V.k
 simp only at hi hko
 have hdn : fs.drop i = []:=List.drop_eq_nil_of_le (by omega)
 rw [hdn] at hko
 have hko : ao = false:=hko
 rw [if_neg (by rw [hko]; simp)] at hk
 clear h hdn
 refine ⟨⟨id,me,ta,ho,fs,bo⟩,nl,n,f,by subst hD; rfl,rfl,R,hid,fun l e2 nb2 n3 g3 hc R3 hnb2=>?_⟩
 cbv
 rw [←hwl] at hc
 simp only [Prod.mk.injEq] at hc
 obtain ⟨hq1,hq2⟩:=hc
 subst hq1 hq2
 refine br hD (fun h=>?_) (fun h=>?_)<;>cbv
 ·have h1 : e2≠0:=by simpa using h
  rw [if_pos h1] at hk
  exact Bq hD hk.symm
 have h1 : ¬ e2≠0:=by simpa using h
 rw [if_neg h1] at hk
 clear h h1
 refine ⟨l,nb2,n3,g3,by subst hD; rfl,rfl,R3,fun e3 he3=>?_⟩
 cbv
 rw [←he3] at hk
 exact Bq hD hk.symm
structure IdOk (id : Int) : Prop where
 lo : 0≤id
theorem Qr {D : Dn} (hD : D = dn) {p p' : List UInt8} {e : Int} {z : ST} (hp : p' = p) (h3 : z.den = e) : Fin (.tup [.str p',.int .i64 (.a (D.i z))]) (.tup [.str p,.int .i64 (.a e)]) [] []:=by
 subst hD hp h3; exact D6 (LeV.refl _)
theorem Ais : Ar Tryz.prog gl 28 spCheckR:=by
 refine A4 (gh:=[]) mixed A0 (Aa X2 (Aa Aar (Aa Afb (Aa Aat (Aa Vl Ae))))) Tryz.func28 (by kernel_rfl) (by kernel_rfl) ?_
 intro xs ls K h
 unfold spCheckR at h
 obtain ⟨r,nl,n,f,rfl,rfl,R,h⟩:=h
 obtain ⟨k,hk⟩ : ∃ k,k = Av r:=⟨_,rfl⟩
 obtain ⟨kp,kl,ke⟩:=k
 refine ⟨_,_,h kp ke (by unfold Dc; rw [←hk]),fun D hD=>?_⟩
 clear h
 unfold Av at hk
 obtain ⟨ck,hck⟩ : ∃ w,w = A1 r:=⟨_,rfl⟩
 rw [←hck] at hk
 obtain ⟨cl,ce⟩:=ck
 obtain ⟨id,me,ta,ho,fs,bo⟩:=r
 have Rme:=R.method
 have Rta:=R.target
 have Rho:=R.host
 simp only at hk Rme Rta Rho
 cbv
 refine br hD (fun h=>?_) (fun h=>?_)<;>cbv
 ·have h1 : id < 1∨1000000000 < id:=by
   have h : (decide (id < 1) || decide (1000000000 < id)) = true:=h
   simpa using h
  rw [if_pos h1] at hk
  simp only [Prod.mk.injEq] at hk
  obtain ⟨hq1,hq2,hq3⟩:=hk
  subst hq1 hq2 hq3
  exact Qr hD rfl rfl
 have h1 : ¬ (id < 1∨1000000000 < id):=by
  have h : (decide (id < 1) || decide (1000000000 < id)) = false:=h
  simp only [Bool.or_eq_false_iff,decide_eq_false_iff_not] at h
  omega
 rw [if_neg h1] at hk
 have hid0 : IdOk id:=⟨by show 0≤id; omega⟩
 clear h h1
 refine ⟨me,rfl,rfl,Rme,fun im him=>?_⟩
 cbv
 rw [←him] at hk
 clear him
 refine br hD (fun h=>?_) (fun h=>?_)<;>cbv
 ·have h1 : (!im) = true:=h
  rw [if_pos h1] at hk
  simp only [Prod.mk.injEq] at hk
  obtain ⟨hq1,hq2,hq3⟩:=hk
  subst hq1 hq2 hq3
  exact Qr hD rfl rfl
 have h1 : (!im) = false:=h
 rw [if_neg (by rw [h1]; simp)] at hk
 clear h h1
 refine br hD (fun h=>?_) (fun h=>?_)<;>cbv
 ·have h1 : me = sConnect:=eq_of_beq (show (me == sConnect) = true from h)
  rw [if_pos h1] at hk
  simp only [Prod.mk.injEq] at hk
  obtain ⟨hq1,hq2,hq3⟩:=hk
  subst hq1 hq2 hq3
  exact Qr hD rfl rfl
 have h1 : ¬ me = sConnect:=by
  have h : (me == sConnect) = false:=h
  intro e; rw [e] at h; simp at h
 rw [if_neg h1] at hk
 clear h h1
 refine ⟨ta,rfl,rfl,Rta,fun oi oe ho2=>?_⟩
 cbv
 rw [←ho2] at hk
 simp only at hk
 clear ho2
 refine br hD (fun h=>?_) (fun h=>?_)<;>cbv
 ·have h1 : oe≠0:=by simpa using h
  rw [if_pos h1] at hk
  simp only [Prod.mk.injEq] at hk
  obtain ⟨hq1,hq2,hq3⟩:=hk
  subst hq1 hq2 hq3
  exact Qr hD rfl rfl
 have h1 : ¬ oe≠0:=by simpa using h
 rw [if_neg h1] at hk
 clear h h1
 refine ⟨ho,rfl,rfl,Rho,fun hh hhh=>?_⟩
 cbv
 rw [←hhh] at hk
 clear hhh
 refine br hD (fun h=>?_) (fun h=>?_)<;>cbv
 ·have h1 : (!hh) = true:=h
  rw [if_pos h1] at hk
  simp only [Prod.mk.injEq] at hk
  obtain ⟨hq1,hq2,hq3⟩:=hk
  subst hq1 hq2 hq3
  exact Qr hD rfl rfl
 have h1 : (!hh) = false:=h
 rw [if_neg (by rw [h1]; simp)] at hk
 clear h h1
 refine ⟨⟨id,me,ta,ho,fs,bo⟩,nl,n,f,by subst hD; rfl,rfl,R,hid0.lo,fun e hc=>?_⟩
 cbv
 rw [←hck] at hc
 have hc : e = ce:=hc
 subst hc
 refine br hD (fun h=>?_) (fun h=>?_)<;>cbv
 ·have h1 : e≠0:=by simpa using h
  rw [if_pos h1] at hk
  simp only [Prod.mk.injEq] at hk
  obtain ⟨hq1,hq2,hq3⟩:=hk
  subst hq1 hq2 hq3
  exact Qr hD rfl rfl
 have h1 : ¬ e≠0:=by simpa using h
 rw [if_neg h1] at hk
 clear h h1
 refine br hD (fun h=>?_) (fun h=>?_)<;>cbv
 ·have h1 : 65536 < bo.length:=by have h : decide ((65536 : Int) < (bo.length : Int)) = true:=h; simp only [decide_eq_true_eq] at h; omega
  rw [if_pos h1] at hk
  simp only [Prod.mk.injEq] at hk
  obtain ⟨hq1,hq2,hq3⟩:=hk
  subst hq1 hq2 hq3
  exact Qr hD rfl rfl
 have h1 : ¬ 65536 < bo.length:=by have h : decide ((65536 : Int) < (bo.length : Int)) = false:=h; simp only [decide_eq_false_iff_not] at h; omega
 rw [if_neg h1] at hk
 clear h h1
 refine ⟨me,rfl,rfl,Rme,fun b hb=>?_⟩
 cbv
 rw [←hb] at hk
 clear hb
 refine br hD (fun h=>?_) (fun h=>?_)<;>cbv
 ·have h1 : (bo != [] && b) = true:=h
  rw [if_pos h1] at hk
  simp only [Prod.mk.injEq] at hk
  obtain ⟨hq1,hq2,hq3⟩:=hk
  subst hq1 hq2 hq3
  exact Qr hD rfl rfl
 ·have h1 : ¬ (bo != [] && b) = true:=by
   have h : (bo != [] && b) = false:=h
   rw [h]; simp
  rw [if_neg h1] at hk
  simp only [Prod.mk.injEq] at hk
  obtain ⟨hq1,hq2,hq3⟩:=hk
  subst hq1 hq2 hq3
  exact Qr hD rfl rfl
end Go.Proofs.YtefelnhpfdcleaaGreatDoor
namespace Go.Proofs.YtefelnhpfdcleaaGreatDoor
open Go Go.Sx
set_option maxRecDepth 100000
set_option maxHeartbeats 8000000
def D4 (l : List HF) (t : List UInt8) : List (List UInt8):=(l.filter fun x=>Ao x.name == t).map HF.value
theorem Jo (x : HF) (l : List HF) (t : List UInt8) : D4 (x :: l) t = if Ao x.name == t then x.value :: D4 l t else D4 l t:=by
 unfold D4
 rw [List.filter_cons]
 split<;>simp
def spVals : FSpec:=fun _ xs ls K=>∃ (l : List HF) (t : List UInt8) (nl : Bool) (n : Int) (f : Nat→List SV),xs = [.sl (.a nl) (.a n) 2 f,.str t]∧ls = []∧A9 f n l∧l.length≤100∧t.length≤1000∧∀ r g n' b,r = D4 l t→GrS g n' b r→K (.sl (.a b) (.a n') 1 g) []
structure VaJ (l : List HF) (t : List UInt8) (k out : List (List UInt8)) (i : Nat) (I n : Int) (b : Bool) (f : Nat→List SV) (m : Nat) : Prop where
 lie : AtR l i I m
 row : GrS f n b out
 ol : out.length≤i
 k : k = out ++ D4 (l.drop i) t
def vaJ (l : List HF) (t : List UInt8) (k : List (List UInt8)) (nl : Bool) (N : Int) (F : Nat→List SV) (m : Nat) (vs : List (Option SV)) (hp : List Hl) : Prop :=
 ∃ (out : List (List UInt8)) (i : Nat) (I n : Int) (b : Bool) (f : Nat→List SV),vs = [some (.sl (.a nl) (.a N) 2 F),some (.str t),some (.gsl (.a b) (.a n) 1 f 0),some (.int .i64 (.a I))]∧hp = [.tail 9 (.a n) 1]∧VaJ l t k out i I n b f m
theorem Akj (l : List HF) (t : List UInt8) : (D4 l t).length≤l.length:=by
 unfold D4
 rw [List.length_map]
 exact List.length_filter_le ..
theorem Ah9 : Ar Tryz.prog gl 50 spVals:=by
 refine A4 (gh:=[(1,[.attach 5 9])]) mixed A0 (Aa D1 Ae) Tryz.func50 (by kernel_rfl) (by kernel_rfl) ?_
 intro xs ls K h
 unfold spVals at h
 obtain ⟨l,t,nl,N,F,rfl,rfl,R,hl,ht,h⟩:=h
 obtain ⟨k,hk⟩ : ∃ k,k = D4 l t:=⟨_,rfl⟩
 have hkl:=Akj l t
 rw [←hk] at hkl
 obtain ⟨f1,n1,b1,hG⟩ : ∃ f1 n1 b1,GrS f1 n1 b1 k:=⟨_,_,_,⟨A8.row (by omega),rfl⟩⟩
 clear hkl
 refine ⟨_,_,h k f1 n1 b1 hk hG,fun D hD=>?_⟩
 cbv
 clear h
 obtain ⟨J,hJ⟩ : ∃ J,J = vaJ l t k nl N F:=⟨_,rfl⟩
 refine ⟨[0,1,5,6],J,⟨rfl,l.length,?_⟩,?_⟩
 ·rw [hJ]
  subst hD
  exact ⟨[],0,_,_,_,_,rfl,rfl,⟨AtR.zero R.len,GrS.nil,Nat.le_refl _,hk⟩⟩
 clear hk
 intro m vs hp hj
 rw [hJ] at hj
 obtain ⟨out,i,I,n,b,f,rfl,rfl,V⟩:=hj
 cbv
 refine br hD (fun h=>?_) (fun h=>?_)<;>cbv
 ·have hlt:=V.lie.lt R.n (of_decide_eq_true (p:=I < N) h)
  clear h
  have inA:=V.lie.inB hD R.n hlt
  have hx:=R.f i hlt
  have hsm:=R.small i hlt
  have hst:=V.lie.step hD hlt
  have hk:=V.k
  rw [M7 hlt,Jo] at hk
  obtain ⟨x,hxx⟩ : ∃ x,x = l.getD i default:=⟨_,rfl⟩
  rw [←hxx] at hx hk hsm
  clear hxx
  obtain ⟨xn,xv⟩:=x
  refine ⟨inA,fun j hj=>?_⟩
  have hj:=V.lie.j hD hj
  cbv
  rw [hj,hx]
  cbv
  refine ⟨xn,rfl,rfl,hsm.1,fun r hr=>?_⟩
  cbv
  simp only at hk
  rw [←hr] at hk
  clear hr hj
  refine br hD (fun h=>?_) (fun h=>?_)<;>cbv
  ·have h : (r == t) = true:=h
   rw [if_pos h] at hk
   clear h
   refine ⟨inA,fun j hj=>?_⟩
   have hj:=V.lie.j hD hj
   cbv
   rw [hj,hx]
   cbv
   clear hj
   intro g hg
   cbv
   have hg0 : g 0 = [.str xv]:=hg.h 0 _ rfl
   clear hg
   refine ⟨by subst hD; exact ⟨rfl,by have:=V.row.row.n; have:=V.ol; show (n + 1) * 16≤_; omega,by have:=V.row.row.n; have:=V.ol; show n + 1≤_; omega⟩,fun f' n' hm=>?_⟩
   cbv
   have G2 : ∀ nl',nl' = false→GrS f' n' nl' (out ++ [xv]):=fun nl' hb=>⟨V.row.row.more hg0 (by subst hD; exact hm) (by have:=V.ol; omega),by rw [hb]; simp⟩
   clear hm
   refine ⟨_,hst.1,?_⟩
   rw [hJ]
   unfold vaJ
   subst hD
   refine ⟨out ++ [xv],i + 1,_,n',(b && false),f',rfl,rfl,⟨hst.2,G2 _ (Bool.and_false _),by have:=V.ol; simp; omega,by rw [hk]; simp⟩⟩
  ·have h : (r == t) = false:=h
   rw [if_neg (by rw [h]; simp)] at hk
   refine ⟨_,hst.1,?_⟩
   rw [hJ]
   unfold vaJ
   subst hD
   exact ⟨out,i + 1,_,n,b,f,rfl,rfl,⟨hst.2,V.row,by have:=V.ol; omega,hk⟩⟩
 have hi:=V.lie.eq R.n (of_decide_eq_false (p:=I < N) h)
 have hdn : l.drop i = []:=List.drop_eq_nil_of_le (by omega)
 have hk:=V.k
 rw [hdn] at hk
 have hk : k = out:=by rw [hk]; simp [D4]
 subst hk
 subst hD
 exact D6 (Mv V.row hG rfl rfl)
def reJ (s : List UInt8) (k : Bool) (m : Nat) (vs : List (Option SV)) (hp : List Hl) : Prop :=
 ∃ (i : Nat) (I : Int),vs = [some (.str s),some (.int .i64 (.a I))]∧hp = []∧At s i I m∧k = Ep 13 (s.drop i)
theorem Ae8 : Ar Tryz.prog gl 96 (C5 (Ep 13)):=by
 refine A4 (gh:=[]) mixed A0 Ae Tryz.func96 (by kernel_rfl) (by kernel_rfl) ?_
 intro xs ls K h
 unfold C5 at h
 obtain ⟨s,rfl,rfl,hs,h⟩:=h
 obtain ⟨k,hk⟩ : ∃ k,k = Ep 13 s:=⟨_,rfl⟩
 refine ⟨_,_,h k hk,fun D hD=>?_⟩
 cbv
 clear h
 obtain ⟨J,hJ⟩ : ∃ J,J = reJ s k:=⟨_,rfl⟩
 refine ⟨[0,3],J,⟨rfl,s.length,?_⟩,?_⟩
 ·rw [hJ]
  subst hD
  exact ⟨0,0,rfl,rfl,At.zero hs,hk⟩
 intro m vs hp hv
 rw [hJ] at hv
 unfold reJ at hv
 obtain ⟨i,I,rfl,rfl,V,hk2⟩:=hv
 clear hk
 cbv
 refine br hD (fun h=>?_) (fun h=>?_)<;>cbv
 ·have hlt:=V.lt (of_decide_eq_true (p:=I < (s.length : Int)) h)
  clear h
  rw [Bf hlt] at hk2
  refine ⟨V.inS hD hlt,fun b hb=>?_⟩
  cbv
  have hb2:=Cl hD V.I hb
  have hst:=V.step hD hlt
  refine br hD (fun h=>?_) (fun h=>?_)<;>cbv
  ·have h : (b == 13) = true:=h
   refine Aj hD ?_
   rw [hk2]
   show true = (((s.getD i 0).toNat : Int) == 13 || Ep 13 _)
   have h3:=hb2.charI
   unfold charI at h3
   rw [←h3,h]; rfl
  ·have h : (b == 13) = false:=h
   refine ⟨_,hst.1,?_⟩
   rw [hJ]
   unfold reJ
   subst hD
   refine ⟨i + 1,_,rfl,rfl,hst.2,?_⟩
   rw [hk2]
   show (((s.getD i 0).toNat : Int) == 13 || Ep 13 _) = _
   have h3:=hb2.charI
   unfold charI at h3
   rw [←h3,h,Bool.false_or]
 have he:=V.eq (of_decide_eq_false (p:=I < (s.length : Int)) h)
 refine Aj hD ?_
 rw [hk2,List.drop_eq_nil_of_le (by omega)]; rfl
def Pa (c : Int) : Bool:=decide (48≤c) && decide (c≤57)
theorem Amo : Ar Tryz.prog gl 150 (H7 Pa):=by
 refine A4 (gh:=[]) mixed A0 Ae Tryz.func150 (by kernel_rfl) (by kernel_rfl) ?_
 intro xs ls K h
 unfold H7 at h
 obtain ⟨c,rfl,rfl,h⟩:=h
 obtain ⟨k,hk⟩ : ∃ k,k = Pa c:=⟨_,rfl⟩
 refine ⟨_,_,h k hk,fun D hD=>?_⟩
 cbv
 clear h
 exact Aj hD hk.symm
end Go.Proofs.YtefelnhpfdcleaaGreatDoor
namespace Go.Proofs.YtefelnhpfdcleaaGreatDoor
open Go Go.Sx
set_option maxRecDepth 100000
set_option maxHeartbeats 8000000
def Do (s : List UInt8) : HF×Bool :=
 if (!(Ah 58 s).2.2 || !Br (Ah 58 s).1) || !D2 (Ah 58 s).2.1 then (⟨[],[]⟩,false) else (⟨(Ah 58 s).1,trimF (Ah 58 s).2.1⟩,true)
def spRead : FSpec:=fun _ xs ls K=>∃ (s : List UInt8),xs = [.str s]∧ls = []∧s.length≤1000000∧∀ x b,(x,b) = Do s→K (.tup [.agg [.str x.name,.str x.value],.bool (.a b)]) []
structure Nc (a : List UInt8) (n : Nat) : Prop where
 h : a.length≤n
structure RdJ (s : List UInt8) (i : Nat) (I : Int) (m : Nat) : Prop where
 lie : At s i I m
 k : Ah 58 s = (s.take i ++ (Ah 58 (s.drop i)).1,(Ah 58 (s.drop i)).2)
def rdJ (s : List UInt8) (m : Nat) (vs : List (Option SV)) (hp : List Hl) : Prop :=
 ∃ (i : Nat) (I : Int),vs = [some (.str s),some (.ptr 0 0),some (.int .i64 (.a I))]∧hp = [.blk 69 [.str [],.str []]]∧RdJ s i I m
theorem Amr {s : List UInt8} {i : Nat} (h : i < s.length) (hc : s.getD i 0≠58) (hk : Ah 58 s = (s.take i ++ (Ah 58 (s.drop i)).1,(Ah 58 (s.drop i)).2)) : Ah 58 s = (s.take (i + 1) ++ (Ah 58 (s.drop (i + 1))).1,(Ah 58 (s.drop (i + 1))).2):=by
 have e : Ah 58 (s.drop i) = (s.getD i 0 :: (Ah 58 (s.drop (i + 1))).1,(Ah 58 (s.drop (i + 1))).2):=by
  rw [Bf h]
  rw [show Ah 58 (s.getD i 0 :: s.drop (i + 1)) = if s.getD i 0 == 58 then ([],s.drop (i + 1),true) else (s.getD i 0 :: (Ah 58 (s.drop (i + 1))).1,(Ah 58 (s.drop (i + 1))).2) from rfl,if_neg (by simpa using hc)]
 rw [hk,e]
 simp only [Prod.mk.injEq,and_true]
 rw [List.take_add_one,List.getElem?_eq_getElem h,Ew h]
 simp only [Option.toList_some,List.append_assoc,List.singleton_append]
theorem cut_hit {s : List UInt8} {i : Nat} (h : i < s.length) (hc : s.getD i 0 = 58) (hk : Ah 58 s = (s.take i ++ (Ah 58 (s.drop i)).1,(Ah 58 (s.drop i)).2)) : Ah 58 s = (s.take i,s.drop (i + 1),true):=by
 have e : Ah 58 (s.drop i) = ([],s.drop (i + 1),true):=by
  rw [Bf h]
  rw [show Ah 58 (s.getD i 0 :: s.drop (i + 1)) = if s.getD i 0 == 58 then ([],s.drop (i + 1),true) else (s.getD i 0 :: (Ah 58 (s.drop (i + 1))).1,(Ah 58 (s.drop (i + 1))).2) from rfl,if_pos (by rw [hc]; rfl)]
 rw [hk,e,List.append_nil]
theorem finRd {D : Dn} (hD : D = dn) {a b : List UInt8} {x : HF} {c : Bool} {y : BT} (h1 : (x,c) = (⟨a,b⟩,y.den)) : Fin (.tup [.agg [.str a,.str b],.bool (.a (D.b y))]) (.tup [.agg [.str x.name,.str x.value],.bool (.a c)]) [] []:=by
 subst hD
 obtain ⟨rfl,rfl⟩:=Prod.mk.inj h1
 exact D6 (LeV.refl _)
structure EqB (a b : Bool) : Prop where
 h : a = b
theorem read_ok : Ar Tryz.prog gl 97 spRead:=by
 refine A4 (gh:=[]) mixed A0 (Aa Fi (Aa Mf (Aa Uy Ae))) Tryz.func97 (by kernel_rfl) (by kernel_rfl) ?_
 intro xs ls K h
 unfold spRead at h
 obtain ⟨s,rfl,rfl,hs,h⟩:=h
 obtain ⟨k,hk⟩ : ∃ k,k = Do s:=⟨_,rfl⟩
 obtain ⟨kx,kb⟩:=k
 refine ⟨_,_,h kx kb hk,fun D hD=>?_⟩
 cbv
 clear h
 obtain ⟨J,hJ⟩ : ∃ J,J = rdJ s:=⟨_,rfl⟩
 refine ⟨[0,2,4],J,⟨rfl,s.length,?_⟩,?_⟩
 ·rw [hJ]
  subst hD
  exact ⟨0,0,rfl,rfl,⟨At.zero (by omega),by simp⟩⟩
 intro m vs hp hv
 rw [hJ] at hv
 unfold rdJ at hv
 obtain ⟨i,I,rfl,rfl,V⟩:=hv
 have VL : Nc s 1000000:=⟨hs⟩
 clear hs
 cbv
 have hin : decide (I < (s.length : Int)) = true→i < s.length:=fun h=>V.lie.lt (of_decide_eq_true h)
 have hnin : decide (I < (s.length : Int)) = false→i = s.length:=fun h=>V.lie.eq (of_decide_eq_false h)
 refine ⟨fun hg=>?_,fun c hc=>?_⟩
 ·subst hD
  exact V.lie.inS rfl (hin hg)
 cbv
 have hc2:=Cl hD V.lie.I hc
 clear hc
 refine br hD (fun h=>?_) (fun h=>?_)<;>cbv
 ·have h : (decide (I < (s.length : Int)) && c != 58) = true:=h
  rw [Bool.and_eq_true] at h
  have hlt:=hin h.1
  have hst:=V.lie.step hD hlt
  have hne : s.getD i 0≠58:=by
   intro e
   have h3:=hc2.h
   rw [e] at h3
   rw [h3] at h
   exact absurd h.2 (by decide)
  refine ⟨_,hst.1,?_⟩
  rw [hJ]
  unfold rdJ
  subst hD
  exact ⟨i + 1,_,rfl,rfl,⟨hst.2,Amr hlt hne V.k⟩⟩
 have h : (decide (I < (s.length : Int)) && c != 58) = false:=h
 have hI:=V.lie.I
 have hle:=V.lie.le
 have w1 : IntKind.i64.wrap (I + 1) = I + 1:=by have:=VL.h; exact Am (by omega) (by omega)
 have VI1 : VI I i:=⟨hI⟩
 have heq : (I == (s.length : Int)) = decide (i = s.length):=by rw [Bool.eq_iff_iff,beq_iff_eq,decide_eq_true_eq]; omega
 have hhit : i < s.length→s.getD i 0 = 58:=fun hlt=>by
  have e : decide (I < (s.length : Int)) = true:=by simp only [decide_eq_true_eq]; omega
  rw [e,Bool.true_and] at h
  have h3:=hc2.h
  have h4 : c = 58:=by simpa using h
  have : (s.getD i 0).toNat = 58:=by omega
  exact UInt8.toNat_inj.1 this
 have hend : i = s.length→(Ah 58 s).2.2 = false:=fun e=>by
  rw [V.k,List.drop_eq_nil_of_le (by omega)]
  rfl
 have hmid : i < s.length→Ah 58 s = (s.take i,s.drop (i + 1),true):=fun e=>cut_hit e (hhit e) V.k
 have HE : EqB (I == (s.length : Int)) (decide (i = s.length)):=⟨heq⟩
 clear h hin hnin hI heq hhit V
 unfold Do at hk
 have VL2:=VL.h
 refine ⟨fun hg=>?_,fun x hx=>?_⟩
 ·subst hD
  exact ⟨by decide,by show (0 : Int)≤I; rw [VI1.h]; omega,by show I≤(s.length : Int); rw [VI1.h]; omega⟩
 cbv
 have hxe : x = s.take i:=by
  subst hD
  have h7 : x = (s.drop 0).take (I.toNat - 0):=hx.h
  have e9 : I.toNat - 0 = i:=by have:=VI1.h; omega
  rw [h7,e9,List.drop_zero]
 refine ⟨x,rfl,rfl,by rw [hxe,List.length_take]; omega,fun tk htk=>?_⟩
 cbv
 rw [←Js] at htk
 refine ⟨fun hg=>?_,fun y hy=>?_⟩
 ·subst hD
  have hg : (!((I == (s.length : Int)) || !tk)) = true:=hg
  simp only [Bool.not_eq_true',Bool.or_eq_false_iff] at hg
  have h5:=hg.1
  rw [HE.h] at h5
  have h5:=of_decide_eq_false h5
  exact ⟨by show 0≤IntKind.i64.wrap (I + 1); rw [w1,VI1.h]; omega,by show IntKind.i64.wrap (I + 1)≤(s.length : Int); rw [w1,VI1.h]; omega,Int.le_refl _⟩
 cbv
 have hye : y = s.drop (i + 1):=by
  subst hD
  have h7 : y = (s.drop (IntKind.i64.wrap (I + 1)).toNat).take ((s.length : Int).toNat - (IntKind.i64.wrap (I + 1)).toNat):=hy.h
  have e9 : (IntKind.i64.wrap (I + 1)).toNat = i + 1:=by rw [w1,VI1.h]; omega
  rw [h7,e9,List.take_of_length_le (by rw [List.length_drop]; omega)]
 refine ⟨y,rfl,rfl,by rw [hye,List.length_drop]; omega,fun pl hpl=>?_⟩
 cbv
 refine br hD (fun h=>?_) (fun h=>?_)<;>cbv
 ·have h : (((I == (s.length : Int)) || !tk) || !pl) = true:=h
  rw [HE.h] at h
  have hc : ((!(Ah 58 s).2.2 || !Br (Ah 58 s).1) || !D2 (Ah 58 s).2.1) = true:=by
   by_cases e : i = s.length
   ·rw [hend e]; rfl
   ·rw [hmid (by omega)]
    rw [decide_eq_false e] at h
    simp only
    rw [←hxe,←hye,←htk,←hpl]
    exact h
  rw [if_pos hc] at hk
  exact finRd hD hk
 have h : (((I == (s.length : Int)) || !tk) || !pl) = false:=h
 rw [HE.h] at h
 have e : ¬ i = s.length:=by
  simp only [Bool.or_eq_false_iff,decide_eq_false_iff_not] at h
  exact h.1.1
 rw [decide_eq_false e] at h
 have hi : i < s.length:=by omega
 rw [hmid hi] at hk
 simp only at hk
 rw [←hxe,←hye,←htk,←hpl] at hk
 have hc : ¬ ((!true || !tk) || !pl) = true:=by
  intro g
  rw [show ((!true || !tk) || !pl) = ((false || !tk) || !pl) from rfl,h] at g
  cases g
 rw [if_neg hc] at hk
 clear h hc hend hmid HE
 refine ⟨by subst hD; exact ⟨by decide,by show (0 : Int)≤I; rw [VI1.h]; omega,by show I≤(s.length : Int); rw [VI1.h]; omega⟩,fun x' hx'=>?_⟩
 cbv
 have hxx : x' = x:=by
  subst hD
  have h7 : x' = (s.drop 0).take (I.toNat - 0):=hx'.h
  have e9 : I.toNat - 0 = i:=by have:=VI1.h; omega
  rw [h7,e9,List.drop_zero,hxe]
 refine ⟨by subst hD; exact ⟨by show 0≤IntKind.i64.wrap (I + 1); rw [w1,VI1.h]; omega,by show IntKind.i64.wrap (I + 1)≤(s.length : Int); rw [w1,VI1.h]; omega,Int.le_refl _⟩,fun y' hy'=>?_⟩
 cbv
 have hyy : y' = y:=by
  subst hD
  have h7 : y' = (s.drop (IntKind.i64.wrap (I + 1)).toNat).take ((s.length : Int).toNat - (IntKind.i64.wrap (I + 1)).toNat):=hy'.h
  have e9 : (IntKind.i64.wrap (I + 1)).toNat = i + 1:=by rw [w1,VI1.h]; omega
  rw [h7,e9,List.take_of_length_le (by rw [List.length_drop]; omega),hye]
 refine ⟨y',rfl,rfl,by rw [hyy,hye,List.length_drop]; omega,fun z hz=>?_⟩
 cbv
 rw [hyy] at hz
 rw [←hz] at hk
 subst hxx
 exact finRd hD hk
end Go.Proofs.YtefelnhpfdcleaaGreatDoor
namespace Go.Proofs.YtefelnhpfdcleaaGreatDoor
open Go Go.Sx
set_option maxRecDepth 100000
set_option maxHeartbeats 400000
def Ox (b : List UInt8) (p i : Nat) : Prop:=∀ j,p≤j→j < i→b.getD j 0≠10
theorem Y9 (b : List UInt8) (p : Nat) : Ox b p p:=fun j h h2=>by omega
theorem Ai5 {b : List UInt8} {p i : Nat} (h : Ox b p i) (hc : b.getD i 0≠10) : Ox b p (i + 1):=fun j h1 h2=>by
 by_cases e : j = i
 ·rw [e]; exact hc
 ·exact h j h1 (by omega)
theorem K6 {s : List UInt8} {c : UInt8} : ∀ {j : Nat},j < s.length→s.getD j 0 = c→(∀ k,k < j→s.getD k 0≠c)→Lib.indexByte s c = (j : Int):=by
 induction s with
 | nil=>intro j h; simp at h
 | cons b r ih =>
  intro j h hc hn
  unfold Lib.indexByte
  cases j with
  | zero=>rw [if_pos (by simp [show b = c by simpa using hc])]; rfl
  | succ j =>
   have h0:=hn 0 (by omega)
   rw [if_neg (by simpa using h0)]
   rw [ih (j:=j) (by simpa using h) (by simpa using hc) (fun k hk=>by have:=hn (k + 1) (by omega); simpa using this)]
   rw [if_neg (by simp<;>omega)]
   omega
theorem Ahe {b : List UInt8} {p i : Nat} (hp : p≤i) (h : i < b.length) (hc : b.getD i 0 = 10) (hn : Ox b p i) : Lib.indexByte (b.drop p) 10 = ((i - p : Nat) : Int):=by
 apply K6
 ·rw [List.length_drop]; omega
 ·rw [List.getD_eq_getElem?_getD,List.getElem?_drop,←List.getD_eq_getElem?_getD,show p + (i - p) = i by omega,hc]
 ·intro k hk
  have:=hn (p + k) (by omega) (by omega)
  rw [List.getD_eq_getElem?_getD,List.getElem?_drop,←List.getD_eq_getElem?_getD]; exact this
theorem Aaz {b : List UInt8} {p : Nat} (hn : Ox b p b.length) : Lib.indexByte (b.drop p) 10 = -1:=by
 apply Dr
 intro j hj
 rw [List.length_drop] at hj
 have:=hn (p + j) (by omega) (by omega)
 rw [List.getD_eq_getElem?_getD,List.getElem?_drop,←List.getD_eq_getElem?_getD]; exact this
theorem Abe {b : List UInt8} {p m : Nat} {r : List HF} (hp : p≤8192) (hn : Ox b p b.length) : hpG b (m + 1) p r = ([],0,if 8192 < b.length then 3 else 10):=by
 rw [hpG,Aaz hn]
 by_cases h : 8192 < b.length
 ·rw [if_pos (by simp [h]),if_pos h]
 ·rw [if_neg (by simp; omega),if_neg h,if_pos (by omega)]
theorem hp_far {b : List UInt8} {p m i : Nat} {r : List HF} (hp : p≤i) (h : i < b.length) (hc : b.getD i 0 = 10) (hn : Ox b p i) (h8 : 8192≤i) : hpG b (m + 1) p r = ([],0,3):=by
 rw [hpG,Ahe hp h hc hn]
 rw [if_pos (by simp; omega)]
def hpL (b : List UInt8) (m i : Nat) (r : List HF) (cr : Bool) (s : List UInt8) : List HF×Int×Int :=
 if (!cr) || decide (0≤Lib.indexByte s 13) then ([],0,6) else
 if s = [] then (r,(i : Int) + 1,0) else
 if (!(Do s).2) then ([],0,6) else
 if decide (2000 < (Do s).1.value.length) || decide (r.length = 100) then ([],0,3) else
 hpG b m (i + 1) (r ++ [(Do s).1])
theorem suf1 (s : List UInt8) (c : UInt8) : Lib.hasSuffix s [c] = (decide (s≠[]) && (s.getD (s.length - 1) 0 == c)):=by
 rw [Bool.eq_iff_iff]
 unfold Lib.hasSuffix
 rw [List.isSuffixOf_iff_suffix,Bool.and_eq_true,decide_eq_true_eq,beq_iff_eq]
 constructor
 ·rintro ⟨t,rfl⟩
  refine ⟨by simp,?_⟩
  rw [List.length_append]
  simp [List.getD_eq_getElem?_getD]
 ·rintro ⟨h1,h2⟩
  refine ⟨s.take (s.length - 1),?_⟩
  have hl : s.length - 1 < s.length:=by cases s with | nil=>exact absurd rfl h1 | cons a r=>simp
  rw [Ew hl] at h2
  have:=List.take_append_drop (s.length - 1) s
  rw [Bf hl,Ew hl,h2,List.drop_eq_nil_of_le (by omega)] at this
  exact this
theorem Abf {b : List UInt8} {p m i : Nat} {r : List HF} (hp : p≤i) (h : i < b.length) (hc : b.getD i 0 = 10) (hn : Ox b p i) (h8 : i < 8192) (cr : Bool) (hcr : cr = (decide (i≠p) && (b.getD (i - 1) 0 == 13))) :
  (cr = false→hpG b (m + 1) p r = ([],0,6))∧(cr = true→hpG b (m + 1) p r = hpL b m i r true ((b.drop p).take (i - 1 - p))):=by
 have hs : Lib.hasSuffix ((b.drop p).take (i - p)) [13] = cr:=by
  rw [suf1,hcr]
  by_cases e : i = p
  ·rw [e]; simp
  ·have hl : ((b.drop p).take (i - p)).length = i - p:=by rw [List.length_take,List.length_drop]; omega
   have e1 : decide ((b.drop p).take (i - p)≠[]) = true:=by
    rw [decide_eq_true_eq]; intro e2; rw [e2] at hl; simp at hl; omega
   have e2 : decide (i≠p) = true:=by simpa using e
   rw [e1,e2,Bool.true_and,Bool.true_and,hl]
   rw [List.getD_eq_getElem?_getD,List.getElem?_take,if_pos (by omega),List.getElem?_drop,←List.getD_eq_getElem?_getD,show p + (i - p - 1) = i - 1 by omega]
 have hkey : (cr = true→Lib.trimSuffix ((b.drop p).take (i - p)) [13] = (b.drop p).take (i - 1 - p)):=fun e=>by
  unfold Lib.trimSuffix
  rw [hs,if_pos e,List.length_take,List.length_drop,List.take_take]
  congr 1
  simp only [List.length_cons,List.length_nil]
  omega
 rw [hpG,Ahe hp h hc hn]
 rw [if_neg (by simp; omega),if_neg (by omega)]
 have ent : (((i - p : Nat) : Int)).toNat = i - p:=by omega
 rw [ent,hs]
 refine ⟨fun e=>by rw [if_pos (by rw [e]; rfl)],fun e=>?_⟩
 rw [hkey e]
 obtain ⟨s,hse⟩ : ∃ s,s = (b.drop p).take (i - 1 - p):=⟨_,rfl⟩
 rw [←hse]
 have e3 : (p : Int) + ((i - p : Nat) : Int) + 1 = (i : Int) + 1:=by omega
 have e4 : p + (i - p) + 1 = i + 1:=by omega
 rw [e3,e4,e]
 unfold hpL Do
 split
 ·rfl
 split
 ·rfl
 split
 ·simp
 ·simp only [Bool.not_true,Bool.false_eq_true,if_false]
end Go.Proofs.YtefelnhpfdcleaaGreatDoor
namespace Go.Proofs.YtefelnhpfdcleaaGreatDoor
open Go Go.Sx
set_option maxRecDepth 100000
set_option maxHeartbeats 8000000
def Bv (s : List UInt8) : Bool:=s.all fun b=>Pa (b.toNat : Int)
def Ea (s : List UInt8) : List UInt8:=if (1 < s.length∧charI s 0 = 45)∧charI s 1≠48 then s.drop 1 else s
def Pb (s : List UInt8) : Bool:=(!(decide (Ea s = []) || (decide (1 < (Ea s).length) && decide (charI (Ea s) 0 = 48)))) && Bv (Ea s)
theorem W9 (t : List UInt8) : (Lib.trimS t Nz = [])↔Bv t = true:=by
 unfold Bv
 rw [List.all_eq_true]
 have e : ∀ c : UInt8,Nz.contains c = Pa (c.toNat : Int):=fun c=>by
  rw [Bool.eq_iff_iff,Agg]
  unfold Pa
  simp only [Bool.and_eq_true,decide_eq_true_eq]
  omega
 constructor
 ·intro h c hc
  rw [←e]
  exact Ng h c hc
 ·intro h
  show ((t.reverse.dropWhile (fun x=>Nz.contains x)).reverse).dropWhile (fun x=>Nz.contains x) = []
  rw [Dh]
  intro x hx
  have hx:=List.mem_reverse.1 hx
  have hx : x∈t.reverse:=(List.dropWhile_suffix _).subset hx
  rw [e]
  exact h x (List.mem_reverse.1 hx)
theorem Nq (s : List UInt8) : Pb s = Jn s:=by
 unfold Jn
 have hA : ∀ t : List UInt8,(t = []∨Lib.trimS t Nz≠[])↔¬ (t≠[]∧Bv t = true):=fun t=>by
  rw [←W9]
  constructor
  ·rintro (h | h) ⟨a,b⟩
   ·exact a h
   ·exact h b
  ·intro h
   rcases Decidable.em (t = []) with e | e
   ·exact .inl e
   ·exact .inr fun g=>h ⟨e,g⟩
 match s with
 | []=>rfl
 | c :: r =>
  by_cases hc : c = 45
  ·subst hc
   have hp : By (45 :: r) [45] = r:=by
    unfold By Vo
    simp
   rw [hp]
   match r with
   | []=>rfl
   | d :: r' =>
    by_cases hd : d = 48
    ·subst hd
     have ht : Ea (45 :: 48 :: r') = 45 :: 48 :: r':=by
      unfold Ea
      rw [if_neg]
      rintro ⟨_,h⟩
      exact h rfl
     have h1 : Pb (45 :: 48 :: r') = false:=by
      unfold Pb
      rw [ht]
      have : Bv (45 :: 48 :: r') = false:=rfl
      rw [this,Bool.and_false]
     rw [h1]
     split
     ·rfl
     ·show false = (((48 : UInt8) != 48) || ((45 :: 48 :: r' : List UInt8) == [48]))
      rfl
    ·have ht : Ea (45 :: d :: r') = d :: r':=by
      unfold Ea
      rw [if_pos]
      ·rfl
      ·refine ⟨⟨by simp,rfl⟩,fun h=>hd ?_⟩
       have h : (d.toNat : Int) = 48:=h
       have : d.toNat = 48:=by omega
       exact UInt8.toNat_inj.1 this
     unfold Pb
     rw [ht]
     have e0 : decide (charI (d :: r') 0 = 48) = false:=by
      rw [decide_eq_false]
      intro h
      apply hd
      have h : (d.toNat : Int) = 48:=h
      have : d.toNat = 48:=by omega
      exact UInt8.toNat_inj.1 this
     rw [e0,Bool.and_false]
     have e1 : ((d :: r').getD 0 0 != 48) = true:=by simpa using hd
     rw [e1,Bool.true_or]
     by_cases hg : Bv (d :: r') = true
     ·rw [if_neg (by rw [hA]; simp [hg]),hg]
      simp
     ·rw [if_pos (by rw [hA]; exact fun h=>hg h.2)]
      simp at hg
      simp [hg]
  ·have hp : By (c :: r) [45] = c :: r:=by
    unfold By Vo
    simp [hc]
   rw [hp]
   have ht : Ea (c :: r) = c :: r:=by
    unfold Ea
    rw [if_neg]
    rintro ⟨⟨_,h⟩,_⟩
    apply hc
    have h : (c.toNat : Int) = 45:=h
    have : c.toNat = 45:=by omega
    exact UInt8.toNat_inj.1 this
   unfold Pb
   rw [ht]
   by_cases hg : Bv (c :: r) = true
   ·rw [if_neg (by rw [hA]; simp [hg]),hg,Bool.and_true]
    by_cases h48 : c = 48
    ·subst h48
     cases r with
     | nil=>rfl
     | cons d r' =>
      show (!(decide _ || (decide (1 < r'.length + 1 + 1) && true))) = _
      rw [decide_eq_true (show 1 < r'.length + 1 + 1 by omega)]
      simp
    ·have e0 : decide (charI (c :: r) 0 = 48) = false:=by
      rw [decide_eq_false]
      intro h
      apply h48
      have h : (c.toNat : Int) = 48:=h
      have : c.toNat = 48:=by omega
      exact UInt8.toNat_inj.1 this
     have e1 : ((c :: r).getD 0 0 != 48) = true:=by simpa using h48
     rw [e0,e1,Bool.and_false]
     simp
   ·rw [if_pos (by rw [hA]; exact fun h=>hg h.2)]
    simp at hg
    simp [hg]
end Go.Proofs.YtefelnhpfdcleaaGreatDoor
namespace Go.Proofs.YtefelnhpfdcleaaGreatDoor
open Go Go.Sx
set_option maxRecDepth 100000
set_option maxHeartbeats 16000000
def Ba : Nat→List UInt8→Nat
 | acc,[]=>acc
 | acc,c :: r=>if c = 45 then Ba acc r else Ba (acc * 10 + (c.toNat - 48)) r
theorem Fv : ∀ (l : List UInt8) (acc : Nat),acc≤Ba acc l
 | [],acc=>Nat.le_refl _
 | c :: r,acc=>by
  unfold Ba
  split
  ·exact Fv r acc
  ·exact Nat.le_trans (by omega) (Fv r _)
def Nw (s : List UInt8) (hi : Int) : Int×Int :=
 if !Jn s then (0,6) else if charI s 0 = 45 then (0,7) else if (Ba 0 s : Int)≤hi then ((Ba 0 s : Int),0) else (0,7)
theorem Vr : ∀ (l : List UInt8) (acc : Nat),(∀ c∈l,48≤c.toNat∧c.toNat≤57)→acc≤18446744073709551615→Lib.parseUintM 18446744073709551615 acc l = if Ba acc l≤18446744073709551615 then .ok (Ba acc l) else .range
 | [],acc,_,h=>by simp [Lib.parseUintM,Ba,h]
 | c :: r,acc,h,ha=>by
  have hc:=h c (List.mem_cons_self ..)
  have hr : ∀ d∈r,48≤d.toNat∧d.toNat≤57:=fun d hd=>h d (List.mem_cons_of_mem _ hd)
  have hne : c≠45:=by rintro rfl; exact absurd hc.1 (by decide)
  rw [Lib.parseUintM,if_pos hc,Ba,if_neg hne]
  have hm:=Fv r (acc * 10 + (c.toNat - 48))
  split
  ·rw [if_neg (by omega)]
  ·split
   ·rw [if_neg (by omega)]
   ·exact Vr r _ hr (by omega)
theorem Gw {s : List UInt8} (h : Bv s = true) : ∀ c∈s,48≤c.toNat∧c.toNat≤57:=fun c hc=>by
 have:=List.all_eq_true.1 h c hc
 unfold Pa at this
 simp only [Bool.and_eq_true,decide_eq_true_eq] at this
 omega
theorem Vt {s : List UInt8} (hne : s≠[]) (h : Bv s = true) : Mk s = if Ba 0 s < 9223372036854775808 then ((Ba 0 s : Int),true) else (9223372036854775807,false):=by
 match s,hne with
 | c :: r,_ =>
  have hd:=Gw h
  have hc:=hd c (List.mem_cons_self ..)
  have hpm:=Vr (c :: r) 0 hd (by omega)
  have hp : Lib.parseIntB 64 (c :: r) = if Ba 0 (c :: r) < 9223372036854775808 then .ok (Ba 0 (c :: r) : Int) else .range:=by
   unfold Lib.parseIntB
   simp only
   rw [if_neg (by omega)]
   unfold Lib.parseUintB
   rw [if_neg (by simp)]
   have hpm2 : Lib.parseUintM (2 ^ 64 - 1) 0 (c :: r) = if Ba 0 (c :: r)≤18446744073709551615 then .ok (Ba 0 (c :: r)) else .range:=hpm
   rw [hpm2]
   generalize Ba 0 (c :: r) = v
   by_cases h1 : v≤18446744073709551615
   ·rw [if_pos h1]
    simp only
    by_cases h2 : v < 9223372036854775808
    ·rw [if_neg (by omega),if_neg (by omega),if_neg (by omega),if_pos h2]
    ·rw [if_pos ⟨by omega,by omega⟩,if_neg h2]
   ·rw [if_neg h1,if_neg (by omega)]
  unfold Mk
  rw [hp]
  by_cases h2 : Ba 0 (c :: r) < 9223372036854775808
  ·rw [if_pos h2,if_pos h2]
  ·rw [if_neg h2,if_neg h2]
   have : Lib.intSat 64 (c :: r) = 9223372036854775807:=by
    unfold Lib.intSat
    rw [if_neg (by simp; omega)]
    rfl
   rw [this]
theorem Pc {s : List UInt8} (h : Jn s = true) (h0 : charI s 0≠45) : s≠[]∧Bv s = true:=by
 rw [←Nq] at h
 unfold Pb at h
 have ht : Ea s = s:=by unfold Ea; rw [if_neg (fun g=>h0 g.1.2)]
 rw [ht] at h
 simp only [Bool.and_eq_true,Bool.not_eq_true',Bool.or_eq_false_iff,decide_eq_false_iff_not] at h
 exact ⟨h.1.1,h.2⟩
theorem Ml (s : List UInt8) {hi : Int} (h0 : 0≤hi) (h1 : hi≤1000000000) : Bi s hi = if (Nw s hi).2 = 7∧charI s 0 = 45 then ((Nw s hi).1,6) else Nw s hi:=by
 unfold Bi Nw
 have hp : Lib.hasPrefix s [45] = decide (s≠[]∧charI s 0 = 45):=by
  cases s with
  | nil=>rfl
  | cons b r =>
   rw [Bool.eq_iff_iff]
   simp only [Lib.hasPrefix,List.isPrefixOf,Bool.and_true,beq_iff_eq,decide_eq_true_eq,ne_eq,reduceCtorEq,not_false_eq_true,true_and]
   unfold charI
   simp only [List.getD_cons_zero]
   constructor
   ·intro h; rw [←h]; rfl
   ·intro h
    have : b.toNat = 45:=by omega
    exact (UInt8.toNat_inj.1 this).symm
 by_cases hd : Jn s = true
 ·rw [hd]
  by_cases h45 : charI s 0 = 45
  ·have hne : s≠[]:=by rintro rfl; revert h45; decide
   rw [hp,decide_eq_true ⟨hne,h45⟩]
   simp [h45]
  ·have hP:=Pc hd h45
   rw [hp,decide_eq_false (fun g=>h45 g.2)]
   simp only [Bool.not_true,Bool.false_eq_true,if_false,h45]
   unfold Wo
   rw [hd,Vt hP.1 hP.2]
   simp only [Bool.not_true,Bool.false_eq_true,if_false]
   generalize Ba 0 s = v
   by_cases h2 : v < 9223372036854775808
   ·rw [if_pos h2]
    simp only [Bool.true_eq_false,false_or]
    by_cases h3 : (v : Int)≤hi
    ·rw [if_neg (by omega),if_pos h3]
     simp
    ·rw [if_pos (by omega),if_neg h3]
     simp
   ·have h4 : ¬ (v : Int)≤hi:=by omega
    rw [if_neg h2,if_pos (.inl rfl),if_neg h4]
    simp
 ·have hd : Jn s = false:=by simpa using hd
  rw [hd]
  simp only [Bool.not_false,if_true]
  have e7 : ¬ ((6 : Int) = 7∧charI s 0 = 45):=fun g=>absurd g.1 (by decide)
  rw [if_neg e7]
  split
  ·simp
  ·unfold Wo; rw [hd]; simp
end Go.Proofs.YtefelnhpfdcleaaGreatDoor
