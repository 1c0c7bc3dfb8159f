/- Part of the proofs of the statements about requests (layer 7): a symbolic executor over the code, that it is sound, and contracts of functions; it has no conditions of its own. -/
import Derived.Test.YtefelnhpfdcleaaGreatDoorSzPbd
import Derived.Test.YtefelnhpfdcleaaGreatDoorSzPbe
import Derived.Test.YtefelnhpfdcleaaGreatDoorSzPbg
import Derived.Test.YtefelnhpfdcleaaGreatDoorSzPba
import Derived.Test.YtefelnhpfdcleaaGreatDoorSzPbb
import Derived.Test.YtefelnhpfdcleaaGreatDoorSzPbc
namespace Go.Proofs.YtefelnhpfdcleaaGreatDoor
open Go Go.Sx
set_option maxRecDepth 100000
set_option maxHeartbeats 400000
def Kb (t : List UInt8) (z : Int) : List UInt8×List UInt8×Int×Int :=
 if Eh true (Ah 32 t).2.2 (Ah 32 t).1 (Ah 32 t).2.1 (decide (0≤Lib.indexByte (Ah 32 t).2.1 32)) then ([],[],0,6) else ((Ah 32 t).1,(Ah 32 t).2.1,z,0)
def N9 (w : List UInt8) : List UInt8×List UInt8×Int×Int :=
 if Eh (Lib.hasSuffix (w ++ [10]) rVer) (Ah 32 (Lib.trimSuffix (w ++ [10]) rVer)).2.2 (Ah 32 (Lib.trimSuffix (w ++ [10]) rVer)).1 (Ah 32 (Lib.trimSuffix (w ++ [10]) rVer)).2.1 (decide (0≤Lib.indexByte (Ah 32 (Lib.trimSuffix (w ++ [10]) rVer)).2.1 32)) then ([],[],0,6) else
 ((Ah 32 (Lib.trimSuffix (w ++ [10]) rVer)).1,(Ah 32 (Lib.trimSuffix (w ++ [10]) rVer)).2.1,(w.length : Int) + 1,0)
theorem Fj (b : List UInt8) : Ax b = if !(Ah 10 (b.take 1024)).2.2 && decide (b.length < 1024) then ([],[],0,10) else if !(Ah 10 (b.take 1024)).2.2 then ([],[],0,3) else N9 (Ah 10 (b.take 1024)).1:=rfl
def lnK (b : List UInt8) (i : Nat) : Prop:=Ah 10 (b.take 1024) = ((b.take 1024).take i ++ (Ah 10 ((b.take 1024).drop i)).1,(Ah 10 ((b.take 1024).drop i)).2)
theorem U2 {s : List UInt8} (h2 : s.drop (s.length - 11) = rVer) : Lib.hasSuffix s rVer = true:=by
 unfold Lib.hasSuffix
 rw [List.isSuffixOf_iff_suffix]
 exact ⟨s.take (s.length - 11),by rw [←h2]; exact List.take_append_drop _ s⟩
theorem Rx {w s : List UInt8} (e : s = w ++ [10]) (h2 : s.drop (s.length - 11) = rVer) : N9 w = Kb (s.take (s.length - 11)) (s.length : Int):=by
 unfold N9 Kb
 have h3:=U2 h2
 have h4 : Lib.trimSuffix s rVer = s.take (s.length - 11):=by unfold Lib.trimSuffix; rw [if_pos h3]; rfl
 rw [←e,h3,h4]
 have : ((w.length : Int) + 1) = (s.length : Int):=by rw [e]; simp
 rw [this]
def spK (t : List UInt8) (k : Nat) (p : Int) : Prop :=
 (p = -1∧Ah 32 t = (t.take k ++ (Ah 32 (t.drop k)).1,(Ah 32 (t.drop k)).2))∨
 (∃ q : Nat,p = q∧q < k∧Ah 32 t = (t.take q,t.drop (q + 1),true)∧∀ j,q + 1≤j→j < k→t.getD j 0≠32)
theorem Dr {s : List UInt8} {c : UInt8} (h : ∀ j,j < s.length→s.getD j 0≠c) : Lib.indexByte s c = -1:=by
 induction s with
 | nil=>rfl
 | cons b r ih =>
  unfold Lib.indexByte
  have h0:=h 0 (by simp)
  rw [if_neg (by simpa using h0),ih (fun j hj=>by have:=h (j + 1) (by simpa using hj); simpa using this)]
  rfl
end Go.Proofs.YtefelnhpfdcleaaGreatDoor
namespace Go.Proofs.YtefelnhpfdcleaaGreatDoor
open Go Go.Sx
set_option maxRecDepth 100000
set_option maxHeartbeats 8000000
theorem Pe (l : List HF) (i : Nat) (h : i < l.length) (n : Int) : Ck (l.drop i) n = if Pk (l.getD i default) then 6 else if 2000 < (l.getD i default).value.length then 3 else Ck (l.drop (i + 1)) (n + G9 (l.getD i default)):=by
 have : l.drop i = l.getD i default :: l.drop (i + 1):=by rw [List.getD_eq_getElem?_getD,List.getElem?_eq_getElem h,Option.getD_some,List.drop_eq_getElem_cons h]
 rw [this,Ck]
structure HpS2 (a b : List UInt8) : Prop where
 a : a.length≤64
 b : b.length≤2000
structure RcJ (k : Int) (l : List HF) (i : Nat) (I N : Int) (m : Nat) : Prop where
 lie : AtR l i I m
 lo : 0≤N
 hi : N≤3000 * (i + 1)
 len : l.length≤100
 k : k = Ck (l.drop i) N
def rcJ (k : Int) (l : List HF) (nl : Bool) (n : Int) (f : Nat→List SV) (m : Nat) (vs : List (Option SV)) (hp : List Hl) : Prop :=
 ∃ (i : Nat) (I N : Int),vs = [some (.sl (.a nl) (.a n) 2 f),some (.int .i64 (.a N)),some (.int .i64 (.a I))]∧hp = []∧RcJ k l i I N m
theorem Jc : Ar Tryz.prog gl 64 spCheck:=by
 refine A4 (gh:=[]) mixed A0 (Aa Fi (Aa Mf (Aa Uy Ae))) Tryz.func64 (by kernel_rfl) (by kernel_rfl) ?_
 intro xs ls K h
 unfold spCheck at h
 obtain ⟨l,nl,n,f,rfl,rfl,R,h⟩:=h
 obtain ⟨k,hk⟩ : ∃ k,k = A7 l:=⟨_,rfl⟩
 refine ⟨_,_,h k hk,fun D hD=>?_⟩
 cbv
 clear h
 refine br hD (fun h=>?_) (fun h=>?_)<;>cbv
 ·refine Bq hD ?_
  have h2 : 100 < n:=of_decide_eq_true (p:=(100 : Int) < n) h
  rw [hk,A7,if_pos (by have:=R.n; omega)]
  rfl
 have h2 : n≤100:=by
  have:=of_decide_eq_false (p:=(100 : Int) < n) h
  omega
 clear h
 obtain ⟨J,hJ⟩ : ∃ J,J = rcJ k l nl n f:=⟨_,rfl⟩
 refine ⟨[0,3,4],J,⟨rfl,l.length,?_⟩,?_⟩
 ·rw [hJ]
  subst hD
  refine ⟨0,0,2,rfl,rfl,AtR.zero R.len,by omega,by omega,by have:=R.n; omega,?_⟩
  rw [hk,A7,if_neg (by have:=R.n; omega)]
  rfl
 clear hk
 intro m vs hp hj
 rw [hJ] at hj
 obtain ⟨i,I,N,rfl,rfl,V⟩:=hj
 cbv
 refine br hD (fun h=>?_) (fun h=>?_)<;>cbv
 ·have hlt:=V.lie.lt R.n (of_decide_eq_true (p:=I < n) h)
  clear h
  have inA:=V.lie.inB hD R.n hlt
  have hx:=R.f i hlt
  have hsm:=R.small i hlt
  have hk:=V.k
  rw [Pe l i hlt] at hk
  obtain ⟨x,hxx⟩ : ∃ x,x = l.getD i default:=⟨_,rfl⟩
  rw [←hxx] at hx hk hsm
  clear hxx
  have hst:=V.lie.step hD hlt
  obtain ⟨xn,xv⟩:=x
  refine ⟨inA,fun j hj=>?_⟩
  have hj:=V.lie.j hD hj
  cbv
  rw [hj,hx]
  cbv
  refine ⟨xn,rfl,rfl,hsm.1,fun a ha=>?_⟩
  cbv
  rw [←Js] at ha
  have hal : a = true→xn.length≤64:=fun e=>by
   rw [e] at ha
   unfold Br at ha
   have ha:=ha.symm
   simp only [Bool.and_eq_true,decide_eq_true_eq] at ha
   exact ha.2.2
  refine ⟨xv,rfl,rfl,hsm.2,fun b hb=>?_⟩
  cbv
  refine ⟨xv,rfl,rfl,hsm.2,fun c hc=>?_⟩
  cbv
  have hbad : Pk ⟨xn,xv⟩ = (!a || (!b || c != xv)):=by rw [Pk,ha,hb,hc]
  rw [hbad] at hk
  simp only at hk
  clear ha hb hc hbad
  refine br hD (fun h=>?_) (fun h=>?_)<;>cbv
  ·have h : ((!a || !b) || c != xv) = true:=h
   rw [if_pos (by rw [←Bool.or_assoc]; exact h)] at hk
   exact Bq hD hk.symm
  have h : ((!a || !b) || c != xv) = false:=h
  rw [if_neg (by rw [←Bool.or_assoc,h]; simp)] at hk
  have hat : a = true:=by simp only [Bool.or_eq_false_iff,Bool.not_eq_false'] at h; exact h.1.1
  clear h
  refine br hD (fun h=>?_) (fun h=>?_)<;>cbv
  ·have h : 2000 < xv.length:=by have h:=of_decide_eq_true (p:=(2000 : Int) < (xv.length : Int)) h; omega
   rw [if_pos h] at hk
   exact Bq hD hk.symm
  have h : ¬ 2000 < xv.length:=by have h:=of_decide_eq_false (p:=(2000 : Int) < (xv.length : Int)) h; omega
  rw [if_neg h] at hk
  have hxn : xn.length≤64:=hal hat
  have hV : HpS2 xn xv:=⟨hxn,by omega⟩
  have hsz : IntKind.i64.wrap (IntKind.i64.wrap (IntKind.i64.wrap (IntKind.i64.wrap (N + (xn.length : Int)) + 2) + (xv.length : Int)) + 2) = N + G9 ⟨xn,xv⟩:=by
   have:=V.lo; have:=V.hi; have:=V.lie.le; have:=V.len
   have e1:=hV.a; have e2:=hV.b
   rw [Am (n:=N + (xn.length : Int)) (by omega) (by omega),Am (n:=N + (xn.length : Int) + 2) (by omega) (by omega),Am (n:=N + (xn.length : Int) + 2 + (xv.length : Int)) (by omega) (by omega),Am (by omega) (by omega)]
   unfold G9
   simp only
   omega
  have hszb : 0≤G9 ⟨xn,xv⟩∧G9 ⟨xn,xv⟩≤3000:=by unfold G9; simp only; omega
  refine ⟨_,hst.1,?_⟩
  rw [hJ]
  unfold rcJ
  subst hD
  refine ⟨i + 1,_,_,rfl,rfl,⟨hst.2,?_,?_,V.len,?_⟩⟩
  ·show 0≤IntKind.i64.wrap (IntKind.i64.wrap (IntKind.i64.wrap (IntKind.i64.wrap (N + (xn.length : Int)) + 2) + (xv.length : Int)) + 2)
   rw [hsz]; have:=V.lo; omega
  ·show IntKind.i64.wrap (IntKind.i64.wrap (IntKind.i64.wrap (IntKind.i64.wrap (N + (xn.length : Int)) + 2) + (xv.length : Int)) + 2)≤_
   rw [hsz]; have:=V.hi; omega
  ·rw [hk]
   show _ = Ck _ (IntKind.i64.wrap (IntKind.i64.wrap (IntKind.i64.wrap (IntKind.i64.wrap (N + (xn.length : Int)) + 2) + (xv.length : Int)) + 2))
   rw [hsz]
 have hi:=V.lie.eq R.n (of_decide_eq_false (p:=I < n) h)
 have hdn : l.drop i = []:=List.drop_eq_nil_of_le (by omega)
 have hk:=V.k
 rw [hdn,Ck] at hk
 clear h
 refine br hD (fun h=>?_) (fun h=>?_)<;>cbv
 ·have h : 8192 < N:=of_decide_eq_true (p:=(8192 : Int) < N) h
  rw [if_pos h] at hk
  exact Bq hD hk.symm
 ·have h : ¬ 8192 < N:=of_decide_eq_false (p:=(8192 : Int) < N) h
  rw [if_neg h] at hk
  exact Bq hD hk.symm
def inF : List (List UInt8)→List UInt8→Bool
 | [],_=>false
 | x :: l,s=>(x == s) || inF l s
def spIn : FSpec:=fun _ xs ls K=>∃ (l : List (List UInt8)) (s : List UInt8) (nl : Bool) (n : Int) (f : Nat→List SV),xs = [.sl (.a nl) (.a n) 1 f,.str s]∧ls = []∧A8 f n l∧∀ r : Bool,r = inF l s→K (.bool (.a r)) []
def inJ (l : List (List UInt8)) (s : List UInt8) (nl : Bool) (n : Int) (f : Nat→List SV) (k : Bool) (m : Nat) (vs : List (Option SV)) (hp : List Hl) : Prop :=
 ∃ (i : Nat) (I : Int),vs = [some (.sl (.a nl) (.a n) 1 f),some (.str s),some (.int .i64 (.a I))]∧hp = []∧AtR l i I m∧k = inF (l.drop i) s
theorem Af5 : Ar Tryz.prog gl 66 spIn:=by
 refine A4 (gh:=[]) mixed A0 Ae Tryz.func66 (by kernel_rfl) (by kernel_rfl) ?_
 intro xs ls K h
 unfold spIn at h
 obtain ⟨l,s,nl,n,f,rfl,rfl,R,h⟩:=h
 obtain ⟨k,hk⟩ : ∃ k,k = inF l s:=⟨_,rfl⟩
 refine ⟨_,_,h k hk,fun D hD=>?_⟩
 cbv
 clear h
 obtain ⟨J,hJ⟩ : ∃ J,J = inJ l s nl n f k:=⟨_,rfl⟩
 refine ⟨[0,1,5],J,⟨rfl,l.length,?_⟩,?_⟩
 ·rw [hJ]
  subst hD
  exact ⟨0,0,rfl,rfl,AtR.zero R.len,hk⟩
 intro m vs hp hv
 rw [hJ] at hv
 unfold inJ at hv
 obtain ⟨i,I,rfl,rfl,V,hk2⟩:=hv
 clear hk
 cbv
 refine br hD (fun h=>?_) (fun h=>?_)<;>cbv
 ·have hlt:=V.lt R.n (of_decide_eq_true (p:=I < n) h)
  clear h
  have inA:=V.inB hD R.n hlt
  have hx:=R.f i hlt
  have hst:=V.step hD hlt
  have hdr : l.drop i = l.getD i [] :: l.drop (i + 1):=by rw [List.getD_eq_getElem?_getD,List.getElem?_eq_getElem hlt,Option.getD_some,List.drop_eq_getElem_cons hlt]
  rw [hdr] at hk2
  obtain ⟨x,hxx⟩ : ∃ x,x = l.getD i []:=⟨_,rfl⟩
  rw [←hxx] at hx hk2
  clear hdr hxx
  have hk2 : k = ((x == s) || inF (l.drop (i + 1)) s):=hk2
  refine ⟨inA,fun j hj=>?_⟩
  have hj:=V.j hD hj
  cbv
  rw [hj,hx]
  cbv
  refine br hD (fun h=>?_) (fun h=>?_)<;>cbv
  ·have h : (x == s) = true:=h
   rw [h,Bool.true_or] at hk2
   exact Aj hD hk2.symm
  ·have h : (x == s) = false:=h
   rw [h,Bool.false_or] at hk2
   refine ⟨_,hst.1,?_⟩
   rw [hJ]
   unfold inJ
   subst hD
   exact ⟨i + 1,_,rfl,rfl,hst.2,hk2⟩
 have he:=V.eq R.n (of_decide_eq_false (p:=I < n) h)
 have hdn : l.drop i = []:=List.drop_eq_nil_of_le (by omega)
 rw [hdn] at hk2
 exact Aj hD hk2.symm
end Go.Proofs.YtefelnhpfdcleaaGreatDoor
namespace Go.Proofs.YtefelnhpfdcleaaGreatDoor
open Go Go.Sx
set_option maxRecDepth 100000
set_option maxHeartbeats 8000000
theorem Ju {g : Nat→List SV} {l : List (List UInt8)} (h : Xs g (l.map fun s=>[.str s])) (hl : l.length≤9223372036854775807) : A8 g l.length l:=by
 refine ⟨rfl,fun i hi=>h.h i _ ?_,hl⟩
 rw [List.getElem?_map,List.getElem?_eq_getElem hi,List.getD_eq_getElem?_getD,List.getElem?_eq_getElem hi]
 rfl
def spFixed : FSpec:=fun _ xs ls K=>xs = []∧ls = []∧∀ f,A8 f 7 fixedL→K (.osl (.a false) (.a 7) 0) [.own 9 (.a 7) 1 true f]
theorem W2 : Ar Tryz.prog gl 101 spFixed:=by
 refine A4 (gh:=[(999985,[])]) mixed A0 Ae Tryz.func101 (by kernel_rfl) (by kernel_rfl) ?_
 intro xs ls K h
 unfold spFixed at h
 obtain ⟨rfl,rfl,h⟩:=h
 obtain ⟨f1,R1⟩ : ∃ f1,A8 f1 7 fixedL:=⟨_,A8.row (l:=fixedL) (by decide)⟩
 refine ⟨_,_,h f1 R1,fun D hD=>?_⟩
 cbv
 clear h
 intro g hg
 cbv
 have R : A8 g 7 fixedL:=Ju (l:=fixedL) hg (by decide)
 subst hD
 refine Se (Ze rfl rfl) rfl fun i hi=>?_
 have hi : (i : Int) < 7:=hi
 have hi : i < fixedL.length:=by show i < 7; omega
 rw [R.f i hi,R1.f i hi]
def spIs : FSpec:=fun _ xs ls K=>∃ (a b s : List UInt8),xs = [.agg [.str a,.str b],.str s]∧ls = []∧a.length≤9223372036854775807∧s.length≤9223372036854775807∧∀ r : Bool,r = (Ao a == Ao s)→K (.bool (.a r)) []
theorem Al2 : Ar Tryz.prog gl 129 spIs:=by
 refine A4 (gh:=[]) mixed A0 (Aa D1 Ae) Tryz.func129 (by kernel_rfl) (by kernel_rfl) ?_
 intro xs ls K h
 unfold spIs at h
 obtain ⟨a,b,s,rfl,rfl,ha,hs,h⟩:=h
 obtain ⟨k,hk⟩ : ∃ k,k = (Ao a == Ao s):=⟨_,rfl⟩
 refine ⟨_,_,h k hk,fun D hD=>?_⟩
 cbv
 clear h
 refine ⟨a,rfl,rfl,ha,fun u hu=>?_⟩
 cbv
 refine ⟨s,rfl,rfl,hs,fun v hv=>?_⟩
 cbv
 refine Aj hD ?_
 rw [hk,←hu,←hv]
 rfl
def D3 (l : List HF) (t : List UInt8) : List (List UInt8):=(l.filter fun x=>Ao x.name == Ao t).map HF.value
theorem Kh (x : HF) (l : List HF) (t : List UInt8) : D3 (x :: l) t = if Ao x.name == Ao t then x.value :: D3 l t else D3 l t:=by
 unfold D3
 rw [List.filter_cons]
 split<;>simp
def spGet : FSpec:=fun _ xs ls K=>∃ (l : List HF) (t : List UInt8) (nl : Bool) (n : Int) (f : Nat→List SV),xs = [.sl (.a nl) (.a n) 2 f,.str t]∧ls = []∧A9 f n l∧l.length≤100∧t.length≤1000∧∀ r g n' b,r = D3 l t→GrS g n' b r→K (.sl (.a b) (.a n') 1 g) []
structure GtJ (l : List HF) (t : List UInt8) (k out : List (List UInt8)) (i : Nat) (I n : Int) (b : Bool) (f : Nat→List SV) (m : Nat) : Prop where
 lie : AtR l i I m
 row : GrS f n b out
 ol : out.length≤i
 k : k = out ++ D3 (l.drop i) t
def gtJ (l : List HF) (t : List UInt8) (k : List (List UInt8)) (nl : Bool) (N : Int) (F : Nat→List SV) (m : Nat) (vs : List (Option SV)) (hp : List Hl) : Prop :=
 ∃ (out : List (List UInt8)) (i : Nat) (I n : Int) (b : Bool) (f : Nat→List SV),vs = [some (.sl (.a nl) (.a N) 2 F),some (.str t),some (.gsl (.a b) (.a n) 1 f 0),some (.int .i64 (.a I))]∧hp = [.tail 9 (.a n) 1]∧GtJ l t k out i I n b f m
theorem Mz (l : List HF) (t : List UInt8) : (D3 l t).length≤l.length:=by
 unfold D3
 rw [List.length_map]
 exact List.length_filter_le ..
theorem Af8 : Ar Tryz.prog gl 102 spGet:=by
 refine A4 (gh:=[(1,[.attach 5 9])]) mixed A0 (Aa Al2 Ae) Tryz.func102 (by kernel_rfl) (by kernel_rfl) ?_
 intro xs ls K h
 unfold spGet at h
 obtain ⟨l,t,nl,N,F,rfl,rfl,R,hl,ht,h⟩:=h
 obtain ⟨k,hk⟩ : ∃ k,k = D3 l t:=⟨_,rfl⟩
 have hkl:=Mz l t
 rw [←hk] at hkl
 obtain ⟨f1,n1,b1,hG⟩ : ∃ f1 n1 b1,GrS f1 n1 b1 k:=⟨_,_,_,⟨A8.row (by omega),rfl⟩⟩
 clear hkl
 refine ⟨_,_,h k f1 n1 b1 hk hG,fun D hD=>?_⟩
 cbv
 clear h
 obtain ⟨J,hJ⟩ : ∃ J,J = gtJ l t k nl N F:=⟨_,rfl⟩
 refine ⟨[0,1,5,6],J,⟨rfl,l.length,?_⟩,?_⟩
 ·rw [hJ]
  subst hD
  exact ⟨[],0,_,_,_,_,rfl,rfl,⟨AtR.zero R.len,GrS.nil,Nat.le_refl _,hk⟩⟩
 clear hk
 intro m vs hp hj
 rw [hJ] at hj
 obtain ⟨out,i,I,n,b,f,rfl,rfl,V⟩:=hj
 cbv
 refine br hD (fun h=>?_) (fun h=>?_)<;>cbv
 ·have hlt:=V.lie.lt R.n (of_decide_eq_true (p:=I < N) h)
  clear h
  have inA:=V.lie.inB hD R.n hlt
  have hx:=R.f i hlt
  have hsm:=R.small i hlt
  have hst:=V.lie.step hD hlt
  have hk:=V.k
  rw [M7 hlt,Kh] at hk
  obtain ⟨x,hxx⟩ : ∃ x,x = l.getD i default:=⟨_,rfl⟩
  rw [←hxx] at hx hk hsm
  clear hxx
  obtain ⟨xn,xv⟩:=x
  refine ⟨inA,fun j hj=>?_⟩
  have hj:=V.lie.j hD hj
  cbv
  rw [hj,hx]
  cbv
  refine ⟨xn,xv,t,rfl,rfl,hsm.1,by omega,fun r hr=>?_⟩
  cbv
  simp only at hk
  rw [←hr] at hk
  clear hr hj
  refine br hD (fun h=>?_) (fun h=>?_)<;>cbv
  ·have h : r = true:=h
   rw [if_pos h] at hk
   clear h
   refine ⟨inA,fun j hj=>?_⟩
   have hj:=V.lie.j hD hj
   cbv
   rw [hj,hx]
   cbv
   clear hj
   intro g hg
   cbv
   have hg0 : g 0 = [.str xv]:=hg.h 0 _ rfl
   clear hg
   refine ⟨by subst hD; exact ⟨rfl,by have:=V.row.row.n; have:=V.ol; show (n + 1) * 16≤_; omega,by have:=V.row.row.n; have:=V.ol; show n + 1≤_; omega⟩,fun f' n' hm=>?_⟩
   cbv
   have G2 : ∀ nl',nl' = false→GrS f' n' nl' (out ++ [xv]):=fun nl' hb=>⟨V.row.row.more hg0 (by subst hD; exact hm) (by have:=V.ol; omega),by rw [hb]; simp⟩
   clear hm
   refine ⟨_,hst.1,?_⟩
   rw [hJ]
   unfold gtJ
   subst hD
   refine ⟨out ++ [xv],i + 1,_,n',(b && false),f',rfl,rfl,⟨hst.2,G2 _ (Bool.and_false _),by have:=V.ol; simp; omega,by rw [hk]; simp⟩⟩
  ·have h : r = false:=h
   rw [if_neg (by rw [h]; simp)] at hk
   refine ⟨_,hst.1,?_⟩
   rw [hJ]
   unfold gtJ
   subst hD
   exact ⟨out,i + 1,_,n,b,f,rfl,rfl,⟨hst.2,V.row,by have:=V.ol; omega,hk⟩⟩
 have hi:=V.lie.eq R.n (of_decide_eq_false (p:=I < N) h)
 have hdn : l.drop i = []:=List.drop_eq_nil_of_le (by omega)
 have hk:=V.k
 rw [hdn] at hk
 have hk : k = out:=by rw [hk]; simp [D3]
 subst hk
 subst hD
 exact D6 (Mv V.row hG rfl rfl)
end Go.Proofs.YtefelnhpfdcleaaGreatDoor
namespace Go.Proofs.YtefelnhpfdcleaaGreatDoor
open Go Go.Sx
set_option maxRecDepth 100000
set_option maxHeartbeats 16000000
def Gu (els : List (List UInt8)) : List (List UInt8):=(els.filter Br).map Ao
def Ce : List (List UInt8)→List (List UInt8)→Option (List (List UInt8))
 | [],out=>some out
 | v :: r,out=>if (Al v).2≠0 then none else Ce r (out ++ Gu (Al v).1)
theorem Kk (x : List UInt8) (l : List (List UInt8)) : Gu (x :: l) = if Br x then Ao x :: Gu l else Gu l:=by
 unfold Gu
 rw [List.filter_cons]
 split<;>simp
theorem W5 (l : List (List UInt8)) : (Gu l).length≤l.length:=by
 unfold Gu
 rw [List.length_map]
 exact List.length_filter_le ..
def spNames : FSpec:=fun _ xs ls K=>∃ (l : List HF) (nl : Bool) (n : Int) (f : Nat→List SV),xs = [.sl (.a nl) (.a n) 2 f]∧ls = []∧A9 f n l∧A7 l = 0∧
 ∀ k r e g n' b,k = Ce (D3 l conn) fixedL→r = k.getD []→e = (if k.isSome then (0 : Int) else 6)→GrS g n' b r→K (.tup [.sl (.a b) (.a n') 1 g,.int .i64 (.a e)]) []
structure NaJ (vs : List (List UInt8)) (k : Option (List (List UInt8))) (out : List (List UInt8)) (i : Nat) (I n : Int) (b : Bool) (f : Nat→List SV) (m : Nat) : Prop where
 lie : AtR vs i I m
 row : A8 f n out
 nl : b = false
 ol : out.length≤7 + i * 2001
 ne : out≠[]
 vl : vs.length≤100
 vm : ∀ x∈vs,x.length≤2000
 k : k = Ce (vs.drop i) out
def naJ (vs0 : List (List UInt8)) (bv : Bool) (nv : Int) (gv : Nat→List SV) (k : Option (List (List UInt8))) (m : Nat) (vs : List (Option SV)) (hp : List Hl) : Prop :=
 ∃ (out : List (List UInt8)) (i : Nat) (I n : Int) (b : Bool) (f : Nat→List SV),vs = [some (.osl (.a b) (.a n) 0),some (.sl (.a bv) (.a nv) 1 gv),some (.int .i64 (.a I))]∧hp = [.own 9 (.a n) 1 true f]∧NaJ vs0 k out i I n b f m
structure NbJ (els : List (List UInt8)) (fin out : List (List UInt8)) (i j : Nat) (J n : Int) (b : Bool) (f : Nat→List SV) (m : Nat) : Prop where
 lie : AtR els j J m
 row : A8 f n out
 nl : b = false
 ol : out.length≤7 + i * 2001 + j
 el : els.length≤2001
 i : i≤100
 ne : out≠[]
 k : fin = out ++ Gu (els.drop j)
def nbJ (els fin : List (List UInt8)) (i : Nat) (I : Int) (bv : Bool) (nv : Int) (gv : Nat→List SV) (be : Bool) (ne : Int) (ge : Nat→List SV) (m : Nat) (vs : List (Option SV)) (hp : List Hl) : Prop :=
 ∃ (out : List (List UInt8)) (j : Nat) (J n : Int) (b : Bool) (f : Nat→List SV),vs = [some (.osl (.a b) (.a n) 0),some (.sl (.a bv) (.a nv) 1 gv),some (.int .i64 (.a I)),some (.sl (.a be) (.a ne) 1 ge),some (.int .i64 (.a J))]∧hp = [.own 9 (.a n) 1 true f]∧NbJ els fin out i j J n b f m
theorem Vz : Ar Tryz.prog gl 65 spNames:=by
 refine A4 (gh:=[(2000014,[.share 4])]) mixed A0 (Aa W2 (Aa Af8 (Aa Mg (Aa Fi (Aa D1 Ae))))) Tryz.func65 (by kernel_rfl) (by kernel_rfl) ?_
 intro xs ls K h
 unfold spNames at h
 obtain ⟨l,nl,N,F,rfl,rfl,R,hck,h⟩:=h
 obtain ⟨k,hk⟩ : ∃ k,k = Ce (D3 l conn) fixedL:=⟨_,rfl⟩
 obtain ⟨kr,hkr⟩ : ∃ r,r = k.getD []:=⟨_,rfl⟩
 obtain ⟨ke,hke⟩ : ∃ e,e = (if k.isSome then (0 : Int) else 6):=⟨_,rfl⟩
 have hlen:=Di hck
 have hvm : ∀ x∈D3 l conn,x.length≤2000:=fun x hx=>by
  unfold D3 at hx
  obtain ⟨y,hy,rfl⟩:=List.mem_map.1 hx
  exact (H2 hck y (List.mem_filter.1 hy).1).2
 have hvl:=Mz l conn
 have hkb : kr.length≤1000000:=by
  have key : ∀ (vs out : List (List UInt8)),(∀ x∈vs,x.length≤2000)→((Ce vs out).getD []).length≤out.length + vs.length * 2001:=by
   intro vs
   induction vs with
   | nil=>intro out _; simp [Ce]
   | cons v r ih =>
    intro out hm
    rw [Ce]
    split
    ·simp
    ·have h1:=ih (out ++ Gu (Al v).1) fun x hx=>hm x (List.mem_cons_of_mem _ hx)
     have h2:=W5 (Al v).1
     have h3:=(B4 v).1
     have h4:=hm v (List.mem_cons_self ..)
     simp only [List.length_append,List.length_cons] at h1 ⊢
     omega
  have:=key (D3 l conn) fixedL hvm
  rw [←hk,←hkr] at this
  have e : fixedL.length = 7:=rfl
  omega
 obtain ⟨f1,n1,b1,hG⟩ : ∃ f1 n1 b1,GrS f1 n1 b1 kr:=⟨_,_,_,⟨A8.row (by omega),rfl⟩⟩
 clear hkb
 refine ⟨_,_,h k kr ke f1 n1 b1 hk hkr hke hG,fun D hD=>?_⟩
 cbv
 clear h
 intro f2 R2
 cbv
 refine ⟨l,[99,111,110,110,101,99,116,105,111,110],nl,N,F,by subst hD; rfl,rfl,R,hlen,by decide,fun vs gv nv bv hv Gv=>?_⟩
 cbv
 have hv : vs = D3 l conn:=hv
 rw [←hv] at hk hvm hvl
 clear hv
 obtain ⟨J,hJ⟩ : ∃ J,J = naJ vs bv nv gv k:=⟨_,rfl⟩
 refine ⟨[4,5,6],J,⟨rfl,vs.length,?_⟩,?_⟩
 ·rw [hJ]
  subst hD
  exact ⟨fixedL,0,_,_,_,_,rfl,rfl,⟨AtR.zero (by omega),R2,rfl,by decide,by decide,by omega,hvm,hk⟩⟩
 clear hk
 intro m ws hp hj
 rw [hJ] at hj
 obtain ⟨out,i,I,n,b,f,rfl,rfl,V⟩:=hj
 cbv
 refine br hD (fun h=>?_) (fun h=>?_)<;>cbv
 ·have hlt:=V.lie.lt Gv.row.n (of_decide_eq_true (p:=I < nv) h)
  clear h
  have inA:=V.lie.inB hD Gv.row.n hlt
  have hx:=Gv.row.f i hlt
  have hst:=V.lie.step hD hlt
  have hk:=V.k
  have hdr : vs.drop i = vs.getD i [] :: vs.drop (i + 1):=by rw [List.getD_eq_getElem?_getD,List.getElem?_eq_getElem hlt,Option.getD_some,List.drop_eq_getElem_cons hlt]
  have hxm : (vs.getD i []).length≤2000:=V.vm _ (by rw [List.getD_eq_getElem?_getD,List.getElem?_eq_getElem hlt]; exact List.getElem_mem hlt)
  rw [hdr,Ce] at hk
  obtain ⟨x,hxx⟩ : ∃ x,x = vs.getD i []:=⟨_,rfl⟩
  rw [←hxx] at hx hk hxm
  clear hdr hxx
  have hel:=(B4 x).1
  have hels:=(B4 x).2
  refine ⟨inA,fun j hj=>?_⟩
  have hj:=V.lie.j hD hj
  cbv
  rw [hj,hx]
  cbv
  clear hj
  refine ⟨x,rfl,rfl,by omega,fun els e ne be he hne hbe=>?_⟩
  generalize hge : Dd els = ge
  cbv
  rw [←he] at hk hel hels
  simp only at hk hel hels
  clear hbe
  refine br hD (fun h=>?_) (fun h=>?_)<;>cbv
  ·have h : (e != 0) = true:=h
   rw [if_pos (by simpa using h)] at hk
   rw [hk] at hkr hke
   have hkr : kr = []:=hkr
   have hke : ke = 6:=hke
   subst hkr hke
   subst hD
   exact D6 (.tup (.cons (Mv GrS.nil hG rfl rfl) (.cons (E7 rfl) .nil)))
  have h : (e != 0) = false:=h
  rw [if_neg (by simpa using h)] at hk
  clear h he
  obtain ⟨fin,hfin⟩ : ∃ fin,fin = out ++ Gu els:=⟨_,rfl⟩
  rw [←hfin] at hk
  obtain ⟨J2,hJ2⟩ : ∃ J,J = nbJ els fin i I bv nv gv be ne ge:=⟨_,rfl⟩
  refine ⟨[4,5,6,7,9],J2,⟨rfl,els.length,?_⟩,?_⟩
  ·rw [hJ2]
   subst hD
   exact ⟨out,0,_,n,b,f,rfl,rfl,⟨AtR.zero (by omega),V.row,V.nl,V.ol,hel,by have:=V.vl; omega,V.ne,hfin⟩⟩
  clear hfin
  intro m2 ws2 hp2 hj2
  rw [hJ2] at hj2
  obtain ⟨o2,j,Jj,n2,b2,f2,rfl,rfl,W⟩:=hj2
  have hneV : VI ne els.length:=⟨hne⟩
  cbv
  refine br hD (fun h=>?_) (fun h=>?_)<;>cbv
  ·have hlt2:=W.lie.lt hneV.h (of_decide_eq_true (p:=Jj < ne) h)
   clear h
   have inE:=W.lie.inB hD hneV.h hlt2
   have hst2:=W.lie.step hD hlt2
   have hkf:=W.k
   have hdr : els.drop j = els.getD j [] :: els.drop (j + 1):=by rw [List.getD_eq_getElem?_getD,List.getElem?_eq_getElem hlt2,Option.getD_some,List.drop_eq_getElem_cons hlt2]
   rw [hdr,Kk] at hkf
   obtain ⟨y,hyy⟩ : ∃ y,y = els.getD j []:=⟨_,rfl⟩
   rw [←hyy] at hkf
   have hy : ge j = [.str y]:=by rw [←hge,hyy]; rfl
   have hym : y.length≤2000:=hels y (by rw [hyy,List.getD_eq_getElem?_getD,List.getElem?_eq_getElem hlt2]; exact List.getElem_mem hlt2)
   clear hdr hyy
   refine ⟨inE,fun j2 hj2=>?_⟩
   have hj2:=W.lie.j hD hj2
   cbv
   rw [hj2,hy]
   cbv
   clear hj2
   refine ⟨y,rfl,rfl,by omega,fun tk htk=>?_⟩
   cbv
   rw [←Js] at htk
   rw [←htk] at hkf
   clear htk
   refine br hD (fun h=>?_) (fun h=>?_)<;>cbv
   ·have h : tk = true:=h
    rw [if_pos h] at hkf
    clear h
    refine ⟨inE,fun j2 hj2=>?_⟩
    have hj2:=W.lie.j hD hj2
    cbv
    rw [hj2,hy]
    cbv
    clear hj2
    refine ⟨y,rfl,rfl,by omega,fun w hw=>?_⟩
    cbv
    rw [←hw] at hkf
    clear hw
    intro g hg
    cbv
    have hg0 : g 0 = [.str w]:=hg.h 0 _ rfl
    clear hg
    refine ⟨by subst hD; exact ⟨rfl,by have:=W.row.n; have:=W.ol; have:=W.i; have:=W.lie.le; have:=W.el; show (n2 + 1) * 16≤_; omega,by have:=W.row.n; have:=W.ol; have:=W.i; have:=W.lie.le; have:=W.el; show n2 + 1≤_; omega⟩,fun f3 n3 hm=>?_⟩
    cbv
    have R3 : A8 f3 n3 (o2 ++ [w]):=W.row.more hg0 (by subst hD; exact hm) (by have:=W.ol; have:=W.i; have:=W.lie.le; have:=W.el; omega)
    clear hm
    refine ⟨_,hst2.1,?_⟩
    rw [hJ2]
    unfold nbJ
    subst hD
    refine ⟨o2 ++ [w],j + 1,_,n3,(b2 && false),f3,rfl,rfl,⟨hst2.2,R3,Bool.and_false _,by have:=W.ol; simp; omega,W.el,W.i,by simp,by rw [hkf]; simp⟩⟩
   ·have h : tk = false:=h
    rw [if_neg (by rw [h]; simp)] at hkf
    refine ⟨_,hst2.1,?_⟩
    rw [hJ2]
    unfold nbJ
    subst hD
    exact ⟨o2,j + 1,_,n2,b2,f2,rfl,rfl,⟨hst2.2,W.row,W.nl,by have:=W.ol; omega,W.el,W.i,W.ne,hkf⟩⟩
  have hi2:=W.lie.eq hneV.h (of_decide_eq_false (p:=Jj < ne) h)
  have hdn2 : els.drop j = []:=List.drop_eq_nil_of_le (by omega)
  have hkf:=W.k
  rw [hdn2] at hkf
  have hkf : fin = o2:=by rw [hkf]; simp [Gu]
  subst hkf
  clear h hdn2
  refine ⟨_,hst.1,?_⟩
  rw [hJ]
  unfold naJ
  subst hD
  exact ⟨fin,i + 1,_,n2,b2,f2,rfl,rfl,⟨hst.2,W.row,W.nl,by have:=W.ol; have:=W.el; have:=W.lie.le; omega,W.ne,V.vl,V.vm,hk⟩⟩
 have hi:=V.lie.eq Gv.row.n (of_decide_eq_false (p:=I < nv) h)
 have hdn : vs.drop i = []:=List.drop_eq_nil_of_le (by omega)
 have hk:=V.k
 rw [hdn,Ce] at hk
 clear h
 rw [hk] at hkr hke
 have hkr : kr = out:=hkr
 have hke : ke = 0:=hke
 subst hkr hke
 subst hD
 refine ⟨⟨rfl⟩,D6 (.tup (.cons (Mv ⟨V.row,?_⟩ hG rfl rfl) (.cons (E7 rfl) .nil)))⟩
 rw [V.nl]
 have:=V.ne
 cases kr with
 | nil=>exact absurd rfl this
 | cons _ _=>rfl
end Go.Proofs.YtefelnhpfdcleaaGreatDoor
namespace Go.Proofs.YtefelnhpfdcleaaGreatDoor
open Go Go.Sx
set_option maxRecDepth 100000
set_option maxHeartbeats 16000000
theorem Abb (a b : List (List UInt8)) (s : List UInt8) : inF (a ++ b) s = (inF a s || inF b s):=by
 induction a with
 | nil=>rfl
 | cons x a ih=>show ((x == s) || inF (a ++ b) s) = (((x == s) || inF a s) || inF b s); rw [ih,Bool.or_assoc]
theorem Pr {F : List UInt8→Bool} {out : List (List UInt8)} {x : List UInt8} (h : ∀ s,F s = inF out s) (s : List UInt8) : Hc F x s = inF (out ++ [x]) s:=by
 rw [Abb]
 unfold Hc
 show (if s = x then true else F s) = (inF out s || ((x == s) || false))
 rw [h s,Bool.or_false]
 by_cases e : s = x
 ·subst e; simp
 ·rw [if_neg e]
  have : (x == s) = false:=by rw [beq_eq_false_iff_ne]; exact fun h=>e h.symm
  rw [this,Bool.or_false]
theorem Gx : ∀ (els : List (List UInt8)) (F : List UInt8→Bool) (out : List (List UInt8)),(∀ s,F s = inF out s)→∀ s,Gc F els s = inF (out ++ Gu els) s
 | [],F,out,h,s=>by rw [show Gu [] = [] from rfl,List.append_nil]; exact h s
 | x :: els,F,out,h,s=>by
  rw [Kk]
  show Gc (if Br x then Hc F (Ao x) else F) els s = _
  split
  ·have:=Gx els (Hc F (Ao x)) (out ++ [Ao x]) (fun s=>Pr h s) s
   rw [this,List.append_assoc]
   rfl
  ·exact Gx els F out h s
theorem Sl : Ao conn = conn:=by decide
theorem Fd : ∀ (l : List HF) (F : List UInt8→Bool) (out : List (List UInt8)),(∀ s,F s = inF out s)→match Ce (D3 l conn) out with
  | none=>(Ei conn l F).2 = false
  | some o=>(Ei conn l F).2 = true∧∀ s,(Ei conn l F).1 s = inF o s
 | [],F,out,h=>⟨rfl,h⟩
 | x :: l,F,out,h=>by
  rw [Kh,Sl,Ei]
  by_cases hx : Ao x.name = conn
  ·rw [if_pos (by rw [hx]; simp),if_pos hx,Ce]
   by_cases he : (Al x.value).2 = 0
   ·rw [if_pos he,if_neg (by simpa using he)]
    exact Fd l _ _ (Gx _ F out h)
   ·rw [if_neg he,if_pos he]
  ·rw [if_neg (by simpa using hx),if_neg hx]
   exact Fd l F out h
theorem Iq : ∀ (l : List (List UInt8)) (F : List UInt8→Bool) (out : List (List UInt8)),(∀ s,F s = inF out s)→∀ s,(l.foldl Hc F) s = inF (out ++ l) s
 | [],F,out,h,s=>by rw [List.append_nil]; exact h s
 | x :: l,F,out,h,s=>by
  have:=Iq l (Hc F x) (out ++ [x]) (fun s=>Pr h s) s
  rw [List.foldl_cons,this,List.append_assoc]
  rfl
def Hf (o : List (List UInt8)) (l : List HF) : List HF:=l.filter fun x=>!inF o (Ao x.name)
theorem Oj {l : List HF} (h : A7 l = 0) : Bm l = match Ce (D3 l conn) fixedL with
  | none=>([],6)
  | some o=>(Hf o l,0):=by
 have hb : ∀ s,Kq s = inF fixedL s:=by
  intro s
  have:=Iq fixedL (fun _=>false) [] (fun s=>rfl) s
  rw [List.nil_append] at this
  exact this
 have hn:=Fd l Kq fixedL hb
 unfold Bm F8
 rw [if_neg (by rw [h]; simp)]
 cases hk : Ce (D3 l conn) fixedL with
 | none=>rw [hk] at hn; simp only at hn; rw [if_neg (by rw [hn]; simp)]
 | some o =>
  rw [hk] at hn
  simp only at hn
  rw [if_pos hn.1]
  unfold E4 Hf
  congr 1
  congr 1
  funext x
  unfold Lr
  rw [hn.2]
def spStripR : FSpec:=fun _ xs ls K=>∃ (l : List HF) (nl : Bool) (n : Int) (f : Nat→List SV),xs = [.sl (.a nl) (.a n) 2 f]∧ls = []∧A9 f n l∧∀ r e g n' b,(r,e) = Bm l→GrH g n' b r→K (.tup [.sl (.a b) (.a n') 2 g,.int .i64 (.a e)]) []
structure StJ (l : List HF) (o : List (List UInt8)) (k out : List HF) (i : Nat) (I n : Int) (b : Bool) (f : Nat→List SV) (m : Nat) : Prop where
 lie : AtR l i I m
 row : GrH f n b out
 ol : out.length≤i
 k : k = out ++ Hf o (l.drop i)
def stJ (l : List HF) (o : List (List UInt8)) (k : List HF) (nl : Bool) (N : Int) (F : Nat→List SV) (bo : Bool) (no : Int) (go : Nat→List SV) (m : Nat) (vs : List (Option SV)) (hp : List Hl) : Prop :=
 ∃ (out : List HF) (i : Nat) (I n : Int) (b : Bool) (f : Nat→List SV),vs = [some (.sl (.a nl) (.a N) 2 F),some (.sl (.a bo) (.a no) 1 go),some (.gsl (.a b) (.a n) 2 f 0),some (.int .i64 (.a I))]∧hp = [.tail 69 (.a n) 2]∧StJ l o k out i I n b f m
theorem O1 (o : List (List UInt8)) (x : HF) (l : List HF) : Hf o (x :: l) = if !inF o (Ao x.name) then x :: Hf o l else Hf o l:=by
 unfold Hf
 rw [List.filter_cons]
theorem Jb : Ar Tryz.prog gl 25 spStripR:=by
 refine A4 (gh:=[(7,[.attach 6 69])]) mixed A0 (Aa Jc (Aa Vz (Aa D1 (Aa Af5 Ae)))) Tryz.func25 (by kernel_rfl) (by kernel_rfl) ?_
 intro xs ls K h
 unfold spStripR at h
 obtain ⟨l,nl,N,F,rfl,rfl,R,h⟩:=h
 obtain ⟨k,hk⟩ : ∃ k,k = Bm l:=⟨_,rfl⟩
 obtain ⟨kr,ke⟩:=k
 have hkb : kr.length≤1000000∧∀ x∈kr,x.small:=by
  unfold Bm at hk
  split at hk
  ·obtain ⟨rfl,_⟩:=Prod.mk.inj hk; exact ⟨by simp,fun x hx=>by cases hx⟩
  ·rename_i h1
   have:=Di (l:=l) (by simpa using h1)
   split at hk
   ·obtain ⟨rfl,_⟩:=Prod.mk.inj hk
    refine ⟨Nat.le_trans (List.length_filter_le ..) (by omega),fun x hx=>R.smallM x (List.mem_filter.1 hx).1⟩
   ·obtain ⟨rfl,_⟩:=Prod.mk.inj hk; exact ⟨by simp,fun x hx=>by cases hx⟩
 obtain ⟨f1,n1,b1,hG⟩ : ∃ f1 n1 b1,GrH f1 n1 b1 kr:=⟨_,_,_,⟨A9.row (by omega) (fun i hi=>hkb.2 _ (by rw [List.getD_eq_getElem?_getD,List.getElem?_eq_getElem hi]; exact List.getElem_mem hi)),rfl⟩⟩
 clear hkb
 refine ⟨_,_,h kr ke f1 n1 b1 hk hG,fun D hD=>?_⟩
 cbv
 clear h
 refine ⟨l,nl,N,F,by subst hD; rfl,rfl,R,fun c hc=>?_⟩
 cbv
 refine br hD (fun h=>?_) (fun h=>?_)<;>cbv
 ·have h : (c != 0) = true:=h
  have h1 : c≠0:=by simpa using h
  unfold Bm at hk
  rw [←hc,if_pos h1] at hk
  obtain ⟨rfl,rfl⟩:=Prod.mk.inj hk
  subst hD
  exact D6 (.tup (.cons (Oa GrH.nil hG rfl rfl) (.cons (E7 rfl) .nil)))
 have h : (c != 0) = false:=h
 have h1 : A7 l = 0:=by rw [←hc]; simpa using h
 have hlen:=Di h1
 rw [Oj h1] at hk
 clear h hc
 refine ⟨l,nl,N,F,by subst hD; rfl,rfl,R,h1,fun q o e go no bo hq ho he Go=>?_⟩
 cbv
 rw [←hq] at hk
 clear hq h1
 refine br hD (fun h=>?_) (fun h=>?_)<;>cbv
 ·have h : (e != 0) = true:=h
  have hqn : q = none:=by
   cases q with
   | none=>rfl
   | some _=>rw [he] at h; cases h
  subst hqn
  have he : e = 6:=he
  obtain ⟨rfl,rfl⟩:=Prod.mk.inj hk
  subst he
  subst hD
  exact D6 (.tup (.cons (Oa GrH.nil hG rfl rfl) (.cons (E7 rfl) .nil)))
 have h : (e != 0) = false:=h
 have hqs : ∃ o',q = some o':=by
  cases q with
  | none=>rw [he] at h; cases h
  | some o'=>exact ⟨o',rfl⟩
 obtain ⟨o',rfl⟩:=hqs
 have ho : o = o':=ho
 subst ho
 obtain ⟨hkr,hke⟩:=Prod.mk.inj hk
 clear hk he h
 obtain ⟨J,hJ⟩ : ∃ J,J = stJ l o kr nl N F bo no go:=⟨_,rfl⟩
 refine ⟨[0,5,6,7],J,⟨rfl,l.length,?_⟩,?_⟩
 ·rw [hJ]
  subst hD
  exact ⟨[],0,_,_,_,_,rfl,rfl,⟨AtR.zero R.len,GrH.nil,Nat.le_refl _,hkr⟩⟩
 clear hkr
 intro m vs hp hj
 rw [hJ] at hj
 obtain ⟨out,i,I,n,b,f,rfl,rfl,V⟩:=hj
 cbv
 refine br hD (fun h=>?_) (fun h=>?_)<;>cbv
 ·have hlt:=V.lie.lt R.n (of_decide_eq_true (p:=I < N) h)
  clear h
  have inA:=V.lie.inB hD R.n hlt
  have hx:=R.f i hlt
  have hsm:=R.small i hlt
  have hst:=V.lie.step hD hlt
  have hk:=V.k
  rw [M7 hlt,O1] at hk
  obtain ⟨x,hxx⟩ : ∃ x,x = l.getD i default:=⟨_,rfl⟩
  rw [←hxx] at hx hk hsm
  clear hxx
  obtain ⟨xn,xv⟩:=x
  refine ⟨inA,fun j hj=>?_⟩
  have hj:=V.lie.j hD hj
  cbv
  rw [hj,hx]
  cbv
  refine ⟨xn,rfl,rfl,hsm.1,fun w hw=>?_⟩
  cbv
  refine ⟨o,w,bo,no,go,by subst hD; rfl,rfl,Go.row,fun r hr=>?_⟩
  cbv
  simp only at hk
  rw [←hw,←hr] at hk
  clear hr hj hw
  refine br hD (fun h=>?_) (fun h=>?_)<;>cbv
  ·have h : (!r) = true:=h
   rw [if_pos h] at hk
   clear h
   refine ⟨inA,fun j hj=>?_⟩
   have hj:=V.lie.j hD hj
   cbv
   rw [hj,hx]
   cbv
   clear hj
   intro g hg
   cbv
   have hg0 : g 0 = B6 ⟨xn,xv⟩:=hg.h 0 _ rfl
   clear hg
   refine ⟨by subst hD; exact ⟨rfl,by have:=V.row.row.n; have:=V.ol; show (n + 1) * 32≤_; omega,by have:=V.row.row.n; have:=V.ol; show n + 1≤_; omega⟩,fun f' n' hm=>?_⟩
   cbv
   have G2 : ∀ nl',nl' = false→GrH f' n' nl' (out ++ [⟨xn,xv⟩]):=fun nl' hb=>V.row.more hg0 hsm (by subst hD; exact hm) (by have:=V.ol; omega) hb
   clear hm
   refine ⟨_,hst.1,?_⟩
   rw [hJ]
   unfold stJ
   subst hD
   refine ⟨out ++ [⟨xn,xv⟩],i + 1,_,n',(b && false),f',rfl,rfl,⟨hst.2,G2 _ (Bool.and_false _),by have:=V.ol; simp; omega,by rw [hk]; simp⟩⟩
  ·have h : (!r) = false:=h
   rw [if_neg (by rw [h]; simp)] at hk
   refine ⟨_,hst.1,?_⟩
   rw [hJ]
   unfold stJ
   subst hD
   exact ⟨out,i + 1,_,n,b,f,rfl,rfl,⟨hst.2,V.row,by have:=V.ol; omega,hk⟩⟩
 have hi:=V.lie.eq R.n (of_decide_eq_false (p:=I < N) h)
 have hdn : l.drop i = []:=List.drop_eq_nil_of_le (by omega)
 have hk:=V.k
 rw [hdn] at hk
 have hk : kr = out:=by rw [hk]; simp [Hf]
 subst hk
 subst hke
 subst hD
 exact D6 (.tup (.cons (Oa V.row hG rfl rfl) (.cons (E7 rfl) .nil)))
end Go.Proofs.YtefelnhpfdcleaaGreatDoor
namespace Go.Proofs.YtefelnhpfdcleaaGreatDoor
open Go Go.Sx
set_option maxRecDepth 100000
set_option maxHeartbeats 8000000
structure EnV (s : List UInt8) (i : Nat) (I : Int) : Prop where
 I : I = i
 len : s.length≤1000000
 le : i≤s.length
end Go.Proofs.YtefelnhpfdcleaaGreatDoor
namespace Go.Proofs.YtefelnhpfdcleaaGreatDoor
open Go Go.Sx
set_option maxRecDepth 100000
set_option maxHeartbeats 8000000
structure DgV (n : Int) (k : Nat) : Prop where
 lo : 0≤n
 lt : n < (k + 1 : Nat)
 hi : n≤9223372036854775807
structure HpE2 (n : Int) (k : Nat) : Prop where
 h : n < k
end Go.Proofs.YtefelnhpfdcleaaGreatDoor
namespace Go.Proofs.YtefelnhpfdcleaaGreatDoor
open Go Go.Sx
set_option maxRecDepth 100000
set_option maxHeartbeats 8000000
end Go.Proofs.YtefelnhpfdcleaaGreatDoor
namespace Go.Proofs.YtefelnhpfdcleaaGreatDoor
open Go Go.Sx
set_option maxRecDepth 100000
set_option maxHeartbeats 8000000
end Go.Proofs.YtefelnhpfdcleaaGreatDoor
namespace Go.Proofs.YtefelnhpfdcleaaGreatDoor
open Go Go.Sx
set_option maxRecDepth 100000
set_option maxHeartbeats 16000000
theorem Ald (s : List UInt8) : Lib.hasPrefix s [47] = decide (s≠[]∧charI s 0 = 47):=by
 cases s with
 | nil=>rfl
 | cons b r =>
  rw [Bool.eq_iff_iff]
  simp only [Lib.hasPrefix,List.isPrefixOf,Bool.and_true,beq_iff_eq,decide_eq_true_eq,ne_eq,reduceCtorEq,not_false_eq_true,true_and]
  unfold charI
  simp only [List.getD_cons_zero]
  constructor
  ·intro h; rw [←h]; rfl
  ·intro h
   have : b.toNat = 47:=by omega
   exact (UInt8.toNat_inj.1 this).symm
end Go.Proofs.YtefelnhpfdcleaaGreatDoor
namespace Go.Proofs.YtefelnhpfdcleaaGreatDoor
open Go Go.Sx
set_option maxRecDepth 100000
set_option maxHeartbeats 16000000
structure IdOk (id : Int) : Prop where
 lo : 0≤id
end Go.Proofs.YtefelnhpfdcleaaGreatDoor
namespace Go.Proofs.YtefelnhpfdcleaaGreatDoor
open Go Go.Sx
set_option maxRecDepth 100000
set_option maxHeartbeats 8000000
def D4 (l : List HF) (t : List UInt8) : List (List UInt8):=(l.filter fun x=>Ao x.name == t).map HF.value
theorem Jo (x : HF) (l : List HF) (t : List UInt8) : D4 (x :: l) t = if Ao x.name == t then x.value :: D4 l t else D4 l t:=by
 unfold D4
 rw [List.filter_cons]
 split<;>simp
structure VaJ (l : List HF) (t : List UInt8) (k out : List (List UInt8)) (i : Nat) (I n : Int) (b : Bool) (f : Nat→List SV) (m : Nat) : Prop where
 lie : AtR l i I m
 row : GrS f n b out
 ol : out.length≤i
 k : k = out ++ D4 (l.drop i) t
def Pa (c : Int) : Bool:=decide (48≤c) && decide (c≤57)
end Go.Proofs.YtefelnhpfdcleaaGreatDoor
namespace Go.Proofs.YtefelnhpfdcleaaGreatDoor
open Go Go.Sx
set_option maxRecDepth 100000
set_option maxHeartbeats 8000000
def Do (s : List UInt8) : HF×Bool :=
 if (!(Ah 58 s).2.2 || !Br (Ah 58 s).1) || !D2 (Ah 58 s).2.1 then (⟨[],[]⟩,false) else (⟨(Ah 58 s).1,trimF (Ah 58 s).2.1⟩,true)
structure Nc (a : List UInt8) (n : Nat) : Prop where
 h : a.length≤n
structure RdJ (s : List UInt8) (i : Nat) (I : Int) (m : Nat) : Prop where
 lie : At s i I m
 k : Ah 58 s = (s.take i ++ (Ah 58 (s.drop i)).1,(Ah 58 (s.drop i)).2)
structure EqB (a b : Bool) : Prop where
 h : a = b
end Go.Proofs.YtefelnhpfdcleaaGreatDoor
namespace Go.Proofs.YtefelnhpfdcleaaGreatDoor
open Go Go.Sx
set_option maxRecDepth 100000
set_option maxHeartbeats 400000
def Ox (b : List UInt8) (p i : Nat) : Prop:=∀ j,p≤j→j < i→b.getD j 0≠10
theorem K6 {s : List UInt8} {c : UInt8} : ∀ {j : Nat},j < s.length→s.getD j 0 = c→(∀ k,k < j→s.getD k 0≠c)→Lib.indexByte s c = (j : Int):=by
 induction s with
 | nil=>intro j h; simp at h
 | cons b r ih =>
  intro j h hc hn
  unfold Lib.indexByte
  cases j with
  | zero=>rw [if_pos (by simp [show b = c by simpa using hc])]; rfl
  | succ j =>
   have h0:=hn 0 (by omega)
   rw [if_neg (by simpa using h0)]
   rw [ih (j:=j) (by simpa using h) (by simpa using hc) (fun k hk=>by have:=hn (k + 1) (by omega); simpa using this)]
   rw [if_neg (by simp<;>omega)]
   omega
theorem Ahe {b : List UInt8} {p i : Nat} (hp : p≤i) (h : i < b.length) (hc : b.getD i 0 = 10) (hn : Ox b p i) : Lib.indexByte (b.drop p) 10 = ((i - p : Nat) : Int):=by
 apply K6
 ·rw [List.length_drop]; omega
 ·rw [List.getD_eq_getElem?_getD,List.getElem?_drop,←List.getD_eq_getElem?_getD,show p + (i - p) = i by omega,hc]
 ·intro k hk
  have:=hn (p + k) (by omega) (by omega)
  rw [List.getD_eq_getElem?_getD,List.getElem?_drop,←List.getD_eq_getElem?_getD]; exact this
theorem Aaz {b : List UInt8} {p : Nat} (hn : Ox b p b.length) : Lib.indexByte (b.drop p) 10 = -1:=by
 apply Dr
 intro j hj
 rw [List.length_drop] at hj
 have:=hn (p + j) (by omega) (by omega)
 rw [List.getD_eq_getElem?_getD,List.getElem?_drop,←List.getD_eq_getElem?_getD]; exact this
theorem Abe {b : List UInt8} {p m : Nat} {r : List HF} (hp : p≤8192) (hn : Ox b p b.length) : hpG b (m + 1) p r = ([],0,if 8192 < b.length then 3 else 10):=by
 rw [hpG,Aaz hn]
 by_cases h : 8192 < b.length
 ·rw [if_pos (by simp [h]),if_pos h]
 ·rw [if_neg (by simp; omega),if_neg h,if_pos (by omega)]
def hpL (b : List UInt8) (m i : Nat) (r : List HF) (cr : Bool) (s : List UInt8) : List HF×Int×Int :=
 if (!cr) || decide (0≤Lib.indexByte s 13) then ([],0,6) else
 if s = [] then (r,(i : Int) + 1,0) else
 if (!(Do s).2) then ([],0,6) else
 if decide (2000 < (Do s).1.value.length) || decide (r.length = 100) then ([],0,3) else
 hpG b m (i + 1) (r ++ [(Do s).1])
theorem suf1 (s : List UInt8) (c : UInt8) : Lib.hasSuffix s [c] = (decide (s≠[]) && (s.getD (s.length - 1) 0 == c)):=by
 rw [Bool.eq_iff_iff]
 unfold Lib.hasSuffix
 rw [List.isSuffixOf_iff_suffix,Bool.and_eq_true,decide_eq_true_eq,beq_iff_eq]
 constructor
 ·rintro ⟨t,rfl⟩
  refine ⟨by simp,?_⟩
  rw [List.length_append]
  simp [List.getD_eq_getElem?_getD]
 ·rintro ⟨h1,h2⟩
  refine ⟨s.take (s.length - 1),?_⟩
  have hl : s.length - 1 < s.length:=by cases s with | nil=>exact absurd rfl h1 | cons a r=>simp
  rw [Ew hl] at h2
  have:=List.take_append_drop (s.length - 1) s
  rw [Bf hl,Ew hl,h2,List.drop_eq_nil_of_le (by omega)] at this
  exact this
theorem Abf {b : List UInt8} {p m i : Nat} {r : List HF} (hp : p≤i) (h : i < b.length) (hc : b.getD i 0 = 10) (hn : Ox b p i) (h8 : i < 8192) (cr : Bool) (hcr : cr = (decide (i≠p) && (b.getD (i - 1) 0 == 13))) :
  (cr = false→hpG b (m + 1) p r = ([],0,6))∧(cr = true→hpG b (m + 1) p r = hpL b m i r true ((b.drop p).take (i - 1 - p))):=by
 have hs : Lib.hasSuffix ((b.drop p).take (i - p)) [13] = cr:=by
  rw [suf1,hcr]
  by_cases e : i = p
  ·rw [e]; simp
  ·have hl : ((b.drop p).take (i - p)).length = i - p:=by rw [List.length_take,List.length_drop]; omega
   have e1 : decide ((b.drop p).take (i - p)≠[]) = true:=by
    rw [decide_eq_true_eq]; intro e2; rw [e2] at hl; simp at hl; omega
   have e2 : decide (i≠p) = true:=by simpa using e
   rw [e1,e2,Bool.true_and,Bool.true_and,hl]
   rw [List.getD_eq_getElem?_getD,List.getElem?_take,if_pos (by omega),List.getElem?_drop,←List.getD_eq_getElem?_getD,show p + (i - p - 1) = i - 1 by omega]
 have hkey : (cr = true→Lib.trimSuffix ((b.drop p).take (i - p)) [13] = (b.drop p).take (i - 1 - p)):=fun e=>by
  unfold Lib.trimSuffix
  rw [hs,if_pos e,List.length_take,List.length_drop,List.take_take]
  congr 1
  simp only [List.length_cons,List.length_nil]
  omega
 rw [hpG,Ahe hp h hc hn]
 rw [if_neg (by simp; omega),if_neg (by omega)]
 have ent : (((i - p : Nat) : Int)).toNat = i - p:=by omega
 rw [ent,hs]
 refine ⟨fun e=>by rw [if_pos (by rw [e]; rfl)],fun e=>?_⟩
 rw [hkey e]
 obtain ⟨s,hse⟩ : ∃ s,s = (b.drop p).take (i - 1 - p):=⟨_,rfl⟩
 rw [←hse]
 have e3 : (p : Int) + ((i - p : Nat) : Int) + 1 = (i : Int) + 1:=by omega
 have e4 : p + (i - p) + 1 = i + 1:=by omega
 rw [e3,e4,e]
 unfold hpL Do
 split
 ·rfl
 split
 ·rfl
 split
 ·simp
 ·simp only [Bool.not_true,Bool.false_eq_true,if_false]
end Go.Proofs.YtefelnhpfdcleaaGreatDoor
