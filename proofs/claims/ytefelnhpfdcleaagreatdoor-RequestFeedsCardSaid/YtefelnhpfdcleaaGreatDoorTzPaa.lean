/- Part of the proofs of the statements about requests (layer 7): a symbolic executor over the code, that it is sound, and contracts of functions; it has no conditions of its own. -/
import Derived.Test.YtefelnhpfdcleaaGreatDoorSzPbd
import Derived.Test.YtefelnhpfdcleaaGreatDoorSzPbe
import Derived.Test.YtefelnhpfdcleaaGreatDoorSzPbg
import Derived.Test.YtefelnhpfdcleaaGreatDoorSzPba
namespace Go.Proofs.YtefelnhpfdcleaaGreatDoor
open Go Go.Sx
set_option maxRecDepth 100000
set_option maxHeartbeats 400000
theorem Z2 {c : UInt8} {s : List UInt8} {i : Nat} (h : i < s.length) (hc : s.getD i 0≠c) (hk : Ah c s = (s.take i ++ (Ah c (s.drop i)).1,(Ah c (s.drop i)).2)) : Ah c s = (s.take (i + 1) ++ (Ah c (s.drop (i + 1))).1,(Ah c (s.drop (i + 1))).2):=by
 have e : Ah c (s.drop i) = (s.getD i 0 :: (Ah c (s.drop (i + 1))).1,(Ah c (s.drop (i + 1))).2):=by
  rw [Bf h]
  rw [show Ah c (s.getD i 0 :: s.drop (i + 1)) = if s.getD i 0 == c then ([],s.drop (i + 1),true) else (s.getD i 0 :: (Ah c (s.drop (i + 1))).1,(Ah c (s.drop (i + 1))).2) from rfl,if_neg (by simpa using hc)]
 rw [hk,e]
 simp only [Prod.mk.injEq,and_true]
 rw [List.take_add_one,List.getElem?_eq_getElem h,Ew h]
 simp only [Option.toList_some,List.append_assoc,List.singleton_append]
theorem Ad4 {c : UInt8} {s : List UInt8} {i : Nat} (h : i < s.length) (hc : s.getD i 0 = c) (hk : Ah c s = (s.take i ++ (Ah c (s.drop i)).1,(Ah c (s.drop i)).2)) : Ah c s = (s.take i,s.drop (i + 1),true):=by
 have e : Ah c (s.drop i) = ([],s.drop (i + 1),true):=by
  rw [Bf h]
  rw [show Ah c (s.getD i 0 :: s.drop (i + 1)) = if s.getD i 0 == c then ([],s.drop (i + 1),true) else (s.getD i 0 :: (Ah c (s.drop (i + 1))).1,(Ah c (s.drop (i + 1))).2) from rfl,if_pos (by simp only [hc,beq_self_eq_true])]
 rw [hk,e,List.append_nil]
theorem Xc {c : UInt8} {s : List UInt8} {i : Nat} (h : s.length≤i) (hk : Ah c s = (s.take i ++ (Ah c (s.drop i)).1,(Ah c (s.drop i)).2)) : Ah c s = (s,[],false):=by
 rw [hk,List.drop_eq_nil_of_le h,List.take_of_length_le h]
 simp [Ah]
def Kb (t : List UInt8) (z : Int) : List UInt8×List UInt8×Int×Int :=
 if Eh true (Ah 32 t).2.2 (Ah 32 t).1 (Ah 32 t).2.1 (decide (0≤Lib.indexByte (Ah 32 t).2.1 32)) then ([],[],0,6) else ((Ah 32 t).1,(Ah 32 t).2.1,z,0)
def N9 (w : List UInt8) : List UInt8×List UInt8×Int×Int :=
 if Eh (Lib.hasSuffix (w ++ [10]) rVer) (Ah 32 (Lib.trimSuffix (w ++ [10]) rVer)).2.2 (Ah 32 (Lib.trimSuffix (w ++ [10]) rVer)).1 (Ah 32 (Lib.trimSuffix (w ++ [10]) rVer)).2.1 (decide (0≤Lib.indexByte (Ah 32 (Lib.trimSuffix (w ++ [10]) rVer)).2.1 32)) then ([],[],0,6) else
 ((Ah 32 (Lib.trimSuffix (w ++ [10]) rVer)).1,(Ah 32 (Lib.trimSuffix (w ++ [10]) rVer)).2.1,(w.length : Int) + 1,0)
theorem Fj (b : List UInt8) : Ax b = if !(Ah 10 (b.take 1024)).2.2 && decide (b.length < 1024) then ([],[],0,10) else if !(Ah 10 (b.take 1024)).2.2 then ([],[],0,3) else N9 (Ah 10 (b.take 1024)).1:=rfl
def lnK (b : List UInt8) (i : Nat) : Prop:=Ah 10 (b.take 1024) = ((b.take 1024).take i ++ (Ah 10 ((b.take 1024).drop i)).1,(Ah 10 ((b.take 1024).drop i)).2)
theorem Als (b : List UInt8) : lnK b 0:=by unfold lnK; simp
theorem Alt {b : List UInt8} {i : Nat} (h : i < b.length) (h2 : i < 1024) (hc : b.getD i 0≠10) (hk : lnK b i) : lnK b (i + 1):=by
 have e : (b.take 1024).getD i 0 = b.getD i 0:=by
  rw [List.getD_eq_getElem?_getD,List.getD_eq_getElem?_getD,List.getElem?_take,if_pos h2]
 exact Z2 (by rw [List.length_take]; omega) (by rw [e]; exact hc) hk
theorem ln_1024 {b : List UInt8} (hk : lnK b 1024) (h : 1024≤b.length) : Ax b = ([],[],0,3):=by
 have e:=Xc (c:=10) (s:=b.take 1024) (i:=1024) (by rw [List.length_take]; omega) hk
 rw [Fj,e]
 simp only [Bool.not_false,Bool.true_and,if_true]
 rw [if_neg (by simp; omega)]
theorem ln_more {b : List UInt8} (hk : lnK b b.length) (h : b.length < 1024) : Ax b = ([],[],0,10):=by
 have e:=Xc (c:=10) (s:=b.take 1024) (i:=b.length) (by rw [List.length_take]; omega) hk
 rw [Fj,e]
 simp only [Bool.not_false,Bool.true_and]
 rw [if_pos (by simpa using h)]
theorem ln_hit {b : List UInt8} {i : Nat} (hk : lnK b i) (h : i < b.length) (h2 : i < 1024) (hc : b.getD i 0 = 10) : Ax b = N9 (b.take i):=by
 have e : (b.take 1024).getD i 0 = b.getD i 0:=by
  rw [List.getD_eq_getElem?_getD,List.getD_eq_getElem?_getD,List.getElem?_take,if_pos h2]
 have e:=Ad4 (c:=10) (s:=b.take 1024) (i:=i) (by rw [List.length_take]; omega) (by rw [e]; exact hc) hk
 rw [Fj,e]
 simp only [Bool.not_true,Bool.false_and,Bool.false_eq_true,if_false]
 rw [List.take_take,Nat.min_eq_left (by omega)]
theorem Akn {b : List UInt8} {i : Nat} (h : i < b.length) (hc : b.getD i 0 = 10) : b.take (i + 1) = b.take i ++ [10]:=by
 rw [List.take_add_one,List.getElem?_eq_getElem h]
 rw [Ew h] at hc
 rw [hc]; rfl
theorem Aid {s : List UInt8} (h : s.length < 11∨s.drop (s.length - 11)≠rVer) : Lib.hasSuffix s rVer = false:=by
 cases hs : Lib.hasSuffix s rVer with
 | false=>rfl
 | true =>
  exfalso
  unfold Lib.hasSuffix at hs
  rw [List.isSuffixOf_iff_suffix] at hs
  obtain ⟨t,ht⟩:=hs
  have hl : s.length = t.length + 11:=by rw [←ht,List.length_append]; rfl
  rcases h with h | h
  ·omega
  ·apply h
   rw [←ht]
   have : (t ++ rVer).length - 11 = t.length:=by rw [ht,hl]; omega
   rw [this,List.drop_left]
theorem U2 {s : List UInt8} (h2 : s.drop (s.length - 11) = rVer) : Lib.hasSuffix s rVer = true:=by
 unfold Lib.hasSuffix
 rw [List.isSuffixOf_iff_suffix]
 exact ⟨s.take (s.length - 11),by rw [←h2]; exact List.take_append_drop _ s⟩
theorem Alu {w : List UInt8} (h : Lib.hasSuffix (w ++ [10]) rVer = false) : N9 w = ([],[],0,6):=by
 unfold N9
 rw [h]
 rw [if_pos (by simp [Eh])]
theorem Rx {w s : List UInt8} (e : s = w ++ [10]) (h2 : s.drop (s.length - 11) = rVer) : N9 w = Kb (s.take (s.length - 11)) (s.length : Int):=by
 unfold N9 Kb
 have h3:=U2 h2
 have h4 : Lib.trimSuffix s rVer = s.take (s.length - 11):=by unfold Lib.trimSuffix; rw [if_pos h3]; rfl
 rw [←e,h3,h4]
 have : ((w.length : Int) + 1) = (s.length : Int):=by rw [e]; simp
 rw [this]
def spK (t : List UInt8) (k : Nat) (p : Int) : Prop :=
 (p = -1∧Ah 32 t = (t.take k ++ (Ah 32 (t.drop k)).1,(Ah 32 (t.drop k)).2))∨
 (∃ q : Nat,p = q∧q < k∧Ah 32 t = (t.take q,t.drop (q + 1),true)∧∀ j,q + 1≤j→j < k→t.getD j 0≠32)
theorem Akv (t : List UInt8) : spK t 0 (-1):=.inl ⟨rfl,by simp⟩
theorem Akw {t : List UInt8} {k : Nat} {p : Int} (h : k < t.length) (hc : t.getD k 0≠32) (H : spK t k p) : spK t (k + 1) p:=by
 rcases H with ⟨h1,h2⟩ | ⟨q,h1,h2,h3,h4⟩
 ·exact .inl ⟨h1,Z2 h hc h2⟩
 ·refine .inr ⟨q,h1,by omega,h3,fun j hj hj2=>?_⟩
  by_cases e : j = k
  ·rw [e]; exact hc
  ·exact h4 j hj (by omega)
theorem Aii {t : List UInt8} {k : Nat} {p : Int} (h : k < t.length) (hc : t.getD k 0 = 32) (hp : p < 0) (H : spK t k p) : spK t (k + 1) (k : Int):=by
 rcases H with ⟨h1,h2⟩ | ⟨q,h1,h2,h3,h4⟩
 ·exact .inr ⟨k,rfl,by omega,Ad4 h hc h2,fun j hj hj2=>by omega⟩
 ·omega
theorem Yf {s : List UInt8} {c : UInt8} {j : Nat} (h : j < s.length) (hc : s.getD j 0 = c) : 0≤Lib.indexByte s c:=by
 induction s generalizing j with
 | nil=>simp at h
 | cons b r ih =>
  unfold Lib.indexByte
  by_cases hb : b == c
  ·rw [if_pos hb]; omega
  ·rw [if_neg hb]
   cases j with
   | zero=>exact absurd (by simpa using hc) hb
   | succ j =>
    have:=ih (j:=j) (by simpa using h) (by simpa using hc)
    rw [if_neg (by simp; omega)]
    omega
theorem Dr {s : List UInt8} {c : UInt8} (h : ∀ j,j < s.length→s.getD j 0≠c) : Lib.indexByte s c = -1:=by
 induction s with
 | nil=>rfl
 | cons b r ih =>
  unfold Lib.indexByte
  have h0:=h 0 (by simp)
  rw [if_neg (by simpa using h0),ih (fun j hj=>by have:=h (j + 1) (by simpa using hj); simpa using this)]
  rfl
theorem Ajf {t : List UInt8} {k : Nat} {p z : Int} (h : k < t.length) (hc : t.getD k 0 = 32) (hp : 0≤p) (H : spK t k p) : Kb t z = ([],[],0,6):=by
 rcases H with ⟨h1,h2⟩ | ⟨q,h1,h2,h3,h4⟩
 ·omega
 ·unfold Kb
  rw [h3]
  have : 0≤Lib.indexByte (t.drop (q + 1)) 32:=Yf (j:=k - (q + 1)) (by rw [List.length_drop]; omega) (by
   rw [List.getD_eq_getElem?_getD,List.getElem?_drop,←List.getD_eq_getElem?_getD,show q + 1 + (k - (q + 1)) = k by omega,hc])
  rw [if_pos (by simp [Eh,this])]
theorem Ajg {t : List UInt8} {p z : Int} (h : p < 1∨p = (t.length : Int) - 1) (H : spK t t.length p) : Kb t z = ([],[],0,6):=by
 rcases H with ⟨h1,h2⟩ | ⟨q,h1,h2,h3,h4⟩
 ·have:=Xc (Nat.le_refl _) h2
  unfold Kb
  rw [this,if_pos (by simp [Eh])]
 ·unfold Kb
  rw [h3,if_pos ?_]
  rcases h with h | h
  ·have : q = 0:=by omega
   simp [Eh,this]
  ·have : q + 1 = t.length:=by omega
   simp [Eh,this]
theorem Af0 {t : List UInt8} {p z : Int} (h : 1≤p) (h2 : p≠(t.length : Int) - 1) (H : spK t t.length p) : ∃ q : Nat,p = q∧q + 1≤t.length∧Kb t z = (t.take q,t.drop (q + 1),z,0):=by
 rcases H with ⟨h1,_⟩ | ⟨q,h1,h2',h3,h4⟩
 ·omega
 ·refine ⟨q,h1,by omega,?_⟩
  unfold Kb
  have : Lib.indexByte (t.drop (q + 1)) 32 = -1:=Dr (fun j hj=>by
   rw [List.length_drop] at hj
   have:=h4 (q + 1 + j) (by omega) (by omega)
   rw [List.getD_eq_getElem?_getD,List.getElem?_drop,←List.getD_eq_getElem?_getD]; exact this)
  rw [h3]
  simp only
  rw [this,if_neg]
  have e1 : t.take q≠[]:=by intro e; have:=congrArg List.length e; rw [List.length_take,List.length_nil] at this; omega
  have e2 : t.drop (q + 1)≠[]:=by intro e; have:=congrArg List.length e; rw [List.length_drop,List.length_nil] at this; omega
  simp [Eh,e1]
  omega
end Go.Proofs.YtefelnhpfdcleaaGreatDoor
namespace Go.Proofs.YtefelnhpfdcleaaGreatDoor
open Go Go.Sx
set_option maxRecDepth 100000
set_option maxHeartbeats 8000000
theorem Pe (l : List HF) (i : Nat) (h : i < l.length) (n : Int) : Ck (l.drop i) n = if Pk (l.getD i default) then 6 else if 2000 < (l.getD i default).value.length then 3 else Ck (l.drop (i + 1)) (n + G9 (l.getD i default)):=by
 have : l.drop i = l.getD i default :: l.drop (i + 1):=by rw [List.getD_eq_getElem?_getD,List.getElem?_eq_getElem h,Option.getD_some,List.drop_eq_getElem_cons h]
 rw [this,Ck]
structure HpS2 (a b : List UInt8) : Prop where
 a : a.length≤64
 b : b.length≤2000
structure RcJ (k : Int) (l : List HF) (i : Nat) (I N : Int) (m : Nat) : Prop where
 lie : AtR l i I m
 lo : 0≤N
 hi : N≤3000 * (i + 1)
 len : l.length≤100
 k : k = Ck (l.drop i) N
def rcJ (k : Int) (l : List HF) (nl : Bool) (n : Int) (f : Nat→List SV) (m : Nat) (vs : List (Option SV)) (hp : List Hl) : Prop :=
 ∃ (i : Nat) (I N : Int),vs = [some (.sl (.a nl) (.a n) 2 f),some (.int .i64 (.a N)),some (.int .i64 (.a I))]∧hp = []∧RcJ k l i I N m
theorem Jc : Ar Tryz.prog gl 64 spCheck:=by
 refine A4 (gh:=[]) mixed A0 (Aa Fi (Aa Mf (Aa Uy Ae))) Tryz.func64 (by kernel_rfl) (by kernel_rfl) ?_
 intro xs ls K h
 unfold spCheck at h
 obtain ⟨l,nl,n,f,rfl,rfl,R,h⟩:=h
 obtain ⟨k,hk⟩ : ∃ k,k = A7 l:=⟨_,rfl⟩
 refine ⟨_,_,h k hk,fun D hD=>?_⟩
 cbv
 clear h
 refine br hD (fun h=>?_) (fun h=>?_)<;>cbv
 ·refine Bq hD ?_
  have h2 : 100 < n:=of_decide_eq_true (p:=(100 : Int) < n) h
  rw [hk,A7,if_pos (by have:=R.n; omega)]
  rfl
 have h2 : n≤100:=by
  have:=of_decide_eq_false (p:=(100 : Int) < n) h
  omega
 clear h
 obtain ⟨J,hJ⟩ : ∃ J,J = rcJ k l nl n f:=⟨_,rfl⟩
 refine ⟨[0,3,4],J,⟨rfl,l.length,?_⟩,?_⟩
 ·rw [hJ]
  subst hD
  refine ⟨0,0,2,rfl,rfl,AtR.zero R.len,by omega,by omega,by have:=R.n; omega,?_⟩
  rw [hk,A7,if_neg (by have:=R.n; omega)]
  rfl
 clear hk
 intro m vs hp hj
 rw [hJ] at hj
 obtain ⟨i,I,N,rfl,rfl,V⟩:=hj
 cbv
 refine br hD (fun h=>?_) (fun h=>?_)<;>cbv
 ·have hlt:=V.lie.lt R.n (of_decide_eq_true (p:=I < n) h)
  clear h
  have inA:=V.lie.inB hD R.n hlt
  have hx:=R.f i hlt
  have hsm:=R.small i hlt
  have hk:=V.k
  rw [Pe l i hlt] at hk
  obtain ⟨x,hxx⟩ : ∃ x,x = l.getD i default:=⟨_,rfl⟩
  rw [←hxx] at hx hk hsm
  clear hxx
  have hst:=V.lie.step hD hlt
  obtain ⟨xn,xv⟩:=x
  refine ⟨inA,fun j hj=>?_⟩
  have hj:=V.lie.j hD hj
  cbv
  rw [hj,hx]
  cbv
  refine ⟨xn,rfl,rfl,hsm.1,fun a ha=>?_⟩
  cbv
  rw [←Js] at ha
  have hal : a = true→xn.length≤64:=fun e=>by
   rw [e] at ha
   unfold Br at ha
   have ha:=ha.symm
   simp only [Bool.and_eq_true,decide_eq_true_eq] at ha
   exact ha.2.2
  refine ⟨xv,rfl,rfl,hsm.2,fun b hb=>?_⟩
  cbv
  refine ⟨xv,rfl,rfl,hsm.2,fun c hc=>?_⟩
  cbv
  have hbad : Pk ⟨xn,xv⟩ = (!a || (!b || c != xv)):=by rw [Pk,ha,hb,hc]
  rw [hbad] at hk
  simp only at hk
  clear ha hb hc hbad
  refine br hD (fun h=>?_) (fun h=>?_)<;>cbv
  ·have h : ((!a || !b) || c != xv) = true:=h
   rw [if_pos (by rw [←Bool.or_assoc]; exact h)] at hk
   exact Bq hD hk.symm
  have h : ((!a || !b) || c != xv) = false:=h
  rw [if_neg (by rw [←Bool.or_assoc,h]; simp)] at hk
  have hat : a = true:=by simp only [Bool.or_eq_false_iff,Bool.not_eq_false'] at h; exact h.1.1
  clear h
  refine br hD (fun h=>?_) (fun h=>?_)<;>cbv
  ·have h : 2000 < xv.length:=by have h:=of_decide_eq_true (p:=(2000 : Int) < (xv.length : Int)) h; omega
   rw [if_pos h] at hk
   exact Bq hD hk.symm
  have h : ¬ 2000 < xv.length:=by have h:=of_decide_eq_false (p:=(2000 : Int) < (xv.length : Int)) h; omega
  rw [if_neg h] at hk
  have hxn : xn.length≤64:=hal hat
  have hV : HpS2 xn xv:=⟨hxn,by omega⟩
  have hsz : IntKind.i64.wrap (IntKind.i64.wrap (IntKind.i64.wrap (IntKind.i64.wrap (N + (xn.length : Int)) + 2) + (xv.length : Int)) + 2) = N + G9 ⟨xn,xv⟩:=by
   have:=V.lo; have:=V.hi; have:=V.lie.le; have:=V.len
   have e1:=hV.a; have e2:=hV.b
   rw [Am (n:=N + (xn.length : Int)) (by omega) (by omega),Am (n:=N + (xn.length : Int) + 2) (by omega) (by omega),Am (n:=N + (xn.length : Int) + 2 + (xv.length : Int)) (by omega) (by omega),Am (by omega) (by omega)]
   unfold G9
   simp only
   omega
  have hszb : 0≤G9 ⟨xn,xv⟩∧G9 ⟨xn,xv⟩≤3000:=by unfold G9; simp only; omega
  refine ⟨_,hst.1,?_⟩
  rw [hJ]
  unfold rcJ
  subst hD
  refine ⟨i + 1,_,_,rfl,rfl,⟨hst.2,?_,?_,V.len,?_⟩⟩
  ·show 0≤IntKind.i64.wrap (IntKind.i64.wrap (IntKind.i64.wrap (IntKind.i64.wrap (N + (xn.length : Int)) + 2) + (xv.length : Int)) + 2)
   rw [hsz]; have:=V.lo; omega
  ·show IntKind.i64.wrap (IntKind.i64.wrap (IntKind.i64.wrap (IntKind.i64.wrap (N + (xn.length : Int)) + 2) + (xv.length : Int)) + 2)≤_
   rw [hsz]; have:=V.hi; omega
  ·rw [hk]
   show _ = Ck _ (IntKind.i64.wrap (IntKind.i64.wrap (IntKind.i64.wrap (IntKind.i64.wrap (N + (xn.length : Int)) + 2) + (xv.length : Int)) + 2))
   rw [hsz]
 have hi:=V.lie.eq R.n (of_decide_eq_false (p:=I < n) h)
 have hdn : l.drop i = []:=List.drop_eq_nil_of_le (by omega)
 have hk:=V.k
 rw [hdn,Ck] at hk
 clear h
 refine br hD (fun h=>?_) (fun h=>?_)<;>cbv
 ·have h : 8192 < N:=of_decide_eq_true (p:=(8192 : Int) < N) h
  rw [if_pos h] at hk
  exact Bq hD hk.symm
 ·have h : ¬ 8192 < N:=of_decide_eq_false (p:=(8192 : Int) < N) h
  rw [if_neg h] at hk
  exact Bq hD hk.symm
def inF : List (List UInt8)→List UInt8→Bool
 | [],_=>false
 | x :: l,s=>(x == s) || inF l s
theorem inF_iff {l : List (List UInt8)} {s : List UInt8} : inF l s = true↔s∈l:=by
 induction l with
 | nil=>simp [inF]
 | cons x l ih =>
  rw [inF,Bool.or_eq_true,ih,beq_iff_eq,List.mem_cons]
  constructor
  ·rintro (h | h)
   ·exact .inl h.symm
   ·exact .inr h
  ·rintro (h | h)
   ·exact .inl h.symm
   ·exact .inr h
def spIn : FSpec:=fun _ xs ls K=>∃ (l : List (List UInt8)) (s : List UInt8) (nl : Bool) (n : Int) (f : Nat→List SV),xs = [.sl (.a nl) (.a n) 1 f,.str s]∧ls = []∧A8 f n l∧∀ r : Bool,r = inF l s→K (.bool (.a r)) []
def inJ (l : List (List UInt8)) (s : List UInt8) (nl : Bool) (n : Int) (f : Nat→List SV) (k : Bool) (m : Nat) (vs : List (Option SV)) (hp : List Hl) : Prop :=
 ∃ (i : Nat) (I : Int),vs = [some (.sl (.a nl) (.a n) 1 f),some (.str s),some (.int .i64 (.a I))]∧hp = []∧AtR l i I m∧k = inF (l.drop i) s
theorem Abc : Ar Tryz.prog gl 60 spIn:=by
 refine A4 (gh:=[]) mixed A0 Ae Tryz.func60 (by kernel_rfl) (by kernel_rfl) ?_
 intro xs ls K h
 unfold spIn at h
 obtain ⟨l,s,nl,n,f,rfl,rfl,R,h⟩:=h
 obtain ⟨k,hk⟩ : ∃ k,k = inF l s:=⟨_,rfl⟩
 refine ⟨_,_,h k hk,fun D hD=>?_⟩
 cbv
 clear h
 obtain ⟨J,hJ⟩ : ∃ J,J = inJ l s nl n f k:=⟨_,rfl⟩
 refine ⟨[0,1,5],J,⟨rfl,l.length,?_⟩,?_⟩
 ·rw [hJ]
  subst hD
  exact ⟨0,0,rfl,rfl,AtR.zero R.len,hk⟩
 intro m vs hp hv
 rw [hJ] at hv
 unfold inJ at hv
 obtain ⟨i,I,rfl,rfl,V,hk2⟩:=hv
 clear hk
 cbv
 refine br hD (fun h=>?_) (fun h=>?_)<;>cbv
 ·have hlt:=V.lt R.n (of_decide_eq_true (p:=I < n) h)
  clear h
  have inA:=V.inB hD R.n hlt
  have hx:=R.f i hlt
  have hst:=V.step hD hlt
  have hdr : l.drop i = l.getD i [] :: l.drop (i + 1):=by rw [List.getD_eq_getElem?_getD,List.getElem?_eq_getElem hlt,Option.getD_some,List.drop_eq_getElem_cons hlt]
  rw [hdr] at hk2
  obtain ⟨x,hxx⟩ : ∃ x,x = l.getD i []:=⟨_,rfl⟩
  rw [←hxx] at hx hk2
  clear hdr hxx
  have hk2 : k = ((x == s) || inF (l.drop (i + 1)) s):=hk2
  refine ⟨inA,fun j hj=>?_⟩
  have hj:=V.j hD hj
  cbv
  rw [hj,hx]
  cbv
  refine br hD (fun h=>?_) (fun h=>?_)<;>cbv
  ·have h : (x == s) = true:=h
   rw [h,Bool.true_or] at hk2
   exact Aj hD hk2.symm
  ·have h : (x == s) = false:=h
   rw [h,Bool.false_or] at hk2
   refine ⟨_,hst.1,?_⟩
   rw [hJ]
   unfold inJ
   subst hD
   exact ⟨i + 1,_,rfl,rfl,hst.2,hk2⟩
 have he:=V.eq R.n (of_decide_eq_false (p:=I < n) h)
 have hdn : l.drop i = []:=List.drop_eq_nil_of_le (by omega)
 rw [hdn] at hk2
 exact Aj hD hk2.symm
theorem Af5 : Ar Tryz.prog gl 66 spIn:=by
 refine A4 (gh:=[]) mixed A0 Ae Tryz.func66 (by kernel_rfl) (by kernel_rfl) ?_
 intro xs ls K h
 unfold spIn at h
 obtain ⟨l,s,nl,n,f,rfl,rfl,R,h⟩:=h
 obtain ⟨k,hk⟩ : ∃ k,k = inF l s:=⟨_,rfl⟩
 refine ⟨_,_,h k hk,fun D hD=>?_⟩
 cbv
 clear h
 obtain ⟨J,hJ⟩ : ∃ J,J = inJ l s nl n f k:=⟨_,rfl⟩
 refine ⟨[0,1,5],J,⟨rfl,l.length,?_⟩,?_⟩
 ·rw [hJ]
  subst hD
  exact ⟨0,0,rfl,rfl,AtR.zero R.len,hk⟩
 intro m vs hp hv
 rw [hJ] at hv
 unfold inJ at hv
 obtain ⟨i,I,rfl,rfl,V,hk2⟩:=hv
 clear hk
 cbv
 refine br hD (fun h=>?_) (fun h=>?_)<;>cbv
 ·have hlt:=V.lt R.n (of_decide_eq_true (p:=I < n) h)
  clear h
  have inA:=V.inB hD R.n hlt
  have hx:=R.f i hlt
  have hst:=V.step hD hlt
  have hdr : l.drop i = l.getD i [] :: l.drop (i + 1):=by rw [List.getD_eq_getElem?_getD,List.getElem?_eq_getElem hlt,Option.getD_some,List.drop_eq_getElem_cons hlt]
  rw [hdr] at hk2
  obtain ⟨x,hxx⟩ : ∃ x,x = l.getD i []:=⟨_,rfl⟩
  rw [←hxx] at hx hk2
  clear hdr hxx
  have hk2 : k = ((x == s) || inF (l.drop (i + 1)) s):=hk2
  refine ⟨inA,fun j hj=>?_⟩
  have hj:=V.j hD hj
  cbv
  rw [hj,hx]
  cbv
  refine br hD (fun h=>?_) (fun h=>?_)<;>cbv
  ·have h : (x == s) = true:=h
   rw [h,Bool.true_or] at hk2
   exact Aj hD hk2.symm
  ·have h : (x == s) = false:=h
   rw [h,Bool.false_or] at hk2
   refine ⟨_,hst.1,?_⟩
   rw [hJ]
   unfold inJ
   subst hD
   exact ⟨i + 1,_,rfl,rfl,hst.2,hk2⟩
 have he:=V.eq R.n (of_decide_eq_false (p:=I < n) h)
 have hdn : l.drop i = []:=List.drop_eq_nil_of_le (by omega)
 rw [hdn] at hk2
 exact Aj hD hk2.symm
end Go.Proofs.YtefelnhpfdcleaaGreatDoor
namespace Go.Proofs.YtefelnhpfdcleaaGreatDoor
open Go Go.Sx
set_option maxRecDepth 100000
set_option maxHeartbeats 8000000
def ownL : List (List UInt8):=[[104,111,115,116],[120,45,114,101,113,117,101,115,116,45,105,100],[99,111,110,116,101,110,116,45,108,101,110,103,116,104],[116,114,97,110,115,102,101,114,45,101,110,99,111,100,105,110,103]]
theorem Ju {g : Nat→List SV} {l : List (List UInt8)} (h : Xs g (l.map fun s=>[.str s])) (hl : l.length≤9223372036854775807) : A8 g l.length l:=by
 refine ⟨rfl,fun i hi=>h.h i _ ?_,hl⟩
 rw [List.getElem?_map,List.getElem?_eq_getElem hi,List.getD_eq_getElem?_getD,List.getElem?_eq_getElem hi]
 rfl
def spOwnL : FSpec:=fun _ xs ls K=>xs = []∧ls = []∧∀ f n b,GrS f n b ownL→K (.sl (.a b) (.a n) 1 f) []
theorem Alf : Ar Tryz.prog gl 61 spOwnL:=by
 refine A4 (gh:=[]) mixed A0 Ae Tryz.func61 (by kernel_rfl) (by kernel_rfl) ?_
 intro xs ls K h
 unfold spOwnL at h
 obtain ⟨rfl,rfl,h⟩:=h
 have hG : ∃ f1 n1 b1,GrS f1 n1 b1 ownL:=⟨_,_,_,⟨A8.row (by decide),rfl⟩⟩
 obtain ⟨f1,n1,b1,hG⟩:=hG
 refine ⟨_,_,h f1 n1 b1 hG,fun D hD=>?_⟩
 cbv
 clear h
 intro g hg
 cbv
 have R : A8 g 4 ownL:=Ju (l:=ownL) hg (by decide)
 subst hD
 exact D6 (Mv ⟨R,rfl⟩ hG rfl rfl)
def spFixed : FSpec:=fun _ xs ls K=>xs = []∧ls = []∧∀ f,A8 f 7 fixedL→K (.osl (.a false) (.a 7) 0) [.own 9 (.a 7) 1 true f]
theorem W2 : Ar Tryz.prog gl 101 spFixed:=by
 refine A4 (gh:=[(999985,[])]) mixed A0 Ae Tryz.func101 (by kernel_rfl) (by kernel_rfl) ?_
 intro xs ls K h
 unfold spFixed at h
 obtain ⟨rfl,rfl,h⟩:=h
 obtain ⟨f1,R1⟩ : ∃ f1,A8 f1 7 fixedL:=⟨_,A8.row (l:=fixedL) (by decide)⟩
 refine ⟨_,_,h f1 R1,fun D hD=>?_⟩
 cbv
 clear h
 intro g hg
 cbv
 have R : A8 g 7 fixedL:=Ju (l:=fixedL) hg (by decide)
 subst hD
 refine Se (Ze rfl rfl) rfl fun i hi=>?_
 have hi : (i : Int) < 7:=hi
 have hi : i < fixedL.length:=by show i < 7; omega
 rw [R.f i hi,R1.f i hi]
def spIs : FSpec:=fun _ xs ls K=>∃ (a b s : List UInt8),xs = [.agg [.str a,.str b],.str s]∧ls = []∧a.length≤9223372036854775807∧s.length≤9223372036854775807∧∀ r : Bool,r = (Ao a == Ao s)→K (.bool (.a r)) []
theorem Al2 : Ar Tryz.prog gl 129 spIs:=by
 refine A4 (gh:=[]) mixed A0 (Aa D1 Ae) Tryz.func129 (by kernel_rfl) (by kernel_rfl) ?_
 intro xs ls K h
 unfold spIs at h
 obtain ⟨a,b,s,rfl,rfl,ha,hs,h⟩:=h
 obtain ⟨k,hk⟩ : ∃ k,k = (Ao a == Ao s):=⟨_,rfl⟩
 refine ⟨_,_,h k hk,fun D hD=>?_⟩
 cbv
 clear h
 refine ⟨a,rfl,rfl,ha,fun u hu=>?_⟩
 cbv
 refine ⟨s,rfl,rfl,hs,fun v hv=>?_⟩
 cbv
 refine Aj hD ?_
 rw [hk,←hu,←hv]
 rfl
def D3 (l : List HF) (t : List UInt8) : List (List UInt8):=(l.filter fun x=>Ao x.name == Ao t).map HF.value
theorem Kh (x : HF) (l : List HF) (t : List UInt8) : D3 (x :: l) t = if Ao x.name == Ao t then x.value :: D3 l t else D3 l t:=by
 unfold D3
 rw [List.filter_cons]
 split<;>simp
def spGet : FSpec:=fun _ xs ls K=>∃ (l : List HF) (t : List UInt8) (nl : Bool) (n : Int) (f : Nat→List SV),xs = [.sl (.a nl) (.a n) 2 f,.str t]∧ls = []∧A9 f n l∧l.length≤100∧t.length≤1000∧∀ r g n' b,r = D3 l t→GrS g n' b r→K (.sl (.a b) (.a n') 1 g) []
structure GtJ (l : List HF) (t : List UInt8) (k out : List (List UInt8)) (i : Nat) (I n : Int) (b : Bool) (f : Nat→List SV) (m : Nat) : Prop where
 lie : AtR l i I m
 row : GrS f n b out
 ol : out.length≤i
 k : k = out ++ D3 (l.drop i) t
def gtJ (l : List HF) (t : List UInt8) (k : List (List UInt8)) (nl : Bool) (N : Int) (F : Nat→List SV) (m : Nat) (vs : List (Option SV)) (hp : List Hl) : Prop :=
 ∃ (out : List (List UInt8)) (i : Nat) (I n : Int) (b : Bool) (f : Nat→List SV),vs = [some (.sl (.a nl) (.a N) 2 F),some (.str t),some (.gsl (.a b) (.a n) 1 f 0),some (.int .i64 (.a I))]∧hp = [.tail 9 (.a n) 1]∧GtJ l t k out i I n b f m
theorem Mz (l : List HF) (t : List UInt8) : (D3 l t).length≤l.length:=by
 unfold D3
 rw [List.length_map]
 exact List.length_filter_le ..
theorem Af8 : Ar Tryz.prog gl 102 spGet:=by
 refine A4 (gh:=[(1,[.attach 5 9])]) mixed A0 (Aa Al2 Ae) Tryz.func102 (by kernel_rfl) (by kernel_rfl) ?_
 intro xs ls K h
 unfold spGet at h
 obtain ⟨l,t,nl,N,F,rfl,rfl,R,hl,ht,h⟩:=h
 obtain ⟨k,hk⟩ : ∃ k,k = D3 l t:=⟨_,rfl⟩
 have hkl:=Mz l t
 rw [←hk] at hkl
 obtain ⟨f1,n1,b1,hG⟩ : ∃ f1 n1 b1,GrS f1 n1 b1 k:=⟨_,_,_,⟨A8.row (by omega),rfl⟩⟩
 clear hkl
 refine ⟨_,_,h k f1 n1 b1 hk hG,fun D hD=>?_⟩
 cbv
 clear h
 obtain ⟨J,hJ⟩ : ∃ J,J = gtJ l t k nl N F:=⟨_,rfl⟩
 refine ⟨[0,1,5,6],J,⟨rfl,l.length,?_⟩,?_⟩
 ·rw [hJ]
  subst hD
  exact ⟨[],0,_,_,_,_,rfl,rfl,⟨AtR.zero R.len,GrS.nil,Nat.le_refl _,hk⟩⟩
 clear hk
 intro m vs hp hj
 rw [hJ] at hj
 obtain ⟨out,i,I,n,b,f,rfl,rfl,V⟩:=hj
 cbv
 refine br hD (fun h=>?_) (fun h=>?_)<;>cbv
 ·have hlt:=V.lie.lt R.n (of_decide_eq_true (p:=I < N) h)
  clear h
  have inA:=V.lie.inB hD R.n hlt
  have hx:=R.f i hlt
  have hsm:=R.small i hlt
  have hst:=V.lie.step hD hlt
  have hk:=V.k
  rw [M7 hlt,Kh] at hk
  obtain ⟨x,hxx⟩ : ∃ x,x = l.getD i default:=⟨_,rfl⟩
  rw [←hxx] at hx hk hsm
  clear hxx
  obtain ⟨xn,xv⟩:=x
  refine ⟨inA,fun j hj=>?_⟩
  have hj:=V.lie.j hD hj
  cbv
  rw [hj,hx]
  cbv
  refine ⟨xn,xv,t,rfl,rfl,hsm.1,by omega,fun r hr=>?_⟩
  cbv
  simp only at hk
  rw [←hr] at hk
  clear hr hj
  refine br hD (fun h=>?_) (fun h=>?_)<;>cbv
  ·have h : r = true:=h
   rw [if_pos h] at hk
   clear h
   refine ⟨inA,fun j hj=>?_⟩
   have hj:=V.lie.j hD hj
   cbv
   rw [hj,hx]
   cbv
   clear hj
   intro g hg
   cbv
   have hg0 : g 0 = [.str xv]:=hg.h 0 _ rfl
   clear hg
   refine ⟨by subst hD; exact ⟨rfl,by have:=V.row.row.n; have:=V.ol; show (n + 1) * 16≤_; omega,by have:=V.row.row.n; have:=V.ol; show n + 1≤_; omega⟩,fun f' n' hm=>?_⟩
   cbv
   have G2 : ∀ nl',nl' = false→GrS f' n' nl' (out ++ [xv]):=fun nl' hb=>⟨V.row.row.more hg0 (by subst hD; exact hm) (by have:=V.ol; omega),by rw [hb]; simp⟩
   clear hm
   refine ⟨_,hst.1,?_⟩
   rw [hJ]
   unfold gtJ
   subst hD
   refine ⟨out ++ [xv],i + 1,_,n',(b && false),f',rfl,rfl,⟨hst.2,G2 _ (Bool.and_false _),by have:=V.ol; simp; omega,by rw [hk]; simp⟩⟩
  ·have h : r = false:=h
   rw [if_neg (by rw [h]; simp)] at hk
   refine ⟨_,hst.1,?_⟩
   rw [hJ]
   unfold gtJ
   subst hD
   exact ⟨out,i + 1,_,n,b,f,rfl,rfl,⟨hst.2,V.row,by have:=V.ol; omega,hk⟩⟩
 have hi:=V.lie.eq R.n (of_decide_eq_false (p:=I < N) h)
 have hdn : l.drop i = []:=List.drop_eq_nil_of_le (by omega)
 have hk:=V.k
 rw [hdn] at hk
 have hk : k = out:=by rw [hk]; simp [D3]
 subst hk
 subst hD
 exact D6 (Mv V.row hG rfl rfl)
end Go.Proofs.YtefelnhpfdcleaaGreatDoor
namespace Go.Proofs.YtefelnhpfdcleaaGreatDoor
open Go Go.Sx
set_option maxRecDepth 100000
set_option maxHeartbeats 16000000
def Gu (els : List (List UInt8)) : List (List UInt8):=(els.filter Br).map Ao
def Ce : List (List UInt8)→List (List UInt8)→Option (List (List UInt8))
 | [],out=>some out
 | v :: r,out=>if (Al v).2≠0 then none else Ce r (out ++ Gu (Al v).1)
theorem Kk (x : List UInt8) (l : List (List UInt8)) : Gu (x :: l) = if Br x then Ao x :: Gu l else Gu l:=by
 unfold Gu
 rw [List.filter_cons]
 split<;>simp
theorem W5 (l : List (List UInt8)) : (Gu l).length≤l.length:=by
 unfold Gu
 rw [List.length_map]
 exact List.length_filter_le ..
def spNames : FSpec:=fun _ xs ls K=>∃ (l : List HF) (nl : Bool) (n : Int) (f : Nat→List SV),xs = [.sl (.a nl) (.a n) 2 f]∧ls = []∧A9 f n l∧A7 l = 0∧
 ∀ k r e g n' b,k = Ce (D3 l conn) fixedL→r = k.getD []→e = (if k.isSome then (0 : Int) else 6)→GrS g n' b r→K (.tup [.sl (.a b) (.a n') 1 g,.int .i64 (.a e)]) []
structure NaJ (vs : List (List UInt8)) (k : Option (List (List UInt8))) (out : List (List UInt8)) (i : Nat) (I n : Int) (b : Bool) (f : Nat→List SV) (m : Nat) : Prop where
 lie : AtR vs i I m
 row : A8 f n out
 nl : b = false
 ol : out.length≤7 + i * 2001
 ne : out≠[]
 vl : vs.length≤100
 vm : ∀ x∈vs,x.length≤2000
 k : k = Ce (vs.drop i) out
def naJ (vs0 : List (List UInt8)) (bv : Bool) (nv : Int) (gv : Nat→List SV) (k : Option (List (List UInt8))) (m : Nat) (vs : List (Option SV)) (hp : List Hl) : Prop :=
 ∃ (out : List (List UInt8)) (i : Nat) (I n : Int) (b : Bool) (f : Nat→List SV),vs = [some (.osl (.a b) (.a n) 0),some (.sl (.a bv) (.a nv) 1 gv),some (.int .i64 (.a I))]∧hp = [.own 9 (.a n) 1 true f]∧NaJ vs0 k out i I n b f m
structure NbJ (els : List (List UInt8)) (fin out : List (List UInt8)) (i j : Nat) (J n : Int) (b : Bool) (f : Nat→List SV) (m : Nat) : Prop where
 lie : AtR els j J m
 row : A8 f n out
 nl : b = false
 ol : out.length≤7 + i * 2001 + j
 el : els.length≤2001
 i : i≤100
 ne : out≠[]
 k : fin = out ++ Gu (els.drop j)
def nbJ (els fin : List (List UInt8)) (i : Nat) (I : Int) (bv : Bool) (nv : Int) (gv : Nat→List SV) (be : Bool) (ne : Int) (ge : Nat→List SV) (m : Nat) (vs : List (Option SV)) (hp : List Hl) : Prop :=
 ∃ (out : List (List UInt8)) (j : Nat) (J n : Int) (b : Bool) (f : Nat→List SV),vs = [some (.osl (.a b) (.a n) 0),some (.sl (.a bv) (.a nv) 1 gv),some (.int .i64 (.a I)),some (.sl (.a be) (.a ne) 1 ge),some (.int .i64 (.a J))]∧hp = [.own 9 (.a n) 1 true f]∧NbJ els fin out i j J n b f m
theorem Vz : Ar Tryz.prog gl 65 spNames:=by
 refine A4 (gh:=[(2000014,[.share 4])]) mixed A0 (Aa W2 (Aa Af8 (Aa Mg (Aa Fi (Aa D1 Ae))))) Tryz.func65 (by kernel_rfl) (by kernel_rfl) ?_
 intro xs ls K h
 unfold spNames at h
 obtain ⟨l,nl,N,F,rfl,rfl,R,hck,h⟩:=h
 obtain ⟨k,hk⟩ : ∃ k,k = Ce (D3 l conn) fixedL:=⟨_,rfl⟩
 obtain ⟨kr,hkr⟩ : ∃ r,r = k.getD []:=⟨_,rfl⟩
 obtain ⟨ke,hke⟩ : ∃ e,e = (if k.isSome then (0 : Int) else 6):=⟨_,rfl⟩
 have hlen:=Di hck
 have hvm : ∀ x∈D3 l conn,x.length≤2000:=fun x hx=>by
  unfold D3 at hx
  obtain ⟨y,hy,rfl⟩:=List.mem_map.1 hx
  exact (H2 hck y (List.mem_filter.1 hy).1).2
 have hvl:=Mz l conn
 have hkb : kr.length≤1000000:=by
  have key : ∀ (vs out : List (List UInt8)),(∀ x∈vs,x.length≤2000)→((Ce vs out).getD []).length≤out.length + vs.length * 2001:=by
   intro vs
   induction vs with
   | nil=>intro out _; simp [Ce]
   | cons v r ih =>
    intro out hm
    rw [Ce]
    split
    ·simp
    ·have h1:=ih (out ++ Gu (Al v).1) fun x hx=>hm x (List.mem_cons_of_mem _ hx)
     have h2:=W5 (Al v).1
     have h3:=(B4 v).1
     have h4:=hm v (List.mem_cons_self ..)
     simp only [List.length_append,List.length_cons] at h1 ⊢
     omega
  have:=key (D3 l conn) fixedL hvm
  rw [←hk,←hkr] at this
  have e : fixedL.length = 7:=rfl
  omega
 obtain ⟨f1,n1,b1,hG⟩ : ∃ f1 n1 b1,GrS f1 n1 b1 kr:=⟨_,_,_,⟨A8.row (by omega),rfl⟩⟩
 clear hkb
 refine ⟨_,_,h k kr ke f1 n1 b1 hk hkr hke hG,fun D hD=>?_⟩
 cbv
 clear h
 intro f2 R2
 cbv
 refine ⟨l,[99,111,110,110,101,99,116,105,111,110],nl,N,F,by subst hD; rfl,rfl,R,hlen,by decide,fun vs gv nv bv hv Gv=>?_⟩
 cbv
 have hv : vs = D3 l conn:=hv
 rw [←hv] at hk hvm hvl
 clear hv
 obtain ⟨J,hJ⟩ : ∃ J,J = naJ vs bv nv gv k:=⟨_,rfl⟩
 refine ⟨[4,5,6],J,⟨rfl,vs.length,?_⟩,?_⟩
 ·rw [hJ]
  subst hD
  exact ⟨fixedL,0,_,_,_,_,rfl,rfl,⟨AtR.zero (by omega),R2,rfl,by decide,by decide,by omega,hvm,hk⟩⟩
 clear hk
 intro m ws hp hj
 rw [hJ] at hj
 obtain ⟨out,i,I,n,b,f,rfl,rfl,V⟩:=hj
 cbv
 refine br hD (fun h=>?_) (fun h=>?_)<;>cbv
 ·have hlt:=V.lie.lt Gv.row.n (of_decide_eq_true (p:=I < nv) h)
  clear h
  have inA:=V.lie.inB hD Gv.row.n hlt
  have hx:=Gv.row.f i hlt
  have hst:=V.lie.step hD hlt
  have hk:=V.k
  have hdr : vs.drop i = vs.getD i [] :: vs.drop (i + 1):=by rw [List.getD_eq_getElem?_getD,List.getElem?_eq_getElem hlt,Option.getD_some,List.drop_eq_getElem_cons hlt]
  have hxm : (vs.getD i []).length≤2000:=V.vm _ (by rw [List.getD_eq_getElem?_getD,List.getElem?_eq_getElem hlt]; exact List.getElem_mem hlt)
  rw [hdr,Ce] at hk
  obtain ⟨x,hxx⟩ : ∃ x,x = vs.getD i []:=⟨_,rfl⟩
  rw [←hxx] at hx hk hxm
  clear hdr hxx
  have hel:=(B4 x).1
  have hels:=(B4 x).2
  refine ⟨inA,fun j hj=>?_⟩
  have hj:=V.lie.j hD hj
  cbv
  rw [hj,hx]
  cbv
  clear hj
  refine ⟨x,rfl,rfl,by omega,fun els e ne be he hne hbe=>?_⟩
  generalize hge : Dd els = ge
  cbv
  rw [←he] at hk hel hels
  simp only at hk hel hels
  clear hbe
  refine br hD (fun h=>?_) (fun h=>?_)<;>cbv
  ·have h : (e != 0) = true:=h
   rw [if_pos (by simpa using h)] at hk
   rw [hk] at hkr hke
   have hkr : kr = []:=hkr
   have hke : ke = 6:=hke
   subst hkr hke
   subst hD
   exact D6 (.tup (.cons (Mv GrS.nil hG rfl rfl) (.cons (E7 rfl) .nil)))
  have h : (e != 0) = false:=h
  rw [if_neg (by simpa using h)] at hk
  clear h he
  obtain ⟨fin,hfin⟩ : ∃ fin,fin = out ++ Gu els:=⟨_,rfl⟩
  rw [←hfin] at hk
  obtain ⟨J2,hJ2⟩ : ∃ J,J = nbJ els fin i I bv nv gv be ne ge:=⟨_,rfl⟩
  refine ⟨[4,5,6,7,9],J2,⟨rfl,els.length,?_⟩,?_⟩
  ·rw [hJ2]
   subst hD
   exact ⟨out,0,_,n,b,f,rfl,rfl,⟨AtR.zero (by omega),V.row,V.nl,V.ol,hel,by have:=V.vl; omega,V.ne,hfin⟩⟩
  clear hfin
  intro m2 ws2 hp2 hj2
  rw [hJ2] at hj2
  obtain ⟨o2,j,Jj,n2,b2,f2,rfl,rfl,W⟩:=hj2
  have hneV : VI ne els.length:=⟨hne⟩
  cbv
  refine br hD (fun h=>?_) (fun h=>?_)<;>cbv
  ·have hlt2:=W.lie.lt hneV.h (of_decide_eq_true (p:=Jj < ne) h)
   clear h
   have inE:=W.lie.inB hD hneV.h hlt2
   have hst2:=W.lie.step hD hlt2
   have hkf:=W.k
   have hdr : els.drop j = els.getD j [] :: els.drop (j + 1):=by rw [List.getD_eq_getElem?_getD,List.getElem?_eq_getElem hlt2,Option.getD_some,List.drop_eq_getElem_cons hlt2]
   rw [hdr,Kk] at hkf
   obtain ⟨y,hyy⟩ : ∃ y,y = els.getD j []:=⟨_,rfl⟩
   rw [←hyy] at hkf
   have hy : ge j = [.str y]:=by rw [←hge,hyy]; rfl
   have hym : y.length≤2000:=hels y (by rw [hyy,List.getD_eq_getElem?_getD,List.getElem?_eq_getElem hlt2]; exact List.getElem_mem hlt2)
   clear hdr hyy
   refine ⟨inE,fun j2 hj2=>?_⟩
   have hj2:=W.lie.j hD hj2
   cbv
   rw [hj2,hy]
   cbv
   clear hj2
   refine ⟨y,rfl,rfl,by omega,fun tk htk=>?_⟩
   cbv
   rw [←Js] at htk
   rw [←htk] at hkf
   clear htk
   refine br hD (fun h=>?_) (fun h=>?_)<;>cbv
   ·have h : tk = true:=h
    rw [if_pos h] at hkf
    clear h
    refine ⟨inE,fun j2 hj2=>?_⟩
    have hj2:=W.lie.j hD hj2
    cbv
    rw [hj2,hy]
    cbv
    clear hj2
    refine ⟨y,rfl,rfl,by omega,fun w hw=>?_⟩
    cbv
    rw [←hw] at hkf
    clear hw
    intro g hg
    cbv
    have hg0 : g 0 = [.str w]:=hg.h 0 _ rfl
    clear hg
    refine ⟨by subst hD; exact ⟨rfl,by have:=W.row.n; have:=W.ol; have:=W.i; have:=W.lie.le; have:=W.el; show (n2 + 1) * 16≤_; omega,by have:=W.row.n; have:=W.ol; have:=W.i; have:=W.lie.le; have:=W.el; show n2 + 1≤_; omega⟩,fun f3 n3 hm=>?_⟩
    cbv
    have R3 : A8 f3 n3 (o2 ++ [w]):=W.row.more hg0 (by subst hD; exact hm) (by have:=W.ol; have:=W.i; have:=W.lie.le; have:=W.el; omega)
    clear hm
    refine ⟨_,hst2.1,?_⟩
    rw [hJ2]
    unfold nbJ
    subst hD
    refine ⟨o2 ++ [w],j + 1,_,n3,(b2 && false),f3,rfl,rfl,⟨hst2.2,R3,Bool.and_false _,by have:=W.ol; simp; omega,W.el,W.i,by simp,by rw [hkf]; simp⟩⟩
   ·have h : tk = false:=h
    rw [if_neg (by rw [h]; simp)] at hkf
    refine ⟨_,hst2.1,?_⟩
    rw [hJ2]
    unfold nbJ
    subst hD
    exact ⟨o2,j + 1,_,n2,b2,f2,rfl,rfl,⟨hst2.2,W.row,W.nl,by have:=W.ol; omega,W.el,W.i,W.ne,hkf⟩⟩
  have hi2:=W.lie.eq hneV.h (of_decide_eq_false (p:=Jj < ne) h)
  have hdn2 : els.drop j = []:=List.drop_eq_nil_of_le (by omega)
  have hkf:=W.k
  rw [hdn2] at hkf
  have hkf : fin = o2:=by rw [hkf]; simp [Gu]
  subst hkf
  clear h hdn2
  refine ⟨_,hst.1,?_⟩
  rw [hJ]
  unfold naJ
  subst hD
  exact ⟨fin,i + 1,_,n2,b2,f2,rfl,rfl,⟨hst.2,W.row,W.nl,by have:=W.ol; have:=W.el; have:=W.lie.le; omega,W.ne,V.vl,V.vm,hk⟩⟩
 have hi:=V.lie.eq Gv.row.n (of_decide_eq_false (p:=I < nv) h)
 have hdn : vs.drop i = []:=List.drop_eq_nil_of_le (by omega)
 have hk:=V.k
 rw [hdn,Ce] at hk
 clear h
 rw [hk] at hkr hke
 have hkr : kr = out:=hkr
 have hke : ke = 0:=hke
 subst hkr hke
 subst hD
 refine ⟨⟨rfl⟩,D6 (.tup (.cons (Mv ⟨V.row,?_⟩ hG rfl rfl) (.cons (E7 rfl) .nil)))⟩
 rw [V.nl]
 have:=V.ne
 cases kr with
 | nil=>exact absurd rfl this
 | cons _ _=>rfl
end Go.Proofs.YtefelnhpfdcleaaGreatDoor
