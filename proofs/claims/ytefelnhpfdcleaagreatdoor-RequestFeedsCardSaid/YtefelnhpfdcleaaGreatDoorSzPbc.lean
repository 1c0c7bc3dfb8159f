/- Part of the proofs of the statements about requests (layer 7): a symbolic executor over the code, that it is sound, and contracts of functions; it has no conditions of its own. -/
import Derived.Test.YtefelnhpfdcleaaGreatDoorSzPbb
import Derived.Test.YtefelnhpfdcleaaGreatDoorSzPaz
namespace Go.Proofs.YtefelnhpfdcleaaGreatDoor
open Go Go.Sx
set_option maxRecDepth 100000
set_option maxHeartbeats 16000000
def Gi (s : List UInt8) : List UInt8×List UInt8×Bool×Int :=
 if (Lx s).2≠0 then ([],[],false,(Lx s).2) else if (Lx s).1≠(Ah 63 s).1.length then ([],[],false,6) else ((Ah 63 s).1,(Ah 63 s).2.1,(Ah 63 s).2.2,0)
theorem P2 {s : List UInt8} (h : (Lx s).2 = 0) : s.length≤500:=by
 unfold Lx at h
 split at h
 ·cases h
 ·omega
def spSplitT : FSpec:=fun _ xs ls K=>∃ (s : List UInt8),xs = [.str s]∧ls = []∧s.length≤9223372036854775807∧∀ p q h e,(p,q,h,e) = Gi s→K (.tup [.str p,.str q,.bool (.a h),.int .i64 (.a e)]) []
theorem Amc {D : Dn} (hD : D = dn) {p q p' q' : List UInt8} {h : Bool} {e : Int} {x : BT} {y : ST} (h1 : p' = p) (h2 : q' = q) (h3 : x.den = h) (h4 : y.den = e) : Fin (.tup [.str p',.str q',.bool (.a (D.b x)),.int .i64 (.a (D.i y))]) (.tup [.str p,.str q,.bool (.a h),.int .i64 (.a e)]) [] []:=by
 subst hD h1 h2 h3 h4; exact D6 (LeV.refl _)
theorem Aih : Ar Tryz.prog gl 13 spSplitT:=by
 refine A4 (gh:=[]) mixed A0 (Aa Y6 (Aa Xb Ae)) Tryz.func13 (by kernel_rfl) (by kernel_rfl) ?_
 intro xs ls K h
 unfold spSplitT at h
 obtain ⟨s,rfl,rfl,hs,h⟩:=h
 obtain ⟨k,hk⟩ : ∃ k,k = Gi s:=⟨_,rfl⟩
 obtain ⟨kp,kq,kh,ke⟩:=k
 refine ⟨_,_,h kp kq kh ke hk,fun D hD=>?_⟩
 clear h
 unfold Gi at hk
 cbv
 refine ⟨s,rfl,rfl,hs,fun e r her=>?_⟩
 rw [←her] at hk
 have hlen : r = 0→s.length≤500:=fun h=>P2 (by rw [←her]; exact h)
 clear her
 cbv
 refine br hD (fun h=>?_) (fun h=>?_)<;>cbv
 ·have h1 : r≠0:=by simpa using h
  rw [if_pos h1] at hk
  simp only [Prod.mk.injEq] at hk
  exact Amc hD hk.1.symm hk.2.1.symm hk.2.2.1.symm hk.2.2.2.symm
 have h1 : r = 0:=by simpa using h
 rw [if_neg (by simp [h1])] at hk
 clear h
 refine ⟨s,63,rfl,rfl,by have:=hlen h1; omega,fun a b t hc=>?_⟩
 rw [←hc] at hk
 clear hc
 cbv
 refine br hD (fun h=>?_) (fun h=>?_)<;>cbv
 ·have h2 : e≠(a.length : Int):=by have h : (e != (a.length : Int)) = true:=h; simpa using h
  rw [if_pos h2] at hk
  simp only [Prod.mk.injEq] at hk
  exact Amc hD hk.1.symm hk.2.1.symm hk.2.2.1.symm hk.2.2.2.symm
 ·have h2 : ¬ e≠(a.length : Int):=by have h : (e != (a.length : Int)) = false:=h; simpa using h
  rw [if_neg h2] at hk
  simp only [Prod.mk.injEq] at hk
  exact Amc hD hk.1.symm hk.2.1.symm hk.2.2.1.symm hk.2.2.2.symm
def Qx : List UInt8:=[48,49,50,51,52,53,54,55,56,57,65,66,67,68,69,70]
def Qu (v : Int) : List UInt8:=if Cb v.toNat = 1 then [UInt8.ofNat v.toNat] else [37,Qx.getD (v.toNat / 16) 0,Qx.getD (v.toNat % 16) 0]
def normL (s : List UInt8) (i : Nat) : List UInt8 :=
 if h : i < s.length then if Ct s i then Qu (Nx s i) ++ normL s (i + 3) else s.getD i 0 :: normL s (i + 1) else []
 termination_by s.length - i
theorem Ri {s : List UInt8} {i : Nat} (h : i < s.length) (h1 : Ct s i = true) : normL s i = Qu (Nx s i) ++ normL s (i + 3):=by
 rw [normL,dif_pos h,if_pos h1]
theorem Y8 {s : List UInt8} {i : Nat} (h : i < s.length) (h1 : Ct s i = false) : normL s i = s.getD i 0 :: normL s (i + 1):=by
 rw [normL,dif_pos h,if_neg (by simp [h1])]
theorem Ai4 {s : List UInt8} {i : Nat} (h : i = s.length) : normL s i = []:=by
 rw [normL,dif_neg (by omega)]
theorem escV_le (s : List UInt8) (i : Nat) : 0≤Nx s i∧Nx s i≤255:=by
 unfold Nx
 split
 ·rename_i h
  have h1:=(Nf (charI s (i + 1))).2
  have h2:=(Nf (charI s (i + 2))).2
  have:=h.2.2.1; have:=h.2.2.2
  omega
 ·omega
structure Bn (f : Nat→List SV) (n : Int) (t : List UInt8) : Prop where
 n : n = t.length
 f : ∀ i,i < t.length→f i = [.int .u8 (.a ((t.getD i 0).toNat : Int))]
theorem Bn.more {f f' g : Nat→List SV} {n n' m : Int} {t u : List UInt8} (R : Bn f n t) (hm : m = u.length) (hg : ∀ i,i < u.length→g i = [.int .u8 (.a ((u.getD i 0).toNat : Int))]) (h : H4 f' n' n m f g) : Bn f' n' (t ++ u):=by
 have hn:=R.n
 refine ⟨by rw [h.len,hn,hm,List.length_append]; omega,fun i hi=>?_⟩
 rw [List.length_append] at hi
 rw [List.getD_eq_getElem?_getD,List.getElem?_append]
 split
 ·rename_i h1
  rw [h.lo i (by omega),R.f i h1,List.getD_eq_getElem?_getD]
 ·rename_i h1
  rw [h.hi i (i - t.length) (by omega) (by omega),hg _ (by omega),List.getD_eq_getElem?_getD]
theorem Bn.str {f : Nat→List SV} {n : Int} {t r : List UInt8} (R : Bn f n t) (h : Li r n f) : r = t:=by
 have hn:=R.n
 have hl : r.length = t.length:=by have:=h.len; omega
 refine List.ext_getElem hl fun i h1 h2=>?_
 have:=h.row i _ (by omega) (R.f i h2)
 have h5 : ((r.getD i 0).toNat : Int) = ((t.getD i 0).toNat : Int):=this
 have this : (r.getD i 0).toNat = (t.getD i 0).toNat:=by omega
 rw [List.getD_eq_getElem?_getD,List.getElem?_eq_getElem h1,List.getD_eq_getElem?_getD,List.getElem?_eq_getElem h2] at this
 exact UInt8.toNat_inj.1 this
theorem Bn.byte {f : Nat→List SV} {n : Int} {t : List UInt8} (R : Bn f n t) : H6 n f:=by
 refine ⟨by rw [R.n]; omega,fun i hi=>⟨_,R.f i (by have:=R.n; omega),?_,?_⟩⟩
 ·show (0 : Int)≤((t.getD i 0).toNat : Int); omega
 ·have:=(t.getD i 0).toNat_lt; show ((t.getD i 0).toNat : Int) < 256; omega
structure NoJ (s k t : List UInt8) (i : Nat) (I n : Int) (f : Nat→List SV) (m : Nat) : Prop where
 lie : At s i I m
 row : Bn f n t
 k : k = t ++ normL s i
 le : t.length≤i
 len : s.length≤100000
def noJ (s k : List UInt8) (kr : Nat→List SV) (m : Nat) (vs : List (Option SV)) (hp : List Hl) : Prop :=
 ∃ (t : List UInt8) (i : Nat) (I n : Int) (nl : Bool) (f : Nat→List SV),vs = [some (.str s),some (.ptr 0 0),some (.gsl (.a nl) (.a n) 1 f 1),some (.int .i64 (.a I))]∧hp = [.row 93 (.a 256) 1 kr,.tail 5 (.a n) 1]∧NoJ s k t i I n f m
theorem Aah : ∀ q : Fin 256,(UInt8.ofNat q.1).toNat = q.1:=by decide
theorem shr16 : ∀ v : Fin 256,Bg .shr .u8 (v.1 : Int) 4 = ((v.1 / 16 : Nat) : Int):=by decide
theorem and16 : ∀ v : Fin 256,Bg .and .u8 (v.1 : Int) 15 = ((v.1 % 16 : Nat) : Int):=by decide
def spNormal : FSpec:=fun _ xs ls K=>∃ (s : List UInt8),xs = [.str s]∧ls = []∧s.length≤100000∧∀ r,r = normL s 0→K (.str r) []
theorem Ai3 : Ar Tryz.prog gl 39 spNormal:=by
 obtain ⟨Z,hZ⟩ : ∃ Z,Z = zCells:=⟨_,rfl⟩
 refine A4 (gh:=[(3000003,[])]) mixed (Amq hZ) (Aa (Adn Ada) (Aa Sw Ae)) Tryz.func39 (by kernel_rfl) (by kernel_rfl) ?_
 intro xs ls K h
 unfold spNormal at h
 obtain ⟨s,rfl,rfl,hs,h⟩:=h
 obtain ⟨k,hk⟩ : ∃ k,k = normL s 0:=⟨_,rfl⟩
 refine ⟨_,_,h k hk,fun D hD=>?_⟩
 clear h
 cbv
 intro R hR
 obtain ⟨kr0,hkr0⟩ : ∃ f,KRow f:=⟨fun i=>[.int .u8 (.a (Cb i))],⟨fun _ _=>rfl⟩⟩
 cbv
 refine ⟨by rw [hR]; exact K5.plain,zRow,by rw [hZ]; exact Oi,?_⟩
 cbv
 refine ⟨⟨by subst hD; rfl⟩,by rw [hR]; exact K5,kr0,by subst hD; rw [hR]; exact Zf hkr0,?_⟩
 clear hR
 cbv
 refine ⟨by subst hD; exact ⟨by show (0 : Int)≤s.length; omega,by show (s.length : Int) * 1≤_; omega,by show (s.length : Int)≤_; omega⟩,?_⟩
 obtain ⟨J,hJ⟩ : ∃ J,J = noJ s k kr0:=⟨_,rfl⟩
 cbv
 refine ⟨[0,3,4,5],J,⟨rfl,s.length,?_⟩,?_⟩
 ·rw [hJ]
  subst hD
  exact ⟨[],0,_,_,_,_,rfl,rfl,At.zero (by omega),⟨rfl,fun i hi=>absurd hi (by simp)⟩,hk,Nat.le_refl _,hs⟩
 clear hk
 intro m vs hp hj
 rw [hJ] at hj
 obtain ⟨t,i,I,n,nl,f,rfl,rfl,V⟩:=hj
 cbv
 refine br hD (fun h=>?_) (fun h=>?_)<;>cbv
 ·have hlt:=V.lie.lt (of_decide_eq_true (p:=I < (s.length : Int)) h)
  clear h
  refine ⟨by subst hD; exact ⟨by show 0≤I; have:=V.lie.I; omega,by show I≤s.length; have:=V.lie.I; omega,Int.le_refl _⟩,fun u hu=>?_⟩
  have hu2 : u = s.drop i:=by
   have h1 : u = (s.drop I.toNat).take ((s.length : Int).toNat - I.toNat):=by subst hD; exact hu.h
   have h2:=V.lie.I
   have h3 : I.toNat = i:=by omega
   rw [h1,h3,List.take_of_length_le (by rw [List.length_drop]; omega)]
  clear hu
  cbv
  refine ⟨u,rfl,rfl,by rw [hu2,List.length_drop]; omega,fun v b hv hb=>?_⟩
  have hb2 : b = Ct s i:=by rw [hb,hu2,W3]
  have hv2 : v = Nx s i:=by rw [hv,hu2,Ajy]
  clear hv hb hu2
  cbv
  refine br hD (fun h=>?_) (fun h=>?_)<;>cbv
  ·have he : Ct s i = false:=by rw [←hb2]; have h : (!b) = true:=h; simpa using h
   clear h
   refine ⟨V.lie.inS hD hlt,fun c hc=>?_⟩
   have hc2:=Cl hD V.lie.I hc
   clear hc
   cbv
   intro g hg
   have hg0 : g 0 = [.int .u8 (.a c)]:=by subst hD; exact hg.h 0 _ rfl
   clear hg
   cbv
   refine ⟨by subst hD; exact ⟨rfl,by have:=V.row.n; have:=V.le; show (n + 1) * 1≤_; omega,by have:=V.row.n; have:=V.le; show n + 1≤_; omega⟩,fun f' n' hm=>?_⟩
   have R2 : Bn f' n' (t ++ [s.getD i 0]):=by
    subst hD
    refine V.row.more (m:=1) rfl (fun j hj=>?_) hm
    have : j = 0:=by simpa using hj
    subst this
    rw [hg0]
    have:=hc2.h
    rw [this]; rfl
   clear hm
   cbv
   refine ⟨s.length - (i + 1),by have:=V.lie.m; omega,?_⟩
   rw [hJ]
   unfold noJ
   subst hD
   refine ⟨t ++ [s.getD i 0],i + 1,_,n',_,f',rfl,rfl,(V.lie.step rfl hlt).2,R2,?_,?_,hs⟩
   ·rw [V.k,Y8 hlt he]; simp
   ·have:=V.le; simp; omega
  have he : Ct s i = true:=by rw [←hb2]; have h : (!b) = false:=h; simpa using h
  have h3:=Np he
  have hvle:=escV_le s i
  rw [←hv2] at hvle
  clear h
  refine ⟨by subst hD; exact ⟨by show 0≤v; omega,by show v < 256; omega⟩,fun q hq=>?_⟩
  have hq0 : (q : Int) = v:=by subst hD; exact hq.h
  clear hq
  have hq2 : VI v q:=⟨hq0.symm⟩
  have hq256 : q < 256:=by omega
  have hkq:=hkr0.h q hq256
  have hqv : q = v.toNat:=by omega
  clear hq0
  obtain ⟨kq,hkq2⟩ : ∃ kq,kq = Cb q:=⟨_,rfl⟩
  rw [←hkq2] at hkq
  cbv
  refine ⟨⟨by subst hD; show (q : Int) < 256; omega⟩,?_⟩
  rw [hkq]
  have hstep : IntKind.i64.wrap (IntKind.i64.wrap (I + 2) + 1) = ((i + 3 : Nat) : Int):=by
   have:=V.lie.I
   rw [Am (n:=I + 2) (by omega) (by omega),Am (by omega) (by omega)]; omega
  cbv
  refine br hD (fun h=>?_) (fun h=>?_)<;>cbv
  ·have h1 : kq = 1:=by have h : (kq == 1) = true:=h; simpa using h
   have hO : Qu v = [UInt8.ofNat v.toNat]:=by unfold Qu; rw [if_pos (by rw [←hqv,←hkq2]; exact h1)]
   clear h
   intro g hg
   have hg0 : g 0 = [.int .u8 (.a v)]:=by subst hD; exact hg.h 0 _ rfl
   clear hg
   cbv
   refine ⟨by subst hD; exact ⟨rfl,by have:=V.row.n; have:=V.le; show (n + 1) * 1≤_; omega,by have:=V.row.n; have:=V.le; show n + 1≤_; omega⟩,fun f' n' hm=>?_⟩
   have R2 : Bn f' n' (t ++ Qu v):=by
    subst hD
    rw [hO]
    refine V.row.more (m:=1) rfl (fun j hj=>?_) hm
    have : j = 0:=by simpa using hj
    subst this
    rw [hg0]
    have : v = (((UInt8.ofNat v.toNat).toNat : Nat) : Int):=by
     have:=Aah ⟨q,hq256⟩
     simp only at this
     rw [←hqv,this]; exact hq2.h
    show [SV.int .u8 (.a v)] = [SV.int .u8 (.a (((UInt8.ofNat v.toNat).toNat : Nat) : Int))]
    rw [←this]
   clear hm
   cbv
   refine ⟨s.length - (i + 3),by have:=V.lie.m; omega,?_⟩
   rw [hJ]
   unfold noJ
   subst hD
   refine ⟨t ++ Qu v,i + 3,_,n',_,f',rfl,rfl,⟨by omega,hstep,rfl,V.lie.len⟩,R2,?_,?_,hs⟩
   ·rw [V.k,Ri hlt he,hv2]; simp
   ·have:=V.le; rw [hO]; simp; omega
  ·have h1 : kq≠1:=by have h : (kq == 1) = false:=h; simpa using h
   have hO : Qu v = [37,Qx.getD (v.toNat / 16) 0,Qx.getD (v.toNat % 16) 0]:=by unfold Qu; rw [if_neg (by rw [←hqv,←hkq2]; exact h1)]
   clear h
   have s1:=shr16 ⟨q,hq256⟩
   simp only at s1
   rw [←hq2.h] at s1
   refine ⟨⟨by subst hD; decide⟩,by subst hD; exact ⟨by show 0≤Bg .shr .u8 v 4; rw [s1]; omega,by show Bg .shr .u8 v 4 < 16; rw [s1]; omega⟩,fun c1 hc1=>?_⟩
   have hd1 : c1 = (((Qx.getD (v.toNat / 16) 0).toNat : Nat) : Int):=by
    have h5 : c1 = (((Qx.getD (Bg .shr .u8 v 4).toNat 0).toNat : Nat) : Int):=by subst hD; exact hc1.h
    rw [h5,s1,Int.toNat_natCast,hqv]
   have hd1 : VI c1 (Qx.getD (v.toNat / 16) 0).toNat:=⟨hd1⟩
   clear hc1 s1
   cbv
   have s2:=and16 ⟨q,hq256⟩
   simp only at s2
   rw [←hq2.h] at s2
   refine ⟨by subst hD; exact ⟨by show 0≤Bg .and .u8 v 15; rw [s2]; omega,by show Bg .and .u8 v 15 < 16; rw [s2]; omega⟩,fun c2 hc2=>?_⟩
   have hd2 : c2 = (((Qx.getD (v.toNat % 16) 0).toNat : Nat) : Int):=by
    have h5 : c2 = (((Qx.getD (Bg .and .u8 v 15).toNat 0).toNat : Nat) : Int):=by subst hD; exact hc2.h
    rw [h5,s2,Int.toNat_natCast,hqv]
   clear hc2 s2
   have hd2 : VI c2 (Qx.getD (v.toNat % 16) 0).toNat:=⟨hd2⟩
   cbv
   intro g hg
   have hg0 : g 0 = [.int .u8 (.a 37)]:=by subst hD; exact hg.h 0 _ rfl
   have hg1 : g 1 = [.int .u8 (.a c1)]:=by subst hD; exact hg.h 1 _ rfl
   have hg2 : g 2 = [.int .u8 (.a c2)]:=by subst hD; exact hg.h 2 _ rfl
   clear hg
   cbv
   refine ⟨by subst hD; exact ⟨rfl,by have:=V.row.n; have:=V.le; show (n + 3) * 1≤_; omega,by have:=V.row.n; have:=V.le; show n + 3≤_; omega⟩,fun f' n' hm=>?_⟩
   have R2 : Bn f' n' (t ++ Qu v):=by
    subst hD
    rw [hO]
    refine V.row.more (m:=3) rfl (fun j hj=>?_) hm
    match j,hj with
    | 0,_=>rw [hg0]; rfl
    | 1,_=>rw [hg1,hd1.h]; rfl
    | 2,_=>rw [hg2,hd2.h]; rfl
   clear hm
   cbv
   refine ⟨s.length - (i + 3),by have:=V.lie.m; omega,?_⟩
   rw [hJ]
   unfold noJ
   subst hD
   refine ⟨t ++ Qu v,i + 3,_,n',_,f',rfl,rfl,⟨by omega,hstep,rfl,V.lie.len⟩,R2,?_,?_,hs⟩
   ·rw [V.k,Ri hlt he,hv2]; simp
   ·have:=V.le; rw [hO]; simp; omega
 ·have hi:=V.lie.eq (of_decide_eq_false (p:=I < (s.length : Int)) h)
  have hk2 : k = t:=by rw [V.k,Ai4 hi,List.append_nil]
  clear h
  refine ⟨by subst hD; exact V.row.byte,fun r hr=>?_⟩
  have hr2 : r = t:=by subst hD; exact V.row.str hr
  cbv
  exact Is (by rw [hr2,hk2])
end Go.Proofs.YtefelnhpfdcleaaGreatDoor
namespace Go.Proofs.YtefelnhpfdcleaaGreatDoor
open Go Go.Sx
set_option maxRecDepth 100000
set_option maxHeartbeats 16000000
abbrev CS:=List (List UInt8)×Bool×Int
def Yl (x : List UInt8) (σ : CS) : CS:=(σ.1 ++ [x],false,σ.2.2 + 1)
def Aj5 (σ : CS) : CS:=(σ.1.dropLast,σ.2.1,σ.2.2 + 1)
def Ht (σ : CS) (s : List UInt8) (last : Bool) : CS :=
 if s≠[46]∧s≠[46,46] then Yl s σ else
 if last then Yl [] (if s = [46,46]∧σ.1≠[] then Aj5 σ else σ) else (if s = [46,46]∧σ.1≠[] then Aj5 σ else σ)
def cfr (h : Nat) : List (Nat×Option SV):=[(8,some (.ptr h 0))]
def Amv (c : LC) : FSpec:=fun _ xs ls K=>∃ (s : List UInt8) (last : Bool) (st : List (List UInt8)) (nl : Bool) (g n : Int) (f : Nat→List SV),
 xs = [.yv 0,.str s,.bool (.a last)]∧ls = [.lrec c (cfr 1) 0 none,.blk 61 [.vsl (.a nl) (.a n) (.a g) 2],.vec 9 (.a n) (.a g) 1 f]∧A8 f n st∧st.length≤100000∧
 ∀ st' nl' g' n' f',(st',nl',g') = Ht (st,nl,g) s last→A8 f' n' st'→K (.bool (.a true)) [.lrec c (cfr 1) 0 none,.blk 61 [.vsl (.a nl') (.a n') (.a g') 2],.vec 9 (.a n') (.a g') 1 f']
theorem Uo {c : UInt8} {s : List UInt8} (h : (Ah c s).2.2 = true) : (Ah c s).2.1.length < s.length:=by
 obtain ⟨_,_,h3,h4⟩:=Kl h
 rw [h3,List.length_drop]; omega
def Cq (σ : CS) (rest : List UInt8) : CS :=
 if _h : (Ah 47 rest).2.2 = true then Cq (Ht σ (Ah 47 rest).1 false) (Ah 47 rest).2.1 else Ht σ (Ah 47 rest).1 true
 termination_by rest.length
decreasing_by exact Uo _h
theorem Aan {σ : CS} {rest a b : List UInt8} (h : (a,b,true) = Ah 47 rest) : Cq σ rest = Cq (Ht σ a false) b:=by
 rw [Cq,dif_pos (by rw [←h]),←h]
theorem Aao {σ : CS} {rest a b : List UInt8} (h : (a,b,false) = Ah 47 rest) : Cq σ rest = Ht σ a true:=by
 rw [Cq,dif_neg (by rw [←h]; simp),←h]
theorem Km (σ : CS) (s : List UInt8) (last : Bool) : (Ht σ s last).1.length≤σ.1.length + 1:=by
 unfold Ht Yl Aj5
 split
 ·simp
 ·split<;>split<;>simp<;>omega
theorem Md : ∀ (n : Nat) (σ : CS) (rest : List UInt8),rest.length≤n→(Cq σ rest).1.length≤σ.1.length + rest.length + 1
 | 0,σ,rest,h=>by
  have : rest = []:=List.eq_nil_of_length_eq_zero (by omega)
  subst this
  rw [Cq,dif_neg (by simp [Ah])]
  have:=Km σ (Ah 47 []).1 true
  simp only [List.length_nil]; omega
 | n + 1,σ,rest,h=>by
  rw [Cq]
  split
  ·rename_i hc
   have h1:=Uo hc
   have h2:=Md n (Ht σ (Ah 47 rest).1 false) (Ah 47 rest).2.1 (by omega)
   have h3:=Km σ (Ah 47 rest).1 false
   omega
  ·have:=Km σ (Ah 47 rest).1 true
   omega
theorem Ame {c : LC} {path : List UInt8} {nl : Bool} {n n2 g : Int} {f f2 : Nat→List SV} {st : List (List UInt8)} (R : A8 f n st) (R2 : A8 f2 n2 st) :
  Fin (.tup []) (.tup []) [.lrec c (cfr 2) 0 none,.blk 9 [.str path],.blk 61 [.vsl (.a nl) (.a n) (.a g) 3],.vec 9 (.a n) (.a g) 1 f] [.lrec c (cfr 2) 0 none,.blk 9 [.str path],.blk 61 [.vsl (.a nl) (.a n2) (.a g) 3],.vec 9 (.a n2) (.a g) 1 f2]:=by
 obtain rfl : n = n2:=by rw [R.n,R2.n]
 refine ⟨LeV.refl _,Af1 (LeH.cons (fun _ _ _ h=>h) (LeH.cons (fun _ _ _ h=>h) (LeH.cons (fun _ _ _ h=>h) (LeH.cons (Ahj rfl rfl fun i hi=>?_) fun _ _ _ _ h=>h)))),Nat.le_refl _⟩
 have hi : (i : Int) < n:=hi
 have:=R.n
 rw [R.f i (by omega),R2.f i (by omega)]
def spSegs : FSpec:=fun _ xs ls K=>∃ (s : List UInt8),xs = [.str s]∧ls = []∧K (.clo 78 [.ptr 0 0]) [.blk 9 [.str s]]
theorem segs_ok : Ar Tryz.prog gl 38 spSegs:=by
 refine Wz (gh:=[]) mixed A0 Ae Tryz.func38 (by kernel_rfl) (by kernel_rfl) ?_
 intro xs ls K h
 unfold spSegs at h
 obtain ⟨s,rfl,rfl,h⟩:=h
 refine ⟨_,_,h,fun D hD=>?_⟩
 clear h
 cbv
 subst hD
 exact B7 rfl rfl
def Aa9 (Y : FSpec) : FSpec:=fun _ xs ls K=>∃ (c : LC) (path : List UInt8) (st : List (List UInt8)) (nl : Bool) (g n : Int) (f : Nat→List SV),Y = Amv c∧
 xs = [.yv 0,.ptr 1 0]∧ls = [.lrec c (cfr 2) 0 none,.blk 9 [.str path],.blk 61 [.vsl (.a nl) (.a n) (.a g) 3],.vec 9 (.a n) (.a g) 1 f]∧A8 f n st∧1≤path.length∧st.length + path.length≤50000∧
 ∀ st' nl' g' n' f',(st',nl',g') = Cq (st,nl,g) (path.drop 1)→A8 f' n' st'→K (.tup []) [.lrec c (cfr 2) 0 none,.blk 9 [.str path],.blk 61 [.vsl (.a nl') (.a n') (.a g') 3],.vec 9 (.a n') (.a g') 1 f']
structure SgJ (k : CS) (rest : List UInt8) (st : List (List UInt8)) (nl : Bool) (g n : Int) (f : Nat→List SV) (m : Nat) : Prop where
 m : m = rest.length
 row : A8 f n st
 k : k = Cq (st,nl,g) rest
 len : st.length + rest.length≤50000
def sgJ (c : LC) (path : List UInt8) (k : CS) (m : Nat) (vs : List (Option SV)) (hp : List Hl) : Prop :=
 ∃ (rest : List UInt8) (st : List (List UInt8)) (nl : Bool) (g n : Int) (f : Nat→List SV),vs = [some (.yv 0),some (.str rest)]∧
  hp = [.lrec c (cfr 2) 0 none,.blk 9 [.str path],.blk 61 [.vsl (.a nl) (.a n) (.a g) 3],.vec 9 (.a n) (.a g) 1 f]∧SgJ k rest st nl g n f m
theorem Akx (Y : FSpec) (hY : YOk Tryz.prog gl Y) : Ar Tryz.prog gl 78 (Aa9 Y):=by
 refine Ahr (gh:=[]) (its:=[]) (yl:=[Y]) mixed A0 (Aa Xb Ae) ⟨fun _ h=>(by cases h),fun Z h=>by rw [List.mem_singleton] at h; subst h; exact hY⟩ Tryz.func78 (by kernel_rfl) (by kernel_rfl) ?_
 intro xs ls K h
 unfold Aa9 at h
 obtain ⟨c,path,st,nl,g,n,f,rfl,rfl,rfl,R,hp1,hlen,h⟩:=h
 obtain ⟨k,hk⟩ : ∃ k,k = Cq (st,nl,g) (path.drop 1):=⟨_,rfl⟩
 obtain ⟨n2,f2,R2⟩ : ∃ n2 f2,A8 f2 n2 k.1:=⟨_,_,A8.row (l:=k.1) (by
  have:=Md path.length (st,nl,g) (path.drop 1) (by simp)
  rw [←hk] at this
  simp only [List.length_drop] at this; omega)⟩
 refine ⟨_,_,h k.1 k.2.1 k.2.2 n2 f2 hk R2,fun D hD=>?_⟩
 clear h
 obtain ⟨k1,k2,k3⟩:=k
 obtain ⟨J,hJ⟩ : ∃ J,J = sgJ c path (k1,k2,k3):=⟨_,rfl⟩
 simp only at R2
 cbv
 refine ⟨by subst hD; exact ⟨by decide,by show (1 : Int)≤path.length; omega,Int.le_refl _⟩,fun r hr=>?_⟩
 have hr2 : r = path.drop 1:=by
  have h1 : r = (path.drop 1).take ((path.length : Int).toNat - 1):=by subst hD; exact hr.h
  rw [h1,List.take_of_length_le (by rw [List.length_drop]; omega)]
 clear hr
 cbv
 refine ⟨[0,3],J,⟨rfl,r.length,?_⟩,?_⟩
 ·rw [hJ]
  subst hD
  refine ⟨r,st,nl,g,n,f,rfl,rfl,rfl,R,by rw [hk,hr2],by rw [hr2,List.length_drop]; omega⟩
 clear hk hr2 R hlen
 intro m vs hp hj
 rw [hJ] at hj
 obtain ⟨rest,st,nl,g,n,f,rfl,rfl,V⟩:=hj
 cbv
 refine ⟨rest,47,rfl,rfl,by have:=V.len; omega,fun a b t hc=>?_⟩
 cbv
 refine ⟨a,!t,st,nl,g,n,f,?_,?_,V.row,by have:=V.len; omega,fun st' nl' g' n' f' hst R'=>?_⟩
 ·subst hD; rfl
 ·subst hD; rfl
 cbv
 refine br hD (fun h=>?_) (fun h=>?_)
 ·cbv
  have ht : t = false:=by simpa [BT.den] using h
  subst ht
  have e1:=V.k
  have hst : (st',nl',g') = Ht (st,nl,g) a true:=hst
  rw [Aao hc,←hst] at e1
  simp only [Prod.mk.injEq] at e1
  obtain ⟨rfl,rfl,rfl⟩:=e1
  subst hD
  exact Ame R' R2
 ·cbv
  have ht : t = true:=by simpa [BT.den] using h
  subst ht
  have e1:=V.k
  rw [Aan hc] at e1
  have hb : b.length < rest.length:=by
   have:=Uo (c:=47) (s:=rest) (by rw [←hc])
   rw [←hc] at this; exact this
  have hst2 : st'.length≤st.length + 1:=by
   have:=Km (st,nl,g) a false
   rw [show (!true) = false from rfl] at hst
   rw [←hst] at this; exact this
  refine ⟨b.length,by have:=V.m; omega,?_⟩
  rw [hJ]
  unfold sgJ
  subst hD
  refine ⟨b,st',nl',g',n',f',rfl,rfl,rfl,R',?_,by have:=V.len; omega⟩
  rw [e1,hst]; rfl
end Go.Proofs.YtefelnhpfdcleaaGreatDoor
namespace Go.Proofs.YtefelnhpfdcleaaGreatDoor
open Go Go.Sx Go.RowKit
set_option maxRecDepth 100000
set_option maxHeartbeats 2000000
theorem cell_in {W : World} {b o : Nat} {sp : Option Nat} {v : Value} (h : W.cell? ⟨b,o,sp⟩ = some v) : b < W.heap.size:=by
 unfold World.cell? at h
 split at h
 ·rename_i c _ _ hc
  exact (Array.getElem?_eq_some_iff.1 hc).1
 ·cases h
def spJoin : FSpec:=fun _ xs ls K=>∃ (l : List (List UInt8)) (sep : List UInt8) (nl : Bool) (n : Int) (f : Nat→List SV),xs = [.sl (.a nl) (.a n) 1 f,.str sep]∧ls = []∧A8 f n l∧l.length≤1000000∧(Lib.join l sep).length≤140737488355328∧∀ r,r = Lib.join l sep→K (.str r) []
theorem join_ok : Ar Tryz.prog gl 40 spJoin:=by
 refine ⟨⟨Tryz.f40,_,Tryz.func40,rfl,by kernel_rfl⟩,fun xs ls K h=>?_⟩
 obtain ⟨l,sep,nl,n,f,rfl,rfl,R,hN,hL,h⟩:=h
 refine ⟨_,_,h _ rfl,Bt fun E B w vals _ _ _ hr=>?_⟩
 obtain ⟨v,u,rfl,hv,hu⟩:=Ek hr
 rw [D0 hu]
 have hRn:=R.n
 have none : ∀ (a : Option Addr) (c : Nat),l.length = 0→Calls Tryz.prog 40 ⟨[.slice a 0 c,.string (Sx.bytes sep)]⟩ w fun e w'=>∃ v,e = .returned v∧(∀ E,Rel E w' (.str (Lib.join l sep)) v)∧Below w.heap.size w w':=by
  intro a c h0
  obtain rfl : l = []:=List.eq_nil_of_length_eq_zero h0
  refine (L8 a c (Sx.bytes sep) w).mono ?_
  rintro e w' ⟨rfl,rfl⟩
  exact ⟨_,rfl,fun E=>.ro (.str rfl),Below.refl _ _⟩
 cases hv with
 | ro h =>
  cases h with
  | slnil h hn =>
   have hn : n = 0:=hn
   exact none _ _ (by omega)
  | sl g h hn hc hcm hs hl h1 hcell hrel =>
   rename_i a m cap
   have hn : n = (m : Int):=hn
   have hm : l.length = m:=by omega
   by_cases h0 : m = 0
   ·subst h0; exact none _ _ hm
   ·obtain ⟨bk,o,sp⟩:=a
    obtain rfl : sp = Option.none:=hs (by omega)
    have cells : ∀ j,j < m→w.cell? ⟨bk,o + j,Option.none⟩ = some (.string (Sx.bytes (l.getD j []))):=by
     intro j hj
     have e1:=(hcell j 0 hj (by omega)).1
     have e2:=hrel j 0 (.str (l.getD j [])) hj (by rw [R.f j (by omega)]; rfl)
     simp only [Nat.mul_one,Nat.add_zero] at e1
     rw [e1]
     cases e2 with
     | str h=>rw [h]
    have hmap : (l.map Sx.bytes).map (·.data.toList) = l:=by
     rw [List.map_map]
     have : ((fun x : ByteArray=>x.data.toList)∘Sx.bytes) = id:=by funext s; simp [Sx.bytes]
     rw [this,List.map_id]
    have:=Tr bk o cap (l.map Sx.bytes) (Sx.bytes sep) w (fun j x hx=>?_) (cell_in (cells 0 (by omega))) (by rw [List.length_map]; omega) (by rw [List.length_map]; omega) (by rw [hmap]; simpa [Sx.bytes] using hL)
    ·rw [hmap,List.length_map,hm] at this
     refine this.mono ?_
     rintro e w' ⟨rfl,hB⟩
     exact ⟨_,rfl,fun E=>.ro (.str (by simp [Sx.bytes])),hB⟩
    ·rw [List.getElem?_map] at hx
     obtain ⟨s,hs1,rfl⟩:=Option.map_eq_some_iff.1 hx
     have hj : j < l.length:=(List.getElem?_eq_some_iff.1 hs1).1
     rw [cells j (by omega),List.getD_eq_getElem?_getD,hs1]; rfl
end Go.Proofs.YtefelnhpfdcleaaGreatDoor
namespace Go.Proofs.YtefelnhpfdcleaaGreatDoor
open Go Go.Sx
set_option maxRecDepth 100000
set_option maxHeartbeats 40000000
def Le (s : List UInt8) : List UInt8×Int :=
 if (Gi s).2.2.2≠0 then ([],(Gi s).2.2.2) else
 ([47] ++ Lib.join (Cq ([],true,0) ((normL (Gi s).1 0).drop 1)).1 [47] ++ (if (Gi s).2.2.1 then [63] ++ normL (Gi s).2.1 0 else []),0)
theorem H8 (s : List UInt8) : ∀ (m i : Nat),s.length - i≤m→(normL s i).length≤s.length - i∧(i < s.length→1≤(normL s i).length)
 | m,i,hm=>by
  by_cases hi : i < s.length
  ·cases m with
   | zero=>omega
   | succ m =>
    by_cases he : Ct s i = true
    ·have h3:=Np he
     rw [Ri hi he]
     have ih:=(H8 s m (i + 3) (by omega)).1
     have hO : 1≤(Qu (Nx s i)).length∧(Qu (Nx s i)).length≤3:=by unfold Qu; split<;>simp
     simp only [List.length_append]
     omega
    ·rw [Y8 hi (by simpa using he)]
     have ih:=(H8 s m (i + 1) (by omega)).1
     simp only [List.length_cons]
     omega
  ·rw [normL,dif_neg hi]
   simp; omega
theorem Ys {s p q : List UInt8} {h : Bool} (hs : (p,q,h,(0 : Int)) = Gi s) : s.length≤500∧1≤p.length∧p.length≤500∧q.length≤500:=by
 unfold Gi at hs
 split at hs
 ·rename_i h1
  simp only [Prod.mk.injEq] at hs
  exact absurd hs.2.2.2.symm h1
 ·rename_i h1
  have h0 : (Lx s).2 = 0:=by simpa using h1
  have hl:=P2 h0
  split at hs
  ·simp only [Prod.mk.injEq] at hs; omega
  ·simp only [Prod.mk.injEq] at hs
   obtain ⟨rfl,rfl,rfl,_⟩:=hs
   have hp : Lib.hasPrefix s [47] = true:=by
    unfold Lx at h0
    split at h0
    ·cases h0
    ·split at h0
     ·cases h0
     ·rename_i h5; simpa using h5
   have key : ∀ (c : UInt8) (s : List UInt8),(Ah c s).1.length≤s.length∧(Ah c s).2.1.length≤s.length:=by
    intro c s
    induction s with
    | nil=>exact ⟨Nat.le_refl _,Nat.le_refl _⟩
    | cons b r ih=>unfold Ah; split<;>simp<;>omega
   refine ⟨hl,?_,by have:=(key 63 s).1; omega,by have:=(key 63 s).2; omega⟩
   cases s with
   | nil=>cases hp
   | cons b r =>
    have hb : b = 47:=by
     simp [Lib.hasPrefix,List.isPrefixOf] at hp
     exact hp.symm
    subst hb
    simp [Ah]
structure CBound (p q : List UInt8) : Prop where
 p1 : 1≤p.length
 p : p.length≤500
 q : q.length≤500
def spClean : FSpec:=fun _ xs ls K=>∃ (s : List UInt8),xs = [.str s]∧ls = []∧s.length≤9223372036854775807∧∀ t e,(t,e) = Le s→K (.tup [.str t,.int .i64 (.a e)]) []
structure EqI (a b : Int) : Prop where
 h : a = b
theorem Ado {c : LC} {fr : List (Nat×Option SV)} {bt : BT} {nlT : BT} {nT gT nT' gT' : ST} {k2 : Bool} {n1 n2 k3 : Int} {f1 f2 : Nat→List SV} {st : List (List UInt8)} (hb : bt.den = true) (h1 : nlT.den = k2) (h2 : nT.den = n1) (h3 : gT.den = k3) (h4 : nT'.den = n1) (h5 : gT'.den = k3) (R : A8 f1 n1 st) (R2 : A8 f2 n2 st) :
  Fin (.bool bt) (.bool (.a true)) [.lrec c fr 0 none,.blk 61 [.vsl nlT nT gT 2],.vec 9 nT' gT' 1 f1] [.lrec c fr 0 none,.blk 61 [.vsl (.a k2) (.a n2) (.a k3) 2],.vec 9 (.a n2) (.a k3) 1 f2]:=by
 obtain rfl : n1 = n2:=by rw [R.n,R2.n]
 refine ⟨Ry hb,Af1 (LeH.cons (fun _ _ _ h=>h) (LeH.cons (leH_blk (LeL.cons (leVsl h1 h2 h3) LeL.nil)) (LeH.cons (Ahj h4 h5 fun i hi=>?_) fun _ _ _ _ h=>h))),Nat.le_refl _⟩
 rw [h4] at hi
 have:=R.n
 rw [R.f i (by omega),R2.f i (by omega)]
theorem A8.pop {f : Nat→List SV} {n : Int} {st : List (List UInt8)} (R : A8 f n st) (h : 1≤st.length) : A8 f (n - 1) st.dropLast:=by
 have hn:=R.n
 refine ⟨by rw [List.length_dropLast]; omega,fun i hi=>?_,by have:=R.len; rw [List.length_dropLast]; omega⟩
 rw [List.length_dropLast] at hi
 rw [R.f i (by omega),List.getD_eq_getElem?_getD,List.getD_eq_getElem?_getD,List.getElem?_dropLast,if_pos (by omega)]
theorem Z4 {B : Nat} {σ : CS} {s : List UInt8} {last : Bool} (h : ∀ x∈σ.1,x.length≤B) (hs : s.length≤B) : ∀ x∈(Ht σ s last).1,x.length≤B:=by
 have hp : ∀ x∈(if s = [46,46]∧σ.1≠[] then Aj5 σ else σ).1,x.length≤B:=by
  split
  ·exact fun x hx=>h x (List.dropLast_subset _ hx)
  ·exact h
 intro x hx
 unfold Ht at hx
 split at hx
 ·simp only [Yl,List.mem_append,List.mem_singleton] at hx
  rcases hx with hx | rfl
  ·exact h x hx
  ·exact hs
 ·split at hx
  ·simp only [Yl,List.mem_append,List.mem_singleton] at hx
   rcases hx with hx | rfl
   ·exact hp x hx
   ·simp
  ·exact hp x hx
theorem Ad3 (c : UInt8) (s : List UInt8) : (Ah c s).1.length≤s.length∧(Ah c s).2.1.length≤s.length:=by
 induction s with
 | nil=>exact ⟨Nat.le_refl _,Nat.le_refl _⟩
 | cons b r ih=>unfold Ah; split<;>simp<;>omega
theorem S2 {B : Nat} : ∀ (n : Nat) (σ : CS) (rest : List UInt8),rest.length≤n→rest.length≤B→(∀ x∈σ.1,x.length≤B)→∀ x∈(Cq σ rest).1,x.length≤B
 | n,σ,rest,h,hB,hσ=>by
  have hc:=(Ad3 47 rest).1
  rw [Cq]
  split
  ·rename_i hc2
   have h1:=Uo hc2
   cases n with
   | zero=>omega
   | succ n=>exact S2 n _ _ (by omega) (by omega) (Z4 hσ (by omega))
  ·exact Z4 hσ (by omega)
theorem Qh {B : Nat} : ∀ {l : List (List UInt8)},(∀ x∈l,x.length≤B)→(Lib.joinTail [47] l).length≤l.length * (B + 1)
 | [],_=>by simp [Lib.joinTail]
 | x :: l,h=>by
  have h1:=Qh (l:=l) fun y hy=>h y (List.mem_cons_of_mem _ hy)
  have h2:=h x (List.mem_cons_self ..)
  have : Lib.joinTail [47] (x :: l) = [47] ++ x ++ Lib.joinTail [47] l:=by simp [Lib.joinTail]
  rw [this]
  simp only [List.length_append,List.length_cons,List.length_nil,Nat.add_mul,Nat.one_mul]
  omega
theorem Al1 {B : Nat} {l : List (List UInt8)} (h : ∀ x∈l,x.length≤B) : (Lib.join l [47]).length≤l.length * (B + 1):=by
 cases l with
 | nil=>simp [Lib.join_nil]
 | cons x l =>
  rw [Lib.join_cons]
  have h1:=Qh (l:=l) fun y hy=>h y (List.mem_cons_of_mem _ hy)
  have h2:=h x (List.mem_cons_self ..)
  simp only [List.length_append,List.length_cons,Nat.add_mul,Nat.one_mul]
  omega
theorem Ad6 : Ar Tryz.prog gl 15 spClean:=by
 refine Ahr (gh:=[(4,[.vecb 8 0 9]),(2000014,[.vshareb 8 0])]) (its:=[(78,Aa9)]) (yl:=[]) mixed A0 (Aa Aih (Aa Ai3 (Fu segs_ok (Aa join_ok Ae)))) ⟨fun x h Y hY=>by rw [List.mem_singleton] at h; subst h; exact Akx Y hY,fun _ h=>(by cases h)⟩ Tryz.func15 (by kernel_rfl) (by kernel_rfl) ?_
 intro xs ls K h
 unfold spClean at h
 obtain ⟨s,rfl,rfl,hs,h⟩:=h
 obtain ⟨k,hk⟩ : ∃ k,k = Le s:=⟨_,rfl⟩
 obtain ⟨kt,ke⟩:=k
 refine ⟨_,_,h kt ke hk,fun D hD=>?_⟩
 clear h
 unfold Le at hk
 cbv
 refine ⟨s,rfl,rfl,hs,fun p q hb e hsp=>?_⟩
 rw [←hsp] at hk
 simp only at hk
 cbv
 refine br hD (fun h=>?_) (fun h=>?_)
 ·cbv
  have h1 : e≠0:=by simpa using h
  rw [if_pos h1] at hk
  simp only [Prod.mk.injEq] at hk
  obtain ⟨rfl,rfl⟩:=hk
  subst hD
  exact B7 rfl rfl
 have h1 : e = 0:=by simpa using h
 subst h1
 rw [if_neg (by simp)] at hk
 have CB : CBound p q:=by
  obtain ⟨_,a,b,c⟩:=Ys hsp
  exact ⟨a,b,c⟩
 clear h hsp
 cbv
 refine ⟨p,rfl,rfl,by have:=CB.p; omega,fun pn hpn=>?_⟩
 have hpl:=(H8 p p.length 0 (by omega))
 rw [←hpn] at hpl hk
 have PB : 1≤pn.length∧pn.length≤500:=by have:=CB.p1; have:=CB.p; omega
 clear hpl hpn
 cbv
 refine ⟨pn,rfl,rfl,?_⟩
 cbv
 intro c hc
 refine ⟨[8],Amv c,?_,?_⟩
 ·rintro xs ls K' ⟨x,last,st,nl,g,n,f,rfl,rfl,R,hl,h⟩
  refine ⟨⟨_,rfl⟩,?_⟩
  obtain ⟨k,hk⟩ : ∃ k,k = Ht (st,nl,g) x last:=⟨_,rfl⟩
  obtain ⟨n2,f2,R2⟩ : ∃ n2 f2,A8 f2 n2 k.1:=⟨_,_,A8.row (l:=k.1) (by have:=Km (st,nl,g) x last; rw [←hk] at this; simp only at this; omega)⟩
  refine ⟨_,_,h k.1 k.2.1 k.2.2 n2 f2 hk R2,?_⟩
  clear h
  obtain ⟨k1,k2,k3⟩:=k
  simp only at R2
  unfold Ht at hk
  cbv
  refine br hD (fun h=>?_) (fun h=>?_)<;>cbv
  ·have hx : x≠[46]∧x≠[46,46]:=by
    have h : (!(x == [46]) && !(x == [46,46])) = true:=h
    simpa using h
   rw [if_pos hx] at hk
   simp only [Yl,Prod.mk.injEq] at hk
   obtain ⟨hq1,hq2,hq3⟩:=hk
   subst hq1 hq2
   have hk3 : EqI k3 _:=⟨hq3⟩
   clear hq3
   clear h hx
   intro f0 hf0
   have h0 : f0 0 = [.str x]:=hf0.h 0 _ rfl
   clear hf0
   cbv
   refine ⟨by subst hD; exact ⟨rfl,by have:=R.n; have:=hl; show (n + 1) * 16≤_; omega,by have:=R.n; have:=hl; show n + 1≤_; omega⟩,⟨by subst hD; rfl⟩,fun f1 n1 hm g1 hg=>?_⟩
   have e1 : A8 f1 n1 (st ++ [x]):=R.more h0 (by subst hD; exact hm) (by have:=hl; omega)
   have e2 : g1 = k3:=by subst hD; rw [hk3.h]; exact hg.h
   clear hm hg
   cbv
   subst hD
   exact Ado rfl (Bool.and_false nl) rfl e2 rfl e2 e1 R2
  have hx : ¬ (x≠[46]∧x≠[46,46]):=by
   have h : (!(x == [46]) && !(x == [46,46])) = false:=h
   simpa using h
  rw [if_neg hx] at hk
  clear h hx
  refine br hD (fun h=>?_) (fun h=>?_)<;>cbv
  ·have hx : x = [46,46]∧st≠[]:=by
    have h : ((x == [46,46]) && decide (0 < n)) = true:=h
    simp only [Bool.and_eq_true,beq_iff_eq,decide_eq_true_eq] at h
    refine ⟨h.1,fun e=>?_⟩
    have:=R.n
    rw [e] at this
    have:=h.2
    simp at *; omega
   have hpos : 1≤st.length:=by
    cases st with
    | nil=>exact absurd rfl hx.2
    | cons a b=>simp
   simp only [if_pos hx,Aj5] at hk
   clear h hx
   have Rp:=R.pop hpos
   have hlp : st.dropLast.length≤99999:=by rw [List.length_dropLast]; omega
   generalize st.dropLast = sp at hk Rp hlp
   obtain ⟨np,hnp⟩ : ∃ np,np = n - 1:=⟨_,rfl⟩
   rw [←hnp] at Rp
   have hn1 : IntKind.i64.wrap (n - 1) = np:=by have:=R.n; rw [Am (by omega) (by omega)]; exact hnp.symm
   have hnb : 0≤np∧np≤n:=by have:=Rp.n; omega
   clear hnp
   refine ⟨⟨by subst hD; rfl⟩,⟨by subst hD; rfl⟩,by subst hD; exact ⟨Int.le_refl _,by show 0≤IntKind.i64.wrap (n - 1); rw [hn1]; exact hnb.1,by show IntKind.i64.wrap (n - 1)≤n; rw [hn1]; exact hnb.2⟩,fun g2 hg2=>?_⟩
   have eg : EqI g2 (g + 1):=⟨by subst hD; exact hg2.h⟩
   clear hg2
   cbv
   refine br hD (fun h=>?_) (fun h=>?_)<;>cbv
   ·have hlast : last = true:=h
    subst hlast
    rw [if_pos rfl] at hk
    simp only [Yl,Prod.mk.injEq] at hk
    obtain ⟨hq1,hq2,hq3⟩:=hk
    subst hq1 hq2
    have hk3 : EqI k3 _:=⟨hq3⟩
    clear hq3
    clear h
    intro f0 hf0
    have h0 : f0 0 = [.str []]:=hf0.h 0 _ rfl
    clear hf0
    cbv
    refine ⟨by subst hD; exact ⟨rfl,by have:=Rp.n; show (IntKind.i64.wrap (n - 1) + 1) * 16≤_; rw [hn1]; omega,by have:=Rp.n; show IntKind.i64.wrap (n - 1) + 1≤_; rw [hn1]; omega⟩,⟨by subst hD; rfl⟩,fun f1 n1 hm g1 hg=>?_⟩
    have e1 : A8 f1 n1 (sp ++ [[]]):=Rp.more h0 (by subst hD; rw [←hn1]; exact hm) (by omega)
    have e2 : g1 = k3:=by subst hD; rw [hk3.h,←eg.h]; exact hg.h
    clear hm hg
    cbv
    subst hD
    exact Ado rfl (Bool.and_false nl) rfl e2 rfl e2 e1 R2
   ·have hlast : last = false:=h
    subst hlast
    rw [if_neg (by simp)] at hk
    simp only [Prod.mk.injEq] at hk
    obtain ⟨hq1,hq2,hq3⟩:=hk
    subst hq1 hq2
    have hk3 : EqI k3 _:=⟨hq3⟩
    clear hq3
    clear h
    subst hD
    exact Ado (n1:=np) rfl rfl hn1 (by rw [hk3.h]; exact eg.h) hn1 (by rw [hk3.h]; exact eg.h) Rp R2
  have hx : ¬ (x = [46,46]∧st≠[]):=by
   have h : ((x == [46,46]) && decide (0 < n)) = false:=h
   rintro ⟨h1,h2⟩
   have h3 : 0 < n:=by
    have:=R.n
    cases st with
    | nil=>exact absurd rfl h2
    | cons a b=>rw [this]; simp
   rw [h1] at h
   simp [h3] at h
  simp only [if_neg hx] at hk
  clear h hx
  refine br hD (fun h=>?_) (fun h=>?_)<;>cbv
  ·have hlast : last = true:=h
   subst hlast
   rw [if_pos rfl] at hk
   simp only [Yl,Prod.mk.injEq] at hk
   obtain ⟨hq1,hq2,hq3⟩:=hk
   subst hq1 hq2
   have hk3 : EqI k3 _:=⟨hq3⟩
   clear hq3
   clear h
   intro f0 hf0
   have h0 : f0 0 = [.str []]:=hf0.h 0 _ rfl
   clear hf0
   cbv
   refine ⟨by subst hD; exact ⟨rfl,by have:=R.n; have:=hl; show (n + 1) * 16≤_; omega,by have:=R.n; have:=hl; show n + 1≤_; omega⟩,⟨by subst hD; rfl⟩,fun f1 n1 hm g1 hg=>?_⟩
   have e1 : A8 f1 n1 (st ++ [[]]):=R.more h0 (by subst hD; exact hm) (by have:=hl; omega)
   have e2 : g1 = k3:=by subst hD; rw [hk3.h]; exact hg.h
   clear hm hg
   cbv
   subst hD
   exact Ado rfl (Bool.and_false nl) rfl e2 rfl e2 e1 R2
  ·have hlast : last = false:=h
   subst hlast
   rw [if_neg (by simp)] at hk
   simp only [Prod.mk.injEq] at hk
   obtain ⟨hq1,hq2,hq3⟩:=hk
   subst hq1 hq2
   have hk3 : EqI k3 _:=⟨hq3⟩
   clear hq3
   clear h
   subst hD
   exact Ado rfl rfl rfl hk3.h.symm rfl hk3.h.symm R R2
 ·cbv
  refine ⟨c,pn,[],true,0,0,fun _=>[],rfl,rfl,by subst hD; rfl,A8.nil,PB.1,by have:=PB.2; simp only [List.length_nil]; omega,fun st nl g n f hst R=>?_⟩
  have hst1 : (Cq ([],true,0) (List.drop 1 pn)).1 = st:=by rw [←hst]
  rw [hst1] at hk
  have SL : st.length≤600∧(Lib.join st [47]).length≤400000:=by
   have h1:=Md pn.length ([],true,0) (pn.drop 1) (by simp)
   have h2:=S2 (B:=pn.length) pn.length ([],true,0) (pn.drop 1) (by simp) (by simp) (fun x hx=>by simp at hx)
   rw [hst1] at h1 h2
   simp only [List.length_drop,List.length_nil] at h1
   have h3:=Al1 h2
   have h4 : st.length≤501:=by omega
   have h5 : st.length * (pn.length + 1)≤501 * 501:=Nat.mul_le_mul h4 (by omega)
   omega
  clear hst hst1
  cbv
  refine ⟨⟨⟨by subst hD; rfl⟩,⟨by subst hD; rfl⟩⟩,?_⟩
  refine ⟨st,[47],nl,n,f,by subst hD; rfl,rfl,R,by omega,by omega,fun j hj=>?_⟩
  rw [←hj] at hk
  have hjl : j.length≤400000:=by rw [hj]; exact SL.2
  clear hj
  cbv
  refine ⟨⟨by simp only [List.length_cons,List.length_nil]; omega⟩,fun u hu=>?_⟩
  have hu : u = [47] ++ j:=hu.h
  rw [←hu] at hk
  have hul : u.length≤400001:=by rw [hu]; simp; omega
  clear hu
  cbv
  refine br hD (fun h=>?_) (fun h=>?_)<;>cbv
  ·have hb1 : hb = true:=h
   subst hb1
   rw [if_pos rfl] at hk
   clear h
   refine ⟨q,rfl,rfl,by have:=CB.q; omega,fun qn hqn=>?_⟩
   have hql:=(H8 q q.length 0 (by omega)).1
   rw [←hqn] at hql hk
   have hql : qn.length≤500:=by have:=CB.q; omega
   clear hqn
   cbv
   refine ⟨⟨by simp only [List.length_cons,List.length_nil]; omega⟩,fun u2 hu2=>?_⟩
   have hu2 : u2 = [63] ++ qn:=hu2.h
   rw [←hu2] at hk
   have hul2 : u2.length≤501:=by rw [hu2]; simp; omega
   clear hu2
   cbv
   refine ⟨⟨by omega⟩,fun u3 hu3=>?_⟩
   have hu3 : u3 = u ++ u2:=hu3.h
   rw [←hu3] at hk
   simp only [Prod.mk.injEq] at hk
   obtain ⟨hq1,hq2⟩:=hk
   subst hq1 hq2
   cbv
   subst hD
   exact B7 rfl rfl
  ·have hb1 : hb = false:=h
   subst hb1
   rw [if_neg (by simp),List.append_nil] at hk
   simp only [Prod.mk.injEq] at hk
   obtain ⟨hq1,hq2⟩:=hk
   subst hq1 hq2
   subst hD
   exact B7 rfl rfl
end Go.Proofs.YtefelnhpfdcleaaGreatDoor
