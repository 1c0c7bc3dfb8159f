/- Part of the proofs of the statements about requests (layer 7): a symbolic executor over the code, that it is sound, and contracts of functions; it has no conditions of its own. -/
import Derived.Lib.ItoaLen
import Derived.Test.YtefelnhpfdcleaaGreatDoorSzPaz
import Derived.Test.YtefelnhpfdcleaaGreatDoorSzPba
import Derived.Test.YtefelnhpfdcleaaGreatDoorSzPbc
namespace Go.Proofs.YtefelnhpfdcleaaGreatDoor
open Go Go.Sx
set_option maxRecDepth 100000
set_option maxHeartbeats 2000000
structure Rq where
 id : Int
 method : List UInt8
 target : List UInt8
 host : List UInt8
 fields : List HF
 body : List UInt8
structure Gd (r : Rq) (nl : Bool) (n : Int) (f : Nat→List SV) : Prop where
 id1 : -9223372036854775808≤r.id
 id2 : r.id≤9223372036854775807
 method : r.method.length≤9223372036854775807
 target : r.target.length≤9223372036854775807
 host : r.host.length≤9223372036854775807
 body : r.body.length≤9223372036854775807
 row : A9 f n r.fields
 nil : nl = true→r.fields = []
def Fh : List UInt8:=[72,111,115,116]
def Ky : List UInt8:=[88,45,82,101,113,117,101,115,116,45,73,100]
def sCL : List UInt8:=[67,111,110,116,101,110,116,45,76,101,110,103,116,104]
def Ve : List UInt8:=[80,79,83,84]
def Ae4 : List UInt8:=[80,85,84]
def Om : List UInt8:=[80,65,84,67,72]
def sConnect : List UInt8:=[67,79,78,78,69,67,84]
def sId : List UInt8:=[105,100]
def Ag0 : List UInt8:=[109,101,116,104,111,100]
def sTarget : List UInt8:=[116,97,114,103,101,116]
def sHostP : List UInt8:=[104,111,115,116]
def sFields : List UInt8:=[102,105,101,108,100,115]
def sBody : List UInt8:=[98,111,100,121]
def Bu (r : Rq) : Bool:=((r.body != [] || r.method == Ve) || r.method == Ae4) || r.method == Om
def Ai (r : Rq) : List HF×Int :=
 if (Bm r.fields).2≠0 then ([],(Bm r.fields).2) else
 (([⟨Fh,r.host⟩,⟨Ky,Lib.itoa r.id⟩] ++ (Bm r.fields).1) ++ (if Bu r then [⟨sCL,Lib.itoa r.body.length⟩] else []),0)
theorem A9.app {f g f' : Nat→List SV} {n m n' : Int} {a b : List HF} (R : A9 f n a) (S : A9 g m b) (h : H4 f' n' n m f g) (hl : a.length + b.length≤9223372036854775807) : A9 f' n' (a ++ b):=by
 have hn:=R.n; have hm:=S.n
 refine ⟨by rw [h.len,hn,hm,List.length_append]; omega,fun i hi=>?_,by rw [List.length_append]; exact hl,fun i hi=>?_⟩
 ·rw [List.length_append] at hi
  rw [List.getD_eq_getElem?_getD,List.getElem?_append]
  split
  ·rename_i h1
   rw [h.lo i (by omega),R.f i h1,List.getD_eq_getElem?_getD]
  ·rename_i h1
   rw [h.hi i (i - a.length) (by omega) (by omega),S.f _ (by omega),List.getD_eq_getElem?_getD]
 ·rw [List.length_append] at hi
  rw [List.getD_eq_getElem?_getD,List.getElem?_append]
  split
  ·rename_i h1
   have:=R.small i h1
   rwa [List.getD_eq_getElem?_getD] at this
  ·rename_i h1
   have:=S.small (i - a.length) (by omega)
   rwa [List.getD_eq_getElem?_getD] at this
theorem A9.one {f : Nat→List SV} {x : HF} (h : f 0 = B6 x) (hs : x.small) : A9 f 1 [x]:=by
 refine ⟨rfl,fun i hi=>?_,by simp,fun i hi=>?_⟩
 ·have : i = 0:=by simpa using hi
  subst this; exact h
 ·have : i = 0:=by simpa using hi
  subst this; exact hs
theorem A9.two {f : Nat→List SV} {x y : HF} (h : f 0 = B6 x) (h1 : f 1 = B6 y) (hs : x.small) (hs1 : y.small) : A9 f 2 [x,y]:=by
 refine ⟨rfl,fun i hi=>?_,by simp,fun i hi=>?_⟩
 ·match i,hi with
  | 0,_=>exact h
  | 1,_=>exact h1
 ·match i,hi with
  | 0,_=>exact hs
  | 1,_=>exact hs1
theorem Ig (l : List HF) : (Bm l).2 = 0→(Bm l).1.length≤100:=by
 intro h
 unfold Bm at h ⊢
 split
 ·simp
 ·rename_i h1
  rw [if_neg h1] at h
  have h1 : A7 l = 0:=by simpa using h1
  have:=Di h1
  split
  ·have:=Nn (F8 l).1 l
   simp only; omega
  ·simp
theorem Mx {n : Int} (h1 : -9223372036854775808≤n) (h2 : n≤9223372036854775807) : (Lib.itoa n).length≤9223372036854775807:=by
 have:=Lib.itoa_length_le n h1 h2; omega
def spWritten : FSpec:=fun _ xs ls K=>∃ (r : Rq) (nl : Bool) (n : Int) (f : Nat→List SV),xs = [.agg [.int .i64 (.a r.id),.str r.method,.str r.target,.str r.host,.sl (.a nl) (.a n) 2 f,.str r.body]]∧ls = []∧Gd r nl n f∧
 ∀ l e nb n' g,(l,e) = Ai r→A9 g n' l→nb = (e != 0)→K (.tup [.sl (.a nb) (.a n') 2 g,.int .i64 (.a e)]) []
theorem Hr (l : List HF) (h : l.length≤9223372036854775807) (hs : ∀ i,i < l.length→(l.getD i default).small) : ∃ g n,A9 g n l:=⟨_,_,A9.row h hs⟩
theorem Es {a b : List HF} (h : ∀ i,i < a.length→(a.getD i default).small) (h2 : ∀ i,i < b.length→(b.getD i default).small) : ∀ i,i < (a ++ b).length→((a ++ b).getD i default).small:=by
 intro i hi
 rw [List.length_append] at hi
 rw [List.getD_eq_getElem?_getD,List.getElem?_append]
 split
 ·rename_i h1
  have:=h i h1
  rwa [List.getD_eq_getElem?_getD] at this
 ·rename_i h1
  have:=h2 (i - a.length) (by omega)
  rwa [List.getD_eq_getElem?_getD] at this
theorem Kv {l : List HF} (h : ∀ i,i < l.length→(l.getD i default).small) : ∀ i,i < (Bm l).1.length→((Bm l).1.getD i default).small:=by
 unfold Bm
 split
 ·intro i hi; simp at hi
 ·split
  ·exact Mw h
  ·intro i hi; simp at hi
theorem Ls {D : Dn} (hD : D = dn) {nb : Bool} {n n2 e : Int} {g g2 : Nat→List SV} {x : BT} {y z : ST} {l : List HF} (h1 : x.den = nb) (R : A9 g2 n2 l) (h2 : y.den = n2) (h3 : z.den = e) (R2 : A9 g n l) :
  Fin (.tup [.sl (.a (D.b x)) (.a (D.i y)) 2 g2,.int .i64 (.a (D.i z))]) (.tup [.sl (.a nb) (.a n) 2 g,.int .i64 (.a e)]) [] []:=by
 subst hD h1 h3
 have hn : n2 = n:=by rw [R.n,R2.n]
 refine D6 (LeV.tup (LeL.cons (LeV.sl rfl (by show y.den = n; rw [h2,hn]) fun i hi=>?_) (LeL.refl _)))
 have hi : (i : Int) < y.den:=hi
 have:=R.n
 rw [R.f i (by omega),R2.f i (by omega)]
theorem Aen : Ar Tryz.prog gl 111 spWritten:=by
 refine A4 (gh:=[]) mixed A0 (Aa Akp (Aa fmt_ok (Aa itoa_ok Ae))) Tryz.func111 (by kernel_rfl) (by kernel_rfl) ?_
 intro xs ls K h
 unfold spWritten at h
 obtain ⟨r,nl,n,f,rfl,rfl,R,h⟩:=h
 obtain ⟨k,hk⟩ : ∃ k,k = Ai r:=⟨_,rfl⟩
 obtain ⟨kl,ke⟩:=k
 have hs0 : ∀ x : HF,∀ (a b : List UInt8),x = ⟨a,b⟩→a.length≤100→b.length≤9223372036854775807→x.small:=fun x a b e h1 h2=>by subst e; exact ⟨by show a.length≤_; omega,h2⟩
 have hxs : HF.small ⟨Fh,r.host⟩:=hs0 _ _ _ rfl (by decide) R.host
 have hys : HF.small ⟨Ky,Lib.itoa r.id⟩:=hs0 _ _ _ rfl (by decide) (Mx R.id1 R.id2)
 have hzs : HF.small ⟨sCL,Lib.itoa r.body.length⟩:=hs0 _ _ _ rfl (by decide) (Mx (by omega) (by have:=R.body; omega))
 have hg : ∃ g n',A9 g n' kl:=by
  unfold Ai at hk
  split at hk
  ·simp only [Prod.mk.injEq] at hk
   rw [hk.1]; exact Hr [] (by simp) (fun i hi=>absurd hi (by simp))
  ·rename_i h1
   have h1 : (Bm r.fields).2 = 0:=by simpa using h1
   have h2:=Ig _ h1
   simp only [Prod.mk.injEq] at hk
   rw [hk.1]
   refine Hr _ ?_ (Es (Es (fun i hi=>?_) (Kv R.row.small)) ?_)
   ·simp only [List.length_append]
    split<;>simp<;>omega
   ·match i,hi with
    | 0,_=>exact hxs
    | 1,_=>exact hys
   ·split
    ·intro i hi
     have : i = 0:=by simpa using hi
     subst this; exact hzs
    ·intro i hi; simp at hi
 obtain ⟨g,n2,R2⟩:=hg
 obtain ⟨nb,hnb⟩ : ∃ nb,nb = (ke != 0):=⟨_,rfl⟩
 refine ⟨_,_,h kl ke nb n2 g hk R2 hnb,fun D hD=>?_⟩
 clear h
 obtain ⟨id,me,ta,ho,fs,bo⟩:=r
 simp only at R hxs hys hzs
 unfold Ai at hk
 simp only at hk
 cbv
 refine ⟨fs,_,_,f,rfl,rfl,by subst hD; exact R.row,by subst hD; exact R.nil,fun l e nb2 n3 g3 hl RR hnb2=>?_⟩
 have hl2:=Ig fs
 rw [←hl] at hl2 hk
 simp only at hl2 hk
 have R3:=RR.row
 clear RR hl
 cbv
 refine br hD (fun h=>?_) (fun h=>?_)<;>cbv
 ·have h1 : e≠0:=by simpa using h
  rw [if_pos h1] at hk
  simp only [Prod.mk.injEq] at hk
  obtain ⟨rfl,rfl⟩:=hk
  exact Ls hD (by rw [hnb]; simp [h1]) (l:=[]) ⟨rfl,fun i hi=>absurd hi (by simp),by simp,fun i hi=>absurd hi (by simp)⟩ rfl rfl R2
 have h1 : e = 0:=by simpa using h
 rw [if_neg (by simp [h1])] at hk
 have hl3:=hl2 h1
 clear h hl2
 refine ⟨_,_,rfl,rfl,by subst hD; exact R.id1,by subst hD; exact R.id2,by subst hD; rfl,fun ids hids=>?_⟩
 cbv
 have hids : ids = Lib.itoa id:=by subst hD; exact hids
 rw [←hids] at hk hys
 clear hids
 intro f2 hf2
 cbv
 have hR2 : A9 f2 2 [⟨Fh,ho⟩,⟨Ky,ids⟩]:=A9.two (hf2.h 0 _ rfl) (hf2.h 1 _ rfl) hxs hys
 clear hf2
 have hn3:=R3.n
 refine ⟨?_,fun f4 n4 hm=>?_⟩
 ·subst hD
  refine ⟨rfl,?_,?_⟩
  ·show ((2 : Int) + n3) * 32≤140737488355328
   omega
  ·show (2 : Int) + n3≤9223372036854775807
   omega
 cbv
 have R4 : A9 f4 n4 ([⟨Fh,ho⟩,⟨Ky,ids⟩] ++ l):=hR2.app R3 (by subst hD; exact hm) (by simp only [List.length_cons,List.length_nil]; omega)
 clear hm hR2 hn3
 have hl4 : (([⟨Fh,ho⟩,⟨Ky,ids⟩] : List HF) ++ l).length≤102:=by simp; omega
 obtain ⟨l4,hl4e⟩ : ∃ l4,l4 = ([⟨Fh,ho⟩,⟨Ky,ids⟩] : List HF) ++ l:=⟨_,rfl⟩
 rw [←hl4e] at hk R4 hl4
 clear hl4e
 refine br hD (fun h=>?_) (fun h=>?_)<;>cbv
 ·have hb : Bu ⟨id,me,ta,ho,fs,bo⟩ = true:=h
  rw [if_pos hb] at hk
  clear h hb
  refine ⟨_,rfl,rfl,by subst hD; show -9223372036854775808≤(bo.length : Int); omega,by subst hD; show (bo.length : Int)≤_; have:=R.body; simp only at this; omega,fun bs hbs=>?_⟩
  cbv
  have hbs : bs = Lib.itoa (bo.length : Int):=by subst hD; exact hbs
  rw [←hbs] at hk hzs
  clear hbs
  intro f5 hf5
  cbv
  have hR5 : A9 f5 1 [⟨sCL,bs⟩]:=A9.one (hf5.h 0 _ rfl) hzs
  clear hf5
  refine ⟨by subst hD; exact ⟨rfl,by have:=R4.n; show (n4 + 1) * 32≤_; omega,by have:=R4.n; show n4 + 1≤_; omega⟩,fun f6 n6 hm=>?_⟩
  cbv
  have R6 : A9 f6 n6 (l4 ++ [⟨sCL,bs⟩]):=R4.app hR5 (by subst hD; exact hm) (by simp only [List.length_cons,List.length_nil]; omega)
  clear hm
  simp only [Prod.mk.injEq] at hk
  obtain ⟨hq1,hq2⟩:=hk
  subst hq1 hq2
  exact Ls hD (by rw [hnb]; rfl) R6 rfl rfl R2
 ·have hb : Bu ⟨id,me,ta,ho,fs,bo⟩ = false:=h
  rw [if_neg (by rw [hb]; simp),List.append_nil] at hk
  simp only [Prod.mk.injEq] at hk
  obtain ⟨hq1,hq2⟩:=hk
  subst hq1 hq2
  exact Ls hD (by rw [hnb]; rfl) R4 rfl rfl R2
end Go.Proofs.YtefelnhpfdcleaaGreatDoor
namespace Go.Proofs.YtefelnhpfdcleaaGreatDoor
open Go Go.Sx
set_option maxRecDepth 100000
set_option maxHeartbeats 4000000
def Vo (s p : List UInt8) : Bool:=decide (p.length≤s.length) && (s.take p.length == p)
def By (s p : List UInt8) : List UInt8:=if Vo s p then s.drop p.length else s
structure Two (s p : List UInt8) : Prop where
 s : s.length≤9223372036854775807
 p : p.length≤9223372036854775807
def spPre : FSpec:=fun _ xs ls K=>∃ (s p : List UInt8),xs = [.str s,.str p]∧ls = []∧Two s p∧∀ r,r = Vo s p→K (.bool (.a r)) []
theorem Aix : Ar Tryz.prog gl 104 spPre:=by
 refine A4 (gh:=[]) mixed A0 Ae Tryz.func104 (by kernel_rfl) (by kernel_rfl) ?_
 intro xs ls K h
 unfold spPre at h
 obtain ⟨s,p,rfl,rfl,T,h⟩:=h
 obtain ⟨k,hk⟩ : ∃ k,k = Vo s p:=⟨_,rfl⟩
 refine ⟨_,_,h k hk,fun D hD=>?_⟩
 clear h
 cbv
 refine ⟨fun hg=>?_,fun r hr=>?_⟩
 ·subst hD
  have hg : decide ((p.length : Int)≤(s.length : Int)) = true:=hg
  simp only [decide_eq_true_eq] at hg
  exact ⟨Int.le_refl _,by show (0 : Int)≤p.length; omega,by show (p.length : Int)≤s.length; exact hg⟩
 cbv
 have hr2 : r = s.take p.length:=by
  have h1 : r = (s.drop 0).take ((p.length : Int).toNat - 0):=by subst hD; exact hr.h
  rw [h1]; simp
 refine Aj hD ?_
 rw [hk,Vo,←hr2]
 have : decide ((p.length : Int)≤(s.length : Int)) = decide (p.length≤s.length):=by rw [decide_eq_decide]; omega
 rw [←this]; rfl
def spTrimPre : FSpec:=fun _ xs ls K=>∃ (s p : List UInt8),xs = [.str s,.str p]∧ls = []∧Two s p∧∀ r,r = By s p→K (.str r) []
theorem Xu : Ar Tryz.prog gl 166 spTrimPre:=by
 refine A4 (gh:=[]) mixed A0 (Aa Aix Ae) Tryz.func166 (by kernel_rfl) (by kernel_rfl) ?_
 intro xs ls K h
 unfold spTrimPre at h
 obtain ⟨s,p,rfl,rfl,T,h⟩:=h
 obtain ⟨k,hk⟩ : ∃ k,k = By s p:=⟨_,rfl⟩
 refine ⟨_,_,h k hk,fun D hD=>?_⟩
 cbv
 clear h
 unfold By at hk
 refine ⟨s,p,rfl,rfl,T,fun b hb=>?_⟩
 cbv
 have hle : b = true→p.length≤s.length:=by
  rw [hb,Vo]; simp only [Bool.and_eq_true,decide_eq_true_eq]; exact fun h=>h.1
 rw [←hb] at hk
 clear hb
 refine br hD (fun h=>?_) (fun h=>?_)<;>cbv
 ·have h1 : b = true:=h
  rw [if_pos h1] at hk
  have hle:=hle h1
  refine ⟨by subst hD; exact ⟨by show (0 : Int)≤p.length; omega,by show (p.length : Int)≤s.length; omega,Int.le_refl _⟩,fun r hr=>?_⟩
  cbv
  have hr2 : r = s.drop p.length:=by
   have h1 : r = (s.drop (p.length : Int).toNat).take ((s.length : Int).toNat - (p.length : Int).toNat):=by subst hD; exact hr.h
   have h2 : (p.length : Int).toNat = p.length:=Int.toNat_natCast _
   rw [h1,h2,List.take_of_length_le (by rw [List.length_drop]; omega)]
  exact Is (by rw [hr2,hk])
 ·have h1 : b = false:=h
  rw [if_neg (by rw [h1]; simp)] at hk
  exact Is hk.symm
theorem Aer : Ar Tryz.prog gl 147 spTrimPre:=by
 refine A4 (gh:=[]) mixed A0 (Aa Xu Ae) Tryz.func147 (by kernel_rfl) (by kernel_rfl) ?_
 intro xs ls K h
 unfold spTrimPre at h
 obtain ⟨s,p,rfl,rfl,T,h⟩:=h
 obtain ⟨k,hk⟩ : ∃ k,k = By s p:=⟨_,rfl⟩
 refine ⟨_,_,h k hk,fun D hD=>?_⟩
 cbv
 clear h
 refine ⟨s,p,rfl,rfl,T,fun b hb=>?_⟩
 cbv
 exact Is (by rw [hb,hk])
def Nz : List UInt8:=[48,49,50,51,52,53,54,55,56,57]
def Jn (s : List UInt8) : Bool :=
 if By s [45] = []∨Lib.trimS (By s [45]) Nz≠[] then false else ((By s [45]).getD 0 0 != 48) || (s == [48])
def spDec : FSpec:=fun _ xs ls K=>∃ (s : List UInt8),xs = [.str s]∧ls = []∧s.length≤100000∧∀ r,r = Jn s→K (.bool (.a r)) []
theorem dec_ok : Ar Tryz.prog gl 125 spDec:=by
 refine A4 (gh:=[]) mixed A0 (Aa Aer (Aa Jr Ae)) Tryz.func125 (by kernel_rfl) (by kernel_rfl) ?_
 intro xs ls K h
 unfold spDec at h
 obtain ⟨s,rfl,rfl,hs,h⟩:=h
 obtain ⟨k,hk⟩ : ∃ k,k = Jn s:=⟨_,rfl⟩
 refine ⟨_,_,h k hk,fun D hD=>?_⟩
 cbv
 clear h
 unfold Jn at hk
 refine ⟨s,[45],rfl,rfl,⟨by omega,by decide⟩,fun t ht=>?_⟩
 cbv
 have htl : t.length≤100000:=by
  rw [ht,By]
  split
  ·rw [List.length_drop]; omega
  ·exact hs
 rw [←ht] at hk
 clear ht
 refine ⟨t,Nz,rfl,rfl,by omega,by decide,by decide,fun u hu=>?_⟩
 cbv
 rw [←hu] at hk
 clear hu
 refine br hD (fun h=>?_) (fun h=>?_)<;>cbv
 ·have h1 : t = []∨u≠[]:=by
   have h : ((t == []) || !(u == [])) = true:=h
   simpa using h
  rw [if_pos h1] at hk
  exact Aj hD (by rw [hk]; rfl)
 have h1 : ¬ (t = []∨u≠[]):=by
  have h : ((t == []) || !(u == [])) = false:=h
  simpa using h
 rw [if_neg h1] at hk
 have hpos : 1≤t.length:=by
  cases t with
  | nil=>exact absurd (.inl rfl) h1
  | cons a b=>simp
 clear h h1
 refine ⟨by subst hD; exact ⟨Int.le_refl _,by show (0 : Int) < t.length; omega⟩,fun c hc=>?_⟩
 cbv
 have hc2 : c = ((t.getD 0 0).toNat : Int):=by subst hD; exact hc.h
 refine Aj hD ?_
 rw [hk]
 have : (c != 48) = (t.getD 0 0 != 48):=by
  rw [hc2]
  rw [Bool.eq_iff_iff]
  simp only [bne_iff_ne,ne_eq]
  constructor
  ·intro h e; apply h; rw [e]; rfl
  ·intro h e; apply h
   have : (t.getD 0 0).toNat = 48:=by exact_mod_cast e
   exact UInt8.toNat_inj.1 this
 rw [←this]; rfl
def Wo (s : List UInt8) (lo hi : Int) : Int×Int :=
 if !Jn s then (0,6) else if (Mk s).2 = false∨(Mk s).1 < lo∨hi < (Mk s).1 then (0,7) else ((Mk s).1,0)
theorem Zz (M : Nat) : ∀ (l : List UInt8) (acc : Nat),(∀ c∈l,48≤c.toNat∧c.toNat≤57)→Adp (Lib.parseUintM M acc l) = true
 | [],acc,_=>by simp [Lib.parseUintM,Adp]
 | c :: r,acc,h=>by
  unfold Lib.parseUintM
  rw [if_pos (h c (List.mem_cons_self ..))]
  split
  ·rfl
  ·split
   ·rfl
   ·exact Zz M r _ fun d hd=>h d (List.mem_cons_of_mem _ hd)
theorem Agg (c : UInt8) : Nz.contains c = true↔48≤c.toNat∧c.toNat≤57:=by
 have : ∀ n : Fin 256,Nz.contains (UInt8.ofNat n.1) = true↔48≤n.1∧n.1≤57:=by decide
 have h:=this ⟨c.toNat,c.toNat_lt⟩
 simpa using h
theorem Lt (p : UInt8→Bool) : ∀ l : List UInt8,(l.dropWhile p).dropWhile p = l.dropWhile p
 | []=>rfl
 | c :: r=>by
  by_cases h : p c = true
  ·rw [List.dropWhile_cons_of_pos h,Lt p r]
  ·rw [List.dropWhile_cons_of_neg h,List.dropWhile_cons_of_neg h]
theorem Dh (p : UInt8→Bool) : ∀ l : List UInt8,l.dropWhile p = []↔∀ x∈l,p x = true
 | []=>by simp
 | c :: r=>by
  by_cases h : p c = true
  ·rw [List.dropWhile_cons_of_pos h,Dh p r]
   simp [h]
  ·rw [List.dropWhile_cons_of_neg h]
   simp [h]
theorem Ng {l cs : List UInt8} (h : Lib.trimS l cs = []) : ∀ c∈l,cs.contains c = true:=by
 have h : ((l.reverse.dropWhile (fun x=>cs.contains x)).reverse).dropWhile (fun x=>cs.contains x) = []:=h
 rw [Dh] at h
 have h2 : (l.reverse.dropWhile (fun x=>cs.contains x)).dropWhile (fun x=>cs.contains x) = []:=by
  rw [Dh]
  exact fun x hx=>h x (List.mem_reverse.2 hx)
 rw [Lt,Dh] at h2
 exact fun c hc=>h2 c (List.mem_reverse.2 hc)
theorem Y3 {l : List UInt8} (h0 : l≠[]) (h : ∀ c∈l,48≤c.toNat∧c.toNat≤57) : Adp (Lib.parseUintB 64 l) = true:=by
 unfold Lib.parseUintB
 rw [if_neg h0]
 exact Zz _ l 0 h
theorem Aiz {c : UInt8} {r : List UInt8} (h : Adp (Lib.parseUintB 64 (if c.toNat = 43∨c.toNat = 45 then r else c :: r)) = true) : Adp (Lib.parseIntB 64 (c :: r)) = true:=by
 unfold Lib.parseIntB
 simp only
 rcases hp : Lib.parseUintB 64 (if c.toNat = 43∨c.toNat = 45 then r else c :: r) with u | _ | _
 ·simp only
  split
  ·rfl
  ·split<;>rfl
 ·rw [hp] at h
  cases h
 ·rfl
theorem decF_ok {s : List UInt8} (h : Jn s = true) : Adp (Lib.parseIntB 64 s) = true:=by
 unfold Jn at h
 split at h
 ·cases h
 ·rename_i h1
  have h2 : By s [45]≠[]:=fun e=>h1 (.inl e)
  have h3 : Lib.trimS (By s [45]) Nz = []:=by
   rcases Decidable.em (Lib.trimS (By s [45]) Nz = []) with e | e
   ·exact e
   ·exact absurd (.inr e) h1
  have h4 : ∀ c∈By s [45],48≤c.toNat∧c.toNat≤57:=fun c hc=>(Agg c).1 (Ng h3 c hc)
  clear h h1 h3
  unfold By at h2 h4
  cases s with
  | nil=>split at h2<;>simp at h2
  | cons c r =>
   refine Aiz ?_
   by_cases hp : Vo (c :: r) [45] = true
   ·rw [if_pos hp] at h2 h4
    have hc : c = 45:=by
     unfold Vo at hp
     simp at hp
     exact hp
    subst hc
    simp only [List.length_cons,List.length_nil,List.drop_succ_cons,List.drop_zero] at h2 h4
    rw [if_pos (by decide)]
    exact Y3 h2 h4
   ·rw [if_neg hp] at h2 h4
    have:=h4 c (List.mem_cons_self ..)
    rw [if_neg (by omega)]
    exact Y3 h2 h4
structure IntA (s : List UInt8) (lo hi : Int) : Prop where
 len : s.length≤100000
def spInt : FSpec:=fun _ xs ls K=>∃ (s : List UInt8) (lo hi : Int),xs = [.str s,.int .i64 (.a lo),.int .i64 (.a hi)]∧ls = []∧s.length≤100000∧∀ v e,(v,e) = Wo s lo hi→K (.tup [.int .i64 (.a v),.int .i64 (.a e)]) []
theorem Kj {D : Dn} (hD : D = dn) {e r : Int} {x y : ST} (h1 : x.den = e) (h2 : y.den = r) : Fin (.tup [.int .i64 (.a (D.i x)),.int .i64 (.a (D.i y))]) (.tup [.int .i64 (.a e),.int .i64 (.a r)]) [] []:=by
 subst hD h1 h2; exact D6 (LeV.refl _)
theorem int_ok : Ar Tryz.prog gl 95 spInt:=by
 refine A4 (gh:=[]) mixed A0 (Aa dec_ok (Aa pInt_ok Ae)) Tryz.func95 (by kernel_rfl) (by kernel_rfl) ?_
 intro xs ls K h
 unfold spInt at h
 obtain ⟨s,lo,hi,rfl,rfl,hs,h⟩:=h
 obtain ⟨k,hk⟩ : ∃ k,k = Wo s lo hi:=⟨_,rfl⟩
 obtain ⟨kv,ke⟩:=k
 refine ⟨_,_,h kv ke hk,fun D hD=>?_⟩
 cbv
 clear h
 unfold Wo at hk
 refine ⟨s,rfl,rfl,hs,fun d hd=>?_⟩
 cbv
 have hdo : d = true→Adp (Lib.parseIntB 64 s) = true:=fun h=>decF_ok (by rw [←hd]; exact h)
 rw [←hd] at hk
 clear hd
 refine br hD (fun h=>?_) (fun h=>?_)<;>cbv
 ·have h1 : (!d) = true:=h
  rw [if_pos h1] at hk
  simp only [Prod.mk.injEq] at hk
  exact Kj hD hk.1.symm hk.2.symm
 have h1 : (!d) = false:=h
 rw [if_neg (by rw [h1]; simp)] at hk
 have hsy:=hdo (by simpa using h1)
 clear h h1 hdo
 refine ⟨s,_,_,rfl,rfl,⟨by subst hD; rfl,by subst hD; rfl,hs,hsy⟩,fun v e hve=>?_⟩
 cbv
 rw [←hve] at hk
 simp only at hk
 clear hve hsy
 refine br hD (fun h=>?_) (fun h=>?_)<;>cbv
 ·have h1 : e = false∨v < lo∨hi < v:=by
   have h : ((!e || decide (v < lo)) || decide (hi < v)) = true:=h
   simp only [Bool.or_eq_true,Bool.not_eq_true',decide_eq_true_eq] at h
   rcases h with (h | h) | h
   ·exact .inl h
   ·exact .inr (.inl h)
   ·exact .inr (.inr h)
  rw [if_pos h1] at hk
  simp only [Prod.mk.injEq] at hk
  exact Kj hD hk.1.symm hk.2.symm
 ·have h1 : ¬ (e = false∨v < lo∨hi < v):=by
   have h : ((!e || decide (v < lo)) || decide (hi < v)) = false:=h
   simp only [Bool.or_eq_false_iff,Bool.not_eq_false',decide_eq_false_iff_not] at h
   rintro (h2 | h2 | h2)
   ·rw [h2] at h; exact absurd h.1.1 (by simp)
   ·exact h.1.2 h2
   ·exact h.2 h2
  rw [if_neg h1] at hk
  simp only [Prod.mk.injEq] at hk
  exact Kj hD hk.1.symm hk.2.symm
def Bi (s : List UInt8) (hi : Int) : Int×Int:=if Lib.hasPrefix s [45] then (0,6) else Wo s 0 hi
def spNumber : FSpec:=fun _ xs ls K=>∃ (s : List UInt8) (hi : Int),xs = [.str s,.int .i64 (.a hi)]∧ls = []∧s.length≤100000∧∀ v e,(v,e) = Bi s hi→K (.tup [.int .i64 (.a v),.int .i64 (.a e)]) []
theorem Ai2 : Ar Tryz.prog gl 55 spNumber:=by
 refine A4 (gh:=[]) mixed A0 (Aa Zn (Aa int_ok Ae)) Tryz.func55 (by kernel_rfl) (by kernel_rfl) ?_
 intro xs ls K h
 unfold spNumber at h
 obtain ⟨s,hi,rfl,rfl,hs,h⟩:=h
 obtain ⟨k,hk⟩ : ∃ k,k = Bi s hi:=⟨_,rfl⟩
 obtain ⟨kv,ke⟩:=k
 refine ⟨_,_,h kv ke hk,fun D hD=>?_⟩
 cbv
 clear h
 unfold Bi at hk
 refine ⟨s,[45],rfl,rfl,fun b hb=>?_⟩
 cbv
 rw [←hb] at hk
 clear hb
 refine br hD (fun h=>?_) (fun h=>?_)<;>cbv
 ·have h1 : b = true:=h
  rw [if_pos h1] at hk
  simp only [Prod.mk.injEq] at hk
  exact Kj hD hk.1.symm hk.2.symm
 ·have h1 : b = false:=h
  rw [if_neg (by rw [h1]; simp)] at hk
  refine ⟨s,_,_,rfl,rfl,hs,fun v e hve=>?_⟩
  cbv
  have hve : (v,e) = Wo s 0 hi:=by subst hD; exact hve
  rw [←hve] at hk
  simp only [Prod.mk.injEq] at hk
  exact Kj hD hk.1.symm hk.2.symm
end Go.Proofs.YtefelnhpfdcleaaGreatDoor
namespace Go.Proofs.YtefelnhpfdcleaaGreatDoor
open Go Go.Sx
set_option maxRecDepth 100000
set_option maxHeartbeats 4000000
theorem Bn.sub {f f' : Nat→List SV} {n n' : Int} {t : List UInt8} {a b : Nat} {A B : Int} (R : Bn f n t) (h : Abu f' n' f A B) (hA : A = a) (hB : B = b) (hab : a≤b) (hb : b≤t.length) : Bn f' n' ((t.drop a).take (b - a)):=by
 refine ⟨by rw [h.len,hA,hB,List.length_take,List.length_drop]; omega,fun i hi=>?_⟩
 rw [List.length_take,List.length_drop] at hi
 rw [h.row i (i + a) (by rw [hA]; omega),R.f (i + a) (by omega)]
 rw [List.getD_eq_getElem?_getD,List.getD_eq_getElem?_getD,List.getElem?_take,if_pos (by omega),List.getElem?_drop,Nat.add_comm a i]
theorem Ib (c : UInt8) (s : List UInt8) : (Ah c s).1.length≤s.length∧(Ah c s).2.1.length≤s.length:=by
 induction s with
 | nil=>exact ⟨Nat.le_refl _,Nat.le_refl _⟩
 | cons b r ih=>unfold Ah; split<;>simp<;>omega
def rVer : List UInt8:=[32,72,84,84,80,47,49,46,49,13,10]
def Eh (is both : Bool) (m t : List UInt8) (has : Bool) : Bool:=(((!is || !both) || m == []) || t == []) || has
def Ax (b : List UInt8) : List UInt8×List UInt8×Int×Int :=
 if !(Ah 10 (b.take 1024)).2.2 && decide (b.length < 1024) then ([],[],0,10) else if !(Ah 10 (b.take 1024)).2.2 then ([],[],0,3) else
 if Eh (Lib.hasSuffix ((Ah 10 (b.take 1024)).1 ++ [10]) rVer) (Ah 32 (Lib.trimSuffix ((Ah 10 (b.take 1024)).1 ++ [10]) rVer)).2.2 (Ah 32 (Lib.trimSuffix ((Ah 10 (b.take 1024)).1 ++ [10]) rVer)).1 (Ah 32 (Lib.trimSuffix ((Ah 10 (b.take 1024)).1 ++ [10]) rVer)).2.1 (decide (0≤Lib.indexByte (Ah 32 (Lib.trimSuffix ((Ah 10 (b.take 1024)).1 ++ [10]) rVer)).2.1 32)) then ([],[],0,6) else
 ((Ah 32 (Lib.trimSuffix ((Ah 10 (b.take 1024)).1 ++ [10]) rVer)).1,(Ah 32 (Lib.trimSuffix ((Ah 10 (b.take 1024)).1 ++ [10]) rVer)).2.1,((Ah 10 (b.take 1024)).1.length : Int) + 1,0)
def spReadLine : FSpec:=fun _ xs ls K=>∃ (b : List UInt8) (nl : Bool) (n : Int) (f : Nat→List SV),xs = [.sl (.a nl) (.a n) 1 f]∧ls = []∧Bn f n b∧b.length≤1000000∧∀ m t k e,(m,t,k,e) = Ax b→K (.tup [.str m,.str t,.int .i64 (.a k),.int .i64 (.a e)]) []
theorem Oe {D : Dn} (hD : D = dn) {m t m' t' : List UInt8} {k e : Int} {x y : ST} (h1 : m' = m) (h2 : t' = t) (h3 : x.den = k) (h4 : y.den = e) : Fin (.tup [.str m',.str t',.int .i64 (.a (D.i x)),.int .i64 (.a (D.i y))]) (.tup [.str m,.str t,.int .i64 (.a k),.int .i64 (.a e)]) [] []:=by
 subst hD h1 h2 h3 h4; exact D6 (LeV.refl _)
theorem Acl : Ar Tryz.prog gl 52 spReadLine:=by
 refine A4 (gh:=[]) mixed A0 (Aa Xb (Aa Z0 (Aa Ad5 Ae))) Tryz.func52 (by kernel_rfl) (by kernel_rfl) ?_
 intro xs ls K h
 unfold spReadLine at h
 obtain ⟨b,nl,n,f,rfl,rfl,R,hb,h⟩:=h
 obtain ⟨k,hk0⟩ : ∃ k,k = Ax b:=⟨_,rfl⟩
 obtain ⟨km,kt,kk,ke⟩:=k
 have hk:=hk0
 unfold Ax at hk
 obtain ⟨s0,hs0⟩ : ∃ s,s = b.take 1024:=⟨_,rfl⟩
 rw [←hs0] at hk
 obtain ⟨c1,hc1⟩ : ∃ s,s = Ah 10 s0:=⟨_,rfl⟩
 rw [←hc1] at hk
 have hcl:=Ib 10 s0
 rw [←hc1] at hcl
 obtain ⟨ca,cb,ct⟩:=c1
 simp only at hk hcl
 have hs0l : s0.length≤1024:=by rw [hs0,List.length_take]; omega
 refine ⟨_,_,h km kt kk ke hk0,fun D hD=>?_⟩
 cbv
 clear h hk0
 intro mn hmn
 cbv
 have hmn2 : VI mn (min b.length 1024):=⟨by
  have h1 : mn = min n 1024:=by subst hD; exact hmn.h
  have:=R.n
  rw [h1,this]; omega⟩
 clear hmn
 refine ⟨by subst hD; exact ⟨Int.le_refl _,by show (0 : Int)≤mn; rw [hmn2.h]; omega,by show mn≤n; rw [hmn2.h,R.n]; omega⟩,fun f1 n1 hsub=>?_⟩
 cbv
 have R1 : Bn f1 n1 s0:=by
  have:=R.sub (a:=0) (b:=min b.length 1024) hsub (by subst hD; rfl) (by subst hD; exact hmn2.h) (by omega) (by omega)
  rw [hs0]
  have e : (b.drop 0).take (min b.length 1024 - 0) = b.take 1024:=by
   rw [List.drop_zero,Nat.sub_zero]
   rcases Nat.le_total b.length 1024 with h | h
   ·rw [Nat.min_eq_left h,List.take_of_length_le (Nat.le_refl _),List.take_of_length_le h]
   ·rw [Nat.min_eq_right h]
  rw [e] at this; exact this
 clear hsub
 refine ⟨by subst hD; exact R1.byte,fun r hr=>?_⟩
 cbv
 have hr2 : r = s0:=by subst hD; exact R1.str hr
 clear hr
 refine ⟨r,10,rfl,rfl,by rw [hr2]; omega,fun a x t hat=>?_⟩
 cbv
 rw [hr2,←hc1] at hat
 simp only [Prod.mk.injEq] at hat
 obtain ⟨hq1,hq2,hq3⟩:=hat
 subst hq1 hq2 hq3
 clear hc1 hr2
 refine br hD (fun h=>?_) (fun h=>?_)<;>cbv
 ·have h1 : (!t && decide (b.length < 1024)) = true:=by
   have h : (!t && decide (n < 1024)) = true:=h
   have e : decide (n < 1024) = decide (b.length < 1024):=by rw [decide_eq_decide,R.n]; omega
   rw [←e]; exact h
  rw [if_pos h1] at hk
  simp only [Prod.mk.injEq] at hk
  exact Oe hD hk.1.symm hk.2.1.symm hk.2.2.1.symm hk.2.2.2.symm
 have h1 : (!t && decide (b.length < 1024)) = false:=by
  have h : (!t && decide (n < 1024)) = false:=h
  have e : decide (n < 1024) = decide (b.length < 1024):=by rw [decide_eq_decide,R.n]; omega
  rw [←e]; exact h
 rw [if_neg (by rw [h1]; simp)] at hk
 clear h h1
 refine br hD (fun h=>?_) (fun h=>?_)<;>cbv
 ·have h1 : (!t) = true:=h
  rw [if_pos h1] at hk
  simp only [Prod.mk.injEq] at hk
  exact Oe hD hk.1.symm hk.2.1.symm hk.2.2.1.symm hk.2.2.2.symm
 have h1 : (!t) = false:=h
 rw [if_neg (by rw [h1]; simp)] at hk
 have hal : a.length≤1024:=by omega
 clear h h1
 refine ⟨⟨by simp only [List.length_cons,List.length_nil]; omega⟩,fun s1 hs1=>?_⟩
 cbv
 have hs1 : s1 = a ++ [10]:=hs1.h
 rw [←hs1] at hk
 have hs1l : s1.length≤1025:=by rw [hs1]; simp; omega
 clear hs1
 refine ⟨s1,rVer,rfl,rfl,by omega,fun s2 is2 hs2 his2=>?_⟩
 cbv
 rw [←hs2,←his2] at hk
 have hs2l : s2.length≤1025:=by
  rw [hs2,Lib.trimSuffix]
  split
  ·rw [List.length_take]; omega
  ·exact hs1l
 clear hs2 his2
 refine ⟨s2,32,rfl,rfl,by omega,fun me ta bo hmt=>?_⟩
 cbv
 rw [←hmt] at hk
 simp only at hk
 clear hmt
 refine ⟨ta,32,rfl,rfl,fun cc hcc=>?_⟩
 cbv
 rw [←hcc] at hk
 clear hcc
 have hwr : IntKind.i64.wrap ((a.length : Int) + 1) = (a.length : Int) + 1:=Am (by omega) (by omega)
 refine br hD (fun h=>?_) (fun h=>?_)<;>cbv
 ·have h1 : Eh is2 bo me ta cc = true:=h
  rw [if_pos h1] at hk
  simp only [Prod.mk.injEq] at hk
  exact Oe hD hk.1.symm hk.2.1.symm hk.2.2.1.symm hk.2.2.2.symm
 ·have h1 : Eh is2 bo me ta cc = false:=h
  rw [if_neg (by rw [h1]; simp)] at hk
  simp only [Prod.mk.injEq] at hk
  refine Oe hD hk.1.symm hk.2.1.symm ?_ hk.2.2.2.symm
  rw [hk.2.2.1]
  have hwr : IntKind.i64.wrap ((a.length : Int) + 1) = (a.length : Int) + 1:=Am (by omega) (by omega)
  exact hwr
end Go.Proofs.YtefelnhpfdcleaaGreatDoor
namespace Go.Proofs.YtefelnhpfdcleaaGreatDoor
open Go Go.Sx
set_option maxRecDepth 100000
set_option maxHeartbeats 8000000
structure Fr where
 hosts : List (List UInt8)
 ids : List (List UInt8)
 lens : List (List UInt8)
 coded : Bool
 rest : List HF
def nHost : List UInt8:=[104,111,115,116]
def nId : List UInt8:=[120,45,114,101,113,117,101,115,116,45,105,100]
def nLen : List UInt8:=[99,111,110,116,101,110,116,45,108,101,110,103,116,104]
def nTE : List UInt8:=[116,114,97,110,115,102,101,114,45,101,110,99,111,100,105,110,103]
def Cs (r : Fr) (x : HF) : Fr :=
 if Ao x.name = nHost then { r with hosts:=r.hosts ++ [x.value] } else
 if Ao x.name = nId then { r with ids:=r.ids ++ [x.value] } else
 if Ao x.name = nLen then { r with lens:=r.lens ++ [x.value] } else
 if Ao x.name = nTE then { r with coded:=true } else { r with rest:=r.rest ++ [x] }
def D9 (l : List HF) : Fr:=l.foldl Cs ⟨[],[],[],false,[]⟩
structure GrS (f : Nat→List SV) (n : Int) (nl : Bool) (l : List (List UInt8)) : Prop where
 row : A8 f n l
 nl : nl = l.isEmpty
structure GrH (f : Nat→List SV) (n : Int) (nl : Bool) (l : List HF) : Prop where
 row : A9 f n l
 nl : nl = l.isEmpty
structure FrV (r : Fr) (f1 f2 f3 f4 : Nat→List SV) (n1 n2 n3 n4 : Int) (b1 b2 b3 b4 : Bool) : Prop where
 g1 : GrS f1 n1 b1 r.hosts
 g2 : GrS f2 n2 b2 r.ids
 g3 : GrS f3 n3 b3 r.lens
 g4 : GrH f4 n4 b4 r.rest
def spFrame : FSpec:=fun _ xs ls K=>∃ (l : List HF) (nl : Bool) (n : Int) (f : Nat→List SV),xs = [.sl (.a nl) (.a n) 2 f]∧ls = []∧A9 f n l∧l.length≤100∧
 ∀ r f1 f2 f3 f4 n1 n2 n3 n4 b1 b2 b3 b4,r = D9 l→FrV r f1 f2 f3 f4 n1 n2 n3 n4 b1 b2 b3 b4→K (.agg [.sl (.a b1) (.a n1) 1 f1,.sl (.a b2) (.a n2) 1 f2,.sl (.a b3) (.a n3) 1 f3,.bool (.a r.coded),.sl (.a b4) (.a n4) 2 f4]) []
structure FrJ (l : List HF) (k r : Fr) (f1 f2 f3 f4 : Nat→List SV) (n1 n2 n3 n4 : Int) (b1 b2 b3 b4 : Bool) (i : Nat) (I : Int) (m : Nat) : Prop where
 lie : AtR l i I m
 v : FrV r f1 f2 f3 f4 n1 n2 n3 n4 b1 b2 b3 b4
 k : k = (l.drop i).foldl Cs r
 len : r.hosts.length + r.ids.length + r.lens.length + r.rest.length≤i
def z80 : List SV:=[.sl (.a true) (.a 0) 1 (fun _=>[]),.sl (.a true) (.a 0) 1 (fun _=>[]),.sl (.a true) (.a 0) 1 (fun _=>[]),.bool (.a false),.sl (.a true) (.a 0) 2 (fun _=>[])]
def frJ (l : List HF) (k : Fr) (nl : Bool) (n : Int) (f : Nat→List SV) (m : Nat) (vs : List (Option SV)) (hp : List Hl) : Prop :=
 ∃ (r : Fr) (f1 f2 f3 f4 : Nat→List SV) (n1 n2 n3 n4 : Int) (b1 b2 b3 b4 c : Bool) (i : Nat) (I : Int),vs = [some (.ptr 0 0),some (.ptr 1 0),some (.sl (.a nl) (.a n) 2 f),some (.int .i64 (.a n)),some (.int .i64 (.a I))]∧
  hp = [.blk 80 z80,.blk 80 [.gsl (.a b1) (.a n1) 1 f1 2,.gsl (.a b2) (.a n2) 1 f2 3,.gsl (.a b3) (.a n3) 1 f3 4,.bool (.a c),.gsl (.a b4) (.a n4) 2 f4 5],.tail 9 (.a n1) 1,.tail 9 (.a n2) 1,.tail 9 (.a n3) 1,.tail 69 (.a n4) 2]∧c = r.coded∧FrJ l k r f1 f2 f3 f4 n1 n2 n3 n4 b1 b2 b3 b4 i I m
theorem nilRow' : A9 (fun _=>[]) 0 []:=⟨rfl,fun i hi=>absurd hi (by simp),by simp,fun i hi=>absurd hi (by simp)⟩
theorem GrS.nil : GrS (fun _=>[]) 0 true []:=⟨A8.nil,rfl⟩
theorem GrH.nil : GrH (fun _=>[]) 0 true []:=⟨nilRow',rfl⟩
theorem GrS.more {f f' g : Nat→List SV} {n n' : Int} {nl nl' : Bool} {l : List (List UInt8)} {x : List UInt8} (G : GrS f n nl l) (hg : g 0 = [.str x]) (h : H4 f' n' n 1 f g) (hl : l.length≤100) (hb : nl' = false) : GrS f' n' nl' (l ++ [x]):=⟨G.row.more hg h (by omega),by rw [hb]; simp⟩
theorem GrH.more {f f' g : Nat→List SV} {n n' : Int} {nl nl' : Bool} {l : List HF} {x : HF} (G : GrH f n nl l) (hg : g 0 = B6 x) (hs : x.small) (h : H4 f' n' n 1 f g) (hl : l.length≤100) (hb : nl' = false) : GrH f' n' nl' (l ++ [x]) :=
 ⟨G.row.app (A9.one hg hs) h (by simp only [List.length_cons,List.length_nil]; omega),by rw [hb]; simp⟩
theorem A9.smallM {f : Nat→List SV} {n : Int} {l : List HF} (R : A9 f n l) (x : HF) (hx : x∈l) : x.small:=by
 obtain ⟨k,hk,e⟩:=List.mem_iff_getElem.1 hx
 have:=R.small k hk
 rwa [List.getD_eq_getElem?_getD,List.getElem?_eq_getElem hk,Option.getD_some,e] at this
theorem Sd : ∀ (l : List HF) (r : Fr),(∀ x∈l,x.small)→(∀ x∈r.rest,x.small)→
  (l.foldl Cs r).hosts.length≤r.hosts.length + l.length∧(l.foldl Cs r).ids.length≤r.ids.length + l.length∧(l.foldl Cs r).lens.length≤r.lens.length + l.length∧(l.foldl Cs r).rest.length≤r.rest.length + l.length∧∀ x∈(l.foldl Cs r).rest,x.small
 | [],r,_,h=>⟨Nat.le_refl _,Nat.le_refl _,Nat.le_refl _,Nat.le_refl _,h⟩
 | x :: l,r,hl,h=>by
  have hx:=hl x (List.mem_cons_self ..)
  have step : (Cs r x).hosts.length≤r.hosts.length + 1∧(Cs r x).ids.length≤r.ids.length + 1∧(Cs r x).lens.length≤r.lens.length + 1∧(Cs r x).rest.length≤r.rest.length + 1∧∀ y∈(Cs r x).rest,y.small:=by
   unfold Cs
   split
   ·exact ⟨by simp,by simp,by simp,by simp,h⟩
   ·split
    ·exact ⟨by simp,by simp,by simp,by simp,h⟩
    ·split
     ·exact ⟨by simp,by simp,by simp,by simp,h⟩
     ·split
      ·exact ⟨by simp,by simp,by simp,by simp,h⟩
      ·refine ⟨by simp,by simp,by simp,by simp,fun y hy=>?_⟩
       simp only [List.mem_append,List.mem_singleton] at hy
       rcases hy with hy | rfl
       ·exact h y hy
       ·exact hx
  obtain ⟨s1,s2,s3,s4,s5⟩:=step
  obtain ⟨t1,t2,t3,t4,t5⟩:=Sd l (Cs r x) (fun y hy=>hl y (List.mem_cons_of_mem _ hy)) s5
  simp only [List.foldl_cons,List.length_cons]
  exact ⟨by omega,by omega,by omega,by omega,t5⟩
theorem Mv {f f2 : Nat→List SV} {n n2 : Int} {b b2 : Bool} {l : List (List UInt8)} {x : BT} {y : ST} (G : GrS f n b l) (G2 : GrS f2 n2 b2 l) (hx : x.den = b:=by rfl) (hy : y.den = n:=by rfl) : LeV (.sl x y 1 f) (.sl (.a b2) (.a n2) 1 f2):=by
 refine LeV.sl (by rw [hx,G.nl,G2.nl.symm]; rfl) (by rw [hy,G.row.n,G2.row.n.symm]; rfl) fun i hi=>?_
 rw [hy] at hi
 have:=G.row.n
 rw [G.row.f i (by omega),G2.row.f i (by omega)]
theorem Oa {f f2 : Nat→List SV} {n n2 : Int} {b b2 : Bool} {l : List HF} {x : BT} {y : ST} (G : GrH f n b l) (G2 : GrH f2 n2 b2 l) (hx : x.den = b:=by rfl) (hy : y.den = n:=by rfl) : LeV (.sl x y 2 f) (.sl (.a b2) (.a n2) 2 f2):=by
 refine LeV.sl (by rw [hx,G.nl,G2.nl.symm]; rfl) (by rw [hy,G.row.n,G2.row.n.symm]; rfl) fun i hi=>?_
 rw [hy] at hi
 have:=G.row.n
 rw [G.row.f i (by omega),G2.row.f i (by omega)]
theorem Al9 : Ar Tryz.prog gl 54 spFrame:=by
 refine Wz (gh:=[(1,[.hold 3 0 9,.hold 3 1 9,.hold 3 2 9,.hold 3 4 69])]) mixed A0 (Aa K9 Ae) Tryz.func54 (by kernel_rfl) (by kernel_rfl) ?_
 intro xs ls K h
 unfold spFrame at h
 obtain ⟨l,nl,n,f,rfl,rfl,R,hl,h⟩:=h
 obtain ⟨k,hk⟩ : ∃ k,k = D9 l:=⟨_,rfl⟩
 have hk0 : k = l.foldl Cs ⟨[],[],[],false,[]⟩:=hk
 have hV : ∃ f1 f2 f3 f4 n1 n2 n3 n4 b1 b2 b3 b4,FrV k f1 f2 f3 f4 n1 n2 n3 n4 b1 b2 b3 b4:=by
  obtain ⟨L1,L2,L3,L4,L5⟩:=Sd l ⟨[],[],[],false,[]⟩ (fun x hx=>R.smallM x hx) (fun x hx=>by cases hx)
  rw [←hk0] at L1 L2 L3 L4 L5
  simp only [List.length_nil] at L1 L2 L3 L4
  exact ⟨_,_,_,_,_,_,_,_,_,_,_,_,⟨A8.row (by omega),rfl⟩,⟨A8.row (by omega),rfl⟩,⟨A8.row (by omega),rfl⟩,⟨A9.row (by omega) (fun i hi=>L5 _ (by rw [List.getD_eq_getElem?_getD,List.getElem?_eq_getElem hi]; exact List.getElem_mem hi)),rfl⟩⟩
 obtain ⟨f1,f2,f3,f4,n1,n2,n3,n4,b1,b2,b3,b4,hV⟩:=hV
 obtain ⟨J,hJ⟩ : ∃ J,J = frJ l k nl n f:=⟨_,rfl⟩
 refine ⟨_,_,h k f1 f2 f3 f4 n1 n2 n3 n4 b1 b2 b3 b4 hk hV,fun D hD=>?_⟩
 cbv
 clear h
 refine ⟨[2,3,6,7,8],J,⟨rfl,l.length,?_⟩,?_⟩
 ·rw [hJ]
  subst hD
  exact ⟨⟨[],[],[],false,[]⟩,_,_,_,_,_,_,_,_,_,_,_,_,_,0,_,rfl,rfl,rfl,⟨AtR.zero R.len,⟨GrS.nil,GrS.nil,GrS.nil,GrH.nil⟩,hk,Nat.le_refl _⟩⟩
 clear hk hk0
 intro m vs hp hj
 rw [hJ] at hj
 obtain ⟨r,e1,e2,e3,e4,m1,m2,m3,m4,c1,c2,c3,c4,c,i,I,rfl,rfl,hc,V⟩:=hj
 cbv
 refine br hD (fun h=>?_) (fun h=>?_)<;>cbv
 ·have hlt:=V.lie.lt R.n (of_decide_eq_true (p:=I < n) h)
  clear h
  refine ⟨V.lie.inB hD R.n hlt,fun j hj=>?_⟩
  obtain rfl:=V.lie.j hD hj
  clear hj
  have q1:=R.f j hlt
  have hsm:=R.small j hlt
  have hk2:=V.k
  rw [Qv (d:=default) hlt] at hk2
  obtain ⟨x,hx⟩ : ∃ x,x = l.getD j default:=⟨_,rfl⟩
  rw [←hx] at q1 hk2 hsm
  obtain ⟨a,b⟩:=x
  cbv
  rw [q1]
  cbv
  refine ⟨a,rfl,rfl,hsm.1,fun t ht=>?_⟩
  cbv
  have ht : t = Ao a:=ht
  rw [List.foldl_cons,Cs] at hk2
  simp only at hk2
  rw [←ht] at hk2
  clear ht
  refine br hD (fun h=>?_) (fun h=>?_)<;>cbv
  ·have h1 : t = nHost:=eq_of_beq (show (t == nHost) = true from h)
   rw [if_pos h1] at hk2
   clear h h1
   intro g hg
   cbv
   have hg0 : g 0 = [.str b]:=hg.h 0 _ rfl
   clear hg
   have hln : r.hosts.length≤100:=by have:=V.len; have:=V.lie.le; omega
   have hN : m1 = (r.hosts.length : Int):=V.v.g1.row.n
   refine ⟨by subst hD; exact ⟨rfl,by show (m1 + 1) * 16≤_; omega,by show m1 + 1≤_; omega⟩,fun f' n' hm=>?_⟩
   cbv
   have G2 : ∀ nl',nl' = false→GrS f' n' nl' (r.hosts ++ [b]):=fun nl' hb=>V.v.g1.more hg0 (by subst hD; exact hm) (by omega) hb
   clear hm hN
   obtain ⟨y1,y2⟩:=V.lie.step hD hlt
   refine ⟨_,y1,?_⟩
   rw [hJ]
   unfold frJ
   subst hD
   refine ⟨⟨r.hosts ++ [b],r.ids,r.lens,r.coded,r.rest⟩,f',e2,e3,e4,n',m2,m3,m4,_,c2,c3,c4,c,j + 1,_,rfl,rfl,hc,⟨y2,⟨G2 _ (Bool.and_false _),V.v.g2,V.v.g3,V.v.g4⟩,hk2,by have:=V.len; simp only [List.length_append,List.length_cons,List.length_nil]; omega⟩⟩
  have h1 : ¬ t = nHost:=by
   have h : (t == nHost) = false:=h
   intro e; rw [e] at h; simp at h
  rw [if_neg h1] at hk2
  clear h h1
  refine br hD (fun h=>?_) (fun h=>?_)<;>cbv
  ·have h1 : t = nId:=eq_of_beq (show (t == nId) = true from h)
   rw [if_pos h1] at hk2
   clear h h1
   intro g hg
   cbv
   have hg0 : g 0 = [.str b]:=hg.h 0 _ rfl
   clear hg
   have hln : r.ids.length≤100:=by have:=V.len; have:=V.lie.le; omega
   have hN : m2 = (r.ids.length : Int):=V.v.g2.row.n
   refine ⟨by subst hD; exact ⟨rfl,by show (m2 + 1) * 16≤_; omega,by show m2 + 1≤_; omega⟩,fun f' n' hm=>?_⟩
   cbv
   have G2 : ∀ nl',nl' = false→GrS f' n' nl' (r.ids ++ [b]):=fun nl' hb=>V.v.g2.more hg0 (by subst hD; exact hm) (by omega) hb
   clear hm hN
   obtain ⟨y1,y2⟩:=V.lie.step hD hlt
   refine ⟨_,y1,?_⟩
   rw [hJ]
   unfold frJ
   subst hD
   refine ⟨⟨r.hosts,r.ids ++ [b],r.lens,r.coded,r.rest⟩,e1,f',e3,e4,m1,n',m3,m4,c1,_,c3,c4,c,j + 1,_,rfl,rfl,hc,⟨y2,⟨V.v.g1,G2 _ (Bool.and_false _),V.v.g3,V.v.g4⟩,hk2,by have:=V.len; simp only [List.length_append,List.length_cons,List.length_nil]; omega⟩⟩
  have h1 : ¬ t = nId:=by
   have h : (t == nId) = false:=h
   intro e; rw [e] at h; simp at h
  rw [if_neg h1] at hk2
  clear h h1
  refine br hD (fun h=>?_) (fun h=>?_)<;>cbv
  ·have h1 : t = nLen:=eq_of_beq (show (t == nLen) = true from h)
   rw [if_pos h1] at hk2
   clear h h1
   intro g hg
   cbv
   have hg0 : g 0 = [.str b]:=hg.h 0 _ rfl
   clear hg
   have hln : r.lens.length≤100:=by have:=V.len; have:=V.lie.le; omega
   have hN : m3 = (r.lens.length : Int):=V.v.g3.row.n
   refine ⟨by subst hD; exact ⟨rfl,by show (m3 + 1) * 16≤_; omega,by show m3 + 1≤_; omega⟩,fun f' n' hm=>?_⟩
   cbv
   have G2 : ∀ nl',nl' = false→GrS f' n' nl' (r.lens ++ [b]):=fun nl' hb=>V.v.g3.more hg0 (by subst hD; exact hm) (by omega) hb
   clear hm hN
   obtain ⟨y1,y2⟩:=V.lie.step hD hlt
   refine ⟨_,y1,?_⟩
   rw [hJ]
   unfold frJ
   subst hD
   refine ⟨⟨r.hosts,r.ids,r.lens ++ [b],r.coded,r.rest⟩,e1,e2,f',e4,m1,m2,n',m4,c1,c2,_,c4,c,j + 1,_,rfl,rfl,hc,⟨y2,⟨V.v.g1,V.v.g2,G2 _ (Bool.and_false _),V.v.g4⟩,hk2,by have:=V.len; simp only [List.length_append,List.length_cons,List.length_nil]; omega⟩⟩
  have h1 : ¬ t = nLen:=by
   have h : (t == nLen) = false:=h
   intro e; rw [e] at h; simp at h
  rw [if_neg h1] at hk2
  clear h h1
  refine br hD (fun h=>?_) (fun h=>?_)<;>cbv
  ·have h1 : t = nTE:=eq_of_beq (show (t == nTE) = true from h)
   rw [if_pos h1] at hk2
   clear h h1
   obtain ⟨y1,y2⟩:=V.lie.step hD hlt
   refine ⟨_,y1,?_⟩
   rw [hJ]
   unfold frJ
   subst hD
   exact ⟨⟨r.hosts,r.ids,r.lens,true,r.rest⟩,e1,e2,e3,e4,m1,m2,m3,m4,c1,c2,c3,c4,true,j + 1,_,rfl,rfl,rfl,⟨y2,⟨V.v.g1,V.v.g2,V.v.g3,V.v.g4⟩,hk2,by have:=V.len; simp only; omega⟩⟩
  have h1 : ¬ t = nTE:=by
   have h : (t == nTE) = false:=h
   intro e; rw [e] at h; simp at h
  rw [if_neg h1] at hk2
  clear h h1
  intro g hg
  cbv
  have hg0 : g 0 = B6 ⟨a,b⟩:=hg.h 0 _ rfl
  clear hg
  have hln : r.rest.length≤100:=by have:=V.len; have:=V.lie.le; omega
  have hN : m4 = (r.rest.length : Int):=V.v.g4.row.n
  refine ⟨by subst hD; exact ⟨rfl,by show (m4 + 1) * 32≤_; omega,by show m4 + 1≤_; omega⟩,fun f' n' hm=>?_⟩
  cbv
  have G2 : ∀ nl',nl' = false→GrH f' n' nl' (r.rest ++ [⟨a,b⟩]):=fun nl' hb=>V.v.g4.more hg0 hsm (by subst hD; exact hm) (by omega) hb
  clear hm hN
  obtain ⟨y1,y2⟩:=V.lie.step hD hlt
  refine ⟨_,y1,?_⟩
  rw [hJ]
  unfold frJ
  subst hD
  refine ⟨⟨r.hosts,r.ids,r.lens,r.coded,r.rest ++ [⟨a,b⟩]⟩,e1,e2,e3,f',m1,m2,m3,n',c1,c2,c3,(c4 && false),c,j + 1,_,rfl,rfl,hc,⟨y2,⟨V.v.g1,V.v.g2,V.v.g3,G2 _ (Bool.and_false _)⟩,hk2,by have:=V.len; simp only [List.length_append,List.length_cons,List.length_nil]; omega⟩⟩
 ·have hi:=V.lie.eq R.n (of_decide_eq_false (p:=I < n) h)
  have hk2:=V.k
  rw [hi,List.drop_length] at hk2
  have hk3 : k = r:=hk2
  subst hk3
  subst hD
  refine ⟨LeV.agg (LeL.cons (Mv V.v.g1 hV.g1) (LeL.cons (Mv V.v.g2 hV.g2) (LeL.cons (Mv V.v.g3 hV.g3) (LeL.cons (Ry hc) (LeL.cons (Oa V.v.g4 hV.g4) LeL.nil))))),LeH.refl _,Nat.le_refl _⟩
end Go.Proofs.YtefelnhpfdcleaaGreatDoor
