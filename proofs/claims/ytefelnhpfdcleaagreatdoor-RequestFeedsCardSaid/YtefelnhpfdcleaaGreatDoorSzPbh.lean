/- Part of the proofs of the statements about requests (layer 7): a symbolic executor over the code, that it is sound, and contracts of functions; it has no conditions of its own. -/
import Derived.Test.YtefelnhpfdcleaaGreatDoorSzPbg
import Derived.Test.YtefelnhpfdcleaaGreatDoorSzPbf
namespace Go.Proofs.YtefelnhpfdcleaaGreatDoor
open Go Go.Sx
set_option maxRecDepth 100000
set_option maxHeartbeats 4000000
def Zs (t : List UInt8) : List HF→Option (List UInt8)
 | []=>none
 | x :: l=>if Ao x.name = t then some x.value else Zs t l
def Alx (kind : Int) (name : List UInt8) : Bool :=
 (!(kind == 3) && kind != 1 && kind != 2 || (kind == 3) && !Br name) || !(kind == 3) && name != []
def keyF (r : Rq) (kind : Int) (name : List UInt8) : List UInt8×Int :=
 if Alx kind name then ([],2) else if (Dc r).2≠0 then ([],(Dc r).2) else
 if kind = 2 then (r.host,0) else if kind = 1 then ((Ah 63 (Le r.target).1).1,(Le r.target).2) else
 match Zs (Ao name) r.fields with
 | some v=>(v,0)
 | none=>([],4)
def If (l : List (List UInt8)) : Nat:=(l.map fun x=>x.length + 1).sum
theorem Sz (a b : List (List UInt8)) : If (a ++ b) = If a + If b:=by simp [If]
theorem Ab2 (x : List UInt8) : If [x] = x.length + 1:=by simp [If]
theorem Ab1 : ∀ (l : List (List UInt8)),If l.dropLast≤If l
 | []=>Nat.le_refl _
 | [x]=>by simp [If]
 | x :: y :: l=>by
  have:=Ab1 (y :: l)
  rw [List.dropLast_cons_cons]
  simp only [If,List.map_cons,List.sum_cons] at this ⊢
  omega
theorem Z3 (σ : CS) (s : List UInt8) (last : Bool) : If (Ht σ s last).1≤If σ.1 + s.length + 1:=by
 have hp : If (if s = [46,46]∧σ.1≠[] then Aj5 σ else σ).1≤If σ.1:=by
  split
  ·exact Ab1 σ.1
  ·exact Nat.le_refl _
 unfold Ht
 split
 ·simp only [Yl,Sz,Ab2]; omega
 ·split
  ·simp only [Yl,Sz,Ab2,List.length_nil]; omega
  ·omega
theorem Ams {c : UInt8} {s : List UInt8} (h : (Ah c s).2.2 = true) : (Ah c s).1.length + (Ah c s).2.1.length + 1≤s.length:=by
 obtain ⟨_,_,h3,h4⟩:=Kl h
 rw [h3,List.length_drop]; omega
theorem S1 : ∀ (n : Nat) (σ : CS) (rest : List UInt8),rest.length≤n→If (Cq σ rest).1≤If σ.1 + rest.length + 1
 | n,σ,rest,h=>by
  rw [Cq]
  split
  ·rename_i hc
   have h1:=Ams hc
   cases n with
   | zero=>omega
   | succ n =>
    have h2:=S1 n (Ht σ (Ah 47 rest).1 false) (Ah 47 rest).2.1 (by omega)
    have h3:=Z3 σ (Ah 47 rest).1 false
    omega
  ·have h3:=Z3 σ (Ah 47 rest).1 true
   have:=(Ad3 47 rest).1
   omega
theorem Qg : ∀ (l : List (List UInt8)),(Lib.joinTail [47] l).length = If l
 | []=>by simp [Lib.joinTail,If]
 | x :: l=>by
  have h1:=Qg l
  have : Lib.joinTail [47] (x :: l) = [47] ++ x ++ Lib.joinTail [47] l:=by simp [Lib.joinTail]
  rw [this]
  simp only [List.length_append,List.length_cons,List.length_nil,h1,If,List.map_cons,List.sum_cons]
  omega
theorem Al0 (l : List (List UInt8)) : (Lib.join l [47]).length≤If l:=by
 cases l with
 | nil=>simp [Lib.join_nil]
 | cons x l =>
  rw [Lib.join_cons,List.length_append,Qg]
  simp only [If,List.map_cons,List.sum_cons]
  omega
theorem Agj (s : List UInt8) : (Le s).1.length≤100000:=by
 unfold Le
 split
 ·simp
 ·rename_i h
  obtain ⟨sp,hsp⟩ : ∃ x,x = Gi s:=⟨_,rfl⟩
  obtain ⟨p,q,hb,e⟩:=sp
  rw [←hsp] at h ⊢
  have he : e = 0:=by simpa using h
  subst he
  obtain ⟨_,h1,h2,h3⟩:=Ys hsp
  simp only
  have n1:=(H8 p p.length 0 (by omega)).1
  have n2:=(H8 q q.length 0 (by omega)).1
  have t1:=S1 ((normL p 0).drop 1).length ([],true,0) ((normL p 0).drop 1) (Nat.le_refl _)
  have t2:=Al0 (Cq ([],true,0) ((normL p 0).drop 1)).1
  simp only [If,List.map_nil,List.sum_nil,List.length_drop] at t1
  simp only [If] at t2
  simp only [List.length_append,List.length_cons,List.length_nil]
  split
  ·simp only [List.length_append,List.length_cons,List.length_nil]; omega
  ·simp only [List.length_nil]; omega
def spKey : FSpec:=fun _ xs ls K=>∃ (r : Rq) (kind : Int) (name : List UInt8) (nl : Bool) (n : Int) (f : Nat→List SV),xs = [.agg [.int .i64 (.a r.id),.str r.method,.str r.target,.str r.host,.sl (.a nl) (.a n) 2 f,.str r.body],.int .i64 (.a kind),.str name]∧ls = []∧Gd r nl n f∧name.length≤9223372036854775807∧
 ∀ t e,(t,e) = keyF r kind name→K (.tup [.str t,.int .i64 (.a e)]) []
structure KyJ (l : List HF) (k : Option (List UInt8)) (t : List UInt8) (i : Nat) (I : Int) (m : Nat) : Prop where
 lie : AtR l i I m
 k : k = Zs t (l.drop i)
def kyJ (r : Rq) (k : Option (List UInt8)) (name : List UInt8) (nl : Bool) (n : Int) (f : Nat→List SV) (m : Nat) (vs : List (Option SV)) (hp : List Hl) : Prop :=
 ∃ (i : Nat) (I : Int),vs = [some (.str name),some (.sl (.a nl) (.a n) 2 f),some (.int .i64 (.a n)),some (.int .i64 (.a I))]∧hp = [.blk 31 [.int .i64 (.a r.id),.str r.method,.str r.target,.str r.host,.sl (.a nl) (.a n) 2 f,.str r.body]]∧KyJ r.fields k (Ao name) i I m
theorem key_ok : Ar Tryz.prog gl 20 spKey:=by
 refine A4 (gh:=[]) mixed A0 (Aa L0 (Aa Z6 (Aa Ad6 (Aa Xb (Aa K9 Ae))))) Tryz.func20 (by kernel_rfl) (by kernel_rfl) ?_
 intro xs ls K h
 unfold spKey at h
 obtain ⟨r,kind,name,nl,n,f,rfl,rfl,R,hnm,h⟩:=h
 obtain ⟨id,me,ta,ho,fs,bo⟩:=r
 have Rta:=R.target
 have Rrow:=R.row
 simp only at Rta Rrow
 obtain ⟨k,hk0⟩ : ∃ k,k = keyF ⟨id,me,ta,ho,fs,bo⟩ kind name:=⟨_,rfl⟩
 obtain ⟨kt,ke⟩:=k
 have hk:=hk0
 unfold keyF Alx at hk
 obtain ⟨fv,hfv⟩ : ∃ a,a = Zs (Ao name) fs:=⟨_,rfl⟩
 obtain ⟨J,hJ⟩ : ∃ J,J = kyJ ⟨id,me,ta,ho,fs,bo⟩ fv name nl n f:=⟨_,rfl⟩
 simp only at hk
 rw [←hfv] at hk
 obtain ⟨ck,hck⟩ : ∃ w,w = Dc ⟨id,me,ta,ho,fs,bo⟩:=⟨_,rfl⟩
 rw [←hck] at hk
 obtain ⟨cp,ce⟩:=ck
 simp only at hk
 refine ⟨_,_,h kt ke hk0,fun D hD=>?_⟩
 cbv
 clear h hk0
 refine ⟨name,rfl,rfl,hnm,fun tk htk=>?_⟩
 cbv
 rw [←htk] at hk
 clear htk
 refine br hD (fun h=>?_) (fun h=>?_)<;>cbv
 ·have h1 : ((!(kind == 3) && kind != 1 && kind != 2 || (kind == 3) && !tk) || !(kind == 3) && name != []) = true:=h
  rw [if_pos h1] at hk
  simp only [Prod.mk.injEq] at hk
  obtain ⟨hq1,hq2⟩:=hk
  subst hq1 hq2
  subst hD
  exact B7 rfl rfl
 have h1 : ((!(kind == 3) && kind != 1 && kind != 2 || (kind == 3) && !tk) || !(kind == 3) && name != []) = false:=h
 rw [if_neg (by rw [h1]; simp)] at hk
 clear h h1
 refine ⟨⟨id,me,ta,ho,fs,bo⟩,nl,n,f,by subst hD; rfl,rfl,R,fun p e hc=>?_⟩
 cbv
 rw [←hck] at hc
 simp only [Prod.mk.injEq] at hc
 obtain ⟨hq1,hq2⟩:=hc
 subst hq1 hq2
 clear hck
 refine br hD (fun h=>?_) (fun h=>?_)<;>cbv
 ·have h1 : e≠0:=by simpa using h
  rw [if_pos h1] at hk
  simp only [Prod.mk.injEq] at hk
  obtain ⟨hq1,hq2⟩:=hk
  subst hq1 hq2
  subst hD
  exact B7 rfl rfl
 have h1 : ¬ e≠0:=by simpa using h
 rw [if_neg h1] at hk
 clear h h1
 refine br hD (fun h=>?_) (fun h=>?_)<;>cbv
 ·have h1 : kind = 2:=by simpa using h
  rw [if_pos h1] at hk
  simp only [Prod.mk.injEq] at hk
  obtain ⟨hq1,hq2⟩:=hk
  subst hq1 hq2
  subst hD
  exact B7 rfl rfl
 have h1 : ¬ kind = 2:=by simpa using h
 rw [if_neg h1] at hk
 clear h h1
 refine br hD (fun h=>?_) (fun h=>?_)<;>cbv
 ·have h1 : kind = 1:=by simpa using h
  rw [if_pos h1] at hk
  have hcl:=Agj ta
  clear h h1
  refine ⟨ta,rfl,rfl,Rta,fun t e2 ht=>?_⟩
  cbv
  rw [←ht] at hk hcl
  simp only at hk hcl
  clear ht
  refine ⟨t,63,rfl,rfl,hcl,fun a b c hab=>?_⟩
  cbv
  rw [←hab] at hk
  simp only [Prod.mk.injEq] at hk
  obtain ⟨hq1,hq2⟩:=hk
  subst hq1 hq2
  subst hD
  exact B7 rfl rfl
 have h1 : ¬ kind = 1:=by simpa using h
 rw [if_neg h1] at hk
 clear h h1
 refine ⟨[2,73,74,75],J,⟨rfl,fs.length,?_⟩,?_⟩
 ·rw [hJ]
  subst hD
  exact ⟨0,0,rfl,rfl,AtR.zero Rrow.len,hfv⟩
 clear hfv
 intro m vs hp hj
 rw [hJ] at hj
 obtain ⟨i,I,rfl,rfl,V⟩:=hj
 simp only at V
 cbv
 refine br hD (fun h=>?_) (fun h=>?_)<;>cbv
 ·have hlt:=V.lie.lt Rrow.n (of_decide_eq_true (p:=I < n) h)
  clear h
  refine ⟨V.lie.inB hD Rrow.n hlt,fun j hj=>?_⟩
  obtain rfl:=V.lie.j hD hj
  clear hj
  have e1:=Rrow.f j hlt
  have hsm:=Rrow.small j hlt
  have hk2:=V.k
  rw [Qv (d:=default) hlt] at hk2
  obtain ⟨x,hx⟩ : ∃ x,x = fs.getD j default:=⟨_,rfl⟩
  rw [←hx] at e1 hk2 hsm
  obtain ⟨a,b⟩:=x
  cbv
  rw [e1]
  cbv
  refine ⟨a,rfl,rfl,hsm.1,fun t ht=>?_⟩
  cbv
  have ht : t = Ao a:=ht
  refine ⟨name,rfl,rfl,hnm,fun u hu=>?_⟩
  cbv
  have hu : u = Ao name:=hu
  refine br hD (fun h=>?_) (fun h=>?_)<;>cbv
  ·have h1 : Ao a = Ao name:=by
    have h : (t == u) = true:=h
    rw [←ht,←hu]; exact eq_of_beq h
   rw [Zs,if_pos h1] at hk2
   rw [hk2] at hk
   simp only [Prod.mk.injEq] at hk
   obtain ⟨hq1,hq2⟩:=hk
   subst hq1 hq2
   subst hD
   exact B7 rfl rfl
  ·have h1 : ¬ Ao a = Ao name:=by
    have h : (t == u) = false:=h
    rw [←ht,←hu]; intro e; rw [e] at h; simp at h
   rw [Zs,if_neg h1] at hk2
   obtain ⟨g1,g2⟩:=V.lie.step hD hlt
   refine ⟨_,g1,?_⟩
   rw [hJ]
   unfold kyJ
   subst hD
   exact ⟨j + 1,_,rfl,rfl,g2,hk2⟩
 ·have hi:=V.lie.eq Rrow.n (of_decide_eq_false (p:=I < n) h)
  have hk2:=V.k
  rw [hi,List.drop_length] at hk2
  have hk3 : fv = none:=hk2
  rw [hk3] at hk
  simp only [Prod.mk.injEq] at hk
  obtain ⟨hq1,hq2⟩:=hk
  subst hq1 hq2
  subst hD
  exact B7 rfl rfl
end Go.Proofs.YtefelnhpfdcleaaGreatDoor
namespace Go.Proofs.YtefelnhpfdcleaaGreatDoor
open Go Go.Sx
set_option maxRecDepth 100000
set_option maxHeartbeats 4000000
def exS : List UInt8:=[71,69,84,32,47,97,47,46,46,47,98,37,55,101,63,120,32,72,84,84,80,47,49,46,49,13,10,72,111,115,116,58,32,104,13,10,88,45,82,101,113,117,101,115,116,45,73,100,58,32,55,13,10,65,99,99,101,112,116,58,32,42,13,10,13,10]
def exS2 : List UInt8:=[71,69,84,32,47,97,47,46,46,47,98,37,55,101,63,120,32,72,84,84,80,47,49,46,49,13,10,72,111,115,116,58,32,104,13,10,88,45,82,101,113,117,101,115,116,45,73,100,58,32,55,13,10,65,99,99,101,112,116,58,32,42,13,10,13,10,71,69,84]
def exL2 : List HF:=[⟨[65,99,99,101,112,116],[42]⟩]
def exR2 : Rq:=⟨7,[71,69,84],Qt,[104],exL2,[]⟩
theorem Ajx : Bo exR = (exS,0):=by kernel_rfl
theorem Amk : Le Qt = ([47,98,126,63,120],0):=by kernel_rfl
theorem ex_key : keyF exR 3 [97,99,99,101,112,116] = ([42],0):=by kernel_rfl
theorem Amj : Bp exS2 = (exR2,66,0):=by kernel_rfl
end Go.Proofs.YtefelnhpfdcleaaGreatDoor
namespace Go.Proofs.YtefelnhpfdcleaaGreatDoor
open Go Go.Sx
set_option maxRecDepth 100000
set_option maxHeartbeats 8000000
theorem exOk {f : Nat→List SV} {n : Int} {b : Bool} (G : GrH f n b exL) : Gd exR b n f :=
 ⟨by decide,by decide,by decide,by decide,by decide,by decide,G.row,fun h=>by have h2:=G.nl; rw [h] at h2; cases h2⟩
theorem Bn.of {f : Nat→List SV} {n : Int} {s : List UInt8} (h : Ah6 f s) (hn : n = s.length) : Bn f n s:=by
 refine ⟨hn,fun i hi=>?_⟩
 rw [h.h]
 rfl
theorem A9.ex1 {f f' : Nat→List SV} {n n' : Int} (R : A9 f n exL) (h : Abu f' n' f 1 n) : A9 f' n' exL2:=by
 have hn : n = 2:=R.n
 refine ⟨by rw [h.len,hn]; rfl,fun i hi=>?_,by decide,fun i hi=>?_⟩
 ·have hi : i < 1:=hi
  obtain rfl : i = 0:=by omega
  rw [h.row 0 1 (by omega),R.f 1 (by decide)]
  rfl
 ·have hi : i < 1:=hi
  obtain rfl : i = 0:=by omega
  exact ⟨by decide,by decide⟩
def spT : FSpec:=fun _ xs ls K=>xs = []∧ls = []∧K (.bool (.a true)) []
theorem Pp : Ar Tryz.prog gl 12 spT:=by
 refine A4 (gh:=[]) mixed A0 (Aa Agc (Aa Sh (Aa Ad6 (Aa key_ok (Aa P0 (Aa Ps Ae)))))) Tryz.func12 (by kernel_rfl) (by kernel_rfl) ?_
 intro xs ls K h
 unfold spT at h
 obtain ⟨rfl,rfl,h⟩:=h
 refine ⟨_,_,h,fun D hD=>?_⟩
 cbv
 clear h
 intro f1 n1 b1 G1
 cbv
 refine ⟨exR,b1,n1,f1,by subst hD; rfl,rfl,exOk G1,fun s e hs=>?_⟩
 cbv
 rw [Ajx] at hs
 obtain ⟨hs,he⟩:=Prod.mk.inj hs
 intro f2 n2 b2 G2
 cbv
 refine ⟨Qt,rfl,rfl,by decide,fun t e2 ht=>?_⟩
 cbv
 rw [Amk] at ht
 obtain ⟨ht,he2⟩:=Prod.mk.inj ht
 intro f3 n3 b3 G3
 cbv
 refine ⟨exR,3,[97,99,99,101,112,116],b3,n3,f3,by subst hD; rfl,rfl,exOk G3,by decide,fun k e3 hk=>?_⟩
 cbv
 rw [ex_key] at hk
 obtain ⟨hk,he3⟩:=Prod.mk.inj hk
 refine ⟨⟨by rw [hs]; decide⟩,fun r hr=>?_⟩
 cbv
 have hr : r = exS2:=by rw [hr.h,hs]; rfl
 refine ⟨⟨by rw [hr]; decide⟩,fun f4 h4=>?_⟩
 cbv
 refine ⟨exS2,_,_,f4,rfl,rfl,by subst hD; exact Bn.of (by rw [←hr]; exact h4) (by rw [←hr]; rfl),by decide,fun q f5 n5 b5 kk e4 hq G5=>?_⟩
 cbv
 rw [Amj] at hq
 obtain ⟨hq1,hq2⟩:=Prod.mk.inj hq
 obtain ⟨hkk,he4⟩:=Prod.mk.inj hq2
 subst hq1
 clear hq hq2
 intro f6 n6 b6 G6
 cbv
 refine ⟨by subst hD; exact ⟨by decide,by show (1 : Int)≤n6; rw [G6.row.n]; decide,Int.le_refl _⟩,fun f7 n7 h7=>?_⟩
 cbv
 refine ⟨exR2,exR2,b5,b6,n5,n7,f5,f7,by subst hD; rfl,rfl,G5.row,A9.ex1 G6.row (by subst hD; exact h7),fun z hz=>?_⟩
 cbv
 refine Aj hD ?_
 have hz : z = true:=by rw [hz]; exact decide_eq_true rfl
 rw [hs,ht,hk,hz,hkk,he,he2,he3,he4]
 rfl
end Go.Proofs.YtefelnhpfdcleaaGreatDoor
