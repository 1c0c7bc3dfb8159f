/- Part of the proofs of the statements about responses and messages (layers 9 and 10): a symbolic executor over the code, that it is sound, and contracts of functions; it has no conditions of its own. -/
import Derived.Test.YtdoogdbjiijifaaGreatDoorSzPbg
import Derived.Test.YtdoogdbjiijifaaGreatDoorSzPbb
namespace Go.Proofs.YtdoogdbjiijifaaGreatDoor
open Go Go.Sx
set_option maxRecDepth 100000
set_option maxHeartbeats 8000000
def Hf (l : List HF) (t : List UInt8) : List (List UInt8):=if Tl l t = 0 then Bu l (foldF t) else []
theorem Xq (l : List HF) (t : List UInt8) : (Hf l t).length≤100∧∀ v∈Hf l t,v.length≤2000:=by
 unfold Hf
 split
 ·rename_i h
  have hc : A7 l = 0:=by
   unfold Tl at h
   by_cases g : A7 l = 0
   ·exact g
   ·rw [if_pos g] at h; exact h
  have hl:=Ti hc
  refine ⟨Nat.le_trans (Q1 l _) hl,fun v hv=>?_⟩
  obtain ⟨_,h2,_⟩:=(Ha l).1 hc
  unfold Bu at hv
  obtain ⟨x,hx,rfl⟩:=List.mem_map.1 hv
  exact (h2 x (List.mem_filter.1 hx).1).len
 ·exact ⟨by simp,fun v hv=>by cases hv⟩
structure VrI (l : List HF) (t : List UInt8) (out : List (List UInt8)) (th ok : Bool) : Prop where
 eo : out = (Br (Hf l t)).getD []
 et : th = !(Hf l t).isEmpty
 ek : ok = (Br (Hf l t)).isSome
def spValsR : FSpec:=fun _ xs ls K=>∃ (l : List HF) (nl : Bool) (n : Int) (f : Nat→List SV) (t : List UInt8),xs = [.sl (.a nl) (.a n) 2 f,.str t]∧ls = []∧Bz f n l∧t.length≤9223372036854775807∧
 ∀ out th ok g n' b,VrI l t out th ok→GrS g n' b out→K (.tup [.sl (.a b) (.a n') 1 g,.bool (.a th),.bool (.a ok)]) []
structure VrJ (r : List (List UInt8)) (k : Option (List (List UInt8))) (O : List (List UInt8)) (i : Nat) (I : Int) (m : Nat) (n : Int) (b : Bool) (f : Nat→List SV) : Prop where
 lie : AtR r i I m
 row : GrS f n b O
 ol : O.length≤2001 * i
 k : k = (Br (r.drop i)).map fun L=>O ++ L
def vrJ (r : List (List UInt8)) (k : Option (List (List UInt8))) (rb : Bool) (rn : Int) (rf : Nat→List SV) (m : Nat) (vs : List (Option SV)) (hp : List Hl) : Prop :=
 ∃ (O : List (List UInt8)) (i : Nat) (I n : Int) (b : Bool) (f : Nat→List SV),vs = [some (.gsl (.a b) (.a n) 1 f 0),some (.sl (.a rb) (.a rn) 1 rf),some (.sl (.a rb) (.a rn) 1 rf),some (.int .i64 (.a rn)),some (.int .i64 (.a I))]∧hp = [.tail 9 (.a n) 1]∧VrJ r k O i I m n b f
structure VrI2 (els X O : List (List UInt8)) (B : Nat) (j : Nat) (Jx : Int) (m : Nat) (n : Int) (b : Bool) (f : Nat→List SV) : Prop where
 lie : AtR els j Jx m
 row : GrS f n b O
 ol : O.length≤B + j
 x : X = O ++ (els.drop j).map foldF
def vrJ2 (els X : List (List UInt8)) (B : Nat) (rb : Bool) (rn : Int) (rf : Nat→List SV) (I : Int) (eb : Bool) (en : Int) (ef : Nat→List SV) (m : Nat) (vs : List (Option SV)) (hp : List Hl) : Prop :=
 ∃ (O : List (List UInt8)) (j : Nat) (Jx n : Int) (b : Bool) (f : Nat→List SV),vs = [some (.gsl (.a b) (.a n) 1 f 0),some (.sl (.a rb) (.a rn) 1 rf),some (.sl (.a rb) (.a rn) 1 rf),some (.int .i64 (.a rn)),some (.int .i64 (.a I)),some (.sl (.a eb) (.a en) 1 ef),some (.int .i64 (.a en)),some (.int .i64 (.a Jx))]∧hp = [.tail 9 (.a n) 1]∧VrI2 els X O B j Jx m n b f
theorem Tc : ∀ (r : List (List UInt8)) (L : List (List UInt8)),Br r = some L→L.length≤2001 * r.length
 | [],L,h=>by cases h; simp
 | v :: r,L,h=>by
  unfold Br at h
  split at h
  ·cases hr : Br r with
   | none=>rw [hr] at h; cases h
   | some L' =>
    rw [hr] at h
    simp only [Option.map_some,Option.some.injEq] at h
    subst h
    have h1:=Tc r L' hr
    have h2:=(Fb v).1
    rw [List.length_append,List.length_map,List.length_cons]
    omega
  ·cases h
structure AllLen (r : List (List UInt8)) : Prop where
 len : r.length≤100
 h : ∀ v∈r,v.length≤2000
theorem Qz : A2 Tryz.prog gl 63 spValsR:=by
 refine Dg (gh:=[(0,[.attach 4 9])]) mixed Dp (Ah getH_ok (Ah Zu (Ah W2 Aw))) Tryz.func63 (by kernel_rfl) (by kernel_rfl) ?_
 intro xs ls K h
 unfold spValsR at h
 obtain ⟨l,nl,n,f,t,rfl,rfl,R,ht,h⟩:=h
 obtain ⟨r,hr⟩ : ∃ r,r = Hf l t:=⟨_,rfl⟩
 have hsm:=Xq l t
 rw [←hr] at hsm
 have hAL : AllLen r:=⟨hsm.1,hsm.2⟩
 obtain ⟨k,hk⟩ : ∃ k,k = Br r:=⟨_,rfl⟩
 obtain ⟨out,ho⟩ : ∃ out,out = k.getD []:=⟨_,rfl⟩
 have hol : out.length≤9223372036854775807:=by
  rw [ho]
  cases hk2 : k with
  | none=>simp
  | some L=>have:=Tc r L (by rw [←hk,hk2]); have:=hsm.1; simp only [Option.getD_some]; omega
 obtain ⟨th,hth⟩ : ∃ th,th = !r.isEmpty:=⟨_,rfl⟩
 obtain ⟨ok,hok⟩ : ∃ ok,ok = k.isSome:=⟨_,rfl⟩
 obtain ⟨g',n',b',G⟩ : ∃ g n' b,GrS g n' b out:=⟨_,_,_,⟨Cb.row hol,rfl⟩⟩
 have h:=h out th ok g' n' b' ⟨by rw [ho,hk,hr],by rw [hth,hr],by rw [hok,hk,hr]⟩ G
 clear hsm hol
 refine ⟨_,_,h,fun D hD=>?_⟩
 clear h
 cbv
 refine ⟨l,_,_,f,t,rfl,rfl,by subst hD; exact R,ht,fun r2 e2 rf rn rb hG2 G2=>?_⟩
 obtain rfl : r2 = r:=by rw [hr]; exact hG2.er
 clear hG2 hr
 cbv
 obtain ⟨J,hJ⟩ : ∃ J,J = vrJ r2 k rb rn rf:=⟨_,rfl⟩
 refine ⟨[4,7,21,22,23],J,⟨rfl,r2.length,?_⟩,?_⟩
 ·rw [hJ]
  subst hD
  exact ⟨[],0,_,_,_,_,rfl,rfl,⟨AtR.zero (by have:=hAL.len; omega),GrS.nil,Nat.le_refl _,by rw [hk,List.drop_zero]; cases Br r2<;>rfl⟩⟩
 clear hk
 intro m vs hp hj
 rw [hJ] at hj
 obtain ⟨O,i,I,n1,b1,f1,rfl,rfl,V⟩:=hj
 cbv
 refine br hD (fun hb=>?_) (fun hb=>?_)<;>cbv
 ·have hlt:=V.lie.lt G2.row.n (of_decide_eq_true (p:=I < rn) hb)
  clear hb
  have hth1 : th = true:=by rw [hth]; cases r2 with
   | nil=>simp at hlt
   | cons=>rfl
  refine ⟨V.lie.inB hD G2.row.n hlt,fun j hj=>?_⟩
  obtain rfl:=V.lie.j hD hj
  clear hj
  have e1:=G2.row.f j hlt
  have hk2:=V.k
  rw [Nr (d:=[]) hlt] at hk2
  have hsv : (r2.getD j []).length≤2000:=hAL.h _ (by rw [List.getD_eq_getElem?_getD,List.getElem?_eq_getElem hlt]; exact List.getElem_mem hlt)
  obtain ⟨v,hv⟩ : ∃ v,v = r2.getD j []:=⟨_,rfl⟩
  rw [←hv] at e1 hk2 hsv
  have HV : LeN v.length 2000:=⟨hsv⟩
  obtain ⟨s1,s2⟩:=V.lie.step hD hlt
  have HJ : LeN j 100:=⟨by have:=hAL.len; omega⟩
  generalize r2.length - (j + 1) = m' at s1 s2
  clear hsv
  cbv
  rw [e1]
  cbv
  refine ⟨v,rfl,rfl,by have:=HV.h; omega,fun els e en enb hle hn hnb=>?_⟩
  cbv
  rw [Br] at hk2
  obtain ⟨hel,hee⟩ : els = (Ba v).1∧e = (Ba v).2:=by rw [←hle]; exact ⟨rfl,rfl⟩
  have hll : els.length≤2001∧∀ x∈els,x.length≤2000:=by rw [hel]; exact Fb v
  rw [←hel,←hee] at hk2
  clear hle hel hee hnb
  refine br hD (fun hb=>?_) (fun hb=>?_)<;>cbv
  ·have hb : (e != 0) = true:=by subst hD; exact hb
   rw [if_neg (by simpa using hb)] at hk2
   have hk3 : k = none:=hk2
   have ho1 : out = []:=by rw [ho,hk3]; rfl
   have hok1 : ok = false:=by rw [hok,hk3]; rfl
   subst hth1 ho1 hok1
   subst hD
   exact Gf (.tup (.cons (Adn GrS.nil G rfl rfl) (.cons (LeV.refl _) (.cons (LeV.refl _) .nil))))
  have hb : e = 0:=by
   have hb : (e != 0) = false:=by subst hD; exact hb
   simpa using hb
  rw [if_pos hb] at hk2
  clear hb
  have RE : Cb (E7 els) en els:=by rw [hn]; exact Cb.row (by omega)
  have HE : LeN els.length 2001:=⟨hll.1⟩
  obtain ⟨ef,hef⟩ : ∃ ef,ef = E7 els:=⟨_,rfl⟩
  rw [←hef] at RE
  rw [←hef]
  clear hn hef
  obtain ⟨X,hX⟩ : ∃ X,X = O ++ els.map foldF:=⟨_,rfl⟩
  obtain ⟨B,hB⟩ : ∃ B,B = 2001 * j:=⟨_,rfl⟩
  have HB : LeN B 200100:=⟨by have:=HJ.h; omega⟩
  have hk3 : k = (Br (r2.drop (j + 1))).map fun L=>X ++ L:=by
   rw [hk2,hX]
   cases Br (r2.drop (j + 1)) with
   | none=>rfl
   | some L=>simp
  have hol : O.length≤B:=by rw [hB]; exact V.ol
  have hB2 : B + 2001≤2001 * (j + 1):=by omega
  have hB3 : LeN (B + 2001) (2001 * (j + 1)):=⟨hB2⟩
  clear hk2 hB hB2
  obtain ⟨J2,hJ2⟩ : ∃ J2,J2 = vrJ2 els X B rb rn rf I enb en ef:=⟨_,rfl⟩
  refine ⟨[4,7,21,22,23,34,35,36],J2,⟨rfl,els.length,?_⟩,?_⟩
  ·rw [hJ2]
   subst hD
   exact ⟨O,0,_,_,_,_,rfl,rfl,⟨AtR.zero RE.len,V.row,by omega,by rw [hX,List.drop_zero]⟩⟩
  clear hX hol
  intro m2 vs hp hj
  rw [hJ2] at hj
  obtain ⟨O2,i2,I2,n2,b2,f2,rfl,rfl,V2⟩:=hj
  cbv
  refine br hD (fun hb=>?_) (fun hb=>?_)<;>cbv
  ·have hlt2:=V2.lie.lt RE.n (of_decide_eq_true (p:=I2 < en) hb)
   clear hb
   refine ⟨V2.lie.inB hD RE.n hlt2,fun j2 hj=>?_⟩
   obtain rfl:=V2.lie.j hD hj
   clear hj
   have e2:=RE.f j2 hlt2
   have hx2:=V2.x
   rw [Nr (d:=[]) hlt2,List.map_cons] at hx2
   have hsv : (els.getD j2 []).length≤2000:=hll.2 _ (by rw [List.getD_eq_getElem?_getD,List.getElem?_eq_getElem hlt2]; exact List.getElem_mem hlt2)
   obtain ⟨w,hw⟩ : ∃ w,w = els.getD j2 []:=⟨_,rfl⟩
   rw [←hw] at e2 hx2 hsv
   have HW : LeN w.length 2000:=⟨hsv⟩
   have HO2 : LeN O2.length 202101:=⟨by have:=V2.ol; have:=HE.h; have:=HB.h; omega⟩
   have VO : VI n2 O2.length:=⟨V2.row.row.n⟩
   obtain ⟨s3,s4⟩:=V2.lie.step hD hlt2
   generalize els.length - (j2 + 1) = m3 at s3 s4
   clear hsv
   cbv
   rw [e2]
   cbv
   refine ⟨w,rfl,rfl,by have:=HW.h; omega,fun z hz=>?_⟩
   cbv
   have hz : z = foldF w:=hz
   rw [←hz] at hx2
   clear hz
   intro g3 hg3
   cbv
   have h30 : g3 0 = [.str z]:=hg3.h 0 _ rfl
   clear hg3
   refine ⟨by subst hD; exact ⟨rfl,by show (n2 + 1) * 16≤_; rw [VO.h]; have:=HO2.h; omega,by show n2 + 1≤_; rw [VO.h]; have:=HO2.h; omega⟩,fun f4 n4 hm=>?_⟩
   cbv
   have G4 : ∀ nl',nl' = false→GrS f4 n4 nl' (O2 ++ [z]):=fun nl' hb=>⟨V2.row.row.more h30 (by subst hD; exact hm) (by have:=HO2.h; omega),by rw [hb]; simp⟩
   clear hm
   refine ⟨m3,s3,?_⟩
   rw [hJ2]
   unfold vrJ2
   subst hD
   exact ⟨O2 ++ [z],j2 + 1,_,n4,(b2 && false),f4,rfl,rfl,⟨s4,G4 _ (Bool.and_false _),by have:=V2.ol; rw [List.length_append]; simp only [List.length_cons,List.length_nil]; omega,by rw [hx2]; simp⟩⟩
  ·have hi:=V2.lie.eq RE.n (of_decide_eq_false (p:=I2 < en) hb)
   have hx2:=V2.x
   rw [hi,List.drop_length,List.map_nil,List.append_nil] at hx2
   clear hb
   subst hx2
   refine ⟨m',s1,?_⟩
   rw [hJ]
   unfold vrJ
   subst hD
   exact ⟨X,j + 1,_,n2,b2,f2,rfl,rfl,⟨s2,V2.row,by have:=V2.ol; have:=HE.h; have:=hB3.h; omega,hk3⟩⟩
 ·have hi:=V.lie.eq G2.row.n (of_decide_eq_false (p:=I < rn) hb)
  have hk2:=V.k
  rw [hi,List.drop_length] at hk2
  have hk3 : k = some O:=by rw [hk2]; simp [Br]
  have ho1 : out = O:=by rw [ho,hk3]; rfl
  have hok1 : ok = true:=by rw [hok,hk3]; rfl
  have hthd : th = decide (0 < rn):=by
   rw [hth,G2.row.n]
   cases r2 with
   | nil=>rfl
   | cons a l=>symm; rw [List.isEmpty_cons,Bool.not_false,decide_eq_true_eq,List.length_cons]; omega
  clear hb
  subst ho1 hok1
  subst hD
  exact Gf (.tup (.cons (Adn V.row G rfl rfl) (.cons (D0 (by exact hthd.symm)) (.cons (LeV.refl _) .nil))))
end Go.Proofs.YtdoogdbjiijifaaGreatDoor
namespace Go.Proofs.YtdoogdbjiijifaaGreatDoor
open Go Go.Sx
set_option maxRecDepth 100000
set_option maxHeartbeats 8000000
def Sz (l : List (List UInt8)) (x : List UInt8) : Nat→Int
 | i=>match l with
  | []=>-1
  | y :: r=>if x = y then i else Sz r x (i + 1)
def ixTJ (l : List (List UInt8)) (x : List UInt8) (k : Int) (nl : Bool) (n : Int) (f : Nat→List SV) (m : Nat) (vs : List (Option SV)) (hp : List Hl) : Prop :=
 ∃ (i : Nat) (I : Int),vs = [some (.sl (.a nl) (.a n) 1 f),some (.str x),some (.int .i64 (.a n)),some (.int .i64 (.a I))]∧hp = []∧AtR l i I m∧k = Sz (l.drop i) x i
def spIdxS : FSpec:=fun _ xs ls K=>∃ (l : List (List UInt8)) (x : List UInt8) (nl : Bool) (n : Int) (f : Nat→List SV),xs = [.sl (.a nl) (.a n) 1 f,.str x]∧ls = []∧Cb f n l∧∀ k,k = Sz l x 0→K (.int .i64 (.a k)) []
theorem idxS_ok : A2 Tryz.prog gl 138 spIdxS:=by
 refine Dg (gh:=[]) mixed Dp Aw Tryz.func138 (by kernel_rfl) (by kernel_rfl) ?_
 intro xs ls K h
 unfold spIdxS at h
 obtain ⟨l,x,nl,n,f,rfl,rfl,R,h⟩:=h
 obtain ⟨k,hk⟩ : ∃ k,k = Sz l x 0:=⟨_,rfl⟩
 refine ⟨_,_,h k hk,fun D hD=>?_⟩
 clear h
 cbv
 obtain ⟨J,hJ⟩ : ∃ J,J = ixTJ l x k nl n f:=⟨_,rfl⟩
 refine ⟨[0,1,7,8],J,⟨rfl,l.length,?_⟩,?_⟩
 ·rw [hJ]
  subst hD
  exact ⟨0,_,rfl,rfl,AtR.zero R.len,hk⟩
 clear hk
 intro m vs hp hj
 rw [hJ] at hj
 obtain ⟨i,I,rfl,rfl,V,hk⟩:=hj
 cbv
 refine br hD (fun hb=>?_) (fun hb=>?_)<;>cbv
 ·have hlt:=V.lt R.n (of_decide_eq_true (p:=I < n) hb)
  clear hb
  refine ⟨V.inB hD R.n hlt,fun j hj=>?_⟩
  obtain rfl:=V.j hD hj
  clear hj
  have e1:=R.f j hlt
  rw [Nr (d:=[]) hlt,Sz] at hk
  obtain ⟨y,hy⟩ : ∃ y,y = l.getD j []:=⟨_,rfl⟩
  rw [←hy] at e1 hk
  have hI:=V.I
  have VI2 : VI I j:=⟨hI⟩
  clear hI
  obtain ⟨s1,s2⟩:=V.step hD hlt
  generalize l.length - (j + 1) = m' at s1 s2
  cbv
  rw [e1]
  cbv
  refine br hD (fun hb=>?_) (fun hb=>?_)<;>cbv
  ·have hb : (x == y) = true:=by subst hD; exact hb
   rw [if_pos (eq_of_beq hb)] at hk
   exact Bv hD (by rw [hk]; exact VI2.h)
  ·have hb : (x == y) = false:=by subst hD; exact hb
   rw [if_neg (by simpa using hb)] at hk
   refine ⟨m',s1,?_⟩
   rw [hJ]
   unfold ixTJ
   subst hD
   exact ⟨j + 1,_,rfl,rfl,s2,hk⟩
 ·have hi:=V.eq R.n (of_decide_eq_false (p:=I < n) hb)
  rw [hi,List.drop_length] at hk
  clear hb
  exact Bv hD (by rw [hk]; rfl)
def spContS : FSpec:=fun _ xs ls K=>∃ (l : List (List UInt8)) (x : List UInt8) (nl : Bool) (n : Int) (f : Nat→List SV),xs = [.sl (.a nl) (.a n) 1 f,.str x]∧ls = []∧Cb f n l∧∀ k,k = l.contains x→K (.bool (.a k)) []
theorem U8 : ∀ (l : List (List UInt8)) (x : List UInt8) (i : Nat),decide (0≤Sz l x i) = l.contains x
 | [],x,i=>rfl
 | y :: r,x,i=>by
  show decide (0≤(if x = y then (i : Int) else Sz r x (i + 1))) = _
  by_cases e : x = y
  ·rw [if_pos e,List.contains_cons,e]; simp
  ·rw [if_neg e,List.contains_cons,U8 r x (i + 1)]
   have : (x == y) = false:=by simpa using e
   rw [this,Bool.false_or]
theorem Ajj : A2 Tryz.prog gl 80 spContS:=by
 refine Dg (gh:=[]) mixed Dp (Ah idxS_ok Aw) Tryz.func80 (by kernel_rfl) (by kernel_rfl) ?_
 intro xs ls K h
 unfold spContS at h
 obtain ⟨l,x,nl,n,f,rfl,rfl,R,h⟩:=h
 obtain ⟨k,hk⟩ : ∃ k,k = l.contains x:=⟨_,rfl⟩
 refine ⟨_,_,h k hk,fun D hD=>?_⟩
 clear h
 cbv
 refine ⟨l,x,_,_,f,rfl,rfl,by subst hD; exact R,fun k2 hk2=>?_⟩
 cbv
 refine Bg hD ?_
 show decide (0≤k2) = k
 rw [hk2,hk,U8]
def eqTJ (a b : List (List UInt8)) (k : Bool) (na nb : Bool) (A B : Int) (f g : Nat→List SV) (m : Nat) (vs : List (Option SV)) (hp : List Hl) : Prop :=
 ∃ (i : Nat) (I : Int),vs = [some (.sl (.a na) (.a A) 1 f),some (.sl (.a nb) (.a B) 1 g),some (.int .i64 (.a A)),some (.int .i64 (.a I))]∧hp = []∧AtR a i I m∧k = (a.drop i == b.drop i)
theorem eqS_ok : A2 Tryz.prog gl 66 spStrings:=by
 refine Dg (gh:=[]) mixed Dp Aw Tryz.func66 (by kernel_rfl) (by kernel_rfl) ?_
 intro xs ls K h
 unfold spStrings at h
 obtain ⟨a,b,na,nb,A,B,f,g,rfl,rfl,R,S,h⟩:=h
 obtain ⟨k,hk⟩ : ∃ k,k = (a == b):=⟨_,rfl⟩
 refine ⟨_,_,h k hk,fun D hD=>?_⟩
 clear h
 have hAB : (A != B) = !(decide (a.length = b.length)):=by
  rw [R.n,S.n,Bool.eq_iff_iff,bne_iff_ne,Bool.not_eq_true',decide_eq_false_iff_not]; omega
 cbv
 refine br hD (fun hb=>?_) (fun hb=>?_)<;>cbv
 ·have hb : (A != B) = true:=by subst hD; exact hb
  rw [hAB,Bool.not_eq_true',decide_eq_false_iff_not] at hb
  refine Bg hD ?_
  rw [hk]
  have h0 : (a == b) = false:=by
   rw [beq_eq_false_iff_ne]
   intro e; rw [e] at hb; exact hb rfl
  exact h0.symm
 have hlen : a.length = b.length:=by
  have hb : (A != B) = false:=by subst hD; exact hb
  rw [hAB,Bool.not_eq_false',decide_eq_true_eq] at hb
  exact hb
 clear hb hAB
 obtain ⟨J,hJ⟩ : ∃ J,J = eqTJ a b k na nb A B f g:=⟨_,rfl⟩
 refine ⟨[0,1,12,13],J,⟨rfl,a.length,?_⟩,?_⟩
 ·rw [hJ]
  subst hD
  exact ⟨0,_,rfl,rfl,AtR.zero R.len,hk⟩
 clear hk
 intro m vs hp hj
 rw [hJ] at hj
 obtain ⟨i,I,rfl,rfl,V,hk⟩:=hj
 cbv
 refine br hD (fun hb=>?_) (fun hb=>?_)<;>cbv
 ·have hlt:=V.lt R.n (of_decide_eq_true (p:=I < A) hb)
  clear hb
  have hltb : i < b.length:=by omega
  have inB : InB (D.i (.a I)) (D.i (.a B)):=by
   have:=V.I; have:=S.n
   subst hD; exact ⟨by show 0≤I; omega,by show I < B; omega⟩
  refine ⟨V.inB hD R.n hlt,fun j hj=>?_⟩
  obtain rfl:=V.j hD hj
  clear hj
  have e1:=R.f j hlt
  have e2:=S.f j hltb
  rw [Nr (d:=[]) hlt,Nr (d:=[]) hltb] at hk
  obtain ⟨y,hy⟩ : ∃ y,y = a.getD j []:=⟨_,rfl⟩
  obtain ⟨z,hz⟩ : ∃ z,z = b.getD j []:=⟨_,rfl⟩
  rw [←hy] at e1 hk
  rw [←hz] at e2 hk
  obtain ⟨s1,s2⟩:=V.step hD hlt
  generalize a.length - (j + 1) = m' at s1 s2
  cbv
  rw [e1]
  cbv
  refine ⟨inB,fun j2 hj2=>?_⟩
  obtain rfl : j = j2:=(V.j hD hj2).symm
  clear hj2
  cbv
  rw [e2]
  cbv
  refine br hD (fun hb=>?_) (fun hb=>?_)<;>cbv
  ·have hb : (y != z) = true:=by subst hD; exact hb
   refine Bg hD ?_
   rw [hk]
   have h0 : (y :: a.drop (j + 1) == z :: b.drop (j + 1)) = false:=by
    rw [beq_eq_false_iff_ne]
    intro e
    rw [bne_iff_ne] at hb
    exact hb (List.cons.inj e).1
   exact h0.symm
  ·have hb : (y != z) = false:=by subst hD; exact hb
   have hb : y = z:=by simpa using hb
   refine ⟨m',s1,?_⟩
   rw [hJ]
   unfold eqTJ
   subst hD
   refine ⟨_,_,rfl,rfl,s2,?_⟩
   rw [hk,hb,Bool.eq_iff_iff,beq_iff_eq,beq_iff_eq]
   exact ⟨fun e=>(List.cons.inj e).2,fun e=>by rw [e]⟩
 ·have hi:=V.eq R.n (of_decide_eq_false (p:=I < A) hb)
  rw [hi,List.drop_length,hlen,List.drop_length] at hk
  clear hb
  exact Bg hD (by rw [hk]; rfl)
def spSizeR : FSpec:=fun _ xs ls K=>∃ (l : List (List UInt8)) (good : Bool) (nl : Bool) (n : Int) (f : Nat→List SV),xs = [.sl (.a nl) (.a n) 1 f,.bool (.a good)]∧ls = []∧Cb f n l∧(∀ x∈l,x.length≤9223372036854775807)∧∀ r e,(r,e) = (if good then Ep l else (0,6))→K (.tup [.int .i64 (.a r),.int .i64 (.a e)]) []
structure SzI (l : List (List UInt8)) (v r e : Int) (i : Nat) (I : Int) (m : Nat) : Prop where
 lie : AtR l i I m
 k : (r,e) = if (l.drop i).all (fun s=>decide (0≤Iu s) && (Iu s == v)) then (if 65536 < v then (0,3) else (v,0)) else (0,6)
def szJ (l : List (List UInt8)) (v r e : Int) (nl : Bool) (n : Int) (f : Nat→List SV) (m : Nat) (vs : List (Option SV)) (hp : List Hl) : Prop :=
 ∃ (i : Nat) (I : Int),vs = [some (.int .i64 (.a v)),some (.sl (.a nl) (.a n) 1 f),some (.int .i64 (.a n)),some (.int .i64 (.a I))]∧hp = []∧SzI l v r e i I m
theorem Ag6 : A2 Tryz.prog gl 68 spSizeR:=by
 refine Dg (gh:=[]) mixed Dp (Ah P5 Aw) Tryz.func68 (by kernel_rfl) (by kernel_rfl) ?_
 intro xs ls K h
 unfold spSizeR at h
 obtain ⟨l,good,nl,n,f,rfl,rfl,R,hsm,h⟩:=h
 obtain ⟨r,e,hk⟩ : ∃ r e,(r,e) = (if good then Ep l else (0,6)):=⟨_,_,rfl⟩
 refine ⟨_,_,h r e hk,fun D hD=>?_⟩
 clear h
 have hn0 : (n == 0) = l.isEmpty:=by
  rw [R.n]
  cases l with
  | nil=>rfl
  | cons a b=>rw [List.isEmpty_cons,beq_eq_false_iff_ne,List.length_cons]; omega
 cbv
 refine br hD (fun hb=>?_) (fun hb=>?_)<;>cbv
 ·have hb : (!good || (n == 0)) = true:=by subst hD; exact hb
  rw [hn0] at hb
  have hk2 : (r,e) = (0,6):=by
   rw [hk]
   cases good with
   | false=>rfl
   | true =>
    cases l with
    | nil=>rfl
    | cons=>cases hb
  obtain ⟨rfl,rfl⟩:=Prod.mk.inj hk2
  subst hD
  exact Gf (.tup (.cons (Al rfl) (.cons (Al rfl) .nil)))
 have hb : (!good || (n == 0)) = false:=by subst hD; exact hb
 rw [hn0,Bool.or_eq_false_iff,Bool.not_eq_false'] at hb
 obtain ⟨rfl,hne⟩:=hb
 clear hn0
 have hlt0 : 0 < l.length:=by
  cases l with
  | nil=>cases hne
  | cons a b=>simp
 have e0:=R.f 0 hlt0
 obtain ⟨x,hx⟩ : ∃ x,x = l.getD 0 []:=⟨_,rfl⟩
 have hxs : x.length≤9223372036854775807:=hsm _ (by rw [hx,List.getD_eq_getElem?_getD,List.getElem?_eq_getElem hlt0]; exact List.getElem_mem hlt0)
 obtain ⟨v,hv⟩ : ∃ v,v = Iu x:=⟨_,rfl⟩
 have hk2 : (r,e) = if (l.drop 0).all (fun s=>decide (0≤Iu s) && (Iu s == v)) then (if 65536 < v then (0,3) else (v,0)) else (0,6):=by
  rw [hk,if_pos rfl,hv,hx]
  cases l with
  | nil=>cases hne
  | cons a b=>rfl
 rw [←hx] at e0
 clear hk hne
 refine ⟨by subst hD; exact ⟨by decide,by show (0 : Int) < n; rw [R.n]; omega⟩,fun j hj=>?_⟩
 have hj0 : j = 0:=by
  have h2 : (j : Int) = 0:=by subst hD; exact hj.h
  omega
 subst hj0
 clear hj
 cbv
 rw [e0]
 cbv
 refine ⟨x,rfl,rfl,hxs,fun v2 hv2=>?_⟩
 obtain rfl : v2 = v:=hv2.trans hv.symm
 cbv
 obtain ⟨J,hJ⟩ : ∃ J,J = szJ l v2 r e nl n f:=⟨_,rfl⟩
 refine ⟨[6,21,22,23],J,⟨rfl,l.length,?_⟩,?_⟩
 ·rw [hJ]
  subst hD
  exact ⟨0,_,rfl,rfl,AtR.zero R.len,hk2⟩
 clear hk2
 intro m vs hp hj
 rw [hJ] at hj
 obtain ⟨i,I,rfl,rfl,V⟩:=hj
 cbv
 refine br hD (fun hb=>?_) (fun hb=>?_)<;>cbv
 ·have hlt:=V.lie.lt R.n (of_decide_eq_true (p:=I < n) hb)
  clear hb
  refine ⟨V.lie.inB hD R.n hlt,fun j hj=>?_⟩
  obtain rfl:=V.lie.j hD hj
  clear hj
  have e1:=R.f j hlt
  have hk:=V.k
  rw [Nr (d:=[]) hlt,List.all_cons] at hk
  have hys : (l.getD j []).length≤9223372036854775807:=hsm _ (by rw [List.getD_eq_getElem?_getD,List.getElem?_eq_getElem hlt]; exact List.getElem_mem hlt)
  obtain ⟨y,hy⟩ : ∃ y,y = l.getD j []:=⟨_,rfl⟩
  rw [←hy] at e1 hk hys
  obtain ⟨s1,s2⟩:=V.lie.step hD hlt
  generalize l.length - (j + 1) = m' at s1 s2
  cbv
  rw [e1]
  cbv
  refine ⟨y,rfl,rfl,hys,fun u hu=>?_⟩
  rw [←hu] at hk
  cbv
  refine br hD (fun hb=>?_) (fun hb=>?_)<;>cbv
  ·have hb : (decide (u < 0) || (u != v2)) = true:=by subst hD; exact hb
   have hf : (decide (0≤u) && (u == v2)) = false:=by
    rw [Bool.and_eq_false_iff]
    rcases Bool.or_eq_true_iff.1 hb with h | h
    ·left; rw [decide_eq_false_iff_not]; have:=of_decide_eq_true h; omega
    ·right; simpa using h
   rw [hf] at hk
   obtain ⟨rfl,rfl⟩:=Prod.mk.inj hk
   subst hD
   exact Gf (.tup (.cons (Al rfl) (.cons (Al rfl) .nil)))
  ·have hb : (decide (u < 0) || (u != v2)) = false:=by subst hD; exact hb
   have hf : (decide (0≤u) && (u == v2)) = true:=by
    rw [Bool.or_eq_false_iff] at hb
    rw [Bool.and_eq_true]
    refine ⟨?_,by simpa using hb.2⟩
    rw [decide_eq_true_eq]; have:=of_decide_eq_false hb.1; omega
   rw [hf,Bool.true_and] at hk
   refine ⟨m',s1,?_⟩
   rw [hJ]
   unfold szJ
   subst hD
   exact ⟨j + 1,_,rfl,rfl,s2,hk⟩
 ·have hi:=V.lie.eq R.n (of_decide_eq_false (p:=I < n) hb)
  have hk:=V.k
  rw [hi,List.drop_length,List.all_nil,if_pos rfl] at hk
  clear hb
  refine br hD (fun hb=>?_) (fun hb=>?_)<;>cbv
  ·have hb : decide (65536 < v2) = true:=by subst hD; exact hb
   rw [if_pos (of_decide_eq_true hb)] at hk
   obtain ⟨rfl,rfl⟩:=Prod.mk.inj hk
   subst hD
   exact Gf (.tup (.cons (Al rfl) (.cons (Al rfl) .nil)))
  ·have hb : decide (65536 < v2) = false:=by subst hD; exact hb
   rw [if_neg (of_decide_eq_false hb)] at hk
   obtain ⟨rfl,rfl⟩:=Prod.mk.inj hk
   subst hD
   exact Gf (.tup (.cons (Al rfl) (.cons (Al rfl) .nil)))
end Go.Proofs.YtdoogdbjiijifaaGreatDoor
namespace Go.Proofs.YtdoogdbjiijifaaGreatDoor
open Go Go.Sx
set_option maxRecDepth 100000
set_option maxHeartbeats 8000000
def Ae1 (mi st : Int) (re : List UInt8) (nl : Bool) (n : Int) (f : Nat→List SV) : Hl:=.blk 25 [.int .i64 (.a mi),.int .i64 (.a st),.str re,.sl (.a nl) (.a n) 2 f]
def spFr1 : FSpec:=fun _ xs ls K=>∃ (m : List UInt8) (mi st : Int) (re : List UInt8) (nl : Bool) (n : Int) (f : Nat→List SV),xs = [.ptr 0 0,.ptr 1 0]∧ls = [.blk 9 [.str m],Ae1 mi st re nl n f]∧
 ∀ r,r = Wg m st→K (.bool (.a r)) [.blk 9 [.str m],Ae1 mi st re nl n f]
theorem fr1_ok : A2 Tryz.prog gl 64 spFr1:=by
 refine Ek (gh:=[]) mixed Dp Aw Tryz.func64 (by kernel_rfl) (by kernel_rfl) ?_
 intro xs ls K h
 unfold spFr1 at h
 obtain ⟨m,mi,st,re,nl,n,f,rfl,rfl,h⟩:=h
 obtain ⟨k,hk⟩ : ∃ k,k = Wg m st:=⟨_,rfl⟩
 refine ⟨_,_,h k hk,fun D hD=>?_⟩
 clear h
 unfold Ae1
 cbv
 subst hD hk
 exact ⟨D0 rfl,Cp (LeH.cons (Am (.cons (LeV.refl _) .nil)) (LeH.cons (Am (.cons (LeV.refl _) (.cons (LeV.refl _) (.cons (LeV.refl _) (.cons (LeV.refl _) .nil))))) fun _ _ _ _ h=>h)),Nat.le_refl _⟩
def Li (mi : Int) (cod : List (List UInt8)) (coded sized good : Bool) : Bool:=coded && (((sized || (mi == 0)) || !good) || !(cod == [Gv]))
def spFr2 : FSpec:=fun _ xs ls K=>∃ (kd : Int) (coded sized good : Bool) (mi st : Int) (re : List UInt8) (nl : Bool) (n : Int) (f : Nat→List SV) (cod : List (List UInt8)) (cb : Bool) (cn : Int) (cf : Nat→List SV) (e : Int),
 xs = [.ptr 0 0,.ptr 1 0,.ptr 2 0,.ptr 3 0,.ptr 4 0,.ptr 5 0,.ptr 6 0]∧
 ls = [.blk 3 [.int .i64 (.a kd)],.blk 4 [.bool (.a coded)],.blk 4 [.bool (.a sized)],Ae1 mi st re nl n f,.blk 4 [.bool (.a good)],.blk 111 [.sl (.a cb) (.a cn) 1 cf],.blk 28 [.int .i64 (.a e)]]∧Cb cf cn cod∧
 ∀ kd' e',kd' = (if Li mi cod coded sized good then 0 else 2)→e' = (if Li mi cod coded sized good then 6 else e)→
  K (.bool (.a coded)) [.blk 3 [.int .i64 (.a kd')],.blk 4 [.bool (.a coded)],.blk 4 [.bool (.a sized)],Ae1 mi st re nl n f,.blk 4 [.bool (.a good)],.blk 111 [.sl (.a cb) (.a cn) 1 cf],.blk 28 [.int .i64 (.a e')]]
theorem fr2_ok : A2 Tryz.prog gl 65 spFr2:=by
 refine Ek (gh:=[]) mixed Dp (Ah eqS_ok Aw) Tryz.func65 (by kernel_rfl) (by kernel_rfl) ?_
 intro xs ls K h
 unfold spFr2 at h
 obtain ⟨kd,coded,sized,good,mi,st,re,nl,n,f,cod,cb,cn,cf,e,rfl,rfl,R,h⟩:=h
 obtain ⟨k,hk⟩ : ∃ k,k = Li mi cod coded sized good:=⟨_,rfl⟩
 rw [←hk] at h
 refine ⟨_,_,h _ _ rfl rfl,fun D hD=>?_⟩
 clear h
 unfold Ae1
 cbv
 refine ⟨fun hg=>?_,fun hg=>?_⟩<;>cbv
 ·intro g hg2
  cbv
  have g0 : g 0 = [.str Gv]:=hg2.h 0 _ rfl
  have R2 : Cb g 1 [Gv]:=⟨rfl,fun i hi=>by
   have : i = 0:=by simpa using hi
   subst this
   exact g0,by decide⟩
  clear hg2
  refine ⟨cod,[Gv],_,_,_,_,cf,g,rfl,rfl,by subst hD; exact R,by subst hD; exact R2,fun x hx=>?_⟩
  cbv
  have hkx : (coded && (((sized || (mi == 0)) || !good) || !x)) = k:=by rw [hk,hx]; rfl
  clear hk hx
  refine br hD (fun hb=>?_) (fun hb=>?_)<;>cbv
  ·have hb : (coded && (((sized || (mi == 0)) || !good) || !x)) = true:=by subst hD; exact hb
   rw [hb] at hkx
   subst hkx
   subst hD
   exact ⟨D0 rfl,Cp (LeH.cons (Am (.cons (Al rfl) .nil)) (LeH.cons (Am (.cons (D0 rfl) .nil)) (LeH.cons (Am (.cons (LeV.refl _) .nil)) (LeH.cons (Am (.cons (LeV.refl _) (.cons (LeV.refl _) (.cons (LeV.refl _) (.cons (LeV.refl _) .nil))))) (LeH.cons (Am (.cons (LeV.refl _) .nil)) (LeH.cons (Am (.cons (LeV.refl _) .nil)) (LeH.cons (Am (.cons (Al rfl) .nil)) fun _ _ _ _ h=>h))))))),Nat.le_refl _⟩
  ·have hb : (coded && (((sized || (mi == 0)) || !good) || !x)) = false:=by subst hD; exact hb
   rw [hb] at hkx
   subst hkx
   subst hD
   exact ⟨D0 rfl,Cp (LeH.cons (Am (.cons (Al rfl) .nil)) (LeH.cons (Am (.cons (D0 rfl) .nil)) (LeH.cons (Am (.cons (LeV.refl _) .nil)) (LeH.cons (Am (.cons (LeV.refl _) (.cons (LeV.refl _) (.cons (LeV.refl _) (.cons (LeV.refl _) .nil))))) (LeH.cons (Am (.cons (LeV.refl _) .nil)) (LeH.cons (Am (.cons (LeV.refl _) .nil)) (LeH.cons (Am (.cons (Al rfl) .nil)) fun _ _ _ _ h=>h))))))),Nat.le_refl _⟩
 ·have hg : (!(((sized || (mi == 0)) || !good)) && coded) = false:=by subst hD; exact hg
  have R0 : Cb (fun _=>[]) 0 []:=Cb.nil
  refine ⟨cod,[],_,_,_,_,cf,fun _=>[],rfl,rfl,by subst hD; exact R,by subst hD; exact R0,fun x hx=>?_⟩
  cbv
  clear hx
  have hkx : (coded && (((sized || (mi == 0)) || !good) || !x)) = k:=by
   rw [hk]
   unfold Li
   cases coded
   ·rfl
   ·rw [Bool.and_true,Bool.not_eq_false'] at hg
    rw [hg]; rfl
  refine br hD (fun hb=>?_) (fun hb=>?_)<;>cbv
  ·have hb : (coded && (((sized || (mi == 0)) || !good) || !x)) = true:=by subst hD; exact hb
   rw [hb] at hkx
   subst hkx
   subst hD
   exact ⟨D0 rfl,Cp (LeH.cons (Am (.cons (Al rfl) .nil)) (LeH.cons (Am (.cons (D0 rfl) .nil)) (LeH.cons (Am (.cons (LeV.refl _) .nil)) (LeH.cons (Am (.cons (LeV.refl _) (.cons (LeV.refl _) (.cons (LeV.refl _) (.cons (LeV.refl _) .nil))))) (LeH.cons (Am (.cons (LeV.refl _) .nil)) (LeH.cons (Am (.cons (LeV.refl _) .nil)) (LeH.cons (Am (.cons (Al rfl) .nil)) fun _ _ _ _ h=>h))))))),Nat.le_refl _⟩
  ·have hb : (coded && (((sized || (mi == 0)) || !good) || !x)) = false:=by subst hD; exact hb
   rw [hb] at hkx
   subst hkx
   subst hD
   exact ⟨D0 rfl,Cp (LeH.cons (Am (.cons (Al rfl) .nil)) (LeH.cons (Am (.cons (D0 rfl) .nil)) (LeH.cons (Am (.cons (LeV.refl _) .nil)) (LeH.cons (Am (.cons (LeV.refl _) (.cons (LeV.refl _) (.cons (LeV.refl _) (.cons (LeV.refl _) .nil))))) (LeH.cons (Am (.cons (LeV.refl _) .nil)) (LeH.cons (Am (.cons (LeV.refl _) .nil)) (LeH.cons (Am (.cons (Al rfl) .nil)) fun _ _ _ _ h=>h))))))),Nat.le_refl _⟩
def Jq (len : List (List UInt8)) (sized fine : Bool) : Int×Int:=if sized then (if fine then Ep len else (0,6)) else (0,0)
def spFr3 : FSpec:=fun _ xs ls K=>∃ (kd l0 e0 : Int) (sized fine : Bool) (len : List (List UInt8)) (lb : Bool) (ln : Int) (lf : Nat→List SV),
 xs = [.ptr 0 0,.ptr 1 0,.ptr 2 0,.ptr 3 0,.ptr 4 0,.ptr 5 0]∧
 ls = [.blk 3 [.int .i64 (.a kd)],.blk 4 [.bool (.a sized)],.blk 111 [.sl (.a lb) (.a ln) 1 lf],.blk 4 [.bool (.a fine)],.blk 3 [.int .i64 (.a l0)],.blk 28 [.int .i64 (.a e0)]]∧l0 = 0∧e0 = 0∧Cb lf ln len∧(∀ x∈len,x.length≤9223372036854775807)∧
 ∀ kd' l' e',e' = (Jq len sized fine).2→kd' = (if e' = 0 then 1 else 0)→l' = (if e' = 0 then (Jq len sized fine).1 else 0)→
  K (.bool (.a sized)) [.blk 3 [.int .i64 (.a kd')],.blk 4 [.bool (.a sized)],.blk 111 [.sl (.a lb) (.a ln) 1 lf],.blk 4 [.bool (.a fine)],.blk 3 [.int .i64 (.a l')],.blk 28 [.int .i64 (.a e')]]
theorem fr3_ok : A2 Tryz.prog gl 67 spFr3:=by
 refine Ek (gh:=[]) mixed Dp (Ah Ag6 Aw) Tryz.func67 (by kernel_rfl) (by kernel_rfl) ?_
 intro xs ls K h
 unfold spFr3 at h
 obtain ⟨kd,l0,e0,sized,fine,len,lb,ln,lf,rfl,rfl,hl0,he0,R,hsm,h⟩:=h
 obtain ⟨e',he⟩ : ∃ k,k = (Jq len sized fine).2:=⟨_,rfl⟩
 obtain ⟨kd',hkd⟩ : ∃ k : Int,k = (if e' = 0 then 1 else 0):=⟨_,rfl⟩
 obtain ⟨l',hl⟩ : ∃ k : Int,k = (if e' = 0 then (Jq len sized fine).1 else 0):=⟨_,rfl⟩
 refine ⟨_,_,h _ _ _ he hkd hl,fun D hD=>?_⟩
 clear h
 cbv
 refine br hD (fun hb=>?_) (fun hb=>?_)<;>cbv
 ·have hb : sized = true:=by subst hD; exact hb
  subst hb
  refine ⟨len,D.b (.a fine),_,_,lf,rfl,rfl,by subst hD; exact R,hsm,fun r e hre=>?_⟩
  cbv
  have hre : (r,e) = if fine then Ep len else (0,6):=by subst hD; exact hre
  have e1 : Jq len true fine = (r,e):=by rw [hre]; rfl
  rw [e1] at he hl
  have he : e' = e:=he
  subst he
  clear hre e1
  refine br hD (fun hb=>?_) (fun hb=>?_)<;>cbv
  ·have hb : (e' != 0) = true:=by subst hD; exact hb
   have hb : ¬ e' = 0:=by simpa using hb
   rw [if_neg hb] at hkd hl
   subst hkd hl
   subst hD
   exact ⟨D0 rfl,Cp (LeH.cons (Am (.cons (Al rfl) .nil)) (LeH.cons (Am (.cons (LeV.refl _) .nil)) (LeH.cons (Am (.cons (LeV.refl _) .nil)) (LeH.cons (Am (.cons (LeV.refl _) .nil)) (LeH.cons (Am (.cons (Al rfl) .nil)) (LeH.cons (Am (.cons (Al rfl) .nil)) fun _ _ _ _ h=>h)))))),Nat.le_refl _⟩
  ·have hb : (e' != 0) = false:=by subst hD; exact hb
   have hb : e' = 0:=by simpa using hb
   rw [if_pos hb] at hkd hl
   subst hkd hl
   subst hD
   exact ⟨D0 rfl,Cp (LeH.cons (Am (.cons (Al rfl) .nil)) (LeH.cons (Am (.cons (LeV.refl _) .nil)) (LeH.cons (Am (.cons (LeV.refl _) .nil)) (LeH.cons (Am (.cons (LeV.refl _) .nil)) (LeH.cons (Am (.cons (Al rfl) .nil)) (LeH.cons (Am (.cons (Al rfl) .nil)) fun _ _ _ _ h=>h)))))),Nat.le_refl _⟩
 ·have hb : sized = false:=by subst hD; exact hb
  subst hb
  have he : e' = 0:=he
  rw [if_pos he] at hkd hl
  have hl : l' = 0:=hl
  refine br hD (fun hb=>?_) (fun hb=>?_)<;>cbv
  ·exfalso
   have hb : (e0 != 0) = true:=by subst hD; exact hb
   rw [he0] at hb
   cases hb
  clear hb
  subst he hkd hl hl0 he0
  subst hD
  exact ⟨D0 rfl,Cp (LeH.cons (Am (.cons (Al rfl) .nil)) (LeH.cons (Am (.cons (LeV.refl _) .nil)) (LeH.cons (Am (.cons (LeV.refl _) .nil)) (LeH.cons (Am (.cons (LeV.refl _) .nil)) (LeH.cons (Am (.cons (Al rfl) .nil)) (LeH.cons (Am (.cons (Al rfl) .nil)) fun _ _ _ _ h=>h)))))),Nat.le_refl _⟩
end Go.Proofs.YtdoogdbjiijifaaGreatDoor
namespace Go.Proofs.YtdoogdbjiijifaaGreatDoor
open Go Go.Sx
set_option maxRecDepth 100000
set_option maxHeartbeats 8000000
def spFraming : FSpec:=fun _ xs ls K=>∃ (m : List UInt8) (hd : RsH) (mi st : Int) (re : List UInt8) (nl : Bool) (n : Int) (f : Nat→List SV),xs = [.str m,X8 mi st re nl n f]∧ls = []∧RshV hd mi st n f∧m.length≤9223372036854775807∧
 ∀ a b e,(a,b,e) = Au m hd→K (.tup [.int .i64 (.a a),.int .i64 (.a b),.int .i64 (.a e)]) []
theorem Ab3 {t1 t1' t2 t2' t3 t3' : ST} (h1 : t1.den = t1'.den) (h2 : t2.den = t2'.den) (h3 : t3.den = t3'.den) : Fin (.tup [.int .i64 t1,.int .i64 t2,.int .i64 t3]) (.tup [.int .i64 t1',.int .i64 t2',.int .i64 t3']) [] [] :=
 Gf (.tup (.cons (Al h1) (.cons (Al h2) (.cons (Al h3) .nil))))
theorem Nq : ∀ (r : List (List UInt8)) (L : List (List UInt8)),Br r = some L→∀ x∈L,x.length≤9223372036854775807
 | [],L,h=>by cases h; intro x hx; cases hx
 | v :: r,L,h=>by
  unfold Br at h
  split at h
  ·cases hr : Br r with
   | none=>rw [hr] at h; cases h
   | some L' =>
    rw [hr] at h
    simp only [Option.map_some,Option.some.injEq] at h
    subst h
    intro x hx
    rcases List.mem_append.1 hx with hx | hx
    ·obtain ⟨y,hy,rfl⟩:=List.mem_map.1 hx
     have:=(Fb v).2 y hy
     have h2 : (foldF y).length = y.length:=by unfold foldF; simp
     omega
    ·exact Nq r L' hr x hx
  ·cases h
theorem Xr {l : List HF} {t : List UInt8} (h : A7 l = 0) (ht : Bj t = true) (hf : foldF t = t) : Hf l t = Bu l t:=by
 unfold Hf Tl
 simp [h,ht,hf]
structure FrP (l : List HF) (cod len : List (List UInt8)) (coded sized good fine : Bool) : Prop where
 a1 : cod = (Br (Bu l nTEnc)).getD []
 a2 : coded = !(Bu l nTEnc).isEmpty
 a3 : good = (Br (Bu l nTEnc)).isSome
 b1 : len = (Br (Bu l nLen)).getD []
 b2 : sized = !(Bu l nLen).isEmpty
 b3 : fine = (Br (Bu l nLen)).isSome
theorem frp2 {l : List HF} {cod len : List (List UInt8)} {coded sized good fine : Bool} {mi : Int} (P : FrP l cod len coded sized good fine) (h : coded = true) :
  Bu l nTEnc≠[]∧(Li mi cod coded sized good = true↔(Bu l nLen≠[]∨mi = 0∨Br (Bu l nTEnc)≠some [Gv])):=by
 have ha:=P.a2
 rw [h] at ha
 refine ⟨fun e=>(by rw [e] at ha; cases ha),?_⟩
 unfold Li
 rw [h,P.a1,P.a3,P.b2]
 cases hv : Bu l nLen<;>cases he : Br (Bu l nTEnc)<;>simp
theorem frp0 {l : List HF} {cod len : List (List UInt8)} {coded sized good fine : Bool} (P : FrP l cod len coded sized good fine) (h : coded = false) : Bu l nTEnc = []:=by
 have ha:=P.a2
 rw [h] at ha
 cases hv : Bu l nTEnc with
 | nil=>rfl
 | cons a b=>rw [hv] at ha; cases ha
theorem frp1 {l : List HF} {cod len : List (List UInt8)} {coded sized good fine : Bool} (P : FrP l cod len coded sized good fine) (h : sized = false) : Bu l nLen = []:=by
 have ha:=P.b2
 rw [h] at ha
 cases hv : Bu l nLen with
 | nil=>rfl
 | cons a b=>rw [hv] at ha; cases ha
theorem frp3 {l : List HF} {cod len : List (List UInt8)} {coded sized good fine : Bool} (P : FrP l cod len coded sized good fine) (h : sized = true) :
  Bu l nLen≠[]∧(match Br (Bu l nLen) with
   | none=>((0 : Int),(0 : Int),(6 : Int))
   | some l=>if (Ep l).2 = 0 then (1,(Ep l).1,0) else (0,0,(Ep l).2)) = (if (Jq len sized fine).2 = 0 then 1 else 0,if (Jq len sized fine).2 = 0 then (Jq len sized fine).1 else 0,(Jq len sized fine).2):=by
 have ha:=P.b2
 rw [h] at ha
 refine ⟨fun e=>(by rw [e] at ha; cases ha),?_⟩
 unfold Jq
 rw [h,P.b1,P.b3]
 cases he : Br (Bu l nLen) with
 | none=>rfl
 | some L =>
  simp only [Option.getD_some,Option.isSome_some,if_true]
  by_cases g : (Ep L).2 = 0
  ·rw [if_pos g,if_pos g,if_pos g,g]
  ·rw [if_neg g,if_neg g,if_neg g]
theorem L6 : A2 Tryz.prog gl 19 spFraming:=by
 refine Dg (gh:=[(999984,[]),(999986,[.freeze 4])]) mixed Dd (Ah H8 (Ah Agf (Ah Qz (Bf fr1_ok (Bf fr2_ok (Bf fr3_ok Aw)))))) Tryz.func19 (by kernel_rfl) (by kernel_rfl) ?_
 intro xs ls K h
 unfold spFraming at h
 obtain ⟨m,hd,mi,st,re,nl,n,f,rfl,rfl,V,hm,h⟩:=h
 obtain ⟨k,hk⟩ : ∃ k,k = Au m hd:=⟨_,rfl⟩
 obtain ⟨ra,rb,rc⟩:=k
 have h:=h ra rb rc hk
 refine ⟨_,_,h,fun D hD=>?_⟩
 clear h
 unfold X8
 cbv
 refine ⟨m,rfl,rfl,hm,fun tk htk=>?_⟩
 cbv
 unfold Au at hk
 rw [←htk] at hk
 refine br hD (fun hb=>?_) (fun hb=>?_)<;>cbv
 ·have hb : (!tk) = true:=by subst hD; exact hb
  rw [if_pos hb] at hk
  simp only [Prod.mk.injEq] at hk
  obtain ⟨rfl,rfl,rfl⟩:=hk
  subst hD
  exact Ab3 rfl rfl rfl
 have hb : (!tk) = false:=by subst hD; exact hb
 rw [if_neg (by rw [hb]; decide)] at hk
 clear hb
 refine ⟨hd,D.i (.a mi),D.i (.a st),re,D.b (.a nl),D.i (.a n),f,rfl,rfl,by subst hD; exact V,fun e he=>?_⟩
 cbv
 rw [←he] at hk
 refine br hD (fun hb=>?_) (fun hb=>?_)<;>cbv
 ·have hb : (e != 0) = true:=by subst hD; exact hb
  rw [if_pos (by simpa using hb)] at hk
  simp only [Prod.mk.injEq] at hk
  obtain ⟨rfl,rfl,rfl⟩:=hk
  subst hD
  exact Ab3 rfl rfl rfl
 have hb : (e != 0) = false:=by subst hD; exact hb
 have e0 : e = 0:=by simpa using hb
 rw [if_neg (by simpa using e0)] at hk
 have hc0 : A7 hd.fields = 0:=by
  rw [e0] at he
  unfold Jh at he
  split at he
  ·cases he
  ·exact he.symm
 clear hb he
 refine ⟨hd.fields,_,_,f,nTEnc,rfl,rfl,by subst hD; exact V.row,by decide,fun cod coded good cf cn cb hv1 G1=>?_⟩
 cbv
 refine ⟨hd.fields,_,_,f,nLen,rfl,rfl,by subst hD; exact V.row,by decide,fun len sized fine lf ln lb hv2 G2=>?_⟩
 cbv
 have hT : Hf hd.fields nTEnc = Bu hd.fields nTEnc:=Xr hc0 (by decide +kernel) (by decide +kernel)
 have hL : Hf hd.fields nLen = Bu hd.fields nLen:=Xr hc0 (by decide +kernel) (by decide +kernel)
 have P : FrP hd.fields cod len coded sized good fine:=by
  obtain ⟨p1,p2,p3⟩:=hv1
  obtain ⟨q1,q2,q3⟩:=hv2
  rw [hT] at p1 p2 p3
  rw [hL] at q1 q2 q3
  exact ⟨p1,p2,p3,q1,q2,q3⟩
 clear hv1 hv2 hT hL
 have hst : st = hd.status:=V.est
 have hmi : mi = hd.minor:=V.emi
 rw [←hst,←hmi] at hk
 clear hst hmi hc0
 refine ⟨m,D.i (.a mi),D.i (.a st),re,D.b (.a nl),D.i (.a n),f,rfl,rfl,fun x1 hx1=>?_⟩
 cbv
 have hx1 : x1 = Wg m st:=by subst hD; exact hx1
 rw [←hx1] at hk
 refine br hD (fun hb=>?_) (fun hb=>?_)<;>cbv
 ·have hb : x1 = true:=by subst hD; exact hb
  rw [if_pos hb] at hk
  simp only [Prod.mk.injEq] at hk
  obtain ⟨rfl,rfl,rfl⟩:=hk
  subst hD
  exact Ab3 rfl rfl rfl
 have hb : x1 = false:=by subst hD; exact hb
 rw [if_neg (by rw [hb]; decide)] at hk
 clear hb hx1
 refine ⟨_,D.b (.a coded),D.b (.a sized),D.b (.a good),_,_,re,_,_,f,cod,_,_,cf,_,rfl,rfl,by subst hD; exact G1.row,fun kd2 e2 hkd2 he2=>?_⟩
 cbv
 have hkd3 : kd2 = if Li mi cod coded sized good then 0 else 2:=by subst hD; exact hkd2
 have he3 : e2 = if Li mi cod coded sized good then 6 else 0:=by subst hD; exact he2
 clear hkd2 he2
 refine br hD (fun hb=>?_) (fun hb=>?_)<;>cbv
 ·have hb : coded = true:=by subst hD; exact hb
  obtain ⟨p1,p2⟩:=frp2 (mi:=mi) P hb
  rw [if_pos p1] at hk
  by_cases hr : Li mi cod coded sized good = true
  ·rw [if_pos (p2.1 hr)] at hk
   rw [if_pos hr] at hkd3 he3
   simp only [Prod.mk.injEq] at hk
   obtain ⟨rfl,rfl,rfl⟩:=hk
   subst hD
   exact Ab3 hkd3 rfl he3
  ·rw [if_neg (fun h=>hr (p2.2 h))] at hk
   rw [if_neg hr] at hkd3 he3
   simp only [Prod.mk.injEq] at hk
   obtain ⟨rfl,rfl,rfl⟩:=hk
   subst hD
   exact Ab3 hkd3 rfl he3
 have hb : coded = false:=by subst hD; exact hb
 have hr : Li mi cod coded sized good = false:=by rw [hb]; rfl
 rw [hr,if_neg (by decide)] at he3
 rw [if_neg (by rw [frp0 P hb]; simp)] at hk
 clear hkd3 hr
 have hls : ∀ x∈len,x.length≤9223372036854775807:=by
  rw [P.b1]
  cases hl : Br (Bu hd.fields nLen) with
  | none=>intro x hx; cases hx
  | some L=>exact Nq _ L hl
 refine ⟨_,_,_,_,_,len,_,_,lf,rfl,rfl,by subst hD; rfl,by subst hD; exact he3,by subst hD; exact G2.row,hls,fun kd4 l4 e4 he4 hkd4 hl4=>?_⟩
 cbv
 have he5 : e4 = (Jq len sized fine).2:=by subst hD; exact he4
 have hl5 : l4 = if e4 = 0 then (Jq len sized fine).1 else 0:=by subst hD; exact hl4
 clear he4 hl4
 refine br hD (fun hb=>?_) (fun hb=>?_)<;>cbv
 ·have hb : sized = true:=by subst hD; exact hb
  obtain ⟨p1,p2⟩:=frp3 P hb
  rw [if_pos p1] at hk
  have hk:=hk.trans p2
  rw [←he5,←hl5,←hkd4] at hk
  simp only [Prod.mk.injEq] at hk
  obtain ⟨rfl,rfl,rfl⟩:=hk
  subst hD
  exact Ab3 rfl rfl rfl
 ·have hb : sized = false:=by subst hD; exact hb
  rw [if_neg (by rw [frp1 P hb]; simp)] at hk
  simp only [Prod.mk.injEq] at hk
  obtain ⟨rfl,rfl,rfl⟩:=hk
  subst hD
  exact Ab3 rfl rfl rfl
end Go.Proofs.YtdoogdbjiijifaaGreatDoor
