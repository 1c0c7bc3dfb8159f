/- Part of the proofs of the statements about requests (layer 7): a symbolic executor over the code, that it is sound, and contracts of functions; it has no conditions of its own. -/
import Derived.Shelf.Bytes.SlIndexAt
import Derived.Test.YtefelnhpfdcleaaGreatDoorSzPbd
import Derived.Test.YtefelnhpfdcleaaGreatDoorSzPaz
namespace Go.Proofs.YtefelnhpfdcleaaGreatDoor
open Go Go.Sx Go.RowKit
set_option maxRecDepth 100000
set_option maxHeartbeats 4000000
def spIdxRow : FSpec:=fun _ xs ls K=>∃ (t : List UInt8) (nl : Bool) (n c : Int) (f : Nat→List SV),xs = [.sl (.a nl) (.a n) 1 f,.int .u8 (.a c)]∧ls = []∧Bn f n t∧c = 10∧∀ r,r = Lib.indexByte t 10→K (.int .i64 (.a r)) []
theorem Ad9 (t : List UInt8) : Lib.bytesOf (t.map fun c=>(c.toNat : Int)) = t:=by
 unfold Lib.bytesOf
 rw [List.map_map]
 conv=>rhs; rw [←List.map_id t]
 refine List.map_congr_left fun c _=>?_
 simp [Function.comp]
theorem Ajn : Ar Tryz.prog gl 92 spIdxRow:=by
 refine ⟨⟨Tryz.f92,_,Tryz.func92,rfl,by kernel_rfl⟩,fun xs ls K h=>?_⟩
 obtain ⟨t,nl,n,c,f,rfl,rfl,R,rfl,h⟩:=h
 refine ⟨_,_,h _ rfl,Bt fun E B w vals _ _ _ hr=>?_⟩
 obtain ⟨v,u,rfl,hv,hu⟩:=Ek hr
 rw [K1 hu]
 rcases (Rel.sl_inv hv).sl_inv with ⟨rfl,hn,_⟩ | ⟨a,m,cap,g,rfl,_,hn,hc,hcm,hs,hl,h1,hcell,hrel⟩
 ·have ht : t = []:=by
   have:=R.n
   have hn : n = 0:=hn
   exact List.length_eq_zero_iff.1 (by omega)
  subst ht
  refine (Kw 10 w).mono ?_
  rintro e w' ⟨rfl,rfl⟩
  exact ⟨_,rfl,fun E=>.ro (.int rfl),Below.refl _ _⟩
 ·have hm : t.length = m:=by
   have:=R.n
   have hn : n = (m : Int):=hn
   omega
  have hh : ∀ i,i < m→w.cell? (a.add i) = some (.int .u8 ((t.map fun c=>(c.toNat : Int)).getD i 0)):=by
   intro i hi
   have e1:=(hcell i 0 hi (by omega)).1
   have e2:=hrel i 0 (.int .u8 (.a ((t.getD i 0).toNat : Int))) hi (by rw [R.f i (by omega)]; rfl)
   have e3 : g i 0 = .int .u8 ((t.getD i 0).toNat : Int):=by
    generalize g i 0 = v at e2
    cases e2 with
    | int h=>rw [←h]; rfl
   have e4 : a.add i = ⟨a.block,a.off + (i * 1 + 0),none⟩:=by
    have:=hs (by omega)
    cases a; simp only at this; subst this; simp [Addr.add]
   rw [e4,e1,e3]
   have hi' : i < t.length:=by omega
   simp [List.getD_eq_getElem?_getD,List.getElem?_eq_getElem hi']
  refine (Any.bytes_IndexByte_at Vb a m cap _ 10 w (by simpa using hm) hh).mono ?_
  rintro e w' ⟨rfl,rfl⟩
  rw [Ad9]
  exact ⟨_,rfl,fun E=>.ro (.int rfl),Below.refl _ _⟩
end Go.Proofs.YtefelnhpfdcleaaGreatDoor
namespace Go.Proofs.YtefelnhpfdcleaaGreatDoor
open Go Go.Sx
set_option maxRecDepth 100000
set_option maxHeartbeats 16000000
def hpG (b : List UInt8) : Nat→Nat→List HF→List HF×Int×Int
 | 0,_,_=>([],0,0)
 | m + 1,p,r =>
  if (decide (Lib.indexByte (b.drop p) 10 < 0) && decide (8192 < b.length)) || decide (8192≤(p : Int) + Lib.indexByte (b.drop p) 10) then ([],0,3) else
  if Lib.indexByte (b.drop p) 10 < 0 then ([],0,10) else
  if (!Lib.hasSuffix ((b.drop p).take (Lib.indexByte (b.drop p) 10).toNat) [13]) || decide (0≤Lib.indexByte (Lib.trimSuffix ((b.drop p).take (Lib.indexByte (b.drop p) 10).toNat) [13]) 13) then ([],0,6) else
  if Lib.trimSuffix ((b.drop p).take (Lib.indexByte (b.drop p) 10).toNat) [13] = [] then (r,(p : Int) + Lib.indexByte (b.drop p) 10 + 1,0) else
  if (!(Ah 58 (Lib.trimSuffix ((b.drop p).take (Lib.indexByte (b.drop p) 10).toNat) [13])).2.2 || !Br (Ah 58 (Lib.trimSuffix ((b.drop p).take (Lib.indexByte (b.drop p) 10).toNat) [13])).1) || !D2 (Ah 58 (Lib.trimSuffix ((b.drop p).take (Lib.indexByte (b.drop p) 10).toNat) [13])).2.1 then ([],0,6) else
  if decide (2000 < (trimF (Ah 58 (Lib.trimSuffix ((b.drop p).take (Lib.indexByte (b.drop p) 10).toNat) [13])).2.1).length) || decide (r.length = 100) then ([],0,3) else
  hpG b m (p + (Lib.indexByte (b.drop p) 10).toNat + 1) (r ++ [⟨(Ah 58 (Lib.trimSuffix ((b.drop p).take (Lib.indexByte (b.drop p) 10).toNat) [13])).1,trimF (Ah 58 (Lib.trimSuffix ((b.drop p).take (Lib.indexByte (b.drop p) 10).toNat) [13])).2.1⟩])
def B5 (b : List UInt8) : List HF×Int×Int:=hpG b (b.length + 1) 0 []
def spHParse : FSpec:=fun _ xs ls K=>∃ (b : List UInt8) (nl : Bool) (n : Int) (f : Nat→List SV),xs = [.sl (.a nl) (.a n) 1 f]∧ls = []∧Bn f n b∧b.length≤1000000∧
 ∀ l f1 n1 b1 k e,(l,k,e) = B5 b→GrH f1 n1 b1 l→K (.tup [.sl (.a b1) (.a n1) 2 f1,.int .i64 (.a k),.int .i64 (.a e)]) []
structure HpJ (b : List UInt8) (k : List HF×Int×Int) (p : Nat) (P : Int) (m : Nat) (r : List HF) (f1 : Nat→List SV) (n1 : Int) (b1 : Bool) : Prop where
 eP : P = p
 le : p≤b.length
 le2 : p≤8192
 lt : b.length - p < m
 k : k = hpG b m p r
 G : GrH f1 n1 b1 r
 len : r.length≤100
def hpJ (b : List UInt8) (k : List HF×Int×Int) (nl : Bool) (n : Int) (f : Nat→List SV) (m : Nat) (vs : List (Option SV)) (hp : List Hl) : Prop :=
 ∃ (p : Nat) (P : Int) (r : List HF) (f1 : Nat→List SV) (n1 : Int) (b1 : Bool),vs = [some (.sl (.a nl) (.a n) 1 f),some (.gsl (.a b1) (.a n1) 2 f1 0),some (.int .i64 (.a P))]∧hp = [.tail 69 (.a n1) 2]∧HpJ b k p P m r f1 n1 b1
theorem Ke {s : List UInt8} {c : UInt8} : -1≤Lib.indexByte s c∧(0≤Lib.indexByte s c→Lib.indexByte s c < (s.length : Int)):=by
 cases h : (Ah c s).2.2 with
 | false=>have:=(Abl h).2.2; rw [this]; exact ⟨by omega,fun h=>by omega⟩
 | true=>obtain ⟨h1,_,_,h4⟩:=Kl h; rw [h1]; exact ⟨by omega,fun _=>by omega⟩
theorem Ia : ∀ (m p : Nat) (r : List HF) (b : List UInt8),b.length≤1000000→r.length≤100→(∀ x∈r,x.small)→(hpG b m p r).1.length≤100∧∀ x∈(hpG b m p r).1,x.small
 | 0,p,r,b,_,_,_=>⟨by simp [hpG],fun x hx=>by simp [hpG] at hx⟩
 | m + 1,p,r,b,hb,hr,hs=>by
  have h0 : ([] : List HF).length≤100∧∀ x∈([] : List HF),x.small:=⟨by simp,fun x hx=>by cases hx⟩
  unfold hpG
  split
  ·exact h0
  split
  ·exact h0
  split
  ·exact h0
  split
  ·exact ⟨hr,hs⟩
  split
  ·exact h0
  split
  ·exact h0
  rename_i h
  simp only [Bool.or_eq_true,decide_eq_true_eq,not_or] at h
  obtain ⟨h1,h2⟩:=h
  refine Ia m _ _ b hb (by rw [List.length_append]; simp only [List.length_cons,List.length_nil]; omega) fun x hx=>?_
  rcases List.mem_append.1 hx with hx | hx
  ·exact hs x hx
  ·have hx:=List.mem_singleton.1 hx
   subst hx
   refine ⟨?_,by show (trimF _).length≤_; omega⟩
   show (Ah 58 _).1.length≤_
   refine Nat.le_trans (Ib 58 _).1 ?_
   rw [Lib.trimSuffix]
   have e : ((b.drop p).take (Lib.indexByte (b.drop p) 10).toNat).length≤1000000:=by rw [List.length_take,List.length_drop]; omega
   split
   ·rw [List.length_take]; omega
   ·omega
structure HpE (e : Int) (t : List UInt8) : Prop where
 lo : -1≤e
 hi : 0≤e→e < (t.length : Int)
structure HpS (s : List UInt8) : Prop where
 len : s.length≤8192
theorem It {D : Dn} (hD : D = dn) {l l' : List HF} {f f1 : Nat→List SV} {n n1 k e : Int} {b b1 : Bool} {x : BT} {y z w : ST} (h : (l,k,e) = (l',z.den,w.den)) (G : GrH f n b l') (hG : GrH f1 n1 b1 l) (hx : x.den = b) (hy : y.den = n) :
  Fin (.tup [.sl (.a (D.b x)) (.a (D.i y)) 2 f,.int .i64 (.a (D.i z)),.int .i64 (.a (D.i w))]) (.tup [.sl (.a b1) (.a n1) 2 f1,.int .i64 (.a k),.int .i64 (.a e)]) [] []:=by
 subst hD
 simp only [Prod.mk.injEq] at h
 obtain ⟨rfl,rfl,rfl⟩:=h
 exact D6 (.tup (.cons (Oa G hG hx hy) (.cons (E7 rfl) (.cons (E7 rfl) .nil))))
theorem Ajo : Ar Tryz.prog gl 53 spHParse:=by
 refine A4 (gh:=[(1,[.attach 5 69])]) mixed A0 (Aa Ajn (Aa Z0 (Aa Ad5 (Aa Xb (Aa L0 (Aa Zk (Aa Jr Ae))))))) Tryz.func53 (by kernel_rfl) (by kernel_rfl) ?_
 intro xs ls K h
 unfold spHParse at h
 obtain ⟨b,nl,n,f,rfl,rfl,R,hb,h⟩:=h
 obtain ⟨k,hk⟩ : ∃ k,k = B5 b:=⟨_,rfl⟩
 have hS:=Ia (b.length + 1) 0 [] b hb (by simp) (fun x hx=>by cases hx)
 have hk0 : k = hpG b (b.length + 1) 0 []:=hk
 rw [←hk0] at hS
 obtain ⟨J,hJ⟩ : ∃ J,J = hpJ b k nl n f:=⟨_,rfl⟩
 obtain ⟨kl,kk,ke⟩:=k
 have hG : ∃ f1 n1 b1,GrH f1 n1 b1 kl:=⟨_,_,_,⟨A9.row (by have:=hS.1; simp only at this; omega) (fun i hi=>hS.2 _ (by rw [List.getD_eq_getElem?_getD,List.getElem?_eq_getElem hi]; exact List.getElem_mem hi)),rfl⟩⟩
 obtain ⟨f1,n1,b1,hG⟩:=hG
 clear hS
 refine ⟨_,_,h kl f1 n1 b1 kk ke hk hG,fun D hD=>?_⟩
 cbv
 clear h
 refine ⟨[0,5,6],J,⟨rfl,b.length + 1,?_⟩,?_⟩
 ·rw [hJ]
  subst hD
  exact ⟨0,_,[],_,_,_,rfl,rfl,⟨rfl,by omega,by omega,by omega,hk0,GrH.nil,by simp⟩⟩
 clear hk hk0
 intro m vs hp hj
 rw [hJ] at hj
 obtain ⟨p,P,r,e1,m1,c1,rfl,rfl,V⟩:=hj
 have hP:=V.eP
 have hle:=V.le
 have hk:=V.k
 obtain ⟨m0,rfl⟩ : ∃ m0,m = m0 + 1:=⟨m - 1,by have:=V.lt; omega⟩
 rw [hpG,←hP] at hk
 obtain ⟨t,ht⟩ : ∃ t,t = b.drop p:=⟨_,rfl⟩
 rw [←ht] at hk
 have htl : t.length = b.length - p:=by rw [ht,List.length_drop]
 have VP : VI P p:=⟨hP⟩
 clear hP
 refine ⟨by subst hD; exact ⟨by show (0 : Int)≤P; rw [VP.h]; omega,by show P≤n; rw [VP.h,R.n]; omega,Int.le_refl _⟩,fun f2 n2 hsub=>?_⟩
 cbv
 have R2 : Bn f2 n2 t:=by
  have:=R.sub (a:=p) (b:=b.length) hsub (by subst hD; exact VP.h) (by subst hD; exact R.n) hle (Nat.le_refl _)
  rw [ht]
  have e : (b.drop p).take (b.length - p) = b.drop p:=List.take_of_length_le (by rw [List.length_drop]; exact Nat.le_refl _)
  rwa [e] at this
 clear hsub
 refine ⟨t,_,_,_,f2,rfl,rfl,by subst hD; exact R2,by subst hD; rfl,fun e he=>?_⟩
 cbv
 rw [←he] at hk
 have hb1 : HpE e t:=by rw [he]; exact ⟨Ke.1,Ke.2⟩
 have hdn : decide (8192 < n) = decide (8192 < b.length):=by rw [decide_eq_decide,R.n]; omega
 refine br hD (fun h=>?_) (fun h=>?_)<;>cbv
 ·have h : (decide (e < 0) && decide (8192 < n)) = true:=h
  rw [hdn] at h
  rw [if_pos (by rw [h]; rfl)] at hk
  exact It hD hk GrH.nil hG rfl rfl
 have h1 : (decide (e < 0) && decide (8192 < b.length)) = false:=by
  have h : (decide (e < 0) && decide (8192 < n)) = false:=h
  rw [hdn] at h
  exact h
 rw [h1,Bool.false_or] at hk
 clear h
 have hw1 : IntKind.i64.wrap (P + e) = P + e:=by have:=VP.h; have:=hb1.lo; have:=hb1.hi; exact Am (by omega) (by omega)
 refine br hD (fun h=>?_) (fun h=>?_)<;>cbv
 ·have h : decide (8192≤IntKind.i64.wrap (P + e)) = true:=h
  rw [hw1] at h
  rw [if_pos h] at hk
  exact It hD hk GrH.nil hG rfl rfl
 have h2 : ¬ 8192≤P + e:=by
  have h : decide (8192≤IntKind.i64.wrap (P + e)) = false:=h
  rw [hw1] at h
  simpa using h
 rw [if_neg (by simpa using h2)] at hk
 clear h
 refine br hD (fun h=>?_) (fun h=>?_)<;>cbv
 ·have h : decide (e < 0) = true:=h
  rw [if_pos (by simpa using h)] at hk
  exact It hD hk GrH.nil hG rfl rfl
 have h3 : ¬ e < 0:=by
  have h : decide (e < 0) = false:=h
  simpa using h
 rw [if_neg h3] at hk
 clear h
 obtain ⟨q,hq⟩ : ∃ q : Nat,q = e.toNat:=⟨_,rfl⟩
 rw [←hq] at hk
 have VE : VI e q:=⟨by omega⟩
 have hql : q < t.length:=by have:=hb1.hi (by omega); have:=VE.h; omega
 have hpq : p + q < 8192:=by have:=VP.h; have:=VE.h; omega
 clear hq h1 h2 h3
 refine ⟨by subst hD; exact ⟨by show (0 : Int)≤P; rw [VP.h]; omega,by show P≤IntKind.i64.wrap (P + e); rw [hw1,VE.h]; omega,by show IntKind.i64.wrap (P + e)≤n; rw [hw1,VP.h,VE.h,R.n]; omega⟩,fun f3 n3 hsub=>?_⟩
 cbv
 have R3 : Bn f3 n3 (t.take q):=by
  have:=R.sub (a:=p) (b:=p + q) hsub (by subst hD; exact VP.h) (by subst hD; show IntKind.i64.wrap (P + e) = _; rw [hw1,VP.h,VE.h]; omega) (by omega) (by omega)
  rw [←ht] at this
  have e : p + q - p = q:=by omega
  rwa [e] at this
 clear hsub
 refine ⟨by subst hD; exact R3.byte,fun s hs=>?_⟩
 cbv
 have hs : s = t.take q:=by subst hD; exact R3.str hs
 rw [←hs] at hk
 have hsl : HpS s:=⟨by rw [hs,List.length_take]; omega⟩
 clear hs R3
 refine ⟨s,[13],rfl,rfl,by have:=hsl.len; omega,fun l is hl his=>?_⟩
 cbv
 rw [←hl,←his] at hk
 have hll : HpS l:=⟨by
  have:=hsl.len
  rw [hl,Lib.trimSuffix]
  split
  ·rw [List.length_take]; omega
  ·exact this⟩
 clear hl his hsl
 refine ⟨l,13,rfl,rfl,fun cc hcc=>?_⟩
 cbv
 rw [←hcc] at hk
 clear hcc
 refine br hD (fun h=>?_) (fun h=>?_)<;>cbv
 ·have h : (!is || cc) = true:=h
  rw [if_pos h] at hk
  exact It hD hk GrH.nil hG rfl rfl
 have h : (!is || cc) = false:=h
 rw [if_neg (by rw [h]; simp)] at hk
 clear h
 have hw2 : IntKind.i64.wrap (P + IntKind.i64.wrap (e + 1)) = P + e + 1:=by
  have:=VP.h; have:=VE.h
  rw [Am (n:=e + 1) (by omega) (by omega),Am (by omega) (by omega)]; omega
 refine br hD (fun h=>?_) (fun h=>?_)<;>cbv
 ·have h1 : l = []:=by
   have h : (l == []) = true:=h
   exact eq_of_beq h
  rw [if_pos h1] at hk
  exact It hD (by rw [hk]; rw [←hw2]; rfl) V.G hG rfl rfl
 have h1 : ¬ l = []:=by
  have h : (l == []) = false:=h
  intro e; rw [e] at h; simp at h
 rw [if_neg h1] at hk
 clear h h1
 obtain ⟨c,hc⟩ : ∃ c,c = Ah 58 l:=⟨_,rfl⟩
 rw [←hc] at hk
 refine ⟨l,58,rfl,rfl,by have:=hll.len; omega,fun na va ok hc2=>?_⟩
 cbv
 rw [←hc] at hc2
 subst hc2
 have hnl : HpS na:=⟨by have h:=(Ib 58 l).1; rw [←hc] at h; exact Nat.le_trans h hll.len⟩
 have hvl : HpS va:=⟨by have h:=(Ib 58 l).2; rw [←hc] at h; exact Nat.le_trans h hll.len⟩
 clear hc hll
 refine ⟨na,rfl,rfl,by have:=hnl.len; omega,fun tk htk=>?_⟩
 cbv
 rw [←htk] at hk
 clear htk
 refine ⟨va,rfl,rfl,fun pl hpl=>?_⟩
 cbv
 simp only at hk
 rw [←hpl] at hk
 clear hpl
 refine br hD (fun h=>?_) (fun h=>?_)<;>cbv
 ·have h : ((!ok || !tk) || !pl) = true:=h
  rw [if_pos h] at hk
  exact It hD hk GrH.nil hG rfl rfl
 have h : ((!ok || !tk) || !pl) = false:=h
 rw [if_neg (by rw [h]; simp)] at hk
 clear h
 refine ⟨va,[32,9],rfl,rfl,by have:=hvl.len; omega,by decide,by decide,fun v hv=>?_⟩
 cbv
 have hv : v = trimF va:=by rw [hv,Ut]
 rw [←hv] at hk
 clear hv hvl
 have hm1 : m1 = (r.length : Int):=V.G.row.n
 have hd2 : decide (m1 = 100) = decide (r.length = 100):=by rw [decide_eq_decide,hm1]; omega
 refine br hD (fun h=>?_) (fun h=>?_)<;>cbv
 ·have h : (decide (2000 < (v.length : Int)) || (m1 == 100)) = true:=h
  have h : (decide (2000 < v.length) || decide (r.length = 100)) = true:=by
   rw [←hd2]
   rcases Bool.or_eq_true_iff.1 h with h | h
   ·rw [decide_eq_true (by have:=of_decide_eq_true h; omega)]; rfl
   ·rw [decide_eq_true (eq_of_beq h)]; simp
  rw [if_pos h] at hk
  exact It hD hk GrH.nil hG rfl rfl
 have h : ¬ 2000 < v.length∧¬ r.length = 100:=by
  have h : (decide (2000 < (v.length : Int)) || (m1 == 100)) = false:=h
  rw [Bool.or_eq_false_iff] at h
  refine ⟨fun e=>?_,fun e=>?_⟩
  ·have:=of_decide_eq_false h.1; omega
  ·have h2:=h.2; rw [hm1,e] at h2; simp at h2
 obtain ⟨h4,h5⟩:=h
 rw [if_neg (by simp [h4,h5])] at hk
 have hvs : HpS v:=⟨by omega⟩
 clear h4 hd2 hm1
 intro g hg
 cbv
 have hg0 : g 0 = B6 ⟨na,v⟩:=hg.h 0 _ rfl
 clear hg
 have hN : m1 = (r.length : Int):=V.G.row.n
 have hrl:=V.len
 refine ⟨by subst hD; exact ⟨rfl,by show (m1 + 1) * 32≤_; omega,by show m1 + 1≤_; omega⟩,fun f' n' hm=>?_⟩
 cbv
 have G2 : ∀ nl',nl' = false→GrH f' n' nl' (r ++ [⟨na,v⟩]):=fun nl' hb=>V.G.more hg0 ⟨by have:=hnl.len; show na.length≤_; omega,by have:=hvs.len; show v.length≤_; omega⟩ (by subst hD; exact hm) (by omega) hb
 clear hm hN
 refine ⟨m0,Nat.lt_succ_self _,?_⟩
 rw [hJ]
 unfold hpJ
 subst hD
 exact ⟨p + q + 1,_,r ++ [⟨na,v⟩],f',n',(c1 && false),rfl,rfl,⟨by show IntKind.i64.wrap (P + IntKind.i64.wrap (e + 1)) = _; rw [hw2,VP.h,VE.h]; omega,by omega,by omega,by have:=V.lt; omega,hk,G2 _ (Bool.and_false _),by rw [List.length_append]; simp only [List.length_cons,List.length_nil]; omega⟩⟩
end Go.Proofs.YtefelnhpfdcleaaGreatDoor
namespace Go.Proofs.YtefelnhpfdcleaaGreatDoor
open Go Go.Sx
set_option maxRecDepth 100000
set_option maxHeartbeats 16000000
def Ed (l : List HF) : Bool:=l.any fun x=>I4 (Ao x.name)
def A1 (r : Rq) : List HF×Int :=
 if A7 r.fields≠0 then ([],A7 r.fields) else if Ed r.fields then ([],8) else
 if (Ai r).2≠0 then ([],(Ai r).2) else ((Ai r).1,A7 (Ai r).1)
def spChk : FSpec:=fun _ xs ls K=>∃ (r : Rq) (nl : Bool) (n : Int) (f : Nat→List SV),xs = [.agg [.int .i64 (.a r.id),.str r.method,.str r.target,.str r.host,.sl (.a nl) (.a n) 2 f,.str r.body]]∧ls = []∧Gd r nl n f∧
 ∀ l e nb n' g,(l,e) = A1 r→A9 g n' l→nb = l.isEmpty→K (.tup [.sl (.a nb) (.a n') 2 g,.int .i64 (.a e)]) []
structure OwJ (l : List HF) (k : Bool) (i : Nat) (I : Int) (m : Nat) : Prop where
 lie : AtR l i I m
 k : k = Ed (l.drop i)
theorem Sv (r : Rq) (h : (Ai r).2 = 0) : (Ai r).1.isEmpty = false:=by
 unfold Ai at h ⊢
 split
 ·rename_i h1; rw [if_pos h1] at h; exact absurd h h1
 ·rfl
theorem itoaS (n : Int) (h1 : -9223372036854775808≤n) (h2 : n≤9223372036854775807) (a : List UInt8) (ha : a.length≤100) : HF.small ⟨a,Lib.itoa n⟩:=⟨by show a.length≤_; omega,Mx h1 h2⟩
theorem Ku {r : Rq} {nl : Bool} {n : Int} {f : Nat→List SV} (R : Gd r nl n f) : ∃ g n',A9 g n' (Ai r).1:=by
 unfold Ai
 split
 ·exact Hr [] (by simp) (fun i hi=>absurd hi (by simp))
 ·rename_i h1
  have h1 : (Bm r.fields).2 = 0:=by simpa using h1
  have h2:=Ig _ h1
  refine Hr _ ?_ (Es (Es (fun i hi=>?_) (Kv R.row.small)) ?_)
  ·simp only [List.length_append]
   split<;>simp<;>omega
  ·match i,hi with
   | 0,_=>exact ⟨by show Fh.length≤_; decide,R.host⟩
   | 1,_=>exact itoaS _ R.id1 R.id2 _ (by decide)
  ·split
   ·intro i hi
    have : i = 0:=by simpa using hi
    subst this; exact itoaS _ (by omega) (by have:=R.body; omega) _ (by decide)
   ·intro i hi; simp at hi
theorem D8 : A9 (fun _=>[]) 0 []:=⟨rfl,fun i hi=>absurd hi (by simp),by simp,fun i hi=>absurd hi (by simp)⟩
def owJ (r : Rq) (k : Bool) (nl : Bool) (n : Int) (f : Nat→List SV) (m : Nat) (vs : List (Option SV)) (hp : List Hl) : Prop :=
 ∃ (i : Nat) (I : Int),vs = [some (.ptr 0 0),some (.sl (.a nl) (.a n) 2 f),some (.int .i64 (.a n)),some (.int .i64 (.a I))]∧hp = [.blk 31 [.int .i64 (.a r.id),.str r.method,.str r.target,.str r.host,.sl (.a nl) (.a n) 2 f,.str r.body]]∧OwJ r.fields k i I m
theorem chk_ok : Ar Tryz.prog gl 84 spChk:=by
 refine A4 (gh:=[]) mixed A0 (Aa Xf (Aa Al3 (Aa Aen Ae))) Tryz.func84 (by kernel_rfl) (by kernel_rfl) ?_
 intro xs ls K h
 unfold spChk at h
 obtain ⟨r,nl,n,f,rfl,rfl,R,h⟩:=h
 obtain ⟨k,hk⟩ : ∃ k,k = A1 r:=⟨_,rfl⟩
 obtain ⟨kl,ke⟩:=k
 have hg : ∃ g n',A9 g n' kl:=by
  unfold A1 at hk
  split at hk
  ·simp only [Prod.mk.injEq] at hk; rw [hk.1]; exact ⟨_,_,D8⟩
  ·split at hk
   ·simp only [Prod.mk.injEq] at hk; rw [hk.1]; exact ⟨_,_,D8⟩
   ·split at hk
    ·simp only [Prod.mk.injEq] at hk; rw [hk.1]; exact ⟨_,_,D8⟩
    ·simp only [Prod.mk.injEq] at hk; rw [hk.1]; exact Ku R
 obtain ⟨g,n2,R2⟩:=hg
 obtain ⟨nb,hnb⟩ : ∃ nb,nb = kl.isEmpty:=⟨_,rfl⟩
 refine ⟨_,_,h kl ke nb n2 g hk R2 hnb,fun D hD=>?_⟩
 clear h
 unfold A1 at hk
 obtain ⟨wl,hwl⟩ : ∃ w,w = Ai r:=⟨_,rfl⟩
 have hwn:=Sv r
 rw [←hwl] at hk hwn
 obtain ⟨wl,we⟩:=wl
 simp only at hk hwn
 obtain ⟨J,hJ⟩ : ∃ J,J = owJ r (Ed r.fields) nl n f:=⟨_,rfl⟩
 obtain ⟨ao,hao⟩ : ∃ a,a = Ed r.fields:=⟨_,rfl⟩
 rw [←hao] at hk hJ
 obtain ⟨id,me,ta,ho,fs,bo⟩:=r
 simp only at R hJ hao hk
 cbv
 refine ⟨fs,_,_,f,rfl,rfl,by subst hD; exact R.row,fun e he=>?_⟩
 cbv
 rw [←he] at hk
 clear he
 refine br hD (fun h=>?_) (fun h=>?_)<;>cbv
 ·have h1 : e≠0:=by simpa using h
  rw [if_pos h1] at hk
  simp only [Prod.mk.injEq] at hk
  obtain ⟨hq1,hq2⟩:=hk
  subst hq1 hq2
  exact Ls hD (by rw [hnb]; rfl) D8 rfl rfl R2
 have h1 : e = 0:=by simpa using h
 rw [if_neg (by simp [h1])] at hk
 clear h h1
 refine ⟨[1,16,17,18],J,⟨rfl,fs.length,?_⟩,?_⟩
 ·rw [hJ]
  subst hD
  exact ⟨0,0,rfl,rfl,AtR.zero R.row.len,hao⟩
 clear hao
 intro m vs hp hj
 rw [hJ] at hj
 obtain ⟨i,I,rfl,rfl,V⟩:=hj
 simp only at V
 cbv
 refine br hD (fun h=>?_) (fun h=>?_)<;>cbv
 ·have hlt:=V.lie.lt R.row.n (of_decide_eq_true (p:=I < n) h)
  clear h
  refine ⟨V.lie.inB hD R.row.n hlt,fun j hj=>?_⟩
  cbv
  obtain rfl:=V.lie.j hD hj
  clear hj
  have e1:=R.row.f j hlt
  have hsm:=R.row.small j hlt
  have hk2:=V.k
  rw [Qv (d:=default) hlt] at hk2
  obtain ⟨x,hx⟩ : ∃ x,x = fs.getD j default:=⟨_,rfl⟩
  rw [←hx] at e1 hk2 hsm
  obtain ⟨a,b⟩:=x
  rw [e1]
  cbv
  refine ⟨a,rfl,rfl,hsm.1,fun t ht=>?_⟩
  cbv
  have ht : t = I4 (Ao a):=ht
  have hk3 : ao = (t || Ed (fs.drop (j + 1))):=by rw [hk2,ht]; rfl
  clear ht hk2
  refine br hD (fun h=>?_) (fun h=>?_)<;>cbv
  ·have h1 : t = true:=h
   have hk4 : ao = true:=by rw [hk3,h1]; rfl
   rw [if_pos hk4] at hk
   simp only [Prod.mk.injEq] at hk
   obtain ⟨hq1,hq2⟩:=hk
   subst hq1 hq2
   exact Ls hD (by rw [hnb]; rfl) D8 rfl rfl R2
  ·have h1 : t = false:=h
   obtain ⟨g1,g2⟩:=V.lie.step hD hlt
   refine ⟨_,g1,?_⟩
   rw [hJ]
   unfold owJ
   subst hD
   exact ⟨j + 1,_,rfl,rfl,g2,by rw [hk3,h1]; rfl⟩
 ·have hi:=V.lie.eq R.row.n (of_decide_eq_false (p:=I < n) h)
  have hk2:=V.k
  rw [hi,List.drop_length] at hk2
  have hk3 : ao = false:=hk2
  rw [if_neg (by rw [hk3]; simp)] at hk
  clear h hk2
  refine ⟨⟨id,me,ta,ho,fs,bo⟩,nl,n,f,by subst hD; rfl,rfl,R,fun l e2 nb2 n3 g3 hw R3 hnb2=>?_⟩
  cbv
  rw [←hwl] at hw
  simp only [Prod.mk.injEq] at hw
  obtain ⟨hq1,hq2⟩:=hw
  subst hq1 hq2
  refine br hD (fun h=>?_) (fun h=>?_)<;>cbv
  ·have h1 : e2≠0:=by simpa using h
   rw [if_pos h1] at hk
   simp only [Prod.mk.injEq] at hk
   obtain ⟨hq1,hq2⟩:=hk
   subst hq1 hq2
   exact Ls hD (by rw [hnb]; rfl) D8 rfl rfl R2
  ·have h1 : e2 = 0:=by simpa using h
   rw [if_neg (by simp [h1])] at hk
   have hne:=hwn h1
   refine ⟨l,_,_,g3,rfl,rfl,by subst hD; exact R3,fun c hc=>?_⟩
   cbv
   rw [←hc] at hk
   clear hc
   simp only [Prod.mk.injEq] at hk
   obtain ⟨hq1,hq2⟩:=hk
   subst hq1 hq2
   refine Ls hD ?_ R3 rfl rfl R2
   rw [hnb,hne,hnb2,h1]; rfl
end Go.Proofs.YtefelnhpfdcleaaGreatDoor
namespace Go.Proofs.YtefelnhpfdcleaaGreatDoor
open Go Go.Sx
set_option maxRecDepth 100000
set_option maxHeartbeats 16000000
def Av (r : Rq) : List UInt8×List HF×Int :=
 if r.id < 1∨1000000000 < r.id then (sId,[],7) else if !C8 r.method then (Ag0,[],6) else if r.method = sConnect then (Ag0,[],9) else
 if (Lx r.target).2≠0 then (sTarget,[],(Lx r.target).2) else if !Oc r.host then (sHostP,[],6) else
 if (A1 r).2≠0 then (sFields,[],(A1 r).2) else if 65536 < r.body.length then (sBody,[],3) else if (r.body != [] && I3 r.method) = true then (sBody,[],2) else ([],(A1 r).1,0)
def spExam : FSpec:=fun _ xs ls K=>∃ (r : Rq) (nl : Bool) (n : Int) (f : Nat→List SV),xs = [.agg [.int .i64 (.a r.id),.str r.method,.str r.target,.str r.host,.sl (.a nl) (.a n) 2 f,.str r.body]]∧ls = []∧Gd r nl n f∧
 ∀ p l e nb n' g,(p,l,e) = Av r→A9 g n' l→nb = l.isEmpty→K (.tup [.str p,.sl (.a nb) (.a n') 2 g,.int .i64 (.a e)]) []
theorem Qs {D : Dn} (hD : D = dn) {p p' : List UInt8} {nb : Bool} {n n2 e : Int} {g g2 : Nat→List SV} {x : BT} {y z : ST} {l : List HF} (hp : p' = p) (h1 : x.den = nb) (R : A9 g2 n2 l) (h2 : y.den = n2) (h3 : z.den = e) (R2 : A9 g n l) :
  Fin (.tup [.str p',.sl (.a (D.b x)) (.a (D.i y)) 2 g2,.int .i64 (.a (D.i z))]) (.tup [.str p,.sl (.a nb) (.a n) 2 g,.int .i64 (.a e)]) [] []:=by
 subst hD h1 h3 hp
 have hn : n2 = n:=by rw [R.n,R2.n]
 refine D6 (LeV.tup (LeL.cons (LeV.refl _) (LeL.cons (LeV.sl rfl (by show y.den = n; rw [h2,hn]) fun i hi=>?_) (LeL.refl _))))
 have hi : (i : Int) < y.den:=hi
 have:=R.n
 rw [R.f i (by omega),R2.f i (by omega)]
theorem Xe {r : Rq} {nl : Bool} {n : Int} {f : Nat→List SV} (R : Gd r nl n f) : ∃ g n',A9 g n' (A1 r).1:=by
 unfold A1
 split
 ·exact ⟨_,_,D8⟩
 ·split
  ·exact ⟨_,_,D8⟩
  ·split
   ·exact ⟨_,_,D8⟩
   ·exact Ku R
theorem Ahv : Ar Tryz.prog gl 43 spExam:=by
 refine A4 (gh:=[]) mixed A0 (Aa Ade (Aa Y6 (Aa Ajk (Aa chk_ok (Aa Zg Ae))))) Tryz.func43 (by kernel_rfl) (by kernel_rfl) ?_
 intro xs ls K h
 unfold spExam at h
 obtain ⟨r,nl,n,f,rfl,rfl,R,h⟩:=h
 obtain ⟨k,hk⟩ : ∃ k,k = Av r:=⟨_,rfl⟩
 obtain ⟨kp,kl,ke⟩:=k
 have hg : ∃ g n',A9 g n' kl:=by
  unfold Av at hk
  repeat' split at hk
  all_goals (simp only [Prod.mk.injEq] at hk; rw [hk.2.1])
  all_goals first | exact ⟨_,_,D8⟩ | exact Xe R
 obtain ⟨g,n2,R2⟩:=hg
 obtain ⟨nb,hnb⟩ : ∃ nb,nb = kl.isEmpty:=⟨_,rfl⟩
 refine ⟨_,_,h kp kl ke nb n2 g hk R2 hnb,fun D hD=>?_⟩
 clear h
 unfold Av at hk
 obtain ⟨ck,hck⟩ : ∃ w,w = A1 r:=⟨_,rfl⟩
 rw [←hck] at hk
 obtain ⟨cl,ce⟩:=ck
 obtain ⟨id,me,ta,ho,fs,bo⟩:=r
 have Rme:=R.method
 have Rta:=R.target
 have Rho:=R.host
 simp only at hk Rme Rta Rho
 cbv
 refine br hD (fun h=>?_) (fun h=>?_)<;>cbv
 ·have h1 : id < 1∨1000000000 < id:=by
   have h : (decide (id < 1) || decide (1000000000 < id)) = true:=h
   simpa using h
  rw [if_pos h1] at hk
  simp only [Prod.mk.injEq] at hk
  obtain ⟨hq1,hq2,hq3⟩:=hk
  subst hq1 hq2 hq3
  exact Qs hD rfl (by rw [hnb]; rfl) D8 rfl rfl R2
 have h1 : ¬ (id < 1∨1000000000 < id):=by
  have h : (decide (id < 1) || decide (1000000000 < id)) = false:=h
  simp only [Bool.or_eq_false_iff,decide_eq_false_iff_not] at h
  omega
 rw [if_neg h1] at hk
 clear h h1
 refine ⟨me,rfl,rfl,Rme,fun im him=>?_⟩
 cbv
 rw [←him] at hk
 clear him
 refine br hD (fun h=>?_) (fun h=>?_)<;>cbv
 ·have h1 : (!im) = true:=h
  rw [if_pos h1] at hk
  simp only [Prod.mk.injEq] at hk
  obtain ⟨hq1,hq2,hq3⟩:=hk
  subst hq1 hq2 hq3
  exact Qs hD rfl (by rw [hnb]; rfl) D8 rfl rfl R2
 have h1 : (!im) = false:=h
 rw [if_neg (by rw [h1]; simp)] at hk
 clear h h1
 refine br hD (fun h=>?_) (fun h=>?_)<;>cbv
 ·have h1 : me = sConnect:=eq_of_beq (show (me == sConnect) = true from h)
  rw [if_pos h1] at hk
  simp only [Prod.mk.injEq] at hk
  obtain ⟨hq1,hq2,hq3⟩:=hk
  subst hq1 hq2 hq3
  exact Qs hD rfl (by rw [hnb]; rfl) D8 rfl rfl R2
 have h1 : ¬ me = sConnect:=by
  have h : (me == sConnect) = false:=h
  intro e; rw [e] at h; simp at h
 rw [if_neg h1] at hk
 clear h h1
 refine ⟨ta,rfl,rfl,Rta,fun oi oe ho2=>?_⟩
 cbv
 rw [←ho2] at hk
 simp only at hk
 clear ho2
 refine br hD (fun h=>?_) (fun h=>?_)<;>cbv
 ·have h1 : oe≠0:=by simpa using h
  rw [if_pos h1] at hk
  simp only [Prod.mk.injEq] at hk
  obtain ⟨hq1,hq2,hq3⟩:=hk
  subst hq1 hq2 hq3
  exact Qs hD rfl (by rw [hnb]; rfl) D8 rfl rfl R2
 have h1 : ¬ oe≠0:=by simpa using h
 rw [if_neg h1] at hk
 clear h h1
 refine ⟨ho,rfl,rfl,Rho,fun hh hhh=>?_⟩
 cbv
 rw [←hhh] at hk
 clear hhh
 refine br hD (fun h=>?_) (fun h=>?_)<;>cbv
 ·have h1 : (!hh) = true:=h
  rw [if_pos h1] at hk
  simp only [Prod.mk.injEq] at hk
  obtain ⟨hq1,hq2,hq3⟩:=hk
  subst hq1 hq2 hq3
  exact Qs hD rfl (by rw [hnb]; rfl) D8 rfl rfl R2
 have h1 : (!hh) = false:=h
 rw [if_neg (by rw [h1]; simp)] at hk
 clear h h1
 refine ⟨⟨id,me,ta,ho,fs,bo⟩,nl,n,f,by subst hD; rfl,rfl,R,fun l e nb2 n3 g3 hc R3 hnb2=>?_⟩
 cbv
 rw [←hck] at hc
 simp only [Prod.mk.injEq] at hc
 obtain ⟨hq1,hq2⟩:=hc
 subst hq1 hq2
 refine br hD (fun h=>?_) (fun h=>?_)<;>cbv
 ·have h1 : e≠0:=by simpa using h
  rw [if_pos h1] at hk
  simp only [Prod.mk.injEq] at hk
  obtain ⟨hq1,hq2,hq3⟩:=hk
  subst hq1 hq2 hq3
  exact Qs hD rfl (by rw [hnb]; rfl) D8 rfl rfl R2
 have h1 : ¬ e≠0:=by simpa using h
 rw [if_neg h1] at hk
 clear h h1
 refine br hD (fun h=>?_) (fun h=>?_)<;>cbv
 ·have h1 : 65536 < bo.length:=by have h : decide ((65536 : Int) < (bo.length : Int)) = true:=h; simp only [decide_eq_true_eq] at h; omega
  rw [if_pos h1] at hk
  simp only [Prod.mk.injEq] at hk
  obtain ⟨hq1,hq2,hq3⟩:=hk
  subst hq1 hq2 hq3
  exact Qs hD rfl (by rw [hnb]; rfl) D8 rfl rfl R2
 have h1 : ¬ 65536 < bo.length:=by have h : decide ((65536 : Int) < (bo.length : Int)) = false:=h; simp only [decide_eq_false_iff_not] at h; omega
 rw [if_neg h1] at hk
 clear h h1
 refine ⟨me,rfl,rfl,Rme,fun b hb=>?_⟩
 cbv
 rw [←hb] at hk
 clear hb
 refine br hD (fun h=>?_) (fun h=>?_)<;>cbv
 ·have h1 : (bo != [] && b) = true:=h
  rw [if_pos h1] at hk
  simp only [Prod.mk.injEq] at hk
  obtain ⟨hq1,hq2,hq3⟩:=hk
  subst hq1 hq2 hq3
  exact Qs hD rfl (by rw [hnb]; rfl) D8 rfl rfl R2
 ·have h1 : ¬ (bo != [] && b) = true:=by
   have h : (bo != [] && b) = false:=h
   rw [h]; simp
  rw [if_neg h1] at hk
  simp only [Prod.mk.injEq] at hk
  obtain ⟨hq1,hq2,hq3⟩:=hk
  subst hq1 hq2 hq3
  exact Qs hD rfl (by rw [hnb,←hnb2]; rfl) R3 rfl rfl R2
def Dc (r : Rq) : List UInt8×Int:=((Av r).1,(Av r).2.2)
def spCheckR : FSpec:=fun _ xs ls K=>∃ (r : Rq) (nl : Bool) (n : Int) (f : Nat→List SV),xs = [.agg [.int .i64 (.a r.id),.str r.method,.str r.target,.str r.host,.sl (.a nl) (.a n) 2 f,.str r.body]]∧ls = []∧Gd r nl n f∧
 ∀ p e,(p,e) = Dc r→K (.tup [.str p,.int .i64 (.a e)]) []
theorem Z6 : Ar Tryz.prog gl 27 spCheckR:=by
 refine A4 (gh:=[]) mixed A0 (Aa Ahv Ae) Tryz.func27 (by kernel_rfl) (by kernel_rfl) ?_
 intro xs ls K h
 unfold spCheckR at h
 obtain ⟨r,nl,n,f,rfl,rfl,R,h⟩:=h
 obtain ⟨k,hk⟩ : ∃ k,k = Dc r:=⟨_,rfl⟩
 obtain ⟨kp,ke⟩:=k
 refine ⟨_,_,h kp ke hk,fun D hD=>?_⟩
 clear h
 unfold Dc at hk
 obtain ⟨ck,hck⟩ : ∃ w,w = Av r:=⟨_,rfl⟩
 rw [←hck] at hk
 obtain ⟨cp,cl,ce⟩:=ck
 obtain ⟨id,me,ta,ho,fs,bo⟩:=r
 simp only [Prod.mk.injEq] at hk
 obtain ⟨hq1,hq2⟩:=hk
 subst hq1 hq2
 cbv
 refine ⟨⟨id,me,ta,ho,fs,bo⟩,nl,n,f,by subst hD; rfl,rfl,R,fun p l e nb2 n3 g3 hc R3 hnb2=>?_⟩
 cbv
 rw [←hck] at hc
 simp only [Prod.mk.injEq] at hc
 obtain ⟨hq1,hq2,hq3⟩:=hc
 subst hq1 hq2 hq3
 subst hD
 exact B7 rfl rfl
end Go.Proofs.YtefelnhpfdcleaaGreatDoor
