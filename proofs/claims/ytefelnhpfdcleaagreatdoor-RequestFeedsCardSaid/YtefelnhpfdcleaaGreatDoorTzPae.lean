/- Part of the proofs of the statements about requests (layer 7): a symbolic executor over the code, that it is sound, and contracts of functions; it has no conditions of its own. -/
import Derived.Test.YtefelnhpfdcleaaGreatDoorTzPac
import Derived.Test.YtefelnhpfdcleaaGreatDoorTzPad
import Derived.Test.YtefelnhpfdcleaaGreatDoorSzPbf
import Derived.Test.YtefelnhpfdcleaaGreatDoorSzPbg
namespace Go.Proofs.YtefelnhpfdcleaaGreatDoor
open Go Go.Sx
set_option maxRecDepth 100000
set_option maxHeartbeats 8000000
def Yn (f : Nat→List SV) (b : List UInt8) : Prop:=∀ j,f j = [.int .u8 (.a ((b.getD j 0).toNat : Int))]
def spHParseR : FSpec:=fun _ xs ls K=>∃ (b : List UInt8) (nl : Bool) (n : Int) (f : Nat→List SV),xs = [.sl (.a nl) (.a n) 1 f]∧ls = []∧Bn f n b∧Yn f b∧b.length≤1000000∧
 ∀ l f1 n1 b1 k e,(l,k,e) = B5 b→GrH f1 n1 b1 l→K (.tup [.sl (.a b1) (.a n1) 2 f1,.int .i64 (.a k),.int .i64 (.a e)]) []
structure HrJ (b : List UInt8) (k : List HF×Int×Int) (p i : Nat) (P I : Int) (m : Nat) (r : List HF) (f1 : Nat→List SV) (n1 : Int) (b1 : Bool) : Prop where
 lie : At b i I m
 eP : P = p
 le : p≤i
 le2 : p≤8192
 no : Ox b p i
 k : k = hpG b (b.length - p + 1) p r
 G : GrH f1 n1 b1 r
 len : r.length≤100
def hrJ (b : List UInt8) (k : List HF×Int×Int) (nl : Bool) (n : Int) (f : Nat→List SV) (m : Nat) (vs : List (Option SV)) (hp : List Hl) : Prop :=
 ∃ (p i : Nat) (P I : Int) (r : List HF) (f1 : Nat→List SV) (n1 : Int) (b1 : Bool),vs = [some (.sl (.a nl) (.a n) 1 f),some (.gsl (.a b1) (.a n1) 2 f1 0),some (.int .i64 (.a P)),some (.int .i64 (.a I))]∧hp = [.tail 69 (.a n1) 2]∧HrJ b k p i P I m r f1 n1 b1
theorem Adh (b : List UInt8) : ∀ (m m' p : Nat) (r : List HF),p≤b.length→b.length - p < m→b.length - p < m'→hpG b m p r = hpG b m' p r
 | 0,_,_,_,_,h,_=>by omega
 | _ + 1,0,_,_,_,_,h=>by omega
 | m + 1,m' + 1,p,r,hp,h,h'=>by
  have hi:=Ke (s:=b.drop p) (c:=10)
  rw [List.length_drop] at hi
  unfold hpG
  split
  ·rfl
  split
  ·rfl
  rename_i hn
  have:=hi.2 (by omega)
  split
  ·rfl
  split
  ·rfl
  split
  ·rfl
  split
  ·rfl
  exact Adh b m m' _ _ (by omega) (by omega) (by omega)
structure NilI (s : List UInt8) (j p : Nat) : Prop where
 h : s = []↔j = p + 1
theorem Afd {s : List UInt8} {n : Nat} (h : s.length≤n) : (Do s).1.name.length≤n∧(Do s).1.value.length≤n:=by
 unfold Do
 have hc:=Ib 58 s
 split
 ·simp
 ·exact ⟨by show (Ah 58 s).1.length≤n; omega,by show (trimF (Ah 58 s).2.1).length≤n; have:=Yp (Ah 58 s).2.1; omega⟩
structure CrB (g cr : Bool) : Prop where
 h : g = cr
theorem Ak2 (s : List UInt8) : Ep 13 s = decide (0≤Lib.indexByte s 13):=by
 unfold Ep
 induction s with
 | nil=>rfl
 | cons b r ih =>
  have hlo:=(Ke (s:=r) (c:=13)).1
  unfold Lib.indexByte
  rw [List.any_cons,ih]
  by_cases hb : b = 13
  ·subst hb; rfl
  ·have h1 : ((b.toNat : Int) == 13) = false:=by
    rw [beq_eq_false_iff_ne]
    intro e
    exact hb (UInt8.toNat_inj.1 (by show b.toNat = 13; omega))
   rw [h1,if_neg (by simpa using hb),Bool.false_or]
   by_cases h2 : Lib.indexByte r 13 < 0
   ·have h3 : Lib.indexByte r 13 = -1:=by omega
    rw [h3]; rfl
   ·rw [if_neg (by simp; omega),decide_eq_decide]; omega
theorem Af7 : Ar Tryz.prog gl 58 spHParseR:=by
 refine A4 (gh:=[(1,[.attach 5 69])]) mixed A0 (Aa Ae8 (Aa read_ok Ae)) Tryz.func58 (by kernel_rfl) (by kernel_rfl) ?_
 intro xs ls K h
 unfold spHParseR at h
 obtain ⟨b,nl,n,f,rfl,rfl,R,hT,hb,h⟩:=h
 obtain ⟨k,hk⟩ : ∃ k,k = B5 b:=⟨_,rfl⟩
 have hS:=Ia (b.length + 1) 0 [] b hb (by simp) (fun x hx=>by cases hx)
 have hk0 : k = hpG b (b.length + 1) 0 []:=hk
 rw [←hk0] at hS
 obtain ⟨kl,kk,ke⟩:=k
 have hG : ∃ f1 n1 b1,GrH f1 n1 b1 kl:=⟨_,_,_,⟨A9.row (by have:=hS.1; simp only at this; omega) (fun i hi=>hS.2 _ (by rw [List.getD_eq_getElem?_getD,List.getElem?_eq_getElem hi]; exact List.getElem_mem hi)),rfl⟩⟩
 obtain ⟨f1,n1,b1,hG⟩:=hG
 clear hS
 refine ⟨_,_,h kl f1 n1 b1 kk ke hk hG,fun D hD=>?_⟩
 cbv
 clear h hk
 have HN : VI n b.length:=⟨R.n⟩
 have HB : Nc b 1000000:=⟨hb⟩
 clear hb
 obtain ⟨J,hJ⟩ : ∃ J,J = hrJ b (kl,kk,ke) nl n f:=⟨_,rfl⟩
 refine ⟨[0,5,6,7],J,⟨rfl,b.length,?_⟩,?_⟩
 ·rw [hJ]
  subst hD
  exact ⟨0,0,0,0,[],_,_,_,rfl,rfl,⟨At.zero (by have:=HB.h; omega),rfl,by omega,by omega,Y9 b 0,hk0,GrH.nil,by simp⟩⟩
 clear hk0
 intro m vs hp hv
 rw [hJ] at hv
 unfold hrJ at hv
 obtain ⟨p,i,P,I,r,e1,m1,c1,rfl,rfl,V⟩:=hv
 cbv
 have VP : VI P p:=⟨V.eP⟩
 have VI1 : VI I i:=⟨V.lie.I⟩
 have hk:=V.k
 refine br hD (fun h=>?_) (fun h=>?_)<;>cbv
 ·have h : decide (I < n) = true:=h
  have hlt : i < b.length:=by have:=of_decide_eq_true h; have:=VI1.h; have:=HN.h; omega
  clear h
  refine ⟨by subst hD; exact ⟨by show 0≤I; rw [VI1.h]; omega,by show I < n; rw [VI1.h,HN.h]; omega⟩,fun j hj=>?_⟩
  cbv
  have hj : j = i:=by subst hD; have h:=hj.h; have : (j : Int) = I:=h; have:=VI1.h; omega
  subst hj
  obtain ⟨c,hfj,hcb⟩ : ∃ c : Int,f j = [.int .u8 (.a c)]∧CB c (b.getD j 0):=⟨_,hT j,⟨rfl⟩⟩
  rw [hfj]
  cbv
  clear hfj
  have hst:=V.lie.step hD hlt
  refine br hD (fun h=>?_) (fun h=>?_)<;>cbv
  ·have h : (c != 10) = true:=h
   have hne : b.getD j 0≠10:=fun e=>by
    rw [((Us hcb.h).1).2 e] at h
    exact absurd h (by decide)
   refine ⟨_,hst.1,?_⟩
   rw [hJ]
   unfold hrJ
   subst hD
   exact ⟨p,j + 1,P,_,r,e1,m1,c1,rfl,rfl,⟨hst.2,V.eP,by have:=V.le; omega,V.le2,Ai5 V.no hne,V.k,V.G,V.len⟩⟩
  have h : (c != 10) = false:=h
  have h10 : b.getD j 0 = 10:=((Us hcb.h).1).1 (by simpa using h)
  clear h hcb
  refine br hD (fun h=>?_) (fun h=>?_)<;>cbv
  ·have h : decide (8192≤I) = true:=h
   have h8 : 8192≤j:=by have:=of_decide_eq_true h; have:=VI1.h; omega
   rw [hp_far V.le hlt h10 V.no h8] at hk
   exact It hD hk GrH.nil hG rfl rfl
  have h : decide (8192≤I) = false:=h
  have h8 : j < 8192:=by have:=of_decide_eq_false h; have:=VI1.h; omega
  clear h
  have w1 : IntKind.i64.wrap (I - 1) = I - 1:=by have:=VI1.h; exact Am (by omega) (by omega)
  have heq : (I == P) = decide (j = p):=by rw [Bool.eq_iff_iff,beq_iff_eq,decide_eq_true_eq,VI1.h,VP.h]; omega
  refine ⟨fun hg=>?_,fun q hq=>?_⟩
  ·subst hD
   have hg : (!(I == P)) = true:=hg
   rw [heq] at hg
   have hg : j≠p:=by simpa using hg
   exact ⟨by show 0≤IntKind.i64.wrap (I - 1); rw [w1,VI1.h]; have:=V.le; omega,by show IntKind.i64.wrap (I - 1) < n; rw [w1,VI1.h,HN.h]; omega⟩
  cbv
  obtain ⟨d,hfq,hdb⟩ : ∃ d : Int,f q = [.int .u8 (.a d)]∧CB d (b.getD q 0):=⟨_,hT q,⟨rfl⟩⟩
  rw [hfq]
  cbv
  clear hfq
  obtain ⟨cr,hcr⟩ : ∃ cr,cr = (decide (j≠p) && (b.getD (j - 1) 0 == 13)):=⟨_,rfl⟩
  have hgr : ((I == P) || d != 13) = !cr:=by
   rw [heq,hcr]
   by_cases e : j = p
   ·simp [e]
   ·have hq2 : q = j - 1:=by
     have h1 : IsJ q (IntKind.i64.wrap (I - 1)):=by
      subst hD
      refine hq ?_
      show (!(I == P)) = true
      rw [heq]; simpa using e
     have:=h1.h; rw [w1] at this; have:=VI1.h; omega
    rw [hq2] at hdb
    have : (d != 13) = !(b.getD (j - 1) 0 == 13):=by
     have h3:=hdb.h
     rw [Bool.eq_iff_iff,bne_iff_ne,Bool.not_eq_true',beq_eq_false_iff_ne,ne_eq,ne_eq,Decidable.not_iff_not]
     constructor
     ·intro g; exact UInt8.toNat_inj.1 (by show (b.getD (j - 1) 0).toNat = 13; omega)
     ·intro g; rw [h3,g]; rfl
    rw [this]; simp [e]
  clear hq hdb
  have hL:=Abf (m:=b.length - p) V.le hlt h10 V.no h8 cr hcr (r:=r)
  have hcrp : cr = true→p < j:=fun e=>by
   rw [hcr,Bool.and_eq_true,decide_eq_true_eq] at e
   have:=V.le; have:=e.1; omega
  clear hcr
  have HG : CrB ((I == P) || d != 13) (!cr):=⟨hgr⟩
  clear hgr heq
  refine ⟨fun hg=>?_,fun f3 n3 hsub=>?_⟩
  ·subst hD
   have hg : (!((I == P) || d != 13)) = true:=hg
   rw [HG.h] at hg
   have:=hcrp (by simpa using hg)
   exact ⟨by show (0 : Int)≤P; rw [VP.h]; omega,by show P≤IntKind.i64.wrap (I - 1); rw [w1,VP.h,VI1.h]; omega,by show IntKind.i64.wrap (I - 1)≤n; rw [w1,VI1.h,HN.h]; omega⟩
  cbv
  have hgP : cr = true→Bn f3 n3 ((b.drop p).take (j - 1 - p)):=fun e=>by
   have:=R.sub (a:=p) (b:=j - 1) hsub (by subst hD; exact VP.h) (by subst hD; show IntKind.i64.wrap (I - 1) = _; rw [w1,VI1.h]; have:=hcrp e; omega) (by have:=hcrp e; omega) (by omega)
   exact this
  have hn3 : n3≤1000000:=by
   have:=hsub.len
   subst hD
   have : n3 = IntKind.i64.wrap (I - 1) - P:=this
   rw [w1,VI1.h,VP.h] at this
   have:=HB.h; omega
  clear hsub
  refine ⟨fun hg=>?_,fun s hle hs=>?_⟩
  ·have hg : (!((I == P) || d != 13)) = true:=by subst hD; exact hg
   rw [HG.h] at hg
   have h9:=(hgP (by simpa using hg)).byte
   subst hD
   exact h9
  cbv
  have hse : cr = true→s = (b.drop p).take (j - 1 - p):=fun e=>by
   have h8 : (!((I == P) || d != 13)) = true:=by rw [HG.h,e]; rfl
   have h9 : Li s n3 f3:=by subst hD; exact hs h8
   exact (hgP e).str h9
  have hsl : s.length≤1000000:=by
   rcases hle.h with h | h
   ·have h : (s.length : Int)≤n3:=by subst hD; exact h
    omega
   ·rw [h]; simp
  clear hs hle hgP hn3
  refine ⟨s,rfl,rfl,by omega,fun rt hrt=>?_⟩
  cbv
  rw [Ak2] at hrt
  refine br hD (fun h=>?_) (fun h=>?_)<;>cbv
  ·have h : (((I == P) || d != 13) || rt) = true:=h
   rw [HG.h] at h
   cases cr with
   | false =>
    rw [hL.1 rfl] at hk
    exact It hD hk GrH.nil hG rfl rfl
   | true =>
    have h : rt = true:=by simpa using h
    rw [hL.2 rfl,←hse rfl] at hk
    unfold hpL at hk
    rw [if_pos (by rw [←hrt,h]; rfl)] at hk
    exact It hD hk GrH.nil hG rfl rfl
  have h : (((I == P) || d != 13) || rt) = false:=h
  rw [HG.h] at h
  have hc1 : cr = true:=by
   cases cr with
   | true=>rfl
   | false=>simp at h
  have hr0 : rt = false:=by rw [hc1] at h; simpa using h
  rw [hL.2 hc1,←hse hc1] at hk
  have hse:=hse hc1
  have hpj:=hcrp hc1
  clear h hL hcrp HG
  unfold hpL at hk
  rw [if_neg (by rw [←hrt,hr0]; simp)] at hk
  clear hrt hr0 hc1
  have hw2 : IntKind.i64.wrap (I + 1) = I + 1:=by have:=VI1.h; have:=HB.h; exact Am (by omega) (by omega)
  have hw3 : IntKind.i64.wrap (P + 1) = P + 1:=by have:=VP.h; have:=HB.h; exact Am (by omega) (by omega)
  have hnil : s = []↔j = p + 1:=by
   have hlen : s.length = j - 1 - p:=by rw [hse,List.length_take,List.length_drop]; omega
   constructor
   ·intro e; rw [e] at hlen; simp at hlen; omega
   ·intro e; exact List.eq_nil_of_length_eq_zero (by omega)
  have NI : NilI s j p:=⟨hnil⟩
  clear hnil
  refine br hD (fun h=>?_) (fun h=>?_)<;>cbv
  ·have h : (I == IntKind.i64.wrap (P + 1)) = true:=h
   rw [hw3] at h
   have h:=eq_of_beq h
   rw [if_pos (NI.h.2 (by have:=VI1.h; have:=VP.h; omega))] at hk
   refine It hD ?_ V.G hG rfl rfl
   rw [hk]
   show _ = (_,IntKind.i64.wrap (I + 1),_)
   rw [hw2,VI1.h]; rfl
  have h : (I == IntKind.i64.wrap (P + 1)) = false:=h
  rw [hw3] at h
  rw [if_neg (fun e=>by
   have:=NI.h.1 e
   have h1:=VI1.h; have h2:=VP.h
   have : I = P + 1:=by omega
   rw [this] at h; simp at h)] at hk
  clear h NI
  refine ⟨by subst hD; exact ⟨by show (0 : Int)≤P; rw [VP.h]; omega,by show P≤IntKind.i64.wrap (I - 1); rw [w1,VP.h,VI1.h]; omega,by show IntKind.i64.wrap (I - 1)≤n; rw [w1,VI1.h,HN.h]; omega⟩,fun f4 n4 hsub=>?_⟩
  cbv
  have R4 : Bn f4 n4 s:=by
   have:=R.sub (a:=p) (b:=j - 1) hsub (by subst hD; exact VP.h) (by subst hD; show IntKind.i64.wrap (I - 1) = _; rw [w1,VI1.h]; omega) (by omega) (by omega)
   rw [hse]; exact this
  clear hsub hse
  refine ⟨by subst hD; exact R4.byte,fun s2 hs2=>?_⟩
  cbv
  have hs2 : s2 = s:=by subst hD; exact R4.str hs2
  subst hs2
  clear R4
  obtain ⟨q2,hq2⟩ : ∃ q2,q2 = Do s2:=⟨_,rfl⟩
  rw [←hq2] at hk
  have hrs : ((Do s2).1.name.length≤1000000)∧(Do s2).1.value.length≤1000000:=Afd hsl
  rw [←hq2] at hrs
  obtain ⟨x,ok⟩:=q2
  obtain ⟨xn,xv⟩:=x
  simp only at hk hrs
  have HXN : Nc xn 1000000:=⟨hrs.1⟩
  have HXV : Nc xv 1000000:=⟨hrs.2⟩
  clear hrs
  refine ⟨s2,rfl,rfl,by omega,fun x2 ok2 hr2=>?_⟩
  cbv
  rw [←hq2] at hr2
  simp only [Prod.mk.injEq] at hr2
  obtain ⟨rfl,rfl⟩:=hr2
  clear hq2 hsl
  cbv
  refine br hD (fun h=>?_) (fun h=>?_)<;>cbv
  ·have h : (!ok2) = true:=h
   rw [if_pos h] at hk
   exact It hD hk GrH.nil hG rfl rfl
  have h : (!ok2) = false:=h
  rw [if_neg (by rw [h]; simp)] at hk
  clear h
  have hm1 : m1 = (r.length : Int):=V.G.row.n
  have hd2 : (m1 == 100) = decide (r.length = 100):=by rw [Bool.eq_iff_iff,beq_iff_eq,decide_eq_true_eq,hm1]; omega
  have hd1 : decide (2000 < (xv.length : Int)) = decide (2000 < xv.length):=by rw [decide_eq_decide]; omega
  refine br hD (fun h=>?_) (fun h=>?_)<;>cbv
  ·have h : (decide (2000 < (xv.length : Int)) || (m1 == 100)) = true:=h
   rw [hd1,hd2] at h
   rw [if_pos h] at hk
   exact It hD hk GrH.nil hG rfl rfl
  have h : (decide (2000 < (xv.length : Int)) || (m1 == 100)) = false:=h
  rw [hd1,hd2] at h
  rw [if_neg (by rw [h]; simp)] at hk
  have h5 : ¬ r.length = 100:=by
   simp only [Bool.or_eq_false_iff,decide_eq_false_iff_not] at h
   exact h.2
  clear h hd1 hd2 hm1
  intro g hg
  cbv
  have hg0 : g 0 = B6 ⟨xn,xv⟩:=hg.h 0 _ rfl
  clear hg
  have hN : m1 = (r.length : Int):=V.G.row.n
  have hrl:=V.len
  refine ⟨by subst hD; exact ⟨rfl,by show (m1 + 1) * 32≤_; omega,by show m1 + 1≤_; omega⟩,fun f' n' hm=>?_⟩
  cbv
  have G2 : ∀ nl',nl' = false→GrH f' n' nl' (r ++ [⟨xn,xv⟩]):=fun nl' hb=>V.G.more hg0 ⟨by have:=HXN.h; show xn.length≤_; omega,by have:=HXV.h; show xv.length≤_; omega⟩ (by subst hD; exact hm) (by omega) hb
  clear hm hN
  refine ⟨_,hst.1,?_⟩
  rw [hJ]
  unfold hrJ
  subst hD
  exact ⟨j + 1,j + 1,IntKind.i64.wrap (I + 1),_,r ++ [⟨xn,xv⟩],f',n',(c1 && false),rfl,rfl,⟨hst.2,by rw [hw2,VI1.h]; omega,by omega,by omega,Y9 b _,by rw [hk]; exact Adh b _ _ _ _ (by omega) (by omega) (by omega),G2 _ (Bool.and_false _),by rw [List.length_append]; simp only [List.length_cons,List.length_nil]; omega⟩⟩
 have h : decide (I < n) = false:=h
 have hi : i = b.length:=by have:=of_decide_eq_false h; have:=V.lie.le; have:=VI1.h; have:=HN.h; omega
 clear h
 rw [Abe V.le2 (by rw [←hi]; exact V.no)] at hk
 refine br hD (fun h=>?_) (fun h=>?_)<;>cbv
 ·have h : decide (8192 < n) = true:=h
  rw [if_pos (by have:=of_decide_eq_true h; have:=HN.h; omega)] at hk
  exact It hD hk GrH.nil hG rfl rfl
 ·have h : decide (8192 < n) = false:=h
  rw [if_neg (by have:=of_decide_eq_false h; have:=HN.h; omega)] at hk
  exact It hD hk GrH.nil hG rfl rfl
end Go.Proofs.YtefelnhpfdcleaaGreatDoor
namespace Go.Proofs.YtefelnhpfdcleaaGreatDoor
open Go Go.Sx
set_option maxRecDepth 100000
set_option maxHeartbeats 400000
theorem V1 : nHost≠nId∧nHost≠nLen∧nHost≠nTE∧nId≠nLen∧nId≠nTE∧nLen≠nTE:=by decide
theorem As (x : HF) (l : List HF) (t : List UInt8) : D4 (l ++ [x]) t = D4 l t ++ (if Ao x.name == t then [x.value] else []):=by
 unfold D4
 rw [List.filter_append,List.map_append]
 congr 1
 rw [List.filter_cons]
 split<;>simp
structure FrR (r : Fr) (l : List HF) : Prop where
 hosts : r.hosts = D4 l nHost
 ids : r.ids = D4 l nId
 lens : r.lens = D4 l nLen
 coded : r.coded = decide (0 < (D4 l nTE).length)
 rest : r.rest = l.filter fun x=>!I4 (Ao x.name)
theorem Cw (t : List UInt8) : I4 t = (t == nHost || t == nId || t == nLen || t == nTE):=by
 rw [Bool.or_assoc,Bool.or_assoc]; rfl
theorem Wx {r : Fr} {l : List HF} (x : HF) (h : FrR r l) : FrR (Cs r x) (l ++ [x]):=by
 obtain ⟨h1,h2,h3,h4,h5⟩:=h
 obtain ⟨n1,n2,n3,n4,n5,n6⟩:=V1
 unfold Cs
 by_cases e1 : Ao x.name = nHost
 ·rw [if_pos e1]
  refine ⟨?_,?_,?_,?_,?_⟩
  ·rw [As,if_pos (by rw [e1]; exact beq_self_eq_true _),←h1]
  ·rw [As,if_neg (by rw [e1]; simpa using n1),List.append_nil]; exact h2
  ·rw [As,if_neg (by rw [e1]; simpa using n2),List.append_nil]; exact h3
  ·rw [As,if_neg (by rw [e1]; simpa using n3),List.append_nil]; exact h4
  ·rw [List.filter_append,←h5,List.filter_cons,if_neg (by rw [Cw,e1]; simp)]; simp
 rw [if_neg e1]
 by_cases e2 : Ao x.name = nId
 ·rw [if_pos e2]
  refine ⟨?_,?_,?_,?_,?_⟩
  ·rw [As,if_neg (by simpa using e1),List.append_nil]; exact h1
  ·rw [As,if_pos (by rw [e2]; exact beq_self_eq_true _),←h2]
  ·rw [As,if_neg (by rw [e2]; simpa using n4),List.append_nil]; exact h3
  ·rw [As,if_neg (by rw [e2]; simpa using n5),List.append_nil]; exact h4
  ·rw [List.filter_append,←h5,List.filter_cons,if_neg (by rw [Cw,e2]; simp)]; simp
 rw [if_neg e2]
 by_cases e3 : Ao x.name = nLen
 ·rw [if_pos e3]
  refine ⟨?_,?_,?_,?_,?_⟩
  ·rw [As,if_neg (by simpa using e1),List.append_nil]; exact h1
  ·rw [As,if_neg (by simpa using e2),List.append_nil]; exact h2
  ·rw [As,if_pos (by rw [e3]; exact beq_self_eq_true _),←h3]
  ·rw [As,if_neg (by rw [e3]; simpa using n6),List.append_nil]; exact h4
  ·rw [List.filter_append,←h5,List.filter_cons,if_neg (by rw [Cw,e3]; simp)]; simp
 rw [if_neg e3]
 by_cases e4 : Ao x.name = nTE
 ·rw [if_pos e4]
  refine ⟨?_,?_,?_,?_,?_⟩
  ·rw [As,if_neg (by simpa using e1),List.append_nil]; exact h1
  ·rw [As,if_neg (by simpa using e2),List.append_nil]; exact h2
  ·rw [As,if_neg (by simpa using e3),List.append_nil]; exact h3
  ·rw [As,if_pos (by rw [e4]; exact beq_self_eq_true _)]
   simp
  ·rw [List.filter_append,←h5,List.filter_cons,if_neg (by rw [Cw,e4]; simp)]; simp
 rw [if_neg e4]
 refine ⟨?_,?_,?_,?_,?_⟩
 ·rw [As,if_neg (by simpa using e1),List.append_nil]; exact h1
 ·rw [As,if_neg (by simpa using e2),List.append_nil]; exact h2
 ·rw [As,if_neg (by simpa using e3),List.append_nil]; exact h3
 ·rw [As,if_neg (by simpa using e4),List.append_nil]; exact h4
 ·rw [List.filter_append,←h5,List.filter_cons,if_pos (by rw [Cw]; simp [e1,e2,e3,e4])]; simp
theorem M0 : ∀ (l l0 : List HF) (r : Fr),FrR r l0→FrR (l.foldl Cs r) (l0 ++ l)
 | [],l0,r,h=>by rw [List.append_nil]; exact h
 | x :: l,l0,r,h=>by
  have:=M0 l (l0 ++ [x]) _ (Wx x h)
  rw [List.append_assoc,List.singleton_append] at this
  exact this
theorem Ww (l : List HF) : FrR (D9 l) l:=by
 have:=M0 l [] ⟨[],[],[],false,[]⟩ ⟨rfl,rfl,rfl,rfl,rfl⟩
 rwa [List.nil_append] at this
theorem Vy : Bi [48] 65536 = (0,0):=by decide +kernel
end Go.Proofs.YtefelnhpfdcleaaGreatDoor
namespace Go.Proofs.YtefelnhpfdcleaaGreatDoor
open Go Go.Sx
set_option maxRecDepth 100000
set_option maxHeartbeats 8000000
end Go.Proofs.YtefelnhpfdcleaaGreatDoor
