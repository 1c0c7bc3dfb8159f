/- Part of the proofs of the statements about requests (layer 7): a symbolic executor over the code, that it is sound, and contracts of functions; it has no conditions of its own. -/
import Derived.Lib.Strings
import Derived.Lib.Slices
import Derived.Lib.Walk
import Derived.Lib.Builder
import Derived.Lib.AppendStr
import Derived.Lib.UnsafeStr
import Derived.WalkKit
import Derived.Laws.Externs
import Derived.Laws.IdiomCopy
import Derived.Test.YtefelnhpfdcleaaGreatDoorSzPbe
import Derived.Test.YtefelnhpfdcleaaGreatDoorSzPaz
namespace Go.Proofs.YtefelnhpfdcleaaGreatDoor
open Go Go.Sx
set_option maxRecDepth 100000
set_option maxHeartbeats 16000000
theorem Aho (b : List UInt8) : ∀ (m p : Nat) (r : List HF),p≤b.length→(∀ x∈r,x.value.length≤2000)→
  (∀ x∈(hpG b m p r).1,x.value.length≤2000)∧0≤(hpG b m p r).2.1∧(hpG b m p r).2.1≤b.length
 | 0,p,r,_,_=>⟨fun x hx=>by simp [hpG] at hx,by simp [hpG],by simp [hpG]⟩
 | m + 1,p,r,hp,hs=>by
  have h0 : ∀ z : Int,(∀ x∈(([],0,z) : List HF×Int×Int).1,x.value.length≤2000)∧0≤(([],0,z) : List HF×Int×Int).2.1∧(([],0,z) : List HF×Int×Int).2.1≤(b.length : Int):=fun z=>⟨fun x hx=>(nomatch hx),by simp,by simp⟩
  have hi:=Ke (s:=b.drop p) (c:=10)
  rw [List.length_drop] at hi
  unfold hpG
  split
  ·exact h0 _
  split
  ·exact h0 _
  rename_i hn
  have hi2:=hi.2 (by omega)
  split
  ·exact h0 _
  split
  ·exact ⟨hs,by show 0≤(p : Int) + _ + 1; omega,by show (p : Int) + _ + 1≤_; omega⟩
  split
  ·exact h0 _
  split
  ·exact h0 _
  rename_i h
  simp only [Bool.or_eq_true,decide_eq_true_eq,not_or] at h
  obtain ⟨h1,h2⟩:=h
  refine Aho b m _ _ (by omega) fun x hx=>?_
  rcases List.mem_append.1 hx with hx | hx
  ·exact hs x hx
  ·have hx:=List.mem_singleton.1 hx
   subst hx
   show (trimF _).length≤_
   omega
theorem O3 (b : List UInt8) : (∀ x∈(B5 b).1,x.value.length≤2000)∧0≤(B5 b).2.1∧(B5 b).2.1≤b.length:=Aho b _ 0 [] (by omega) (fun x hx=>by cases hx)
structure FrSm (r : Fr) : Prop where
 hosts : ∀ s∈r.hosts,s.length≤2000
 ids : ∀ s∈r.ids,s.length≤2000
 lens : ∀ s∈r.lens,s.length≤2000
theorem Zp : ∀ (l : List HF) (r : Fr),(∀ x∈l,x.value.length≤2000)→FrSm r→FrSm (l.foldl Cs r)
 | [],_,_,h=>h
 | x :: l,r,hl,h=>by
  have hx:=hl x (List.mem_cons_self ..)
  refine Zp l _ (fun y hy=>hl y (List.mem_cons_of_mem _ hy)) ?_
  have ap : ∀ {a : List (List UInt8)},(∀ s∈a,s.length≤2000)→∀ s∈a ++ [x.value],s.length≤2000:=by
   intro a ha s hs
   rcases List.mem_append.1 hs with hs | hs
   ·exact ha s hs
   ·rw [List.mem_singleton.1 hs]; exact hx
  unfold Cs
  split
  ·exact ⟨ap h.hosts,h.ids,h.lens⟩
  split
  ·exact ⟨h.hosts,ap h.ids,h.lens⟩
  split
  ·exact ⟨h.hosts,h.ids,ap h.lens⟩
  split
  ·exact ⟨h.hosts,h.ids,h.lens⟩
  ·exact ⟨h.hosts,h.ids,h.lens⟩
theorem Wv {l : List HF} (h : ∀ x∈l,x.value.length≤2000) : FrSm (D9 l) :=
 Zp l _ h ⟨fun _s hs=>(nomatch hs),fun _s hs=>(nomatch hs),fun _s hs=>(nomatch hs)⟩
theorem El (s : List UInt8) (hi : Int) (h0 : 0≤hi) : 0≤(Bi s hi).1∧(Bi s hi).1≤hi:=by
 unfold Bi Wo
 split
 ·exact ⟨by simp,h0⟩
 split
 ·exact ⟨by simp,h0⟩
 split
 ·exact ⟨by simp,h0⟩
 ·rename_i h
  simp only [not_or] at h
  exact ⟨by show 0≤(Mk s).1; omega,by show (Mk s).1≤hi; omega⟩
theorem N8 (b : List UInt8) : 0≤(Ax b).2.2.1∧(Ax b).2.2.1≤b.length∧(Ax b).1.length≤1025∧(Ax b).2.1.length≤1025:=by
 have h0 : ∀ z : Int,0≤(([],[],0,z) : List UInt8×List UInt8×Int×Int).2.2.1∧(([],[],0,z) : List UInt8×List UInt8×Int×Int).2.2.1≤(b.length : Int)∧(([],[],0,z) : List UInt8×List UInt8×Int×Int).1.length≤1025∧(([],[],0,z) : List UInt8×List UInt8×Int×Int).2.1.length≤1025:=fun z=>⟨by simp,by simp,by simp,by simp⟩
 unfold Ax
 split
 ·exact h0 _
 split
 ·exact h0 _
 rename_i h1
 split
 ·exact h0 _
 have h2 : (Ah 10 (b.take 1024)).2.2 = true:=by simpa using h1
 obtain ⟨_,_,_,h4⟩:=Kl h2
 rw [List.length_take] at h4
 have ht : (Lib.trimSuffix ((Ah 10 (b.take 1024)).1 ++ [10]) rVer).length≤1025:=by
  rw [Lib.trimSuffix]
  split
  ·rw [List.length_take]; simp only [List.length_append,List.length_cons,List.length_nil]; omega
  ·simp only [List.length_append,List.length_cons,List.length_nil]; omega
 have hc:=Ib 32 (Lib.trimSuffix ((Ah 10 (b.take 1024)).1 ++ [10]) rVer)
 exact ⟨by show 0≤((Ah 10 (b.take 1024)).1.length : Int) + 1; omega,by show ((Ah 10 (b.take 1024)).1.length : Int) + 1≤_; omega,Nat.le_trans hc.1 ht,Nat.le_trans hc.2 ht⟩
def rqZ : Rq:=⟨0,[],[],[],[],[]⟩
def Fx (b : List UInt8) (r : Rq) (p sz : Int) : Rq×Int×Int :=
 if (Dc r).2≠0 then (rqZ,0,(Dc r).2) else if decide (0 < sz) && I3 r.method then (rqZ,0,2) else if (b.length : Int) - p < sz then (rqZ,0,10) else
 (⟨r.id,r.method,r.target,r.host,r.fields,(b.drop p.toNat).take sz.toNat⟩,p + sz,0)
def Mi (b me ta : List UInt8) (p : Int) (ho : List UInt8) (fs : List HF) (ia la : Int×Int) : Rq×Int×Int :=
 if ia.2 = 6∨la.2 = 6 then (rqZ,0,6) else if la.2≠0 then (rqZ,0,3) else Fx b ⟨ia.1,me,ta,ho,fs,[]⟩ p la.1
def Ki (fr : Fr) : Bool:=((fr.hosts.length != 1 || fr.ids.length != 1) || decide (1 < fr.lens.length)) || fr.coded
def Wk (fr : Fr) : List UInt8:=if fr.lens.length = 0 then [48] else fr.lens.getD 0 []
def Mj (b me ta : List UInt8) (p : Int) (fr : Fr) : Rq×Int×Int :=
 if Ki fr then (rqZ,0,6) else Mi b me ta p (fr.hosts.getD 0 []) fr.rest (Bi (fr.ids.getD 0 []) 1000000000) (Bi (Wk fr) 65536)
def Bp (b : List UInt8) : Rq×Int×Int :=
 if (Ax b).2.2.2≠0 then (rqZ,0,(Ax b).2.2.2) else
 if (B5 (b.drop (Ax b).2.2.1.toNat)).2.2≠0 then (rqZ,0,(B5 (b.drop (Ax b).2.2.1.toNat)).2.2) else
 Mj b (Ax b).1 (Ax b).2.1 ((Ax b).2.2.1 + (B5 (b.drop (Ax b).2.2.1.toNat)).2.1) (D9 (B5 (b.drop (Ax b).2.2.1.toNat)).1)
def spParse : FSpec:=fun _ xs ls K=>∃ (b : List UInt8) (nl : Bool) (n : Int) (f : Nat→List SV),xs = [.sl (.a nl) (.a n) 1 f]∧ls = []∧Bn f n b∧b.length≤1000000∧
 ∀ r f1 n1 b1 k e,(r,k,e) = Bp b→GrH f1 n1 b1 r.fields→K (.tup [.agg [.int .i64 (.a r.id),.str r.method,.str r.target,.str r.host,.sl (.a b1) (.a n1) 2 f1,.str r.body],.int .i64 (.a k),.int .i64 (.a e)]) []
theorem Ov (b : List UInt8) (hb : b.length≤1000000) : ∃ f1 n1 b1,GrH f1 n1 b1 (Bp b).1.fields:=by
 have h0 : ∃ f1 n1 b1,GrH f1 n1 b1 rqZ.fields:=⟨_,_,_,GrH.nil⟩
 unfold Bp
 split
 ·exact h0
 split
 ·exact h0
 unfold Mj
 split
 ·exact h0
 unfold Mi
 split
 ·exact h0
 split
 ·exact h0
 unfold Fx
 split
 ·exact h0
 split
 ·exact h0
 split
 ·exact h0
 obtain ⟨c,hc⟩ : ∃ c,c = b.drop (Ax b).2.2.1.toNat:=⟨_,rfl⟩
 rw [←hc]
 have hcl : c.length≤1000000:=by rw [hc,List.length_drop]; omega
 have hS:=Ia (c.length + 1) 0 [] c hcl (by simp) (fun x hx=>by cases hx)
 obtain ⟨L1,L2,L3,L4,L5⟩:=Sd (B5 c).1 ⟨[],[],[],false,[]⟩ hS.2 (fun x hx=>by cases hx)
 have hl : (B5 c).1.length≤100:=hS.1
 simp only [List.length_nil] at L4
 exact ⟨_,_,_,⟨A9.row (l:=(D9 (B5 c).1).rest) (by unfold D9; omega) (fun i hi=>L5 _ (by rw [List.getD_eq_getElem?_getD,List.getElem?_eq_getElem hi]; exact List.getElem_mem hi)),rfl⟩⟩
structure PV (b me ta : List UInt8) (p : Int) : Prop where
 lo : 0≤p
 hi : p≤(b.length : Int)
 me : me.length≤1025
 ta : ta.length≤1025
theorem Cd {D : Dn} (hD : D = dn) {l l' : Rq} {f f1 : Nat→List SV} {n n1 k e : Int} {b b1 : Bool} {x : BT} {i y z w : ST} {me ta ho bo : List UInt8} (h : (l,k,e) = (l',z.den,w.den)) (h1 : i.den = l'.id) (h2 : me = l'.method) (h3 : ta = l'.target) (h4 : ho = l'.host) (h5 : bo = l'.body) (G : GrH f n b l'.fields) (hG : GrH f1 n1 b1 l.fields) (hx : x.den = b) (hy : y.den = n) :
  Fin (.tup [.agg [.int .i64 (.a (D.i i)),.str me,.str ta,.str ho,.sl (.a (D.b x)) (.a (D.i y)) 2 f,.str bo],.int .i64 (.a (D.i z)),.int .i64 (.a (D.i w))]) (.tup [.agg [.int .i64 (.a l.id),.str l.method,.str l.target,.str l.host,.sl (.a b1) (.a n1) 2 f1,.str l.body],.int .i64 (.a k),.int .i64 (.a e)]) [] []:=by
 subst hD h2 h3 h4 h5
 simp only [Prod.mk.injEq] at h
 obtain ⟨rfl,rfl,rfl⟩:=h
 exact D6 (.tup (.cons (LeV.agg (.cons (E7 h1) (.cons (LeV.refl _) (.cons (LeV.refl _) (.cons (LeV.refl _) (.cons (Oa G hG hx hy) (.cons (LeV.refl _) .nil))))))) (.cons (E7 rfl) (.cons (E7 rfl) .nil))))
theorem P0 : Ar Tryz.prog gl 22 spParse:=by
 refine A4 (gh:=[]) mixed A0 (Aa Acl (Aa Ajo (Aa Al9 (Aa Ai2 (Aa Z6 (Aa Zg Ae)))))) Tryz.func22 (by kernel_rfl) (by kernel_rfl) ?_
 intro xs ls K h
 unfold spParse at h
 obtain ⟨b,nl,n,f,rfl,rfl,R,hb,h⟩:=h
 obtain ⟨k,hk0⟩ : ∃ k,k = Bp b:=⟨_,rfl⟩
 obtain ⟨f1,n1,b1,hG⟩:=Ov b hb
 rw [←hk0] at hG
 obtain ⟨kr,kk,ke⟩:=k
 have hk:=hk0
 unfold Bp at hk
 have hrv:=N8 b
 obtain ⟨rl,hrl⟩ : ∃ c,c = Ax b:=⟨_,rfl⟩
 rw [←hrl] at hk hrv
 obtain ⟨me,ta,p,e0⟩:=rl
 simp only at hk hrv
 have PV0 : PV b me ta p:=⟨hrv.1,hrv.2.1,hrv.2.2.1,hrv.2.2.2⟩
 clear hrv
 refine ⟨_,_,h kr f1 n1 b1 kk ke hk0 hG,fun D hD=>?_⟩
 cbv
 clear h hk0
 refine ⟨b,_,_,_,rfl,rfl,by subst hD; exact R,hb,fun me' ta' p' e0' hm=>?_⟩
 cbv
 rw [←hrl] at hm
 simp only [Prod.mk.injEq] at hm
 obtain ⟨rfl,rfl,rfl,rfl⟩:=hm
 clear hrl
 refine br hD (fun h=>?_) (fun h=>?_)<;>cbv
 ·have h1 : ¬ e0' = 0:=by have h : (e0' != 0) = true:=h; simpa using h
  rw [if_pos h1] at hk
  exact Cd hD hk rfl rfl rfl rfl rfl GrH.nil hG rfl rfl
 rw [if_neg (by have h : (e0' != 0) = false:=h; simpa using h)] at hk
 clear h
 obtain ⟨P,hP⟩ : ∃ P : Nat,P = p'.toNat:=⟨_,rfl⟩
 rw [←hP] at hk
 have VP : VI p' P:=⟨by have:=PV0.lo; omega⟩
 clear hP
 obtain ⟨t,ht⟩ : ∃ t,t = b.drop P:=⟨_,rfl⟩
 rw [←ht] at hk
 refine ⟨by subst hD; exact ⟨PV0.lo,by show p'≤n; rw [R.n]; exact PV0.hi,Int.le_refl _⟩,fun f2 n2 hsub=>?_⟩
 cbv
 have R2 : Bn f2 n2 t:=by
  have:=R.sub (a:=P) (b:=b.length) hsub (by subst hD; exact VP.h) (by subst hD; exact R.n) (by have:=VP.h; have:=PV0.hi; omega) (Nat.le_refl _)
  rw [ht]
  have e : (b.drop P).take (b.length - P) = b.drop P:=List.take_of_length_le (by rw [List.length_drop]; exact Nat.le_refl _)
  rwa [e] at this
 have htl : VI (t.length : Int) (b.length - P):=⟨by rw [ht,List.length_drop]⟩
 clear hsub ht
 have htm : t.length≤1000000:=by have:=htl.h; omega
 have hv1:=O3 t
 have hv2 : (B5 t).1.length≤100∧∀ x∈(B5 t).1,x.small:=Ia (t.length + 1) 0 [] t htm (by simp) (fun x hx=>by cases hx)
 obtain ⟨hp,hhp⟩ : ∃ c,c = B5 t:=⟨_,rfl⟩
 rw [←hhp] at hk hv1 hv2
 obtain ⟨l,c,e1⟩:=hp
 simp only at hk hv1 hv2
 have PC : PV t me' ta' c:=⟨hv1.2.1,hv1.2.2,PV0.me,PV0.ta⟩
 have FS:=Wv hv1.1
 obtain ⟨hv21,hv22⟩:=hv2
 clear hv1
 refine ⟨t,_,_,_,rfl,rfl,by subst hD; exact R2,htm,fun l' g2 gn gb c' e1' hm hg2=>?_⟩
 cbv
 rw [←hhp] at hm
 simp only [Prod.mk.injEq] at hm
 obtain ⟨rfl,rfl,rfl⟩:=hm
 clear hhp
 refine br hD (fun h=>?_) (fun h=>?_)<;>cbv
 ·have h1 : ¬ e1' = 0:=by have h : (e1' != 0) = true:=h; simpa using h
  rw [if_pos h1] at hk
  exact Cd hD hk rfl rfl rfl rfl rfl GrH.nil hG rfl rfl
 rw [if_neg (by have h : (e1' != 0) = false:=h; simpa using h)] at hk
 clear h
 obtain ⟨fr,hfr⟩ : ∃ c,c = D9 l':=⟨_,rfl⟩
 rw [←hfr] at hk FS
 refine ⟨l',_,_,_,rfl,rfl,by subst hD; exact hg2.row,hv21,fun fr' g3 g4 g5 g6 m3 m4 m5 m6 q3 q4 q5 q6 hfr' FV=>?_⟩
 cbv
 rw [←hfr] at hfr'
 subst hfr'
 clear hfr hg2
 have N3:=FV.g1.row.n
 have N4:=FV.g2.row.n
 have N5:=FV.g3.row.n
 have hbad : (((m3 != 1 || m4 != 1) || decide (1 < m5)) || fr'.coded) = Ki fr':=by
  unfold Ki
  have a1 : (m3 != 1) = (fr'.hosts.length != 1):=by rw [N3,Bool.eq_iff_iff]; simp only [bne_iff_ne]; omega
  have a2 : (m4 != 1) = (fr'.ids.length != 1):=by rw [N4,Bool.eq_iff_iff]; simp only [bne_iff_ne]; omega
  have a3 : decide (1 < m5) = decide (1 < fr'.lens.length):=by rw [N5,decide_eq_decide]; omega
  rw [a1,a2,a3]
 have VN : VI m3 fr'.hosts.length∧VI m4 fr'.ids.length∧VI m5 fr'.lens.length:=⟨⟨N3⟩,⟨N4⟩,⟨N5⟩⟩
 clear N3 N4 N5
 refine br hD (fun h=>?_) (fun h=>?_)<;>cbv
 ·have h1 : Ki fr' = true:=by rw [←hbad]; exact h
  rw [Mj,if_pos h1] at hk
  exact Cd hD hk rfl rfl rfl rfl rfl GrH.nil hG rfl rfl
 have h1 : Ki fr' = false:=by rw [←hbad]; exact h
 rw [Mj,if_neg (by rw [h1]; simp)] at hk
 clear h hbad
 have hl1 : fr'.hosts.length = 1∧fr'.ids.length = 1∧fr'.lens.length≤1:=by unfold Ki at h1; simp only [Bool.or_eq_false_iff,bne_eq_false_iff_eq,decide_eq_false_iff_not] at h1; omega
 clear h1
 obtain ⟨ids0,hids⟩ : ∃ c,c = fr'.ids.getD 0 []:=⟨_,rfl⟩
 obtain ⟨ho0,hho⟩ : ∃ c,c = fr'.hosts.getD 0 []:=⟨_,rfl⟩
 have hids0 : ids0.length≤2000:=FS.ids _ (by rw [hids,List.getD_eq_getElem?_getD,List.getElem?_eq_getElem (by omega)]; exact List.getElem_mem _)
 have hho0 : ho0.length≤2000:=FS.hosts _ (by rw [hho,List.getD_eq_getElem?_getD,List.getElem?_eq_getElem (by omega)]; exact List.getElem_mem _)
 rw [←hids,←hho] at hk
 refine br hD (fun h=>?_) (fun h=>?_)<;>cbv
 ·have h : (m5 == 0) = true:=h
  have hl5 : fr'.lens.length = 0:=by have:=VN.2.2.h; have:=eq_of_beq h; omega
  obtain ⟨len0,hlen⟩ : ∃ c : List UInt8,c = [48]:=⟨_,rfl⟩
  have hls : Wk fr' = len0:=by rw [Wk,if_pos hl5,hlen]
  have hlen0 : len0.length≤2000:=by rw [hlen]; simp
  rw [hls] at hk
  clear h
  intro g hg
  cbv
  have q2 : g 0 = [.str len0]:=by rw [hlen]; exact hg.h 0 _ rfl
  clear hg
  clear hlen
  refine ⟨by subst hD; exact ⟨Int.le_refl _,by show (0 : Int) < m4; rw [VN.2.1.h]; omega⟩,fun j hj=>?_⟩
  obtain rfl : j = 0:=by subst hD; exact Int.ofNat.inj hj.h
  clear hj
  have q1:=FV.g2.row.f 0 (by omega)
  rw [←hids] at q1
  cbv
  rw [q1]
  cbv
  refine ⟨ids0,_,rfl,rfl,by omega,fun iv ie hi=>?_⟩
  cbv
  have hi : (iv,ie) = Bi ids0 1000000000:=by subst hD; exact hi
  rw [←hi] at hk
  have NI:=El ids0 1000000000 (by omega)
  rw [←hi] at NI
  simp only at NI
  clear hi
  refine ⟨by subst hD; exact ⟨Int.le_refl _,by show (0 : Int) < 1; decide⟩,fun j hj=>?_⟩
  obtain rfl : j = 0:=by subst hD; exact Int.ofNat.inj hj.h
  clear hj
  cbv
  rw [q2]
  cbv
  refine ⟨len0,_,rfl,rfl,by omega,fun sv se hi=>?_⟩
  cbv
  have hi : (sv,se) = Bi len0 65536:=by subst hD; exact hi
  rw [←hi] at hk
  have NS:=El len0 65536 (by omega)
  rw [←hi] at NS
  simp only at NS
  clear hi q1 q2
  rw [Mi] at hk
  simp only at hk
  refine br hD (fun h=>?_) (fun h=>?_)<;>cbv
  ·have h : (ie == 6 || se == 6) = true:=h
   rw [if_pos (by simpa using h)] at hk
   exact Cd hD hk rfl rfl rfl rfl rfl GrH.nil hG rfl rfl
  have h : (ie == 6 || se == 6) = false:=h
  rw [if_neg (by rw [Bool.or_eq_false_iff] at h; have h2:=h.1; have h3:=h.2; simp only [beq_eq_false_iff_ne] at h2 h3; omega)] at hk
  clear h
  refine br hD (fun h=>?_) (fun h=>?_)<;>cbv
  ·have h : (se != 0) = true:=h
   rw [if_pos (by simpa using h)] at hk
   exact Cd hD hk rfl rfl rfl rfl rfl GrH.nil hG rfl rfl
  have h : (se != 0) = false:=h
  rw [if_neg (by simpa using h)] at hk
  clear h
  refine ⟨by subst hD; exact ⟨Int.le_refl _,by show (0 : Int) < m3; rw [VN.1.h]; omega⟩,fun j hj=>?_⟩
  obtain rfl : j = 0:=by subst hD; exact Int.ofNat.inj hj.h
  clear hj
  have q1:=FV.g1.row.f 0 (by omega)
  rw [←hho] at q1
  cbv
  rw [q1]
  cbv
  clear q1
  rw [Fx] at hk
  simp only at hk
  have hkn : (b.length : Int) = n:=R.n.symm
  rw [hkn] at hk
  refine ⟨⟨D.i (.a iv),me',ta',ho0,fr'.rest,[]⟩,_,_,_,rfl,rfl,by subst hD; exact ⟨by show _≤iv; omega,by show iv≤_; omega,by have:=PV0.me; show me'.length≤_; omega,by have:=PV0.ta; show ta'.length≤_; omega,by show ho0.length≤_; omega,by simp,FV.g4.row,fun e=>by have:=FV.g4.nl; have e : q6 = true:=e; rw [e] at this; exact List.isEmpty_iff.1 this.symm⟩,fun cp ce hce=>?_⟩
  cbv
  have hce : (cp,ce) = Dc ⟨iv,me',ta',ho0,fr'.rest,[]⟩:=by subst hD; exact hce
  rw [←hce] at hk
  simp only at hk
  clear hce
  refine br hD (fun h=>?_) (fun h=>?_)<;>cbv
  ·have h : (ce != 0) = true:=h
   rw [if_pos (by simpa using h)] at hk
   exact Cd hD hk rfl rfl rfl rfl rfl GrH.nil hG rfl rfl
  have h : (ce != 0) = false:=h
  rw [if_neg (by simpa using h)] at hk
  clear h
  refine ⟨me',rfl,rfl,by have:=PV0.me; omega,fun bb hbb=>?_⟩
  cbv
  rw [←hbb] at hk
  clear hbb
  refine br hD (fun h=>?_) (fun h=>?_)<;>cbv
  ·have h : (decide (0 < sv) && bb) = true:=h
   rw [if_pos h] at hk
   exact Cd hD hk rfl rfl rfl rfl rfl GrH.nil hG rfl rfl
  have h : (decide (0 < sv) && bb) = false:=h
  rw [if_neg (by rw [h]; simp)] at hk
  clear h
  have hw : IntKind.i64.wrap (p' + c') = p' + c':=Am (by have:=PV0.lo; have:=PC.lo; omega) (by have:=PC.hi; have:=PV0.hi; omega)
  have hws : IntKind.i64.wrap (n - IntKind.i64.wrap (p' + c')) = n - (p' + c'):=by rw [hw]; exact Am (by have:=PC.hi; have:=PV0.hi; have:=R.n; omega) (by have:=PV0.lo; have:=PC.lo; have:=R.n; omega)
  refine br hD (fun h=>?_) (fun h=>?_)<;>cbv
  ·have h : decide (IntKind.i64.wrap (n - IntKind.i64.wrap (p' + c')) < sv) = true:=h
   rw [hws] at h
   rw [if_pos (of_decide_eq_true h)] at hk
   exact Cd hD hk rfl rfl rfl rfl rfl GrH.nil hG rfl rfl
  have h : decide (IntKind.i64.wrap (n - IntKind.i64.wrap (p' + c')) < sv) = false:=h
  rw [hws] at h
  have h2:=of_decide_eq_false h
  rw [if_neg h2] at hk
  clear h hws
  have hw2 : IntKind.i64.wrap (IntKind.i64.wrap (p' + c') + sv) = p' + c' + sv:=by rw [hw]; exact Am (by have:=PV0.lo; have:=PC.lo; omega) (by have:=R.n; omega)
  refine ⟨by subst hD; exact ⟨by show 0≤IntKind.i64.wrap (p' + c'); rw [hw]; have:=PV0.lo; have:=PC.lo; omega,by show IntKind.i64.wrap (p' + c')≤IntKind.i64.wrap (IntKind.i64.wrap (p' + c') + sv); rw [hw2,hw]; omega,by show IntKind.i64.wrap (IntKind.i64.wrap (p' + c') + sv)≤n; rw [hw2]; omega⟩,fun f7 n7 hsub=>?_⟩
  cbv
  have R7 : Bn f7 n7 ((b.drop (p' + c').toNat).take sv.toNat):=by
   have h0 : 0≤p' + c':=by have:=PV0.lo; have:=PC.lo; omega
   have:=R.sub (a:=(p' + c').toNat) (b:=(p' + c').toNat + sv.toNat) hsub (by subst hD; show IntKind.i64.wrap (p' + c') = _; rw [hw]; omega) (by subst hD; show IntKind.i64.wrap (IntKind.i64.wrap (p' + c') + sv) = _; rw [hw2]; omega) (by omega) (by have:=R.n; omega)
   have e : (p' + c').toNat + sv.toNat - (p' + c').toNat = sv.toNat:=by omega
   rwa [e] at this
  clear hsub
  refine ⟨by subst hD; exact R7.byte,fun bo hbo=>?_⟩
  cbv
  have hbo : bo = (b.drop (p' + c').toNat).take sv.toNat:=by subst hD; exact R7.str hbo
  rw [←hbo] at hk
  refine Cd hD (by rw [hk]; show _ = (_,IntKind.i64.wrap (IntKind.i64.wrap (p' + c') + sv),_); rw [hw2]; rfl) rfl rfl rfl rfl rfl FV.g4 hG rfl rfl
 have h : (m5 == 0) = false:=h
 have hl5 : fr'.lens.length = 1:=by have:=VN.2.2.h; simp only [beq_eq_false_iff_ne] at h; omega
 obtain ⟨len0,hlen⟩ : ∃ c,c = fr'.lens.getD 0 []:=⟨_,rfl⟩
 have hls : Wk fr' = len0:=by rw [Wk,if_neg (by omega),hlen]
 have hlen0 : len0.length≤2000:=FS.lens _ (by rw [hlen,List.getD_eq_getElem?_getD,List.getElem?_eq_getElem (by omega)]; exact List.getElem_mem _)
 rw [hls] at hk
 clear h
 refine ⟨by subst hD; exact ⟨Int.le_refl _,by show (0 : Int) < m4; rw [VN.2.1.h]; omega⟩,fun j hj=>?_⟩
 obtain rfl : j = 0:=by subst hD; exact Int.ofNat.inj hj.h
 clear hj
 have q1:=FV.g2.row.f 0 (by omega)
 rw [←hids] at q1
 cbv
 rw [q1]
 cbv
 refine ⟨ids0,_,rfl,rfl,by omega,fun iv ie hi=>?_⟩
 cbv
 have hi : (iv,ie) = Bi ids0 1000000000:=by subst hD; exact hi
 rw [←hi] at hk
 have NI:=El ids0 1000000000 (by omega)
 rw [←hi] at NI
 simp only at NI
 clear hi
 refine ⟨by subst hD; exact ⟨Int.le_refl _,by show (0 : Int) < m5; rw [VN.2.2.h]; omega⟩,fun j hj=>?_⟩
 obtain rfl : j = 0:=by subst hD; exact Int.ofNat.inj hj.h
 clear hj
 have q2:=FV.g3.row.f 0 (by omega)
 rw [←hlen] at q2
 cbv
 rw [q2]
 cbv
 refine ⟨len0,_,rfl,rfl,by omega,fun sv se hi=>?_⟩
 cbv
 have hi : (sv,se) = Bi len0 65536:=by subst hD; exact hi
 rw [←hi] at hk
 have NS:=El len0 65536 (by omega)
 rw [←hi] at NS
 simp only at NS
 clear hi q1 q2
 rw [Mi] at hk
 simp only at hk
 refine br hD (fun h=>?_) (fun h=>?_)<;>cbv
 ·have h : (ie == 6 || se == 6) = true:=h
  rw [if_pos (by simpa using h)] at hk
  exact Cd hD hk rfl rfl rfl rfl rfl GrH.nil hG rfl rfl
 have h : (ie == 6 || se == 6) = false:=h
 rw [if_neg (by rw [Bool.or_eq_false_iff] at h; have h2:=h.1; have h3:=h.2; simp only [beq_eq_false_iff_ne] at h2 h3; omega)] at hk
 clear h
 refine br hD (fun h=>?_) (fun h=>?_)<;>cbv
 ·have h : (se != 0) = true:=h
  rw [if_pos (by simpa using h)] at hk
  exact Cd hD hk rfl rfl rfl rfl rfl GrH.nil hG rfl rfl
 have h : (se != 0) = false:=h
 rw [if_neg (by simpa using h)] at hk
 clear h
 refine ⟨by subst hD; exact ⟨Int.le_refl _,by show (0 : Int) < m3; rw [VN.1.h]; omega⟩,fun j hj=>?_⟩
 obtain rfl : j = 0:=by subst hD; exact Int.ofNat.inj hj.h
 clear hj
 have q1:=FV.g1.row.f 0 (by omega)
 rw [←hho] at q1
 cbv
 rw [q1]
 cbv
 clear q1
 rw [Fx] at hk
 simp only at hk
 have hkn : (b.length : Int) = n:=R.n.symm
 rw [hkn] at hk
 refine ⟨⟨D.i (.a iv),me',ta',ho0,fr'.rest,[]⟩,_,_,_,rfl,rfl,by subst hD; exact ⟨by show _≤iv; omega,by show iv≤_; omega,by have:=PV0.me; show me'.length≤_; omega,by have:=PV0.ta; show ta'.length≤_; omega,by show ho0.length≤_; omega,by simp,FV.g4.row,fun e=>by have:=FV.g4.nl; have e : q6 = true:=e; rw [e] at this; exact List.isEmpty_iff.1 this.symm⟩,fun cp ce hce=>?_⟩
 cbv
 have hce : (cp,ce) = Dc ⟨iv,me',ta',ho0,fr'.rest,[]⟩:=by subst hD; exact hce
 rw [←hce] at hk
 simp only at hk
 clear hce
 refine br hD (fun h=>?_) (fun h=>?_)<;>cbv
 ·have h : (ce != 0) = true:=h
  rw [if_pos (by simpa using h)] at hk
  exact Cd hD hk rfl rfl rfl rfl rfl GrH.nil hG rfl rfl
 have h : (ce != 0) = false:=h
 rw [if_neg (by simpa using h)] at hk
 clear h
 refine ⟨me',rfl,rfl,by have:=PV0.me; omega,fun bb hbb=>?_⟩
 cbv
 rw [←hbb] at hk
 clear hbb
 refine br hD (fun h=>?_) (fun h=>?_)<;>cbv
 ·have h : (decide (0 < sv) && bb) = true:=h
  rw [if_pos h] at hk
  exact Cd hD hk rfl rfl rfl rfl rfl GrH.nil hG rfl rfl
 have h : (decide (0 < sv) && bb) = false:=h
 rw [if_neg (by rw [h]; simp)] at hk
 clear h
 have hw : IntKind.i64.wrap (p' + c') = p' + c':=Am (by have:=PV0.lo; have:=PC.lo; omega) (by have:=PC.hi; have:=PV0.hi; omega)
 have hws : IntKind.i64.wrap (n - IntKind.i64.wrap (p' + c')) = n - (p' + c'):=by rw [hw]; exact Am (by have:=PC.hi; have:=PV0.hi; have:=R.n; omega) (by have:=PV0.lo; have:=PC.lo; have:=R.n; omega)
 refine br hD (fun h=>?_) (fun h=>?_)<;>cbv
 ·have h : decide (IntKind.i64.wrap (n - IntKind.i64.wrap (p' + c')) < sv) = true:=h
  rw [hws] at h
  rw [if_pos (of_decide_eq_true h)] at hk
  exact Cd hD hk rfl rfl rfl rfl rfl GrH.nil hG rfl rfl
 have h : decide (IntKind.i64.wrap (n - IntKind.i64.wrap (p' + c')) < sv) = false:=h
 rw [hws] at h
 have h2:=of_decide_eq_false h
 rw [if_neg h2] at hk
 clear h hws
 have hw2 : IntKind.i64.wrap (IntKind.i64.wrap (p' + c') + sv) = p' + c' + sv:=by rw [hw]; exact Am (by have:=PV0.lo; have:=PC.lo; omega) (by have:=R.n; omega)
 refine ⟨by subst hD; exact ⟨by show 0≤IntKind.i64.wrap (p' + c'); rw [hw]; have:=PV0.lo; have:=PC.lo; omega,by show IntKind.i64.wrap (p' + c')≤IntKind.i64.wrap (IntKind.i64.wrap (p' + c') + sv); rw [hw2,hw]; omega,by show IntKind.i64.wrap (IntKind.i64.wrap (p' + c') + sv)≤n; rw [hw2]; omega⟩,fun f7 n7 hsub=>?_⟩
 cbv
 have R7 : Bn f7 n7 ((b.drop (p' + c').toNat).take sv.toNat):=by
  have h0 : 0≤p' + c':=by have:=PV0.lo; have:=PC.lo; omega
  have:=R.sub (a:=(p' + c').toNat) (b:=(p' + c').toNat + sv.toNat) hsub (by subst hD; show IntKind.i64.wrap (p' + c') = _; rw [hw]; omega) (by subst hD; show IntKind.i64.wrap (IntKind.i64.wrap (p' + c') + sv) = _; rw [hw2]; omega) (by omega) (by have:=R.n; omega)
  have e : (p' + c').toNat + sv.toNat - (p' + c').toNat = sv.toNat:=by omega
  rwa [e] at this
 clear hsub
 refine ⟨by subst hD; exact R7.byte,fun bo hbo=>?_⟩
 cbv
 have hbo : bo = (b.drop (p' + c').toNat).take sv.toNat:=by subst hD; exact R7.str hbo
 rw [←hbo] at hk
 refine Cd hD (by rw [hk]; show _ = (_,IntKind.i64.wrap (IntKind.i64.wrap (p' + c') + sv),_); rw [hw2]; rfl) rfl rfl rfl rfl rfl FV.g4 hG rfl rfl
end Go.Proofs.YtefelnhpfdcleaaGreatDoor
namespace Go.Proofs.YtefelnhpfdcleaaGreatDoor
open Go Go.RowKit Go.Sx
set_option maxHeartbeats 2000000
set_option maxRecDepth 100000
theorem bSize : (Tryz.prog.info? 104).map (·.size) = some 2:=by kernel_rfl
theorem bLies : liesAt Tryz.prog Tryz.prog.depth 104 (2 / Tryz.prog.cellsOf 104) 0 104 1 = true:=by kernel_rfl
theorem bUnd : Tryz.prog.underlying 102 = some (.pointer 104):=by kernel_rfl
theorem Ah3 : Tryz.prog.underlying 141 = some .unsafePointer:=by kernel_rfl
theorem bByte : (Tryz.prog.info? 5).map (fun i=>(i.zero,i.size,i.bytes)) = some (some (.int .u8 0),1,1):=by kernel_rfl
theorem Xj : Tryz.prog.underlying 36 = some (.slice 5):=by kernel_rfl
theorem Xd (b : Nat) (w : World) (h0 : w.cell? ⟨b,0,none⟩ = some (.pointer (some ⟨b,0,none⟩))) :
  Calls Tryz.prog 108 #[.pointer (some ⟨b,0,none⟩)] w fun e w'=>e = .returned (.tuple #[])∧w' = w:=by
 obtain ⟨j,hj,_⟩:=Option.map_eq_some_iff.1 bSize
 go_enter Tryz.func108,Tryz.ntmps108
 go_wp2
 rw [Lib.run_neq_ptr_same w _ bUnd hj]
 go_wp2
 go_end0
 exact ⟨rfl,rfl⟩
theorem T9 (b : Nat) (w : World) (h0 : w.cell? ⟨b,0,none⟩ = some (.pointer none)) (hsh : w.shape? b = some (104,2)) (hfz : w.frozen? ⟨b,0,none⟩ = false) :
  Calls Tryz.prog 108 #[.pointer (some ⟨b,0,none⟩)] w fun e w'=>e = .returned (.tuple #[])∧w' = w.setCell ⟨b,0,none⟩ (.pointer (some ⟨b,0,none⟩)):=by
 obtain ⟨j,hj,hjs⟩:=Option.map_eq_some_iff.1 bSize
 go_enter Tryz.func108,Tryz.ntmps108
 go_wp2
 rw [Lib.run_to_unsafe w ⟨b,0,none⟩ bUnd Ah3 hj (by rw [hjs]; decide) hsh (Nat.zero_lt_succ 1)]
 simp only [Result.andThen]
 rw [Oper.upon_value]
 go_wp2
 rw [run_callFunc_extern Tryz.func136 (by kernel_rfl) (by kernel_rfl) (by kernel_rfl) (e:=Extern.AbiNoEscape.same) (by kernel_rfl)]
 rw [Lib.run_noEscape]
 simp only [Result.andThen]
 rw [Oper.upon_value]
 go_wp2
 rw [Lib.run_from_unsafe w ⟨b,0,none⟩ Ah3 bUnd hj hsh bLies]
 simp only [Result.andThen]
 rw [Oper.upon_value]
 go_wp2
 go_end0
 exact ⟨rfl,rfl⟩
structure Anl (b : Nat) (v v' : Value) (w w' : World) : Prop where
 os : w'.os = w.os
 tape : w'.tape = w.tape
 output : w'.output = w.output
 size : w.heap.size≤w'.heap.size
 block : ∀ k,k < w.heap.size→k≠b→some k≠v.ownBlock→w'.heap[k]? = w.heap[k]?
 new : ∀ k,v'.ownBlock = some k→v.ownBlock = some k∨w.heap.size≤k
theorem Yk (b : Nat) (p v : Value) (s : List UInt8) (w : World) (hbk : w.heap[b]? = some (.cells #[p,v] 104 (0,0))) (hp : p = .pointer none∨p = .pointer (some ⟨b,0,none⟩)) (hown : w.ownsRow 0 5 1 v s.length (Lib.byteCells s)) (hne : v.ownBlock≠some b) :
  Calls Tryz.prog 108 #[.pointer (some ⟨b,0,none⟩)] w fun e w'=>e = .returned (.tuple #[])∧w'.heap[b]? = some (.cells #[.pointer (some ⟨b,0,none⟩),v] 104 (0,0))∧w'.ownsRow 0 5 1 v s.length (Lib.byteCells s)∧w'.os = w.os∧w'.tape = w.tape∧w'.output = w.output∧w'.heap.size = w.heap.size∧∀ k,k≠b→w'.heap[k]? = w.heap[k]?:=by
 rcases hp with rfl | rfl
 ·have hlt : b < w.heap.size:=by
   rcases Nat.lt_or_ge b w.heap.size with h' | h'
   ·exact h'
   ·simp [Array.getElem?_eq_none h'] at hbk
  refine (T9 b w (by rw [Lib.cell_of_heap hbk]; rfl) (by simp [World.shape?,hbk]) (Lib.frozen_of_heap hbk 0)).mono ?_
  rintro e w' ⟨rfl,rfl⟩
  refine ⟨rfl,by simp [World.setCell,Array.getElem?_modify,hbk],?_,rfl,rfl,rfl,by simp [World.setCell],fun k hk=>RowKit.Below.heap_setCell _ _ _ _ (fun e=>hk (by simp [e]))⟩
  refine hown.kept (row:=some b) ⟨rfl,rfl,rfl,by simp [World.setCell],fun k _ hk=>RowKit.Below.heap_setCell _ _ _ _ (fun e=>hk (by simp [e]))⟩ (Or.inr hne)
 ·refine (Xd b w (by rw [Lib.cell_of_heap hbk]; rfl)).mono ?_
  rintro e w' ⟨rfl,rfl⟩
  exact ⟨rfl,hbk,hown,rfl,rfl,rfl,rfl,fun _ _=>rfl⟩
end Go.Proofs.YtefelnhpfdcleaaGreatDoor
namespace Go.Proofs.YtefelnhpfdcleaaGreatDoor
open Go Go.RowKit Go.Sx
set_option maxHeartbeats 2000000
set_option maxRecDepth 100000
structure Ank (w : World) (b : Nat) (p v : Value) (s : List UInt8) : Prop where
 pp : p = .pointer none∨p = .pointer (some ⟨b,0,none⟩)
 at_ : w.heap[b]? = some (.cells #[p,v] 104 (0,0))
 own : w.ownsRow 0 5 1 v s.length (Lib.byteCells s)
 ne : v.ownBlock≠some b
def bldPost (w' : World) (b : Nat) (v' : Value) : Hl→Prop
 | .bld T e s'=>T = 104∧e = 5∧∃ p',Ank w' b p' v' s'
 | .gone=>v'.ownBlock = none
 | _=>False
theorem To {gl : List (Nat×SV)} {f : FuncId} {as1 : List SV} {s : List UInt8} {r : SV} {hl : Hl}
  (run : ∀ (E : Env) (b : Nat) (p v : Value) (w : World) (vals : List Value),Ank w b p v s→A2 E w as1 vals→Calls Tryz.prog f ⟨.pointer (some ⟨b,0,none⟩) :: vals⟩ w fun e w'=>∃ ev v',e = .returned ev∧(∀ E,Rel E w' r ev)∧Anl b v v' w w'∧bldPost w' b v' hl) :
  Dk Tryz.prog gl f (.ptr 0 0 :: as1) [.bld 104 5 s] r [hl]:=by
 intro B E w vals hw0 hI0 hdom hb hg hh hr
 have h0:=hh 0
 obtain ⟨b,p,v,h1,h2,h3,h4,h5,h6,h7,h8⟩:=h0
 match vals,hr with
 | u :: vals,hr =>
  obtain ⟨b',hb',hu⟩:=(hr.2 0 _ u rfl rfl).ptr_inv
  obtain rfl : b = b':=Option.some.inj (h1.symm.trans hb')
  subst hu
  refine (run E b p v w vals ⟨h3,h4,h5,h6⟩ ⟨by have:=hr.1; simpa using this,fun i s' u' a c=>hr.2 (i + 1) s' u' a c⟩).mono ?_
  rintro e w' ⟨ev,v',rfl,hev,K,hpost⟩
  let E' : Env:=⟨E.β,E.τ,fun k=>if v'.ownBlock = some k then some 0 else E.O k,E.κ,E.ζ,E.I⟩
  have hX : ∀ k,E.O k = some 0→B.w0.heap.size≤k∨B.X k:=fun k hk=>(hb.Obd k 0 hk).2
  have hkeep : ∀ k,k < w.heap.size→(∀ j,E.O k = some j→j≠0)→w'.heap[k]? = w.heap[k]?:=by
   intro k hk hn
   refine K.block k hk (fun e=>?_) (fun e=>?_)
   ·subst e; exact hn 0 h2 rfl
   ·exact hn 0 (h8 k e.symm).1 rfl
  have hcell : ∀ b2 o,E.I b2 o→w'.cell? ⟨b2,o,none⟩ = w.cell? ⟨b2,o,none⟩:=by
   intro b2 o hi
   simp only [World.cell?]
   rw [K.block b2 (hb.Ibd b2 o hi) (fun e=>by subst e; exact h7 o hi) (fun e=>(h8 b2 e.symm).2 o hi)]
  have hown' : ∀ k,v'.ownBlock = some k→B.w0.heap.size≤k∨B.X k:=by
   intro k hk
   rcases K.new k hk with h | h
   ·exact hX k (h8 k h).1
   ·left; have:=hb.size; omega
  refine ⟨ev,E',rfl,⟨K.os.trans hb.os,K.tape.trans hb.tape,K.output.trans hb.output,Nat.le_trans hb.size K.size,fun b2 hlt hnX=>?_,fun b2 o hi=>?_,fun b2 o hi=>Nat.lt_of_lt_of_le (hb.Ibd b2 o hi) K.size,hb.Inew,fun b2 j hO=>?_,⟨hb.β0.β,hb.β0.τ,hb.β0.ζ⟩⟩,fun k hk=>?_,hev E'⟩
  ·rw [hkeep b2 (by have:=hb.size; omega) (fun j hj e=>?_)]
   ·exact hb.old b2 hlt hnX
   ·subst e
    rcases hX b2 hj with h | h
    ·omega
    ·exact hnX h
  ·obtain ⟨i1,i2⟩:=hb.I0 b2 o hi
   exact ⟨i1,by rw [hcell b2 o i1]; exact i2⟩
  ·have hO : (if v'.ownBlock = some b2 then some 0 else E.O b2) = some j:=hO
   split at hO
   ·rename_i hv
    refine ⟨?_,hown' b2 hv⟩
    cases hl with
    | bld T e s' =>
     obtain ⟨_,_,p',hA⟩:=hpost
     exact (hA.own.lt b2 hv).2
    | gone =>
     have hn : v'.ownBlock = none:=hpost
     rw [hn] at hv; cases hv
    | _=>exact hpost.elim
   ·obtain ⟨o1,o2⟩:=hb.Obd b2 j hO
    exact ⟨Nat.lt_of_lt_of_le o1 K.size,o2⟩
  ·obtain rfl : k = 0:=by simpa using hk
   cases hl with
   | bld T e s' =>
    obtain ⟨rfl,rfl,p',hA⟩:=hpost
    have hI : ∀ g,v'.ownBlock = some g→∀ o,¬ E.I g o:=by
     intro g hg o hi
     rcases K.new g hg with h | h
     ·exact (h8 g h).2 o hi
     ·have:=hb.Ibd g o hi; omega
    refine ⟨b,p',v',h1,?_,hA.pp,hA.at_,hA.own,hA.ne,h7,fun g hg=>⟨?_,hI g hg⟩⟩
    ·show (if v'.ownBlock = some b then some 0 else E.O b) = some 0
     rw [if_neg hA.ne]; exact h2
    ·show (if v'.ownBlock = some g then some 0 else E.O g) = some 0
     rw [if_pos hg]
   | gone=>trivial
   | _=>exact hpost.elim
 | [],hr=>exact absurd hr.1 (by simp)
end Go.Proofs.YtefelnhpfdcleaaGreatDoor
namespace Go.Proofs.YtefelnhpfdcleaaGreatDoor
open Go Go.RowKit Go.Sx
set_option maxHeartbeats 2000000
set_option maxRecDepth 100000
theorem bPtr : Tryz.prog.underlying 124 = some (.pointer 5):=by kernel_rfl
theorem bCells : Tryz.prog.cellsOf 5 = 1:=by kernel_rfl
structure Kr (v : Value) (w w' : World) : Prop where
 os : w'.os = w.os
 tape : w'.tape = w.tape
 output : w'.output = w.output
 size : w.heap.size≤w'.heap.size
 block : ∀ k,k < w.heap.size→some k≠v.ownBlock→w'.heap[k]? = w.heap[k]?
theorem Kr.drew (v : Value) (w : World) : Kr v w w.drew:=⟨rfl,rfl,rfl,Nat.le_refl _,fun _ _ _=>rfl⟩
theorem Fs (W : World) (q : Option Addr) : (Builtin.unsafeString_ #[124,3] 9 #[.pointer q,.int .i64 0]).run Tryz.prog W = .ok (.string .empty) W :=
 Lib.run_unsafeString_none W _ _ _ q
theorem Ab6 (b g cap : Nat) (p : Value) (cur : Array Value) (l : List UInt8) (w : World) (h0 : l≠[]) (hbk : w.heap[b]? = some (.cells #[p,.slice (some ⟨g,0,none⟩) l.length cap] 104 (0,0))) (hg : w.heap[g]? = some (.cells cur 5 (0,0)))
  (hown : w.ownsRow 0 5 1 (.slice (some ⟨g,0,none⟩) l.length cap) l.length (Lib.byteCells l)) (hnc : l.length≤cap) (hcm : cap≤maxLen) (hcs : cur.size = cap * 1) :
  Calls Tryz.prog 81 #[.pointer (some ⟨b,0,none⟩)] w fun e w'=>e = .returned (.string ⟨l.toArray⟩)∧Kr (.slice (some ⟨g,0,none⟩) l.length cap) w w':=by
 have hl0 : l.length≠0:=by simpa using h0
 have c1 : w.drew.cell? ⟨b,1,none⟩ = some (.slice (some ⟨g,0,none⟩) l.length cap):=by
  have : w.drew.heap[b]? = some (.cells #[p,.slice (some ⟨g,0,none⟩) l.length cap] 104 (0,0)):=hbk
  rw [Lib.cell_of_heap this]; rfl
 have hSD : (Builtin.unsafeSliceData_ #[36] 124 #[.slice (some ⟨g,0,none⟩) l.length cap]).run Tryz.prog w.drew = .ok (.pointer (some ⟨g,0,none⟩)) w.drew :=
  Lib.run_unsafeSliceData_row _ _ _ _ _ _ (by omega)
 have hUS : (Builtin.unsafeString_ #[124,3] 9 #[.pointer (some ⟨g,0,none⟩),.int .i64 l.length]).run Tryz.prog w.drew = .ok (.string ⟨l.toArray⟩) (w.drew.freeze ⟨g,0,none⟩ l.length):=by
  refine Lib.run_unsafeString_row w.drew 124 3 9 5 bPtr bCells g cur.size (by have hg' : w.drew.heap[g]? = some (.cells cur 5 (0,0)):=hg; simp [World.shape?,hg']) l h0 (by omega) (by unfold maxLen at hcm; omega) ?_
  intro j x hx
  have:=hown.cells (g:=g) rfl j (.int .u8 x.toNat) (by simp [Lib.byteCells,hx])
  exact this
 have hfz : Kr (.slice (some ⟨g,0,none⟩) l.length cap) w (w.drew.freeze ⟨g,0,none⟩ l.length):=by
  unfold World.freeze
  rw [if_neg hl0]
  refine ⟨rfl,rfl,rfl,by simp,fun k hk hne=>?_⟩
  simp only [Array.getElem?_modify]
  rw [if_neg (fun e=>hne (by rw [←e]; rfl))]
  rfl
 go_enter Tryz.func81,Tryz.ntmps81
 go_wp2
 go_region
 all_goals (go_wp2; go_ret; exact ⟨rfl,hfz⟩)
theorem Aeu (b : Nat) (p : Value) (w : World) (hbk : w.heap[b]? = some (.cells #[p,.slice none 0 0] 104 (0,0))) :
  Calls Tryz.prog 81 #[.pointer (some ⟨b,0,none⟩)] w fun e w'=>e = .returned (.string ⟨#[]⟩)∧Kr (.slice none 0 0) w w':=by
 have hUS:=Fs
 have c1 : w.drew.cell? ⟨b,1,none⟩ = some (.slice none 0 0):=by
  have : w.drew.heap[b]? = some (.cells #[p,.slice none 0 0] 104 (0,0)):=hbk
  rw [Lib.cell_of_heap this]; rfl
 have hSD : (Builtin.unsafeSliceData_ #[36] 124 #[.slice none 0 0]).run Tryz.prog w.drew = .ok (.pointer none) w.drew:=rfl
 go_enter Tryz.func81,Tryz.ntmps81
 go_wp2
 go_region
 all_goals (go_wp2; go_ret; exact ⟨rfl,Kr.drew _ w⟩)
theorem Ab7 (b g cap : Nat) (p : Value) (w : World) (hc0 : cap≠0) (hbk : w.heap[b]? = some (.cells #[p,.slice (some ⟨g,0,none⟩) 0 cap] 104 (0,0))) :
  Calls Tryz.prog 81 #[.pointer (some ⟨b,0,none⟩)] w fun e w'=>e = .returned (.string ⟨#[]⟩)∧Kr (.slice (some ⟨g,0,none⟩) 0 cap) w w':=by
 have hUS:=Fs
 have c1 : w.drew.cell? ⟨b,1,none⟩ = some (.slice (some ⟨g,0,none⟩) 0 cap):=by
  have : w.drew.heap[b]? = some (.cells #[p,.slice (some ⟨g,0,none⟩) 0 cap] 104 (0,0)):=hbk
  rw [Lib.cell_of_heap this]; rfl
 have hSD : (Builtin.unsafeSliceData_ #[36] 124 #[.slice (some ⟨g,0,none⟩) 0 cap]).run Tryz.prog w.drew = .ok (.pointer (some ⟨g,0,none⟩)) w.drew :=
  Lib.run_unsafeSliceData_row _ _ _ _ _ _ hc0
 clear hc0
 go_enter Tryz.func81,Tryz.ntmps81
 go_wp2
 go_region
 all_goals (go_wp2; go_ret; exact ⟨rfl,Kr.drew _ w⟩)
theorem Xw (b g : Nat) (p : Value) (cur : Array Value) (w : World) (hbk : w.heap[b]? = some (.cells #[p,.slice (some ⟨g,0,none⟩) 0 0] 104 (0,0))) (hg : w.heap[g]? = some (.cells cur 5 (0,0))) :
  Calls Tryz.prog 81 #[.pointer (some ⟨b,0,none⟩)] w fun e w'=>e = .returned (.string ⟨#[]⟩)∧Kr (.slice (some ⟨g,0,none⟩) 0 0) w w':=by
 have hUS:=Fs
 have hlt : b < w.heap.size:=by
  rcases Nat.lt_or_ge b w.heap.size with h' | h'
  ·exact h'
  ·simp [Array.getElem?_eq_none h'] at hbk
 have c1 : w.drew.cell? ⟨b,1,none⟩ = some (.slice (some ⟨g,0,none⟩) 0 0):=by
  have : w.drew.heap[b]? = some (.cells #[p,.slice (some ⟨g,0,none⟩) 0 0] 104 (0,0)):=hbk
  rw [Lib.cell_of_heap this]; rfl
 have hSD : (Builtin.unsafeSliceData_ #[36] 124 #[.slice (some ⟨g,0,none⟩) 0 0]).run Tryz.prog w.drew = .ok (.pointer (some ⟨w.drew.heap.size,0,none⟩)) (w.drew.alloc (.view ⟨g,0,none⟩ 5)) :=
  Lib.run_unsafeSliceData_zero w.drew _ _ 5 bPtr ⟨g,0,none⟩ 0 (5,cur.size) (by have hg' : w.drew.heap[g]? = some (.cells cur 5 (0,0)):=hg; simp [World.shape?,hg'])
 have c2 : (w.drew.alloc (.view ⟨g,0,none⟩ 5)).cell? ⟨b,1,none⟩ = some (.slice (some ⟨g,0,none⟩) 0 0):=by
  have : (w.drew.alloc (.view ⟨g,0,none⟩ 5)).heap[b]? = _:=(Lib.alloc_old w.drew _ b hlt).trans hbk
  rw [Lib.cell_of_heap this]; rfl
 have c3 : (w.alloc (.view ⟨g,0,none⟩ 5)).drew.cell? ⟨b,1,none⟩ = some (.slice (some ⟨g,0,none⟩) 0 0):=c2
 have c0 : w.cell? ⟨b,1,none⟩ = some (.slice (some ⟨g,0,none⟩) 0 0):=c1
 have hk : Kr (.slice (some ⟨g,0,none⟩) 0 0) w (w.alloc (.view ⟨g,0,none⟩ 5)).drew:=⟨rfl,rfl,rfl,by show w.heap.size≤(w.heap.push _).size; simp,fun k hk _=>Lib.alloc_old w _ k hk⟩
 go_enter Tryz.func81,Tryz.ntmps81
 go_wp2
 go_region
 all_goals (go_wp2; go_ret; exact ⟨rfl,hk⟩)
theorem Kr.b {v : Value} {b : Nat} {w w' : World} (h : Kr v w w') : Anl b v .nilIface w w' :=
 ⟨h.os,h.tape,h.output,h.size,fun k h1 _ h3=>h.block k h1 h3,fun k hk=>by simp [Value.ownBlock] at hk⟩
theorem Aet (b : Nat) (p v : Value) (s : List UInt8) (w : World) (A : Ank w b p v s) :
  Calls Tryz.prog 81 #[.pointer (some ⟨b,0,none⟩)] w fun e w'=>e = .returned (.string (Sx.bytes s))∧Kr v w w':=by
 have hown:=A.own
 have hbk:=A.at_
 rcases hown.2 with ⟨rfl,h0⟩ | ⟨g,cap,cur,rfl,_,hg,hnc,hcm,hcs,_⟩
 ·obtain rfl : s = []:=List.eq_nil_of_length_eq_zero h0
  exact Aeu b p w hbk
 ·by_cases h0 : s = []
  ·subst h0
   by_cases hc : cap = 0
   ·subst hc; exact Xw b g p cur w hbk hg
   ·exact Ab7 b g cap p w hc hbk
  ·exact Ab6 b g cap p cur s w h0 hbk hg hown hnc hcm hcs
def spBS : FSpec:=fun _ xs ls K=>∃ (s : List UInt8),xs = [.ptr 0 0]∧ls = [.bld 104 5 s]∧K (.str s) [.gone]
theorem Aie : Ar Tryz.prog gl 81 spBS:=by
 refine ⟨⟨Tryz.f81,_,Tryz.func81,rfl,by kernel_rfl⟩,fun xs ls K h=>?_⟩
 obtain ⟨s,rfl,rfl,h⟩:=h
 refine ⟨_,_,h,To (as1:=[]) fun E b p v w vals A hr=>?_⟩
 obtain rfl : vals = []:=List.eq_nil_of_length_eq_zero (by have:=hr.1; simpa using this.symm)
 refine (Aet b p v s w A).mono ?_
 rintro e w' ⟨rfl,k⟩
 exact ⟨_,.nilIface,rfl,fun E=>.ro (.str rfl),k.b,rfl⟩
end Go.Proofs.YtefelnhpfdcleaaGreatDoor
