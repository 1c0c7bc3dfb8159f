/- Part of the proofs of the statements about responses and messages (layers 9 and 10): a symbolic executor over the code, that it is sound, and contracts of functions; it has no conditions of its own. -/
import Derived.Test.YtdoogdbjiijifaaGreatDoorE4Pbl
import Derived.Test.YtdoogdbjiijifaaGreatDoorE4Pbm
namespace Go.Proofs.YtdoogdbjiijifaaGreatDoor
open Go Go.Sx
set_option maxRecDepth 100000
set_option maxHeartbeats 16000000
def spWhole : FSpec:=fun _ xs ls K=>∃ (m b : List UInt8) (nb : Bool) (n : Int) (f : Nat->List SV),xs = [.str m,.sl (.a nb) (.a n) 1 f]/\ls = []/\A7 f n b/\b.length<=9223372036854775807/\m.length<=9223372036854775807/\(nb = true->b = [])/\K (.bool (.a true)) []
structure WhJ (m b : List UInt8) (N : Nat) (i : Nat) (I : Int) (k : Nat) : Prop where
 le : i<=N
 I : I = (i : Int)
 m : k = N - i
def whJ (m b : List UInt8) (nb : Bool) (n : Int) (f : Nat->List SV) (y0 y : RsC) (N : Nat) (u : Int) (k : Nat) (vs : List (Option SV)) (hp : List Hl) : Prop :=
 ∃ (i : Nat) (I : Int),vs = [some (.sl (.a nb) (.a n) 1 f),some (.ptr 0 0),some (.ptr 1 0),some (.int .i64 (.a u)),some (.int .i64 (.a I))]/\
  hp = [.blk 38 (Q7 y0),.blk 38 (Q7 y)]/\WhJ m b N i I k
theorem Vk : ∀ (b : List UInt8) (s : Rs),(Ag s b).1.method = s.method
 | [],s=>rfl
 | c :: b,s=>by
  rw [Ag]
  split
  ·rfl
  split
  ·rfl
  ·exact (Vk b _).trans (L5 s c)
theorem Ag0 {s : Rs} (h2 : s.phase≠2) (h : Rf s = true) : Ag1 s = (s.phase,10):=by
 unfold Rf at h
 unfold Ag1
 rw [if_neg h2,if_neg]
 rintro ⟨h1,h3⟩
 rw [decide_eq_true h1,decide_eq_true h3] at h
 simp at h
def whT : List UInt8:=[72,84,84,80,47,49,46,49,32,50,48,48,32,79,75,13,10,13,10]
theorem Aff : A2 Tryz.prog gl 4 spWhole:=by
 refine C9 (gh:=[(999985,[])]) mixed C3 (Af Yp (Be (Aes Re (Qf Re)) (Af Ake (Af Adx (Af Afr (Af Afp Av)))))) Tryz.func4 (by kernel_rfl) (by kernel_rfl) ?_
 intro xs ls K h
 unfold spWhole at h
 obtain ⟨m,b,nb,n,f,rfl,rfl,R,hb,hm,hnb,h⟩:=h
 refine ⟨_,_,h,fun D hD=>?_⟩
 clear h
 have VN : VI n b.length:=⟨R.n⟩
 obtain ⟨tk,htk⟩ : ∃ tk,tk = Bj m:=⟨_,rfl⟩
 cbv
 refine br hD (fun hbr=>?_) (fun hbr=>?_)<;>cbv
 ·exact A5 hD rfl
 have hbr : (decide (200 < n) || decide (100 < (m.length : Int))) = false:=by subst hD; exact hbr
 have HB : LeN b.length 200:=⟨by
  rw [Bool.or_eq_false_iff,decide_eq_false_iff_not,decide_eq_false_iff_not] at hbr
  have:=VN.h; omega⟩
 have HM : LeN m.length 100:=⟨by
  rw [Bool.or_eq_false_iff,decide_eq_false_iff_not,decide_eq_false_iff_not] at hbr
  omega⟩
 clear hbr hb hm
 refine ⟨m,rfl,rfl,by have:=HM.h; omega,fun y e hy he=>?_⟩
 cbv
 rw [<-htk] at hy he
 refine br hD (fun hbr=>?_) (fun hbr=>?_)<;>cbv
 ·exact A5 hD rfl
 have ht : tk = true:=by
  have hbr : (e != 0) = false:=by subst hD; exact hbr
  rw [he] at hbr
  cases tk with
  | true=>rfl
  | false=>cases hbr
 subst ht
 rw [if_pos rfl] at hy he
 clear hbr
 have T:=htk.symm
 have O:=I8 T
 have V0 : RsV (rs0 m) y:=by rw [hy]; exact Y6 m
 obtain ⟨k,hk⟩ : ∃ k,k = Ag (rs0 m) b:=⟨_,rfl⟩
 refine .inl ⟨rs0 m,RsC.nm D y,b,D.b (.a nb),D.i (.a n),f,rfl,rfl,by subst hD; exact V0,O,by have:=HM.h; show m.length<=_; omega,by subst hD; exact R,by have:=HB.h; omega,by subst hD; exact hnb,fun k2 hk2=>?_⟩
 obtain rfl : k2 = k:=hk2.trans hk.symm
 clear hk2
 refine ⟨fun hne=>?_,fun h0 y2 u2 V2 N2 hu2=>?_⟩<;>cbv
 ·refine br hD (fun hbr=>?_) (fun hbr=>?_)<;>cbv
  ·exact A5 hD rfl
  ·exfalso
   have hbr : ((k2.2.2 != 0) || (y.ph != 2)) = false:=by subst hD; exact hbr
   rw [Bool.or_eq_false_iff,bne_eq_false_iff_eq] at hbr
   exact hne hbr.1
 refine br hD (fun hbr=>?_) (fun hbr=>?_)<;>cbv
 ·exact A5 hD rfl
 have hp2 : k2.1.phase = 2:=by
  have hbr : (((0 : Int) != 0) || (y2.ph != 2)) = false:=by subst hD; exact hbr
  rw [Bool.or_eq_false_iff,bne_eq_false_iff_eq,bne_eq_false_iff_eq] at hbr
  rw [<-V2.ph]; exact hbr.2
 clear hbr
 have W : Akv m b:=Ahp T (by rw [<-hk]; exact h0) (by rw [<-hk]; exact hp2)
 have VU : VI u2 k2.2.1:=⟨hu2⟩
 have HU1 : LeN 1 k2.2.1:=⟨by rw [hk]; exact W.pos⟩
 have HU2 : LeN k2.2.1 b.length:=⟨by rw [hk]; exact W.le⟩
 have hfr : y2.fr≠3:=by rw [V2.fr,hk]; exact W.cl
 clear hu2
 refine br hD (fun hbr=>?_) (fun hbr=>?_)<;>cbv
 ·exfalso
  have hbr : ((decide (u2 < 1) || decide (n < u2)) || (y2.fr == 3)) = true:=by subst hD; exact hbr
  simp only [Bool.or_eq_true,decide_eq_true_eq,beq_iff_eq] at hbr
  have h1:=HU1.h
  have h2:=HU2.h
  have h3:=VU.h
  have h4:=VN.h
  rcases hbr with (h | h) | h
  ·omega
  ·omega
  ·exact hfr h
 clear hbr
 obtain ⟨J,hJ⟩ : ∃ J,J = whJ m b nb n f y y2 k2.2.1 u2:=⟨_,rfl⟩
 refine ⟨[1,5,7,8,9],J,⟨rfl,k2.2.1,?_⟩,?_⟩
 ·rw [hJ]
  subst hD
  exact ⟨0,0,rfl,rfl,⟨Nat.zero_le _,rfl,rfl⟩⟩
 intro m3 vs hp hv
 rw [hJ] at hv
 obtain ⟨i,I,e1,e2,B⟩:=hv
 subst e1
 cbv at e2
 subst e2
 cbv
 refine br hD (fun hbr=>?_) (fun hbr=>?_)<;>cbv
 ·have hlt : i < k2.2.1:=by
   have hbr : decide (I < u2) = true:=by subst hD; exact hbr
   rw [decide_eq_true_eq,B.I,VU.h] at hbr
   omega
  clear hbr
  have HI : LeN i b.length:=⟨by have:=HU2.h; omega⟩
  refine ⟨by subst hD; exact ⟨Int.le_refl _,by show (0 : Int)<=I; rw [B.I]; omega,by show I<=n; rw [B.I,VN.h]; have:=HI.h; omega⟩,fun f3 n3 hsub=>?_⟩
  cbv
  have R3 : A7 f3 n3 (b.take i):=by
   have:=R.sub (a:=0) (b:=i) hsub (by subst hD; rfl) (by subst hD; exact B.I) (Nat.zero_le _) HI.h
   simpa using this
  clear hsub
  obtain ⟨P1,P2,P3,P4,P5⟩:=W.part i (by rw [<-hk]; exact hlt)
  obtain ⟨q,hq⟩ : ∃ q,q = Ag (rs0 m) (b.take i):=⟨_,rfl⟩
  rw [<-hq] at P1 P2 P3 P4 P5
  refine .inl ⟨rs0 m,RsC.nm D y,b.take i,D.b (.a nb),D.i (.a n3),f3,rfl,rfl,by subst hD; exact V0,O,by have:=HM.h; show m.length<=_; omega,by subst hD; exact R3,by rw [List.length_take]; have:=HB.h; omega,by subst hD; exact fun h=>by rw [hnb h]; exact List.take_nil,fun k4 hk4=>?_⟩
  obtain rfl : k4 = q:=hk4.trans hq.symm
  clear hk4
  refine ⟨fun hne=>?_,fun _ y3 u3 V3 N3 hu3=>?_⟩<;>cbv
  ·exact absurd P2 hne
  have E3 : EqI u3 I:=⟨by rw [hu3,P3,B.I]⟩
  clear hu3
  have hmk : k4.1.method.length<=9223372036854775807:=by
   rw [hq,Vk]
   show m.length<=_
   have:=HM.h; omega
  have HMK : LeN k4.1.method.length 9223372036854775807:=⟨hmk⟩
  clear hmk
  refine ⟨k4.1,RsC.nm D y3,rfl,rfl,by subst hD; exact V3,P1,HMK.h,fun p e5 hpe=>?_⟩
  cbv
  rw [Ag0 P4 P5] at hpe
  have E5 : EqI e5 10:=⟨(Prod.mk.inj hpe).2⟩
  clear hpe
  refine ⟨k4.1,RsC.nm D y3,rfl,rfl,by subst hD; exact V3,P1,HMK.h,fun _=>?_,fun h=>?_⟩<;>cbv
  rotate_left
  ·exact absurd h P4
  refine br hD (fun hbr=>?_) (fun hbr=>?_)<;>cbv
  ·exfalso
   have hbr : ((((((0 : Int) != 0) || (u3 != I)) || (y3.ph == 2)) || (e5 != 10)) || ((9 : Int) != 9)) = true:=by subst hD; exact hbr
   have hph : y3.ph≠2:=by rw [V3.ph]; exact P4
   rw [E3.h,E5.h,beq_eq_false_iff_ne.2 hph] at hbr
   simp at hbr
  refine ⟨k2.2.1 - (i + 1),by have:=B.m; omega,?_⟩
  rw [hJ]
  have hw : IntKind.i64.wrap (I + 1) = ((i + 1 : Nat) : Int):=by
   have h1:=HI.h
   have h2:=HB.h
   rw [B.I,Bk (by omega) (by omega)]; omega
  subst hD
  exact ⟨i + 1,_,rfl,rfl,⟨hlt,hw,rfl⟩⟩
 ·clear hbr
  intro g1 hg1
  cbv
  refine ⟨by subst hD; exact ⟨Int.le_refl _,by show (0 : Int)<=u2; rw [VU.h]; omega,by show u2<=n; rw [VU.h,VN.h]; have:=HU2.h; omega⟩,fun f5 n5 hsub=>?_⟩
  cbv
  have R5 : A7 f5 n5 (b.take k2.2.1):=by
   have:=R.sub (a:=0) (b:=k2.2.1) hsub (by subst hD; rfl) (by subst hD; exact VU.h) (Nat.zero_le _) HU2.h
   simpa using this
  clear hsub
  have HT : LeN (b.take k2.2.1).length 200:=⟨by rw [List.length_take]; have:=HB.h; omega⟩
  have VT : VI n5 (b.take k2.2.1).length:=⟨R5.n⟩
  refine ⟨by subst hD; exact ⟨rfl,by show ((0 : Int) + n5) * 1<=_; rw [VT.h]; have:=HT.h; omega,by show (0 : Int) + n5<=_; rw [VT.h]; have:=HT.h; omega⟩,fun f6 n6 hm6=>?_⟩
  have R6 : A7 f6 n6 (b.take k2.2.1):=by
   subst hD
   have R0 : A7 g1 0 []:=⟨rfl,fun i hi=>by cases hi⟩
   have:=R0.more (u:=b.take k2.2.1) R5.n R5.f hm6
   simpa using this
  clear hm6
  cbv
  have V6 : VI n6 (b.take k2.2.1).length:=⟨R6.n⟩
  refine ⟨by subst hD; exact ⟨rfl,by show (n6 + 19) * 1<=_; rw [V6.h]; have:=HT.h; omega,by show n6 + 19<=_; rw [V6.h]; have:=HT.h; omega⟩,fun f7 n7 hm7=>?_⟩
  have R7 : A7 f7 n7 (b.take k2.2.1 ++ whT):=by
   subst hD
   exact R6.more (u:=whT) rfl (fun i _=>rfl) hm7
  clear hm7
  cbv
  have HW : LeN (b.take k2.2.1 ++ whT).length 300:=⟨by rw [List.length_append]; have:=HT.h; have : whT.length = 19:=rfl; omega⟩
  refine .inr ⟨_,_,_,_,_,_,_,f7,rfl,rfl,rfl,rfl,rs0 m,RsC.nm D y,b.take k2.2.1 ++ whT,_,_,f7,rfl,rfl,by subst hD; exact V0,O,by have:=HM.h; show m.length<=_; omega,by subst hD; exact R7,by have:=HW.h; omega,fun h=>(by subst hD; cases h),fun k9 hk9=>?_⟩
  obtain rfl : k9 = k2:=(hk9.trans (by rw [hk]; exact W.more whT)).trans hk.symm
  clear hk9
  refine ⟨fun hne=>?_,fun _ y8 u8 V8 N8 hu8=>?_⟩<;>cbv
  ·exact absurd h0 hne
  have E8 : EqI u8 u2:=⟨by rw [hu8,VU.h]⟩
  clear hu8
  refine ⟨k9.1,k9.1,RsC.nm D y2,RsC.nm D y8,rfl,rfl,by subst hD; exact V2,by subst hD; exact V8,fun r hr=>?_⟩
  rw [Yw] at hr
  subst hr
  cbv
  refine A5 hD ?_
  show (((((0 : Int) == 0) && (u8 == u2)) && true) && true) = true
  rw [E8.h]; simp
end Go.Proofs.YtdoogdbjiijifaaGreatDoor
