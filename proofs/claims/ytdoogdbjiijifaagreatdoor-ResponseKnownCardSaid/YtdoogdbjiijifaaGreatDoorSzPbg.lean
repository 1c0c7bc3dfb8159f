/- Part of the proofs of the statements about responses and messages (layers 9 and 10): a symbolic executor over the code, that it is sound, and contracts of functions; it has no conditions of its own. -/
import Derived.Test.YtdoogdbjiijifaaGreatDoorSzPbf
import Derived.Test.YtdoogdbjiijifaaGreatDoorSzPaz
namespace Go.Proofs.YtdoogdbjiijifaaGreatDoor
open Go Go.Sx
set_option maxRecDepth 100000
set_option maxHeartbeats 6000000
theorem Pu {ph ph' inf inf' mi mi' st st' fl fl' fr fr' lf lf' cp cp' cf cf' ct ct' n n' nl nl' g g' : ST} {m ln re bo cl cd : List UInt8} {fb fb' cb cb' nb nb' nn nn' : BT} {ff ff' ctf ctf' f f' : Nat→List SV}
  (h1 : ph.den = ph'.den) (h2 : inf.den = inf'.den) (h3 : mi.den = mi'.den) (h4 : st.den = st'.den) (h5 : LeV (.sl fb fl 2 ff) (.sl fb' fl' 2 ff')) (h6 : fr.den = fr'.den) (h7 : lf.den = lf'.den) (h8 : cp.den = cp'.den) (h9 : cf.den = cf'.den) (h10 : LeV (.sl cb ct 2 ctf) (.sl cb' ct' 2 ctf')) (h11 : LeV (.sl nb n 1 f) (.sl nb' n' 1 f')) (h12 : LeV (.vsl nn nl g 1) (.vsl nn' nl' g' 1)) :
  LeL [.str m,.int .i64 ph,.int .i64 inf,.str ln,.int .i64 mi,.int .i64 st,.str re,.sl fb fl 2 ff,.int .i64 fr,.str bo,.int .i64 lf,.int .i64 cp,.str cl,.str cd,.int .i64 cf,.sl cb ct 2 ctf,.sl nb n 1 f,.vsl nn nl g 1]
   [.str m,.int .i64 ph',.int .i64 inf',.str ln,.int .i64 mi',.int .i64 st',.str re,.sl fb' fl' 2 ff',.int .i64 fr',.str bo,.int .i64 lf',.int .i64 cp',.str cl,.str cd,.int .i64 cf',.sl cb' ct' 2 ctf',.sl nb' n' 1 f',.vsl nn' nl' g' 1] :=
 .cons (Ce _) (.cons (Al h1) (.cons (Al h2) (.cons (Ce _) (.cons (Al h3) (.cons (Al h4) (.cons (Ce _) (.cons h5 (.cons (Al h6) (.cons (Ce _) (.cons (Al h7) (.cons (Al h8) (.cons (Ce _) (.cons (Ce _) (.cons (Al h9) (.cons h10 (.cons h11 (.cons h12 .nil)))))))))))))))))
theorem Ov {nb nb' : BT} {n n' : ST} {f f' : Nat→List SV} {N N' : Int} {t : List UInt8} (R : A8 f N t) (R' : A8 f' N' t) (h : nb.den = nb'.den) (hn : n.den = N) (hn' : n'.den = N') : LeV (.sl nb n 1 f) (.sl nb' n' 1 f'):=by
 have e1:=R.n
 have e2:=R'.n
 refine LeV.sl h (by omega) fun i hi=>?_
 rw [R.f i (by omega),R'.f i (by omega)]
def spSizedR : FSpec:=fun _ xs ls K=>∃ (x : RsC) (b : List UInt8) (k : Nat) (nb : Bool) (n : Int) (f : Nat→List SV) (nn : Bool) (nl g : Int) (nf : Nat→List SV),
 xs = [.ptr 0 0]∧ls = [.blk 125 (I7 x nb n f nn nl g),.vec 5 (.a nl) (.a g) 1 nf]∧(k : Int) = min x.lf (b.length : Int)∧A8 f n b∧b.length≤1000000∧x.bo.length≤1000000∧0≤x.lf∧x.lf≤1000000∧
 ∀ ph' bo' lf' n' f',ph' = (if x.lf - (k : Int) = 0 then 2 else x.ph)→bo' = x.bo ++ b.take k→lf' = x.lf - (k : Int)→A8 f' n' (b.drop k)→K (.int .i64 (.a 0)) [.blk 125 (I7 { x with ph:=ph',bo:=bo',lf:=lf' } nb n' f' nn nl g),.vec 5 (.a nl) (.a g) 1 nf]
theorem Aev : A2 Tryz.prog gl 77 spSizedR:=by
 refine Ek (gh:=[]) mixed Dd (Bf Acr Aw) Tryz.func77 (by kernel_rfl) (by kernel_rfl) ?_
 intro xs ls K h
 unfold spSizedR at h
 obtain ⟨x,b,k,nb,n,f,nn,nl,g,nf,rfl,rfl,hk,R,hb,hbo,hl0,hl1,h⟩:=h
 obtain ⟨T,hT⟩ : ∃ T,T = b.drop k:=⟨_,rfl⟩
 obtain ⟨N,VN⟩ : ∃ N : Int,VI N T.length:=⟨_,⟨rfl⟩⟩
 obtain ⟨B,hB⟩ : ∃ B,B = x.bo ++ b.take k:=⟨_,rfl⟩
 obtain ⟨W,hW⟩ : ∃ W : Int,W = x.lf - (k : Int):=⟨_,rfl⟩
 obtain ⟨P,hP⟩ : ∃ P : Int,P = if W = 0 then 2 else x.ph:=⟨_,rfl⟩
 have RT : A8 (byteRow T) N T:=⟨VN.h,fun i _=>rfl⟩
 have h:=h P B W N (byteRow T) (by rw [hP,hW]) hB hW (by rw [←hT]; exact RT)
 have VB : VI n b.length:=⟨R.n⟩
 have HB : LeN b.length 1000000:=⟨hb⟩
 have HO : LeN x.bo.length 1000000:=⟨hbo⟩
 obtain ⟨LF,hLF⟩ : ∃ LF,LF = x.lf:=⟨_,rfl⟩
 obtain ⟨PH,hPH⟩ : ∃ PH,PH = x.ph:=⟨_,rfl⟩
 obtain ⟨BO,hBO⟩ : ∃ BO,BO = x.bo:=⟨_,rfl⟩
 rw [←hLF] at hk hl0 hl1 hW
 rw [←hPH] at hP
 rw [←hBO] at hB
 have hkl : k≤b.length:=by omega
 have hwr : IntKind.i64.wrap (LF - (k : Int)) = W:=by rw [hW]; exact Bl (by omega) (by omega)
 have EK : EqI (k : Int) (min LF (b.length : Int)):=⟨hk⟩
 obtain ⟨KI,hKI⟩ : ∃ KI : Int,KI = (k : Int):=⟨_,rfl⟩
 rw [←hKI] at hwr
 have EW : EqI (IntKind.i64.wrap (LF - KI)) W:=⟨hwr⟩
 have HK : LeN k b.length:=⟨hkl⟩
 clear hk hb hbo hl0 hl1 hkl hwr
 refine ⟨_,_,h,fun D hD=>?_⟩
 clear h
 obtain ⟨m,ph,inf,ln,mi,st,re,fb,fl,ff,fr,bo,lf,cp,cl,cd,cf,cb,ct,ctf⟩:=x
 simp only at hLF hPH hBO
 subst hLF hPH hBO
 cbv
 intro r hr
 cbv
 have hr : r = KI:=by
  have h1 : r = min LF n:=by subst hD; exact hr.h
  rw [h1,hKI,EK.h,VB.h]
 subst hr
 refine ⟨RsC.nm D ⟨m,PH,inf,ln,mi,st,re,fb,fl,ff,fr,BO,LF,cp,cl,cd,cf,cb,ct,ctf⟩,b,k,D.i (.a r),D.b (.a nb),D.i (.a n),f,D.b (.a nn),D.i (.a nl),D.i (.a g),nf,rfl,rfl,by subst hD; exact hKI,by subst hD; exact R,HK.h,HB.h,HO.h,fun bo2 n2 f2 hb2 R2=>?_⟩
 cbv
 have hb2 : bo2 = B:=hb2.trans hB.symm
 rw [←hT] at R2
 subst hb2
 refine br hD (fun hb=>?_) (fun hb=>?_)<;>cbv
 ·have hb : (IntKind.i64.wrap (LF - r) == 0) = true:=by subst hD; exact hb
  rw [EW.h,beq_iff_eq] at hb
  rw [if_pos hb] at hP
  subst hD hP
  exact ⟨Al rfl,Cp (LeH.cons (Am (Pu rfl rfl rfl rfl (LeV.refl _) rfl (by exact EW.h) rfl rfl (LeV.refl _) (Ov R2 RT rfl rfl rfl) (LeV.refl _))) fun _ _ _ _ h=>h),Nat.le_refl _⟩
 ·have hb : (IntKind.i64.wrap (LF - r) == 0) = false:=by subst hD; exact hb
  rw [EW.h,beq_eq_false_iff_ne] at hb
  rw [if_neg hb] at hP
  subst hD hP
  exact ⟨Al rfl,Cp (LeH.cons (Am (Pu rfl rfl rfl rfl (LeV.refl _) rfl (by exact EW.h) rfl rfl (LeV.refl _) (Ov R2 RT rfl rfl rfl) (LeV.refl _))) fun _ _ _ _ h=>h),Nat.le_refl _⟩
end Go.Proofs.YtdoogdbjiijifaaGreatDoor
namespace Go.Proofs.YtdoogdbjiijifaaGreatDoor
open Go Go.Sx
set_option maxRecDepth 100000
set_option maxHeartbeats 6000000
theorem Jg {t t' : ST} {a b : Hl} (he : t.den = t'.den) : Fin (.int .i64 t) (.int .i64 t') [a,b] [.gone,.gone]:=by
 refine ⟨Al he,fun h E w hk=>?_,Nat.le_refl _⟩
 match h with
 | 0=>trivial
 | 1=>trivial
 | h + 2=>exact hk
def spClosedR : FSpec:=fun _ xs ls K=>∃ (x : RsC) (b : List UInt8) (nb : Bool) (n : Int) (f : Nat→List SV) (nn : Bool) (nl g : Int) (nf : Nat→List SV),
 xs = [.ptr 0 0]∧ls = [.blk 125 (I7 x nb n f nn nl g),.vec 5 (.a nl) (.a g) 1 nf]∧A8 f n b∧b.length≤1000000∧x.bo.length≤1000000∧
 (65536 < x.bo.length + b.length→K (.int .i64 (.a 3)) [.gone,.gone])∧
 (x.bo.length + b.length≤65536→∀ bo' n' f',bo' = x.bo ++ b→A8 f' n' []→K (.int .i64 (.a 0)) [.blk 125 (I7 { x with bo:=bo' } nb n' f' nn nl g),.vec 5 (.a nl) (.a g) 1 nf])
theorem Aca : A2 Tryz.prog gl 79 spClosedR:=by
 refine Ek (gh:=[]) mixed Dd (Bf Acr Aw) Tryz.func79 (by kernel_rfl) (by kernel_rfl) ?_
 intro xs ls K h
 unfold spClosedR at h
 obtain ⟨x,b,nb,n,f,nn,nl,g,nf,rfl,rfl,R,hb,hbo,h1,h2⟩:=h
 obtain ⟨B,hB⟩ : ∃ B,B = x.bo ++ b:=⟨_,rfl⟩
 have VB : VI n b.length:=⟨R.n⟩
 have HB : LeN b.length 1000000:=⟨hb⟩
 have HO : LeN x.bo.length 1000000:=⟨hbo⟩
 have R0 : A8 (fun _=>[]) 0 []:=⟨rfl,fun i hi=>by cases hi⟩
 obtain ⟨BO,hBO⟩ : ∃ BO,BO = x.bo:=⟨_,rfl⟩
 obtain ⟨W,hW⟩ : ∃ W : Int,W = IntKind.i64.wrap ((BO.length : Int) + n):=⟨_,rfl⟩
 have hw : W = (BO.length : Int) + b.length:=by rw [hW,VB.h]; rw [hBO]; exact Bl (by omega) (by omega)
 have EW : EqI W (IntKind.i64.wrap ((BO.length : Int) + n)):=⟨hW⟩
 clear hW
 rw [←hBO] at hB h1 h2
 by_cases hbig : 65536 < BO.length + b.length
 ·have hd : decide (65536 < W) = true:=by rw [hw,decide_eq_true_eq]; omega
  refine ⟨_,_,h1 hbig,fun D hD=>?_⟩
  clear h1 h2 hw hb hbo
  obtain ⟨m,ph,inf,ln,mi,st,re,fb,fl,ff,fr,bo,lf,cp,cl,cd,cf,cb,ct,ctf⟩:=x
  simp only at hBO
  subst hBO
  cbv
  refine br hD (fun hb=>?_) (fun hb=>?_)<;>cbv
  ·subst hD; exact Jg rfl
  ·exfalso
   have hb : decide (65536 < IntKind.i64.wrap ((BO.length : Int) + n)) = false:=by subst hD; exact hb
   rw [←EW.h,hd] at hb
   cases hb
 ·have hd : decide (65536 < W) = false:=by rw [hw,decide_eq_false_iff_not]; omega
  have h:=h2 (by omega) B 0 (fun _=>[]) hB R0
  refine ⟨_,_,h,fun D hD=>?_⟩
  clear h1 h2 h hw hb hbo
  obtain ⟨m,ph,inf,ln,mi,st,re,fb,fl,ff,fr,bo,lf,cp,cl,cd,cf,cb,ct,ctf⟩:=x
  simp only at hBO
  subst hBO
  cbv
  refine br hD (fun hb=>?_) (fun hb=>?_)<;>cbv
  ·exfalso
   have hb : decide (65536 < IntKind.i64.wrap ((BO.length : Int) + n)) = true:=by subst hD; exact hb
   rw [←EW.h,hd] at hb
   cases hb
  refine ⟨RsC.nm D ⟨m,ph,inf,ln,mi,st,re,fb,fl,ff,fr,BO,lf,cp,cl,cd,cf,cb,ct,ctf⟩,b,b.length,D.i (.a n),D.b (.a nb),D.i (.a n),f,D.b (.a nn),D.i (.a nl),D.i (.a g),nf,rfl,rfl,by subst hD; exact VB.h,by subst hD; exact R,Nat.le_refl _,HB.h,HO.h,fun bo2 n2 f2 hb2 R2=>?_⟩
  cbv
  have hbx : bo2 = B:=by rw [hb2,hB,List.take_length]; rfl
  clear hb2
  rw [List.drop_length] at R2
  subst hD hbx
  exact ⟨Al rfl,Cp (LeH.cons (Am (Pu rfl rfl rfl rfl (LeV.refl _) rfl rfl rfl rfl (LeV.refl _) (Ov R2 R0 rfl rfl rfl) (LeV.refl _))) fun _ _ _ _ h=>h),Nat.le_refl _⟩
def spChunkedR : FSpec:=fun _ xs ls K=>∃ (x : RsC) (s : Ch) (b : List UInt8) (nb : Bool) (n : Int) (f : Nat→List SV) (nn : Bool) (nl g : Int) (nf : Nat→List SV),
 xs = [.ptr 0 0]∧ls = [.blk 125 (I7 x nb n f nn nl g),.vec 5 (.a nl) (.a g) 1 nf]∧x.cl = s.line∧x.cd = s.data∧ChV s x.cp x.cf x.ct x.ctf∧H7 s∧(s.phase = 4→Hp s.trailers)∧A8 f n b∧b.length≤1000000∧
 ∀ k,k = Bd s b→(k.2.2≠0→K (.int .i64 (.a k.2.2)) [.gone,.gone])∧
  (k.2.2 = 0→∀ ph' cp' cf' cb' ct' ctf' n' f',ChV k.1 cp' cf' ct' ctf'→cb' = tnF s k.1 x.cb→ph' = (if k.1.phase = 4 then 2 else x.ph)→A8 f' n' (b.drop k.2.1)→
   K (.int .i64 (.a 0)) [.blk 125 (I7 { x with ph:=ph',cp:=cp',cl:=k.1.line,cd:=k.1.data,cf:=cf',cb:=cb',ct:=ct',ctf:=ctf' } nb n' f' nn nl g),.vec 5 (.a nl) (.a g) 1 nf])
theorem Aab : ∀ (b : List UInt8) (s : Ch),(Bd s b).2.1≤b.length
 | [],s=>Nat.le_refl _
 | c :: b,s=>by
  unfold Bd
  split
  ·simp
  split
  ·simp
  ·have:=Aab b (chS s c).1
   simp only [List.length_cons]
   omega
theorem Z7 : A2 Tryz.prog gl 78 spChunkedR:=by
 refine Ek (gh:=[]) mixed Dd (Ah Agh Aw) Tryz.func78 (by kernel_rfl) (by kernel_rfl) ?_
 intro xs ls K h
 unfold spChunkedR at h
 obtain ⟨x,s,b,nb,n,f,nn,nl,g,nf,rfl,rfl,hcl,hcd,V,hO,hnm,R,hb,h⟩:=h
 obtain ⟨k,hk⟩ : ∃ k,k = Bd s b:=⟨_,rfl⟩
 have h:=h k hk
 have hkl : k.2.1≤b.length:=by rw [hk]; exact Aab b s
 have hrow : k.2.2 = 0→∃ tl' tf',Bz tf' tl' k.1.trailers:=fun e0=>by rw [hk] at e0 ⊢; exact Pa b s ⟨_,_,V.tr⟩ (by omega) hO e0
 obtain ⟨T,hT⟩ : ∃ T,T = b.drop k.2.1:=⟨_,rfl⟩
 obtain ⟨N,VN⟩ : ∃ N : Int,VI N T.length:=⟨_,⟨rfl⟩⟩
 have RT : A8 (byteRow T) N T:=⟨VN.h,fun i _=>rfl⟩
 obtain ⟨L,hL1,hL2,hK⟩ : ∃ L : List Hl,(k.2.2≠0→L = [.gone,.gone])∧(k.2.2 = 0→∃ ct' ctf',L = [.blk 125 (I7 { x with ph:=(if k.1.phase = 4 then 2 else x.ph),cp:=k.1.phase,cl:=k.1.line,cd:=k.1.data,cf:=k.1.left,cb:=tnF s k.1 x.cb,ct:=ct',ctf:=ctf' } nb N (byteRow T) nn nl g),.vec 5 (.a nl) (.a g) 1 nf]∧Bz ctf' ct' k.1.trailers)∧K (.int .i64 (.a k.2.2)) L:=by
  by_cases e0 : k.2.2 = 0
  ·obtain ⟨tl',tf',hR⟩:=hrow e0
   refine ⟨_,fun h=>absurd e0 h,fun _=>⟨tl',tf',rfl,hR⟩,?_⟩
   rw [e0]
   exact h.2 e0 _ _ _ _ tl' tf' _ _ ⟨rfl,rfl,hR⟩ rfl rfl (by rw [←hT]; exact RT)
  ·exact ⟨_,fun _=>rfl,fun h=>absurd h e0,h.1 e0⟩
 have VB : VI n b.length:=⟨R.n⟩
 have HB : LeN b.length 1000000:=⟨hb⟩
 have HK : LeN k.2.1 b.length:=⟨hkl⟩
 obtain ⟨E,hE⟩ : ∃ E,E = k.2.2:=⟨_,rfl⟩
 rw [←hE] at hK hL1 hL2
 refine ⟨_,_,hK,fun D hD=>?_⟩
 clear hK h hrow hkl hb
 obtain ⟨m,ph,inf,ln,mi,st,re,fb,fl,ff,fr,bo,lf,cp,cl,cd,cf,cb,ct,ctf⟩:=x
 simp only at hcl hcd
 cbv
 refine ⟨s,b,cl,cd,D.i (.a cp),D.i (.a cf),D.b (.a cb),D.i (.a ct),ctf,D.b (.a nb),D.i (.a n),f,rfl,rfl,hcl,hcd,by subst hD; exact ⟨V.eph,V.elf,V.tr⟩,hO,hnm,by subst hD; exact R,HB.h,fun k2 hk2=>?_⟩
 obtain rfl : k2 = k:=hk2.trans hk.symm
 refine ⟨fun hne=>?_,fun h0 cp2 cf2 cb2 ct2 ctf2 u hV hcb hu=>?_⟩<;>cbv
 ·refine br hD (fun hb=>?_) (fun hb=>?_)<;>cbv
  ·rw [hL1 (by rw [hE]; exact hne)]
   subst hD
   exact Jg (by exact hE.symm)
  ·exfalso
   have hb : (k2.2.2 != 0) = false:=by subst hD; exact hb
   exact hne (by simpa using hb)
 ·refine br hD (fun hb=>?_) (fun hb=>?_)<;>cbv
  ·exfalso
   have hb : ((0 : Int) != 0) = true:=by subst hD; exact hb
   cases hb
  clear hb
  have VU : VI u k2.2.1:=⟨hu⟩
  have hu0 : 0≤u:=by rw [VU.h]; exact Int.natCast_nonneg _
  have hu1 : u≤n:=by rw [VU.h,VB.h]; exact Int.ofNat_le.2 HK.h
  refine ⟨by subst hD; exact ⟨by show (0 : Int)≤u; exact hu0,by show u≤n; exact hu1,Int.le_refl _⟩,fun f2 n2 hsub=>?_⟩
  cbv
  have R2 : A8 f2 n2 T:=by
   have:=R.sub (a:=k2.2.1) (b:=b.length) hsub (by subst hD; exact hu) (by subst hD; exact VB.h) HK.h (Nat.le_refl _)
   have e : (b.drop k2.2.1).take (b.length - k2.2.1) = b.drop k2.2.1:=List.take_of_length_le (by rw [List.length_drop]; exact Nat.le_refl _)
   rw [e,←hT] at this
   exact this
  clear hsub
  refine br hD (fun hb=>?_) (fun hb=>?_)<;>cbv
  ·have hb : (cp2 == 4) = true:=by subst hD; exact hb
   have h4 : k2.1.phase = 4:=by rw [←hV.eph]; exact eq_of_beq hb
   obtain ⟨ct3,ctf3,rfl,hR3⟩:=hL2 (by rw [hE]; exact h0)
   rw [if_pos h4]
   have e0 : E = 0:=by rw [hE]; exact h0
   subst hD
   exact ⟨Al (by exact e0.symm),Cp (LeH.cons (Am (Pu rfl rfl rfl rfl (LeV.refl _) rfl rfl (by exact hV.eph) (by exact hV.elf) (H3 hV.tr hR3 (by exact hcb) rfl rfl) (Ov R2 RT rfl rfl rfl) (LeV.refl _))) fun _ _ _ _ h=>h),Nat.le_refl _⟩

  ·have hb : (cp2 == 4) = false:=by subst hD; exact hb
   have h4 : ¬ k2.1.phase = 4:=by rw [←hV.eph]; simpa using hb
   obtain ⟨ct3,ctf3,rfl,hR3⟩:=hL2 (by rw [hE]; exact h0)
   rw [if_neg h4]
   have e0 : E = 0:=by rw [hE]; exact h0
   subst hD
   exact ⟨Al (by exact e0.symm),Cp (LeH.cons (Am (Pu rfl rfl rfl rfl (LeV.refl _) rfl rfl (by exact hV.eph) (by exact hV.elf) (H3 hV.tr hR3 (by exact hcb) rfl rfl) (Ov R2 RT rfl rfl rfl) (LeV.refl _))) fun _ _ _ _ h=>h),Nat.le_refl _⟩

end Go.Proofs.YtdoogdbjiijifaaGreatDoor
namespace Go.Proofs.YtdoogdbjiijifaaGreatDoor
open Go Go.Sx Go.RowKit
set_option maxRecDepth 100000
set_option maxHeartbeats 6000000
def spCutPre : FSpec:=fun _ xs ls K=>∃ (s p : List UInt8),xs = [.str s,.str p]∧ls = []∧∀ r b,r = Lib.trimPrefix s p→b = Lib.hasPrefix s p→K (.tup [.str r,.bool (.a b)]) []
theorem Agc : A2 Tryz.prog gl 55 spCutPre:=by
 refine ⟨⟨Tryz.f55,_,Tryz.func55,rfl,by kernel_rfl⟩,fun xs ls K h=>?_⟩
 obtain ⟨s,p,rfl,rfl,h⟩:=h
 refine ⟨_,_,h _ _ rfl rfl,Bm fun E B w vals _ _ _ hr=>?_⟩
 obtain ⟨v,u,rfl,hv,hu⟩:=D2 hr
 rw [C8 hv,C8 hu]
 refine (J7 ⟨s.toArray⟩ ⟨p.toArray⟩ w).mono ?_
 rintro e w' ⟨rfl,rfl⟩
 refine ⟨_,rfl,fun E=>?_,Below.refl _ _⟩
 refine .tup rfl fun i x y a b=>?_
 match i,a,b with
 | 0,a,b=>cases a; cases b; exact .ro (.str rfl)
 | 1,a,b=>cases a; cases b; exact .ro (.bool rfl)
 | i + 2,a,b=>simp at a
theorem N9 {b : List UInt8} (h : Lib.indexByte (b.take 302) 10 < 0) : Aq b = (rsH0,0,if 302≤b.length then 3 else 10):=by
 have h2 : (Ap 10 (b.take 302)).2.2 = false:=by
  cases e : (Ap 10 (b.take 302)).2.2 with
  | false=>rfl
  | true=>have:=(Iv e).1; omega
 unfold Aq
 rw [h2]; rfl
def Vc (b w : List UInt8) (suf : Bool) (p : Nat) : RsH×Int×Int :=
 if !(suf && V9 w) then (rsH0,0,6) else
 if (Ax (b.drop (p + 1))).2.2≠0 then (rsH0,0,(Ax (b.drop (p + 1))).2.2) else
 ({ stH w with fields:=(Ax (b.drop (p + 1))).1 },(p : Int) + 1 + (Ax (b.drop (p + 1))).2.1,0)
theorem Rn {b : List UInt8} {p : Nat} (h : Lib.indexByte (b.take 302) 10 = (p : Int)) : p < 302∧p < b.length∧Aq b = Vc b (Lib.trimSuffix (b.take p) [13]) (Lib.hasSuffix (b.take p) [13]) p:=by
 have h2 : (Ap 10 (b.take 302)).2.2 = true:=by
  cases e : (Ap 10 (b.take 302)).2.2 with
  | true=>rfl
  | false=>have:=(Qy e).2.2; omega
 obtain ⟨e1,e2,_,e4⟩:=Iv h2
 have hp : (Ap 10 (b.take 302)).1.length = p:=by omega
 rw [hp] at e2 e4
 rw [List.length_take] at e4
 have e5 : (Ap 10 (b.take 302)).1 = b.take p:=by rw [e2,List.take_take,Nat.min_eq_left (by omega)]
 refine ⟨by omega,by omega,?_⟩
 unfold Aq Vc
 rw [h2,hp,e5]
 simp only [Bool.not_true,Bool.false_eq_true,if_false]
def Oa (r : List UInt8) : Bool:=!((((decide (r.length < 6) || ((r.getD 0 0 != 48) && (r.getD 0 0 != 49))) || (r.getD 1 0 != 32)) || (r.getD 5 0 != 32)) || !Ci (r.drop 6))
theorem Aet (w : List UInt8) : V9 w = (Lib.hasPrefix w F5 && Oa (Lib.trimPrefix w F5) && (decide (100≤Iu (((Lib.trimPrefix w F5).drop 2).take 3)) && decide (Iu (((Lib.trimPrefix w F5).drop 2).take 3)≤599))):=by
 have hp : Lib.hasPrefix w F5 = (w.take 7 == F5):=by
  unfold Lib.hasPrefix
  rw [Bool.eq_iff_iff,beq_iff_eq]
  rw [List.isPrefixOf_iff_prefix,List.prefix_iff_eq_take]
  exact eq_comm
 cases hw : (w.take 7 == F5) with
 | false=>rw [hp,hw]; unfold V9; rw [hw]; simp
 | true =>
  have ht : Lib.trimPrefix w F5 = w.drop 7:=by unfold Lib.trimPrefix; rw [hp,hw]; rfl
  have hg : ∀ i,(w.drop 7).getD i 0 = w.getD (7 + i) 0:=fun i=>by rw [List.getD_eq_getElem?_getD,List.getElem?_drop,←List.getD_eq_getElem?_getD]
  rw [hp,hw,ht]
  unfold V9 Oa
  rw [hw,hg,hg,hg,List.drop_drop,List.drop_drop,List.length_drop,Bool.eq_iff_iff]
  simp only [Bool.and_eq_true,Bool.or_eq_true,decide_eq_true_eq,beq_iff_eq,Bool.not_eq_true',Bool.or_eq_false_iff,Bool.and_eq_false_iff,bne_eq_false_iff_eq,decide_eq_false_iff_not,Bool.not_eq_false',Nat.not_lt,true_and]
  constructor
  ·rintro ⟨⟨⟨⟨⟨⟨⟨h1,_⟩,h3⟩,h4⟩,h5⟩,h6⟩,h7⟩,h8⟩
   exact ⟨⟨⟨⟨⟨by omega,h3⟩,h4⟩,h5⟩,h6⟩,h7,h8⟩
  ·rintro ⟨⟨⟨⟨⟨h1,h3⟩,h4⟩,h5⟩,h6⟩,h7,h8⟩
   exact ⟨⟨⟨⟨⟨⟨⟨by omega,trivial⟩,h3⟩,h4⟩,h5⟩,h6⟩,h7⟩,h8⟩
theorem Ag1 {w : List UInt8} (h : Lib.hasPrefix w F5 = true) : stH w = ⟨(((Lib.trimPrefix w F5).getD 0 0).toNat : Int) - 48,Iu (((Lib.trimPrefix w F5).drop 2).take 3),(Lib.trimPrefix w F5).drop 6,[]⟩:=by
 have ht : Lib.trimPrefix w F5 = w.drop 7:=by unfold Lib.trimPrefix; rw [h]; rfl
 have hg : (w.drop 7).getD 0 0 = w.getD 7 0:=by rw [List.getD_eq_getElem?_getD,List.getElem?_drop,←List.getD_eq_getElem?_getD]
 rw [ht,hg,List.drop_drop,List.drop_drop]; rfl
structure HdV (h : RsH) (mi st : Int) (re : List UInt8) (f : Nat→List SV) (n : Int) (nl : Bool) : Prop where
 emi : mi = h.minor
 est : st = h.status
 ere : re = h.reason
 g : GrH f n nl h.fields
def spHeadR : FSpec:=fun _ xs ls K=>∃ (b : List UInt8) (nl : Bool) (n : Int) (f : Nat→List SV),xs = [.sl (.a nl) (.a n) 1 f]∧ls = []∧A8 f n b∧b.length≤1000000∧
 ∀ hd u e mi st re f1 n1 b1,(hd,u,e) = Aq b→HdV hd mi st re f1 n1 b1→K (.tup [X8 mi st re b1 n1 f1,.int .i64 (.a u),.int .i64 (.a e)]) []
theorem Aba (b : List UInt8) (hb : b.length≤1000000) : ∃ mi st re f n nl,HdV (Aq b).1 mi st re f n nl:=by
 have h0 : ∃ f n nl,GrH f n nl ([] : List HF):=⟨_,_,_,GrH.nil⟩
 have hall : ∃ f n nl,GrH f n nl (Aq b).1.fields:=by
  unfold Aq
  split
  ·exact h0
  split
  ·exact h0
  split
  ·exact h0
  ·have hl : (b.drop ((Ap 10 (b.take 302)).1.length + 1)).length≤1000000:=by rw [List.length_drop]; omega
   have hS:=Iq ((b.drop ((Ap 10 (b.take 302)).1.length + 1)).length + 1) 0 [] _ hl (by simp) (fun x hx=>by cases hx)
   exact ⟨_,_,_,⟨Bz.row (by have:=hS.1; exact Nat.le_trans this (by decide)) (fun i hi=>hS.2 _ (by rw [List.getD_eq_getElem?_getD,List.getElem?_eq_getElem hi]; exact List.getElem_mem hi)),rfl⟩⟩
 obtain ⟨f,n,nl,h⟩:=hall
 exact ⟨_,_,_,f,n,nl,rfl,rfl,rfl,h⟩
theorem finHd {mi mi' st st' u u' e e' n n' : ST} {re re' : List UInt8} {f f' : Nat→List SV} {nl nl' : BT} (h1 : mi.den = mi'.den) (h2 : st.den = st'.den) (h3 : re = re') (h4 : LeV (.sl nl n 2 f) (.sl nl' n' 2 f')) (h5 : u.den = u'.den) (h6 : e.den = e'.den) :
  Fin (.tup [.agg [.int .i64 mi,.int .i64 st,.str re,.sl nl n 2 f],.int .i64 u,.int .i64 e]) (.tup [.agg [.int .i64 mi',.int .i64 st',.str re',.sl nl' n' 2 f'],.int .i64 u',.int .i64 e']) [] []:=by
 subst h3
 exact Gf (.tup (.cons (LeV.agg (.cons (Al h1) (.cons (Al h2) (.cons (Ce _) (.cons h4 .nil))))) (.cons (Al h5) (.cons (Al h6) .nil))))
theorem S7 {D : Dn} (hD : D = dn) {hd : RsH} {u e mi st : Int} {re : List UInt8} {f1 : Nat→List SV} {n1 : Int} {b1 : Bool} {c : Int} {y : ST} (hk : (hd,u,e) = (rsH0,0,c)) (V : HdV hd mi st re f1 n1 b1) (hy : y.den = c) :
  Fin (.tup [.agg [.int .i64 (.a (D.i (.l 0))),.int .i64 (.a (D.i (.l 0))),.str [],.sl (.a (D.b (.l true))) (.a (D.i (.l 0))) 2 fun _=>[]],.int .i64 (.a (D.i (.l 0))),.int .i64 (.a (D.i y))]) (.tup [.agg [.int .i64 (.a mi),.int .i64 (.a st),.str re,.sl (.a b1) (.a n1) 2 f1],.int .i64 (.a u),.int .i64 (.a e)]) [] []:=by
 simp only [Prod.mk.injEq] at hk
 obtain ⟨rfl,rfl,rfl⟩:=hk
 obtain ⟨rfl,rfl,rfl,G⟩:=V
 subst hD
 exact finHd rfl rfl rfl (Aik GrH.nil G rfl rfl) rfl hy
theorem inS6 {x : Bool} {t : List UInt8} {i : Nat} (h : (!(x || decide ((t.length : Int) < 6))) = true) (hi : i < 6) : InS (i : Int) t:=by
 simp only [Bool.not_eq_true',Bool.or_eq_false_iff,decide_eq_false_iff_not] at h
 exact ⟨by omega,by omega⟩
theorem inS6' {x y : Bool} {t : List UInt8} {i : Nat} (h : (!((x || decide ((t.length : Int) < 6)) || y)) = true) (hi : i < 6) : InS (i : Int) t:=by
 simp only [Bool.not_eq_true',Bool.or_eq_false_iff,decide_eq_false_iff_not] at h
 exact ⟨by omega,by omega⟩
theorem Air {x y z : Bool} {t : List UInt8} {i : Nat} (h : (!(((x || decide ((t.length : Int) < 6)) || y) || z)) = true) (hi : i < 6) : InS (i : Int) t:=by
 simp only [Bool.not_eq_true',Bool.or_eq_false_iff,decide_eq_false_iff_not] at h
 exact ⟨by omega,by omega⟩
structure BdI (lo x hi : Int) : Prop where
 lo : lo≤x
 hi : x≤hi
theorem wrapAdd {a b : Int} (h : BdI 0 a 302) (k : BdI 0 b 1000000) : IntKind.i64.wrap (a + 1 + b) = a + 1 + b:=by
 have:=h.lo; have:=h.hi; have:=k.lo; have:=k.hi
 exact Bl (by omega) (by omega)
theorem u8ne (c k : UInt8) : (((c.toNat : Int)) != ((k.toNat : Nat) : Int)) = (c != k):=by
 rw [Bool.eq_iff_iff,bne_iff_ne,bne_iff_ne]
 refine not_congr ⟨fun h=>?_,fun h=>by rw [h]⟩
 exact UInt8.toNat_inj.1 (by omega)
theorem Ajl {is ht pl : Bool} {t : List UInt8} {c0 c1 c5 : Int} (h0 : c0 = ((t.getD 0 0).toNat : Int)) (h1 : c1 = ((t.getD 1 0).toNat : Int)) (h5 : c5 = ((t.getD 5 0).toNat : Int)) (hp : pl = Ci (t.drop 6)) :
  ((((((!is || !ht) || decide ((t.length : Int) < 6)) || ((c0 != 48) && (c0 != 49))) || (c1 != 32)) || (c5 != 32)) || !pl) = !(is && (ht && Oa t)):=by
 have e0 : (c0 != 48) = (t.getD 0 0 != 48):=by rw [h0]; exact u8ne _ 48
 have e0' : (c0 != 49) = (t.getD 0 0 != 49):=by rw [h0]; exact u8ne _ 49
 have e1 : (c1 != 32) = (t.getD 1 0 != 32):=by rw [h1]; exact u8ne _ 32
 have e5 : (c5 != 32) = (t.getD 5 0 != 32):=by rw [h5]; exact u8ne _ 32
 have el : decide ((t.length : Int) < 6) = decide (t.length < 6):=by rw [decide_eq_decide]; omega
 rw [e0,e0',e1,e5,hp,el]
 unfold Oa
 cases is<;>cases ht<;>simp
theorem Adv : A2 Tryz.prog gl 17 spHeadR:=by
 refine Dg (gh:=[]) mixed Dp (Ah U9 (Ah Vn (Ah Agc (Ah Acq (Ah P5 (Ah Oz Aw)))))) Tryz.func17 (by kernel_rfl) (by kernel_rfl) ?_
 intro xs ls K h
 unfold spHeadR at h
 obtain ⟨b,nl,n,f,rfl,rfl,R,hb,h⟩:=h
 obtain ⟨k,hk⟩ : ∃ k,k = Aq b:=⟨_,rfl⟩
 obtain ⟨mi,st,re,f1,n1,b1,V⟩:=Aba b hb
 rw [←hk] at V
 obtain ⟨hd,u,e⟩:=k
 have h:=h hd u e mi st re f1 n1 b1 hk V
 have VB : VI n b.length:=⟨R.n⟩
 have HB : LeN b.length 1000000:=⟨hb⟩
 clear hb
 refine ⟨_,_,h,fun D hD=>?_⟩
 clear h
 unfold X8
 cbv
 intro r hr
 cbv
 have hr : r = min n 302:=by subst hD; exact hr.h
 have VR : VI r (b.take 302).length:=⟨by rw [hr,VB.h,List.length_take]; omega⟩
 clear hr
 refine ⟨by subst hD; exact ⟨Int.le_refl _,by show (0 : Int)≤r; rw [VR.h]; omega,by show r≤n; rw [VR.h,VB.h,List.length_take]; omega⟩,fun f2 n2 hsub=>?_⟩
 cbv
 have R2 : A8 f2 n2 (b.take 302):=by
  have:=R.sub (a:=0) (b:=(b.take 302).length) hsub (by subst hD; rfl) (by subst hD; exact VR.h) (Nat.zero_le _) (by rw [List.length_take]; omega)
  rw [List.drop_zero,List.length_take,Nat.sub_zero] at this
  have e2 : b.take (min 302 b.length) = b.take 302:=by
   rcases Nat.le_total 302 b.length with h | h
   ·rw [Nat.min_eq_left h]
   ·rw [Nat.min_eq_right h,List.take_of_length_le (Nat.le_refl _),List.take_of_length_le h]
  rwa [e2] at this
 clear hsub
 refine ⟨_,_,_,_,f2,rfl,rfl,by subst hD; exact R2,by subst hD; rfl,fun q hq=>?_⟩
 cbv
 refine br hD (fun hb=>?_) (fun hb=>?_)<;>cbv
 ·have hb : (decide (q < 0) && decide (302≤n)) = true:=by subst hD; exact hb
  simp only [Bool.and_eq_true,decide_eq_true_eq] at hb
  rw [N9 (by omega),if_pos (by have:=VB.h; omega)] at hk
  exact S7 hD hk V rfl
 have hb1 : (decide (q < 0) && decide (302≤n)) = false:=by subst hD; exact hb
 clear hb
 refine br hD (fun hb=>?_) (fun hb=>?_)<;>cbv
 ·have hb : decide (q < 0) = true:=by subst hD; exact hb
  rw [hb,Bool.true_and] at hb1
  rw [decide_eq_true_eq] at hb
  rw [decide_eq_false_iff_not] at hb1
  rw [N9 (by omega),if_neg (by have:=VB.h; omega)] at hk
  exact S7 hD hk V rfl
 have hb2 : ¬ q < 0:=by
  have hb : decide (q < 0) = false:=by subst hD; exact hb
  simpa using hb
 clear hb hb1 R2 VR
 obtain ⟨p,hp⟩ : ∃ p : Nat,q = (p : Int):=⟨q.toNat,by omega⟩
 obtain ⟨hp1,hp2,hp3⟩:=Rn (b:=b) (p:=p) (by omega)
 rw [hp3] at hk
 have VQ : VI q p:=⟨hp⟩
 have HP : LeN (p + 1) b.length:=⟨hp2⟩
 have HP3 : LeN (p + 1) 302:=⟨hp1⟩
 clear hp hp1 hp2 hp3 hq hb2
 refine ⟨by subst hD; exact ⟨Int.le_refl _,by show (0 : Int)≤q; rw [VQ.h]; omega,by show q≤n; rw [VQ.h,VB.h]; have:=HP.h; omega⟩,fun f3 n3 hsub=>?_⟩
 cbv
 have R3 : A8 f3 n3 (b.take p):=by
  have:=R.sub (a:=0) (b:=p) hsub (by subst hD; rfl) (by subst hD; exact VQ.h) (Nat.zero_le _) (by have:=HP.h; omega)
  rwa [List.drop_zero,Nat.sub_zero] at this
 clear hsub
 refine ⟨by subst hD; exact R3.byte,fun s hs=>?_⟩
 cbv
 have hs : s = b.take p:=by subst hD; exact R3.str hs
 rw [←hs] at hk
 have hsl : LeN s.length 302:=⟨by rw [hs,List.length_take]; have:=HP3.h; omega⟩
 clear hs R3
 refine ⟨s,[13],rfl,rfl,by have:=hsl.h; omega,fun w is hw his=>?_⟩
 cbv
 rw [←hw,←his] at hk
 have hwl : LeN w.length 302:=⟨by
  have:=hsl.h
  rw [hw,Lib.trimSuffix]
  split
  ·rw [List.length_take]; omega
  ·exact this⟩
 clear hw his hsl
 refine ⟨w,F5,rfl,rfl,fun t ht hht hb=>?_⟩
 cbv
 refine ⟨fun hg=>?_,fun c0 hc0=>?_⟩
 ·subst hD; exact inS6 (i:=0) hg (by decide)
 cbv
 refine ⟨fun _=>?_,fun c0' hc0'=>?_⟩
 ·subst hD; intro hg; exact inS6 (i:=0) hg (by decide)
 cbv
 refine ⟨fun hg=>?_,fun c1 hc1=>?_⟩
 ·subst hD; exact inS6' (i:=1) hg (by decide)
 cbv
 refine ⟨fun hg=>?_,fun c5 hc5=>?_⟩
 ·subst hD; exact Air (i:=5) hg (by decide)
 cbv
 refine ⟨fun hg=>?_,fun re' hre'=>?_⟩
 ·subst hD
  have:=Air (i:=5) (x:=(!is || !ht)) (y:=((c0 != 48) && (c0' != 49))) (z:=(c1 != 32)) (t:=t) (by
   have hg : (!(((((!is || !ht) || decide ((t.length : Int) < 6)) || ((c0 != 48) && (c0' != 49))) || (c1 != 32)) || (c5 != 32))) = true:=hg
   simp only [Bool.not_eq_true',Bool.or_eq_false_iff] at hg ⊢
   exact hg.1) (by decide)
  exact ⟨by decide,by show (6 : Int)≤(t.length : Int); have:=this.hi; omega,Int.le_refl _⟩
 cbv
 have h0 : c0 = ((t.getD 0 0).toNat : Int):=by subst hD; exact hc0.h
 have h0' : c0' = c0:=by subst hD; exact hc0'.h.trans hc0.h.symm
 have h1 : c1 = ((t.getD 1 0).toNat : Int):=by subst hD; exact hc1.h
 have h5 : c5 = ((t.getD 5 0).toNat : Int):=by subst hD; exact hc5.h
 have hre : re' = t.drop 6:=by
  subst hD
  have h : re' = (t.drop 6).take (((t.length : Int)).toNat - 6):=hre'.h
  rw [h,List.take_of_length_le (by rw [List.length_drop]; omega)]
 subst h0'
 refine ⟨re',rfl,rfl,fun pl hpl=>?_⟩
 cbv
 rw [hre] at hpl
 have hcond:=Ajl (is:=is) (ht:=ht) h0 h1 h5 hpl
 have hst:=Aet w
 rw [←hht,←hb] at hst
 refine br hD (fun hbr=>?_) (fun hbr=>?_)<;>cbv
 ·have hbr : ((((((!is || !ht) || decide ((t.length : Int) < 6)) || ((c0' != 48) && (c0' != 49))) || (c1 != 32)) || (c5 != 32)) || !pl) = true:=by subst hD; exact hbr
  rw [hcond,Bool.not_eq_true'] at hbr
  unfold Vc at hk
  rw [hst,←Bool.and_assoc is,hbr,Bool.false_and] at hk
  exact S7 hD hk V rfl
 have hbr : ((((((!is || !ht) || decide ((t.length : Int) < 6)) || ((c0' != 48) && (c0' != 49))) || (c1 != 32)) || (c5 != 32)) || !pl) = false:=by subst hD; exact hbr
 rw [hcond,Bool.not_eq_false'] at hbr
 simp only [Bool.and_eq_true] at hbr
 obtain ⟨rfl,rfl,hro⟩:=hbr
 rw [hro,Bool.true_and,Bool.true_and] at hst
 have htl : 6≤t.length:=by
  unfold Oa at hro
  simp only [Bool.not_eq_true',Bool.or_eq_false_iff,decide_eq_false_iff_not] at hro
  omega
 have HD0 : t.getD 0 0 = 48∨t.getD 0 0 = 49:=by
  unfold Oa at hro
  simp only [Bool.not_eq_true',Bool.or_eq_false_iff,Bool.and_eq_false_iff,bne_eq_false_iff_eq] at hro
  exact hro.1.1.1.2
 have HT : LeN 6 t.length:=⟨htl⟩
 have hwS:=Ag1 hb.symm
 rw [←hht] at hwS
 have EH0 : EqI c0' ((t.getD 0 0).toNat : Int):=⟨h0⟩
 have htl2 : LeN t.length 302:=⟨by
  have:=hwl.h
  rw [hht,Lib.trimPrefix]
  split
  ·rw [List.length_drop]; omega
  ·exact this⟩
 clear hcond hro htl h0 h1 h5 hc0 hc0' hc1 hc5 hpl hht hb hwl hre' hre
 refine ⟨by subst hD; exact ⟨by decide,by decide,by show (5 : Int)≤(t.length : Int); have:=HT.h; omega⟩,fun d hd2=>?_⟩
 cbv
 have hd2 : d = (t.drop 2).take 3:=by subst hD; exact hd2.h
 rw [←hd2] at hst hwS
 have hdl : LeN d.length 3:=⟨by rw [hd2,List.length_take]; omega⟩
 clear hd2
 refine ⟨d,rfl,rfl,by have:=hdl.h; omega,fun sv hsv=>?_⟩
 cbv
 rw [←hsv] at hst hwS
 refine br hD (fun hbr=>?_) (fun hbr=>?_)<;>cbv
 ·have hbr : (decide (sv < 100) || decide (599 < sv)) = true:=by subst hD; exact hbr
  have hf : (decide (100≤sv) && decide (sv≤599)) = false:=by
   rw [Bool.and_eq_false_iff,decide_eq_false_iff_not,decide_eq_false_iff_not]
   simp only [Bool.or_eq_true,decide_eq_true_eq] at hbr
   omega
  unfold Vc at hk
  rw [hst,hf] at hk
  exact S7 hD hk V rfl
 have hbr : (decide (sv < 100) || decide (599 < sv)) = false:=by subst hD; exact hbr
 have hf : (decide (100≤sv) && decide (sv≤599)) = true:=by
  rw [Bool.and_eq_true,decide_eq_true_eq,decide_eq_true_eq]
  simp only [Bool.or_eq_false_iff,decide_eq_false_iff_not] at hbr
  omega
 unfold Vc at hk
 rw [hst,hf,hwS] at hk
 simp only [Bool.and_true,Bool.not_true,Bool.false_eq_true,if_false] at hk
 clear hbr hf hst hwS
 obtain ⟨B,hB⟩ : ∃ B,B = b.drop (p + 1):=⟨_,rfl⟩
 rw [←hB] at hk
 have hBl : LeN B.length 1000000:=⟨by rw [hB,List.length_drop]; have:=HB.h; omega⟩
 have hw1 : IntKind.i64.wrap (q + 1) = ((p + 1 : Nat) : Int):=by
  have:=HP3.h
  rw [VQ.h,Bl (by omega) (by omega)]; omega
 have EW : EqI (IntKind.i64.wrap (q + 1)) ((p + 1 : Nat) : Int):=⟨hw1⟩
 clear hw1
 refine ⟨by subst hD; exact ⟨by show (0 : Int)≤IntKind.i64.wrap (q + 1); rw [EW.h]; omega,by show IntKind.i64.wrap (q + 1)≤n; rw [EW.h,VB.h]; have:=HP.h; omega,Int.le_refl _⟩,fun f4 n4 hsub=>?_⟩
 cbv
 have R4 : A8 f4 n4 B:=by
  have:=R.sub (a:=p + 1) (b:=b.length) hsub (by subst hD; exact EW.h) (by subst hD; exact VB.h) HP.h (Nat.le_refl _)
  have e : (b.drop (p + 1)).take (b.length - (p + 1)) = b.drop (p + 1):=List.take_of_length_le (by rw [List.length_drop]; exact Nat.le_refl _)
  rwa [e,←hB] at this
 clear hsub hB
 refine ⟨B,_,_,f4,rfl,rfl,by subst hD; exact R4,hBl.h,fun l f5 n5 b5 kk ke hl G=>?_⟩
 cbv
 rw [←hl] at hk
 simp only at hk
 refine br hD (fun hbr=>?_) (fun hbr=>?_)<;>cbv
 ·have hbr : (ke != 0) = true:=by subst hD; exact hbr
  rw [if_pos (by simpa using hbr)] at hk
  exact S7 hD hk V (by subst hD; rfl)
 have hbr : (ke != 0) = false:=by subst hD; exact hbr
 rw [if_neg (by simpa using hbr)] at hk
 have HKK : 0≤kk∧kk≤B.length:=by have:=Abt B; rw [←hl] at this; exact this.2
 have HKB : BdI 0 kk 1000000:=⟨HKK.1,by have:=hBl.h; omega⟩
 have HPB : BdI 0 (p : Int) 302:=⟨Int.natCast_nonneg _,by have:=HP3.h; omega⟩
 clear hbr hl HKK
 refine ⟨by subst hD; exact ⟨by decide,by show (0 : Int) < (t.length : Int); have:=HT.h; omega⟩,fun c hc=>?_⟩
 cbv
 refine ⟨by subst hD; exact ⟨by decide,by show (6 : Int)≤(t.length : Int); have:=HT.h; omega,Int.le_refl _⟩,fun re2 hre2=>?_⟩
 cbv
 have hre2 : re2 = t.drop 6:=by
  subst hD
  have h : re2 = (t.drop 6).take (((t.length : Int)).toNat - 6):=hre2.h
  rw [h,List.take_of_length_le (by rw [List.length_drop]; omega)]
 have hcc : c = ((t.getD 0 0).toNat : Int):=by subst hD; exact hc.h
 clear hc
 simp only [Prod.mk.injEq] at hk
 obtain ⟨rfl,rfl,rfl⟩:=hk
 obtain ⟨rfl,rfl,rfl,G2⟩:=V
 refine finHd ?_ (by subst hD; rfl) hre2 (Aik G G2 (by subst hD; rfl) (by subst hD; rfl)) ?_ (by subst hD; rfl)
 ·subst hD
  show IntKind.i64.wrap (IntKind.u8.wrap (c - 48)) = ((t.getD 0 0).toNat : Int) - 48
  rw [hcc]
  rcases HD0 with e | e<;>rw [e]<;>decide
 ·subst hD
  show IntKind.i64.wrap (IntKind.i64.wrap (q + 1) + kk) = (p : Int) + 1 + kk
  have h5 : IntKind.i64.wrap (q + 1) = (p : Int) + 1:=EW.h.trans (Int.natCast_add p 1)
  rw [h5]
  exact wrapAdd HPB HKB
end Go.Proofs.YtdoogdbjiijifaaGreatDoor
namespace Go.Proofs.YtdoogdbjiijifaaGreatDoor
open Go Go.Sx
set_option maxRecDepth 100000
set_option maxHeartbeats 8000000
def Tl (l : List HF) (t : List UInt8) : Int:=if A7 l≠0 then A7 l else if Bj t then 0 else 2
def spAsk : FSpec:=fun _ xs ls K=>∃ (l : List HF) (nl : Bool) (n : Int) (f : Nat→List SV) (t : List UInt8),xs = [.sl (.a nl) (.a n) 2 f,.str t]∧ls = []∧Bz f n l∧t.length≤9223372036854775807∧∀ e,e = Tl l t→K (.int .i64 (.a e)) []
theorem ask_ok : A2 Tryz.prog gl 176 spAsk:=by
 refine Dg (gh:=[]) mixed Dp (Ah Nw (Ah H8 Aw)) Tryz.func176 (by kernel_rfl) (by kernel_rfl) ?_
 intro xs ls K h
 unfold spAsk at h
 obtain ⟨l,nl,n,f,t,rfl,rfl,R,ht,h⟩:=h
 obtain ⟨k,hk⟩ : ∃ k,k = Tl l t:=⟨_,rfl⟩
 refine ⟨_,_,h k hk,fun D hD=>?_⟩
 clear h
 unfold Tl at hk
 cbv
 refine ⟨l,_,_,f,rfl,rfl,by subst hD; exact R,fun e he=>?_⟩
 cbv
 rw [←he] at hk
 refine br hD (fun hb=>?_) (fun hb=>?_)<;>cbv
 ·have hb : (e != 0) = true:=by subst hD; exact hb
  rw [if_pos (by simpa using hb)] at hk
  exact Bv hD hk.symm
 have hb : (e != 0) = false:=by subst hD; exact hb
 rw [if_neg (by simpa using hb)] at hk
 refine ⟨t,rfl,rfl,ht,fun x hx=>?_⟩
 cbv
 rw [←hx] at hk
 refine br hD (fun hb=>?_) (fun hb=>?_)<;>cbv
 ·have hb : (!x) = true:=by subst hD; exact hb
  rw [if_neg (by simpa using hb)] at hk
  exact Bv hD hk.symm
 ·have hb : (!x) = false:=by subst hD; exact hb
  rw [if_pos (by simpa using hb)] at hk
  exact Bv hD hk.symm
structure GvV (out : List (List UInt8)) (b : Bool) (n g : Int) (f : Nat→List SV) : Prop where
 eb : b = out.isEmpty
 en : n = out.length
 eg : g = out.length
 row : Cb f n out
def Zi (a : Nat) : List (Nat×Option SV):=[(7,some (.ptr a 0))]
def getY (c : LC) : FSpec:=fun _ xs ls K=>∃ (i : Int) (v : List UInt8) (out : List (List UInt8)) (b : Bool) (n g : Int) (f : Nat→List SV),
 xs = [.yv 0,.int .i64 (.a i),.str v]∧ls = [.lrec c (Zi 1) 0 none,.blk 111 [.vsl (.a b) (.a n) (.a g) 2],.vec 9 (.a n) (.a g) 1 f]∧GvV out b n g f∧out.length≤100∧
 ∀ b' n' g' f',GvV (out ++ [v]) b' n' g' f'→K (.bool (.a true)) [.lrec c (Zi 1) 0 none,.blk 111 [.vsl (.a b') (.a n') (.a g') 2],.vec 9 (.a n') (.a g') 1 f']
def Aip (Y : FSpec) : FSpec:=fun _ xs ls K=>∃ (c : LC) (l : List HF) (nl : Bool) (n : Int) (f : Nat→List SV) (t : List UInt8) (b : Bool) (m g : Int) (h : Nat→List SV),Y = getY c∧
 xs = [.yv 0,.ptr 1 0,.ptr 2 0]∧ls = [.lrec c (Zi 3) 0 none,.blk 23 [.sl (.a nl) (.a n) 2 f],.blk 9 [.str t],.blk 111 [.vsl (.a b) (.a m) (.a g) 4],.vec 9 (.a m) (.a g) 1 h]∧Bz f n l∧l.length≤100∧GvV [] b m g h∧
 ∀ b' m' g' h',GvV (Bu l t) b' m' g' h'→K (.tup []) [.lrec c (Zi 3) 0 none,.blk 23 [.sl (.a nl) (.a n) 2 f],.blk 9 [.str t],.blk 111 [.vsl (.a b') (.a m') (.a g') 4],.vec 9 (.a m') (.a g') 1 h']
structure GyJ (l : List HF) (t : List UInt8) (k out : List (List UInt8)) (i : Nat) (I : Int) (m : Nat) (b : Bool) (n g : Int) (f : Nat→List SV) : Prop where
 lie : AtR l i I m
 v : GvV out b n g f
 ol : out.length≤i
 k : k = out ++ Bu (l.drop i) t
def gyJ (c : LC) (l : List HF) (t : List UInt8) (k : List (List UInt8)) (nl : Bool) (n : Int) (f : Nat→List SV) (m : Nat) (vs : List (Option SV)) (hp : List Hl) : Prop :=
 ∃ (out : List (List UInt8)) (i : Nat) (I : Int) (b : Bool) (n1 g : Int) (h : Nat→List SV),vs = [some (.yv 0),some (.ptr 2 0),some (.sl (.a nl) (.a n) 2 f),some (.int .i64 (.a n)),some (.int .i64 (.a I))]∧
  hp = [.lrec c (Zi 3) 0 none,.blk 23 [.sl (.a nl) (.a n) 2 f],.blk 9 [.str t],.blk 111 [.vsl (.a b) (.a n1) (.a g) 4],.vec 9 (.a n1) (.a g) 1 h]∧GyJ l t k out i I m b n1 g h
theorem Aff (Y : FSpec) (hY : YOk Tryz.prog gl Y) : A2 Tryz.prog gl 230 (Aip Y):=by
 refine fnOkI (gh:=[]) (its:=[]) (yl:=[Y]) mixed Dp (Ah W2 Aw) ⟨fun _ h=>(by cases h),fun Z h=>by rw [List.mem_singleton] at h; subst h; exact hY⟩ Tryz.func230 (by kernel_rfl) (by kernel_rfl) ?_
 intro xs ls K h
 unfold Aip at h
 obtain ⟨c,l,nl,n,f,t,b,m0,g,hh,rfl,rfl,rfl,R,hl,V0,h⟩:=h
 obtain ⟨k,hk⟩ : ∃ k,k = Bu l t:=⟨_,rfl⟩
 rw [←hk] at h
 have hkl:=Q1 l t
 rw [←hk] at hkl
 obtain ⟨b1,m1,g1,h1,VK⟩ : ∃ b1 m1 g1 h1,GvV k b1 m1 g1 h1:=⟨_,_,_,_,⟨rfl,rfl,rfl,Cb.row (l:=k) (by omega)⟩⟩
 clear hkl
 have h:=h b1 m1 g1 h1 VK
 refine ⟨_,_,h,fun D hD=>?_⟩
 clear h
 obtain ⟨J,hJ⟩ : ∃ J,J = gyJ c l t k nl n f:=⟨_,rfl⟩
 cbv
 refine ⟨[0,2,6,7,8],J,⟨rfl,l.length,?_⟩,?_⟩
 ·rw [hJ]
  subst hD
  exact ⟨[],0,0,_,_,_,_,rfl,rfl,AtR.zero R.len,V0,Nat.le_refl _,hk⟩
 intro m vs hp hj
 rw [hJ] at hj
 obtain ⟨out,i,I,b2,m2,g2,h2,rfl,rfl,V⟩:=hj
 clear hk
 cbv
 refine br hD (fun h=>?_) (fun h=>?_)<;>cbv
 ·have hlt:=V.lie.lt R.n (of_decide_eq_true (p:=I < n) h)
  clear h
  refine ⟨V.lie.inB hD R.n hlt,fun j hj=>?_⟩
  obtain rfl:=V.lie.j hD hj
  clear hj
  have e1:=R.f j hlt
  have hsm:=R.small j hlt
  have hk2:=V.k
  rw [Nr (d:=default) hlt,K0] at hk2
  obtain ⟨x,hx⟩ : ∃ x,x = l.getD j default:=⟨_,rfl⟩
  rw [←hx] at e1 hk2 hsm
  obtain ⟨a,v⟩:=x
  obtain ⟨s1,s2⟩:=V.lie.step hD hlt
  generalize l.length - (j + 1) = m' at s1 s2
  cbv
  rw [e1]
  cbv
  refine ⟨a,rfl,rfl,hsm.1,fun z hz=>?_⟩
  cbv
  simp only at hk2
  rw [←hz] at hk2
  refine br hD (fun h=>?_) (fun h=>?_)<;>cbv
  ·have h3 : (z == t) = true:=by subst hD; exact h
   clear h
   rw [if_pos h3] at hk2
   refine ⟨I,v,out,b2,m2,g2,h2,by subst hD; rfl,by subst hD; rfl,V.v,by have:=V.ol; omega,fun b3 m3 g3 h3' V3=>?_⟩
   cbv
   refine br hD (fun h=>?_) (fun h=>?_)<;>cbv
   ·exact absurd h (by simp [BT.den])
   refine ⟨m',s1,?_⟩
   rw [hJ]
   unfold gyJ
   cbv
   subst hD
   exact ⟨out ++ [v],j + 1,_,b3,m3,g3,h3',rfl,rfl,s2,V3,by have:=V.ol; rw [List.length_append]; simp only [List.length_cons,List.length_nil]; omega,by rw [hk2]; simp⟩
  ·have h3 : (z == t) = false:=by subst hD; exact h
   clear h
   rw [if_neg (by rw [h3]; simp)] at hk2
   refine br hD (fun h=>?_) (fun h=>?_)<;>cbv
   ·exact absurd h (by rw [BT.den,BT.den]; simp [BT.den,h3])
   refine ⟨m',s1,?_⟩
   rw [hJ]
   unfold gyJ
   cbv
   subst hD
   exact ⟨out,j + 1,_,b2,m2,g2,h2,rfl,rfl,s2,V.v,by have:=V.ol; omega,hk2⟩
 ·have hi:=V.lie.eq R.n (of_decide_eq_false (p:=I < n) h)
  have hk2:=V.k
  rw [hi,List.drop_length] at hk2
  clear h
  have hk2 : k = out:=by rw [hk2]; exact List.append_nil _
  subst hk2
  subst hD
  refine ⟨LeV.refl _,Cp (LeH.cons (fun _ _ _ h=>h) (LeH.cons (Am (.cons (LeV.refl _) .nil)) (LeH.cons (Am (.cons (LeV.refl _) .nil)) (LeH.cons (Am (.cons (Adl (by exact V.v.eb.trans VK.eb.symm) (by exact V.v.en.trans VK.en.symm) (by exact V.v.eg.trans VK.eg.symm)) .nil)) (LeH.cons (Hj (by exact V.v.en.trans VK.en.symm) (by exact V.v.eg.trans VK.eg.symm) fun i hi=>?_) fun _ _ _ _ h=>h))))),Nat.le_refl _⟩
  have hi : (i : Int) < m2:=hi
  have:=V.v.en
  rw [V.v.row.f i (by omega),VK.row.f i (by omega)]
structure GkI (l : List HF) (t : List UInt8) (e : Int) (r : List (List UInt8)) : Prop where
 ee : e = Tl l t
 er : r = if Tl l t = 0 then Bu l (foldF t) else []
def spGetH : FSpec:=fun _ xs ls K=>∃ (l : List HF) (nl : Bool) (n : Int) (f : Nat→List SV) (t : List UInt8),xs = [.sl (.a nl) (.a n) 2 f,.str t]∧ls = []∧Bz f n l∧t.length≤9223372036854775807∧
 ∀ r e g n' b,GkI l t e r→GrS g n' b r→K (.tup [.sl (.a b) (.a n') 1 g,.int .i64 (.a e)]) []
theorem getH_ok : A2 Tryz.prog gl 126 spGetH:=by
 refine fnOkI (gh:=[(4,[.vecb 7 0 9]),(2000008,[.vshareb 7 0])]) (its:=[(230,Aip)]) (yl:=[]) mixed Dp (Ah ask_ok (Bf Aia Aw)) ⟨fun x h Y hY=>by rw [List.mem_singleton] at h; subst h; exact Aff Y hY,fun _ h=>(by cases h)⟩ Tryz.func126 (by kernel_rfl) (by kernel_rfl) ?_
 intro xs ls K h
 unfold spGetH at h
 obtain ⟨l,nl,n,f,t,rfl,rfl,R,ht,h⟩:=h
 obtain ⟨e,he⟩ : ∃ e,e = Tl l t:=⟨_,rfl⟩
 obtain ⟨r,hr⟩ : ∃ r,r = if Tl l t = 0 then Bu l (foldF t) else []:=⟨_,rfl⟩
 have hrl : r.length≤9223372036854775807:=by
  rw [hr]
  split
  ·have:=Q1 l (foldF t); have:=R.len; omega
  ·simp
 obtain ⟨g,n',b,G⟩ : ∃ g n' b,GrS g n' b r:=⟨_,_,_,⟨Cb.row hrl,rfl⟩⟩
 refine ⟨_,_,h r e g n' b ⟨he,hr⟩ G,fun D hD=>?_⟩
 clear h hrl
 rw [←he] at hr
 cbv
 refine ⟨l,_,_,f,t,rfl,rfl,by subst hD; exact R,ht,fun e2 he2=>?_⟩
 cbv
 obtain rfl : e2 = e:=he2.trans he.symm
 refine br hD (fun hb=>?_) (fun hb=>?_)<;>cbv
 ·have hb : (e2 != 0) = true:=by subst hD; exact hb
  rw [if_neg (by simpa using hb)] at hr
  subst hr
  subst hD
  exact Gf (.tup (.cons (Adn GrS.nil G rfl rfl) (.cons (Al rfl) .nil)))
 have hb : e2 = 0:=by
  have hb : (e2 != 0) = false:=by subst hD; exact hb
  simpa using hb
 rw [if_pos hb] at hr
 have hl : l.length≤100:=by
  rw [hb] at he
  refine Ti ?_
  unfold Tl at he
  by_cases g : A7 l = 0
  ·exact g
  ·rw [if_pos g] at he; exact he.symm
 clear he2
 refine ⟨_,_,f,t,rfl,rfl,ht,fun s hs=>?_⟩
 cbv
 rw [←hs] at hr
 clear hs
 intro c hc
 refine ⟨[7],getY c,?_,?_⟩
 ·rintro xs ls K' ⟨i,v,out,b1,n1,g1,f1,rfl,rfl,V,hol,h1⟩
  refine ⟨⟨_,rfl⟩,?_⟩
  obtain ⟨b2,n2,g2,f2,V2⟩ : ∃ b2 n2 g2 f2,GvV (out ++ [v]) b2 n2 g2 f2:=⟨_,_,_,_,⟨rfl,rfl,rfl,Cb.row (l:=out ++ [v]) (by rw [List.length_append]; simp only [List.length_cons,List.length_nil]; omega)⟩⟩
  refine ⟨_,_,h1 b2 n2 g2 f2 V2,?_⟩
  clear h1
  cbv
  intro f3 hf3
  cbv
  have en:=V.en
  have NB : LeN out.length 100:=⟨hol⟩
  have VN : VI n1 out.length:=⟨en⟩
  clear en hol
  refine ⟨by subst hD; exact ⟨rfl,by show (n1 + 1) * 16≤_; rw [VN.h]; have:=NB.h; omega,by show n1 + 1≤_; rw [VN.h]; have:=NB.h; omega⟩,by subst hD; exact ⟨rfl⟩,fun f4 n4 hm g4 hg4=>?_⟩
  cbv
  have h30 : f3 0 = [.str v]:=hf3.h 0 _ rfl
  have R4 : Cb f4 n4 (out ++ [v]):=V.row.more h30 (by subst hD; exact hm) (by have:=NB.h; omega)
  have e4 : g4 = g2:=by
   have h : g4 = g1 + 1:=by subst hD; exact hg4.h
   rw [h,V.eg,V2.eg,List.length_append]; rfl
  have eb : b2 = false:=by rw [V2.eb]; cases out<;>rfl
  have hrow : n4 = n2∧∀ i : Nat,(i : Int) < n4→f4 i = f2 i:=by
   have e1:=R4.n
   refine ⟨e1.trans V2.en.symm,fun i hi=>?_⟩
   rw [R4.f i (by omega),V2.row.f i (by omega)]
  clear hm hf3 hg4
  subst hD e4 eb
  exact ⟨LeV.refl _,Cp (LeH.cons (fun _ _ _ h=>h) (LeH.cons (Am (.cons (Adl (by exact Bool.and_false _) (by exact hrow.1) rfl) .nil)) (LeH.cons (Hj (by exact hrow.1) rfl (by exact hrow.2)) fun _ _ _ _ h=>h))),Nat.le_refl _⟩
 ·cbv
  refine ⟨c,l,_,_,f,s,D.b (.l true),D.i (.l 0),D.i (.l 0),fun _=>[],rfl,rfl,rfl,by subst hD; exact R,hl,by subst hD; exact ⟨rfl,rfl,rfl,GrS.nil.row⟩,fun b1 n1 g1 f1 V1=>?_⟩
  cbv
  rw [←hr] at V1
  refine ⟨by subst hD; exact ⟨⟨rfl⟩,⟨rfl⟩⟩,?_⟩
  subst hD
  exact Gf (.tup (.cons (Adn ⟨V1.row,V1.eb⟩ G rfl rfl) (.cons (Al (by exact hb.symm)) .nil)))
end Go.Proofs.YtdoogdbjiijifaaGreatDoor
