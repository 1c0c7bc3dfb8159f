/- Part of the proofs of the statements about requests (layer 7): a symbolic executor over the code, that it is sound, and contracts of functions; it has no conditions of its own. -/
import Derived.Test.YtefelnhpfdcleaaGreatDoorE7Pf
import Derived.Test.YtefelnhpfdcleaaGreatDoorE7Pe
namespace Go.Proofs.YtefelnhpfdcleaaGreatDoor
open Go Go.Sx
set_option maxRecDepth 100000
set_option maxHeartbeats 16000000
theorem preB_has (s p : List UInt8) : preB s p = Lib.hasPrefix s p:=by
 unfold preB Lib.hasPrefix
 rw [Bool.eq_iff_iff,List.isPrefixOf_iff_prefix,Bool.and_eq_true,decide_eq_true_eq,beq_iff_eq]
 constructor
 ·rintro ⟨_,h⟩; rw [←h]; exact List.take_prefix _ _
 ·rintro ⟨t,rfl⟩
  exact ⟨by rw [List.length_append]; omega,List.take_left⟩
theorem begins_ok : FnOk Tryz.prog gl 26 spPre:=by
 refine fnOk (gh:=[]) mixed cxOk tabNil Tryz.func26 (by kernel_rfl) (by kernel_rfl) ?_
 intro xs ls K h
 unfold spPre at h
 obtain ⟨s,p,rfl,rfl,T,h⟩:=h
 obtain ⟨k,hk⟩ : ∃ k,k = preB s p:=⟨_,rfl⟩
 refine ⟨_,_,h k hk,fun D hD=>?_⟩
 clear h
 cbv
 refine ⟨fun hg=>?_,fun r hr=>?_⟩
 ·subst hD
  have hg : decide ((p.length : Int)≤(s.length : Int)) = true:=hg
  simp only [decide_eq_true_eq] at hg
  exact ⟨Int.le_refl _,by show (0 : Int)≤p.length; omega,by show (p.length : Int)≤s.length; exact hg⟩
 cbv
 have hr2 : r = s.take p.length:=by
  have h1 : r = (s.drop 0).take ((p.length : Int).toNat - 0):=by subst hD; exact hr.h
  rw [h1]; simp
 refine finBool hD ?_
 rw [hk,preB,←hr2]
 have : decide ((p.length : Int)≤(s.length : Int)) = decide (p.length≤s.length):=by rw [decide_eq_decide]; omega
 rw [←this]; rfl
structure LeC (a b : Nat) : Prop where
 h : a≤b
def cnJ (d : List UInt8) (m : Nat) (vs : List (Option SV)) (hp : List Hl) : Prop :=
 ∃ (i : Nat) (I : Int),vs = [some (.str d),some (.int .i64 (.a I))]∧hp = []∧At d i I m
theorem cleans_ok : FnOk Tryz.prog gl 7 spTStr:=by
 refine fnOk (gh:=[]) mixed cxOk (tabCons shown_ok (tabCons clean_ok (tabCons split_ok7 (tabCons begins_ok tabNil)))) Tryz.func7 (by kernel_rfl) (by kernel_rfl) ?_
 intro xs ls K h
 unfold spTStr at h
 obtain ⟨s,rfl,rfl,hs,h⟩:=h
 refine ⟨_,_,h,fun D hD=>?_⟩
 cbv
 clear h
 refine br hD (fun h=>?_) (fun h=>?_)<;>cbv
 ·exact finBool hD rfl
 clear h
 refine ⟨s,rfl,rfl,hs,fun t e h1=>?_⟩
 cbv
 have hne : e≠0→t = []:=fun g=>by
  unfold cleanF at h1
  split at h1
  ·exact (Prod.mk.inj h1).1
  ·exact absurd (Prod.mk.inj h1).2 g
 refine br hD (fun h=>?_) (fun h=>?_)<;>cbv
 ·have h : (e != 0) = true:=h
  have ht:=hne (by simpa using h)
  refine finBool hD ?_
  show ((t == []) && true) = true
  rw [ht]; rfl
 have h : (e != 0) = false:=h
 have he : e = 0:=by simpa using h
 rw [he] at h1
 obtain ⟨L,Q,hb,C⟩:=clean_of h1
 have hsp:=splitF_ref (splitF_err (cleanF_err (by rw [←h1])))
 clear h hne h1 he
 have HT : LeC t.length s.length:=⟨C.len⟩
 have H5 : LeC s.length 500:=⟨C.s500⟩
 refine ⟨t,rfl,rfl,by have:=HT.h; omega,fun u f h2=>?_⟩
 cbv
 rw [C.again] at h2
 simp only [Prod.mk.injEq] at h2
 obtain ⟨h3,h4⟩:=h2
 subst h3 h4
 refine ⟨u,rfl,rfl,by have:=HT.h; omega,fun p q hb2 g h2=>?_⟩
 cbv
 rw [C.sp] at h2
 simp only [Prod.mk.injEq] at h2
 obtain ⟨h3,h4,h5,h6⟩:=h2
 refine ⟨s,rfl,rfl,hs,fun p2 q2 hb3 g2 h7=>?_⟩
 cbv
 have hh:=C.has
 rw [←h7] at hh
 simp only [Prod.mk.injEq] at hh
 obtain ⟨h8,h9⟩:=hh
 have hL:=C.good
 obtain ⟨w,hw⟩ : ∃ w,flat L = 47 :: w:=by
  have:=C.ne
  cases hc : L with
  | nil=>exact absurd hc this
  | cons x L=>exact ⟨_,flat_cons x L⟩
 have hp0 : p = 47 :: w:=by rw [h3,hw]
 have HPL : LeC p.length 500:=⟨by
  have h10:=congrArg List.length C.eq
  rw [List.length_append,←h3] at h10
  have:=HT.h; have:=H5.h; omega⟩
 refine ⟨fun hg=>?_,fun c hc=>?_⟩
 ·subst hD
  exact ⟨Int.le_refl _,by show (0 : Int) < (p.length : Int); rw [hp0,List.length_cons]; omega⟩
 cbv
 have hc2 : c = 47:=by
  have h10:=byteAt (e:=.l 0) (i:=0) hD rfl hc
  rw [h10.h,hp0]; rfl
 have hcond : (((((((!(u == u) || ((0 : Int) != 0)) || g != 0) || g2 != 0) || !(hb2 == hb3)) || decide ((s.length : Int) < (u.length : Int))) || (p == [])) || (c != 47)) = false:=by
  have e1 : decide ((s.length : Int) < (u.length : Int)) = false:=decide_eq_false (by have:=HT.h; omega)
  have e2 : (p == []) = false:=by rw [hp0]; rfl
  rw [e1,e2,h6,h9,h5,h8,hc2]; simp
 clear hc hw h4 h6 h9 h5 h8 hc2 C hsp
 refine br hD (fun h=>?_) (fun h=>?_)<;>cbv
 ·have h : (((((((!(u == u) || ((0 : Int) != 0)) || g != 0) || g2 != 0) || !(hb2 == hb3)) || decide ((s.length : Int) < (u.length : Int))) || (p == [])) || (c != 47)) = true:=h
  rw [hcond] at h; cases h
 clear h hcond
 refine ⟨⟨by simp only [List.length_cons,List.length_nil]; have:=HPL.h; omega⟩,fun d hd=>?_⟩
 cbv
 have hd2 : d = flat L ++ [47]:=by rw [hd.h,h3]
 have HD : LeC d.length 501:=⟨by rw [hd2,←h3,List.length_append]; simp only [List.length_cons,List.length_nil]; have:=HPL.h; omega⟩
 have hfine:=fun i=>path_fine hL hd2 i
 clear hd hp0 h3 hL hd2 HPL HT H5 hs
 obtain ⟨J,hJ⟩ : ∃ J,J = cnJ d:=⟨_,rfl⟩
 refine ⟨[15,16],J,⟨rfl,d.length,?_⟩,?_⟩
 ·rw [hJ]
  subst hD
  exact ⟨0,0,rfl,rfl,At.zero (by have:=HD.h; omega)⟩
 intro m vs hp hv
 rw [hJ] at hv
 unfold cnJ at hv
 obtain ⟨i,I,rfl,rfl,V⟩:=hv
 cbv
 refine br hD (fun h=>?_) (fun h=>?_)<;>cbv
 ·have hlt:=V.lt (of_decide_eq_true (p:=I < (d.length : Int)) h)
  clear h
  have hst:=V.step hD hlt
  have VI1 : VI I i:=⟨V.I⟩
  obtain ⟨q1,q2,q3,q4⟩:=hfine i
  clear hfine
  have hsub : ∀ x,SubOf x d (D.i (.a I)) (D.i (.len d))→x = d.drop i:=fun x hx=>by
   subst hD
   have h7 : x = (d.drop I.toNat).take ((d.length : Int).toNat - I.toNat):=hx.h
   have e9 : I.toNat = i:=by have:=VI1.h; omega
   rw [h7,e9,List.take_of_length_le (by rw [List.length_drop]; omega)]
  have SB : SubS (D.i (.a I)) (D.i (.len d)) d:=by
   subst hD
   exact ⟨by show 0≤I; rw [VI1.h]; omega,by show I≤(d.length : Int); rw [VI1.h]; omega,Int.le_refl _⟩
  have LD : LeC (d.drop i).length 501:=⟨by rw [List.length_drop]; have:=HD.h; omega⟩
  refine ⟨SB,fun x1 hx1=>?_⟩
  cbv
  have e1:=hsub x1 hx1
  refine ⟨x1,_,rfl,rfl,⟨by rw [e1]; have:=LD.h; omega,by decide⟩,fun b1 hb1=>?_⟩
  cbv
  refine ⟨fun _=>SB,fun x2 hx2=>?_⟩
  cbv
  have e2:=hsub x2 hx2
  refine ⟨x2,_,rfl,rfl,⟨by rw [e2]; have:=LD.h; omega,by decide⟩,fun b2 hb2=>?_⟩
  cbv
  refine ⟨fun _=>SB,fun x3 hx3=>?_⟩
  cbv
  have e3:=hsub x3 hx3
  refine ⟨x3,_,rfl,rfl,⟨by rw [e3]; have:=LD.h; omega,by decide⟩,fun b3 hb3=>?_⟩
  cbv
  rw [e1,preB_has] at hb1
  rw [e2,preB_has] at hb2
  rw [e3,preB_has] at hb3
  clear hx1 hx2 hx3 e1 e2 e3
  have W2 : VI (IntKind.i64.wrap (I + 2)) (i + 2):=⟨by rw [wrap64 (by have:=VI1.h; omega) (by have:=VI1.h; have:=HD.h; omega),VI1.h]; omega⟩
  have hlt2 : decide (IntKind.i64.wrap (I + 2) < (d.length : Int)) = true→i + 2 < d.length:=fun e=>by have:=of_decide_eq_true e; have:=W2.h; omega
  refine ⟨fun hg=>?_,fun c1 hc1=>?_⟩
  ·have hg : (b3 && decide (IntKind.i64.wrap (I + 2) < (d.length : Int))) = true:=by subst hD; exact hg
   have hl:=hlt2 (by rw [Bool.and_eq_true] at hg; exact hg.2)
   have hI : InS (D.i (.bin .add .i64 (.a I) (.l 2))) d:=by subst hD; exact ⟨by show 0≤IntKind.i64.wrap (I + 2); rw [W2.h]; omega,by show IntKind.i64.wrap (I + 2) < (d.length : Int); rw [W2.h]; omega⟩
   subst hD
   exact fun _=>hI
  cbv
  have hc1 : c1 = charI d (i + 2):=by
   have h10:=byteAt (e:=.bin .add .i64 (.a I) (.l 2)) (i:=i + 2) hD W2.h hc1
   exact h10.charI
  refine ⟨fun hg=>?_,fun c2 hc2=>?_⟩
  ·have hg : ((b3 && decide (IntKind.i64.wrap (I + 2) < (d.length : Int))) && decide (49≤c1)) = true:=by subst hD; exact hg
   have hl:=hlt2 (by rw [Bool.and_eq_true,Bool.and_eq_true] at hg; exact hg.1.2)
   have hI : InS (D.i (.bin .add .i64 (.a I) (.l 2))) d:=by subst hD; exact ⟨by show 0≤IntKind.i64.wrap (I + 2); rw [W2.h]; omega,by show IntKind.i64.wrap (I + 2) < (d.length : Int); rw [W2.h]; omega⟩
   subst hD
   exact fun _=>hI
  cbv
  have hc2 : c2 = charI d (i + 2):=by
   have h10:=byteAt (e:=.bin .add .i64 (.a I) (.l 2)) (i:=i + 2) hD W2.h hc2
   exact h10.charI
  refine ⟨fun _=>SB,fun x4 hx4=>?_⟩
  cbv
  have e4:=hsub x4 hx4
  refine ⟨x4,_,rfl,rfl,⟨by rw [e4]; have:=LD.h; omega,by decide⟩,fun b4 hb4=>?_⟩
  cbv
  rw [e4,preB_has] at hb4
  clear hx4 e4
  refine ⟨fun hg=>?_,fun c3 hc3=>?_⟩
  ·have hg : (b4 && decide (IntKind.i64.wrap (I + 2) < (d.length : Int))) = true:=by subst hD; exact hg
   have hl:=hlt2 (by rw [Bool.and_eq_true] at hg; exact hg.2)
   have hI : InS (D.i (.bin .add .i64 (.a I) (.l 2))) d:=by subst hD; exact ⟨by show 0≤IntKind.i64.wrap (I + 2); rw [W2.h]; omega,by show IntKind.i64.wrap (I + 2) < (d.length : Int); rw [W2.h]; omega⟩
   subst hD
   exact fun _=>hI
  cbv
  have hc3 : c3 = charI d (i + 2):=by
   have h10:=byteAt (e:=.bin .add .i64 (.a I) (.l 2)) (i:=i + 2) hD W2.h hc3
   exact h10.charI
  refine ⟨fun hg=>?_,fun c4 hc4=>?_⟩
  ·have hg : ((b4 && decide (IntKind.i64.wrap (I + 2) < (d.length : Int))) && decide (48≤c3)) = true:=by subst hD; exact hg
   have hl:=hlt2 (by rw [Bool.and_eq_true,Bool.and_eq_true] at hg; exact hg.1.2)
   have hI : InS (D.i (.bin .add .i64 (.a I) (.l 2))) d:=by subst hD; exact ⟨by show 0≤IntKind.i64.wrap (I + 2); rw [W2.h]; omega,by show IntKind.i64.wrap (I + 2) < (d.length : Int); rw [W2.h]; omega⟩
   subst hD
   exact fun _=>hI
  cbv
  have hc4 : c4 = charI d (i + 2):=by
   have h10:=byteAt (e:=.bin .add .i64 (.a I) (.l 2)) (i:=i + 2) hD W2.h hc4
   exact h10.charI
  have k3 : (((b3 && decide (IntKind.i64.wrap (I + 2) < (d.length : Int))) && decide (49≤c1)) && decide (c2≤57)) = false:=by
   cases hx : (((b3 && decide (IntKind.i64.wrap (I + 2) < (d.length : Int))) && decide (49≤c1)) && decide (c2≤57)) with
   | false=>rfl
   | true =>
    rw [Bool.and_eq_true,Bool.and_eq_true,Bool.and_eq_true] at hx
    obtain ⟨⟨⟨y1,y2⟩,y3⟩,y4⟩:=hx
    have y3:=of_decide_eq_true y3
    have y4:=of_decide_eq_true y4
    rw [hc1] at y3
    rw [hc2] at y4
    exact absurd ⟨y3,y4⟩ (q3 (hb3.symm.trans y1) (hlt2 y2))
  have k4 : (((b4 && decide (IntKind.i64.wrap (I + 2) < (d.length : Int))) && decide (48≤c3)) && decide (c4≤57)) = false:=by
   cases hx : (((b4 && decide (IntKind.i64.wrap (I + 2) < (d.length : Int))) && decide (48≤c3)) && decide (c4≤57)) with
   | false=>rfl
   | true =>
    rw [Bool.and_eq_true,Bool.and_eq_true,Bool.and_eq_true] at hx
    obtain ⟨⟨⟨y1,y2⟩,y3⟩,y4⟩:=hx
    have y3:=of_decide_eq_true y3
    have y4:=of_decide_eq_true y4
    rw [hc3] at y3
    rw [hc4] at y4
    exact absurd ⟨y3,y4⟩ (q4 (hb4.symm.trans y1) (hlt2 y2))
  have hcond : (((b1 || b2) || (((b3 && decide (IntKind.i64.wrap (I + 2) < (d.length : Int))) && decide (49≤c1)) && decide (c2≤57))) || (((b4 && decide (IntKind.i64.wrap (I + 2) < (d.length : Int))) && decide (48≤c3)) && decide (c4≤57))) = false:=by
   rw [k3,k4,hb1.trans q1,hb2.trans q2]; rfl
  refine br hD (fun h=>?_) (fun h=>?_)<;>cbv
  ·have h : (((b1 || b2) || (((b3 && decide (IntKind.i64.wrap (I + 2) < (d.length : Int))) && decide (49≤c1)) && decide (c2≤57))) || (((b4 && decide (IntKind.i64.wrap (I + 2) < (d.length : Int))) && decide (48≤c3)) && decide (c4≤57))) = true:=h
   rw [hcond] at h; cases h
  refine ⟨_,hst.1,?_⟩
  rw [hJ]
  unfold cnJ
  subst hD
  exact ⟨i + 1,_,rfl,rfl,hst.2⟩
 subst hD
 exact fin_eq rfl rfl
end Go.Proofs.YtefelnhpfdcleaaGreatDoor
