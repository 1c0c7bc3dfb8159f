/- Part of the proofs of the statements about requests (layer 7): a symbolic executor over the code, that it is sound, and contracts of functions; it has no conditions of its own. -/
import Derived.Shelf.Bytes.SlIndexAt
import Derived.Test.YtefelnhpfdcleaaGreatDoorE4Pf
import Derived.Test.YtefelnhpfdcleaaGreatDoorE4Pe
namespace Go.Proofs.YtefelnhpfdcleaaGreatDoor
open Go Go.Sx
set_option maxRecDepth 100000
set_option maxHeartbeats 16000000
def markQ (s : List UInt8) (i e : Nat) : Nat:=if (cutF 63 (s.drop i)).2.2 then min e (i + (cutF 63 (s.drop i)).1.length) else e
theorem markQ_step {s : List UInt8} {i e : Nat} (h : i < s.length) (hc : charI s i≠63) : markQ s i e = markQ s (i + 1) e:=by
 unfold markQ
 rw [drop_at h]
 have hb : (s.getD i 0 == 63) = false:=by
  rw [beq_eq_false_iff_ne]
  intro h2
  apply hc
  unfold charI
  rw [h2]; rfl
 simp only [cutF,hb,Bool.false_eq_true,if_false,List.length_cons]
 split<;>omega
theorem markQ_hit {s : List UInt8} {i e : Nat} (h : i < s.length) (hc : charI s i = 63) : markQ s i e = min e i:=by
 unfold markQ
 rw [drop_at h]
 have hb : (s.getD i 0 == 63) = true:=by
  rw [beq_iff_eq]
  unfold charI at hc
  have : (s.getD i 0).toNat = 63:=by omega
  exact UInt8.toNat_inj.1 this
 rw [cutF,if_pos hb]
 simp
theorem val_not63 {c : Int} (h : 0≤valueI c) : c≠63:=by
 intro e
 rw [e] at h
 revert h
 decide
theorem orgL_cut (s : List UInt8) : ∀ (m i e r : Nat),s.length - i≤m→orgL s i e = some r→r = markQ s i e
 | m,i,e,r,hm,h=>by
  by_cases hi : i < s.length
  ·cases m with
   | zero=>omega
   | succ m =>
    by_cases he : escAt s i = true
    ·have h3:=escAt_len he
     rw [orgL_esc hi he] at h
     have ih:=orgL_cut s m (i + 3) e r (by omega) h
     have hP : hexP s i:=of_decide_eq_true he
     obtain ⟨_,p1,p2,p3⟩:=hP
     rw [ih,markQ_step hi (by rw [p1]; decide),markQ_step (by omega) (val_not63 p2),markQ_step (by omega) (val_not63 p3)]
    ·have he : escAt s i = false:=by simpa using he
     by_cases hq : charI s i = 63
     ·rw [orgL_mark hi he hq] at h
      have ih:=orgL_cut s m (i + 1) _ r (by omega) h
      rw [ih,markQ_hit hi hq]
      unfold markQ
      split<;>omega
     ·by_cases hk : kindN (charI s i).toNat = 0
      ·rw [orgL_bad hi he hq hk] at h; cases h
      ·rw [orgL_more hi he hq hk] at h
       rw [markQ_step hi hq]
       exact orgL_cut s m (i + 1) e r (by omega) h
  ·rw [orgL,dif_neg hi] at h
   have h:=Option.some.inj h
   unfold markQ
   rw [List.drop_eq_nil_of_le (by omega)]
   simp [cutF,h]
theorem orgF_cut {s : List UInt8} (h : (orgF s).2 = 0) : (orgF s).1 = ((cutF 63 s).1.length : Int):=by
 unfold orgF at h ⊢
 split at h
 ·cases h
 ·rename_i h1
  split at h
  ·cases h
  ·rename_i h2
   rw [if_neg h1,if_neg h2]
   cases ho : orgL s 0 s.length with
   | none=>rw [ho] at h; cases h
   | some r =>
    have:=orgL_cut s s.length 0 s.length r (by omega) ho
    simp only
    rw [this]
    unfold markQ
    rw [List.drop_zero]
    cases hc : (cutF 63 s).2.2 with
    | true =>
     simp only [if_true,Nat.zero_add]
     have:=(cutF_len' 63 s).1
     omega
    | false =>
     simp only [Bool.false_eq_true,if_false]
     rw [(cutF_no hc).1]
theorem splitF_ref {s : List UInt8} (h : (orgF s).2 = 0) : splitF s = ((cutF 63 s).1,(cutF 63 s).2.1,(cutF 63 s).2.2,0):=by
 unfold splitF
 rw [if_neg (by rw [h]; simp),if_neg (by rw [orgF_cut h]; simp)]
theorem refSplit_ok : FnOk Tryz.prog gl 14 spSplitT:=by
 refine fnOk (gh:=[]) mixed cxOk (tabCons refTarget_ok tabNil) Tryz.func14 (by kernel_rfl) (by kernel_rfl) ?_
 intro xs ls K h
 unfold spSplitT at h
 obtain ⟨s,rfl,rfl,hs,h⟩:=h
 obtain ⟨k,hk⟩ : ∃ k,k = splitF s:=⟨_,rfl⟩
 obtain ⟨kp,kq,kh,ke⟩:=k
 refine ⟨_,_,h kp kq kh ke hk,fun D hD=>?_⟩
 cbv
 clear h
 refine ⟨s,rfl,rfl,hs,fun e r he=>?_⟩
 cbv
 refine br hD (fun h=>?_) (fun h=>?_)<;>cbv
 ·have h2 : r≠0:=by have h : (r != 0) = true:=h; simpa using h
  have h3 : (orgF s).2 = r:=by rw [←he]
  unfold splitF at hk
  rw [if_pos (by rw [h3]; exact h2),h3] at hk
  simp only [Prod.mk.injEq] at hk
  obtain ⟨rfl,rfl,rfl,rfl⟩:=hk
  exact finSp hD rfl rfl rfl rfl
 have h2 : r = 0:=by have h : (r != 0) = false:=h; simpa using h
 have h3 : (orgF s).2 = 0:=by rw [←he]; exact h2
 have VE : VI e (cutF 63 s).1.length:=⟨by have:=orgF_cut h3; rw [←he] at this; exact this⟩
 rw [splitF_ref h3] at hk
 simp only [Prod.mk.injEq] at hk
 clear h h2 he h3
 have hlen:=(cutF_len' 63 s).1
 refine br hD (fun h=>?_) (fun h=>?_)<;>cbv
 ·have h5 : e = (s.length : Int):=by have h : (e == (s.length : Int)) = true:=h; simpa using h
  have h6 : (cutF 63 s).2.2 = false:=by
   cases hc : (cutF 63 s).2.2 with
   | false=>rfl
   | true=>have:=cutF_sum hc; have:=VE.h; omega
  obtain ⟨e1,e2,_⟩:=cutF_no h6
  exact finSp hD (by rw [hk.1,e1]) (by rw [hk.2.1,e2]) (by rw [hk.2.2.1,h6]; rfl) (by rw [hk.2.2.2]; rfl)
 have h5 : e≠(s.length : Int):=by have h : (e == (s.length : Int)) = false:=h; simpa using h
 have h6 : (cutF 63 s).2.2 = true:=by
  cases hc : (cutF 63 s).2.2 with
  | true=>rfl
  | false=>have h7:=VE.h; rw [(cutF_no hc).1] at h7; exact absurd h7 h5
 obtain ⟨_,e1,e2,e3⟩:=cutF_yes h6
 have w1 : IntKind.i64.wrap (e + 1) = e + 1:=by have:=VE.h; exact wrap64 (by omega) (by omega)
 refine ⟨by subst hD; exact ⟨by decide,by show (0 : Int)≤e; have:=VE.h; omega,by show e≤_; have:=VE.h; omega⟩,fun a ha=>?_⟩
 cbv
 have ha : a = (cutF 63 s).1:=by
  subst hD
  have h7 : a = (s.drop 0).take (e.toNat - 0):=ha.h
  have e9 : e.toNat - 0 = (cutF 63 s).1.length:=by have:=VE.h; omega
  rw [h7,e9,List.drop_zero]
  exact e1.symm
 refine ⟨by subst hD; exact ⟨by show 0≤IntKind.i64.wrap (e + 1); rw [w1]; have:=VE.h; omega,by show IntKind.i64.wrap (e + 1)≤(s.length : Int); rw [w1]; have:=VE.h; omega,Int.le_refl _⟩,fun b hb=>?_⟩
 cbv
 have hb : b = (cutF 63 s).2.1:=by
  subst hD
  have h7 : b = (s.drop (IntKind.i64.wrap (e + 1)).toNat).take ((s.length : Int).toNat - (IntKind.i64.wrap (e + 1)).toNat):=hb.h
  rw [h7,e2,w1,VE.h]
  have e8 : (((cutF 63 s).1.length : Int) + 1).toNat = (cutF 63 s).1.length + 1:=by omega
  rw [e8,List.take_of_length_le (by rw [List.length_drop]; omega)]
 exact finSp hD (by rw [hk.1,ha]) (by rw [hk.2.1,hb]) (by rw [hk.2.2.1,h6]; rfl) (by rw [hk.2.2.2]; rfl)
end Go.Proofs.YtefelnhpfdcleaaGreatDoor
namespace Go.Proofs.YtefelnhpfdcleaaGreatDoor
open Go Go.Sx
set_option maxRecDepth 100000
set_option maxHeartbeats 40000000
structure ClJ (l st kk : List (List UInt8)) (i : Nat) (I n N : Int) (f fl : Nat→List SV) (m : Nat) : Prop where
 lie : AtR l i I m
 rl : RowS fl N l
 row : RowS f n st
 sl : st.length≤i
 ll : l.length≤501
 sm : ∀ x∈st,x.length≤500
 lm : ∀ x∈l,x.length≤500
 k : kk = foldSeg st (l.drop i)
def clJ (q : List UInt8) (hq : Bool) (b : Bool) (N : Int) (fl : Nat→List SV) (l kk : List (List UInt8)) (m : Nat) (vs : List (Option SV)) (hp : List Hl) : Prop :=
 ∃ (st : List (List UInt8)) (i : Nat) (I n g : Int) (nl : Bool) (f : Nat→List SV),vs = [some (.str q),some (.bool (.a hq)),some (.sl (.a b) (.a N) 1 fl),some (.vsl (.a nl) (.a n) (.a g) 0),some (.int .i64 (.a I))]∧hp = [.vec 9 (.a n) (.a g) 1 f]∧ClJ l st kk i I n N f fl m
structure CoJ (st : List (List UInt8)) (o k : List UInt8) (i : Nat) (I n : Int) (f : Nat→List SV) (m : Nat) : Prop where
 lie : AtR st i I m
 row : RowS f n st
 sl : st.length≤501
 sm : ∀ x∈st,x.length≤500
 ol : o.length≤501 * i
 k : k = o ++ (st.drop i).flatMap (fun x=>47 :: x)
def coJ (q : List UInt8) (hq : Bool) (b : BT) (n : Int) (f : Nat→List SV) (st : List (List UInt8)) (k : List UInt8) (m : Nat) (vs : List (Option SV)) (hp : List Hl) : Prop :=
 ∃ (o : List UInt8) (i : Nat) (I : Int),vs = [some (.str q),some (.bool (.a hq)),some (.sl b (.a n) 1 f),some (.str o),some (.int .i64 (.a I))]∧hp = [.gone]∧CoJ st o k i I n f m
theorem refClean_ok : FnOk Tryz.prog gl 16 spClean:=by
 refine fnOk (gh:=[(5,[.vec 9 9]),(16,[.vshare 9])]) mixed cxOk (tabCons refSplit_ok (tabCons decoded_ok (tabCons segs_ok_ref tabNil))) Tryz.func16 (by kernel_rfl) (by kernel_rfl) ?_
 intro xs ls K h
 unfold spClean at h
 obtain ⟨s,rfl,rfl,hs,h⟩:=h
 obtain ⟨k,hk⟩ : ∃ k,k = cleanF s:=⟨_,rfl⟩
 obtain ⟨kt,ke⟩:=k
 refine ⟨_,_,h kt ke hk,fun D hD=>?_⟩
 cbv
 clear h
 refine ⟨s,rfl,rfl,hs,fun p q hq e he=>?_⟩
 cbv
 refine br hD (fun h=>?_) (fun h=>?_)<;>cbv
 ·have h1 : e≠0:=by have h : (e != 0) = true:=h; simpa using h
  have h2 : (splitF s).2.2.2 = e:=by rw [←he]
  unfold cleanF at hk
  rw [if_pos (by rw [h2]; exact h1),h2] at hk
  simp only [Prod.mk.injEq] at hk
  obtain ⟨rfl,rfl⟩:=hk
  subst hD
  exact fin_eq rfl rfl
 have h1 : e = 0:=by have h : (e != 0) = false:=h; simpa using h
 subst h1
 clear h
 rw [cleanF_ref he] at hk
 obtain ⟨c1,c2,c3,c4⟩:=splitF_ok he
 clear he
 have hdp:=normL_len p p.length 0 (by omega)
 refine ⟨p,rfl,rfl,by omega,fun d hd=>?_⟩
 cbv
 rw [←hd] at hk hdp
 clear hd
 refine ⟨d,rfl,rfl,by omega,by have:=hdp.2 (by omega); omega,fun l fl N b hl G hT=>?_⟩
 cbv
 rw [←hl] at hk
 have hseg:=segW_len (d.drop 1) []
 rw [←hl] at hseg
 have hll : l.length≤501:=by have:=hseg.1; rw [List.length_drop] at this; omega
 have hlm : ∀ x∈l,x.length≤500:=fun x hx=>by have:=hseg.2 x hx; rw [List.length_drop] at this; simp at this; omega
 clear hl hseg hdp
 obtain ⟨kk,hkk⟩ : ∃ kk,kk = foldSeg [] l:=⟨_,rfl⟩
 rw [←hkk] at hk
 obtain ⟨J,hJ⟩ : ∃ J,J = clJ q hq b N fl l kk:=⟨_,rfl⟩
 refine ⟨[5,6,8,9,10],J,⟨rfl,l.length,?_⟩,?_⟩
 ·rw [hJ]
  subst hD
  exact ⟨[],0,_,_,_,_,_,rfl,rfl,⟨AtR.zero (by omega),G.row,RowS.nil,Nat.le_refl _,hll,by simp,hlm,hkk⟩⟩
 clear hkk
 intro m vs hp hj
 rw [hJ] at hj
 obtain ⟨st,i,I,n,g,nl,f,rfl,rfl,V⟩:=hj
 cbv
 refine br hD (fun h=>?_) (fun h=>?_)<;>cbv
 ·have hlt:=V.lie.lt V.rl.n (of_decide_eq_true (p:=I < N) h)
  clear h
  have inA:=V.lie.inB hD V.rl.n hlt
  have hx:=V.rl.f i hlt
  have hkd:=V.k
  have hdr : l.drop i = l.getD i [] :: l.drop (i + 1):=by rw [List.getD_eq_getElem?_getD,List.getElem?_eq_getElem hlt,Option.getD_some,List.drop_eq_getElem_cons hlt]
  have hxm : (l.getD i []).length≤500:=V.lm _ (by rw [List.getD_eq_getElem?_getD,List.getElem?_eq_getElem hlt]; exact List.getElem_mem hlt)
  rw [hdr] at hkd
  obtain ⟨x,hxx⟩ : ∃ x,x = l.getD i []:=⟨_,rfl⟩
  rw [←hxx] at hx hkd hxm
  have hkd : kk = foldSeg (cst st x (l.drop (i + 1)).isEmpty) (l.drop (i + 1)):=hkd
  have hlast : (l.drop (i + 1)).isEmpty = decide (i + 1 = l.length):=by
   rw [Bool.eq_iff_iff,List.isEmpty_iff,List.drop_eq_nil_iff,decide_eq_true_eq]; omega
  rw [hlast] at hkd
  clear hdr hxx hlast
  have hst:=V.lie.step hD hlt
  refine ⟨inA,fun j hj=>?_⟩
  have hj:=V.lie.j hD hj
  cbv
  rw [hj,hx]
  cbv
  refine ⟨fun _=>inA,fun j2 hj2=>?_⟩
  have hj2 : (!(x == [46])) = true→j2 = i:=fun hg=>V.lie.j hD (hj2 (by subst hD; exact hg))
  cbv
  rw [hT j2]
  obtain ⟨x2,hx2⟩ : ∃ x2,x2 = l.getD j2 []:=⟨_,rfl⟩
  rw [←hx2]
  cbv
  refine ⟨inA,fun j3 hj3=>?_⟩
  have hj3:=V.lie.j hD hj3
  cbv
  rw [hj3,hx]
  cbv
  have hdots : ((x == [46]) || (x2 == [46,46])) = ((x == [46]) || (x == [46,46])):=by
   cases hb : (x == [46]) with
   | true=>rfl
   | false =>
    have:=hj2 (by rw [hb]; rfl)
    rw [this,List.getD_eq_getElem?_getD] at hx2
    rw [V.rl.f i hlt,List.getD_eq_getElem?_getD] at hx
    simp only [List.cons.injEq,SV.str.injEq,and_true] at hx
    rw [hx2,hx]
  clear hj hj3 hj2
  have hNl : VI N l.length:=⟨V.rl.n⟩
  have hIi : VI I i:=⟨V.lie.I⟩
  have hwl : IntKind.i64.wrap (N - 1) = N - 1:=by have:=hNl.h; exact wrap64 (by omega) (by omega)
  have hlst : (I == IntKind.i64.wrap (N - 1)) = decide (i + 1 = l.length):=by
   rw [Bool.eq_iff_iff,beq_iff_eq,decide_eq_true_eq,hwl,hIi.h,hNl.h]; omega
  obtain ⟨la,hla⟩ : ∃ la,la = decide (i + 1 = l.length):=⟨_,rfl⟩
  rw [←hla] at hkd hlst
  refine br hD (fun h=>?_) (fun h=>?_)<;>cbv
  ·have hx1 : x = [46,46]∧st≠[]:=by
    have h : ((x == [46,46]) && decide (0 < n)) = true:=h
    simp only [Bool.and_eq_true,beq_iff_eq,decide_eq_true_eq] at h
    refine ⟨h.1,fun e=>?_⟩
    have:=V.row.n
    rw [e] at this
    have:=h.2
    simp at *; omega
   have hpos : 1≤st.length:=by
    cases st with
    | nil=>exact absurd rfl hx1.2
    | cons a b=>simp
   have hkc : cst st x la = if la then st.dropLast ++ [[]] else st.dropLast:=by
    unfold cst
    rw [if_neg (by rw [hx1.1]; simp),if_pos hx1]
   rw [hkc] at hkd
   clear h hkc
   have Rp:=V.row.pop hpos
   have hlp : st.dropLast.length≤i:=by have:=V.sl; rw [List.length_dropLast]; omega
   have hpm : ∀ y∈st.dropLast,y.length≤500:=fun y hy=>V.sm y (List.dropLast_subset _ hy)
   generalize st.dropLast = sp at hkd Rp hlp hpm
   obtain ⟨np,hnp⟩ : ∃ np,np = n - 1:=⟨_,rfl⟩
   rw [←hnp] at Rp
   have hn1 : IntKind.i64.wrap (n - 1) = np:=by have:=V.row.n; have:=V.sl; rw [wrap64 (by omega) (by omega)]; exact hnp.symm
   have hnb : 0≤np∧np≤n:=by have:=Rp.n; omega
   clear hnp
   refine ⟨⟨by subst hD; rfl⟩,⟨by subst hD; rfl⟩,by subst hD; exact ⟨Int.le_refl _,by show 0≤IntKind.i64.wrap (n - 1); rw [hn1]; exact hnb.1,by show IntKind.i64.wrap (n - 1)≤n; rw [hn1]; exact hnb.2⟩,fun g2 hg2=>?_⟩
   cbv
   refine br hD (fun h=>?_) (fun h=>?_)<;>cbv
   ·exfalso
    have h : (!((x == [46]) || (x2 == [46,46]))) = true:=h
    rw [hdots,hx1.1] at h
    cases h
   clear h
   refine br hD (fun h=>?_) (fun h=>?_)<;>cbv
   ·have h : (I == IntKind.i64.wrap (N - 1)) = true:=h
    rw [hlst] at h
    rw [if_pos h] at hkd
    clear h
    intro f0 hf0
    cbv
    have h0 : f0 0 = [.str []]:=hf0.h 0 _ rfl
    clear hf0
    refine ⟨by subst hD; exact ⟨rfl,by have:=Rp.n; show (IntKind.i64.wrap (n - 1) + 1) * 16≤_; rw [hn1]; omega,by have:=Rp.n; show IntKind.i64.wrap (n - 1) + 1≤_; rw [hn1]; omega⟩,⟨by subst hD; rfl⟩,fun f1 n1 hm g1 hg=>?_⟩
    cbv
    have e1 : RowS f1 n1 (sp ++ [[]]):=Rp.more h0 (by subst hD; rw [←hn1]; exact hm) (by omega)
    clear hm
    refine ⟨_,hst.1,?_⟩
    rw [hJ]
    unfold clJ
    subst hD
    exact ⟨sp ++ [[]],i + 1,_,n1,_,_,f1,rfl,rfl,⟨hst.2,V.rl,e1,by simp; omega,hll,fun y hy=>by
     rcases List.mem_append.1 hy with hy | hy
     ·exact hpm y hy
     ·rw [List.mem_singleton.1 hy]; simp,V.lm,hkd⟩⟩
   ·have h : (I == IntKind.i64.wrap (N - 1)) = false:=h
    rw [hlst] at h
    rw [if_neg (by rw [h]; simp)] at hkd
    clear h
    refine ⟨_,hst.1,?_⟩
    rw [hJ]
    unfold clJ
    subst hD
    exact ⟨sp,i + 1,_,_,_,_,f,rfl,rfl,⟨hst.2,V.rl,by show RowS f (IntKind.i64.wrap (n - 1)) sp; rw [hn1]; exact Rp,by omega,hll,hpm,V.lm,hkd⟩⟩
  have hx1 : ¬ (x = [46,46]∧st≠[]):=by
   have h : ((x == [46,46]) && decide (0 < n)) = false:=h
   rintro ⟨e1,e2⟩
   rw [e1] at h
   simp only [beq_self_eq_true,Bool.true_and,decide_eq_false_iff_not] at h
   have:=V.row.n
   have:=List.length_pos_iff.2 e2
   omega
  clear h
  refine br hD (fun h=>?_) (fun h=>?_)<;>cbv
  ·have h : (!((x == [46]) || (x2 == [46,46]))) = true:=h
   rw [hdots] at h
   have hx3 : x≠[46]∧x≠[46,46]:=by simpa using h
   have hkc : cst st x la = st ++ [x]:=by unfold cst; rw [if_pos hx3]
   rw [hkc] at hkd
   clear h hkc
   refine ⟨inA,fun j4 hj4=>?_⟩
   have hj4:=V.lie.j hD hj4
   cbv
   rw [hj4,hx]
   cbv
   intro f0 hf0
   cbv
   have h0 : f0 0 = [.str x]:=hf0.h 0 _ rfl
   clear hf0
   refine ⟨by subst hD; exact ⟨rfl,by have:=V.row.n; have:=V.sl; show (n + 1) * 16≤_; omega,by have:=V.row.n; have:=V.sl; show n + 1≤_; omega⟩,⟨by subst hD; rfl⟩,fun f1 n1 hm g1 hg=>?_⟩
   cbv
   have e1 : RowS f1 n1 (st ++ [x]):=V.row.more h0 (by subst hD; exact hm) (by have:=V.sl; omega)
   clear hm
   refine ⟨_,hst.1,?_⟩
   rw [hJ]
   unfold clJ
   subst hD
   exact ⟨st ++ [x],i + 1,_,n1,_,_,f1,rfl,rfl,⟨hst.2,V.rl,e1,by have:=V.sl; simp; omega,hll,fun y hy=>by
    rcases List.mem_append.1 hy with hy | hy
    ·exact V.sm y hy
    ·rw [List.mem_singleton.1 hy]; exact hxm,V.lm,hkd⟩⟩
  have h : (!((x == [46]) || (x2 == [46,46]))) = false:=h
  rw [hdots] at h
  have hx3 : ¬ (x≠[46]∧x≠[46,46]):=by simpa using h
  have hkc : cst st x la = if la then st ++ [[]] else st:=by unfold cst; rw [if_neg hx3,if_neg hx1]
  rw [hkc] at hkd
  clear h hkc
  refine br hD (fun h=>?_) (fun h=>?_)<;>cbv
  ·have h : (I == IntKind.i64.wrap (N - 1)) = true:=h
   rw [hlst] at h
   rw [if_pos h] at hkd
   clear h
   intro f0 hf0
   cbv
   have h0 : f0 0 = [.str []]:=hf0.h 0 _ rfl
   clear hf0
   refine ⟨by subst hD; exact ⟨rfl,by have:=V.row.n; have:=V.sl; show (n + 1) * 16≤_; omega,by have:=V.row.n; have:=V.sl; show n + 1≤_; omega⟩,⟨by subst hD; rfl⟩,fun f1 n1 hm g1 hg=>?_⟩
   cbv
   have e1 : RowS f1 n1 (st ++ [[]]):=V.row.more h0 (by subst hD; exact hm) (by have:=V.sl; omega)
   clear hm
   refine ⟨_,hst.1,?_⟩
   rw [hJ]
   unfold clJ
   subst hD
   exact ⟨st ++ [[]],i + 1,_,n1,_,_,f1,rfl,rfl,⟨hst.2,V.rl,e1,by have:=V.sl; simp; omega,hll,fun y hy=>by
    rcases List.mem_append.1 hy with hy | hy
    ·exact V.sm y hy
    ·rw [List.mem_singleton.1 hy]; simp,V.lm,hkd⟩⟩
  ·have h : (I == IntKind.i64.wrap (N - 1)) = false:=h
   rw [hlst] at h
   rw [if_neg (by rw [h]; simp)] at hkd
   clear h
   refine ⟨_,hst.1,?_⟩
   rw [hJ]
   unfold clJ
   subst hD
   exact ⟨st,i + 1,_,_,_,_,f,rfl,rfl,⟨hst.2,V.rl,V.row,by have:=V.sl; omega,hll,V.sm,V.lm,hkd⟩⟩
 have hi:=V.lie.eq V.rl.n (of_decide_eq_false (p:=I < N) h)
 clear h
 have hdn : l.drop i = []:=List.drop_eq_nil_of_le (by omega)
 have hkk : kk = st:=by rw [V.k,hdn]; rfl
 rw [hkk] at hk
 have hRS:=V.row
 have hsl : st.length≤501:=by have:=V.sl; omega
 have hsm:=V.sm
 clear hkk hdn hi V
 obtain ⟨k2,hk2⟩ : ∃ k2,k2 = st.flatMap (fun x=>47 :: x):=⟨_,rfl⟩
 rw [←hk2] at hk
 refine ⟨⟨⟨by subst hD; rfl⟩,⟨by subst hD; rfl⟩⟩,?_⟩
 obtain ⟨J2,hJ2⟩ : ∃ J,J = coJ q hq (.a nl) n f st k2:=⟨_,rfl⟩
 refine ⟨[5,6,9,12,13],J2,⟨rfl,st.length,?_⟩,?_⟩
 ·rw [hJ2]
  subst hD
  exact ⟨[],0,_,rfl,rfl,⟨AtR.zero (by omega),hRS,hsl,hsm,by simp,by rw [hk2]; simp⟩⟩
 clear hk2 hJ
 intro m2 vs2 hp2 hj2
 rw [hJ2] at hj2
 obtain ⟨o,i2,I2,rfl,rfl,V⟩:=hj2
 cbv
 refine br hD (fun h=>?_) (fun h=>?_)<;>cbv
 ·have hlt:=V.lie.lt V.row.n (of_decide_eq_true (p:=I2 < n) h)
  clear h
  have inA:=V.lie.inB hD V.row.n hlt
  have hx:=V.row.f i2 hlt
  have hkd:=V.k
  have hxm : (st.getD i2 []).length≤500:=V.sm _ (by rw [List.getD_eq_getElem?_getD,List.getElem?_eq_getElem hlt]; exact List.getElem_mem hlt)
  have hdr : st.drop i2 = st.getD i2 [] :: st.drop (i2 + 1):=by rw [List.getD_eq_getElem?_getD,List.getElem?_eq_getElem hlt,Option.getD_some,List.drop_eq_getElem_cons hlt]
  rw [hdr] at hkd
  obtain ⟨x,hxx⟩ : ∃ x,x = st.getD i2 []:=⟨_,rfl⟩
  rw [←hxx] at hx hkd hxm
  clear hdr hxx
  have hst:=V.lie.step hD hlt
  have hol : o.length≤251001:=by have:=V.ol; have:=V.sl; omega
  refine ⟨⟨by simp only [List.length_cons,List.length_nil]; omega⟩,fun r hr=>?_⟩
  cbv
  have hr:=hr.h
  have hrl : r.length≤251002:=by rw [hr]; simp only [List.length_append,List.length_cons,List.length_nil]; omega
  refine ⟨inA,fun j hj=>?_⟩
  have hj:=V.lie.j hD hj
  cbv
  rw [hj,hx]
  cbv
  refine ⟨⟨by omega⟩,fun r2 hr2=>?_⟩
  cbv
  have hr2:=hr2.h
  refine ⟨_,hst.1,?_⟩
  rw [hJ2]
  unfold coJ
  subst hD
  refine ⟨r2,i2 + 1,_,rfl,rfl,⟨hst.2,V.row,V.sl,V.sm,?_,?_⟩⟩
  ·have:=V.ol
   rw [hr2,hr]
   simp only [List.length_append,List.length_cons,List.length_nil]
   omega
  ·rw [hkd,hr2,hr]
   simp
 have hi:=V.lie.eq V.row.n (of_decide_eq_false (p:=I2 < n) h)
 clear h
 have hdn : st.drop i2 = []:=List.drop_eq_nil_of_le (by omega)
 have hko : k2 = o:=by rw [V.k,hdn]; simp
 have hol : o.length≤251001:=by have:=V.ol; have:=V.sl; omega
 rw [hko] at hk
 simp only [Prod.mk.injEq] at hk
 obtain ⟨hkt,hke⟩:=hk
 subst hke
 clear hdn hko hi V
 refine br hD (fun h=>?_) (fun h=>?_)<;>cbv
 ·have h : hq = true:=h
  rw [if_pos h] at hkt
  refine ⟨⟨by simp only [List.length_cons,List.length_nil]; omega⟩,fun r hr=>?_⟩
  cbv
  have hr:=hr.h
  have hrl : r.length≤251002:=by rw [hr]; simp only [List.length_append,List.length_cons,List.length_nil]; omega
  refine ⟨q,rfl,rfl,by omega,fun d2 hd2=>?_⟩
  cbv
  have hdl:=(normL_len q q.length 0 (by omega)).1
  rw [←hd2] at hdl hkt
  refine ⟨⟨by omega⟩,fun r2 hr2=>?_⟩
  cbv
  have hr2:=hr2.h
  have e : r2 = kt:=by rw [hkt,hr2,hr]; simp
  subst hD
  rw [e]
  exact fin_eq rfl rfl
 ·have h : hq = false:=h
  rw [if_neg (by rw [h]; simp),List.append_nil] at hkt
  subst hD
  rw [hkt]
  exact fin_eq rfl rfl
end Go.Proofs.YtefelnhpfdcleaaGreatDoor
namespace Go.Proofs.YtefelnhpfdcleaaGreatDoor
open Go Go.Sx Go.RowKit
set_option maxRecDepth 100000
set_option maxHeartbeats 4000000
def spIdxRow : FSpec:=fun _ xs ls K=>∃ (t : List UInt8) (nl : Bool) (n c : Int) (f : Nat→List SV),xs = [.sl (.a nl) (.a n) 1 f,.int .u8 (.a c)]∧ls = []∧RowU f n t∧c = 10∧∀ r,r = Lib.indexByte t 10→K (.int .i64 (.a r)) []
theorem bytesOf_nat (t : List UInt8) : Lib.bytesOf (t.map fun c=>(c.toNat : Int)) = t:=by
 unfold Lib.bytesOf
 rw [List.map_map]
 conv=>rhs; rw [←List.map_id t]
 refine List.map_congr_left fun c _=>?_
 simp [Function.comp]
theorem idxRow_ok : FnOk Tryz.prog gl 92 spIdxRow:=by
 refine ⟨⟨Tryz.f92,_,Tryz.func92,rfl,by kernel_rfl⟩,fun xs ls K h=>?_⟩
 obtain ⟨t,nl,n,c,f,rfl,rfl,R,rfl,h⟩:=h
 refine ⟨_,_,h _ rfl,callsTo_below fun E B w vals _ _ _ hr=>?_⟩
 obtain ⟨v,u,rfl,hv,hu⟩:=relL_two hr
 rw [rel_int hu]
 rcases (Rel.sl_inv hv).sl_inv with ⟨rfl,hn,_⟩ | ⟨a,m,cap,g,rfl,_,hn,hc,hcm,hs,hl,h1,hcell,hrel⟩
 ·have ht : t = []:=by
   have:=R.n
   have hn : n = 0:=hn
   exact List.length_eq_zero_iff.1 (by omega)
  subst ht
  refine (sh_bytes_IndexByte_nil 10 w).mono ?_
  rintro e w' ⟨rfl,rfl⟩
  exact ⟨_,rfl,fun E=>.ro (.int rfl),Below.refl _ _⟩
 ·have hm : t.length = m:=by
   have:=R.n
   have hn : n = (m : Int):=hn
   omega
  have hh : ∀ i,i < m→w.cell? (a.add i) = some (.int .u8 ((t.map fun c=>(c.toNat : Int)).getD i 0)):=by
   intro i hi
   have e1:=(hcell i 0 hi (by omega)).1
   have e2:=hrel i 0 (.int .u8 (.a ((t.getD i 0).toNat : Int))) hi (by rw [R.f i (by omega)]; rfl)
   have e3 : g i 0 = .int .u8 ((t.getD i 0).toNat : Int):=by
    generalize g i 0 = v at e2
    cases e2 with
    | int h=>rw [←h]; rfl
   have e4 : a.add i = ⟨a.block,a.off + (i * 1 + 0),none⟩:=by
    have:=hs (by omega)
    cases a; simp only at this; subst this; simp [Addr.add]
   rw [e4,e1,e3]
   have hi' : i < t.length:=by omega
   simp [List.getD_eq_getElem?_getD,List.getElem?_eq_getElem hi']
  refine (Any.bytes_IndexByte_at sh_lays187 a m cap _ 10 w (by simpa using hm) hh).mono ?_
  rintro e w' ⟨rfl,rfl⟩
  rw [bytesOf_nat]
  exact ⟨_,rfl,fun E=>.ro (.int rfl),Below.refl _ _⟩
end Go.Proofs.YtefelnhpfdcleaaGreatDoor
namespace Go.Proofs.YtefelnhpfdcleaaGreatDoor
open Go Go.Sx
set_option maxRecDepth 100000
set_option maxHeartbeats 16000000
def hpG (b : List UInt8) : Nat→Nat→List HF→List HF×Int×Int
 | 0,_,_=>([],0,0)
 | m + 1,p,r =>
  if (decide (Lib.indexByte (b.drop p) 10 < 0) && decide (8192 < b.length)) || decide (8192≤(p : Int) + Lib.indexByte (b.drop p) 10) then ([],0,3) else
  if Lib.indexByte (b.drop p) 10 < 0 then ([],0,10) else
  if (!Lib.hasSuffix ((b.drop p).take (Lib.indexByte (b.drop p) 10).toNat) [13]) || decide (0≤Lib.indexByte (Lib.trimSuffix ((b.drop p).take (Lib.indexByte (b.drop p) 10).toNat) [13]) 13) then ([],0,6) else
  if Lib.trimSuffix ((b.drop p).take (Lib.indexByte (b.drop p) 10).toNat) [13] = [] then (r,(p : Int) + Lib.indexByte (b.drop p) 10 + 1,0) else
  if (!(cutF 58 (Lib.trimSuffix ((b.drop p).take (Lib.indexByte (b.drop p) 10).toNat) [13])).2.2 || !tokenF (cutF 58 (Lib.trimSuffix ((b.drop p).take (Lib.indexByte (b.drop p) 10).toNat) [13])).1) || !plainB (cutF 58 (Lib.trimSuffix ((b.drop p).take (Lib.indexByte (b.drop p) 10).toNat) [13])).2.1 then ([],0,6) else
  if decide (2000 < (trimF (cutF 58 (Lib.trimSuffix ((b.drop p).take (Lib.indexByte (b.drop p) 10).toNat) [13])).2.1).length) || decide (r.length = 100) then ([],0,3) else
  hpG b m (p + (Lib.indexByte (b.drop p) 10).toNat + 1) (r ++ [⟨(cutF 58 (Lib.trimSuffix ((b.drop p).take (Lib.indexByte (b.drop p) 10).toNat) [13])).1,trimF (cutF 58 (Lib.trimSuffix ((b.drop p).take (Lib.indexByte (b.drop p) 10).toNat) [13])).2.1⟩])
def hparseF (b : List UInt8) : List HF×Int×Int:=hpG b (b.length + 1) 0 []
def spHParse : FSpec:=fun _ xs ls K=>∃ (b : List UInt8) (nl : Bool) (n : Int) (f : Nat→List SV),xs = [.sl (.a nl) (.a n) 1 f]∧ls = []∧RowU f n b∧b.length≤1000000∧
 ∀ l f1 n1 b1 k e,(l,k,e) = hparseF b→GrH f1 n1 b1 l→K (.tup [.sl (.a b1) (.a n1) 2 f1,.int .i64 (.a k),.int .i64 (.a e)]) []
structure HpJ (b : List UInt8) (k : List HF×Int×Int) (p : Nat) (P : Int) (m : Nat) (r : List HF) (f1 : Nat→List SV) (n1 : Int) (b1 : Bool) : Prop where
 eP : P = p
 le : p≤b.length
 le2 : p≤8192
 lt : b.length - p < m
 k : k = hpG b m p r
 G : GrH f1 n1 b1 r
 len : r.length≤100
def hpJ (b : List UInt8) (k : List HF×Int×Int) (nl : Bool) (n : Int) (f : Nat→List SV) (m : Nat) (vs : List (Option SV)) (hp : List Hl) : Prop :=
 ∃ (p : Nat) (P : Int) (r : List HF) (f1 : Nat→List SV) (n1 : Int) (b1 : Bool),vs = [some (.sl (.a nl) (.a n) 1 f),some (.gsl (.a b1) (.a n1) 2 f1 0),some (.int .i64 (.a P))]∧hp = [.tail 69 (.a n1) 2]∧HpJ b k p P m r f1 n1 b1
theorem indexB_lt {s : List UInt8} {c : UInt8} : -1≤Lib.indexByte s c∧(0≤Lib.indexByte s c→Lib.indexByte s c < (s.length : Int)):=by
 cases h : (cutF c s).2.2 with
 | false=>have:=(cutF_no h).2.2; rw [this]; exact ⟨by omega,fun h=>by omega⟩
 | true=>obtain ⟨h1,_,_,h4⟩:=cutF_yes h; rw [h1]; exact ⟨by omega,fun _=>by omega⟩
theorem hpG_small : ∀ (m p : Nat) (r : List HF) (b : List UInt8),b.length≤1000000→r.length≤100→(∀ x∈r,x.small)→(hpG b m p r).1.length≤100∧∀ x∈(hpG b m p r).1,x.small
 | 0,p,r,b,_,_,_=>⟨by simp [hpG],fun x hx=>by simp [hpG] at hx⟩
 | m + 1,p,r,b,hb,hr,hs=>by
  have h0 : ([] : List HF).length≤100∧∀ x∈([] : List HF),x.small:=⟨by simp,fun x hx=>by cases hx⟩
  unfold hpG
  split
  ·exact h0
  split
  ·exact h0
  split
  ·exact h0
  split
  ·exact ⟨hr,hs⟩
  split
  ·exact h0
  split
  ·exact h0
  rename_i h
  simp only [Bool.or_eq_true,decide_eq_true_eq,not_or] at h
  obtain ⟨h1,h2⟩:=h
  refine hpG_small m _ _ b hb (by rw [List.length_append]; simp only [List.length_cons,List.length_nil]; omega) fun x hx=>?_
  rcases List.mem_append.1 hx with hx | hx
  ·exact hs x hx
  ·have hx:=List.mem_singleton.1 hx
   subst hx
   refine ⟨?_,by show (trimF _).length≤_; omega⟩
   show (cutF 58 _).1.length≤_
   refine Nat.le_trans (cutF_len' 58 _).1 ?_
   rw [Lib.trimSuffix]
   have e : ((b.drop p).take (Lib.indexByte (b.drop p) 10).toNat).length≤1000000:=by rw [List.length_take,List.length_drop]; omega
   split
   ·rw [List.length_take]; omega
   ·omega
structure HpE (e : Int) (t : List UInt8) : Prop where
 lo : -1≤e
 hi : 0≤e→e < (t.length : Int)
structure HpS (s : List UInt8) : Prop where
 len : s.length≤8192
theorem finHP {D : Dn} (hD : D = dn) {l l' : List HF} {f f1 : Nat→List SV} {n n1 k e : Int} {b b1 : Bool} {x : BT} {y z w : ST} (h : (l,k,e) = (l',z.den,w.den)) (G : GrH f n b l') (hG : GrH f1 n1 b1 l) (hx : x.den = b) (hy : y.den = n) :
  Fin (.tup [.sl (.a (D.b x)) (.a (D.i y)) 2 f,.int .i64 (.a (D.i z)),.int .i64 (.a (D.i w))]) (.tup [.sl (.a b1) (.a n1) 2 f1,.int .i64 (.a k),.int .i64 (.a e)]) [] []:=by
 subst hD
 simp only [Prod.mk.injEq] at h
 obtain ⟨rfl,rfl,rfl⟩:=h
 exact finV (.tup (.cons (leGrH G hG hx hy) (.cons (leInt rfl) (.cons (leInt rfl) .nil))))
theorem hparse_ok : FnOk Tryz.prog gl 53 spHParse:=by
 refine fnOk (gh:=[(1,[.attach 5 69])]) mixed cxOk (tabCons idxRow_ok (tabCons cutSuf_ok (tabCons cont1_ok (tabCons cut_ok (tabCons token_ok (tabCons hplain_ok (tabCons trim64_ok tabNil))))))) Tryz.func53 (by kernel_rfl) (by kernel_rfl) ?_
 intro xs ls K h
 unfold spHParse at h
 obtain ⟨b,nl,n,f,rfl,rfl,R,hb,h⟩:=h
 obtain ⟨k,hk⟩ : ∃ k,k = hparseF b:=⟨_,rfl⟩
 have hS:=hpG_small (b.length + 1) 0 [] b hb (by simp) (fun x hx=>by cases hx)
 have hk0 : k = hpG b (b.length + 1) 0 []:=hk
 rw [←hk0] at hS
 obtain ⟨J,hJ⟩ : ∃ J,J = hpJ b k nl n f:=⟨_,rfl⟩
 obtain ⟨kl,kk,ke⟩:=k
 have hG : ∃ f1 n1 b1,GrH f1 n1 b1 kl:=⟨_,_,_,⟨RowH.row (by have:=hS.1; simp only at this; omega) (fun i hi=>hS.2 _ (by rw [List.getD_eq_getElem?_getD,List.getElem?_eq_getElem hi]; exact List.getElem_mem hi)),rfl⟩⟩
 obtain ⟨f1,n1,b1,hG⟩:=hG
 clear hS
 refine ⟨_,_,h kl f1 n1 b1 kk ke hk hG,fun D hD=>?_⟩
 cbv
 clear h
 refine ⟨[0,5,6],J,⟨rfl,b.length + 1,?_⟩,?_⟩
 ·rw [hJ]
  subst hD
  exact ⟨0,_,[],_,_,_,rfl,rfl,⟨rfl,by omega,by omega,by omega,hk0,GrH.nil,by simp⟩⟩
 clear hk hk0
 intro m vs hp hj
 rw [hJ] at hj
 obtain ⟨p,P,r,e1,m1,c1,rfl,rfl,V⟩:=hj
 have hP:=V.eP
 have hle:=V.le
 have hk:=V.k
 obtain ⟨m0,rfl⟩ : ∃ m0,m = m0 + 1:=⟨m - 1,by have:=V.lt; omega⟩
 rw [hpG,←hP] at hk
 obtain ⟨t,ht⟩ : ∃ t,t = b.drop p:=⟨_,rfl⟩
 rw [←ht] at hk
 have htl : t.length = b.length - p:=by rw [ht,List.length_drop]
 have VP : VI P p:=⟨hP⟩
 clear hP
 refine ⟨by subst hD; exact ⟨by show (0 : Int)≤P; rw [VP.h]; omega,by show P≤n; rw [VP.h,R.n]; omega,Int.le_refl _⟩,fun f2 n2 hsub=>?_⟩
 cbv
 have R2 : RowU f2 n2 t:=by
  have:=R.sub (a:=p) (b:=b.length) hsub (by subst hD; exact VP.h) (by subst hD; exact R.n) hle (Nat.le_refl _)
  rw [ht]
  have e : (b.drop p).take (b.length - p) = b.drop p:=List.take_of_length_le (by rw [List.length_drop]; exact Nat.le_refl _)
  rwa [e] at this
 clear hsub
 refine ⟨t,_,_,_,f2,rfl,rfl,by subst hD; exact R2,by subst hD; rfl,fun e he=>?_⟩
 cbv
 rw [←he] at hk
 have hb1 : HpE e t:=by rw [he]; exact ⟨indexB_lt.1,indexB_lt.2⟩
 have hdn : decide (8192 < n) = decide (8192 < b.length):=by rw [decide_eq_decide,R.n]; omega
 refine br hD (fun h=>?_) (fun h=>?_)<;>cbv
 ·have h : (decide (e < 0) && decide (8192 < n)) = true:=h
  rw [hdn] at h
  rw [if_pos (by rw [h]; rfl)] at hk
  exact finHP hD hk GrH.nil hG rfl rfl
 have h1 : (decide (e < 0) && decide (8192 < b.length)) = false:=by
  have h : (decide (e < 0) && decide (8192 < n)) = false:=h
  rw [hdn] at h
  exact h
 rw [h1,Bool.false_or] at hk
 clear h
 have hw1 : IntKind.i64.wrap (P + e) = P + e:=by have:=VP.h; have:=hb1.lo; have:=hb1.hi; exact wrap64 (by omega) (by omega)
 refine br hD (fun h=>?_) (fun h=>?_)<;>cbv
 ·have h : decide (8192≤IntKind.i64.wrap (P + e)) = true:=h
  rw [hw1] at h
  rw [if_pos h] at hk
  exact finHP hD hk GrH.nil hG rfl rfl
 have h2 : ¬ 8192≤P + e:=by
  have h : decide (8192≤IntKind.i64.wrap (P + e)) = false:=h
  rw [hw1] at h
  simpa using h
 rw [if_neg (by simpa using h2)] at hk
 clear h
 refine br hD (fun h=>?_) (fun h=>?_)<;>cbv
 ·have h : decide (e < 0) = true:=h
  rw [if_pos (by simpa using h)] at hk
  exact finHP hD hk GrH.nil hG rfl rfl
 have h3 : ¬ e < 0:=by
  have h : decide (e < 0) = false:=h
  simpa using h
 rw [if_neg h3] at hk
 clear h
 obtain ⟨q,hq⟩ : ∃ q : Nat,q = e.toNat:=⟨_,rfl⟩
 rw [←hq] at hk
 have VE : VI e q:=⟨by omega⟩
 have hql : q < t.length:=by have:=hb1.hi (by omega); have:=VE.h; omega
 have hpq : p + q < 8192:=by have:=VP.h; have:=VE.h; omega
 clear hq h1 h2 h3
 refine ⟨by subst hD; exact ⟨by show (0 : Int)≤P; rw [VP.h]; omega,by show P≤IntKind.i64.wrap (P + e); rw [hw1,VE.h]; omega,by show IntKind.i64.wrap (P + e)≤n; rw [hw1,VP.h,VE.h,R.n]; omega⟩,fun f3 n3 hsub=>?_⟩
 cbv
 have R3 : RowU f3 n3 (t.take q):=by
  have:=R.sub (a:=p) (b:=p + q) hsub (by subst hD; exact VP.h) (by subst hD; show IntKind.i64.wrap (P + e) = _; rw [hw1,VP.h,VE.h]; omega) (by omega) (by omega)
  rw [←ht] at this
  have e : p + q - p = q:=by omega
  rwa [e] at this
 clear hsub
 refine ⟨by subst hD; exact R3.byte,fun s hs=>?_⟩
 cbv
 have hs : s = t.take q:=by subst hD; exact R3.str hs
 rw [←hs] at hk
 have hsl : HpS s:=⟨by rw [hs,List.length_take]; omega⟩
 clear hs R3
 refine ⟨s,[13],rfl,rfl,by have:=hsl.len; omega,fun l is hl his=>?_⟩
 cbv
 rw [←hl,←his] at hk
 have hll : HpS l:=⟨by
  have:=hsl.len
  rw [hl,Lib.trimSuffix]
  split
  ·rw [List.length_take]; omega
  ·exact this⟩
 clear hl his hsl
 refine ⟨l,13,rfl,rfl,fun cc hcc=>?_⟩
 cbv
 rw [←hcc] at hk
 clear hcc
 refine br hD (fun h=>?_) (fun h=>?_)<;>cbv
 ·have h : (!is || cc) = true:=h
  rw [if_pos h] at hk
  exact finHP hD hk GrH.nil hG rfl rfl
 have h : (!is || cc) = false:=h
 rw [if_neg (by rw [h]; simp)] at hk
 clear h
 have hw2 : IntKind.i64.wrap (P + IntKind.i64.wrap (e + 1)) = P + e + 1:=by
  have:=VP.h; have:=VE.h
  rw [wrap64 (n:=e + 1) (by omega) (by omega),wrap64 (by omega) (by omega)]; omega
 refine br hD (fun h=>?_) (fun h=>?_)<;>cbv
 ·have h1 : l = []:=by
   have h : (l == []) = true:=h
   exact eq_of_beq h
  rw [if_pos h1] at hk
  exact finHP hD (by rw [hk]; rw [←hw2]; rfl) V.G hG rfl rfl
 have h1 : ¬ l = []:=by
  have h : (l == []) = false:=h
  intro e; rw [e] at h; simp at h
 rw [if_neg h1] at hk
 clear h h1
 obtain ⟨c,hc⟩ : ∃ c,c = cutF 58 l:=⟨_,rfl⟩
 rw [←hc] at hk
 refine ⟨l,58,rfl,rfl,by have:=hll.len; omega,fun na va ok hc2=>?_⟩
 cbv
 rw [←hc] at hc2
 subst hc2
 have hnl : HpS na:=⟨by have h:=(cutF_len' 58 l).1; rw [←hc] at h; exact Nat.le_trans h hll.len⟩
 have hvl : HpS va:=⟨by have h:=(cutF_len' 58 l).2; rw [←hc] at h; exact Nat.le_trans h hll.len⟩
 clear hc hll
 refine ⟨na,rfl,rfl,by have:=hnl.len; omega,fun tk htk=>?_⟩
 cbv
 rw [←htk] at hk
 clear htk
 refine ⟨va,rfl,rfl,fun pl hpl=>?_⟩
 cbv
 simp only at hk
 rw [←hpl] at hk
 clear hpl
 refine br hD (fun h=>?_) (fun h=>?_)<;>cbv
 ·have h : ((!ok || !tk) || !pl) = true:=h
  rw [if_pos h] at hk
  exact finHP hD hk GrH.nil hG rfl rfl
 have h : ((!ok || !tk) || !pl) = false:=h
 rw [if_neg (by rw [h]; simp)] at hk
 clear h
 refine ⟨va,[32,9],rfl,rfl,by have:=hvl.len; omega,by decide,by decide,fun v hv=>?_⟩
 cbv
 have hv : v = trimF va:=by rw [hv,trimS_eq]
 rw [←hv] at hk
 clear hv hvl
 have hm1 : m1 = (r.length : Int):=V.G.row.n
 have hd2 : decide (m1 = 100) = decide (r.length = 100):=by rw [decide_eq_decide,hm1]; omega
 refine br hD (fun h=>?_) (fun h=>?_)<;>cbv
 ·have h : (decide (2000 < (v.length : Int)) || (m1 == 100)) = true:=h
  have h : (decide (2000 < v.length) || decide (r.length = 100)) = true:=by
   rw [←hd2]
   rcases Bool.or_eq_true_iff.1 h with h | h
   ·rw [decide_eq_true (by have:=of_decide_eq_true h; omega)]; rfl
   ·rw [decide_eq_true (eq_of_beq h)]; simp
  rw [if_pos h] at hk
  exact finHP hD hk GrH.nil hG rfl rfl
 have h : ¬ 2000 < v.length∧¬ r.length = 100:=by
  have h : (decide (2000 < (v.length : Int)) || (m1 == 100)) = false:=h
  rw [Bool.or_eq_false_iff] at h
  refine ⟨fun e=>?_,fun e=>?_⟩
  ·have:=of_decide_eq_false h.1; omega
  ·have h2:=h.2; rw [hm1,e] at h2; simp at h2
 obtain ⟨h4,h5⟩:=h
 rw [if_neg (by simp [h4,h5])] at hk
 have hvs : HpS v:=⟨by omega⟩
 clear h4 hd2 hm1
 intro g hg
 cbv
 have hg0 : g 0 = hfCells ⟨na,v⟩:=hg.h 0 _ rfl
 clear hg
 have hN : m1 = (r.length : Int):=V.G.row.n
 have hrl:=V.len
 refine ⟨by subst hD; exact ⟨rfl,by show (m1 + 1) * 32≤_; omega,by show m1 + 1≤_; omega⟩,fun f' n' hm=>?_⟩
 cbv
 have G2 : ∀ nl',nl' = false→GrH f' n' nl' (r ++ [⟨na,v⟩]):=fun nl' hb=>V.G.more hg0 ⟨by have:=hnl.len; show na.length≤_; omega,by have:=hvs.len; show v.length≤_; omega⟩ (by subst hD; exact hm) (by omega) hb
 clear hm hN
 refine ⟨m0,Nat.lt_succ_self _,?_⟩
 rw [hJ]
 unfold hpJ
 subst hD
 exact ⟨p + q + 1,_,r ++ [⟨na,v⟩],f',n',(c1 && false),rfl,rfl,⟨by show IntKind.i64.wrap (P + IntKind.i64.wrap (e + 1)) = _; rw [hw2,VP.h,VE.h]; omega,by omega,by omega,by have:=V.lt; omega,hk,G2 _ (Bool.and_false _),by rw [List.length_append]; simp only [List.length_cons,List.length_nil]; omega⟩⟩
end Go.Proofs.YtefelnhpfdcleaaGreatDoor
namespace Go.Proofs.YtefelnhpfdcleaaGreatDoor
open Go Go.Sx
set_option maxRecDepth 100000
set_option maxHeartbeats 16000000
theorem hpG_val (b : List UInt8) : ∀ (m p : Nat) (r : List HF),p≤b.length→(∀ x∈r,x.value.length≤2000)→
  (∀ x∈(hpG b m p r).1,x.value.length≤2000)∧0≤(hpG b m p r).2.1∧(hpG b m p r).2.1≤b.length
 | 0,p,r,_,_=>⟨fun x hx=>by simp [hpG] at hx,by simp [hpG],by simp [hpG]⟩
 | m + 1,p,r,hp,hs=>by
  have h0 : ∀ z : Int,(∀ x∈(([],0,z) : List HF×Int×Int).1,x.value.length≤2000)∧0≤(([],0,z) : List HF×Int×Int).2.1∧(([],0,z) : List HF×Int×Int).2.1≤(b.length : Int):=fun z=>⟨fun x hx=>(nomatch hx),by simp,by simp⟩
  have hi:=indexB_lt (s:=b.drop p) (c:=10)
  rw [List.length_drop] at hi
  unfold hpG
  split
  ·exact h0 _
  split
  ·exact h0 _
  rename_i hn
  have hi2:=hi.2 (by omega)
  split
  ·exact h0 _
  split
  ·exact ⟨hs,by show 0≤(p : Int) + _ + 1; omega,by show (p : Int) + _ + 1≤_; omega⟩
  split
  ·exact h0 _
  split
  ·exact h0 _
  rename_i h
  simp only [Bool.or_eq_true,decide_eq_true_eq,not_or] at h
  obtain ⟨h1,h2⟩:=h
  refine hpG_val b m _ _ (by omega) fun x hx=>?_
  rcases List.mem_append.1 hx with hx | hx
  ·exact hs x hx
  ·have hx:=List.mem_singleton.1 hx
   subst hx
   show (trimF _).length≤_
   omega
theorem hparse_val (b : List UInt8) : (∀ x∈(hparseF b).1,x.value.length≤2000)∧0≤(hparseF b).2.1∧(hparseF b).2.1≤b.length:=hpG_val b _ 0 [] (by omega) (fun x hx=>by cases hx)
structure FrSm (r : Fr) : Prop where
 hosts : ∀ s∈r.hosts,s.length≤2000
 ids : ∀ s∈r.ids,s.length≤2000
 lens : ∀ s∈r.lens,s.length≤2000
theorem frame_val : ∀ (l : List HF) (r : Fr),(∀ x∈l,x.value.length≤2000)→FrSm r→FrSm (l.foldl frStep r)
 | [],_,_,h=>h
 | x :: l,r,hl,h=>by
  have hx:=hl x (List.mem_cons_self ..)
  refine frame_val l _ (fun y hy=>hl y (List.mem_cons_of_mem _ hy)) ?_
  have ap : ∀ {a : List (List UInt8)},(∀ s∈a,s.length≤2000)→∀ s∈a ++ [x.value],s.length≤2000:=by
   intro a ha s hs
   rcases List.mem_append.1 hs with hs | hs
   ·exact ha s hs
   ·rw [List.mem_singleton.1 hs]; exact hx
  unfold frStep
  split
  ·exact ⟨ap h.hosts,h.ids,h.lens⟩
  split
  ·exact ⟨h.hosts,ap h.ids,h.lens⟩
  split
  ·exact ⟨h.hosts,h.ids,ap h.lens⟩
  split
  ·exact ⟨h.hosts,h.ids,h.lens⟩
  ·exact ⟨h.hosts,h.ids,h.lens⟩
theorem frameF_val {l : List HF} (h : ∀ x∈l,x.value.length≤2000) : FrSm (frameF l) :=
 frame_val l _ h ⟨fun s hs=>(nomatch hs),fun s hs=>(nomatch hs),fun s hs=>(nomatch hs)⟩
theorem numberF_val (s : List UInt8) (hi : Int) (h0 : 0≤hi) : 0≤(numberF s hi).1∧(numberF s hi).1≤hi:=by
 unfold numberF intF
 split
 ·exact ⟨by simp,h0⟩
 split
 ·exact ⟨by simp,h0⟩
 split
 ·exact ⟨by simp,h0⟩
 ·rename_i h
  simp only [not_or] at h
  exact ⟨by show 0≤(pInt s).1; omega,by show (pInt s).1≤hi; omega⟩
theorem readLineF_val (b : List UInt8) : 0≤(readLineF b).2.2.1∧(readLineF b).2.2.1≤b.length∧(readLineF b).1.length≤1025∧(readLineF b).2.1.length≤1025:=by
 have h0 : ∀ z : Int,0≤(([],[],0,z) : List UInt8×List UInt8×Int×Int).2.2.1∧(([],[],0,z) : List UInt8×List UInt8×Int×Int).2.2.1≤(b.length : Int)∧(([],[],0,z) : List UInt8×List UInt8×Int×Int).1.length≤1025∧(([],[],0,z) : List UInt8×List UInt8×Int×Int).2.1.length≤1025:=fun z=>⟨by simp,by simp,by simp,by simp⟩
 unfold readLineF
 split
 ·exact h0 _
 split
 ·exact h0 _
 rename_i h1
 split
 ·exact h0 _
 have h2 : (cutF 10 (b.take 1024)).2.2 = true:=by simpa using h1
 obtain ⟨_,_,_,h4⟩:=cutF_yes h2
 rw [List.length_take] at h4
 have ht : (Lib.trimSuffix ((cutF 10 (b.take 1024)).1 ++ [10]) rVer).length≤1025:=by
  rw [Lib.trimSuffix]
  split
  ·rw [List.length_take]; simp only [List.length_append,List.length_cons,List.length_nil]; omega
  ·simp only [List.length_append,List.length_cons,List.length_nil]; omega
 have hc:=cutF_len' 32 (Lib.trimSuffix ((cutF 10 (b.take 1024)).1 ++ [10]) rVer)
 exact ⟨by show 0≤((cutF 10 (b.take 1024)).1.length : Int) + 1; omega,by show ((cutF 10 (b.take 1024)).1.length : Int) + 1≤_; omega,Nat.le_trans hc.1 ht,Nat.le_trans hc.2 ht⟩
def rqZ : Rq:=⟨0,[],[],[],[],[]⟩
def parseD (b : List UInt8) (r : Rq) (p sz : Int) : Rq×Int×Int :=
 if (checkRF r).2≠0 then (rqZ,0,(checkRF r).2) else if decide (0 < sz) && bareF r.method then (rqZ,0,2) else if (b.length : Int) - p < sz then (rqZ,0,10) else
 (⟨r.id,r.method,r.target,r.host,r.fields,(b.drop p.toNat).take sz.toNat⟩,p + sz,0)
def parseC (b me ta : List UInt8) (p : Int) (ho : List UInt8) (fs : List HF) (ia la : Int×Int) : Rq×Int×Int :=
 if ia.2 = 6∨la.2 = 6 then (rqZ,0,6) else if la.2≠0 then (rqZ,0,3) else parseD b ⟨ia.1,me,ta,ho,fs,[]⟩ p la.1
def frBad (fr : Fr) : Bool:=((fr.hosts.length != 1 || fr.ids.length != 1) || decide (1 < fr.lens.length)) || fr.coded
def lenS (fr : Fr) : List UInt8:=if fr.lens.length = 0 then [48] else fr.lens.getD 0 []
def parseB (b me ta : List UInt8) (p : Int) (fr : Fr) : Rq×Int×Int :=
 if frBad fr then (rqZ,0,6) else parseC b me ta p (fr.hosts.getD 0 []) fr.rest (numberF (fr.ids.getD 0 []) 1000000000) (numberF (lenS fr) 65536)
def parseF (b : List UInt8) : Rq×Int×Int :=
 if (readLineF b).2.2.2≠0 then (rqZ,0,(readLineF b).2.2.2) else
 if (hparseF (b.drop (readLineF b).2.2.1.toNat)).2.2≠0 then (rqZ,0,(hparseF (b.drop (readLineF b).2.2.1.toNat)).2.2) else
 parseB b (readLineF b).1 (readLineF b).2.1 ((readLineF b).2.2.1 + (hparseF (b.drop (readLineF b).2.2.1.toNat)).2.1) (frameF (hparseF (b.drop (readLineF b).2.2.1.toNat)).1)
def spParse : FSpec:=fun _ xs ls K=>∃ (b : List UInt8) (nl : Bool) (n : Int) (f : Nat→List SV),xs = [.sl (.a nl) (.a n) 1 f]∧ls = []∧RowU f n b∧b.length≤1000000∧
 ∀ r f1 n1 b1 k e,(r,k,e) = parseF b→GrH f1 n1 b1 r.fields→K (.tup [.agg [.int .i64 (.a r.id),.str r.method,.str r.target,.str r.host,.sl (.a b1) (.a n1) 2 f1,.str r.body],.int .i64 (.a k),.int .i64 (.a e)]) []
theorem parseF_row (b : List UInt8) (hb : b.length≤1000000) : ∃ f1 n1 b1,GrH f1 n1 b1 (parseF b).1.fields:=by
 have h0 : ∃ f1 n1 b1,GrH f1 n1 b1 rqZ.fields:=⟨_,_,_,GrH.nil⟩
 unfold parseF
 split
 ·exact h0
 split
 ·exact h0
 unfold parseB
 split
 ·exact h0
 unfold parseC
 split
 ·exact h0
 split
 ·exact h0
 unfold parseD
 split
 ·exact h0
 split
 ·exact h0
 split
 ·exact h0
 obtain ⟨c,hc⟩ : ∃ c,c = b.drop (readLineF b).2.2.1.toNat:=⟨_,rfl⟩
 rw [←hc]
 have hcl : c.length≤1000000:=by rw [hc,List.length_drop]; omega
 have hS:=hpG_small (c.length + 1) 0 [] c hcl (by simp) (fun x hx=>by cases hx)
 obtain ⟨L1,L2,L3,L4,L5⟩:=frame_len (hparseF c).1 ⟨[],[],[],false,[]⟩ hS.2 (fun x hx=>by cases hx)
 have hl : (hparseF c).1.length≤100:=hS.1
 simp only [List.length_nil] at L4
 exact ⟨_,_,_,⟨RowH.row (l:=(frameF (hparseF c).1).rest) (by unfold frameF; omega) (fun i hi=>L5 _ (by rw [List.getD_eq_getElem?_getD,List.getElem?_eq_getElem hi]; exact List.getElem_mem hi)),rfl⟩⟩
structure PV (b me ta : List UInt8) (p : Int) : Prop where
 lo : 0≤p
 hi : p≤(b.length : Int)
 me : me.length≤1025
 ta : ta.length≤1025
theorem finPs {D : Dn} (hD : D = dn) {l l' : Rq} {f f1 : Nat→List SV} {n n1 k e : Int} {b b1 : Bool} {x : BT} {i y z w : ST} {me ta ho bo : List UInt8} (h : (l,k,e) = (l',z.den,w.den)) (h1 : i.den = l'.id) (h2 : me = l'.method) (h3 : ta = l'.target) (h4 : ho = l'.host) (h5 : bo = l'.body) (G : GrH f n b l'.fields) (hG : GrH f1 n1 b1 l.fields) (hx : x.den = b) (hy : y.den = n) :
  Fin (.tup [.agg [.int .i64 (.a (D.i i)),.str me,.str ta,.str ho,.sl (.a (D.b x)) (.a (D.i y)) 2 f,.str bo],.int .i64 (.a (D.i z)),.int .i64 (.a (D.i w))]) (.tup [.agg [.int .i64 (.a l.id),.str l.method,.str l.target,.str l.host,.sl (.a b1) (.a n1) 2 f1,.str l.body],.int .i64 (.a k),.int .i64 (.a e)]) [] []:=by
 subst hD h2 h3 h4 h5
 simp only [Prod.mk.injEq] at h
 obtain ⟨rfl,rfl,rfl⟩:=h
 exact finV (.tup (.cons (LeV.agg (.cons (leInt h1) (.cons (LeV.refl _) (.cons (LeV.refl _) (.cons (LeV.refl _) (.cons (leGrH G hG hx hy) (.cons (LeV.refl _) .nil))))))) (.cons (leInt rfl) (.cons (leInt rfl) .nil))))
theorem parse_ok : FnOk Tryz.prog gl 22 spParse:=by
 refine fnOk (gh:=[]) mixed cxOk (tabCons readLine_ok (tabCons hparse_ok (tabCons frame_ok (tabCons number_ok (tabCons checkR_ok (tabCons isBare_ok tabNil)))))) Tryz.func22 (by kernel_rfl) (by kernel_rfl) ?_
 intro xs ls K h
 unfold spParse at h
 obtain ⟨b,nl,n,f,rfl,rfl,R,hb,h⟩:=h
 obtain ⟨k,hk0⟩ : ∃ k,k = parseF b:=⟨_,rfl⟩
 obtain ⟨f1,n1,b1,hG⟩:=parseF_row b hb
 rw [←hk0] at hG
 obtain ⟨kr,kk,ke⟩:=k
 have hk:=hk0
 unfold parseF at hk
 have hrv:=readLineF_val b
 obtain ⟨rl,hrl⟩ : ∃ c,c = readLineF b:=⟨_,rfl⟩
 rw [←hrl] at hk hrv
 obtain ⟨me,ta,p,e0⟩:=rl
 simp only at hk hrv
 have PV0 : PV b me ta p:=⟨hrv.1,hrv.2.1,hrv.2.2.1,hrv.2.2.2⟩
 clear hrv
 refine ⟨_,_,h kr f1 n1 b1 kk ke hk0 hG,fun D hD=>?_⟩
 cbv
 clear h hk0
 refine ⟨b,_,_,_,rfl,rfl,by subst hD; exact R,hb,fun me' ta' p' e0' hm=>?_⟩
 cbv
 rw [←hrl] at hm
 simp only [Prod.mk.injEq] at hm
 obtain ⟨rfl,rfl,rfl,rfl⟩:=hm
 clear hrl
 refine br hD (fun h=>?_) (fun h=>?_)<;>cbv
 ·have h1 : ¬ e0' = 0:=by have h : (e0' != 0) = true:=h; simpa using h
  rw [if_pos h1] at hk
  exact finPs hD hk rfl rfl rfl rfl rfl GrH.nil hG rfl rfl
 rw [if_neg (by have h : (e0' != 0) = false:=h; simpa using h)] at hk
 clear h
 obtain ⟨P,hP⟩ : ∃ P : Nat,P = p'.toNat:=⟨_,rfl⟩
 rw [←hP] at hk
 have VP : VI p' P:=⟨by have:=PV0.lo; omega⟩
 clear hP
 obtain ⟨t,ht⟩ : ∃ t,t = b.drop P:=⟨_,rfl⟩
 rw [←ht] at hk
 refine ⟨by subst hD; exact ⟨PV0.lo,by show p'≤n; rw [R.n]; exact PV0.hi,Int.le_refl _⟩,fun f2 n2 hsub=>?_⟩
 cbv
 have R2 : RowU f2 n2 t:=by
  have:=R.sub (a:=P) (b:=b.length) hsub (by subst hD; exact VP.h) (by subst hD; exact R.n) (by have:=VP.h; have:=PV0.hi; omega) (Nat.le_refl _)
  rw [ht]
  have e : (b.drop P).take (b.length - P) = b.drop P:=List.take_of_length_le (by rw [List.length_drop]; exact Nat.le_refl _)
  rwa [e] at this
 have htl : VI (t.length : Int) (b.length - P):=⟨by rw [ht,List.length_drop]⟩
 clear hsub ht
 have htm : t.length≤1000000:=by have:=htl.h; omega
 have hv1:=hparse_val t
 have hv2 : (hparseF t).1.length≤100∧∀ x∈(hparseF t).1,x.small:=hpG_small (t.length + 1) 0 [] t htm (by simp) (fun x hx=>by cases hx)
 obtain ⟨hp,hhp⟩ : ∃ c,c = hparseF t:=⟨_,rfl⟩
 rw [←hhp] at hk hv1 hv2
 obtain ⟨l,c,e1⟩:=hp
 simp only at hk hv1 hv2
 have PC : PV t me' ta' c:=⟨hv1.2.1,hv1.2.2,PV0.me,PV0.ta⟩
 have FS:=frameF_val hv1.1
 obtain ⟨hv21,hv22⟩:=hv2
 clear hv1
 refine ⟨t,_,_,_,rfl,rfl,by subst hD; exact R2,htm,fun l' g2 gn gb c' e1' hm hg2=>?_⟩
 cbv
 rw [←hhp] at hm
 simp only [Prod.mk.injEq] at hm
 obtain ⟨rfl,rfl,rfl⟩:=hm
 clear hhp
 refine br hD (fun h=>?_) (fun h=>?_)<;>cbv
 ·have h1 : ¬ e1' = 0:=by have h : (e1' != 0) = true:=h; simpa using h
  rw [if_pos h1] at hk
  exact finPs hD hk rfl rfl rfl rfl rfl GrH.nil hG rfl rfl
 rw [if_neg (by have h : (e1' != 0) = false:=h; simpa using h)] at hk
 clear h
 obtain ⟨fr,hfr⟩ : ∃ c,c = frameF l':=⟨_,rfl⟩
 rw [←hfr] at hk FS
 refine ⟨l',_,_,_,rfl,rfl,by subst hD; exact hg2.row,hv21,fun fr' g3 g4 g5 g6 m3 m4 m5 m6 q3 q4 q5 q6 hfr' FV=>?_⟩
 cbv
 rw [←hfr] at hfr'
 subst hfr'
 clear hfr hg2
 have N3:=FV.g1.row.n
 have N4:=FV.g2.row.n
 have N5:=FV.g3.row.n
 have hbad : (((m3 != 1 || m4 != 1) || decide (1 < m5)) || fr'.coded) = frBad fr':=by
  unfold frBad
  have a1 : (m3 != 1) = (fr'.hosts.length != 1):=by rw [N3,Bool.eq_iff_iff]; simp only [bne_iff_ne]; omega
  have a2 : (m4 != 1) = (fr'.ids.length != 1):=by rw [N4,Bool.eq_iff_iff]; simp only [bne_iff_ne]; omega
  have a3 : decide (1 < m5) = decide (1 < fr'.lens.length):=by rw [N5,decide_eq_decide]; omega
  rw [a1,a2,a3]
 have VN : VI m3 fr'.hosts.length∧VI m4 fr'.ids.length∧VI m5 fr'.lens.length:=⟨⟨N3⟩,⟨N4⟩,⟨N5⟩⟩
 clear N3 N4 N5
 refine br hD (fun h=>?_) (fun h=>?_)<;>cbv
 ·have h1 : frBad fr' = true:=by rw [←hbad]; exact h
  rw [parseB,if_pos h1] at hk
  exact finPs hD hk rfl rfl rfl rfl rfl GrH.nil hG rfl rfl
 have h1 : frBad fr' = false:=by rw [←hbad]; exact h
 rw [parseB,if_neg (by rw [h1]; simp)] at hk
 clear h hbad
 have hl1 : fr'.hosts.length = 1∧fr'.ids.length = 1∧fr'.lens.length≤1:=by unfold frBad at h1; simp only [Bool.or_eq_false_iff,bne_eq_false_iff_eq,decide_eq_false_iff_not] at h1; omega
 clear h1
 obtain ⟨ids0,hids⟩ : ∃ c,c = fr'.ids.getD 0 []:=⟨_,rfl⟩
 obtain ⟨ho0,hho⟩ : ∃ c,c = fr'.hosts.getD 0 []:=⟨_,rfl⟩
 have hids0 : ids0.length≤2000:=FS.ids _ (by rw [hids,List.getD_eq_getElem?_getD,List.getElem?_eq_getElem (by omega)]; exact List.getElem_mem _)
 have hho0 : ho0.length≤2000:=FS.hosts _ (by rw [hho,List.getD_eq_getElem?_getD,List.getElem?_eq_getElem (by omega)]; exact List.getElem_mem _)
 rw [←hids,←hho] at hk
 refine br hD (fun h=>?_) (fun h=>?_)<;>cbv
 ·have h : (m5 == 0) = true:=h
  have hl5 : fr'.lens.length = 0:=by have:=VN.2.2.h; have:=eq_of_beq h; omega
  obtain ⟨len0,hlen⟩ : ∃ c : List UInt8,c = [48]:=⟨_,rfl⟩
  have hls : lenS fr' = len0:=by rw [lenS,if_pos hl5,hlen]
  have hlen0 : len0.length≤2000:=by rw [hlen]; simp
  rw [hls] at hk
  clear h
  intro g hg
  cbv
  have q2 : g 0 = [.str len0]:=by rw [hlen]; exact hg.h 0 _ rfl
  clear hg
  clear hlen
  refine ⟨by subst hD; exact ⟨Int.le_refl _,by show (0 : Int) < m4; rw [VN.2.1.h]; omega⟩,fun j hj=>?_⟩
  obtain rfl : j = 0:=by subst hD; exact Int.ofNat.inj hj.h
  clear hj
  have q1:=FV.g2.row.f 0 (by omega)
  rw [←hids] at q1
  cbv
  rw [q1]
  cbv
  refine ⟨ids0,_,rfl,rfl,by omega,fun iv ie hi=>?_⟩
  cbv
  have hi : (iv,ie) = numberF ids0 1000000000:=by subst hD; exact hi
  rw [←hi] at hk
  have NI:=numberF_val ids0 1000000000 (by omega)
  rw [←hi] at NI
  simp only at NI
  clear hi
  refine ⟨by subst hD; exact ⟨Int.le_refl _,by show (0 : Int) < 1; decide⟩,fun j hj=>?_⟩
  obtain rfl : j = 0:=by subst hD; exact Int.ofNat.inj hj.h
  clear hj
  cbv
  rw [q2]
  cbv
  refine ⟨len0,_,rfl,rfl,by omega,fun sv se hi=>?_⟩
  cbv
  have hi : (sv,se) = numberF len0 65536:=by subst hD; exact hi
  rw [←hi] at hk
  have NS:=numberF_val len0 65536 (by omega)
  rw [←hi] at NS
  simp only at NS
  clear hi q1 q2
  rw [parseC] at hk
  simp only at hk
  refine br hD (fun h=>?_) (fun h=>?_)<;>cbv
  ·have h : (ie == 6 || se == 6) = true:=h
   rw [if_pos (by simpa using h)] at hk
   exact finPs hD hk rfl rfl rfl rfl rfl GrH.nil hG rfl rfl
  have h : (ie == 6 || se == 6) = false:=h
  rw [if_neg (by rw [Bool.or_eq_false_iff] at h; have h2:=h.1; have h3:=h.2; simp only [beq_eq_false_iff_ne] at h2 h3; omega)] at hk
  clear h
  refine br hD (fun h=>?_) (fun h=>?_)<;>cbv
  ·have h : (se != 0) = true:=h
   rw [if_pos (by simpa using h)] at hk
   exact finPs hD hk rfl rfl rfl rfl rfl GrH.nil hG rfl rfl
  have h : (se != 0) = false:=h
  rw [if_neg (by simpa using h)] at hk
  clear h
  refine ⟨by subst hD; exact ⟨Int.le_refl _,by show (0 : Int) < m3; rw [VN.1.h]; omega⟩,fun j hj=>?_⟩
  obtain rfl : j = 0:=by subst hD; exact Int.ofNat.inj hj.h
  clear hj
  have q1:=FV.g1.row.f 0 (by omega)
  rw [←hho] at q1
  cbv
  rw [q1]
  cbv
  clear q1
  rw [parseD] at hk
  simp only at hk
  have hkn : (b.length : Int) = n:=R.n.symm
  rw [hkn] at hk
  refine ⟨⟨D.i (.a iv),me',ta',ho0,fr'.rest,[]⟩,_,_,_,rfl,rfl,by subst hD; exact ⟨by show _≤iv; omega,by show iv≤_; omega,by have:=PV0.me; show me'.length≤_; omega,by have:=PV0.ta; show ta'.length≤_; omega,by show ho0.length≤_; omega,by simp,FV.g4.row,fun e=>by have:=FV.g4.nl; have e : q6 = true:=e; rw [e] at this; exact List.isEmpty_iff.1 this.symm⟩,fun cp ce hce=>?_⟩
  cbv
  have hce : (cp,ce) = checkRF ⟨iv,me',ta',ho0,fr'.rest,[]⟩:=by subst hD; exact hce
  rw [←hce] at hk
  simp only at hk
  clear hce
  refine br hD (fun h=>?_) (fun h=>?_)<;>cbv
  ·have h : (ce != 0) = true:=h
   rw [if_pos (by simpa using h)] at hk
   exact finPs hD hk rfl rfl rfl rfl rfl GrH.nil hG rfl rfl
  have h : (ce != 0) = false:=h
  rw [if_neg (by simpa using h)] at hk
  clear h
  refine ⟨me',rfl,rfl,by have:=PV0.me; omega,fun bb hbb=>?_⟩
  cbv
  rw [←hbb] at hk
  clear hbb
  refine br hD (fun h=>?_) (fun h=>?_)<;>cbv
  ·have h : (decide (0 < sv) && bb) = true:=h
   rw [if_pos h] at hk
   exact finPs hD hk rfl rfl rfl rfl rfl GrH.nil hG rfl rfl
  have h : (decide (0 < sv) && bb) = false:=h
  rw [if_neg (by rw [h]; simp)] at hk
  clear h
  have hw : IntKind.i64.wrap (p' + c') = p' + c':=wrap64 (by have:=PV0.lo; have:=PC.lo; omega) (by have:=PC.hi; have:=PV0.hi; omega)
  have hws : IntKind.i64.wrap (n - IntKind.i64.wrap (p' + c')) = n - (p' + c'):=by rw [hw]; exact wrap64 (by have:=PC.hi; have:=PV0.hi; have:=R.n; omega) (by have:=PV0.lo; have:=PC.lo; have:=R.n; omega)
  refine br hD (fun h=>?_) (fun h=>?_)<;>cbv
  ·have h : decide (IntKind.i64.wrap (n - IntKind.i64.wrap (p' + c')) < sv) = true:=h
   rw [hws] at h
   rw [if_pos (of_decide_eq_true h)] at hk
   exact finPs hD hk rfl rfl rfl rfl rfl GrH.nil hG rfl rfl
  have h : decide (IntKind.i64.wrap (n - IntKind.i64.wrap (p' + c')) < sv) = false:=h
  rw [hws] at h
  have h2:=of_decide_eq_false h
  rw [if_neg h2] at hk
  clear h hws
  have hw2 : IntKind.i64.wrap (IntKind.i64.wrap (p' + c') + sv) = p' + c' + sv:=by rw [hw]; exact wrap64 (by have:=PV0.lo; have:=PC.lo; omega) (by have:=R.n; omega)
  refine ⟨by subst hD; exact ⟨by show 0≤IntKind.i64.wrap (p' + c'); rw [hw]; have:=PV0.lo; have:=PC.lo; omega,by show IntKind.i64.wrap (p' + c')≤IntKind.i64.wrap (IntKind.i64.wrap (p' + c') + sv); rw [hw2,hw]; omega,by show IntKind.i64.wrap (IntKind.i64.wrap (p' + c') + sv)≤n; rw [hw2]; omega⟩,fun f7 n7 hsub=>?_⟩
  cbv
  have R7 : RowU f7 n7 ((b.drop (p' + c').toNat).take sv.toNat):=by
   have h0 : 0≤p' + c':=by have:=PV0.lo; have:=PC.lo; omega
   have:=R.sub (a:=(p' + c').toNat) (b:=(p' + c').toNat + sv.toNat) hsub (by subst hD; show IntKind.i64.wrap (p' + c') = _; rw [hw]; omega) (by subst hD; show IntKind.i64.wrap (IntKind.i64.wrap (p' + c') + sv) = _; rw [hw2]; omega) (by omega) (by have:=R.n; omega)
   have e : (p' + c').toNat + sv.toNat - (p' + c').toNat = sv.toNat:=by omega
   rwa [e] at this
  clear hsub
  refine ⟨by subst hD; exact R7.byte,fun bo hbo=>?_⟩
  cbv
  have hbo : bo = (b.drop (p' + c').toNat).take sv.toNat:=by subst hD; exact R7.str hbo
  rw [←hbo] at hk
  refine finPs hD (by rw [hk]; show _ = (_,IntKind.i64.wrap (IntKind.i64.wrap (p' + c') + sv),_); rw [hw2]; rfl) rfl rfl rfl rfl rfl FV.g4 hG rfl rfl
 have h : (m5 == 0) = false:=h
 have hl5 : fr'.lens.length = 1:=by have:=VN.2.2.h; simp only [beq_eq_false_iff_ne] at h; omega
 obtain ⟨len0,hlen⟩ : ∃ c,c = fr'.lens.getD 0 []:=⟨_,rfl⟩
 have hls : lenS fr' = len0:=by rw [lenS,if_neg (by omega),hlen]
 have hlen0 : len0.length≤2000:=FS.lens _ (by rw [hlen,List.getD_eq_getElem?_getD,List.getElem?_eq_getElem (by omega)]; exact List.getElem_mem _)
 rw [hls] at hk
 clear h
 refine ⟨by subst hD; exact ⟨Int.le_refl _,by show (0 : Int) < m4; rw [VN.2.1.h]; omega⟩,fun j hj=>?_⟩
 obtain rfl : j = 0:=by subst hD; exact Int.ofNat.inj hj.h
 clear hj
 have q1:=FV.g2.row.f 0 (by omega)
 rw [←hids] at q1
 cbv
 rw [q1]
 cbv
 refine ⟨ids0,_,rfl,rfl,by omega,fun iv ie hi=>?_⟩
 cbv
 have hi : (iv,ie) = numberF ids0 1000000000:=by subst hD; exact hi
 rw [←hi] at hk
 have NI:=numberF_val ids0 1000000000 (by omega)
 rw [←hi] at NI
 simp only at NI
 clear hi
 refine ⟨by subst hD; exact ⟨Int.le_refl _,by show (0 : Int) < m5; rw [VN.2.2.h]; omega⟩,fun j hj=>?_⟩
 obtain rfl : j = 0:=by subst hD; exact Int.ofNat.inj hj.h
 clear hj
 have q2:=FV.g3.row.f 0 (by omega)
 rw [←hlen] at q2
 cbv
 rw [q2]
 cbv
 refine ⟨len0,_,rfl,rfl,by omega,fun sv se hi=>?_⟩
 cbv
 have hi : (sv,se) = numberF len0 65536:=by subst hD; exact hi
 rw [←hi] at hk
 have NS:=numberF_val len0 65536 (by omega)
 rw [←hi] at NS
 simp only at NS
 clear hi q1 q2
 rw [parseC] at hk
 simp only at hk
 refine br hD (fun h=>?_) (fun h=>?_)<;>cbv
 ·have h : (ie == 6 || se == 6) = true:=h
  rw [if_pos (by simpa using h)] at hk
  exact finPs hD hk rfl rfl rfl rfl rfl GrH.nil hG rfl rfl
 have h : (ie == 6 || se == 6) = false:=h
 rw [if_neg (by rw [Bool.or_eq_false_iff] at h; have h2:=h.1; have h3:=h.2; simp only [beq_eq_false_iff_ne] at h2 h3; omega)] at hk
 clear h
 refine br hD (fun h=>?_) (fun h=>?_)<;>cbv
 ·have h : (se != 0) = true:=h
  rw [if_pos (by simpa using h)] at hk
  exact finPs hD hk rfl rfl rfl rfl rfl GrH.nil hG rfl rfl
 have h : (se != 0) = false:=h
 rw [if_neg (by simpa using h)] at hk
 clear h
 refine ⟨by subst hD; exact ⟨Int.le_refl _,by show (0 : Int) < m3; rw [VN.1.h]; omega⟩,fun j hj=>?_⟩
 obtain rfl : j = 0:=by subst hD; exact Int.ofNat.inj hj.h
 clear hj
 have q1:=FV.g1.row.f 0 (by omega)
 rw [←hho] at q1
 cbv
 rw [q1]
 cbv
 clear q1
 rw [parseD] at hk
 simp only at hk
 have hkn : (b.length : Int) = n:=R.n.symm
 rw [hkn] at hk
 refine ⟨⟨D.i (.a iv),me',ta',ho0,fr'.rest,[]⟩,_,_,_,rfl,rfl,by subst hD; exact ⟨by show _≤iv; omega,by show iv≤_; omega,by have:=PV0.me; show me'.length≤_; omega,by have:=PV0.ta; show ta'.length≤_; omega,by show ho0.length≤_; omega,by simp,FV.g4.row,fun e=>by have:=FV.g4.nl; have e : q6 = true:=e; rw [e] at this; exact List.isEmpty_iff.1 this.symm⟩,fun cp ce hce=>?_⟩
 cbv
 have hce : (cp,ce) = checkRF ⟨iv,me',ta',ho0,fr'.rest,[]⟩:=by subst hD; exact hce
 rw [←hce] at hk
 simp only at hk
 clear hce
 refine br hD (fun h=>?_) (fun h=>?_)<;>cbv
 ·have h : (ce != 0) = true:=h
  rw [if_pos (by simpa using h)] at hk
  exact finPs hD hk rfl rfl rfl rfl rfl GrH.nil hG rfl rfl
 have h : (ce != 0) = false:=h
 rw [if_neg (by simpa using h)] at hk
 clear h
 refine ⟨me',rfl,rfl,by have:=PV0.me; omega,fun bb hbb=>?_⟩
 cbv
 rw [←hbb] at hk
 clear hbb
 refine br hD (fun h=>?_) (fun h=>?_)<;>cbv
 ·have h : (decide (0 < sv) && bb) = true:=h
  rw [if_pos h] at hk
  exact finPs hD hk rfl rfl rfl rfl rfl GrH.nil hG rfl rfl
 have h : (decide (0 < sv) && bb) = false:=h
 rw [if_neg (by rw [h]; simp)] at hk
 clear h
 have hw : IntKind.i64.wrap (p' + c') = p' + c':=wrap64 (by have:=PV0.lo; have:=PC.lo; omega) (by have:=PC.hi; have:=PV0.hi; omega)
 have hws : IntKind.i64.wrap (n - IntKind.i64.wrap (p' + c')) = n - (p' + c'):=by rw [hw]; exact wrap64 (by have:=PC.hi; have:=PV0.hi; have:=R.n; omega) (by have:=PV0.lo; have:=PC.lo; have:=R.n; omega)
 refine br hD (fun h=>?_) (fun h=>?_)<;>cbv
 ·have h : decide (IntKind.i64.wrap (n - IntKind.i64.wrap (p' + c')) < sv) = true:=h
  rw [hws] at h
  rw [if_pos (of_decide_eq_true h)] at hk
  exact finPs hD hk rfl rfl rfl rfl rfl GrH.nil hG rfl rfl
 have h : decide (IntKind.i64.wrap (n - IntKind.i64.wrap (p' + c')) < sv) = false:=h
 rw [hws] at h
 have h2:=of_decide_eq_false h
 rw [if_neg h2] at hk
 clear h hws
 have hw2 : IntKind.i64.wrap (IntKind.i64.wrap (p' + c') + sv) = p' + c' + sv:=by rw [hw]; exact wrap64 (by have:=PV0.lo; have:=PC.lo; omega) (by have:=R.n; omega)
 refine ⟨by subst hD; exact ⟨by show 0≤IntKind.i64.wrap (p' + c'); rw [hw]; have:=PV0.lo; have:=PC.lo; omega,by show IntKind.i64.wrap (p' + c')≤IntKind.i64.wrap (IntKind.i64.wrap (p' + c') + sv); rw [hw2,hw]; omega,by show IntKind.i64.wrap (IntKind.i64.wrap (p' + c') + sv)≤n; rw [hw2]; omega⟩,fun f7 n7 hsub=>?_⟩
 cbv
 have R7 : RowU f7 n7 ((b.drop (p' + c').toNat).take sv.toNat):=by
  have h0 : 0≤p' + c':=by have:=PV0.lo; have:=PC.lo; omega
  have:=R.sub (a:=(p' + c').toNat) (b:=(p' + c').toNat + sv.toNat) hsub (by subst hD; show IntKind.i64.wrap (p' + c') = _; rw [hw]; omega) (by subst hD; show IntKind.i64.wrap (IntKind.i64.wrap (p' + c') + sv) = _; rw [hw2]; omega) (by omega) (by have:=R.n; omega)
  have e : (p' + c').toNat + sv.toNat - (p' + c').toNat = sv.toNat:=by omega
  rwa [e] at this
 clear hsub
 refine ⟨by subst hD; exact R7.byte,fun bo hbo=>?_⟩
 cbv
 have hbo : bo = (b.drop (p' + c').toNat).take sv.toNat:=by subst hD; exact R7.str hbo
 rw [←hbo] at hk
 refine finPs hD (by rw [hk]; show _ = (_,IntKind.i64.wrap (IntKind.i64.wrap (p' + c') + sv),_); rw [hw2]; rfl) rfl rfl rfl rfl rfl FV.g4 hG rfl rfl
end Go.Proofs.YtefelnhpfdcleaaGreatDoor
namespace Go.Proofs.YtefelnhpfdcleaaGreatDoor
open Go Go.Sx
set_option maxRecDepth 100000
set_option maxHeartbeats 4000000
instance : DecidableEq HF:=fun a b=>decidable_of_iff (a.name = b.name∧a.value = b.value) (by cases a; cases b; simp)
instance : DecidableEq Rq:=fun a b=>decidable_of_iff (a.id = b.id∧a.method = b.method∧a.target = b.target∧a.host = b.host∧a.fields = b.fields∧a.body = b.body) (by cases a; cases b; simp)
def spEqH : FSpec:=fun _ xs ls K=>∃ (a b : List HF) (na nb : Bool) (A B : Int) (f g : Nat→List SV),xs = [.sl (.a na) (.a A) 2 f,.sl (.a nb) (.a B) 2 g]∧ls = []∧RowH f A a∧RowH g B b∧∀ r : Bool,r = decide (a = b)→K (.bool (.a r)) []
structure EqJ (k : Bool) (a b : List HF) (i : Nat) (I : Int) (m : Nat) : Prop where
 at_ : AtR a i I m
 k : k = decide (a.drop i = b.drop i)
def eqJ (k : Bool) (a b : List HF) (na nb : Bool) (A B : Int) (f g : Nat→List SV) (m : Nat) (vs : List (Option SV)) (hp : List Hl) : Prop :=
 ∃ (i : Nat) (I : Int),vs = [some (.sl (.a na) (.a A) 2 f),some (.sl (.a nb) (.a B) 2 g),some (.int .i64 (.a I))]∧hp = []∧EqJ k a b i I m
theorem dropH {l : List HF} {i : Nat} (h : i < l.length) : l.drop i = l.getD i default :: l.drop (i + 1):=by
 rw [List.getD_eq_getElem?_getD,List.getElem?_eq_getElem h,Option.getD_some,List.drop_eq_getElem_cons h]
theorem equal_ok : FnOk Tryz.prog gl 63 spEqH:=by
 refine fnOk (gh:=[]) mixed cxOk tabNil Tryz.func63 (by kernel_rfl) (by kernel_rfl) ?_
 intro xs ls K h
 unfold spEqH at h
 obtain ⟨a,b,na,nb,A,B,f,g,rfl,rfl,RA,RB,h⟩:=h
 obtain ⟨k,hk⟩ : ∃ k,k = decide (a = b):=⟨_,rfl⟩
 refine ⟨_,_,h k hk,fun D hD=>?_⟩
 cbv
 clear h
 refine br hD (fun h=>?_) (fun h=>?_)<;>cbv
 ·have h2 : A≠B:=by simpa using h
  refine finBool hD ?_
  rw [hk]
  have h3 : a≠b:=fun e=>h2 (by rw [RA.n,RB.n,e])
  show false = _
  symm
  exact decide_eq_false h3
 have h2 : A = B:=by simpa using h
 have hlab : a.length = b.length:=by have:=RA.n; have:=RB.n; omega
 clear h
 obtain ⟨J,hJ⟩ : ∃ J,J = eqJ k a b na nb A B f g:=⟨_,rfl⟩
 refine ⟨[0,1,5],J,⟨rfl,a.length,?_⟩,?_⟩
 ·rw [hJ]
  subst hD
  exact ⟨0,0,rfl,rfl,AtR.zero RA.len,hk⟩
 intro m vs hp' hv
 rw [hJ] at hv
 unfold eqJ at hv
 obtain ⟨i,I,rfl,rfl,V⟩:=hv
 clear hk
 cbv
 refine br hD (fun h=>?_) (fun h=>?_)<;>cbv
 ·have hlt:=V.at_.lt RA.n (of_decide_eq_true (p:=I < A) h)
  clear h
  have hltb : i < b.length:=by omega
  have inA:=V.at_.inB hD RA.n hlt
  have inB' : Sx.InB (D.i (.a I)) (D.i (.a B)):=by have:=V.at_.I; have:=RB.n; subst hD; exact ⟨by show 0≤I; omega,by show I < B; omega⟩
  have hk2:=V.k
  rw [dropH hlt,dropH hltb] at hk2
  have e1:=RA.f i hlt
  have d1:=RB.f i hltb
  obtain ⟨x,hx⟩ : ∃ x,x = a.getD i default:=⟨_,rfl⟩
  obtain ⟨y,hy⟩ : ∃ y,y = b.getD i default:=⟨_,rfl⟩
  rw [←hx] at e1 hk2
  rw [←hy] at d1 hk2
  clear hx hy
  obtain ⟨x1,x2⟩:=x
  obtain ⟨y1,y2⟩:=y
  have hst:=V.at_.step hD hlt
  refine ⟨inA,fun j hj=>?_⟩
  have hj:=V.at_.j hD hj
  cbv
  rw [hj,e1]
  cbv
  refine ⟨inB',fun j2 hj2=>?_⟩
  have hj2:=V.at_.j hD hj2
  cbv
  rw [hj2,d1]
  cbv
  refine br hD (fun h=>?_) (fun h=>?_)<;>cbv
  ·have h : (!((x1 == y1) && (x2 == y2))) = true:=h
   refine finBool hD ?_
   show false = k
   rw [hk2]
   symm
   apply decide_eq_false
   intro e
   injection e with e1 e2
   injection e1 with e3 e4
   rw [e3,e4] at h
   simp at h
  ·have h : (!((x1 == y1) && (x2 == y2))) = false:=h
   simp only [Bool.not_eq_false',Bool.and_eq_true,beq_iff_eq] at h
   refine ⟨_,hst.1,?_⟩
   rw [hJ]
   unfold eqJ
   subst hD
   refine ⟨i + 1,_,rfl,rfl,⟨hst.2,?_⟩⟩
   rw [hk2,h.1,h.2]
   simp
 ·have he:=V.at_.eq RA.n (of_decide_eq_false (p:=I < A) h)
  refine finBool hD ?_
  show true = k
  rw [V.k,List.drop_eq_nil_of_le (by omega),List.drop_eq_nil_of_le (by omega)]
  rfl
def spSameR : FSpec:=fun _ xs ls K=>∃ (a b : Rq) (na nb : Bool) (A B : Int) (f g : Nat→List SV),xs = [.agg [.int .i64 (.a a.id),.str a.method,.str a.target,.str a.host,.sl (.a na) (.a A) 2 f,.str a.body],.agg [.int .i64 (.a b.id),.str b.method,.str b.target,.str b.host,.sl (.a nb) (.a B) 2 g,.str b.body]]∧ls = []∧RowH f A a.fields∧RowH g B b.fields∧∀ r : Bool,r = decide (a = b)→K (.bool (.a r)) []
theorem sameR_ok : FnOk Tryz.prog gl 24 spSameR:=by
 refine fnOk (gh:=[]) mixed cxOk (tabCons equal_ok tabNil) Tryz.func24 (by kernel_rfl) (by kernel_rfl) ?_
 intro xs ls K h
 unfold spSameR at h
 obtain ⟨a,b,na,nb,A,B,f,g,rfl,rfl,RA,RB,h⟩:=h
 obtain ⟨k,hk⟩ : ∃ k,k = decide (a = b):=⟨_,rfl⟩
 refine ⟨_,_,h k hk,fun D hD=>?_⟩
 obtain ⟨i1,m1,t1,h1,l1,b1⟩:=a
 obtain ⟨i2,m2,t2,h2,l2,b2⟩:=b
 cbv
 clear h
 refine ⟨l1,l2,na,nb,A,B,f,g,by subst hD; rfl,rfl,RA,RB,fun r hr=>?_⟩
 cbv
 refine finBool hD ?_
 show ((((((i1 == i2) && (m1 == m2)) && (t1 == t2)) && (h1 == h2)) && (b1 == b2)) && r) = k
 rw [hk,hr,Bool.eq_iff_iff]
 simp only [Bool.and_eq_true,beq_iff_eq,decide_eq_true_eq,Rq.mk.injEq]
 grind
def exL : List HF:=[⟨[67,111,110,110,101,99,116,105,111,110],[99,108,111,115,101]⟩,⟨[65,99,99,101,112,116],[42]⟩]
def exTarget : List UInt8:=[47,97,47,46,46,47,98,37,55,101,63,120]
def exR : Rq:=⟨7,[71,69,84],exTarget,[104],exL,[]⟩
def spEx : FSpec:=fun _ xs ls K=>xs = []∧ls = []∧∀ f n b,GrH f n b exL→K (.agg [.int .i64 (.a 7),.str [71,69,84],.str [47,97,47,46,46,47,98,37,55,101,63,120],.str [104],.sl (.a b) (.a n) 2 f,.str []]) []
theorem example_ok : FnOk Tryz.prog gl 31 spEx:=by
 refine fnOk (gh:=[]) mixed cxOk tabNil Tryz.func31 (by kernel_rfl) (by kernel_rfl) ?_
 intro xs ls K h
 unfold spEx at h
 obtain ⟨rfl,rfl,h⟩:=h
 have hG : ∃ f1 n1 b1,GrH f1 n1 b1 exL:=⟨_,_,_,⟨RowH.row (by decide) (fun i hi=>by
  have hi : i < 2:=hi
  rcases i with _ | _ | i
  ·exact ⟨by decide,by decide⟩
  ·exact ⟨by decide,by decide⟩
  ·omega),rfl⟩⟩
 obtain ⟨f1,n1,b1,hG⟩:=hG
 refine ⟨_,_,h f1 n1 b1 hG,fun D hD=>?_⟩
 cbv
 clear h
 intro g hg
 cbv
 have g0:=hg.h 0 _ rfl
 have g1:=hg.h 1 _ rfl
 have G : GrH g 2 false exL:=⟨⟨rfl,fun i hi=>by
  have hi : i < 2:=hi
  rcases i with _ | _ | i
  ·exact g0
  ·exact g1
  ·omega,by decide,fun i hi=>by
  have hi : i < 2:=hi
  rcases i with _ | _ | i
  ·exact ⟨by decide,by decide⟩
  ·exact ⟨by decide,by decide⟩
  ·omega⟩,rfl⟩
 subst hD
 exact finV (.agg (.cons (leInt rfl) (.cons (LeV.refl _) (.cons (LeV.refl _) (.cons (LeV.refl _) (.cons (leGrH G hG rfl rfl) (.cons (LeV.refl _) .nil)))))))
end Go.Proofs.YtefelnhpfdcleaaGreatDoor
namespace Go.Proofs.YtefelnhpfdcleaaGreatDoor
open Go Go.Sx
set_option maxRecDepth 100000
set_option maxHeartbeats 4000000
def exS : List UInt8:=[71,69,84,32,47,97,47,46,46,47,98,37,55,101,63,120,32,72,84,84,80,47,49,46,49,13,10,72,111,115,116,58,32,104,13,10,88,45,82,101,113,117,101,115,116,45,73,100,58,32,55,13,10,65,99,99,101,112,116,58,32,42,13,10,13,10]
def exS2 : List UInt8:=[71,69,84,32,47,97,47,46,46,47,98,37,55,101,63,120,32,72,84,84,80,47,49,46,49,13,10,72,111,115,116,58,32,104,13,10,88,45,82,101,113,117,101,115,116,45,73,100,58,32,55,13,10,65,99,99,101,112,116,58,32,42,13,10,13,10,71,69,84]
def exL2 : List HF:=[⟨[65,99,99,101,112,116],[42]⟩]
def exR2 : Rq:=⟨7,[71,69,84],exTarget,[104],exL2,[]⟩
theorem ex_encode : encodeF exR = (exS,0):=by kernel_rfl
theorem ex_clean : cleanF exTarget = ([47,98,126,63,120],0):=by kernel_rfl
theorem ex_key : keyF exR 3 [97,99,99,101,112,116] = ([42],0):=by kernel_rfl
theorem ex_parse : parseF exS2 = (exR2,66,0):=by kernel_rfl
end Go.Proofs.YtefelnhpfdcleaaGreatDoor
namespace Go.Proofs.YtefelnhpfdcleaaGreatDoor
open Go Go.Sx
set_option maxRecDepth 100000
set_option maxHeartbeats 8000000
theorem exOk {f : Nat→List SV} {n : Int} {b : Bool} (G : GrH f n b exL) : RqOk exR b n f :=
 ⟨by decide,by decide,by decide,by decide,by decide,by decide,G.row,fun h=>by have h2:=G.nl; rw [h] at h2; cases h2⟩
theorem RowU.of {f : Nat→List SV} {n : Int} {s : List UInt8} (h : BytesOf f s) (hn : n = s.length) : RowU f n s:=by
 refine ⟨hn,fun i hi=>?_⟩
 rw [h.h]
 rfl
theorem RowH.ex1 {f f' : Nat→List SV} {n n' : Int} (R : RowH f n exL) (h : SubRow f' n' f 1 n) : RowH f' n' exL2:=by
 have hn : n = 2:=R.n
 refine ⟨by rw [h.len,hn]; rfl,fun i hi=>?_,by decide,fun i hi=>?_⟩
 ·have hi : i < 1:=hi
  obtain rfl : i = 0:=by omega
  rw [h.row 0 1 (by omega),R.f 1 (by decide)]
  rfl
 ·have hi : i < 1:=hi
  obtain rfl : i = 0:=by omega
  exact ⟨by decide,by decide⟩
def spT : FSpec:=fun _ xs ls K=>xs = []∧ls = []∧K (.bool (.a true)) []
theorem shown_ok : FnOk Tryz.prog gl 12 spT:=by
 refine fnOk (gh:=[]) mixed cxOk (tabCons example_ok (tabCons encode_ok (tabCons clean_ok (tabCons key_ok (tabCons parse_ok (tabCons sameR_ok tabNil)))))) Tryz.func12 (by kernel_rfl) (by kernel_rfl) ?_
 intro xs ls K h
 unfold spT at h
 obtain ⟨rfl,rfl,h⟩:=h
 refine ⟨_,_,h,fun D hD=>?_⟩
 cbv
 clear h
 intro f1 n1 b1 G1
 cbv
 refine ⟨exR,b1,n1,f1,by subst hD; rfl,rfl,exOk G1,fun s e hs=>?_⟩
 cbv
 rw [ex_encode] at hs
 obtain ⟨hs,he⟩:=Prod.mk.inj hs
 intro f2 n2 b2 G2
 cbv
 refine ⟨exTarget,rfl,rfl,by decide,fun t e2 ht=>?_⟩
 cbv
 rw [ex_clean] at ht
 obtain ⟨ht,he2⟩:=Prod.mk.inj ht
 intro f3 n3 b3 G3
 cbv
 refine ⟨exR,3,[97,99,99,101,112,116],b3,n3,f3,by subst hD; rfl,rfl,exOk G3,by decide,fun k e3 hk=>?_⟩
 cbv
 rw [ex_key] at hk
 obtain ⟨hk,he3⟩:=Prod.mk.inj hk
 refine ⟨⟨by rw [hs]; decide⟩,fun r hr=>?_⟩
 cbv
 have hr : r = exS2:=by rw [hr.h,hs]; rfl
 refine ⟨⟨by rw [hr]; decide⟩,fun f4 h4=>?_⟩
 cbv
 refine ⟨exS2,_,_,f4,rfl,rfl,by subst hD; exact RowU.of (by rw [←hr]; exact h4) (by rw [←hr]; rfl),by decide,fun q f5 n5 b5 kk e4 hq G5=>?_⟩
 cbv
 rw [ex_parse] at hq
 obtain ⟨hq1,hq2⟩:=Prod.mk.inj hq
 obtain ⟨hkk,he4⟩:=Prod.mk.inj hq2
 subst hq1
 clear hq hq2
 intro f6 n6 b6 G6
 cbv
 refine ⟨by subst hD; exact ⟨by decide,by show (1 : Int)≤n6; rw [G6.row.n]; decide,Int.le_refl _⟩,fun f7 n7 h7=>?_⟩
 cbv
 refine ⟨exR2,exR2,b5,b6,n5,n7,f5,f7,by subst hD; rfl,rfl,G5.row,RowH.ex1 G6.row (by subst hD; exact h7),fun z hz=>?_⟩
 cbv
 refine finBool hD ?_
 have hz : z = true:=by rw [hz]; exact decide_eq_true rfl
 rw [hs,ht,hk,hz,hkk,he,he2,he3,he4]
 rfl
end Go.Proofs.YtefelnhpfdcleaaGreatDoor
namespace Go.Proofs.YtefelnhpfdcleaaGreatDoor
open Go Go.Sx
set_option maxRecDepth 100000
set_option maxHeartbeats 8000000
end Go.Proofs.YtefelnhpfdcleaaGreatDoor
namespace Go.Proofs.YtefelnhpfdcleaaGreatDoor
open Go Go.Sx
set_option maxRecDepth 100000
set_option maxHeartbeats 400000
inductive Un : List UInt8→Prop
 | nil : Un []
 | esc (a b : UInt8) (s : List UInt8) : 0≤valueI (a.toNat : Int)→0≤valueI (b.toNat : Int)→Un s→Un (37 :: a :: b :: s)
 | one (c : UInt8) (s : List UInt8) : (kindN c.toNat≠0∨c = 63)→Un s→Un (c :: s)
inductive Nu : List UInt8→Prop
 | nil : Nu []
 | esc (v : Nat) (s : List UInt8) : v < 256→kindN v≠1→Nu s→Nu (37 :: digL.getD (v / 16) 0 :: digL.getD (v % 16) 0 :: s)
 | one (c : UInt8) (s : List UInt8) : (kindN c.toNat≠0∨c = 63)→Nu s→Nu (c :: s)
inductive NrR : List UInt8→List UInt8→Prop
 | nil : NrR [] []
 | esc (a b : UInt8) (s t : List UInt8) : 0≤valueI (a.toNat : Int)→0≤valueI (b.toNat : Int)→NrR s t→NrR (37 :: a :: b :: s) (escO (16 * valueI (a.toNat : Int) + valueI (b.toNat : Int)) ++ t)
 | one (c : UInt8) (s t : List UInt8) : (kindN c.toNat≠0∨c = 63)→NrR s t→NrR (c :: s) (c :: t)
theorem drop_consE {s u : List UInt8} {c : UInt8} {i : Nat} (h : s.drop i = c :: u) : i < s.length∧s.getD i 0 = c∧s.drop (i + 1) = u:=by
 have hl : i < s.length:=by
  have:=congrArg List.length h
  simp at this; omega
 rw [drop_at hl] at h
 exact ⟨hl,(List.cons.inj h).1,(List.cons.inj h).2⟩
theorem charI_at {s u : List UInt8} {c : UInt8} {i : Nat} (h : s.drop i = c :: u) : charI s i = (c.toNat : Int):=by
 unfold charI; rw [(drop_consE h).2.1]
theorem esc_at {s u : List UInt8} {a b : UInt8} {i : Nat} (h : s.drop i = 37 :: a :: b :: u) (ha : 0≤valueI (a.toNat : Int)) (hb : 0≤valueI (b.toNat : Int)) :
  i + 2 < s.length∧escAt s i = true∧escV s i = 16 * valueI (a.toNat : Int) + valueI (b.toNat : Int)∧s.drop (i + 3) = u:=by
 obtain ⟨h1,h2,h3⟩:=drop_consE h
 obtain ⟨g1,g2,g3⟩:=drop_consE h3
 obtain ⟨k1,k2,k3⟩:=drop_consE g3
 have e0:=charI_at h
 have e1:=charI_at h3
 have e2:=charI_at g3
 have hp : hexP s i:=⟨k1,by rw [e0]; rfl,by rw [e1]; exact ha,by rw [show i + 2 = i + 1 + 1 by omega,e2]; exact hb⟩
 refine ⟨k1,?_,?_,k3⟩
 ·unfold escAt; exact decide_eq_true hp
 ·unfold escV; rw [if_pos hp,e1,show i + 2 = i + 1 + 1 by omega,e2]
theorem one37 {c : UInt8} (h : kindN c.toNat≠0∨c = 63) : c≠37:=by
 rintro rfl
 rcases h with h | h
 ·exact h (by decide)
 ·exact absurd h (by decide)
theorem noesc {s u : List UInt8} {c : UInt8} {i : Nat} (h : s.drop i = c :: u) (hc : c≠37) : escAt s i = false:=by
 unfold escAt
 rw [decide_eq_false_iff_not]
 rintro ⟨_,h2,_⟩
 rw [charI_at h] at h2
 exact hc (UInt8.toNat_inj.1 (by show c.toNat = 37; omega))
theorem orgL_un (s : List UInt8) : ∀ (m i e r : Nat),s.length - i≤m→orgL s i e = some r→Un (s.drop i)
 | m,i,e,r,hm,h=>by
  by_cases hl : i < s.length
  ·cases m with
   | zero=>omega
   | succ m =>
    cases he : escAt s i with
    | true =>
     rw [orgL_esc hl he] at h
     have hp : hexP s i:=of_decide_eq_true he
     have ih:=orgL_un s m (i + 3) e r (by omega) h
     have d0:=drop_at hl
     have d1:=drop_at (show i + 1 < s.length by have:=hp.1; omega)
     have d2:=drop_at (show i + 1 + 1 < s.length by have:=hp.1; omega)
     rw [d0,d1,d2]
     have h37 : s.getD i 0 = 37:=UInt8.toNat_inj.1 (by have:=hp.2.1; unfold charI at this; show (s.getD i 0).toNat = 37; omega)
     rw [h37]
     exact Un.esc _ _ _ hp.2.2.1 hp.2.2.2 ih
    | false =>
     rw [drop_at hl]
     by_cases h63 : charI s i = 63
     ·rw [orgL_mark hl he h63] at h
      exact Un.one _ _ (.inr (UInt8.toNat_inj.1 (by unfold charI at h63; show (s.getD i 0).toNat = 63; omega))) (orgL_un s m (i + 1) _ r (by omega) h)
     ·by_cases hk : kindN (charI s i).toNat = 0
      ·rw [orgL_bad hl he h63 hk] at h; cases h
      ·rw [orgL_more hl he h63 hk] at h
       exact Un.one _ _ (.inl (by unfold charI at hk; simpa using hk)) (orgL_un s m (i + 1) _ r (by omega) h)
  ·rw [List.drop_eq_nil_of_le (by omega)]; exact Un.nil
theorem un_orgL {u : List UInt8} (h : Un u) : ∀ (s : List UInt8) (i e : Nat),i≤s.length→s.drop i = u→∃ r,orgL s i e = some r:=by
 induction h with
 | nil =>
  intro s i e hi hd
  have : i = s.length:=by have:=congrArg List.length hd; simp at this; omega
  exact ⟨e,orgL_end this⟩
 | esc a b u ha hb _ ih =>
  intro s i e hi hd
  obtain ⟨h1,h2,_,h4⟩:=esc_at hd ha hb
  rw [orgL_esc (by omega) h2]
  exact ih s (i + 3) e (by omega) h4
 | one c u hc _ ih =>
  intro s i e hi hd
  obtain ⟨h1,h2,h3⟩:=drop_consE hd
  have he:=noesc hd (one37 hc)
  by_cases h63 : charI s i = 63
  ·rw [orgL_mark h1 he h63]; exact ih s (i + 1) _ (by omega) h3
  ·have hk : kindN (charI s i).toNat≠0:=by
    rw [charI_at hd] at h63 ⊢
    rcases hc with hc | hc
    ·simpa using hc
    ·exact absurd (by rw [hc]; rfl) h63
   rw [orgL_more h1 he h63 hk]; exact ih s (i + 1) _ (by omega) h3
theorem nr_of {u : List UInt8} (h : Un u) : ∀ (s : List UInt8) (i : Nat),i≤s.length→s.drop i = u→NrR u (normL s i):=by
 induction h with
 | nil =>
  intro s i hi hd
  have : i = s.length:=by have:=congrArg List.length hd; simp at this; omega
  rw [normL_end this]; exact .nil
 | esc a b u ha hb _ ih =>
  intro s i hi hd
  obtain ⟨h1,h2,h3,h4⟩:=esc_at hd ha hb
  rw [normL_esc (by omega) h2,h3]
  exact .esc _ _ _ _ ha hb (ih s (i + 3) (by omega) h4)
 | one c u hc _ ih =>
  intro s i hi hd
  obtain ⟨h1,h2,h3⟩:=drop_consE hd
  rw [normL_one h1 (noesc hd (one37 hc)),h2]
  exact .one _ _ _ hc (ih s (i + 1) (by omega) h3)
theorem dig_val : ∀ d : Fin 16,valueI ((digL.getD d.1 0).toNat : Int) = (d.1 : Int):=by decide
theorem dig_val' {d : Nat} (h : d < 16) : valueI ((digL.getD d 0).toNat : Int) = (d : Int):=dig_val ⟨d,h⟩
theorem Nu.un {s : List UInt8} (h : Nu s) : Un s:=by
 induction h with
 | nil=>exact .nil
 | esc v s hv _ _ ih=>exact .esc _ _ _ (by rw [dig_val' (by omega)]; omega) (by rw [dig_val' (by omega)]; omega) ih
 | one c s hc _ ih=>exact .one _ _ hc ih
theorem nu_norm {u : List UInt8} (h : Nu u) : ∀ (s : List UInt8) (i : Nat),i≤s.length→s.drop i = u→normL s i = u:=by
 induction h with
 | nil =>
  intro s i hi hd
  have : i = s.length:=by have:=congrArg List.length hd; simp at this; omega
  rw [normL_end this]
 | esc v u hv hk _ ih =>
  intro s i hi hd
  have e1:=dig_val' (show v / 16 < 16 by omega)
  have e2:=dig_val' (show v % 16 < 16 by omega)
  obtain ⟨h1,h2,h3,h4⟩:=esc_at hd (by rw [e1]; omega) (by rw [e2]; omega)
  rw [normL_esc (by omega) h2,h3,e1,e2,ih s (i + 3) (by omega) h4]
  have : (16 * ((v / 16 : Nat) : Int) + ((v % 16 : Nat) : Int)).toNat = v:=by omega
  unfold escO
  rw [this,if_neg hk]; rfl
 | one c u hc _ ih =>
  intro s i hi hd
  obtain ⟨h1,h2,h3⟩:=drop_consE hd
  rw [normL_one h1 (noesc hd (one37 hc)),h2,ih s (i + 1) (by omega) h3]
theorem nr_nu {s t : List UInt8} (h : NrR s t) : Nu t:=by
 induction h with
 | nil=>exact .nil
 | esc a b s t ha hb _ ih =>
  have h1:=(valueI_le (a.toNat : Int)).2
  have h2:=(valueI_le (b.toNat : Int)).2
  obtain ⟨v,hv⟩ : ∃ v : Nat,16 * valueI (a.toNat : Int) + valueI (b.toNat : Int) = v:=⟨_,(Int.toNat_of_nonneg (by omega)).symm⟩
  have hv2 : v < 256:=by omega
  rw [hv]
  unfold escO
  rw [Int.toNat_natCast]
  by_cases hk : kindN v = 1
  ·rw [if_pos hk]
   refine .one _ _ (.inl ?_) ih
   rw [toNat8 ⟨v,hv2⟩]
   show kindN v≠0
   rw [hk]; decide
  ·rw [if_neg hk]
   exact .esc v _ hv2 hk ih
 | one c s t hc _ ih=>exact .one _ _ hc ih
theorem escO_63 : ∀ v : Fin 256,(63 : UInt8) ∉ escO (v.1 : Int):=by decide +kernel
theorem nr_63 {s t : List UInt8} (h : NrR s t) (h63 : (63 : UInt8) ∉ s) : (63 : UInt8) ∉ t:=by
 induction h with
 | nil=>exact h63
 | esc a b s t ha hb _ ih =>
  have h1:=(valueI_le (a.toNat : Int)).2
  have h2:=(valueI_le (b.toNat : Int)).2
  obtain ⟨v,hv⟩ : ∃ v : Nat,16 * valueI (a.toNat : Int) + valueI (b.toNat : Int) = v:=⟨_,(Int.toNat_of_nonneg (by omega)).symm⟩
  rw [hv,List.mem_append,not_or]
  exact ⟨escO_63 ⟨v,by omega⟩,ih (fun e=>h63 (by simp [e]))⟩
 | one c s t hc _ ih =>
  rw [List.mem_cons,not_or] at h63 ⊢
  exact ⟨h63.1,ih h63.2⟩
theorem nr_47 {s t : List UInt8} (h : NrR s t) (h47 : s.getD 0 0 = 47) : t.getD 0 0 = 47:=by
 cases h with
 | nil=>exact h47
 | esc=>exact absurd h47 (by simp)
 | one c s t=>simpa using h47
theorem val47 : ¬ 0≤valueI (((47 : UInt8).toNat : Nat) : Int):=by decide
theorem val63 : ¬ 0≤valueI (((63 : UInt8).toNat : Nat) : Int):=by decide
structure Sep (c : UInt8) : Prop where
 n37 : c≠37
 val : ¬ 0≤valueI (c.toNat : Int)
theorem sep47 : Sep 47:=⟨by decide,val47⟩
theorem sep63 : Sep 63:=⟨by decide,val63⟩
theorem Un.cut {c : UInt8} (hc : Sep c) {u : List UInt8} (h : Un u) : ∀ a b,u = a ++ c :: b→Un a∧Un b:=by
 induction h with
 | nil=>intro a b h; simp at h
 | esc x y s hx hy _ ih =>
  intro a b h
  match a,h with
  | [],h=>exact absurd (List.cons.inj h).1.symm hc.n37
  | [p],h=>have:=(List.cons.inj (List.cons.inj h).2).1; exact absurd (by rw [←this]; exact hx) hc.val
  | [p,q],h=>have:=(List.cons.inj (List.cons.inj (List.cons.inj h).2).2).1; exact absurd (by rw [←this]; exact hy) hc.val
  | p :: q :: r :: a,h =>
   simp only [List.cons_append,List.cons.injEq] at h
   obtain ⟨rfl,rfl,rfl,h⟩:=h
   obtain ⟨h1,h2⟩:=ih a b h
   exact ⟨.esc _ _ _ hx hy h1,h2⟩
 | one x s hx hs ih =>
  intro a b h
  match a,h with
  | [],h=>rw [(List.cons.inj h).2] at hs; exact ⟨.nil,hs⟩
  | p :: a,h =>
   simp only [List.cons_append,List.cons.injEq] at h
   obtain ⟨rfl,h⟩:=h
   obtain ⟨h1,h2⟩:=ih a b h
   exact ⟨.one _ _ hx h1,h2⟩
theorem Nu.cut {c : UInt8} (hc : Sep c) {u : List UInt8} (h : Nu u) : ∀ a b,u = a ++ c :: b→Nu a∧Nu b:=by
 induction h with
 | nil=>intro a b h; simp at h
 | esc v s hv hk _ ih =>
  intro a b h
  match a,h with
  | [],h=>exact absurd (List.cons.inj h).1.symm hc.n37
  | [p],h=>have:=(List.cons.inj (List.cons.inj h).2).1; exact absurd (by rw [←this,dig_val' (by omega)]; omega) hc.val
  | [p,q],h=>have:=(List.cons.inj (List.cons.inj (List.cons.inj h).2).2).1; exact absurd (by rw [←this,dig_val' (by omega)]; omega) hc.val
  | p :: q :: r :: a,h =>
   simp only [List.cons_append,List.cons.injEq] at h
   obtain ⟨rfl,rfl,rfl,h⟩:=h
   obtain ⟨h1,h2⟩:=ih a b h
   exact ⟨.esc _ _ hv hk h1,h2⟩
 | one x s hx hs ih =>
  intro a b h
  match a,h with
  | [],h=>rw [(List.cons.inj h).2] at hs; exact ⟨.nil,hs⟩
  | p :: a,h =>
   simp only [List.cons_append,List.cons.injEq] at h
   obtain ⟨rfl,h⟩:=h
   obtain ⟨h1,h2⟩:=ih a b h
   exact ⟨.one _ _ hx h1,h2⟩
theorem Nu.app {a b : List UInt8} (h : Nu a) (hb : Nu b) : Nu (a ++ b):=by
 induction h with
 | nil=>exact hb
 | esc v s hv hk _ ih=>exact .esc _ _ hv hk ih
 | one c s hc _ ih=>exact .one _ _ hc ih
theorem cutF_spec (c : UInt8) (s : List UInt8) : c ∉ (cutF c s).1∧s = (cutF c s).1 ++ (if (cutF c s).2.2 then c :: (cutF c s).2.1 else [])∧((cutF c s).2.2 = false→(cutF c s).2.1 = []):=by
 induction s with
 | nil=>simp [cutF]
 | cons b r ih =>
  rw [show cutF c (b :: r) = if b == c then ([],r,true) else (b :: (cutF c r).1,(cutF c r).2) from rfl]
  by_cases hb : b = c
  ·rw [if_pos (by simpa using hb)]; simp [hb]
  ·rw [if_neg (by simpa using hb)]
   obtain ⟨h1,h2,h3⟩:=ih
   refine ⟨?_,?_,h3⟩
   ·rw [List.mem_cons,not_or]; exact ⟨fun e=>hb e.symm,h1⟩
   ·show b :: r = b :: ((cutF c r).1 ++ _)
    rw [←h2]
theorem cutF_app {c : UInt8} : ∀ {a : List UInt8},c ∉ a→∀ b,cutF c (a ++ c :: b) = (a,b,true)
 | [],_,b=>by simp [cutF]
 | x :: a,h,b=>by
  rw [List.mem_cons,not_or] at h
  show (if x == c then ([],a ++ c :: b,true) else (x :: (cutF c (a ++ c :: b)).1,(cutF c (a ++ c :: b)).2)) = _
  rw [if_neg (by simpa using fun e=>h.1 e.symm),cutF_app h.2 b]
theorem cutF_none {c : UInt8} : ∀ {a : List UInt8},c ∉ a→cutF c a = (a,[],false)
 | [],_=>by simp [cutF]
 | x :: a,h=>by
  rw [List.mem_cons,not_or] at h
  show (if x == c then _ else _) = _
  rw [if_neg (by simpa using fun e=>h.1 e.symm),cutF_none h.2]
structure Seg (x : List UInt8) : Prop where
 nu : Nu x
 n47 : (47 : UInt8) ∉ x
 n63 : (63 : UInt8) ∉ x
structure Good (x : List UInt8) : Prop where
 seg : Seg x
 d1 : x≠[46]
 d2 : x≠[46,46]
theorem Seg.nil : Seg []:=⟨.nil,by simp,by simp⟩
theorem Good.nil : Good []:=⟨.nil,by simp,by simp⟩
theorem segW_seg : ∀ (u w : List UInt8),(47 : UInt8) ∉ w→(63 : UInt8) ∉ w ++ u→Nu (w ++ u)→∀ x∈segW w u,Seg x
 | [],w,h1,h2,h3=>fun x hx=>by
  rw [List.mem_singleton.1 hx]
  rw [List.append_nil] at h2 h3
  exact ⟨h3,h1,h2⟩
 | b :: r,w,h1,h2,h3=>fun x hx=>by
  unfold segW at hx
  split at hx
  ·rename_i hb
   subst hb
   obtain ⟨n1,n2⟩:=h3.cut sep47 _ _ rfl
   rw [List.mem_append,not_or] at h2
   rcases List.mem_cons.1 hx with rfl | hx
   ·exact ⟨n1,h1,h2.1⟩
   ·exact segW_seg r [] (by simp) (by simpa using fun e=>h2.2 (List.mem_cons_of_mem _ e)) n2 x hx
  ·rename_i hb
   refine segW_seg r (w ++ [b]) ?_ (by simpa using h2) (by simpa using h3) x hx
   rw [List.mem_append,not_or]
   exact ⟨h1,by simpa using fun e=>hb e.symm⟩
theorem cst_good {st : List (List UInt8)} {s : List UInt8} {last : Bool} (h : ∀ x∈st,Good x) (hs : Seg s) : ∀ x∈cst st s last,Good x:=by
 have hp : ∀ x∈(if s = [46,46]∧st≠[] then st.dropLast else st),Good x:=by
  intro x hx
  split at hx
  ·exact h x (List.dropLast_subset _ hx)
  ·exact h x hx
 intro x hx
 unfold cst at hx
 split at hx
 ·rename_i hd
  rcases List.mem_append.1 hx with hx | hx
  ·exact h x hx
  ·rw [List.mem_singleton.1 hx]; exact ⟨hs,hd.1,hd.2⟩
 ·split at hx
  ·rcases List.mem_append.1 hx with hx | hx
   ·exact hp x hx
   ·rw [List.mem_singleton.1 hx]; exact .nil
  ·exact hp x hx
theorem foldSeg_good : ∀ (l st : List (List UInt8)),(∀ x∈st,Good x)→(∀ x∈l,Seg x)→∀ x∈foldSeg st l,Good x
 | [],st,h,_=>h
 | y :: l,st,h,hl=>by
  unfold foldSeg
  exact foldSeg_good l _ (cst_good h (hl y (List.mem_cons_self ..))) (fun x hx=>hl x (List.mem_cons_of_mem _ hx))
theorem foldSeg_id : ∀ (l st : List (List UInt8)),(∀ x∈l,Good x)→foldSeg st l = st ++ l
 | [],st,_=>by simp [foldSeg]
 | y :: l,st,h=>by
  have hy:=h y (List.mem_cons_self ..)
  unfold foldSeg
  rw [show cst st y l.isEmpty = st ++ [y] by unfold cst; rw [if_pos ⟨hy.d1,hy.d2⟩],foldSeg_id l _ (fun x hx=>h x (List.mem_cons_of_mem _ hx))]
  simp
def flat (L : List (List UInt8)) : List UInt8:=L.flatMap fun x=>47 :: x
theorem flat_cons (x : List UInt8) (L : List (List UInt8)) : flat (x :: L) = 47 :: (x ++ flat L):=by simp [flat]
theorem flat_nil : flat [] = []:=rfl
theorem segW_app : ∀ (x w r : List UInt8),(47 : UInt8) ∉ x→segW w (x ++ 47 :: r) = (w ++ x) :: segW [] r
 | [],w,r,_=>by simp [segW]
 | b :: x,w,r,h=>by
  rw [List.mem_cons,not_or] at h
  rw [List.cons_append,segW,if_neg (fun e=>h.1 e.symm),segW_app x _ r h.2]
  simp
theorem segW_last : ∀ (x w : List UInt8),(47 : UInt8) ∉ x→segW w x = [w ++ x]
 | [],w,_=>by simp [segW]
 | b :: x,w,h=>by
  rw [List.mem_cons,not_or] at h
  rw [segW,if_neg (fun e=>h.1 e.symm),segW_last x _ h.2]
  simp
theorem segW_flat : ∀ (L : List (List UInt8)),L≠[]→(∀ x∈L,(47 : UInt8) ∉ x)→segW [] ((flat L).drop 1) = L
 | [],h,_=>absurd rfl h
 | [x],_,h=>by
  rw [flat_cons,flat_nil,List.append_nil,List.drop_succ_cons,List.drop_zero,segW_last x [] (h x (List.mem_cons_self ..)),List.nil_append]
 | x :: y :: L,_,h=>by
  have ih:=segW_flat (y :: L) (by simp) (fun z hz=>h z (List.mem_cons_of_mem _ hz))
  rw [flat_cons y L] at ih
  rw [flat_cons x,List.drop_succ_cons,List.drop_zero,flat_cons y L,segW_app x [] _ (h x (List.mem_cons_self ..)),List.nil_append]
  rw [List.drop_succ_cons,List.drop_zero] at ih
  rw [ih]
theorem flat_nu : ∀ (L : List (List UInt8)),(∀ x∈L,Good x)→Nu (flat L)∧(63 : UInt8) ∉ flat L
 | [],_=>⟨.nil,by simp [flat]⟩
 | x :: L,h=>by
  have hx:=h x (List.mem_cons_self ..)
  obtain ⟨h1,h2⟩:=flat_nu L (fun z hz=>h z (List.mem_cons_of_mem _ hz))
  rw [flat_cons]
  refine ⟨.one _ _ (.inl (by decide)) (hx.seg.nu.app h1),?_⟩
  rw [List.mem_cons,List.mem_append,not_or,not_or]
  exact ⟨by decide,hx.seg.n63,h2⟩
theorem flat_len : ∀ (L : List (List UInt8)),(flat L).length = totS L
 | []=>rfl
 | x :: L=>by
  rw [flat_cons]
  simp only [List.length_cons,List.length_append,flat_len L,totS,List.map_cons,List.sum_cons]
  omega
structure Cleaned (s t : List UInt8) (L : List (List UInt8)) (Q : List UInt8) (hb : Bool) : Prop where
 eq : t = flat L ++ (if hb then 63 :: Q else [])
 ne : L≠[]
 good : ∀ x∈L,Good x
 q : Nu Q
 q0 : hb = false→Q = []
 len : t.length≤s.length
 s500 : s.length≤500
 sp : splitF t = (flat L,Q,hb,0)
 has : (splitF s).2.2 = (hb,0)
 again : cleanF t = (t,0)
theorem orgF_un {s : List UInt8} (h : (orgF s).2 = 0) : Un s∧s≠[]∧charI s 0 = 47∧s.length≤500:=by
 have hl:=orgF_len h
 unfold orgF at h
 rw [if_neg (by omega),pre47] at h
 split at h
 ·cases h
 rename_i h0
 have h0 : s≠[]∧charI s 0 = 47:=by simpa using h0
 cases ho : orgL s 0 s.length with
 | none=>rw [ho] at h; cases h
 | some r =>
  have:=orgL_un s s.length 0 s.length r (by omega) ho
  rw [List.drop_zero] at this
  exact ⟨this,h0.1,h0.2,hl⟩
theorem un_orgF {s : List UInt8} (h : Un s) (h0 : s≠[]) (h1 : charI s 0 = 47) (hl : s.length≤500) : (orgF s).2 = 0:=by
 unfold orgF
 rw [if_neg (by omega),pre47,if_neg (by simpa using ⟨h0,h1⟩)]
 obtain ⟨r,hr⟩:=un_orgL h s 0 s.length (by omega) (by rw [List.drop_zero])
 rw [hr]
theorem splitF_err {s : List UInt8} (h : (splitF s).2.2.2 = 0) : (orgF s).2 = 0:=by
 unfold splitF at h
 split at h
 ·exact h
 ·rename_i g; simpa using g
theorem cleanF_err {s : List UInt8} (h : (cleanF s).2 = 0) : (splitF s).2.2.2 = 0:=by
 unfold cleanF at h
 split at h
 ·exact h
 ·rename_i g; simpa using g
theorem norm0 {s : List UInt8} (h : Nu s) : normL s 0 = s:=nu_norm h s 0 (by omega) List.drop_zero
theorem charI_47 {s : List UInt8} (h : charI s 0 = 47) : s.getD 0 0 = 47:=by
 unfold charI at h
 exact UInt8.toNat_inj.1 (by show (s.getD 0 0).toNat = 47; omega)
theorem clean_of {s t : List UInt8} (h : (t,(0 : Int)) = cleanF s) : ∃ L Q hb,Cleaned s t L Q hb:=by
 have he : (cleanF s).2 = 0:=by rw [←h]
 have ho:=splitF_err (cleanF_err he)
 obtain ⟨hu,hne,h47,hl⟩:=orgF_un ho
 have hsp:=splitF_ref ho
 obtain ⟨c1,c2,c3⟩:=cutF_spec 63 s
 obtain ⟨p,hp⟩ : ∃ p,p = (cutF 63 s).1:=⟨_,rfl⟩
 obtain ⟨q,hq⟩ : ∃ q,q = (cutF 63 s).2.1:=⟨_,rfl⟩
 obtain ⟨hb,hhb⟩ : ∃ b,b = (cutF 63 s).2.2:=⟨_,rfl⟩
 rw [←hp,←hq,←hhb] at hsp c2
 rw [←hp] at c1
 rw [←hq,←hhb] at c3
 have hup : Un p∧Un q:=by
  cases hb with
  | false =>
   simp only [Bool.false_eq_true,if_false,List.append_nil] at c2
   rw [c3 rfl,←c2]
   exact ⟨hu,.nil⟩
  | true =>
   simp only [if_true] at c2
   exact hu.cut sep63 p q c2
 have hp47 : p.getD 0 0 = 47:=by
  have:=charI_47 h47
  rw [c2] at this
  cases p with
  | nil =>
   exfalso
   cases hb with
   | false=>simp at this
   | true=>simp at this
  | cons x p=>simpa using this
 have r1:=nr_of hup.1 p 0 (by omega) List.drop_zero
 have r2:=nr_of hup.2 q 0 (by omega) List.drop_zero
 have n1:=nr_nu r1
 have n2:=nr_nu r2
 have m63:=nr_63 r1 c1
 have m47:=nr_47 r1 hp47
 have l1:=(normL_len p p.length 0 (by omega)).1
 have l2:=(normL_len q q.length 0 (by omega)).1
 have hcl:=cleanF_ref hsp.symm
 obtain ⟨P,hP⟩ : ∃ P,P = normL p 0:=⟨_,rfl⟩
 obtain ⟨Q,hQ⟩ : ∃ Q,Q = normL q 0:=⟨_,rfl⟩
 rw [←hP,←hQ] at hcl
 rw [←hP] at n1 m63 m47 l1
 rw [←hQ] at n2 l2
 obtain ⟨L,hL⟩ : ∃ L,L = foldSeg [] (segW [] (P.drop 1)):=⟨_,rfl⟩
 rw [←hL] at hcl
 have hP0 : ∃ P',P = 47 :: P':=by
  cases P with
  | nil=>simp at m47
  | cons x P=>exact ⟨P,by simp at m47; rw [m47]⟩
 obtain ⟨P',hP'⟩:=hP0
 have hne : L≠[]:=by rw [hL]; exact foldSeg_ne _ _ (segW_ne _ _)
 have hgood : ∀ x∈L,Good x:=by
  rw [hL]
  refine foldSeg_good _ _ (fun x hx=>by cases hx) (segW_seg _ [] (by simp) ?_ ?_)
  ·rw [hP'] at m63 ⊢; rw [List.drop_succ_cons,List.drop_zero,List.nil_append]; exact fun e=>m63 (List.mem_cons_of_mem _ e)
  ·rw [hP'] at n1 ⊢; rw [List.drop_succ_cons,List.drop_zero,List.nil_append]; exact (n1.cut sep47 [] P' rfl).2
 have hlen : totS L≤P.length:=by
  have h1:=segFold_tot (P.drop 1).length ([],true,0) (P.drop 1) (Nat.le_refl _)
  rw [segFold_seg _ _ _ (Nat.le_refl _)] at h1
  simp only at h1
  rw [←hL] at h1
  rw [hP'] at h1 ⊢
  simp [totS] at h1 ⊢
  omega
 have hteq : t = flat L ++ (if hb then 63 :: Q else []):=by
  rw [hcl] at h
  exact (Prod.mk.inj h).1
 have hq0 : hb = false→Q = []:=fun e=>by rw [hQ,c3 e]; exact normL_end (by simp)
 have htl : t.length≤s.length:=by
  rw [hteq,c2,List.length_append,List.length_append,flat_len]
  simp only [Nat.sub_zero] at l1 l2
  cases hb with
  | false=>simp; omega
  | true=>simp only [if_true,List.length_cons]; omega
 obtain ⟨f1,f2⟩:=flat_nu L hgood
 have hfl : ∃ w,flat L = 47 :: w:=by
  cases L with
  | nil=>exact absurd rfl hne
  | cons x L=>exact ⟨_,flat_cons x L⟩
 obtain ⟨w,hw⟩:=hfl
 have hcut : cutF 63 t = (flat L,Q,hb):=by
  rw [hteq]
  cases hb with
  | false=>rw [if_neg (by simp),List.append_nil,cutF_none f2,hq0 rfl]
  | true=>rw [if_pos rfl,cutF_app f2]
 have hut : Nu t:=by
  rw [hteq]
  refine f1.app ?_
  split
  ·exact .one _ _ (.inr rfl) n2
  ·exact .nil
 have hot : (orgF t).2 = 0:=by
  refine un_orgF hut.un ?_ ?_ (by omega)
  ·rw [hteq,hw]; simp
  ·rw [hteq,hw]; rfl
 have hst : splitF t = (flat L,Q,hb,0):=by rw [splitF_ref hot,hcut]
 refine ⟨L,Q,hb,hteq,hne,hgood,n2,hq0,htl,hl,hst,by rw [hsp],?_⟩
 rw [cleanF_ref hst.symm,norm0 f1,norm0 n2,segW_flat L hne (fun x hx=>(hgood x hx).seg.n47),foldSeg_id L [] hgood,List.nil_append,hteq]
 rfl
end Go.Proofs.YtefelnhpfdcleaaGreatDoor
namespace Go.Proofs.YtefelnhpfdcleaaGreatDoor
open Go Go.Sx
set_option maxRecDepth 100000
set_option maxHeartbeats 4000000
theorem blank6_ok : FnOk Tryz.prog gl 128 (spPredAll blankI):=by
 refine fnOk (gh:=[]) mixed cxOk tabNil Tryz.func128 (by kernel_rfl) (by kernel_rfl) ?_
 intro xs ls K h
 unfold spPredAll at h
 obtain ⟨c,rfl,rfl,h⟩:=h
 obtain ⟨k,hk⟩ : ∃ k,k = blankI c:=⟨_,rfl⟩
 refine ⟨_,_,h k hk,fun D hD=>?_⟩
 clear h
 cbv
 exact finBool hD hk.symm
theorem trim6_ok : FnOk Tryz.prog gl 100 (spStrS trimF):=by
 refine fnOk (gh:=[]) mixed cxOk (tabCons blank6_ok tabNil) Tryz.func100 (by kernel_rfl) (by kernel_rfl) ?_
 intro xs ls K h
 unfold spStrS at h
 obtain ⟨s0,rfl,rfl,hl,h⟩:=h
 obtain ⟨k,hk⟩ : ∃ k,k = trimF s0:=⟨_,rfl⟩
 refine ⟨_,_,h k hk,fun D hD=>?_⟩
 clear h
 cbv
 obtain ⟨J,hJ⟩ : ∃ J,J = trJ trimF k:=⟨_,rfl⟩
 refine ⟨[0],J,⟨rfl,s0.length,?_⟩,?_⟩
 ·rw [hJ]
  subst hD
  exact ⟨s0,rfl,rfl,⟨rfl,hl⟩,hk⟩
 clear hk hl
 intro m vs hp' hv
 rw [hJ] at hv
 unfold trJ at hv
 obtain ⟨s,rfl,rfl,V,hk⟩:=hv
 cbv
 refine ⟨fun hg=>?_,fun c hc=>?_⟩
 ·subst hD
  have hg : decide (0 < (s.length : Int)) = true:=hg
  simp only [decide_eq_true_eq] at hg
  exact inS_of (e:=.l 0) (i:=0) rfl (by omega)
 have hc2:=byteAt (e:=.l 0) (i:=0) hD rfl hc
 clear hc
 cbv
 refine ⟨_,rfl,rfl,fun q hq=>?_⟩
 have hq2 : q = blankI c:=by subst hD; exact hq
 clear hq
 cbv
 refine br hD (fun h=>?_) (fun h=>?_)<;>cbv
 ·have h : (decide (0 < (s.length : Int)) && q) = true:=h
  simp only [Bool.and_eq_true,decide_eq_true_eq] at h
  have h0 : 0 < s.length:=by have:=h.1; omega
  have hb : blankB (s.getD 0 0) = true:=by rw [blankB,hc2.of,←hq2]; exact h.2
  clear h
  refine ⟨by subst hD; exact subS_of (i:=1) (j:=s.length) (a:=.l 1) (b:=.len s) rfl rfl (by omega) (by omega),fun r hr=>?_⟩
  have hr2 : r = s.drop 1:=by
   rw [sub_of (i:=1) (j:=s.length) hD rfl rfl hr]
   exact List.take_of_length_le (by simp)
  clear hr
  cbv
  refine ⟨s.length - 1,by have:=V.m; omega,?_⟩
  rw [hJ]
  subst hD
  refine ⟨r,rfl,rfl,⟨by rw [hr2]; simp,by rw [hr2]; have:=V.len; simp; omega⟩,?_⟩
  rw [hk,trimF,drop1 h0,trimL_cons hb,hr2]; rfl
 have h : (decide (0 < (s.length : Int)) && q) = false:=h
 have hk3 : k = trimR s:=by
  rw [hk,trimF,trimL_stop]
  by_cases h0 : 0 < s.length
  ·right
   rw [←hc2.charI,←hq2]
   have e : decide (0 < (s.length : Int)) = true:=by simp only [decide_eq_true_eq]; omega
   rw [e] at h; simpa using h
  ·left; exact List.eq_nil_of_length_eq_zero (by omega)
 clear hk h hc2 hq2 hJ J
 obtain ⟨J,hJ⟩ : ∃ J,J = trJ trimR k:=⟨_,rfl⟩
 refine ⟨[0],J,⟨rfl,s.length,?_⟩,?_⟩
 ·rw [hJ]
  subst hD
  exact ⟨s,rfl,rfl,⟨rfl,V.len⟩,hk3⟩
 clear hk3 V
 intro m vs hp' hv
 rw [hJ] at hv
 unfold trJ at hv
 obtain ⟨s,rfl,rfl,V,hk⟩:=hv
 have hE : 0 < s.length→ST.den (.bin .sub .i64 (.len s) (.l 1)) = ((s.length - 1 : Nat) : Int):=by
  intro h0
  have:=V.len
  show IntKind.i64.wrap ((s.length : Int) - 1) = _
  rw [wrap64 (by omega) (by omega)]; omega
 cbv
 refine ⟨fun hg=>?_,fun c hc=>?_⟩
 ·subst hD
  have hg : decide (0 < (s.length : Int)) = true:=hg
  simp only [decide_eq_true_eq] at hg
  exact inS_of (i:=s.length - 1) (hE (by omega)) (by omega)
 by_cases h0 : 0 < s.length
 ·have hc2:=byteAt (i:=s.length - 1) hD (hE h0) hc
  clear hc
  cbv
  refine ⟨_,rfl,rfl,fun q hq=>?_⟩
  have hq2 : q = blankI c:=by subst hD; exact hq
  clear hq
  cbv
  refine br hD (fun h=>?_) (fun h=>?_)<;>cbv
  ·have h : (decide (0 < (s.length : Int)) && q) = true:=h
   simp only [Bool.and_eq_true,decide_eq_true_eq] at h
   have hb : blankB (s.getD (s.length - 1) 0) = true:=by rw [blankB,hc2.of,←hq2]; exact h.2
   clear h
   have hE2:=hE h0
   refine ⟨by subst hD; exact subS_of (i:=0) (j:=s.length - 1) (a:=.l 0) rfl hE2 (by omega) (by omega),fun r hr=>?_⟩
   have hr2 : r = s.take (s.length - 1):=by
    rw [sub_of (i:=0) (j:=s.length - 1) hD rfl hE2 hr]; rfl
   clear hr
   cbv
   refine ⟨s.length - 1,by have:=V.m; omega,?_⟩
   rw [hJ]
   subst hD
   refine ⟨r,rfl,rfl,⟨by rw [hr2]; simp,by rw [hr2]; have:=V.len; simp; omega⟩,?_⟩
   rw [hk,take_last h0,trimR_snoc hb,hr2]
  ·have h : (decide (0 < (s.length : Int)) && q) = false:=h
   refine finStr ?_
   rw [hk,trimR_stop]
   right
   rw [←hc2.charI,←hq2]
   have e : decide (0 < (s.length : Int)) = true:=by simp only [decide_eq_true_eq]; omega
   rw [e] at h; simpa using h
 ·have hs : s = []:=List.eq_nil_of_length_eq_zero (by omega)
  subst hs
  clear hc hE
  cbv
  refine ⟨_,rfl,rfl,fun q hq=>?_⟩
  cbv
  refine br hD (fun h=>?_) (fun h=>?_)<;>cbv
  ·have h : (decide ((0 : Int) < 0) && q) = true:=h
   simp at h
  ·refine finStr ?_
   rw [hk]; rfl
def plJ (s : List UInt8) (k : Bool) (m : Nat) (vs : List (Option SV)) (hp : List Hl) : Prop :=
 ∃ (i : Nat) (I : Int),vs = [some (.str s),some (.int .i64 (.a I))]∧hp = []∧At s i I m∧k = plainB (s.drop i)
theorem okB_at (c : UInt8) : ((!((c.toNat : Int) == 9)) && (decide ((c.toNat : Int) < 32) || decide (126 < (c.toNat : Int)))) = !okB c:=by
 unfold okB
 rw [Bool.eq_iff_iff]
 simp only [Bool.and_eq_true,Bool.not_eq_true',Bool.or_eq_true,decide_eq_true_eq,beq_eq_false_iff_ne,ne_eq,Bool.or_eq_false_iff,decide_eq_false_iff_not,Bool.and_eq_false_iff]
 omega
theorem refPlain_ok : FnOk Tryz.prog gl 99 (spPredS plainB):=by
 refine fnOk (gh:=[]) mixed cxOk tabNil Tryz.func99 (by kernel_rfl) (by kernel_rfl) ?_
 intro xs ls K h
 unfold spPredS at h
 obtain ⟨s,rfl,rfl,hs,h⟩:=h
 obtain ⟨k,hk⟩ : ∃ k,k = plainB s:=⟨_,rfl⟩
 refine ⟨_,_,h k hk,fun D hD=>?_⟩
 cbv
 clear h
 obtain ⟨J,hJ⟩ : ∃ J,J = plJ s k:=⟨_,rfl⟩
 refine ⟨[0,3],J,⟨rfl,s.length,?_⟩,?_⟩
 ·rw [hJ]
  subst hD
  exact ⟨0,0,rfl,rfl,At.zero hs,hk⟩
 intro m vs hp hv
 rw [hJ] at hv
 unfold plJ at hv
 obtain ⟨i,I,rfl,rfl,V,hk2⟩:=hv
 clear hk
 cbv
 refine br hD (fun h=>?_) (fun h=>?_)<;>cbv
 ·have hlt:=V.lt (of_decide_eq_true (p:=I < (s.length : Int)) h)
  clear h
  rw [drop_at hlt] at hk2
  have hst:=V.step hD hlt
  refine ⟨V.inS hD hlt,fun b hb=>?_⟩
  cbv
  have hb2:=charOf hD V.I hb
  clear hb
  refine ⟨fun _=>V.inS hD hlt,fun b2 hb3=>?_⟩
  cbv
  have e2 : b2 = b:=by rw [(charOf hD V.I hb3).h,hb2.h]
  subst e2
  clear hb3
  refine ⟨fun _ _=>V.inS hD hlt,fun b3 hb3=>?_⟩
  cbv
  have e2 : b3 = b2:=by rw [(charOf hD V.I hb3).h,hb2.h]
  subst e2
  clear hb3
  have hok:=okB_at (s.getD i 0)
  rw [←hb2.h] at hok
  have hk3 : k = (okB (s.getD i 0) && plainB (s.drop (i + 1))):=hk2
  refine br hD (fun h=>?_) (fun h=>?_)<;>cbv
  ·have h : ((b3 != 9) && (decide (b3 < 32) || decide (126 < b3))) = true:=h
   have h : (!okB (s.getD i 0)) = true:=by rw [←hok]; exact h
   refine finBool hD ?_
   rw [hk3]
   have h : okB (s.getD i 0) = false:=by simpa only [Bool.not_eq_true'] using h
   rw [h]; rfl
  ·have h : ((b3 != 9) && (decide (b3 < 32) || decide (126 < b3))) = false:=h
   have h : (!okB (s.getD i 0)) = false:=by rw [←hok]; exact h
   have h : okB (s.getD i 0) = true:=by simpa only [Bool.not_eq_false'] using h
   refine ⟨_,hst.1,?_⟩
   rw [hJ]
   unfold plJ
   subst hD
   exact ⟨i + 1,_,rfl,rfl,hst.2,by rw [hk3,h,Bool.true_and]⟩
 have he:=V.eq (of_decide_eq_false (p:=I < (s.length : Int)) h)
 refine finBool hD ?_
 rw [hk2,List.drop_eq_nil_of_le (by omega)]; rfl
end Go.Proofs.YtefelnhpfdcleaaGreatDoor
namespace Go.Proofs.YtefelnhpfdcleaaGreatDoor
open Go Go.Sx
set_option maxRecDepth 100000
set_option maxHeartbeats 8000000
theorem checkL_sum (l : List HF) (i : Nat) (h : i < l.length) (n : Int) : checkL (l.drop i) n = if badH (l.getD i default) then 6 else if 2000 < (l.getD i default).value.length then 3 else checkL (l.drop (i + 1)) (n + sizeH (l.getD i default)):=by
 have : l.drop i = l.getD i default :: l.drop (i + 1):=by rw [List.getD_eq_getElem?_getD,List.getElem?_eq_getElem h,Option.getD_some,List.drop_eq_getElem_cons h]
 rw [this,checkL]
structure HpS2 (a b : List UInt8) : Prop where
 a : a.length≤64
 b : b.length≤2000
structure RcJ (k : Int) (l : List HF) (i : Nat) (I N : Int) (m : Nat) : Prop where
 lie : AtR l i I m
 lo : 0≤N
 hi : N≤3000 * (i + 1)
 len : l.length≤100
 k : k = checkL (l.drop i) N
def rcJ (k : Int) (l : List HF) (nl : Bool) (n : Int) (f : Nat→List SV) (m : Nat) (vs : List (Option SV)) (hp : List Hl) : Prop :=
 ∃ (i : Nat) (I N : Int),vs = [some (.sl (.a nl) (.a n) 2 f),some (.int .i64 (.a N)),some (.int .i64 (.a I))]∧hp = []∧RcJ k l i I N m
theorem refCheck_ok : FnOk Tryz.prog gl 64 spCheck:=by
 refine fnOk (gh:=[]) mixed cxOk (tabCons refToken_ok (tabCons refPlain_ok (tabCons trim6_ok tabNil))) Tryz.func64 (by kernel_rfl) (by kernel_rfl) ?_
 intro xs ls K h
 unfold spCheck at h
 obtain ⟨l,nl,n,f,rfl,rfl,R,h⟩:=h
 obtain ⟨k,hk⟩ : ∃ k,k = checkF l:=⟨_,rfl⟩
 refine ⟨_,_,h k hk,fun D hD=>?_⟩
 cbv
 clear h
 refine br hD (fun h=>?_) (fun h=>?_)<;>cbv
 ·refine finInt hD ?_
  have h2 : 100 < n:=of_decide_eq_true (p:=(100 : Int) < n) h
  rw [hk,checkF,if_pos (by have:=R.n; omega)]
  rfl
 have h2 : n≤100:=by
  have:=of_decide_eq_false (p:=(100 : Int) < n) h
  omega
 clear h
 obtain ⟨J,hJ⟩ : ∃ J,J = rcJ k l nl n f:=⟨_,rfl⟩
 refine ⟨[0,3,4],J,⟨rfl,l.length,?_⟩,?_⟩
 ·rw [hJ]
  subst hD
  refine ⟨0,0,2,rfl,rfl,AtR.zero R.len,by omega,by omega,by have:=R.n; omega,?_⟩
  rw [hk,checkF,if_neg (by have:=R.n; omega)]
  rfl
 clear hk
 intro m vs hp hj
 rw [hJ] at hj
 obtain ⟨i,I,N,rfl,rfl,V⟩:=hj
 cbv
 refine br hD (fun h=>?_) (fun h=>?_)<;>cbv
 ·have hlt:=V.lie.lt R.n (of_decide_eq_true (p:=I < n) h)
  clear h
  have inA:=V.lie.inB hD R.n hlt
  have hx:=R.f i hlt
  have hsm:=R.small i hlt
  have hk:=V.k
  rw [checkL_sum l i hlt] at hk
  obtain ⟨x,hxx⟩ : ∃ x,x = l.getD i default:=⟨_,rfl⟩
  rw [←hxx] at hx hk hsm
  clear hxx
  have hst:=V.lie.step hD hlt
  obtain ⟨xn,xv⟩:=x
  refine ⟨inA,fun j hj=>?_⟩
  have hj:=V.lie.j hD hj
  cbv
  rw [hj,hx]
  cbv
  refine ⟨xn,rfl,rfl,hsm.1,fun a ha=>?_⟩
  cbv
  rw [←token_eq] at ha
  have hal : a = true→xn.length≤64:=fun e=>by
   rw [e] at ha
   unfold tokenF at ha
   have ha:=ha.symm
   simp only [Bool.and_eq_true,decide_eq_true_eq] at ha
   exact ha.2.2
  refine ⟨xv,rfl,rfl,hsm.2,fun b hb=>?_⟩
  cbv
  refine ⟨xv,rfl,rfl,hsm.2,fun c hc=>?_⟩
  cbv
  have hbad : badH ⟨xn,xv⟩ = (!a || (!b || c != xv)):=by rw [badH,ha,hb,hc]
  rw [hbad] at hk
  simp only at hk
  clear ha hb hc hbad
  refine br hD (fun h=>?_) (fun h=>?_)<;>cbv
  ·have h : ((!a || !b) || c != xv) = true:=h
   rw [if_pos (by rw [←Bool.or_assoc]; exact h)] at hk
   exact finInt hD hk.symm
  have h : ((!a || !b) || c != xv) = false:=h
  rw [if_neg (by rw [←Bool.or_assoc,h]; simp)] at hk
  have hat : a = true:=by simp only [Bool.or_eq_false_iff,Bool.not_eq_false'] at h; exact h.1.1
  clear h
  refine br hD (fun h=>?_) (fun h=>?_)<;>cbv
  ·have h : 2000 < xv.length:=by have h:=of_decide_eq_true (p:=(2000 : Int) < (xv.length : Int)) h; omega
   rw [if_pos h] at hk
   exact finInt hD hk.symm
  have h : ¬ 2000 < xv.length:=by have h:=of_decide_eq_false (p:=(2000 : Int) < (xv.length : Int)) h; omega
  rw [if_neg h] at hk
  have hxn : xn.length≤64:=hal hat
  have hV : HpS2 xn xv:=⟨hxn,by omega⟩
  have hsz : IntKind.i64.wrap (IntKind.i64.wrap (IntKind.i64.wrap (IntKind.i64.wrap (N + (xn.length : Int)) + 2) + (xv.length : Int)) + 2) = N + sizeH ⟨xn,xv⟩:=by
   have:=V.lo; have:=V.hi; have:=V.lie.le; have:=V.len
   have e1:=hV.a; have e2:=hV.b
   rw [wrap64 (n:=N + (xn.length : Int)) (by omega) (by omega),wrap64 (n:=N + (xn.length : Int) + 2) (by omega) (by omega),wrap64 (n:=N + (xn.length : Int) + 2 + (xv.length : Int)) (by omega) (by omega),wrap64 (by omega) (by omega)]
   unfold sizeH
   simp only
   omega
  have hszb : 0≤sizeH ⟨xn,xv⟩∧sizeH ⟨xn,xv⟩≤3000:=by unfold sizeH; simp only; omega
  refine ⟨_,hst.1,?_⟩
  rw [hJ]
  unfold rcJ
  subst hD
  refine ⟨i + 1,_,_,rfl,rfl,⟨hst.2,?_,?_,V.len,?_⟩⟩
  ·show 0≤IntKind.i64.wrap (IntKind.i64.wrap (IntKind.i64.wrap (IntKind.i64.wrap (N + (xn.length : Int)) + 2) + (xv.length : Int)) + 2)
   rw [hsz]; have:=V.lo; omega
  ·show IntKind.i64.wrap (IntKind.i64.wrap (IntKind.i64.wrap (IntKind.i64.wrap (N + (xn.length : Int)) + 2) + (xv.length : Int)) + 2)≤_
   rw [hsz]; have:=V.hi; omega
  ·rw [hk]
   show _ = checkL _ (IntKind.i64.wrap (IntKind.i64.wrap (IntKind.i64.wrap (IntKind.i64.wrap (N + (xn.length : Int)) + 2) + (xv.length : Int)) + 2))
   rw [hsz]
 have hi:=V.lie.eq R.n (of_decide_eq_false (p:=I < n) h)
 have hdn : l.drop i = []:=List.drop_eq_nil_of_le (by omega)
 have hk:=V.k
 rw [hdn,checkL] at hk
 clear h
 refine br hD (fun h=>?_) (fun h=>?_)<;>cbv
 ·have h : 8192 < N:=of_decide_eq_true (p:=(8192 : Int) < N) h
  rw [if_pos h] at hk
  exact finInt hD hk.symm
 ·have h : ¬ 8192 < N:=of_decide_eq_false (p:=(8192 : Int) < N) h
  rw [if_neg h] at hk
  exact finInt hD hk.symm
def inF : List (List UInt8)→List UInt8→Bool
 | [],_=>false
 | x :: l,s=>(x == s) || inF l s
theorem inF_iff {l : List (List UInt8)} {s : List UInt8} : inF l s = true↔s∈l:=by
 induction l with
 | nil=>simp [inF]
 | cons x l ih =>
  rw [inF,Bool.or_eq_true,ih,beq_iff_eq,List.mem_cons]
  constructor
  ·rintro (h | h)
   ·exact .inl h.symm
   ·exact .inr h
  ·rintro (h | h)
   ·exact .inl h.symm
   ·exact .inr h
def spIn : FSpec:=fun _ xs ls K=>∃ (l : List (List UInt8)) (s : List UInt8) (nl : Bool) (n : Int) (f : Nat→List SV),xs = [.sl (.a nl) (.a n) 1 f,.str s]∧ls = []∧RowS f n l∧∀ r : Bool,r = inF l s→K (.bool (.a r)) []
def inJ (l : List (List UInt8)) (s : List UInt8) (nl : Bool) (n : Int) (f : Nat→List SV) (k : Bool) (m : Nat) (vs : List (Option SV)) (hp : List Hl) : Prop :=
 ∃ (i : Nat) (I : Int),vs = [some (.sl (.a nl) (.a n) 1 f),some (.str s),some (.int .i64 (.a I))]∧hp = []∧AtR l i I m∧k = inF (l.drop i) s
theorem in7_ok : FnOk Tryz.prog gl 60 spIn:=by
 refine fnOk (gh:=[]) mixed cxOk tabNil Tryz.func60 (by kernel_rfl) (by kernel_rfl) ?_
 intro xs ls K h
 unfold spIn at h
 obtain ⟨l,s,nl,n,f,rfl,rfl,R,h⟩:=h
 obtain ⟨k,hk⟩ : ∃ k,k = inF l s:=⟨_,rfl⟩
 refine ⟨_,_,h k hk,fun D hD=>?_⟩
 cbv
 clear h
 obtain ⟨J,hJ⟩ : ∃ J,J = inJ l s nl n f k:=⟨_,rfl⟩
 refine ⟨[0,1,5],J,⟨rfl,l.length,?_⟩,?_⟩
 ·rw [hJ]
  subst hD
  exact ⟨0,0,rfl,rfl,AtR.zero R.len,hk⟩
 intro m vs hp hv
 rw [hJ] at hv
 unfold inJ at hv
 obtain ⟨i,I,rfl,rfl,V,hk2⟩:=hv
 clear hk
 cbv
 refine br hD (fun h=>?_) (fun h=>?_)<;>cbv
 ·have hlt:=V.lt R.n (of_decide_eq_true (p:=I < n) h)
  clear h
  have inA:=V.inB hD R.n hlt
  have hx:=R.f i hlt
  have hst:=V.step hD hlt
  have hdr : l.drop i = l.getD i [] :: l.drop (i + 1):=by rw [List.getD_eq_getElem?_getD,List.getElem?_eq_getElem hlt,Option.getD_some,List.drop_eq_getElem_cons hlt]
  rw [hdr] at hk2
  obtain ⟨x,hxx⟩ : ∃ x,x = l.getD i []:=⟨_,rfl⟩
  rw [←hxx] at hx hk2
  clear hdr hxx
  have hk2 : k = ((x == s) || inF (l.drop (i + 1)) s):=hk2
  refine ⟨inA,fun j hj=>?_⟩
  have hj:=V.j hD hj
  cbv
  rw [hj,hx]
  cbv
  refine br hD (fun h=>?_) (fun h=>?_)<;>cbv
  ·have h : (x == s) = true:=h
   rw [h,Bool.true_or] at hk2
   exact finBool hD hk2.symm
  ·have h : (x == s) = false:=h
   rw [h,Bool.false_or] at hk2
   refine ⟨_,hst.1,?_⟩
   rw [hJ]
   unfold inJ
   subst hD
   exact ⟨i + 1,_,rfl,rfl,hst.2,hk2⟩
 have he:=V.eq R.n (of_decide_eq_false (p:=I < n) h)
 have hdn : l.drop i = []:=List.drop_eq_nil_of_le (by omega)
 rw [hdn] at hk2
 exact finBool hD hk2.symm
theorem in6_ok : FnOk Tryz.prog gl 66 spIn:=by
 refine fnOk (gh:=[]) mixed cxOk tabNil Tryz.func66 (by kernel_rfl) (by kernel_rfl) ?_
 intro xs ls K h
 unfold spIn at h
 obtain ⟨l,s,nl,n,f,rfl,rfl,R,h⟩:=h
 obtain ⟨k,hk⟩ : ∃ k,k = inF l s:=⟨_,rfl⟩
 refine ⟨_,_,h k hk,fun D hD=>?_⟩
 cbv
 clear h
 obtain ⟨J,hJ⟩ : ∃ J,J = inJ l s nl n f k:=⟨_,rfl⟩
 refine ⟨[0,1,5],J,⟨rfl,l.length,?_⟩,?_⟩
 ·rw [hJ]
  subst hD
  exact ⟨0,0,rfl,rfl,AtR.zero R.len,hk⟩
 intro m vs hp hv
 rw [hJ] at hv
 unfold inJ at hv
 obtain ⟨i,I,rfl,rfl,V,hk2⟩:=hv
 clear hk
 cbv
 refine br hD (fun h=>?_) (fun h=>?_)<;>cbv
 ·have hlt:=V.lt R.n (of_decide_eq_true (p:=I < n) h)
  clear h
  have inA:=V.inB hD R.n hlt
  have hx:=R.f i hlt
  have hst:=V.step hD hlt
  have hdr : l.drop i = l.getD i [] :: l.drop (i + 1):=by rw [List.getD_eq_getElem?_getD,List.getElem?_eq_getElem hlt,Option.getD_some,List.drop_eq_getElem_cons hlt]
  rw [hdr] at hk2
  obtain ⟨x,hxx⟩ : ∃ x,x = l.getD i []:=⟨_,rfl⟩
  rw [←hxx] at hx hk2
  clear hdr hxx
  have hk2 : k = ((x == s) || inF (l.drop (i + 1)) s):=hk2
  refine ⟨inA,fun j hj=>?_⟩
  have hj:=V.j hD hj
  cbv
  rw [hj,hx]
  cbv
  refine br hD (fun h=>?_) (fun h=>?_)<;>cbv
  ·have h : (x == s) = true:=h
   rw [h,Bool.true_or] at hk2
   exact finBool hD hk2.symm
  ·have h : (x == s) = false:=h
   rw [h,Bool.false_or] at hk2
   refine ⟨_,hst.1,?_⟩
   rw [hJ]
   unfold inJ
   subst hD
   exact ⟨i + 1,_,rfl,rfl,hst.2,hk2⟩
 have he:=V.eq R.n (of_decide_eq_false (p:=I < n) h)
 have hdn : l.drop i = []:=List.drop_eq_nil_of_le (by omega)
 rw [hdn] at hk2
 exact finBool hD hk2.symm
end Go.Proofs.YtefelnhpfdcleaaGreatDoor
namespace Go.Proofs.YtefelnhpfdcleaaGreatDoor
open Go Go.Sx
set_option maxRecDepth 100000
set_option maxHeartbeats 8000000
def ownL : List (List UInt8):=[[104,111,115,116],[120,45,114,101,113,117,101,115,116,45,105,100],[99,111,110,116,101,110,116,45,108,101,110,103,116,104],[116,114,97,110,115,102,101,114,45,101,110,99,111,100,105,110,103]]
theorem strBuilt {g : Nat→List SV} {l : List (List UInt8)} (h : Built g (l.map fun s=>[.str s])) (hl : l.length≤9223372036854775807) : RowS g l.length l:=by
 refine ⟨rfl,fun i hi=>h.h i _ ?_,hl⟩
 rw [List.getElem?_map,List.getElem?_eq_getElem hi,List.getD_eq_getElem?_getD,List.getElem?_eq_getElem hi]
 rfl
def spOwnL : FSpec:=fun _ xs ls K=>xs = []∧ls = []∧∀ f n b,GrS f n b ownL→K (.sl (.a b) (.a n) 1 f) []
theorem own_ok : FnOk Tryz.prog gl 61 spOwnL:=by
 refine fnOk (gh:=[]) mixed cxOk tabNil Tryz.func61 (by kernel_rfl) (by kernel_rfl) ?_
 intro xs ls K h
 unfold spOwnL at h
 obtain ⟨rfl,rfl,h⟩:=h
 have hG : ∃ f1 n1 b1,GrS f1 n1 b1 ownL:=⟨_,_,_,⟨RowS.row (by decide),rfl⟩⟩
 obtain ⟨f1,n1,b1,hG⟩:=hG
 refine ⟨_,_,h f1 n1 b1 hG,fun D hD=>?_⟩
 cbv
 clear h
 intro g hg
 cbv
 have R : RowS g 4 ownL:=strBuilt (l:=ownL) hg (by decide)
 subst hD
 exact finV (leGrS ⟨R,rfl⟩ hG rfl rfl)
def spFixed : FSpec:=fun _ xs ls K=>xs = []∧ls = []∧∀ f,RowS f 7 fixedL→K (.osl (.a false) (.a 7) 0) [.own 9 (.a 7) 1 true f]
theorem fixed_ok : FnOk Tryz.prog gl 101 spFixed:=by
 refine fnOk (gh:=[(999985,[])]) mixed cxOk tabNil Tryz.func101 (by kernel_rfl) (by kernel_rfl) ?_
 intro xs ls K h
 unfold spFixed at h
 obtain ⟨rfl,rfl,h⟩:=h
 obtain ⟨f1,R1⟩ : ∃ f1,RowS f1 7 fixedL:=⟨_,RowS.row (l:=fixedL) (by decide)⟩
 refine ⟨_,_,h f1 R1,fun D hD=>?_⟩
 cbv
 clear h
 intro g hg
 cbv
 have R : RowS g 7 fixedL:=strBuilt (l:=fixedL) hg (by decide)
 subst hD
 refine finOwn (leOsl rfl rfl) rfl fun i hi=>?_
 have hi : (i : Int) < 7:=hi
 have hi : i < fixedL.length:=by show i < 7; omega
 rw [R.f i hi,R1.f i hi]
def spIs : FSpec:=fun _ xs ls K=>∃ (a b s : List UInt8),xs = [.agg [.str a,.str b],.str s]∧ls = []∧a.length≤9223372036854775807∧s.length≤9223372036854775807∧∀ r : Bool,r = (foldF a == foldF s)→K (.bool (.a r)) []
theorem is_ok : FnOk Tryz.prog gl 129 spIs:=by
 refine fnOk (gh:=[]) mixed cxOk (tabCons refFold_ok tabNil) Tryz.func129 (by kernel_rfl) (by kernel_rfl) ?_
 intro xs ls K h
 unfold spIs at h
 obtain ⟨a,b,s,rfl,rfl,ha,hs,h⟩:=h
 obtain ⟨k,hk⟩ : ∃ k,k = (foldF a == foldF s):=⟨_,rfl⟩
 refine ⟨_,_,h k hk,fun D hD=>?_⟩
 cbv
 clear h
 refine ⟨a,rfl,rfl,ha,fun u hu=>?_⟩
 cbv
 refine ⟨s,rfl,rfl,hs,fun v hv=>?_⟩
 cbv
 refine finBool hD ?_
 rw [hk,←hu,←hv]
 rfl
def getF (l : List HF) (t : List UInt8) : List (List UInt8):=(l.filter fun x=>foldF x.name == foldF t).map HF.value
theorem getF_cons (x : HF) (l : List HF) (t : List UInt8) : getF (x :: l) t = if foldF x.name == foldF t then x.value :: getF l t else getF l t:=by
 unfold getF
 rw [List.filter_cons]
 split<;>simp
def spGet : FSpec:=fun _ xs ls K=>∃ (l : List HF) (t : List UInt8) (nl : Bool) (n : Int) (f : Nat→List SV),xs = [.sl (.a nl) (.a n) 2 f,.str t]∧ls = []∧RowH f n l∧l.length≤100∧t.length≤1000∧∀ r g n' b,r = getF l t→GrS g n' b r→K (.sl (.a b) (.a n') 1 g) []
structure GtJ (l : List HF) (t : List UInt8) (k out : List (List UInt8)) (i : Nat) (I n : Int) (b : Bool) (f : Nat→List SV) (m : Nat) : Prop where
 lie : AtR l i I m
 row : GrS f n b out
 ol : out.length≤i
 k : k = out ++ getF (l.drop i) t
def gtJ (l : List HF) (t : List UInt8) (k : List (List UInt8)) (nl : Bool) (N : Int) (F : Nat→List SV) (m : Nat) (vs : List (Option SV)) (hp : List Hl) : Prop :=
 ∃ (out : List (List UInt8)) (i : Nat) (I n : Int) (b : Bool) (f : Nat→List SV),vs = [some (.sl (.a nl) (.a N) 2 F),some (.str t),some (.gsl (.a b) (.a n) 1 f 0),some (.int .i64 (.a I))]∧hp = [.tail 9 (.a n) 1]∧GtJ l t k out i I n b f m
theorem getF_len (l : List HF) (t : List UInt8) : (getF l t).length≤l.length:=by
 unfold getF
 rw [List.length_map]
 exact List.length_filter_le ..
theorem get_ok : FnOk Tryz.prog gl 102 spGet:=by
 refine fnOk (gh:=[(1,[.attach 5 9])]) mixed cxOk (tabCons is_ok tabNil) Tryz.func102 (by kernel_rfl) (by kernel_rfl) ?_
 intro xs ls K h
 unfold spGet at h
 obtain ⟨l,t,nl,N,F,rfl,rfl,R,hl,ht,h⟩:=h
 obtain ⟨k,hk⟩ : ∃ k,k = getF l t:=⟨_,rfl⟩
 have hkl:=getF_len l t
 rw [←hk] at hkl
 obtain ⟨f1,n1,b1,hG⟩ : ∃ f1 n1 b1,GrS f1 n1 b1 k:=⟨_,_,_,⟨RowS.row (by omega),rfl⟩⟩
 clear hkl
 refine ⟨_,_,h k f1 n1 b1 hk hG,fun D hD=>?_⟩
 cbv
 clear h
 obtain ⟨J,hJ⟩ : ∃ J,J = gtJ l t k nl N F:=⟨_,rfl⟩
 refine ⟨[0,1,5,6],J,⟨rfl,l.length,?_⟩,?_⟩
 ·rw [hJ]
  subst hD
  exact ⟨[],0,_,_,_,_,rfl,rfl,⟨AtR.zero R.len,GrS.nil,Nat.le_refl _,hk⟩⟩
 clear hk
 intro m vs hp hj
 rw [hJ] at hj
 obtain ⟨out,i,I,n,b,f,rfl,rfl,V⟩:=hj
 cbv
 refine br hD (fun h=>?_) (fun h=>?_)<;>cbv
 ·have hlt:=V.lie.lt R.n (of_decide_eq_true (p:=I < N) h)
  clear h
  have inA:=V.lie.inB hD R.n hlt
  have hx:=R.f i hlt
  have hsm:=R.small i hlt
  have hst:=V.lie.step hD hlt
  have hk:=V.k
  rw [dropH hlt,getF_cons] at hk
  obtain ⟨x,hxx⟩ : ∃ x,x = l.getD i default:=⟨_,rfl⟩
  rw [←hxx] at hx hk hsm
  clear hxx
  obtain ⟨xn,xv⟩:=x
  refine ⟨inA,fun j hj=>?_⟩
  have hj:=V.lie.j hD hj
  cbv
  rw [hj,hx]
  cbv
  refine ⟨xn,xv,t,rfl,rfl,hsm.1,by omega,fun r hr=>?_⟩
  cbv
  simp only at hk
  rw [←hr] at hk
  clear hr hj
  refine br hD (fun h=>?_) (fun h=>?_)<;>cbv
  ·have h : r = true:=h
   rw [if_pos h] at hk
   clear h
   refine ⟨inA,fun j hj=>?_⟩
   have hj:=V.lie.j hD hj
   cbv
   rw [hj,hx]
   cbv
   clear hj
   intro g hg
   cbv
   have hg0 : g 0 = [.str xv]:=hg.h 0 _ rfl
   clear hg
   refine ⟨by subst hD; exact ⟨rfl,by have:=V.row.row.n; have:=V.ol; show (n + 1) * 16≤_; omega,by have:=V.row.row.n; have:=V.ol; show n + 1≤_; omega⟩,fun f' n' hm=>?_⟩
   cbv
   have G2 : ∀ nl',nl' = false→GrS f' n' nl' (out ++ [xv]):=fun nl' hb=>⟨V.row.row.more hg0 (by subst hD; exact hm) (by have:=V.ol; omega),by rw [hb]; simp⟩
   clear hm
   refine ⟨_,hst.1,?_⟩
   rw [hJ]
   unfold gtJ
   subst hD
   refine ⟨out ++ [xv],i + 1,_,n',(b && false),f',rfl,rfl,⟨hst.2,G2 _ (Bool.and_false _),by have:=V.ol; simp; omega,by rw [hk]; simp⟩⟩
  ·have h : r = false:=h
   rw [if_neg (by rw [h]; simp)] at hk
   refine ⟨_,hst.1,?_⟩
   rw [hJ]
   unfold gtJ
   subst hD
   exact ⟨out,i + 1,_,n,b,f,rfl,rfl,⟨hst.2,V.row,by have:=V.ol; omega,hk⟩⟩
 have hi:=V.lie.eq R.n (of_decide_eq_false (p:=I < N) h)
 have hdn : l.drop i = []:=List.drop_eq_nil_of_le (by omega)
 have hk:=V.k
 rw [hdn] at hk
 have hk : k = out:=by rw [hk]; simp [getF]
 subst hk
 subst hD
 exact finV (leGrS V.row hG rfl rfl)
end Go.Proofs.YtefelnhpfdcleaaGreatDoor
namespace Go.Proofs.YtefelnhpfdcleaaGreatDoor
open Go Go.Sx
set_option maxRecDepth 100000
set_option maxHeartbeats 16000000
def elsF (els : List (List UInt8)) : List (List UInt8):=(els.filter tokenF).map foldF
def namesG : List (List UInt8)→List (List UInt8)→Option (List (List UInt8))
 | [],out=>some out
 | v :: r,out=>if (refElementsF v).2≠0 then none else namesG r (out ++ elsF (refElementsF v).1)
theorem elsF_cons (x : List UInt8) (l : List (List UInt8)) : elsF (x :: l) = if tokenF x then foldF x :: elsF l else elsF l:=by
 unfold elsF
 rw [List.filter_cons]
 split<;>simp
theorem elsF_len (l : List (List UInt8)) : (elsF l).length≤l.length:=by
 unfold elsF
 rw [List.length_map]
 exact List.length_filter_le ..
def spNames : FSpec:=fun _ xs ls K=>∃ (l : List HF) (nl : Bool) (n : Int) (f : Nat→List SV),xs = [.sl (.a nl) (.a n) 2 f]∧ls = []∧RowH f n l∧checkF l = 0∧
 ∀ k r e g n' b,k = namesG (getF l conn) fixedL→r = k.getD []→e = (if k.isSome then (0 : Int) else 6)→GrS g n' b r→K (.tup [.sl (.a b) (.a n') 1 g,.int .i64 (.a e)]) []
structure NaJ (vs : List (List UInt8)) (k : Option (List (List UInt8))) (out : List (List UInt8)) (i : Nat) (I n : Int) (b : Bool) (f : Nat→List SV) (m : Nat) : Prop where
 lie : AtR vs i I m
 row : RowS f n out
 nl : b = false
 ol : out.length≤7 + i * 2001
 ne : out≠[]
 vl : vs.length≤100
 vm : ∀ x∈vs,x.length≤2000
 k : k = namesG (vs.drop i) out
def naJ (vs0 : List (List UInt8)) (bv : Bool) (nv : Int) (gv : Nat→List SV) (k : Option (List (List UInt8))) (m : Nat) (vs : List (Option SV)) (hp : List Hl) : Prop :=
 ∃ (out : List (List UInt8)) (i : Nat) (I n : Int) (b : Bool) (f : Nat→List SV),vs = [some (.osl (.a b) (.a n) 0),some (.sl (.a bv) (.a nv) 1 gv),some (.int .i64 (.a I))]∧hp = [.own 9 (.a n) 1 true f]∧NaJ vs0 k out i I n b f m
structure NbJ (els : List (List UInt8)) (fin out : List (List UInt8)) (i j : Nat) (J n : Int) (b : Bool) (f : Nat→List SV) (m : Nat) : Prop where
 lie : AtR els j J m
 row : RowS f n out
 nl : b = false
 ol : out.length≤7 + i * 2001 + j
 el : els.length≤2001
 i : i≤100
 ne : out≠[]
 k : fin = out ++ elsF (els.drop j)
def nbJ (els fin : List (List UInt8)) (i : Nat) (I : Int) (bv : Bool) (nv : Int) (gv : Nat→List SV) (be : Bool) (ne : Int) (ge : Nat→List SV) (m : Nat) (vs : List (Option SV)) (hp : List Hl) : Prop :=
 ∃ (out : List (List UInt8)) (j : Nat) (J n : Int) (b : Bool) (f : Nat→List SV),vs = [some (.osl (.a b) (.a n) 0),some (.sl (.a bv) (.a nv) 1 gv),some (.int .i64 (.a I)),some (.sl (.a be) (.a ne) 1 ge),some (.int .i64 (.a J))]∧hp = [.own 9 (.a n) 1 true f]∧NbJ els fin out i j J n b f m
theorem names_ok : FnOk Tryz.prog gl 65 spNames:=by
 refine fnOk (gh:=[(2000014,[.share 4])]) mixed cxOk (tabCons fixed_ok (tabCons get_ok (tabCons refElements_ok (tabCons refToken_ok (tabCons refFold_ok tabNil))))) Tryz.func65 (by kernel_rfl) (by kernel_rfl) ?_
 intro xs ls K h
 unfold spNames at h
 obtain ⟨l,nl,N,F,rfl,rfl,R,hck,h⟩:=h
 obtain ⟨k,hk⟩ : ∃ k,k = namesG (getF l conn) fixedL:=⟨_,rfl⟩
 obtain ⟨kr,hkr⟩ : ∃ r,r = k.getD []:=⟨_,rfl⟩
 obtain ⟨ke,hke⟩ : ∃ e,e = (if k.isSome then (0 : Int) else 6):=⟨_,rfl⟩
 have hlen:=checkF_len hck
 have hvm : ∀ x∈getF l conn,x.length≤2000:=fun x hx=>by
  unfold getF at hx
  obtain ⟨y,hy,rfl⟩:=List.mem_map.1 hx
  exact (checkF_field hck y (List.mem_filter.1 hy).1).2
 have hvl:=getF_len l conn
 have hkb : kr.length≤1000000:=by
  have key : ∀ (vs out : List (List UInt8)),(∀ x∈vs,x.length≤2000)→((namesG vs out).getD []).length≤out.length + vs.length * 2001:=by
   intro vs
   induction vs with
   | nil=>intro out _; simp [namesG]
   | cons v r ih =>
    intro out hm
    rw [namesG]
    split
    ·simp
    ·have h1:=ih (out ++ elsF (refElementsF v).1) fun x hx=>hm x (List.mem_cons_of_mem _ hx)
     have h2:=elsF_len (refElementsF v).1
     have h3:=(refElementsF_len v).1
     have h4:=hm v (List.mem_cons_self ..)
     simp only [List.length_append,List.length_cons] at h1 ⊢
     omega
  have:=key (getF l conn) fixedL hvm
  rw [←hk,←hkr] at this
  have e : fixedL.length = 7:=rfl
  omega
 obtain ⟨f1,n1,b1,hG⟩ : ∃ f1 n1 b1,GrS f1 n1 b1 kr:=⟨_,_,_,⟨RowS.row (by omega),rfl⟩⟩
 clear hkb
 refine ⟨_,_,h k kr ke f1 n1 b1 hk hkr hke hG,fun D hD=>?_⟩
 cbv
 clear h
 intro f2 R2
 cbv
 refine ⟨l,[99,111,110,110,101,99,116,105,111,110],nl,N,F,by subst hD; rfl,rfl,R,hlen,by decide,fun vs gv nv bv hv Gv=>?_⟩
 cbv
 have hv : vs = getF l conn:=hv
 rw [←hv] at hk hvm hvl
 clear hv
 obtain ⟨J,hJ⟩ : ∃ J,J = naJ vs bv nv gv k:=⟨_,rfl⟩
 refine ⟨[4,5,6],J,⟨rfl,vs.length,?_⟩,?_⟩
 ·rw [hJ]
  subst hD
  exact ⟨fixedL,0,_,_,_,_,rfl,rfl,⟨AtR.zero (by omega),R2,rfl,by decide,by decide,by omega,hvm,hk⟩⟩
 clear hk
 intro m ws hp hj
 rw [hJ] at hj
 obtain ⟨out,i,I,n,b,f,rfl,rfl,V⟩:=hj
 cbv
 refine br hD (fun h=>?_) (fun h=>?_)<;>cbv
 ·have hlt:=V.lie.lt Gv.row.n (of_decide_eq_true (p:=I < nv) h)
  clear h
  have inA:=V.lie.inB hD Gv.row.n hlt
  have hx:=Gv.row.f i hlt
  have hst:=V.lie.step hD hlt
  have hk:=V.k
  have hdr : vs.drop i = vs.getD i [] :: vs.drop (i + 1):=by rw [List.getD_eq_getElem?_getD,List.getElem?_eq_getElem hlt,Option.getD_some,List.drop_eq_getElem_cons hlt]
  have hxm : (vs.getD i []).length≤2000:=V.vm _ (by rw [List.getD_eq_getElem?_getD,List.getElem?_eq_getElem hlt]; exact List.getElem_mem hlt)
  rw [hdr,namesG] at hk
  obtain ⟨x,hxx⟩ : ∃ x,x = vs.getD i []:=⟨_,rfl⟩
  rw [←hxx] at hx hk hxm
  clear hdr hxx
  have hel:=(refElementsF_len x).1
  have hels:=(refElementsF_len x).2
  refine ⟨inA,fun j hj=>?_⟩
  have hj:=V.lie.j hD hj
  cbv
  rw [hj,hx]
  cbv
  clear hj
  refine ⟨x,rfl,rfl,by omega,fun els e ne be he hne hbe=>?_⟩
  generalize hge : strRow els = ge
  cbv
  rw [←he] at hk hel hels
  simp only at hk hel hels
  clear hbe
  refine br hD (fun h=>?_) (fun h=>?_)<;>cbv
  ·have h : (e != 0) = true:=h
   rw [if_pos (by simpa using h)] at hk
   rw [hk] at hkr hke
   have hkr : kr = []:=hkr
   have hke : ke = 6:=hke
   subst hkr hke
   subst hD
   exact finV (.tup (.cons (leGrS GrS.nil hG rfl rfl) (.cons (leInt rfl) .nil)))
  have h : (e != 0) = false:=h
  rw [if_neg (by simpa using h)] at hk
  clear h he
  obtain ⟨fin,hfin⟩ : ∃ fin,fin = out ++ elsF els:=⟨_,rfl⟩
  rw [←hfin] at hk
  obtain ⟨J2,hJ2⟩ : ∃ J,J = nbJ els fin i I bv nv gv be ne ge:=⟨_,rfl⟩
  refine ⟨[4,5,6,7,9],J2,⟨rfl,els.length,?_⟩,?_⟩
  ·rw [hJ2]
   subst hD
   exact ⟨out,0,_,n,b,f,rfl,rfl,⟨AtR.zero (by omega),V.row,V.nl,V.ol,hel,by have:=V.vl; omega,V.ne,hfin⟩⟩
  clear hfin
  intro m2 ws2 hp2 hj2
  rw [hJ2] at hj2
  obtain ⟨o2,j,Jj,n2,b2,f2,rfl,rfl,W⟩:=hj2
  have hneV : VI ne els.length:=⟨hne⟩
  cbv
  refine br hD (fun h=>?_) (fun h=>?_)<;>cbv
  ·have hlt2:=W.lie.lt hneV.h (of_decide_eq_true (p:=Jj < ne) h)
   clear h
   have inE:=W.lie.inB hD hneV.h hlt2
   have hst2:=W.lie.step hD hlt2
   have hkf:=W.k
   have hdr : els.drop j = els.getD j [] :: els.drop (j + 1):=by rw [List.getD_eq_getElem?_getD,List.getElem?_eq_getElem hlt2,Option.getD_some,List.drop_eq_getElem_cons hlt2]
   rw [hdr,elsF_cons] at hkf
   obtain ⟨y,hyy⟩ : ∃ y,y = els.getD j []:=⟨_,rfl⟩
   rw [←hyy] at hkf
   have hy : ge j = [.str y]:=by rw [←hge,hyy]; rfl
   have hym : y.length≤2000:=hels y (by rw [hyy,List.getD_eq_getElem?_getD,List.getElem?_eq_getElem hlt2]; exact List.getElem_mem hlt2)
   clear hdr hyy
   refine ⟨inE,fun j2 hj2=>?_⟩
   have hj2:=W.lie.j hD hj2
   cbv
   rw [hj2,hy]
   cbv
   clear hj2
   refine ⟨y,rfl,rfl,by omega,fun tk htk=>?_⟩
   cbv
   rw [←token_eq] at htk
   rw [←htk] at hkf
   clear htk
   refine br hD (fun h=>?_) (fun h=>?_)<;>cbv
   ·have h : tk = true:=h
    rw [if_pos h] at hkf
    clear h
    refine ⟨inE,fun j2 hj2=>?_⟩
    have hj2:=W.lie.j hD hj2
    cbv
    rw [hj2,hy]
    cbv
    clear hj2
    refine ⟨y,rfl,rfl,by omega,fun w hw=>?_⟩
    cbv
    rw [←hw] at hkf
    clear hw
    intro g hg
    cbv
    have hg0 : g 0 = [.str w]:=hg.h 0 _ rfl
    clear hg
    refine ⟨by subst hD; exact ⟨rfl,by have:=W.row.n; have:=W.ol; have:=W.i; have:=W.lie.le; have:=W.el; show (n2 + 1) * 16≤_; omega,by have:=W.row.n; have:=W.ol; have:=W.i; have:=W.lie.le; have:=W.el; show n2 + 1≤_; omega⟩,fun f3 n3 hm=>?_⟩
    cbv
    have R3 : RowS f3 n3 (o2 ++ [w]):=W.row.more hg0 (by subst hD; exact hm) (by have:=W.ol; have:=W.i; have:=W.lie.le; have:=W.el; omega)
    clear hm
    refine ⟨_,hst2.1,?_⟩
    rw [hJ2]
    unfold nbJ
    subst hD
    refine ⟨o2 ++ [w],j + 1,_,n3,(b2 && false),f3,rfl,rfl,⟨hst2.2,R3,Bool.and_false _,by have:=W.ol; simp; omega,W.el,W.i,by simp,by rw [hkf]; simp⟩⟩
   ·have h : tk = false:=h
    rw [if_neg (by rw [h]; simp)] at hkf
    refine ⟨_,hst2.1,?_⟩
    rw [hJ2]
    unfold nbJ
    subst hD
    exact ⟨o2,j + 1,_,n2,b2,f2,rfl,rfl,⟨hst2.2,W.row,W.nl,by have:=W.ol; omega,W.el,W.i,W.ne,hkf⟩⟩
  have hi2:=W.lie.eq hneV.h (of_decide_eq_false (p:=Jj < ne) h)
  have hdn2 : els.drop j = []:=List.drop_eq_nil_of_le (by omega)
  have hkf:=W.k
  rw [hdn2] at hkf
  have hkf : fin = o2:=by rw [hkf]; simp [elsF]
  subst hkf
  clear h hdn2
  refine ⟨_,hst.1,?_⟩
  rw [hJ]
  unfold naJ
  subst hD
  exact ⟨fin,i + 1,_,n2,b2,f2,rfl,rfl,⟨hst.2,W.row,W.nl,by have:=W.ol; have:=W.el; have:=W.lie.le; omega,W.ne,V.vl,V.vm,hk⟩⟩
 have hi:=V.lie.eq Gv.row.n (of_decide_eq_false (p:=I < nv) h)
 have hdn : vs.drop i = []:=List.drop_eq_nil_of_le (by omega)
 have hk:=V.k
 rw [hdn,namesG] at hk
 clear h
 rw [hk] at hkr hke
 have hkr : kr = out:=hkr
 have hke : ke = 0:=hke
 subst hkr hke
 subst hD
 refine ⟨⟨rfl⟩,finV (.tup (.cons (leGrS ⟨V.row,?_⟩ hG rfl rfl) (.cons (leInt rfl) .nil)))⟩
 rw [V.nl]
 have:=V.ne
 cases kr with
 | nil=>exact absurd rfl this
 | cons _ _=>rfl
end Go.Proofs.YtefelnhpfdcleaaGreatDoor
namespace Go.Proofs.YtefelnhpfdcleaaGreatDoor
open Go Go.Sx
set_option maxRecDepth 100000
set_option maxHeartbeats 16000000
theorem inF_app (a b : List (List UInt8)) (s : List UInt8) : inF (a ++ b) s = (inF a s || inF b s):=by
 induction a with
 | nil=>rfl
 | cons x a ih=>show ((x == s) || inF (a ++ b) s) = (((x == s) || inF a s) || inF b s); rw [ih,Bool.or_assoc]
theorem setF_in {F : List UInt8→Bool} {out : List (List UInt8)} {x : List UInt8} (h : ∀ s,F s = inF out s) (s : List UInt8) : setF F x s = inF (out ++ [x]) s:=by
 rw [inF_app]
 unfold setF
 show (if s = x then true else F s) = (inF out s || ((x == s) || false))
 rw [h s,Bool.or_false]
 by_cases e : s = x
 ·subst e; simp
 ·rw [if_neg e]
  have : (x == s) = false:=by rw [beq_eq_false_iff_ne]; exact fun h=>e h.symm
  rw [this,Bool.or_false]
theorem addEls_in : ∀ (els : List (List UInt8)) (F : List UInt8→Bool) (out : List (List UInt8)),(∀ s,F s = inF out s)→∀ s,addEls F els s = inF (out ++ elsF els) s
 | [],F,out,h,s=>by rw [show elsF [] = [] from rfl,List.append_nil]; exact h s
 | x :: els,F,out,h,s=>by
  rw [elsF_cons]
  show addEls (if tokenF x then setF F (foldF x) else F) els s = _
  split
  ·have:=addEls_in els (setF F (foldF x)) (out ++ [foldF x]) (fun s=>setF_in h s) s
   rw [this,List.append_assoc]
   rfl
  ·exact addEls_in els F out h s
theorem conn_fold : foldF conn = conn:=by decide
theorem hops_names : ∀ (l : List HF) (F : List UInt8→Bool) (out : List (List UInt8)),(∀ s,F s = inF out s)→match namesG (getF l conn) out with
  | none=>(hopsR conn l F).2 = false
  | some o=>(hopsR conn l F).2 = true∧∀ s,(hopsR conn l F).1 s = inF o s
 | [],F,out,h=>⟨rfl,h⟩
 | x :: l,F,out,h=>by
  rw [getF_cons,conn_fold,hopsR]
  by_cases hx : foldF x.name = conn
  ·rw [if_pos (by rw [hx]; simp),if_pos hx,namesG]
   by_cases he : (refElementsF x.value).2 = 0
   ·rw [if_pos he,if_neg (by simpa using he)]
    exact hops_names l _ _ (addEls_in _ F out h)
   ·rw [if_neg he,if_pos he]
  ·rw [if_neg (by simpa using hx),if_neg hx]
   exact hops_names l F out h
theorem foldl_setF : ∀ (l : List (List UInt8)) (F : List UInt8→Bool) (out : List (List UInt8)),(∀ s,F s = inF out s)→∀ s,(l.foldl setF F) s = inF (out ++ l) s
 | [],F,out,h,s=>by rw [List.append_nil]; exact h s
 | x :: l,F,out,h,s=>by
  have:=foldl_setF l (setF F x) (out ++ [x]) (fun s=>setF_in h s) s
  rw [List.foldl_cons,this,List.append_assoc]
  rfl
def keptR (o : List (List UInt8)) (l : List HF) : List HF:=l.filter fun x=>!inF o (foldF x.name)
theorem stripF_ref {l : List HF} (h : checkF l = 0) : stripF l = match namesG (getF l conn) fixedL with
  | none=>([],6)
  | some o=>(keptR o l,0):=by
 have hb : ∀ s,baseS s = inF fixedL s:=by
  intro s
  have:=foldl_setF fixedL (fun _=>false) [] (fun s=>rfl) s
  rw [List.nil_append] at this
  exact this
 have hn:=hops_names l baseS fixedL hb
 unfold stripF hopsF
 rw [if_neg (by rw [h]; simp)]
 cases hk : namesG (getF l conn) fixedL with
 | none=>rw [hk] at hn; simp only at hn; rw [if_neg (by rw [hn]; simp)]
 | some o =>
  rw [hk] at hn
  simp only at hn
  rw [if_pos hn.1]
  unfold keptH keptR
  congr 1
  congr 1
  funext x
  unfold keepH
  rw [hn.2]
def spStripR : FSpec:=fun _ xs ls K=>∃ (l : List HF) (nl : Bool) (n : Int) (f : Nat→List SV),xs = [.sl (.a nl) (.a n) 2 f]∧ls = []∧RowH f n l∧∀ r e g n' b,(r,e) = stripF l→GrH g n' b r→K (.tup [.sl (.a b) (.a n') 2 g,.int .i64 (.a e)]) []
structure StJ (l : List HF) (o : List (List UInt8)) (k out : List HF) (i : Nat) (I n : Int) (b : Bool) (f : Nat→List SV) (m : Nat) : Prop where
 lie : AtR l i I m
 row : GrH f n b out
 ol : out.length≤i
 k : k = out ++ keptR o (l.drop i)
def stJ (l : List HF) (o : List (List UInt8)) (k : List HF) (nl : Bool) (N : Int) (F : Nat→List SV) (bo : Bool) (no : Int) (go : Nat→List SV) (m : Nat) (vs : List (Option SV)) (hp : List Hl) : Prop :=
 ∃ (out : List HF) (i : Nat) (I n : Int) (b : Bool) (f : Nat→List SV),vs = [some (.sl (.a nl) (.a N) 2 F),some (.sl (.a bo) (.a no) 1 go),some (.gsl (.a b) (.a n) 2 f 0),some (.int .i64 (.a I))]∧hp = [.tail 69 (.a n) 2]∧StJ l o k out i I n b f m
theorem keptR_cons (o : List (List UInt8)) (x : HF) (l : List HF) : keptR o (x :: l) = if !inF o (foldF x.name) then x :: keptR o l else keptR o l:=by
 unfold keptR
 rw [List.filter_cons]
theorem refStrip_ok : FnOk Tryz.prog gl 25 spStripR:=by
 refine fnOk (gh:=[(7,[.attach 6 69])]) mixed cxOk (tabCons refCheck_ok (tabCons names_ok (tabCons refFold_ok (tabCons in6_ok tabNil)))) Tryz.func25 (by kernel_rfl) (by kernel_rfl) ?_
 intro xs ls K h
 unfold spStripR at h
 obtain ⟨l,nl,N,F,rfl,rfl,R,h⟩:=h
 obtain ⟨k,hk⟩ : ∃ k,k = stripF l:=⟨_,rfl⟩
 obtain ⟨kr,ke⟩:=k
 have hkb : kr.length≤1000000∧∀ x∈kr,x.small:=by
  unfold stripF at hk
  split at hk
  ·obtain ⟨rfl,_⟩:=Prod.mk.inj hk; exact ⟨by simp,fun x hx=>by cases hx⟩
  ·rename_i h1
   have:=checkF_len (l:=l) (by simpa using h1)
   split at hk
   ·obtain ⟨rfl,_⟩:=Prod.mk.inj hk
    refine ⟨Nat.le_trans (List.length_filter_le ..) (by omega),fun x hx=>R.smallM x (List.mem_filter.1 hx).1⟩
   ·obtain ⟨rfl,_⟩:=Prod.mk.inj hk; exact ⟨by simp,fun x hx=>by cases hx⟩
 obtain ⟨f1,n1,b1,hG⟩ : ∃ f1 n1 b1,GrH f1 n1 b1 kr:=⟨_,_,_,⟨RowH.row (by omega) (fun i hi=>hkb.2 _ (by rw [List.getD_eq_getElem?_getD,List.getElem?_eq_getElem hi]; exact List.getElem_mem hi)),rfl⟩⟩
 clear hkb
 refine ⟨_,_,h kr ke f1 n1 b1 hk hG,fun D hD=>?_⟩
 cbv
 clear h
 refine ⟨l,nl,N,F,by subst hD; rfl,rfl,R,fun c hc=>?_⟩
 cbv
 refine br hD (fun h=>?_) (fun h=>?_)<;>cbv
 ·have h : (c != 0) = true:=h
  have h1 : c≠0:=by simpa using h
  unfold stripF at hk
  rw [←hc,if_pos h1] at hk
  obtain ⟨rfl,rfl⟩:=Prod.mk.inj hk
  subst hD
  exact finV (.tup (.cons (leGrH GrH.nil hG rfl rfl) (.cons (leInt rfl) .nil)))
 have h : (c != 0) = false:=h
 have h1 : checkF l = 0:=by rw [←hc]; simpa using h
 have hlen:=checkF_len h1
 rw [stripF_ref h1] at hk
 clear h hc
 refine ⟨l,nl,N,F,by subst hD; rfl,rfl,R,h1,fun q o e go no bo hq ho he Go=>?_⟩
 cbv
 rw [←hq] at hk
 clear hq h1
 refine br hD (fun h=>?_) (fun h=>?_)<;>cbv
 ·have h : (e != 0) = true:=h
  have hqn : q = none:=by
   cases q with
   | none=>rfl
   | some _=>rw [he] at h; cases h
  subst hqn
  have he : e = 6:=he
  obtain ⟨rfl,rfl⟩:=Prod.mk.inj hk
  subst he
  subst hD
  exact finV (.tup (.cons (leGrH GrH.nil hG rfl rfl) (.cons (leInt rfl) .nil)))
 have h : (e != 0) = false:=h
 have hqs : ∃ o',q = some o':=by
  cases q with
  | none=>rw [he] at h; cases h
  | some o'=>exact ⟨o',rfl⟩
 obtain ⟨o',rfl⟩:=hqs
 have ho : o = o':=ho
 subst ho
 obtain ⟨hkr,hke⟩:=Prod.mk.inj hk
 clear hk he h
 obtain ⟨J,hJ⟩ : ∃ J,J = stJ l o kr nl N F bo no go:=⟨_,rfl⟩
 refine ⟨[0,5,6,7],J,⟨rfl,l.length,?_⟩,?_⟩
 ·rw [hJ]
  subst hD
  exact ⟨[],0,_,_,_,_,rfl,rfl,⟨AtR.zero R.len,GrH.nil,Nat.le_refl _,hkr⟩⟩
 clear hkr
 intro m vs hp hj
 rw [hJ] at hj
 obtain ⟨out,i,I,n,b,f,rfl,rfl,V⟩:=hj
 cbv
 refine br hD (fun h=>?_) (fun h=>?_)<;>cbv
 ·have hlt:=V.lie.lt R.n (of_decide_eq_true (p:=I < N) h)
  clear h
  have inA:=V.lie.inB hD R.n hlt
  have hx:=R.f i hlt
  have hsm:=R.small i hlt
  have hst:=V.lie.step hD hlt
  have hk:=V.k
  rw [dropH hlt,keptR_cons] at hk
  obtain ⟨x,hxx⟩ : ∃ x,x = l.getD i default:=⟨_,rfl⟩
  rw [←hxx] at hx hk hsm
  clear hxx
  obtain ⟨xn,xv⟩:=x
  refine ⟨inA,fun j hj=>?_⟩
  have hj:=V.lie.j hD hj
  cbv
  rw [hj,hx]
  cbv
  refine ⟨xn,rfl,rfl,hsm.1,fun w hw=>?_⟩
  cbv
  refine ⟨o,w,bo,no,go,by subst hD; rfl,rfl,Go.row,fun r hr=>?_⟩
  cbv
  simp only at hk
  rw [←hw,←hr] at hk
  clear hr hj hw
  refine br hD (fun h=>?_) (fun h=>?_)<;>cbv
  ·have h : (!r) = true:=h
   rw [if_pos h] at hk
   clear h
   refine ⟨inA,fun j hj=>?_⟩
   have hj:=V.lie.j hD hj
   cbv
   rw [hj,hx]
   cbv
   clear hj
   intro g hg
   cbv
   have hg0 : g 0 = hfCells ⟨xn,xv⟩:=hg.h 0 _ rfl
   clear hg
   refine ⟨by subst hD; exact ⟨rfl,by have:=V.row.row.n; have:=V.ol; show (n + 1) * 32≤_; omega,by have:=V.row.row.n; have:=V.ol; show n + 1≤_; omega⟩,fun f' n' hm=>?_⟩
   cbv
   have G2 : ∀ nl',nl' = false→GrH f' n' nl' (out ++ [⟨xn,xv⟩]):=fun nl' hb=>V.row.more hg0 hsm (by subst hD; exact hm) (by have:=V.ol; omega) hb
   clear hm
   refine ⟨_,hst.1,?_⟩
   rw [hJ]
   unfold stJ
   subst hD
   refine ⟨out ++ [⟨xn,xv⟩],i + 1,_,n',(b && false),f',rfl,rfl,⟨hst.2,G2 _ (Bool.and_false _),by have:=V.ol; simp; omega,by rw [hk]; simp⟩⟩
  ·have h : (!r) = false:=h
   rw [if_neg (by rw [h]; simp)] at hk
   refine ⟨_,hst.1,?_⟩
   rw [hJ]
   unfold stJ
   subst hD
   exact ⟨out,i + 1,_,n,b,f,rfl,rfl,⟨hst.2,V.row,by have:=V.ol; omega,hk⟩⟩
 have hi:=V.lie.eq R.n (of_decide_eq_false (p:=I < N) h)
 have hdn : l.drop i = []:=List.drop_eq_nil_of_le (by omega)
 have hk:=V.k
 rw [hdn] at hk
 have hk : kr = out:=by rw [hk]; simp [keptR]
 subst hk
 subst hke
 subst hD
 exact finV (.tup (.cons (leGrH V.row hG rfl rfl) (.cons (leInt rfl) .nil)))
end Go.Proofs.YtefelnhpfdcleaaGreatDoor
namespace Go.Proofs.YtefelnhpfdcleaaGreatDoor
open Go Go.Sx
set_option maxRecDepth 100000
set_option maxHeartbeats 8000000
def spDig (k : Nat) : FSpec:=fun _ xs ls K=>∃ (n : Int),xs = [.int .i64 (.a n)]∧ls = []∧0≤n∧n < k∧n≤9223372036854775807∧∀ r,r = Lib.decDigits n.toNat→K (.str r) []
theorem dig_len {n : Int} (h : 0≤n) (h2 : n≤9223372036854775807) : (Lib.decDigits n.toNat).length≤20:=by
 rw [Lib.decDigits_length]
 exact Lib.nDigits_le20 _ (by omega)
structure DgV (n : Int) (k : Nat) : Prop where
 lo : 0≤n
 lt : n < (k + 1 : Nat)
 hi : n≤9223372036854775807
structure HpE2 (n : Int) (k : Nat) : Prop where
 h : n < k
theorem digits_rec : ∀ k,FnOk Tryz.prog gl 86 (spDig k)
 | 0=>by
  refine ⟨⟨Tryz.f86,_,Tryz.func86,rfl,by kernel_rfl⟩,fun xs ls K h=>?_⟩
  obtain ⟨n,_,_,h0,h1,_⟩:=h
  omega
 | k + 1=>by
  refine fnOk (gh:=[]) mixed cxOk (tabCons (digits_rec k) tabNil) Tryz.func86 (by kernel_rfl) (by kernel_rfl) ?_
  intro xs ls K h
  unfold spDig at h
  obtain ⟨n,rfl,rfl,h0,hnk,h2,h⟩:=h
  obtain ⟨q,hq⟩ : ∃ q,q = Lib.decDigits n.toNat:=⟨_,rfl⟩
  have V : DgV n k:=⟨h0,hnk,h2⟩
  clear h0 hnk h2
  refine ⟨_,_,h q hq,fun D hD=>?_⟩
  cbv
  clear h
  refine br hD (fun h=>?_) (fun h=>?_)<;>cbv
  ·have h9 : 9 < n:=by
    have h : (decide (9 < n) || decide (n < -9)) = true:=h
    simp only [Bool.or_eq_true,decide_eq_true_eq] at h
    have:=V.lo
    omega
   clear h
   have hrem : binDen .rem .i64 n 10 = n % 10:=by
    show n.tmod 10 = _
    exact Int.tmod_eq_emod_of_nonneg V.lo
   have hquo : binDen .quo .i64 n 10 = n / 10:=by
    show IntKind.i64.wrap (n.tdiv 10) = _
    rw [Int.tdiv_eq_ediv_of_nonneg V.lo]
    have:=V.lo; have:=V.hi
    exact wrap64 (by omega) (by omega)
   have W : DgV (n / 10) k:=⟨by have:=V.lo; omega,by have:=V.lo; have:=V.lt; omega,by have:=V.lo; have:=V.hi; omega⟩
   have hlt : n / 10 < k:=by have:=V.lo; have:=V.lt; omega
   have hw : IntKind.u8.wrap (IntKind.i64.wrap (48 + binDen .rem .i64 n 10)) = 48 + n % 10:=by
    rw [hrem,wrap64 (by omega) (by omega)]
    exact wrap8 (by omega) (by omega)
   have hdd : Lib.decDigits n.toNat = Lib.decDigits (n / 10).toNat ++ [UInt8.ofNat (48 + n.toNat % 10)]:=by
    rw [Lib.decDigits,dif_neg (by have:=V.lo; omega)]
    congr 3
    have:=V.lo; omega
   rw [hdd] at hq
   have hu8 : ((UInt8.ofNat (48 + n.toNat % 10)).toNat : Int) = 48 + n % 10:=by
    rw [UInt8.toNat_ofNat']
    have:=V.lo; omega
   have HU : VI (IntKind.u8.wrap (IntKind.i64.wrap (48 + binDen .rem .i64 n 10))) (UInt8.ofNat (48 + n.toNat % 10)).toNat:=⟨by rw [hw,hu8]⟩
   clear hw hu8
   have HV : HpE2 (n / 10) k:=⟨hlt⟩
   clear hlt hdd
   refine ⟨⟨by subst hD; decide⟩,?_⟩
   refine br hD (fun h=>?_) (fun h=>?_)<;>cbv
   ·exfalso
    have h : decide (binDen .rem .i64 n 10 < 0) = true:=h
    rw [hrem] at h
    have:=of_decide_eq_true h
    have:=V.lo; omega
   clear h
   refine ⟨⟨by subst hD; decide⟩,_,rfl,rfl,by subst hD; show 0≤binDen .quo .i64 n 10; rw [hquo]; exact W.lo,by subst hD; show binDen .quo .i64 n 10 < _; rw [hquo]; exact HV.h,by subst hD; show binDen .quo .i64 n 10≤_; rw [hquo]; exact W.hi,fun r hr=>?_⟩
   cbv
   have hr : r = Lib.decDigits (n / 10).toNat:=by
    subst hD
    have hr : r = Lib.decDigits (binDen .quo .i64 n 10).toNat:=hr
    rw [hquo] at hr
    exact hr
   have hrl : r.length≤20:=by rw [hr]; exact dig_len W.lo W.hi
   rw [←hr] at hq
   clear hr
   obtain ⟨c8,hc8⟩ : ∃ c8,c8 = UInt8.ofNat (48 + n.toNat % 10):=⟨_,rfl⟩
   rw [←hc8] at hq HU
   intro g hg
   cbv
   have R : RowU g 1 [c8]:=by
    refine ⟨rfl,fun i hi=>?_⟩
    have hi : i < 1:=hi
    obtain rfl : i = 0:=by omega
    subst hD
    have h5 : g 0 = [.int .u8 (.a (IntKind.u8.wrap (IntKind.i64.wrap (48 + binDen .rem .i64 n 10))))]:=hg.h 0 _ rfl
    rw [h5,HU.h]
    rfl
   clear hg
   refine ⟨by subst hD; exact R.byte,fun w hw2=>?_⟩
   cbv
   have hw2 : w = [c8]:=by subst hD; exact R.str hw2
   refine ⟨⟨by rw [hw2]; simp only [List.length_cons,List.length_nil]; omega⟩,fun t ht=>?_⟩
   cbv
   have ht:=ht.h
   exact finStr (by rw [ht,hw2,hq])
  have h9 : n≤9:=by
   have h : (decide (9 < n) || decide (n < -9)) = false:=h
   simp only [Bool.or_eq_false_iff,decide_eq_false_iff_not] at h
   omega
  clear h
  have hdd : Lib.decDigits n.toNat = [UInt8.ofNat (48 + n.toNat)]:=by
   rw [Lib.decDigits,dif_pos (by have:=V.lo; omega)]
  rw [hdd] at hq
  have hw : IntKind.u8.wrap (IntKind.i64.wrap (48 + n)) = 48 + n:=by
   have:=V.lo
   rw [wrap64 (by omega) (by omega)]
   exact wrap8 (by omega) (by omega)
  have hu8 : ((UInt8.ofNat (48 + n.toNat)).toNat : Int) = 48 + n:=by
   rw [UInt8.toNat_ofNat']
   have:=V.lo; omega
  have HU : VI (IntKind.u8.wrap (IntKind.i64.wrap (48 + n))) (UInt8.ofNat (48 + n.toNat)).toNat:=⟨by rw [hw,hu8]⟩
  clear hw hu8 hdd
  obtain ⟨c8,hc8⟩ : ∃ c8,c8 = UInt8.ofNat (48 + n.toNat):=⟨_,rfl⟩
  rw [←hc8] at hq HU
  refine br hD (fun h=>?_) (fun h=>?_)<;>cbv
  ·exfalso
   have h : decide (n < 0) = true:=h
   have:=of_decide_eq_true h
   have:=V.lo; omega
  clear h
  intro g hg
  cbv
  have R : RowU g 1 [c8]:=by
   refine ⟨rfl,fun i hi=>?_⟩
   have hi : i < 1:=hi
   obtain rfl : i = 0:=by omega
   subst hD
   have h5 : g 0 = [.int .u8 (.a (IntKind.u8.wrap (IntKind.i64.wrap (48 + n))))]:=hg.h 0 _ rfl
   rw [h5,HU.h]
   rfl
  clear hg
  refine ⟨by subst hD; exact R.byte,fun w hw2=>?_⟩
  cbv
  have hw2 : w = [c8]:=by subst hD; exact R.str hw2
  exact finStr (by rw [hw2,hq])
def spDigits : FSpec:=fun _ xs ls K=>∃ (n : Int),xs = [.int .i64 (.a n)]∧ls = []∧0≤n∧n≤9223372036854775807∧∀ r,r = Lib.itoa n→K (.str r) []
theorem digits_ok86 : FnOk Tryz.prog gl 86 spDigits:=by
 refine ⟨(digits_rec 0).1,fun xs ls K h=>?_⟩
 obtain ⟨n,rfl,rfl,h0,h2,h⟩:=h
 refine (digits_rec (n.toNat + 1)).2 _ _ _ ⟨n,rfl,rfl,h0,by omega,h2,fun r hr=>h r ?_⟩
 rw [hr,Lib.itoa,if_neg (by omega)]
end Go.Proofs.YtefelnhpfdcleaaGreatDoor
namespace Go.Proofs.YtefelnhpfdcleaaGreatDoor
open Go Go.Sx
set_option maxRecDepth 100000
set_option maxHeartbeats 8000000
def hostB (c : Int) : Bool:=((decide (97≤c) && decide (c≤122)) || (decide (48≤c) && decide (c≤57))) || amongF c [45,46,58]
theorem hostB_fin : ∀ c : Fin 256,hostB (c.1 : Int) = hostSet.contains (UInt8.ofNat c.1):=by decide +kernel
theorem hostB_eq (b : UInt8) : hostSet.contains b = hostB (b.toNat : Int):=by
 have:=hostB_fin ⟨b.toNat,b.toNat_lt⟩
 simp only [UInt8.ofNat_toNat] at this
 exact this.symm
def hostAll (s : List UInt8) : Bool:=s.all fun b=>hostB (b.toNat : Int)
theorem hostF_all (s : List UInt8) : hostF s = (s != [] && (decide (s.length≤100) && hostAll s)):=by
 unfold hostF hostAll
 congr 2
 rw [Bool.eq_iff_iff,beq_iff_eq,List.all_eq_true]
 constructor
 ·intro h c hc
  rw [←hostB_eq]
  exact trimS_nil h c hc
 ·intro h
  show ((s.reverse.dropWhile (fun x=>hostSet.contains x)).reverse).dropWhile (fun x=>hostSet.contains x) = []
  rw [dropWhile_nil]
  intro x hx
  have hx:=List.mem_reverse.1 hx
  have hx : x∈s.reverse:=(List.dropWhile_suffix _).subset hx
  rw [hostB_eq]
  exact h x (List.mem_reverse.1 hx)
def hoJ (s : List UInt8) (k : Bool) (m : Nat) (vs : List (Option SV)) (hp : List Hl) : Prop :=
 ∃ (i : Nat) (I : Int),vs = [some (.str s),some (.int .i64 (.a I))]∧hp = []∧At s i I m∧k = hostAll (s.drop i)
theorem refHost_ok : FnOk Tryz.prog gl 68 (spPredS hostF):=by
 refine fnOk (gh:=[]) mixed cxOk (tabCons among_ok tabNil) Tryz.func68 (by kernel_rfl) (by kernel_rfl) ?_
 intro xs ls K h
 unfold spPredS at h
 obtain ⟨s,rfl,rfl,hs,h⟩:=h
 obtain ⟨k,hk⟩ : ∃ k,k = hostF s:=⟨_,rfl⟩
 refine ⟨_,_,h k hk,fun D hD=>?_⟩
 cbv
 clear h
 rw [hostF_all] at hk
 refine br hD (fun h=>?_) (fun h=>?_)<;>cbv
 ·have h : (decide ((s.length : Int) < 1) || decide (100 < (s.length : Int))) = true:=h
  simp only [Bool.or_eq_true,decide_eq_true_eq] at h
  refine finBool hD ?_
  rw [hk]
  symm
  show _ = false
  rcases h with h | h
  ·have : s = []:=List.eq_nil_of_length_eq_zero (by omega)
   rw [this]; rfl
  ·rw [decide_eq_false (show ¬ s.length≤100 by omega)]
   simp
 have h : (decide ((s.length : Int) < 1) || decide (100 < (s.length : Int))) = false:=h
 simp only [Bool.or_eq_false_iff,decide_eq_false_iff_not] at h
 have hne : s≠[]:=by rintro rfl; simp at h
 rw [decide_eq_true (show s.length≤100 by omega),Bool.true_and] at hk
 have hne2 : (s != []) = true:=by simpa using hne
 rw [hne2,Bool.true_and] at hk
 clear h hne hne2
 obtain ⟨J,hJ⟩ : ∃ J,J = hoJ s k:=⟨_,rfl⟩
 refine ⟨[0,3],J,⟨rfl,s.length,?_⟩,?_⟩
 ·rw [hJ]
  subst hD
  exact ⟨0,0,rfl,rfl,At.zero hs,hk⟩
 intro m vs hp hv
 rw [hJ] at hv
 unfold hoJ at hv
 obtain ⟨i,I,rfl,rfl,V,hk2⟩:=hv
 clear hk
 cbv
 refine br hD (fun h=>?_) (fun h=>?_)<;>cbv
 ·have hlt:=V.lt (of_decide_eq_true (p:=I < (s.length : Int)) h)
  clear h
  rw [drop_at hlt] at hk2
  have hk2 : k = (hostB ((s.getD i 0).toNat : Int) && hostAll (s.drop (i + 1))):=hk2
  have hst:=V.step hD hlt
  have inS:=V.inS hD hlt
  refine ⟨inS,fun b hb=>?_⟩
  cbv
  have hb2:=charOf hD V.I hb
  clear hb
  refine ⟨fun _=>inS,fun b1 hb=>?_⟩
  cbv
  have e1 : b1 = b:=by rw [(charOf hD V.I hb).h,hb2.h]
  subst e1
  clear hb
  refine ⟨fun _=>inS,fun b3 hb=>?_⟩
  cbv
  have e1 : b3 = b1:=by rw [(charOf hD V.I hb).h,hb2.h]
  subst e1
  clear hb
  refine ⟨fun _ _=>inS,fun b4 hb=>?_⟩
  cbv
  have e1 : b4 = b3:=by rw [(charOf hD V.I hb).h,hb2.h]
  subst e1
  clear hb
  refine ⟨fun _=>inS,fun b5 hb=>?_⟩
  cbv
  have e1 : b5 = b4:=by rw [(charOf hD V.I hb).h,hb2.h]
  subst e1
  clear hb
  refine ⟨_,[45,46,58],rfl,rfl,by decide,fun q hq=>?_⟩
  cbv
  have hq : q = amongF b5 [45,46,58]:=by subst hD; exact hq
  have hkk : hostB ((s.getD i 0).toNat : Int) = (((decide (97≤b5) && decide (b5≤122)) || (decide (48≤b5) && decide (b5≤57))) || q):=by
   rw [←hb2.h,hq]; rfl
  rw [hkk] at hk2
  clear hkk hq
  refine br hD (fun h=>?_) (fun h=>?_)<;>cbv
  ·have h : (!(((decide (97≤b5) && decide (b5≤122)) || (decide (48≤b5) && decide (b5≤57))) || q)) = true:=h
   simp only [Bool.not_eq_true'] at h
   rw [h,Bool.false_and] at hk2
   exact finBool hD hk2.symm
  ·have h : (!(((decide (97≤b5) && decide (b5≤122)) || (decide (48≤b5) && decide (b5≤57))) || q)) = false:=h
   simp only [Bool.not_eq_false'] at h
   rw [h,Bool.true_and] at hk2
   refine ⟨_,hst.1,?_⟩
   rw [hJ]
   unfold hoJ
   subst hD
   exact ⟨i + 1,_,rfl,rfl,hst.2,hk2⟩
 have he:=V.eq (of_decide_eq_false (p:=I < (s.length : Int)) h)
 have hdn : s.drop i = []:=List.drop_eq_nil_of_le (by omega)
 rw [hdn] at hk2
 exact finBool hD hk2.symm
theorem refMethod1_ok : FnOk Tryz.prog gl 67 (spPredS isMethodF):=by
 refine fnOk (gh:=[]) mixed cxOk (tabCons refToken_ok tabNil) Tryz.func67 (by kernel_rfl) (by kernel_rfl) ?_
 intro xs ls K h
 unfold spPredS at h
 obtain ⟨s,rfl,rfl,hs,h⟩:=h
 obtain ⟨k,hk⟩ : ∃ k,k = isMethodF s:=⟨_,rfl⟩
 refine ⟨_,_,h k hk,fun D hD=>?_⟩
 cbv
 clear h
 refine ⟨s,rfl,rfl,hs,fun b hb=>?_⟩
 cbv
 rw [←token_eq] at hb
 refine finBool hD ?_
 rw [hk,isMethodF,←hb]
 show (decide ((s.length : Int)≤16) && b) = _
 congr 1
 rw [decide_eq_decide]; omega
theorem bareF_in (s : List UInt8) : bareF s = inF [[71,69,84],[72,69,65,68],[84,82,65,67,69]] s:=by
 rw [Bool.eq_iff_iff,inF_iff]
 simp only [List.mem_cons,List.not_mem_nil,or_false]
 unfold bareF
 split
 ·simp [*]
 ·split
  ·simp [*]
  ·split
   ·rename_i h; subst h; simp
   ·split
    ·simp [*]
    ·split
     ·rename_i h; subst h; simp
     ·split<;>simp [*]
theorem refBare_ok : FnOk Tryz.prog gl 62 (spPredS bareF):=by
 refine fnOk (gh:=[]) mixed cxOk (tabCons in7_ok tabNil) Tryz.func62 (by kernel_rfl) (by kernel_rfl) ?_
 intro xs ls K h
 unfold spPredS at h
 obtain ⟨s,rfl,rfl,hs,h⟩:=h
 obtain ⟨k,hk⟩ : ∃ k,k = bareF s:=⟨_,rfl⟩
 refine ⟨_,_,h k hk,fun D hD=>?_⟩
 cbv
 clear h
 intro g hg
 cbv
 have R : RowS g 3 [[71,69,84],[72,69,65,68],[84,82,65,67,69]]:=strBuilt (l:=[[71,69,84],[72,69,65,68],[84,82,65,67,69]]) hg (by decide)
 refine ⟨[[71,69,84],[72,69,65,68],[84,82,65,67,69]],s,false,3,g,by subst hD; rfl,rfl,R,fun r hr=>?_⟩
 cbv
 refine finBool hD ?_
 rw [hk,bareF_in,←hr]
 rfl
end Go.Proofs.YtefelnhpfdcleaaGreatDoor
namespace Go.Proofs.YtefelnhpfdcleaaGreatDoor
open Go Go.Sx
set_option maxRecDepth 100000
set_option maxHeartbeats 8000000
theorem hasBody_in (r : Rq) : hasBody r = ((r.body != []) || inF [sPost,sPut,sPatch] r.method):=by
 unfold hasBody
 have e : ∀ (a b : List UInt8),(a == b) = (b == a):=fun a b=>by rw [Bool.eq_iff_iff,beq_iff_eq,beq_iff_eq]; exact eq_comm
 show _ = ((r.body != []) || ((sPost == r.method) || ((sPut == r.method) || ((sPatch == r.method) || false))))
 rw [e sPost,e sPut,e sPatch,Bool.or_false,Bool.or_assoc,Bool.or_assoc]
def spWritR : FSpec:=fun _ xs ls K=>∃ (r : Rq) (nl : Bool) (n : Int) (f : Nat→List SV),xs = [.agg [.int .i64 (.a r.id),.str r.method,.str r.target,.str r.host,.sl (.a nl) (.a n) 2 f,.str r.body]]∧ls = []∧RqOk r nl n f∧0≤r.id∧
 ∀ l e nb n' g,(l,e) = writtenF r→RowH g n' l→nb = (e != 0)→K (.tup [.sl (.a nb) (.a n') 2 g,.int .i64 (.a e)]) []
theorem refWritten_ok : FnOk Tryz.prog gl 45 spWritR:=by
 refine fnOk (gh:=[]) mixed cxOk (tabCons refStrip_ok (tabCons digits_ok86 (tabCons in7_ok tabNil))) Tryz.func45 (by kernel_rfl) (by kernel_rfl) ?_
 intro xs ls K h
 unfold spWritR at h
 obtain ⟨r,nl,n,f,rfl,rfl,R,hid,h⟩:=h
 obtain ⟨k,hk⟩ : ∃ k,k = writtenF r:=⟨_,rfl⟩
 obtain ⟨kl,ke⟩:=k
 have hs0 : ∀ x : HF,∀ (a b : List UInt8),x = ⟨a,b⟩→a.length≤100→b.length≤9223372036854775807→x.small:=fun x a b e h1 h2=>by subst e; exact ⟨by show a.length≤_; omega,h2⟩
 have hxs : HF.small ⟨sHost,r.host⟩:=hs0 _ _ _ rfl (by decide) R.host
 have hys : HF.small ⟨sXId,Lib.itoa r.id⟩:=hs0 _ _ _ rfl (by decide) (itoa_len R.id1 R.id2)
 have hzs : HF.small ⟨sCL,Lib.itoa r.body.length⟩:=hs0 _ _ _ rfl (by decide) (itoa_len (by omega) (by have:=R.body; omega))
 have hg : ∃ g n',RowH g n' kl:=by
  unfold writtenF at hk
  split at hk
  ·simp only [Prod.mk.injEq] at hk
   rw [hk.1]; exact rowOf [] (by simp) (fun i hi=>absurd hi (by simp))
  ·rename_i h1
   have h1 : (stripF r.fields).2 = 0:=by simpa using h1
   have h2:=stripF_len _ h1
   simp only [Prod.mk.injEq] at hk
   rw [hk.1]
   refine rowOf _ ?_ (small_append (small_append (fun i hi=>?_) (stripF_small R.row.small)) ?_)
   ·simp only [List.length_append]
    split<;>simp<;>omega
   ·match i,hi with
    | 0,_=>exact hxs
    | 1,_=>exact hys
   ·split
    ·intro i hi
     have : i = 0:=by simpa using hi
     subst this; exact hzs
    ·intro i hi; simp at hi
 obtain ⟨g,n2,R2⟩:=hg
 obtain ⟨nb,hnb⟩ : ∃ nb,nb = (ke != 0):=⟨_,rfl⟩
 refine ⟨_,_,h kl ke nb n2 g hk R2 hnb,fun D hD=>?_⟩
 clear h
 obtain ⟨id,me,ta,ho,fs,bo⟩:=r
 simp only at R hxs hys hzs hid
 unfold writtenF at hk
 simp only at hk
 cbv
 refine ⟨fs,_,_,f,rfl,rfl,by subst hD; exact R.row,fun l e g3 n3 nb2 hl RR=>?_⟩
 have hl2:=stripF_len fs
 rw [←hl] at hl2 hk
 simp only at hl2 hk
 have R3:=RR.row
 clear RR hl
 cbv
 refine br hD (fun h=>?_) (fun h=>?_)<;>cbv
 ·have h1 : e≠0:=by simpa using h
  rw [if_pos h1] at hk
  simp only [Prod.mk.injEq] at hk
  obtain ⟨rfl,rfl⟩:=hk
  exact finSl hD (by rw [hnb]; simp [h1]) (l:=[]) ⟨rfl,fun i hi=>absurd hi (by simp),by simp,fun i hi=>absurd hi (by simp)⟩ rfl rfl R2
 have h1 : e = 0:=by simpa using h
 rw [if_neg (by simp [h1])] at hk
 have hl3:=hl2 h1
 clear h hl2
 refine ⟨_,rfl,rfl,by subst hD; exact hid,by subst hD; exact R.id2,fun ids hids=>?_⟩
 cbv
 have hids : ids = Lib.itoa id:=by subst hD; exact hids
 rw [←hids] at hk hys
 clear hids
 intro f2 hf2
 cbv
 have hR2 : RowH f2 2 [⟨sHost,ho⟩,⟨sXId,ids⟩]:=RowH.two (hf2.h 0 _ rfl) (hf2.h 1 _ rfl) hxs hys
 clear hf2
 have hn3:=R3.n
 refine ⟨?_,fun f4 n4 hm=>?_⟩
 ·subst hD
  refine ⟨rfl,?_,?_⟩
  ·show ((2 : Int) + n3) * 32≤140737488355328
   omega
  ·show (2 : Int) + n3≤9223372036854775807
   omega
 cbv
 have R4 : RowH f4 n4 ([⟨sHost,ho⟩,⟨sXId,ids⟩] ++ l):=hR2.app R3 (by subst hD; exact hm) (by simp only [List.length_cons,List.length_nil]; omega)
 clear hm hR2 hn3
 have hl4 : (([⟨sHost,ho⟩,⟨sXId,ids⟩] : List HF) ++ l).length≤102:=by simp; omega
 obtain ⟨l4,hl4e⟩ : ∃ l4,l4 = ([⟨sHost,ho⟩,⟨sXId,ids⟩] : List HF) ++ l:=⟨_,rfl⟩
 rw [←hl4e] at hk R4 hl4
 clear hl4e
 refine br hD (fun hgd=>?_) (fun hgd=>?_)<;>cbv
 ·intro f7 hf7
  cbv
  have R7 : RowS f7 3 [sPost,sPut,sPatch]:=strBuilt (l:=[sPost,sPut,sPatch]) hf7 (by decide)
  clear hf7
  refine ⟨[sPost,sPut,sPatch],me,false,3,f7,by subst hD; rfl,rfl,R7,fun q hq=>?_⟩
  cbv
  have hhb : hasBody ⟨id,me,ta,ho,fs,bo⟩ = ((bo != []) || q):=by rw [hq,hasBody_in]
  clear hq
  refine br hD (fun h=>?_) (fun h=>?_)<;>cbv
  ·have hb : hasBody ⟨id,me,ta,ho,fs,bo⟩ = true:=by rw [hhb]; exact h
   rw [if_pos hb] at hk
   clear h hb
   refine ⟨_,rfl,rfl,by subst hD; show 0≤(bo.length : Int); omega,by subst hD; show (bo.length : Int)≤_; have:=R.body; simp only at this; omega,fun bs hbs=>?_⟩
   cbv
   have hbs : bs = Lib.itoa (bo.length : Int):=by subst hD; exact hbs
   rw [←hbs] at hk hzs
   clear hbs
   intro f5 hf5
   cbv
   have hR5 : RowH f5 1 [⟨sCL,bs⟩]:=RowH.one (hf5.h 0 _ rfl) hzs
   clear hf5
   refine ⟨by subst hD; exact ⟨rfl,by have:=R4.n; show (n4 + 1) * 32≤_; omega,by have:=R4.n; show n4 + 1≤_; omega⟩,fun f6 n6 hm=>?_⟩
   cbv
   have R6 : RowH f6 n6 (l4 ++ [⟨sCL,bs⟩]):=R4.app hR5 (by subst hD; exact hm) (by simp only [List.length_cons,List.length_nil]; omega)
   clear hm
   simp only [Prod.mk.injEq] at hk
   obtain ⟨hq1,hq2⟩:=hk
   subst hq1 hq2
   exact finSl hD (by rw [hnb]; rfl) R6 rfl rfl R2
  ·have hb : hasBody ⟨id,me,ta,ho,fs,bo⟩ = false:=by rw [hhb]; exact h
   rw [if_neg (by rw [hb]; simp),List.append_nil] at hk
   simp only [Prod.mk.injEq] at hk
   obtain ⟨hq1,hq2⟩:=hk
   subst hq1 hq2
   exact finSl hD (by rw [hnb]; rfl) R4 rfl rfl R2
 ·have hgd : (!(bo != [])) = false:=hgd
  have hgd : (bo != []) = true:=by simpa only [Bool.not_eq_false'] using hgd
  refine ⟨[],me,true,0,fun _=>[],by subst hD; rfl,rfl,RowS.nil,fun q hq=>?_⟩
  cbv
  have hhb : hasBody ⟨id,me,ta,ho,fs,bo⟩ = ((bo != []) || q):=by rw [hasBody_in]; simp only; rw [hgd,Bool.true_or,Bool.true_or]
  clear hq hgd
  refine br hD (fun h=>?_) (fun h=>?_)<;>cbv
  ·have hb : hasBody ⟨id,me,ta,ho,fs,bo⟩ = true:=by rw [hhb]; exact h
   rw [if_pos hb] at hk
   clear h hb
   refine ⟨_,rfl,rfl,by subst hD; show 0≤(bo.length : Int); omega,by subst hD; show (bo.length : Int)≤_; have:=R.body; simp only at this; omega,fun bs hbs=>?_⟩
   cbv
   have hbs : bs = Lib.itoa (bo.length : Int):=by subst hD; exact hbs
   rw [←hbs] at hk hzs
   clear hbs
   intro f5 hf5
   cbv
   have hR5 : RowH f5 1 [⟨sCL,bs⟩]:=RowH.one (hf5.h 0 _ rfl) hzs
   clear hf5
   refine ⟨by subst hD; exact ⟨rfl,by have:=R4.n; show (n4 + 1) * 32≤_; omega,by have:=R4.n; show n4 + 1≤_; omega⟩,fun f6 n6 hm=>?_⟩
   cbv
   have R6 : RowH f6 n6 (l4 ++ [⟨sCL,bs⟩]):=R4.app hR5 (by subst hD; exact hm) (by simp only [List.length_cons,List.length_nil]; omega)
   clear hm
   simp only [Prod.mk.injEq] at hk
   obtain ⟨hq1,hq2⟩:=hk
   subst hq1 hq2
   exact finSl hD (by rw [hnb]; rfl) R6 rfl rfl R2
  ·have hb : hasBody ⟨id,me,ta,ho,fs,bo⟩ = false:=by rw [hhb]; exact h
   rw [if_neg (by rw [hb]; simp),List.append_nil] at hk
   simp only [Prod.mk.injEq] at hk
   obtain ⟨hq1,hq2⟩:=hk
   subst hq1 hq2
   exact finSl hD (by rw [hnb]; rfl) R4 rfl rfl R2
end Go.Proofs.YtefelnhpfdcleaaGreatDoor
namespace Go.Proofs.YtefelnhpfdcleaaGreatDoor
open Go Go.Sx
set_option maxRecDepth 100000
set_option maxHeartbeats 16000000
theorem ownF_in (t : List UInt8) : ownF t = inF ownL t:=by
 have e : ∀ (a b : List UInt8),(a == b) = (b == a):=fun a b=>by rw [Bool.eq_iff_iff,beq_iff_eq,beq_iff_eq]; exact eq_comm
 unfold ownF
 rw [e t,e t,e t,e t]
 show _ = (_ || (_ || (_ || (_ || false))))
 rw [Bool.or_false]
theorem anyOwn_cons (x : HF) (l : List HF) : anyOwn (x :: l) = (ownF (foldF x.name) || anyOwn l):=rfl
def spFieldsR : FSpec:=fun _ xs ls K=>∃ (r : Rq) (nl : Bool) (n : Int) (f : Nat→List SV),xs = [.agg [.int .i64 (.a r.id),.str r.method,.str r.target,.str r.host,.sl (.a nl) (.a n) 2 f,.str r.body]]∧ls = []∧RqOk r nl n f∧0≤r.id∧∀ e,e = (chkFieldsF r).2→K (.int .i64 (.a e)) []
def fiJ (r : Rq) (k : Bool) (nl : Bool) (n : Int) (f : Nat→List SV) (m : Nat) (vs : List (Option SV)) (hp : List Hl) : Prop :=
 ∃ (i : Nat) (I : Int),vs = [some (.ptr 0 0),some (.int .i64 (.a I))]∧hp = [.blk 31 [.int .i64 (.a r.id),.str r.method,.str r.target,.str r.host,.sl (.a nl) (.a n) 2 f,.str r.body]]∧OwJ r.fields k i I m
theorem refFields_ok : FnOk Tryz.prog gl 69 spFieldsR:=by
 refine fnOk (gh:=[]) mixed cxOk (tabCons refCheck_ok (tabCons own_ok (tabCons refFold_ok (tabCons in7_ok (tabCons refWritten_ok tabNil))))) Tryz.func69 (by kernel_rfl) (by kernel_rfl) ?_
 intro xs ls K h
 unfold spFieldsR at h
 obtain ⟨r,nl,n,f,rfl,rfl,R,hid,h⟩:=h
 obtain ⟨k,hk⟩ : ∃ k,k = (chkFieldsF r).2:=⟨_,rfl⟩
 obtain ⟨wg,wn,hwR⟩:=writtenF_row R
 refine ⟨_,_,h k hk,fun D hD=>?_⟩
 clear h
 have hwn:=writtenF_ne r
 obtain ⟨wl,hwl⟩ : ∃ w,w = writtenF r:=⟨_,rfl⟩
 unfold chkFieldsF at hk
 rw [←hwl] at hk hwR hwn
 obtain ⟨wl,we⟩:=wl
 simp only at hk hwR hwn
 obtain ⟨ao,hao⟩ : ∃ a,a = anyOwn r.fields:=⟨_,rfl⟩
 obtain ⟨J,hJ⟩ : ∃ J,J = fiJ r ao nl n f:=⟨_,rfl⟩
 rw [←hao] at hk
 obtain ⟨id,me,ta,ho,fs,bo⟩:=r
 simp only at R hao hk hid
 cbv
 refine ⟨fs,_,_,f,by subst hD; rfl,rfl,R.row,fun e he=>?_⟩
 cbv
 rw [←he] at hk
 clear he
 refine br hD (fun h=>?_) (fun h=>?_)<;>cbv
 ·have h1 : e≠0:=by simpa using h
  rw [if_pos h1] at hk
  exact finInt hD hk.symm
 have h1 : ¬ e≠0:=by simpa using h
 rw [if_neg h1] at hk
 clear h h1
 refine ⟨[1,4],J,⟨rfl,fs.length,?_⟩,?_⟩
 ·rw [hJ]
  subst hD
  exact ⟨0,0,rfl,rfl,⟨AtR.zero R.row.len,hao⟩⟩
 clear hao
 intro m vs hp hj
 rw [hJ] at hj
 obtain ⟨i,I,rfl,rfl,V⟩:=hj
 have VR:=R.row
 simp only at VR
 cbv
 refine br hD (fun h=>?_) (fun h=>?_)<;>cbv
 ·have hlt:=V.lie.lt VR.n (of_decide_eq_true (p:=I < n) h)
  clear h
  have inA:=V.lie.inB hD VR.n hlt
  have hx:=VR.f i hlt
  have hsm:=VR.small i hlt
  have hst:=V.lie.step hD hlt
  have hko:=V.k
  simp only at hlt hx hsm hko
  rw [dropH hlt,anyOwn_cons,ownF_in] at hko
  obtain ⟨x,hxx⟩ : ∃ x,x = fs.getD i default:=⟨_,rfl⟩
  rw [←hxx] at hx hko hsm
  clear hxx
  obtain ⟨xn,xv⟩:=x
  simp only at hko
  intro of on ob Go
  cbv
  refine ⟨inA,fun j hj=>?_⟩
  have hj:=V.lie.j hD hj
  cbv
  rw [hj,hx]
  cbv
  refine ⟨xn,rfl,rfl,hsm.1,fun w hw=>?_⟩
  cbv
  rw [←hw] at hko
  refine ⟨ownL,w,ob,on,of,by subst hD; rfl,rfl,Go.row,fun q hq=>?_⟩
  cbv
  rw [←hq] at hko
  refine br hD (fun h=>?_) (fun h=>?_)<;>cbv
  ·have h : q = true:=h
   rw [h,Bool.true_or] at hko
   rw [if_pos hko] at hk
   exact finInt hD hk.symm
  ·have h : q = false:=h
   rw [h,Bool.false_or] at hko
   refine ⟨_,hst.1,?_⟩
   rw [hJ]
   unfold fiJ
   subst hD
   exact ⟨i + 1,_,rfl,rfl,⟨hst.2,hko⟩⟩
 have hi:=V.lie.eq VR.n (of_decide_eq_false (p:=I < n) h)
 have hko:=V.k
 simp only at hi hko
 have hdn : fs.drop i = []:=List.drop_eq_nil_of_le (by omega)
 rw [hdn] at hko
 have hko : ao = false:=hko
 rw [if_neg (by rw [hko]; simp)] at hk
 clear h hdn
 refine ⟨⟨id,me,ta,ho,fs,bo⟩,nl,n,f,by subst hD; rfl,rfl,R,hid,fun l e2 nb2 n3 g3 hc R3 hnb2=>?_⟩
 cbv
 rw [←hwl] at hc
 simp only [Prod.mk.injEq] at hc
 obtain ⟨hq1,hq2⟩:=hc
 subst hq1 hq2
 refine br hD (fun h=>?_) (fun h=>?_)<;>cbv
 ·have h1 : e2≠0:=by simpa using h
  rw [if_pos h1] at hk
  exact finInt hD hk.symm
 have h1 : ¬ e2≠0:=by simpa using h
 rw [if_neg h1] at hk
 clear h h1
 refine ⟨l,nb2,n3,g3,by subst hD; rfl,rfl,R3,fun e3 he3=>?_⟩
 cbv
 rw [←he3] at hk
 exact finInt hD hk.symm
structure IdOk (id : Int) : Prop where
 lo : 0≤id
theorem finPE {D : Dn} (hD : D = dn) {p p' : List UInt8} {e : Int} {z : ST} (hp : p' = p) (h3 : z.den = e) : Fin (.tup [.str p',.int .i64 (.a (D.i z))]) (.tup [.str p,.int .i64 (.a e)]) [] []:=by
 subst hD hp h3; exact finV (LeV.refl _)
theorem refChk_ok : FnOk Tryz.prog gl 28 spCheckR:=by
 refine fnOk (gh:=[]) mixed cxOk (tabCons refMethod1_ok (tabCons refTarget_ok (tabCons refHost_ok (tabCons refFields_ok (tabCons refBare_ok tabNil))))) Tryz.func28 (by kernel_rfl) (by kernel_rfl) ?_
 intro xs ls K h
 unfold spCheckR at h
 obtain ⟨r,nl,n,f,rfl,rfl,R,h⟩:=h
 obtain ⟨k,hk⟩ : ∃ k,k = examineF r:=⟨_,rfl⟩
 obtain ⟨kp,kl,ke⟩:=k
 refine ⟨_,_,h kp ke (by unfold checkRF; rw [←hk]),fun D hD=>?_⟩
 clear h
 unfold examineF at hk
 obtain ⟨ck,hck⟩ : ∃ w,w = chkFieldsF r:=⟨_,rfl⟩
 rw [←hck] at hk
 obtain ⟨cl,ce⟩:=ck
 obtain ⟨id,me,ta,ho,fs,bo⟩:=r
 have Rme:=R.method
 have Rta:=R.target
 have Rho:=R.host
 simp only at hk Rme Rta Rho
 cbv
 refine br hD (fun h=>?_) (fun h=>?_)<;>cbv
 ·have h1 : id < 1∨1000000000 < id:=by
   have h : (decide (id < 1) || decide (1000000000 < id)) = true:=h
   simpa using h
  rw [if_pos h1] at hk
  simp only [Prod.mk.injEq] at hk
  obtain ⟨hq1,hq2,hq3⟩:=hk
  subst hq1 hq2 hq3
  exact finPE hD rfl rfl
 have h1 : ¬ (id < 1∨1000000000 < id):=by
  have h : (decide (id < 1) || decide (1000000000 < id)) = false:=h
  simp only [Bool.or_eq_false_iff,decide_eq_false_iff_not] at h
  omega
 rw [if_neg h1] at hk
 have hid0 : IdOk id:=⟨by show 0≤id; omega⟩
 clear h h1
 refine ⟨me,rfl,rfl,Rme,fun im him=>?_⟩
 cbv
 rw [←him] at hk
 clear him
 refine br hD (fun h=>?_) (fun h=>?_)<;>cbv
 ·have h1 : (!im) = true:=h
  rw [if_pos h1] at hk
  simp only [Prod.mk.injEq] at hk
  obtain ⟨hq1,hq2,hq3⟩:=hk
  subst hq1 hq2 hq3
  exact finPE hD rfl rfl
 have h1 : (!im) = false:=h
 rw [if_neg (by rw [h1]; simp)] at hk
 clear h h1
 refine br hD (fun h=>?_) (fun h=>?_)<;>cbv
 ·have h1 : me = sConnect:=eq_of_beq (show (me == sConnect) = true from h)
  rw [if_pos h1] at hk
  simp only [Prod.mk.injEq] at hk
  obtain ⟨hq1,hq2,hq3⟩:=hk
  subst hq1 hq2 hq3
  exact finPE hD rfl rfl
 have h1 : ¬ me = sConnect:=by
  have h : (me == sConnect) = false:=h
  intro e; rw [e] at h; simp at h
 rw [if_neg h1] at hk
 clear h h1
 refine ⟨ta,rfl,rfl,Rta,fun oi oe ho2=>?_⟩
 cbv
 rw [←ho2] at hk
 simp only at hk
 clear ho2
 refine br hD (fun h=>?_) (fun h=>?_)<;>cbv
 ·have h1 : oe≠0:=by simpa using h
  rw [if_pos h1] at hk
  simp only [Prod.mk.injEq] at hk
  obtain ⟨hq1,hq2,hq3⟩:=hk
  subst hq1 hq2 hq3
  exact finPE hD rfl rfl
 have h1 : ¬ oe≠0:=by simpa using h
 rw [if_neg h1] at hk
 clear h h1
 refine ⟨ho,rfl,rfl,Rho,fun hh hhh=>?_⟩
 cbv
 rw [←hhh] at hk
 clear hhh
 refine br hD (fun h=>?_) (fun h=>?_)<;>cbv
 ·have h1 : (!hh) = true:=h
  rw [if_pos h1] at hk
  simp only [Prod.mk.injEq] at hk
  obtain ⟨hq1,hq2,hq3⟩:=hk
  subst hq1 hq2 hq3
  exact finPE hD rfl rfl
 have h1 : (!hh) = false:=h
 rw [if_neg (by rw [h1]; simp)] at hk
 clear h h1
 refine ⟨⟨id,me,ta,ho,fs,bo⟩,nl,n,f,by subst hD; rfl,rfl,R,hid0.lo,fun e hc=>?_⟩
 cbv
 rw [←hck] at hc
 have hc : e = ce:=hc
 subst hc
 refine br hD (fun h=>?_) (fun h=>?_)<;>cbv
 ·have h1 : e≠0:=by simpa using h
  rw [if_pos h1] at hk
  simp only [Prod.mk.injEq] at hk
  obtain ⟨hq1,hq2,hq3⟩:=hk
  subst hq1 hq2 hq3
  exact finPE hD rfl rfl
 have h1 : ¬ e≠0:=by simpa using h
 rw [if_neg h1] at hk
 clear h h1
 refine br hD (fun h=>?_) (fun h=>?_)<;>cbv
 ·have h1 : 65536 < bo.length:=by have h : decide ((65536 : Int) < (bo.length : Int)) = true:=h; simp only [decide_eq_true_eq] at h; omega
  rw [if_pos h1] at hk
  simp only [Prod.mk.injEq] at hk
  obtain ⟨hq1,hq2,hq3⟩:=hk
  subst hq1 hq2 hq3
  exact finPE hD rfl rfl
 have h1 : ¬ 65536 < bo.length:=by have h : decide ((65536 : Int) < (bo.length : Int)) = false:=h; simp only [decide_eq_false_iff_not] at h; omega
 rw [if_neg h1] at hk
 clear h h1
 refine ⟨me,rfl,rfl,Rme,fun b hb=>?_⟩
 cbv
 rw [←hb] at hk
 clear hb
 refine br hD (fun h=>?_) (fun h=>?_)<;>cbv
 ·have h1 : (bo != [] && b) = true:=h
  rw [if_pos h1] at hk
  simp only [Prod.mk.injEq] at hk
  obtain ⟨hq1,hq2,hq3⟩:=hk
  subst hq1 hq2 hq3
  exact finPE hD rfl rfl
 ·have h1 : ¬ (bo != [] && b) = true:=by
   have h : (bo != [] && b) = false:=h
   rw [h]; simp
  rw [if_neg h1] at hk
  simp only [Prod.mk.injEq] at hk
  obtain ⟨hq1,hq2,hq3⟩:=hk
  subst hq1 hq2 hq3
  exact finPE hD rfl rfl
end Go.Proofs.YtefelnhpfdcleaaGreatDoor
namespace Go.Proofs.YtefelnhpfdcleaaGreatDoor
open Go Go.Sx
set_option maxRecDepth 100000
set_option maxHeartbeats 8000000
def spLines : FSpec:=fun _ xs ls K=>∃ (l : List HF) (nl : Bool) (n : Int) (f : Nat→List SV),xs = [.sl (.a nl) (.a n) 2 f]∧ls = []∧RowH f n l∧checkF l = 0∧∀ t,t = linesL l→K (.str t) []
def liJ (l : List HF) (k : List UInt8) (nl : Bool) (n : Int) (f : Nat→List SV) (m : Nat) (vs : List (Option SV)) (hp : List Hl) : Prop :=
 ∃ (t : List UInt8) (i : Nat) (I : Int),vs = [some (.sl (.a nl) (.a n) 2 f),some (.str t),some (.int .i64 (.a I))]∧hp = []∧PrJ l k t i I m
theorem lines_ok : FnOk Tryz.prog gl 87 spLines:=by
 refine fnOk (gh:=[]) mixed cxOk tabNil Tryz.func87 (by kernel_rfl) (by kernel_rfl) ?_
 intro xs ls K h
 unfold spLines at h
 obtain ⟨l,nl,n,f,rfl,rfl,R,h1,h⟩:=h
 obtain ⟨k,hk⟩ : ∃ k,k = linesL l:=⟨_,rfl⟩
 have hcf:=checkF_field h1
 have hcl:=checkF_len h1
 refine ⟨_,_,h k hk,fun D hD=>?_⟩
 clear h h1
 cbv
 obtain ⟨J,hJ⟩ : ∃ J,J = liJ l k nl n f:=⟨_,rfl⟩
 refine ⟨[0,3,4],J,⟨rfl,l.length,?_⟩,?_⟩
 ·rw [hJ]
  subst hD
  exact ⟨[],0,0,rfl,rfl,AtR.zero R.len,hk,by simp⟩
 clear hk
 intro m vs hp hj
 rw [hJ] at hj
 obtain ⟨t,i,I,rfl,rfl,V⟩:=hj
 cbv
 refine br hD (fun h=>?_) (fun h=>?_)<;>cbv
 ·have hlt:=V.lie.lt R.n (of_decide_eq_true (p:=I < n) h)
  clear h
  have inA:=V.lie.inB hD R.n hlt
  have e1:=R.f i hlt
  have hsm:=hcf (l.getD i default) (by rw [List.getD_eq_getElem?_getD,List.getElem?_eq_getElem hlt]; exact List.getElem_mem hlt)
  have hk2:=V.k
  have hlen:=V.len
  rw [dropR (d:=default) hlt] at hk2
  obtain ⟨x,hx⟩ : ∃ x,x = l.getD i default:=⟨_,rfl⟩
  rw [←hx] at e1 hk2 hsm
  obtain ⟨a,b⟩:=x
  simp only at hsm
  refine ⟨inA,fun j hj=>?_⟩
  have hj:=V.lie.j hD hj
  cbv
  rw [hj,e1]
  cbv
  refine ⟨⟨by omega⟩,fun s1 hs1=>?_⟩
  cbv
  have hs1 : s1 = t ++ a:=hs1.h
  have l1 : s1.length≤3000 * i + 64:=by rw [hs1,List.length_append]; omega
  refine ⟨⟨by simp only [List.length_cons,List.length_nil]; omega⟩,fun s2 hs2=>?_⟩
  cbv
  have hs2 : s2 = s1 ++ [58,32]:=hs2.h
  have l2 : s2.length≤3000 * i + 66:=by rw [hs2]; simp; omega
  refine ⟨inA,fun j2 hj2=>?_⟩
  have hj2:=V.lie.j hD hj2
  cbv
  rw [hj2,e1]
  cbv
  refine ⟨⟨by omega⟩,fun s3 hs3=>?_⟩
  cbv
  have hs3 : s3 = s2 ++ b:=hs3.h
  have l3 : s3.length≤3000 * i + 2066:=by rw [hs3,List.length_append]; omega
  refine ⟨⟨by simp only [List.length_cons,List.length_nil]; omega⟩,fun s4 hs4=>?_⟩
  cbv
  have hs4 : s4 = s3 ++ [13,10]:=hs4.h
  have l4 : s4.length≤3000 * (i + 1):=by rw [hs4]; simp; omega
  have hline : s4 = t ++ lineH ⟨a,b⟩:=by rw [hs4,hs3,hs2,hs1]; simp [lineH]
  clear hs1 hs2 hs3 hs4
  obtain ⟨g1,g2⟩:=V.lie.step hD hlt
  refine ⟨_,g1,?_⟩
  rw [hJ]
  unfold liJ
  subst hD
  refine ⟨s4,i + 1,_,rfl,rfl,g2,?_,l4⟩
  rw [hk2,hline]; simp [linesL]
 ·have hi:=V.lie.eq R.n (of_decide_eq_false (p:=I < n) h)
  have hk2:=V.k
  have hlen:=V.len
  rw [hi,List.drop_length] at hk2
  clear h
  refine ⟨⟨by simp only [List.length_cons,List.length_nil]; omega⟩,fun r hr=>?_⟩
  cbv
  have hr : r = t ++ [13,10]:=hr.h
  have : r = k:=by rw [hr,hk2]; rfl
  rw [this]
  subst hD
  exact fin_eq rfl rfl
theorem refPrint_ok : FnOk Tryz.prog gl 46 spPrint:=by
 refine fnOk (gh:=[]) mixed cxOk (tabCons refCheck_ok (tabCons lines_ok tabNil)) Tryz.func46 (by kernel_rfl) (by kernel_rfl) ?_
 intro xs ls K h
 unfold spPrint at h
 obtain ⟨l,nl,n,f,rfl,rfl,R,h⟩:=h
 obtain ⟨k,hk⟩ : ∃ k,k = printF l:=⟨_,rfl⟩
 obtain ⟨kt,ke⟩:=k
 refine ⟨_,_,h kt ke hk,fun D hD=>?_⟩
 clear h
 cbv
 unfold printF at hk
 refine ⟨l,_,_,f,rfl,rfl,by subst hD; exact R,fun e he=>?_⟩
 cbv
 rw [←he] at hk
 refine br hD (fun h=>?_) (fun h=>?_)<;>cbv
 ·have h1 : e≠0:=by simpa using h
  rw [if_pos h1] at hk
  simp only [Prod.mk.injEq] at hk
  obtain ⟨hq1,hq2⟩:=hk
  subst hq1 hq2
  subst hD
  exact fin_eq rfl rfl
 have h1 : e = 0:=by simpa using h
 rw [if_neg (by simp [h1])] at hk
 simp only [Prod.mk.injEq] at hk
 obtain ⟨hq1,hq2⟩:=hk
 refine ⟨l,_,_,f,rfl,rfl,by subst hD; exact R,by rw [←he,h1],fun t ht=>?_⟩
 cbv
 have : t = kt:=by rw [ht,hq1]
 rw [this,hq2]
 subst hD
 exact fin_eq rfl rfl
theorem chk_written {r : Rq} (h : (chkFieldsF r).2 = 0) : (writtenF r).2 = 0∧(chkFieldsF r).1 = (writtenF r).1∧checkF (writtenF r).1 = 0∧checkF r.fields = 0∧anyOwn r.fields = false:=by
 unfold chkFieldsF at h ⊢
 split at h
 ·rename_i g; exact absurd h g
 rename_i g1
 split at h
 ·cases h
 rename_i g2
 split at h
 ·rename_i g; exact absurd h g
 rename_i g3
 rw [if_neg g1,if_neg g2,if_neg g3]
 exact ⟨by simpa using g3,rfl,h,by simpa using g1,by simpa using g2⟩
theorem encodeF_ok {r : Rq} (h : (examineF r).2.2 = 0) : encodeF r = (((((r.method ++ [32]) ++ r.target) ++ sVer) ++ linesL (writtenF r).1) ++ r.body,0):=by
 have E:=examineF_ok h
 obtain ⟨_,h2,h3,_,_⟩:=chk_written E.chk
 unfold encodeF
 have hp : printF (writtenF r).1 = (linesL (writtenF r).1,0):=by unfold printF; rw [if_neg (by simp [h3])]
 rw [if_neg (by simp [h]),E.fields,h2,hp,if_neg (by simp)]
theorem encodeF_no {r : Rq} (h : (examineF r).2.2≠0) : encodeF r = ([],(examineF r).2.2):=by
 unfold encodeF
 rw [if_pos h]
theorem refEncode_ok : FnOk Tryz.prog gl 19 spEnc:=by
 refine fnOk (gh:=[]) mixed cxOk (tabCons refChk_ok (tabCons refWritten_ok (tabCons refPrint_ok tabNil))) Tryz.func19 (by kernel_rfl) (by kernel_rfl) ?_
 intro xs ls K h
 unfold spEnc at h
 obtain ⟨r,nl,n,f,rfl,rfl,R,h⟩:=h
 obtain ⟨k,hk⟩ : ∃ k,k = encodeF r:=⟨_,rfl⟩
 obtain ⟨kt,ke⟩:=k
 refine ⟨_,_,h kt ke hk,fun D hD=>?_⟩
 clear h
 have hE:=examineF_ok (r:=r)
 have hM : (examineF r).2.2 = 0→r.method.length≤16:=fun h=>(hE h).method_len
 have hT : (examineF r).2.2 = 0→r.target.length≤500:=fun h=>orgF_len (hE h).org
 have hB : (examineF r).2.2 = 0→r.body.length≤65536:=fun h=>(hE h).body
 have hI : (examineF r).2.2 = 0→0≤r.id:=fun h=>by have:=(hE h).id1; omega
 have hW : (examineF r).2.2 = 0→(writtenF r).2 = 0∧checkF (writtenF r).1 = 0:=fun h=>by
  have:=chk_written (hE h).chk
  exact ⟨this.1,this.2.2.1⟩
 have hy : (examineF r).2.2 = 0→(kt,ke) = (((((r.method ++ [32]) ++ r.target) ++ sVer) ++ linesL (writtenF r).1) ++ r.body,0):=fun h=>by rw [hk]; exact encodeF_ok h
 have hn : (examineF r).2.2≠0→(kt,ke) = ([],(examineF r).2.2):=fun h=>by rw [hk]; exact encodeF_no h
 clear hE hk
 obtain ⟨ck,hck⟩ : ∃ w,w = checkRF r:=⟨_,rfl⟩
 have hcke : (examineF r).2.2 = ck.2:=by rw [hck]; rfl
 rw [hcke] at hM hT hB hI hW hy hn
 clear hcke
 obtain ⟨cp,ce⟩:=ck
 obtain ⟨wl,hwl⟩ : ∃ w,w = writtenF r:=⟨_,rfl⟩
 rw [←hwl] at hW hy
 obtain ⟨wl,we⟩:=wl
 obtain ⟨id,me,ta,ho,fs,bo⟩:=r
 simp only at hM hT hB hI hW hy hn
 cbv
 refine ⟨⟨id,me,ta,ho,fs,bo⟩,nl,n,f,by subst hD; rfl,rfl,R,fun p e hc=>?_⟩
 cbv
 rw [←hck] at hc
 simp only [Prod.mk.injEq] at hc
 obtain ⟨hq1,hq2⟩:=hc
 subst hq1 hq2
 clear hck
 refine br hD (fun h=>?_) (fun h=>?_)<;>cbv
 ·have h1 : e≠0:=by simpa using h
  have hk:=hn h1
  simp only [Prod.mk.injEq] at hk
  obtain ⟨hq1,hq2⟩:=hk
  subst hq1 hq2
  subst hD
  exact fin_eq rfl rfl
 have h1 : e = 0:=by simpa using h
 have hM:=hM h1
 have hT:=hT h1
 have hB:=hB h1
 have hI:=hI h1
 have hW:=hW h1
 have hk:=hy h1
 clear h hy hn
 refine ⟨⟨id,me,ta,ho,fs,bo⟩,nl,n,f,by subst hD; rfl,rfl,R,hI,fun l e2 nb2 n3 g3 hc R3 hnb2=>?_⟩
 cbv
 rw [←hwl] at hc
 simp only [Prod.mk.injEq] at hc
 obtain ⟨hq1,hq2⟩:=hc
 subst hq1 hq2
 clear hwl
 refine ⟨l,_,_,g3,rfl,rfl,by subst hD; exact R3,fun t e3 ht=>?_⟩
 cbv
 have hPl:=printF_len (l:=l)
 rw [←ht] at hPl
 have ht2 : (t,e3) = (linesL l,0):=by rw [ht]; unfold printF; rw [if_neg (by simp [hW.2])]
 simp only [Prod.mk.injEq] at ht2
 obtain ⟨ht2,ht3⟩:=ht2
 rw [←ht2] at hk
 simp only at hPl
 simp only [Prod.mk.injEq] at hk
 obtain ⟨hq1,hq2⟩:=hk
 clear ht ht2
 refine ⟨⟨by simp only [List.length_cons,List.length_nil]; omega⟩,fun s1 hs1=>?_⟩
 cbv
 have hs1 : s1 = me ++ [32]:=hs1.h
 have l1 : s1.length≤17:=by rw [hs1]; simp; omega
 refine ⟨⟨by omega⟩,fun s2 hs2=>?_⟩
 cbv
 have hs2 : s2 = s1 ++ ta:=hs2.h
 have l2 : s2.length≤517:=by rw [hs2]; simp; omega
 refine ⟨⟨by simp only [List.length_cons,List.length_nil]; omega⟩,fun s3 hs3=>?_⟩
 cbv
 have hs3 : s3 = s2 ++ sVer:=hs3.h
 have l3 : s3.length≤528:=by rw [hs3,List.length_append]; have : sVer.length = 11:=rfl; omega
 refine ⟨⟨by omega⟩,fun s4 hs4=>?_⟩
 cbv
 have hs4 : s4 = s3 ++ t:=hs4.h
 have l4 : s4.length≤400528:=by rw [hs4,List.length_append]; omega
 refine ⟨⟨by omega⟩,fun s5 hs5=>?_⟩
 cbv
 have hs5 : s5 = s4 ++ bo:=hs5.h
 have : s5 = kt:=by rw [hs5,hs4,hs3,hs2,hs1,hq1]
 rw [this,hq2,ht3]
 subst hD
 exact fin_eq rfl rfl
end Go.Proofs.YtefelnhpfdcleaaGreatDoor
namespace Go.Proofs.YtefelnhpfdcleaaGreatDoor
open Go Go.Sx
set_option maxRecDepth 100000
set_option maxHeartbeats 8000000
def valF (l : List HF) (t : List UInt8) : List (List UInt8):=(l.filter fun x=>foldF x.name == t).map HF.value
theorem valF_cons (x : HF) (l : List HF) (t : List UInt8) : valF (x :: l) t = if foldF x.name == t then x.value :: valF l t else valF l t:=by
 unfold valF
 rw [List.filter_cons]
 split<;>simp
def spVals : FSpec:=fun _ xs ls K=>∃ (l : List HF) (t : List UInt8) (nl : Bool) (n : Int) (f : Nat→List SV),xs = [.sl (.a nl) (.a n) 2 f,.str t]∧ls = []∧RowH f n l∧l.length≤100∧t.length≤1000∧∀ r g n' b,r = valF l t→GrS g n' b r→K (.sl (.a b) (.a n') 1 g) []
structure VaJ (l : List HF) (t : List UInt8) (k out : List (List UInt8)) (i : Nat) (I n : Int) (b : Bool) (f : Nat→List SV) (m : Nat) : Prop where
 lie : AtR l i I m
 row : GrS f n b out
 ol : out.length≤i
 k : k = out ++ valF (l.drop i) t
def vaJ (l : List HF) (t : List UInt8) (k : List (List UInt8)) (nl : Bool) (N : Int) (F : Nat→List SV) (m : Nat) (vs : List (Option SV)) (hp : List Hl) : Prop :=
 ∃ (out : List (List UInt8)) (i : Nat) (I n : Int) (b : Bool) (f : Nat→List SV),vs = [some (.sl (.a nl) (.a N) 2 F),some (.str t),some (.gsl (.a b) (.a n) 1 f 0),some (.int .i64 (.a I))]∧hp = [.tail 9 (.a n) 1]∧VaJ l t k out i I n b f m
theorem valF_len (l : List HF) (t : List UInt8) : (valF l t).length≤l.length:=by
 unfold valF
 rw [List.length_map]
 exact List.length_filter_le ..
theorem values_ok : FnOk Tryz.prog gl 50 spVals:=by
 refine fnOk (gh:=[(1,[.attach 5 9])]) mixed cxOk (tabCons refFold_ok tabNil) Tryz.func50 (by kernel_rfl) (by kernel_rfl) ?_
 intro xs ls K h
 unfold spVals at h
 obtain ⟨l,t,nl,N,F,rfl,rfl,R,hl,ht,h⟩:=h
 obtain ⟨k,hk⟩ : ∃ k,k = valF l t:=⟨_,rfl⟩
 have hkl:=valF_len l t
 rw [←hk] at hkl
 obtain ⟨f1,n1,b1,hG⟩ : ∃ f1 n1 b1,GrS f1 n1 b1 k:=⟨_,_,_,⟨RowS.row (by omega),rfl⟩⟩
 clear hkl
 refine ⟨_,_,h k f1 n1 b1 hk hG,fun D hD=>?_⟩
 cbv
 clear h
 obtain ⟨J,hJ⟩ : ∃ J,J = vaJ l t k nl N F:=⟨_,rfl⟩
 refine ⟨[0,1,5,6],J,⟨rfl,l.length,?_⟩,?_⟩
 ·rw [hJ]
  subst hD
  exact ⟨[],0,_,_,_,_,rfl,rfl,⟨AtR.zero R.len,GrS.nil,Nat.le_refl _,hk⟩⟩
 clear hk
 intro m vs hp hj
 rw [hJ] at hj
 obtain ⟨out,i,I,n,b,f,rfl,rfl,V⟩:=hj
 cbv
 refine br hD (fun h=>?_) (fun h=>?_)<;>cbv
 ·have hlt:=V.lie.lt R.n (of_decide_eq_true (p:=I < N) h)
  clear h
  have inA:=V.lie.inB hD R.n hlt
  have hx:=R.f i hlt
  have hsm:=R.small i hlt
  have hst:=V.lie.step hD hlt
  have hk:=V.k
  rw [dropH hlt,valF_cons] at hk
  obtain ⟨x,hxx⟩ : ∃ x,x = l.getD i default:=⟨_,rfl⟩
  rw [←hxx] at hx hk hsm
  clear hxx
  obtain ⟨xn,xv⟩:=x
  refine ⟨inA,fun j hj=>?_⟩
  have hj:=V.lie.j hD hj
  cbv
  rw [hj,hx]
  cbv
  refine ⟨xn,rfl,rfl,hsm.1,fun r hr=>?_⟩
  cbv
  simp only at hk
  rw [←hr] at hk
  clear hr hj
  refine br hD (fun h=>?_) (fun h=>?_)<;>cbv
  ·have h : (r == t) = true:=h
   rw [if_pos h] at hk
   clear h
   refine ⟨inA,fun j hj=>?_⟩
   have hj:=V.lie.j hD hj
   cbv
   rw [hj,hx]
   cbv
   clear hj
   intro g hg
   cbv
   have hg0 : g 0 = [.str xv]:=hg.h 0 _ rfl
   clear hg
   refine ⟨by subst hD; exact ⟨rfl,by have:=V.row.row.n; have:=V.ol; show (n + 1) * 16≤_; omega,by have:=V.row.row.n; have:=V.ol; show n + 1≤_; omega⟩,fun f' n' hm=>?_⟩
   cbv
   have G2 : ∀ nl',nl' = false→GrS f' n' nl' (out ++ [xv]):=fun nl' hb=>⟨V.row.row.more hg0 (by subst hD; exact hm) (by have:=V.ol; omega),by rw [hb]; simp⟩
   clear hm
   refine ⟨_,hst.1,?_⟩
   rw [hJ]
   unfold vaJ
   subst hD
   refine ⟨out ++ [xv],i + 1,_,n',(b && false),f',rfl,rfl,⟨hst.2,G2 _ (Bool.and_false _),by have:=V.ol; simp; omega,by rw [hk]; simp⟩⟩
  ·have h : (r == t) = false:=h
   rw [if_neg (by rw [h]; simp)] at hk
   refine ⟨_,hst.1,?_⟩
   rw [hJ]
   unfold vaJ
   subst hD
   exact ⟨out,i + 1,_,n,b,f,rfl,rfl,⟨hst.2,V.row,by have:=V.ol; omega,hk⟩⟩
 have hi:=V.lie.eq R.n (of_decide_eq_false (p:=I < N) h)
 have hdn : l.drop i = []:=List.drop_eq_nil_of_le (by omega)
 have hk:=V.k
 rw [hdn] at hk
 have hk : k = out:=by rw [hk]; simp [valF]
 subst hk
 subst hD
 exact finV (leGrS V.row hG rfl rfl)
end Go.Proofs.YtefelnhpfdcleaaGreatDoor
namespace Go.Proofs.YtefelnhpfdcleaaGreatDoor
open Go Go.Sx
set_option maxRecDepth 100000
set_option maxHeartbeats 8000000
theorem valF_find (t : List UInt8) : ∀ l : List HF,findV t l = (valF l t)[0]?
 | []=>rfl
 | x :: l=>by
  rw [valF_cons]
  unfold findV
  by_cases h : foldF x.name = t
  ·rw [if_pos h,if_pos (by simpa using h)]; rfl
  ·rw [if_neg h,if_neg (by simpa using h)]; exact valF_find t l
theorem keyPath {r : Rq} (h : (checkRF r).2 = 0) : (cleanF r.target).2 = 0∧(splitF (cleanF r.target).1).1 = (cutF 63 (cleanF r.target).1).1:=by
 have E:=examineF_ok (r:=r) h
 have hs : (splitF r.target).2.2.2 = 0:=by rw [splitF_ref E.org]
 have hc : (cleanF r.target).2 = 0:=by unfold cleanF; rw [if_neg (by simp [hs])]
 refine ⟨hc,?_⟩
 obtain ⟨t,ht⟩ : ∃ t,t = cleanF r.target:=⟨_,rfl⟩
 obtain ⟨t,e⟩:=t
 rw [←ht] at hc ⊢
 simp only at hc
 subst hc
 obtain ⟨L,Q,hb,C⟩:=clean_of ht
 have ho : (orgF t).2 = 0:=splitF_err (by rw [C.sp])
 simp only
 rw [splitF_ref ho]
theorem keyBadR (kind : Int) (name : List UInt8) (tk : Bool) : (((decide (kind < 1) || decide (3 < kind)) || ((kind == 3) && !tk)) || ((kind != 3) && name != [])) = ((!(kind == 3) && kind != 1 && kind != 2 || (kind == 3) && !tk) || !(kind == 3) && name != []):=by
 have h1 : (decide (kind < 1) || decide (3 < kind)) = (!(kind == 3) && kind != 1 && kind != 2):=by
  rw [Bool.eq_iff_iff]
  simp only [Bool.or_eq_true,decide_eq_true_eq,Bool.and_eq_true,Bool.not_eq_true',beq_eq_false_iff_ne,bne_iff_ne]
  omega
 rw [h1]; rfl
theorem refKey_ok : FnOk Tryz.prog gl 21 spKey:=by
 refine fnOk (gh:=[]) mixed cxOk (tabCons refToken_ok (tabCons refChk_ok (tabCons refClean_ok (tabCons refSplit_ok (tabCons refFold_ok (tabCons values_ok tabNil)))))) Tryz.func21 (by kernel_rfl) (by kernel_rfl) ?_
 intro xs ls K h
 unfold spKey at h
 obtain ⟨r,kind,name,nl,n,f,rfl,rfl,R,hnm,h⟩:=h
 have hcp:=keyPath (r:=r)
 obtain ⟨id,me,ta,ho,fs,bo⟩:=r
 have Rta:=R.target
 have Rrow:=R.row
 simp only at Rta Rrow hcp
 obtain ⟨k,hk0⟩ : ∃ k,k = keyF ⟨id,me,ta,ho,fs,bo⟩ kind name:=⟨_,rfl⟩
 obtain ⟨kt,ke⟩:=k
 have hk:=hk0
 unfold keyF keyBad at hk
 simp only at hk
 rw [valF_find] at hk
 have hfs : (checkRF ⟨id,me,ta,ho,fs,bo⟩).2 = 0→fs.length≤100:=fun h=>checkF_len (chk_written (examineF_ok (r:=⟨id,me,ta,ho,fs,bo⟩) h).chk).2.2.2.1
 have hnl : name.length≤1000∨¬ name.length≤1000:=Decidable.em _
 obtain ⟨ck,hck⟩ : ∃ w,w = checkRF ⟨id,me,ta,ho,fs,bo⟩:=⟨_,rfl⟩
 rw [←hck] at hk hcp hfs
 obtain ⟨cp,ce⟩:=ck
 simp only at hk hcp hfs
 refine ⟨_,_,h kt ke hk0,fun D hD=>?_⟩
 cbv
 clear h hk0
 refine ⟨name,rfl,rfl,hnm,fun tk htk=>?_⟩
 cbv
 rw [←token_eq] at htk
 have htn : tk = true→name.length≤64:=fun e=>by
  rw [e] at htk
  have:=htk.symm
  unfold tokenF at this
  simp only [Bool.and_eq_true,decide_eq_true_eq] at this
  exact this.2.2
 rw [←htk,←keyBadR] at hk
 clear htk
 refine br hD (fun h=>?_) (fun h=>?_)<;>cbv
 ·have h1 : (((decide (kind < 1) || decide (3 < kind)) || ((kind == 3) && !tk)) || ((kind != 3) && name != [])) = true:=h
  rw [if_pos h1] at hk
  simp only [Prod.mk.injEq] at hk
  obtain ⟨hq1,hq2⟩:=hk
  subst hq1 hq2
  subst hD
  exact fin_eq rfl rfl
 have h1 : (((decide (kind < 1) || decide (3 < kind)) || ((kind == 3) && !tk)) || ((kind != 3) && name != [])) = false:=h
 rw [if_neg (by rw [h1]; simp)] at hk
 clear h
 refine ⟨⟨id,me,ta,ho,fs,bo⟩,nl,n,f,by subst hD; rfl,rfl,R,fun p e hc=>?_⟩
 cbv
 rw [←hck] at hc
 simp only [Prod.mk.injEq] at hc
 obtain ⟨hq1,hq2⟩:=hc
 subst hq1 hq2
 clear hck
 refine br hD (fun h=>?_) (fun h=>?_)<;>cbv
 ·have h1 : e≠0:=by simpa using h
  rw [if_pos h1] at hk
  simp only [Prod.mk.injEq] at hk
  obtain ⟨hq1,hq2⟩:=hk
  subst hq1 hq2
  subst hD
  exact fin_eq rfl rfl
 have h2 : ¬ e≠0:=by simpa using h
 rw [if_neg h2] at hk
 have hcp:=hcp (by simpa using h2)
 have hfs:=hfs (by simpa using h2)
 clear h h2
 refine br hD (fun h=>?_) (fun h=>?_)<;>cbv
 ·have h1 : kind = 2:=by simpa using h
  rw [if_pos h1] at hk
  simp only [Prod.mk.injEq] at hk
  obtain ⟨hq1,hq2⟩:=hk
  subst hq1 hq2
  subst hD
  exact fin_eq rfl rfl
 have h3 : ¬ kind = 2:=by simpa using h
 rw [if_neg h3] at hk
 clear h
 refine br hD (fun h=>?_) (fun h=>?_)<;>cbv
 ·have h1 : kind = 1:=by simpa using h
  rw [if_pos h1] at hk
  have hcl:=cleanF_len ta
  clear h h1
  refine ⟨ta,rfl,rfl,Rta,fun t e2 ht=>?_⟩
  cbv
  rw [←ht] at hk hcl hcp
  simp only at hk hcl hcp
  clear ht
  refine ⟨t,rfl,rfl,by omega,fun a b c d hab=>?_⟩
  cbv
  rw [←hab] at hcp
  simp only at hcp
  simp only [Prod.mk.injEq] at hk
  obtain ⟨hq1,hq2⟩:=hk
  rw [hcp.1] at hq2
  rw [←hcp.2] at hq1
  subst hq1 hq2
  subst hD
  exact fin_eq rfl rfl
 have h4 : ¬ kind = 1:=by simpa using h
 rw [if_neg h4] at hk
 clear h
 have h5 : kind = 3∧tk = true:=by
  simp only [Bool.or_eq_false_iff,decide_eq_false_iff_not] at h1
  have hk3 : kind = 3:=by omega
  refine ⟨hk3,?_⟩
  have:=h1.1.2
  rw [hk3] at this
  simpa using this
 have htn:=htn h5.2
 clear h1 h3 h4 h5
 refine ⟨name,rfl,rfl,hnm,fun t ht=>?_⟩
 cbv
 have ht2 : t.length≤1000:=by rw [ht]; unfold foldF; rw [List.length_map]; omega
 rw [←ht] at hk
 clear ht
 refine ⟨fs,t,_,_,f,by subst hD; rfl,rfl,Rrow,hfs,ht2,fun r g n' b hr G=>?_⟩
 cbv
 rw [←hr] at hk
 clear hr
 have VN : VI n' r.length:=⟨G.row.n⟩
 refine br hD (fun h=>?_) (fun h=>?_)<;>cbv
 ·have h1 : n' = 0:=by simpa using h
  have : r = []:=List.eq_nil_of_length_eq_zero (by have:=VN.h; omega)
  rw [this] at hk
  simp only [List.getElem?_nil,Prod.mk.injEq] at hk
  obtain ⟨hq1,hq2⟩:=hk
  subst hq1 hq2
  subst hD
  exact fin_eq rfl rfl
 have h1 : ¬ n' = 0:=by simpa using h
 have hlt : 0 < r.length:=by have:=VN.h; omega
 rw [List.getElem?_eq_getElem hlt] at hk
 simp only [Prod.mk.injEq] at hk
 obtain ⟨hq1,hq2⟩:=hk
 have q1:=G.row.f 0 hlt
 rw [List.getD_eq_getElem?_getD,List.getElem?_eq_getElem hlt] at q1
 simp only [Option.getD_some] at q1
 rw [←hq1] at q1
 clear h
 refine ⟨by subst hD; exact ⟨Int.le_refl _,by show (0 : Int) < n'; rw [VN.h]; omega⟩,fun j hj=>?_⟩
 obtain rfl : j = 0:=by subst hD; exact Int.ofNat.inj hj.h
 clear hj
 cbv
 rw [q1]
 cbv
 rw [hq2]
 subst hD
 exact fin_eq rfl rfl
end Go.Proofs.YtefelnhpfdcleaaGreatDoor
namespace Go.Proofs.YtefelnhpfdcleaaGreatDoor
open Go Go.Sx
set_option maxRecDepth 100000
set_option maxHeartbeats 16000000
end Go.Proofs.YtefelnhpfdcleaaGreatDoor
namespace Go.Proofs.YtefelnhpfdcleaaGreatDoor
open Go Go.Sx
set_option maxRecDepth 100000
set_option maxHeartbeats 4000000
def ovB (a b : List UInt8) : Bool:=decide (2100 < (a.length : Int)) || decide (2100 < (b.length : Int))
theorem ovB_no {a b : List UInt8} (h : ovB a b = false) : a.length≤2100∧b.length≤2100:=by
 unfold ovB at h
 simp only [Bool.or_eq_false_iff,decide_eq_false_iff_not] at h
 omega
def farL : List HF→Int→Bool
 | [],n=>decide (20000 < n)
 | x :: l,n=>if ovB x.name x.value then true else farL l (n + x.name.length + x.value.length)
def farH (r : Rq) : Bool:=((((decide (110 < (r.fields.length : Int)) || decide (1200 < (r.method.length : Int))) || decide (1200 < (r.target.length : Int))) || decide (1200 < (r.host.length : Int))) || (decide (3000 < (r.body.length : Int)) && decide ((r.body.length : Int)≤65536))) || decide (65600 < (r.body.length : Int))
def farF (r : Rq) : Bool:=if farH r then true else farL r.fields 0
def spFar : FSpec:=fun _ xs ls K=>∃ (r : Rq) (nl : Bool) (n : Int) (f : Nat→List SV),xs = [.agg [.int .i64 (.a r.id),.str r.method,.str r.target,.str r.host,.sl (.a nl) (.a n) 2 f,.str r.body]]∧ls = []∧RqOk r nl n f∧(∀ j,f j = hfCells (r.fields.getD j default))∧∀ b,b = farF r→K (.bool (.a b)) []
structure FaJ (l : List HF) (k : Bool) (i : Nat) (I N : Int) (m : Nat) : Prop where
 lie : AtR l i I m
 lo : 0≤N
 hi : N≤4200 * i
 len : l.length≤110
 k : k = farL (l.drop i) N
def faJ (r : Rq) (k : Bool) (nl : Bool) (n : Int) (f : Nat→List SV) (m : Nat) (vs : List (Option SV)) (hp : List Hl) : Prop :=
 ∃ (i : Nat) (I N : Int),vs = [some (.ptr 0 0),some (.int .i64 (.a N)),some (.int .i64 (.a I))]∧hp = [.blk 31 [.int .i64 (.a r.id),.str r.method,.str r.target,.str r.host,.sl (.a nl) (.a n) 2 f,.str r.body]]∧FaJ r.fields k i I N m
structure LenLe (a : List UInt8) (n : Nat) : Prop where
 h : a.length≤n
theorem far_ok : FnOk Tryz.prog gl 17 spFar:=by
 refine fnOk (gh:=[]) mixed cxOk tabNil Tryz.func17 (by kernel_rfl) (by kernel_rfl) ?_
 intro xs ls K h
 unfold spFar at h
 obtain ⟨r,nl,n,f,rfl,rfl,R,hT,h⟩:=h
 obtain ⟨k,hk⟩ : ∃ k,k = farF r:=⟨_,rfl⟩
 obtain ⟨fh,hfh⟩ : ∃ k,k = farH r:=⟨_,rfl⟩
 obtain ⟨fl,hfl⟩ : ∃ k,k = farL r.fields 0:=⟨_,rfl⟩
 refine ⟨_,_,h k hk,fun D hD=>?_⟩
 clear h
 unfold farF at hk
 rw [←hfh,←hfl] at hk
 obtain ⟨id,me,ta,ho,fs,bo⟩:=r
 have VR:=R.row
 simp only at VR hT hfl
 cbv
 have hfn : fh = (((((decide (110 < n) || decide (1200 < (me.length : Int))) || decide (1200 < (ta.length : Int))) || decide (1200 < (ho.length : Int))) || (decide (3000 < (bo.length : Int)) && decide ((bo.length : Int)≤65536))) || decide (65600 < (bo.length : Int))):=by
  rw [hfh,VR.n]; rfl
 clear hfh
 refine br hD (fun h=>?_) (fun h=>?_)<;>cbv
 ·have h : fh = true:=by rw [hfn]; exact h
  rw [if_pos h] at hk
  exact finBool hD hk.symm
 have h : fh = false:=by rw [hfn]; exact h
 have hlen : n≤110:=by
  rw [hfn] at h
  simp only [Bool.or_eq_false_iff,decide_eq_false_iff_not] at h
  have:=h.1.1.1.1.1
  omega
 rw [if_neg (by rw [h]; simp)] at hk
 clear h hfn
 obtain ⟨J,hJ⟩ : ∃ J,J = faJ ⟨id,me,ta,ho,fs,bo⟩ fl nl n f:=⟨_,rfl⟩
 refine ⟨[1,3,4],J,⟨rfl,fs.length,?_⟩,?_⟩
 ·rw [hJ]
  subst hD
  exact ⟨0,0,0,rfl,rfl,⟨AtR.zero VR.len,Int.le_refl _,by omega,by have:=VR.n; show fs.length≤110; omega,hfl⟩⟩
 clear hfl
 intro m vs hp hj
 rw [hJ] at hj
 obtain ⟨i,I,N,rfl,rfl,V⟩:=hj
 cbv
 refine br hD (fun h=>?_) (fun h=>?_)<;>cbv
 ·have hlt:=V.lie.lt VR.n (of_decide_eq_true (p:=I < n) h)
  clear h
  have inA:=V.lie.inB hD VR.n hlt
  have hx:=VR.f i hlt
  have hst:=V.lie.step hD hlt
  have hko:=V.k
  simp only at hlt hx hko
  rw [dropH hlt,farL] at hko
  obtain ⟨x,hxx⟩ : ∃ x,x = fs.getD i default:=⟨_,rfl⟩
  rw [←hxx] at hx hko
  obtain ⟨xn,xv⟩:=x
  simp only at hko
  refine ⟨inA,fun j hj=>?_⟩
  have hj:=V.lie.j hD hj
  cbv
  rw [hj,hx]
  cbv
  clear hj
  refine ⟨fun _=>inA,fun j2 hj2=>?_⟩
  have hj2 : (!decide (2100 < (xn.length : Int))) = true→j2 = i:=fun hg=>V.lie.j hD (hj2 (by subst hD; exact hg))
  cbv
  rw [hT j2]
  obtain ⟨x2,hx2⟩ : ∃ x2,x2 = fs.getD j2 default:=⟨_,rfl⟩
  rw [←hx2]
  obtain ⟨yn,yv⟩:=x2
  cbv
  have hcond : ovB xn yv = ovB xn xv:=by
   unfold ovB
   cases hb : decide (2100 < (xn.length : Int)) with
   | true=>rfl
   | false =>
    have:=hj2 (by rw [hb]; rfl)
    rw [this,←hxx] at hx2
    have:=congrArg HF.value hx2
    simp only at this
    rw [this]
  clear hj2 hx2 hxx
  refine br hD (fun h=>?_) (fun h=>?_)<;>cbv
  ·have h : ovB xn yv = true:=h
   rw [hcond] at h
   rw [if_pos h] at hko
   refine finBool hD ?_
   rw [hk,hko]; rfl
  have h : ovB xn yv = false:=h
  rw [hcond] at h
  rw [if_neg (by rw [h]; simp)] at hko
  have L1 : LenLe xn 2100:=⟨(ovB_no h).1⟩
  have L2 : LenLe xv 2100:=⟨(ovB_no h).2⟩
  clear h hcond
  refine ⟨inA,fun j hj=>?_⟩
  have hj:=V.lie.j hD hj
  cbv
  rw [hj,hx]
  cbv
  clear hj
  refine ⟨inA,fun j hj=>?_⟩
  have hj:=V.lie.j hD hj
  cbv
  rw [hj,hx]
  cbv
  clear hj
  have hw : IntKind.i64.wrap (IntKind.i64.wrap (N + (xn.length : Int)) + (xv.length : Int)) = N + (xn.length : Int) + (xv.length : Int):=by
   have:=V.lo; have:=V.hi; have:=V.lie.le; have:=V.len; have:=L1.h; have:=L2.h
   simp only at *
   rw [wrap64 (n:=N + (xn.length : Int)) (by omega) (by omega),wrap64 (by omega) (by omega)]
  refine ⟨_,hst.1,?_⟩
  rw [hJ]
  unfold faJ
  subst hD
  refine ⟨i + 1,_,_,rfl,rfl,⟨hst.2,?_,?_,V.len,?_⟩⟩
  ·show 0≤IntKind.i64.wrap (IntKind.i64.wrap (N + (xn.length : Int)) + (xv.length : Int))
   rw [hw]; have:=V.lo; omega
  ·show IntKind.i64.wrap (IntKind.i64.wrap (N + (xn.length : Int)) + (xv.length : Int))≤_
   rw [hw]; have:=V.hi; have:=L1.h; have:=L2.h; omega
  ·rw [hko]
   show _ = farL _ (IntKind.i64.wrap (IntKind.i64.wrap (N + (xn.length : Int)) + (xv.length : Int)))
   rw [hw]
 have hi:=V.lie.eq VR.n (of_decide_eq_false (p:=I < n) h)
 have hko:=V.k
 simp only at hi hko
 have hdn : fs.drop i = []:=List.drop_eq_nil_of_le (by omega)
 rw [hdn,farL] at hko
 refine finBool hD ?_
 rw [hk,hko]
 rfl
end Go.Proofs.YtefelnhpfdcleaaGreatDoor
namespace Go.Proofs.YtefelnhpfdcleaaGreatDoor
open Go Go.Sx
set_option maxRecDepth 100000
set_option maxHeartbeats 16000000
theorem callsTo_leL {P : Go.Program} {gl : List (Nat×SV)} {f : Go.FuncId} {as1 as2 : List SV} {ls : List Hl} {r : SV} {ls' : List Hl} (h : LeL as1 as2) (c : CallsTo P gl f as2 ls r ls') : CallsTo P gl f as1 ls r ls' :=
 fun B E w vals hw hI hdom hb hg hh hr=>c B E w vals hw hI hdom hb hg hh (h E w vals hr)
def rowT (l : List HF) (i : Nat) : List SV:=hfCells (l.getD i default)
theorem RqOk.total {r : Rq} {nl : Bool} {n : Int} {f : Nat→List SV} (R : RqOk r nl n f) : RqOk r nl n (rowT r.fields):=⟨R.id1,R.id2,R.method,R.target,R.host,R.body,⟨R.row.n,fun _ _=>rfl,R.row.len,R.row.small⟩,R.nil⟩
theorem rqLe {r : Rq} {nl : Bool} {n : Int} {f : Nat→List SV} (R : RqOk r nl n f) : LeV (.agg [.int .i64 (.a r.id),.str r.method,.str r.target,.str r.host,.sl (.a nl) (.a n) 2 f,.str r.body]) (.agg [.int .i64 (.a r.id),.str r.method,.str r.target,.str r.host,.sl (.a nl) (.a n) 2 (rowT r.fields),.str r.body]):=by
 refine .agg (.cons (LeV.refl _) (.cons (LeV.refl _) (.cons (LeV.refl _) (.cons (LeV.refl _) (.cons (.sl rfl rfl fun i hi=>?_) (.cons (LeV.refl _) .nil))))))
 have hi : (i : Int) < n:=hi
 rw [R.row.f i (by have:=R.row.n; omega)]
 rfl
end Go.Proofs.YtefelnhpfdcleaaGreatDoor
namespace Go.Proofs.YtefelnhpfdcleaaGreatDoor
open Go Go.Sx
set_option maxRecDepth 100000
set_option maxHeartbeats 16000000
def spEncs : FSpec:=fun _ xs ls K=>∃ (r : Rq) (nl : Bool) (n : Int) (f : Nat→List SV) (kind : Int) (s : List UInt8),xs = [.agg [.int .i64 (.a r.id),.str r.method,.str r.target,.str r.host,.sl (.a nl) (.a n) 2 f,.str r.body],.int .i64 (.a kind),.str s]∧ls = []∧RqOk r nl n f∧(∀ j,f j = hfCells (r.fields.getD j default))∧s.length≤9223372036854775807∧K (.bool (.a true)) []
theorem encodes_ok : FnOk Tryz.prog gl 4 spEncs:=by
 refine fnOk (gh:=[]) mixed cxOk (tabCons far_ok (tabCons shown_ok (tabCons encode_ok (tabCons refEncode_ok (tabCons key_ok (tabCons refKey_ok tabNil)))))) Tryz.func4 (by kernel_rfl) (by kernel_rfl) ?_
 intro xs ls K h
 unfold spEncs at h
 obtain ⟨r,nl,n,f,kind,s,rfl,rfl,R,hT,hs,h⟩:=h
 refine ⟨_,_,h,fun D hD=>?_⟩
 clear h
 obtain ⟨id,me,ta,ho,fs,bo⟩:=r
 cbv
 refine ⟨⟨id,me,ta,ho,fs,bo⟩,nl,n,f,by subst hD; rfl,rfl,R,hT,fun b _=>?_⟩
 cbv
 refine br hD (fun h=>?_) (fun h=>?_)<;>cbv
 ·exact finBool hD rfl
 refine ⟨⟨id,me,ta,ho,fs,bo⟩,nl,n,f,by subst hD; rfl,rfl,R,fun p e h1=>?_⟩
 cbv
 refine ⟨⟨id,me,ta,ho,fs,bo⟩,nl,n,f,by subst hD; rfl,rfl,R,fun p2 e2 h2=>?_⟩
 cbv
 rw [←h1] at h2
 refine ⟨⟨id,me,ta,ho,fs,bo⟩,kind,s,nl,n,f,by subst hD; rfl,rfl,R,hs,fun a1 a2 h3=>?_⟩
 cbv
 refine ⟨⟨id,me,ta,ho,fs,bo⟩,kind,s,nl,n,f,by subst hD; rfl,rfl,R,hs,fun b1 b2 h4=>?_⟩
 cbv
 rw [←h3] at h4
 simp only [Prod.mk.injEq] at h2 h4
 obtain ⟨c1,c2⟩:=h2
 obtain ⟨d1,d2⟩:=h4
 subst c1 c2 d1 d2
 refine finBool hD ?_
 show (((((p2 == p2) && (e2 == e2)) && (b1 == b1)) && (b2 == b2)) && true) = true
 simp
def spEncsD : FSpec:=fun _ xs ls K=>∃ (r : Rq) (nl : Bool) (n : Int) (f : Nat→List SV) (kind : Int) (s : List UInt8),xs = [.agg [.int .i64 (.a r.id),.str r.method,.str r.target,.str r.host,.sl (.a nl) (.a n) 2 f,.str r.body],.int .i64 (.a kind),.str s]∧ls = []∧RqOk r nl n f∧s.length≤9223372036854775807∧K (.bool (.a true)) []
theorem encodes_okD : FnOk Tryz.prog gl 4 spEncsD:=by
 refine ⟨encodes_ok.1,fun xs ls K h=>?_⟩
 obtain ⟨r,nl,n,f,kind,s,rfl,rfl,R,hs,h⟩:=h
 obtain ⟨v,ls',hK,hc⟩:=encodes_ok.2 _ [] K ⟨r,nl,n,rowT r.fields,kind,s,rfl,rfl,R.total,fun _=>rfl,hs,h⟩
 exact ⟨v,ls',hK,callsTo_leL (LeL.cons (rqLe R) (LeL.cons (LeV.refl _) (LeL.cons (LeV.refl _) LeL.nil))) hc⟩
end Go.Proofs.YtefelnhpfdcleaaGreatDoor
