/- Part of the proofs of the statements about requests (layer 7): a symbolic executor over the code, that it is sound, and contracts of functions; it has no conditions of its own. -/
import Derived.Test.YtefelnhpfdcleaaGreatDoorUzPaa
import Derived.Test.YtefelnhpfdcleaaGreatDoorUzPab
import Derived.Test.YtefelnhpfdcleaaGreatDoorSzPbf
namespace Go.Proofs.YtefelnhpfdcleaaGreatDoor
open Go Go.Sx
set_option maxRecDepth 100000
set_option maxHeartbeats 400000
theorem Uz : Dq 10≠3∧Dq 13≠3∧Dq 32≠3∧Dq 58≠3:=by decide
theorem G8 {s : List UInt8} {c : UInt8} (h : Br s = true) (hc : Dq (c.toNat : Int)≠3) : c ∉ s:=by
 unfold Br at h
 rw [Bool.and_eq_true,List.all_eq_true] at h
 intro hm
 have:=h.1 c hm
 exact hc (by simpa using this)
theorem Akl {s : List UInt8} (h : Br s = true) : s≠[]:=by
 rintro rfl; simp [Br] at h
theorem Un.notin {s : List UInt8} {c : UInt8} (hs : Sep c) (hk : Cb c.toNat = 0) (h63 : c≠63) (h : Un s) : c ∉ s:=by
 induction h with
 | nil=>simp
 | esc a b s ha hb _ ih =>
  simp only [List.mem_cons,not_or]
  exact ⟨hs.n37,fun e=>hs.val (by rw [e]; exact ha),fun e=>hs.val (by rw [e]; exact hb),ih⟩
 | one d s hd _ ih =>
  simp only [List.mem_cons,not_or]
  refine ⟨?_,ih⟩
  rintro rfl
  rcases hd with h | h
  ·exact h hk
  ·exact h63 h
theorem S6 {s : List UInt8} {c : UInt8} (h : D2 s = true) (hc : okB c = false) : c ∉ s:=by
 unfold D2 at h
 rw [List.all_eq_true] at h
 intro hm
 rw [h c hm] at hc; cases hc
def rV : List UInt8:=[32,72,84,84,80,47,49,46,49,13]
theorem Vh {m t u : List UInt8} (hm : m≠[]) (ht : t≠[]) (m10 : (10 : UInt8) ∉ m) (m32 : (32 : UInt8) ∉ m) (t10 : (10 : UInt8) ∉ t) (t32 : (32 : UInt8) ∉ t) (hl : m.length + t.length + 12≤1024) :
  Ax (m ++ 32 :: (t ++ (rVer ++ u))) = (m,t,((m.length + t.length + 12 : Nat) : Int),0):=by
 obtain ⟨w,hw⟩ : ∃ w,w = m ++ 32 :: (t ++ rV):=⟨_,rfl⟩
 have hwl : w.length = m.length + t.length + 11:=by rw [hw]; simp [rV]; omega
 have hb : m ++ 32 :: (t ++ (rVer ++ u)) = w ++ 10 :: u:=by rw [hw]; simp [rV,rVer]
 have w10 : (10 : UInt8) ∉ w:=by
  rw [hw]
  simp only [List.mem_append,List.mem_cons,not_or]
  exact ⟨m10,by decide,t10,by decide⟩
 have htk : (w ++ 10 :: u).take 1024 = w ++ 10 :: u.take (1023 - w.length):=by
  rw [List.take_append,List.take_of_length_le (by omega)]
  congr 1
  obtain ⟨k,hk⟩ : ∃ k,1024 - w.length = k + 1:=⟨1023 - w.length,by omega⟩
  rw [hk,List.take_succ_cons]
  congr 2
  omega
 rw [hb,Fj,htk,Qy w10]
 simp only [Bool.not_true,Bool.false_and,Bool.false_eq_true,if_false]
 have es : w ++ [10] = (m ++ 32 :: t) ++ rVer:=by rw [hw]; simp [rV,rVer]
 have el : ((m ++ 32 :: t) ++ rVer).length - 11 = (m ++ 32 :: t).length:=by rw [List.length_append]; show _ + 11 - 11 = _; omega
 rw [Rx es.symm (by rw [el,List.drop_left]),el,List.take_left]
 unfold Kb
 rw [Qy m32]
 have hi : Lib.indexByte t 32 = -1:=Dr (fun j hj e=>t32 (by
  rw [←e,List.getD_eq_getElem?_getD,List.getElem?_eq_getElem hj]; exact List.getElem_mem hj))
 simp only [hi]
 rw [if_neg (by simp [Eh,hm,ht])]
 simp only [Prod.mk.injEq,true_and,and_true]
 rw [←es,List.length_append,hwl]
 simp only [List.length_cons,List.length_nil]
theorem rl_part {b : List UInt8} (h : (10 : UInt8) ∉ b) (hl : b.length < 1024) : Ax b = ([],[],0,10):=by
 rw [Fj,List.take_of_length_le (by omega),Z1 h]
 simp [hl]
structure G4 (x : HF) : Prop where
 name : Br x.name = true
 plain : D2 x.value = true
 trim : trimF x.value = x.value
 len : x.value.length≤2000
def Iz (x : HF) : List UInt8:=(x.name ++ [58,32]) ++ x.value
theorem Mt (x : HF) : Db x = Iz x ++ [13,10]:=rfl
theorem G4.no {x : HF} (h : G4 x) : (10 : UInt8) ∉ Iz x∧(13 : UInt8) ∉ Iz x:=by
 unfold Iz
 simp only [List.mem_append,not_or]
 exact ⟨⟨⟨G8 h.name Uz.1,by decide⟩,S6 h.plain (by decide)⟩,⟨⟨G8 h.name Uz.2.1,by decide⟩,S6 h.plain (by decide)⟩⟩
theorem G4.read {x : HF} (h : G4 x) : Do (Iz x) = (x,true):=by
 have e : Iz x = x.name ++ 58 :: (32 :: x.value):=by unfold Iz; simp
 have hp : D2 (32 :: x.value) = true:=by
  have:=h.plain
  unfold D2 at this ⊢
  rw [List.all_cons,this]; rfl
 have ht : trimF (32 :: x.value) = x.value:=by
  have:=h.trim
  unfold trimF at this ⊢
  rw [Ie (by decide)]; exact this
 unfold Do
 rw [e,Qy (G8 (c:=58) h.name Uz.2.2.2)]
 simp only
 rw [hp,h.name,if_neg (by simp),ht]
theorem Ip {s : List UInt8} {c : UInt8} {j : Nat} (h : c ∉ s) (hj : j < s.length) : s.getD j 0≠c:=fun e=>h (by
 rw [←e,List.getD_eq_getElem?_getD,List.getElem?_eq_getElem hj]; exact List.getElem_mem hj)
theorem Zo (b : List UInt8) (p j : Nat) : (b.drop p).getD j 0 = b.getD (p + j) 0:=by
 rw [List.getD_eq_getElem?_getD,List.getElem?_drop,←List.getD_eq_getElem?_getD]
theorem D7 {a u : List UInt8} {j : Nat} (h : j < a.length) : (a ++ u).getD j 0 = a.getD j 0:=by
 rw [List.getD_eq_getElem?_getD,List.getElem?_append_left h,←List.getD_eq_getElem?_getD]
theorem Ahn {b q u : List UInt8} {p m : Nat} {r : List HF} (hd : b.drop p = q ++ 13 :: 10 :: u) (q10 : (10 : UInt8) ∉ q) (h8 : p + q.length + 2≤8192) : hpG b (m + 1) p r = hpL b m (p + q.length + 1) r true q:=by
 have hl : p + q.length + 2≤b.length:=by
  have:=congrArg List.length hd
  simp at this; omega
 have hat : ∀ j,b.getD (p + j) 0 = (q ++ 13 :: 10 :: u).getD j 0:=fun j=>by rw [←hd,Zo]
 have g13 : b.getD (p + q.length) 0 = 13:=by rw [hat,List.getD_eq_getElem?_getD,List.getElem?_append_right (by omega)]; simp
 have g10 : b.getD (p + q.length + 1) 0 = 10:=by rw [show p + q.length + 1 = p + (q.length + 1) by omega,hat,List.getD_eq_getElem?_getD,List.getElem?_append_right (by omega)]; simp
 have hno : Ox b p (p + q.length + 1):=fun j h1 h2=>by
  obtain ⟨k,rfl⟩ : ∃ k,j = p + k:=⟨j - p,by omega⟩
  by_cases hk : k = q.length
  ·rw [hk,g13]; decide
  ·rw [hat,D7 (by omega)]
   exact Ip q10 (by omega)
 have:=(Abf (m:=m) (r:=r) (p:=p) (i:=p + q.length + 1) (by omega) (by omega) g10 hno (by omega) true (by
  rw [show p + q.length + 1 - 1 = p + q.length by omega,g13]; simp; omega)).2 rfl
 rw [this,hd,show p + q.length + 1 - 1 - p = q.length by omega,List.take_left]
theorem Ajm {s : List UInt8} {c : UInt8} (h : c ∉ s) : Lib.indexByte s c = -1:=Dr fun _ hj=>Ip h hj
theorem Ahl {b u : List UInt8} {p m : Nat} {r : List HF} {x : HF} (hx : G4 x) (hd : b.drop p = Db x ++ u) (h8 : p + (Db x).length≤8192) (hr : r.length < 100) : hpG b (m + 1) p r = hpG b m (p + (Db x).length) (r ++ [x]):=by
 obtain ⟨n10,n13⟩:=hx.no
 have hll : (Db x).length = (Iz x).length + 2:=by rw [Mt,List.length_append]; rfl
 rw [Ahn (q:=Iz x) (u:=u) (by rw [hd,Mt]; simp) n10 (by omega)]
 unfold hpL
 rw [hx.read,Ajm n13]
 have hne : Iz x≠[]:=by unfold Iz; simp
 have hlen:=hx.len
 rw [if_neg (by simp),if_neg hne]
 simp only
 rw [if_neg (by simp),if_neg (by simp; omega),hll]
 congr 1
theorem hp_stop {b u : List UInt8} {p m : Nat} {r : List HF} (hd : b.drop p = 13 :: 10 :: u) (h8 : p + 2≤8192) : hpG b (m + 1) p r = (r,((p + 2 : Nat) : Int),0):=by
 rw [Ahn (q:=[]) (u:=u) hd (by simp) (by simp; omega)]
 unfold hpL
 rw [if_neg (by decide),if_pos rfl]
 simp only [List.length_nil,Nat.add_zero,Prod.mk.injEq,true_and,and_true]
 omega
theorem Ahk {b : List UInt8} {p m : Nat} {r : List HF} (h : (10 : UInt8) ∉ b.drop p) (hp : p≤8192) (hb : b.length≤8192) : hpG b (m + 1) p r = ([],0,10):=by
 rw [Abe hp (fun j h1 h2=>?_),if_neg (by omega)]
 obtain ⟨k,rfl⟩ : ∃ k,j = p + k:=⟨j - p,by omega⟩
 rw [←Zo]
 exact Ip h (by rw [List.length_drop]; omega)
theorem Ms (x : HF) (l : List HF) : Bj (x :: l) = Db x ++ Bj l:=by simp [Bj]
theorem Wh : Bj [] = [13,10]:=rfl
theorem Zb (x : HF) : 4≤(Db x).length:=by rw [Mt,List.length_append]; unfold Iz; simp; omega
theorem Adg {b u : List UInt8} : ∀ (l : List HF) (p m : Nat) (r : List HF),b.drop p = Bj l ++ u→(∀ x∈l,G4 x)→p + (Bj l).length≤8192→r.length + l.length≤100→b.length - p < m→hpG b m p r = (r ++ l,((p + (Bj l).length : Nat) : Int),0)
 | _,_,0,_,_,_,_,_,h=>by omega
 | [],p,m + 1,r,hd,_,h8,_,_=>by
  rw [Wh] at hd h8 ⊢
  rw [hp_stop (u:=u) (by rw [hd]; simp) (by simpa using h8),List.append_nil]; rfl
 | x :: l,p,m + 1,r,hd,hx,h8,hr,hm=>by
  rw [Ms] at hd h8
  rw [List.append_assoc] at hd
  rw [List.length_append] at h8
  have hpos:=Zb x
  have hpl : p + (Db x).length≤b.length:=by
   have:=congrArg List.length hd
   simp at this; omega
  simp only [List.length_cons] at hr
  rw [Ahl (hx x (List.mem_cons_self ..)) hd (by omega) (by omega)]
  have hd2 : b.drop (p + (Db x).length) = Bj l ++ u:=by rw [←List.drop_drop,hd,List.drop_left]
  rw [Adg l _ m _ hd2 (fun y hy=>hx y (List.mem_cons_of_mem _ hy)) (by omega) (by rw [List.length_append]; simp; omega) (by omega),Ms,List.length_append,List.append_assoc]
  simp only [List.singleton_append,Prod.mk.injEq,true_and,and_true]
  omega
theorem Ahm {b : List UInt8} : ∀ (l : List HF) (p m : Nat) (r : List HF) (v : List UInt8),Bj l = b.drop p ++ v→v≠[]→(∀ x∈l,G4 x)→p≤b.length→p + (Bj l).length≤8192→r.length + l.length≤100→b.length - p < m→hpG b m p r = ([],0,10)
 | _,_,0,_,_,_,_,_,_,_,_,h=>by omega
 | [],p,m + 1,r,v,hd,hv,_,hp,h8,_,_=>by
  rw [Wh] at hd h8
  have hlen:=congrArg List.length hd
  have hvl : 0 < v.length:=List.length_pos_iff.2 hv
  simp only [List.length_cons,List.length_nil,List.length_append,List.length_drop] at hlen
  simp only [List.length_cons,List.length_nil] at h8
  refine Ahk ?_ (by omega) (by omega)
  cases hq : b.drop p with
  | nil=>simp
  | cons y w =>
   rw [hq] at hd
   have h1:=(List.cons.inj hd).1
   have : w = []:=by
    have:=congrArg List.length hq
    simp at this
    exact List.eq_nil_of_length_eq_zero (by omega)
   rw [this,←h1]; decide
 | x :: l,p,m + 1,r,v,hd,hv,hx,hp,h8,hr,hm=>by
  rw [Ms] at hd h8
  rw [List.length_append] at h8
  have hpos:=Zb x
  simp only [List.length_cons] at hr
  have hxx:=hx x (List.mem_cons_self ..)
  have hgo : ∀ a,b.drop p = Db x ++ a→Bj l = a ++ v→hpG b (m + 1) p r = ([],0,10):=fun a ha hb=>by
   have hpl : p + (Db x).length≤b.length:=by
    have:=congrArg List.length ha
    simp at this; omega
   rw [Ahl hxx ha (by omega) (by omega)]
   have hd2 : b.drop (p + (Db x).length) = a:=by rw [←List.drop_drop,ha,List.drop_left]
   exact Ahm l _ m _ v (by rw [hd2,hb]) hv (fun y hy=>hx y (List.mem_cons_of_mem _ hy)) hpl (by omega) (by rw [List.length_append]; simp; omega) (by omega)
  rcases List.append_eq_append_iff.1 hd with ⟨a,ha,hb⟩ | ⟨c,hc,hd2⟩
  ·exact hgo a ha hb
  ·by_cases hc0 : c = []
   ·subst hc0
    exact hgo [] (by rw [hc]; simp) (by simpa using hd2.symm)
   ·refine Ahk ?_ (by omega) ?_
    ·intro h10
     have hi : (b.drop p).length < (Db x).length:=by
      rw [hc,List.length_append]
      have:=List.length_pos_iff.2 hc0; omega
     obtain ⟨k,hk,hk2⟩:=List.mem_iff_getElem.1 h10
     have e1 : (Db x).getD k 0 = 10:=by
      rw [hc,D7 hk,List.getD_eq_getElem?_getD,List.getElem?_eq_getElem hk]; exact hk2
     have e2 : Db x = (Iz x ++ [13]) ++ [10]:=by rw [Mt]; simp
     have hk3 : k < (Iz x ++ [13]).length:=by
      have:=congrArg List.length e2
      rw [List.length_append] at this
      simp only [List.length_cons,List.length_nil] at this
      omega
     rw [e2,D7 hk3] at e1
     refine Ip (c:=10) ?_ hk3 e1
     rw [List.mem_append,not_or]
     exact ⟨hxx.no.1,by decide⟩
    ·have hi : (b.drop p).length≤(Db x).length:=by
      rw [hc,List.length_append]; omega
     rw [List.length_drop] at hi; omega
theorem Xg : ∀ (l : List HF) (n : Int),Ck l n = 0↔(∀ x∈l,G4 x)∧n + ((l.flatMap Db).length : Int)≤8192
 | [],n=>by
  unfold Ck
  simp only [List.flatMap_nil,List.length_nil]
  split<;>simp<;>omega
 | x :: l,n=>by
  unfold Ck
  have hsz : G9 x = ((Db x).length : Int):=by
   unfold G9
   rw [Mt]
   unfold Iz
   simp
   omega
  by_cases hb : Pk x = true
  ·rw [if_pos hb]
   constructor
   ·intro h; cases h
   ·rintro ⟨h,_⟩
    have hx:=h x (List.mem_cons_self ..)
    unfold Pk at hb
    rw [hx.name,hx.plain,hx.trim] at hb
    simp at hb
  ·rw [if_neg hb]
   have hb : Pk x = false:=by simpa using hb
   unfold Pk at hb
   simp only [Bool.or_eq_false_iff,Bool.not_eq_false',bne_eq_false_iff_eq] at hb
   by_cases hv : 2000 < x.value.length
   ·rw [if_pos hv]
    constructor
    ·intro h; cases h
    ·rintro ⟨h,_⟩
     have:=(h x (List.mem_cons_self ..)).len
     omega
   ·rw [if_neg hv,Xg l,hsz,List.flatMap_cons,List.length_append]
    constructor
    ·rintro ⟨h1,h2⟩
     refine ⟨fun y hy=>?_,by omega⟩
     rcases List.mem_cons.1 hy with rfl | hy
     ·exact ⟨hb.1,hb.2.1,hb.2.2,by omega⟩
     ·exact h1 y hy
    ·rintro ⟨h1,h2⟩
     exact ⟨fun y hy=>h1 y (List.mem_cons_of_mem _ hy),by omega⟩
theorem Fe (l : List HF) : A7 l = 0↔l.length≤100∧(∀ x∈l,G4 x)∧(Bj l).length≤8192:=by
 unfold A7
 have hL : (Bj l).length = (l.flatMap Db).length + 2:=by unfold Bj; rw [List.length_append]; rfl
 by_cases h : 100 < l.length
 ·rw [if_pos h]
  constructor
  ·intro g; cases g
  ·rintro ⟨g,_⟩; omega
 ·rw [if_neg h,Xg]
  constructor
  ·rintro ⟨h1,h2⟩; exact ⟨by omega,h1,by omega⟩
  ·rintro ⟨_,h1,h2⟩; exact ⟨h1,by omega⟩
theorem Q9 : ∀ (s t : List UInt8) (acc : Nat),Ba acc (s ++ t) = Ba (Ba acc s) t
 | [],t,acc=>rfl
 | c :: s,t,acc=>by
  rw [List.cons_append,show Ba acc (c :: (s ++ t)) = if c = 45 then Ba acc (s ++ t) else Ba (acc * 10 + (c.toNat - 48)) (s ++ t) from rfl,show Ba acc (c :: s) = if c = 45 then Ba acc s else Ba (acc * 10 + (c.toNat - 48)) s from rfl]
  split
  ·exact Q9 s t acc
  ·exact Q9 s t _
structure DecOk (u : Nat) (s : List UInt8) : Prop where
 val : Ba 0 s = u
 dig : Bv s = true
 ne : s≠[]
 head : s.length = 1∨charI s 0≠48
 pos : 1≤u→charI s 0≠48
theorem Ahc : ∀ u : Fin 10,Ba 0 [UInt8.ofNat (48 + u.1)] = u.1∧Bv [UInt8.ofNat (48 + u.1)] = true∧(1≤u.1→charI [UInt8.ofNat (48 + u.1)] 0≠48)∧UInt8.ofNat (48 + u.1)≠45∧(UInt8.ofNat (48 + u.1)).toNat - 48 = u.1:=by decide +kernel
theorem Ld : ∀ (n u : Nat),u≤n→DecOk u (Lib.decDigits u)
 | n,u,h=>by
  rw [Lib.decDigits]
  by_cases h10 : u < 10
  ·rw [dif_pos h10]
   obtain ⟨h1,h2,h3,_,_⟩:=Ahc ⟨u,h10⟩
   exact ⟨h1,h2,by simp,.inl rfl,h3⟩
  ·rw [dif_neg h10]
   cases n with
   | zero=>omega
   | succ n =>
    have ih:=Ld n (u / 10) (by omega)
    obtain ⟨h1,h2,h3,h4,h5⟩:=Ahc ⟨u % 10,by omega⟩
    simp only at h1 h2 h3 h4 h5
    have hp:=ih.pos (by omega)
    have hc : charI (Lib.decDigits (u / 10) ++ [UInt8.ofNat (48 + u % 10)]) 0 = charI (Lib.decDigits (u / 10)) 0:=by
     unfold charI
     rw [D7 (List.length_pos_iff.2 ih.ne)]
    refine ⟨?_,?_,by simp,.inr (by rw [hc]; exact hp),fun _=>by rw [hc]; exact hp⟩
    ·rw [Q9,ih.val]
     unfold Ba
     rw [if_neg h4]
     unfold Ba
     rw [h5]; omega
    ·unfold Bv at h2 ⊢
     rw [List.all_append,h2]
     have:=ih.dig
     unfold Bv at this
     rw [this]; rfl
theorem Te {n hi : Int} (h0 : 0≤n) (h1 : n≤hi) (h2 : hi≤1000000000) : Bi (Lib.itoa n) hi = (n,0):=by
 obtain ⟨u,rfl⟩ : ∃ u : Nat,n = u:=⟨n.toNat,by omega⟩
 have he : Lib.itoa (u : Int) = Lib.decDigits u:=by unfold Lib.itoa; rw [if_neg (by omega)]; simp
 rw [he]
 obtain ⟨hv,hd,hne,hh,_⟩:=Ld u u (by omega)
 obtain ⟨s,hs⟩ : ∃ s,s = Lib.decDigits u:=⟨_,rfl⟩
 rw [←hs] at hv hd hne hh ⊢
 have h45 : charI s 0≠45:=by
  cases s with
  | nil=>exact absurd rfl hne
  | cons c r =>
   have:=Gw hd c (List.mem_cons_self ..)
   show (c.toNat : Int)≠45
   omega
 have hdec : Jn s = true:=by
  rw [←Nq]
  unfold Pb
  have ht : Ea s = s:=by unfold Ea; rw [if_neg (fun g=>h45 g.1.2)]
  rw [ht,hd,decide_eq_false hne]
  rcases hh with h | h
  ·rw [h]; simp
  ·rw [decide_eq_false h]; simp
 rw [Ml s (by omega) h2]
 have : Nw s hi = ((u : Int),0):=by
  unfold Nw
  rw [hdec,if_neg (by simp),if_neg h45,hv,if_pos h1]
 rw [this,if_neg (by simp)]
end Go.Proofs.YtefelnhpfdcleaaGreatDoor
namespace Go.Proofs.YtefelnhpfdcleaaGreatDoor
open Go Go.Sx
set_option maxRecDepth 100000
set_option maxHeartbeats 400000
theorem Ail {F : List UInt8→Bool} {s k : List UInt8} (h : F k = true) : Hc F s k = true:=by
 unfold Hc; split
 ·rfl
 ·exact h
theorem Tp : ∀ (els : List (List UInt8)) (F : List UInt8→Bool) (k : List UInt8),F k = true→Gc F els k = true
 | [],_,_,h=>h
 | s :: els,F,k,h=>by
  show Gc (if Br s then Hc F (Ao s) else F) els k = true
  refine Tp els _ k ?_
  split
  ·exact Ail h
  ·exact h
theorem K7 (t : List UInt8) : ∀ (l : List HF) (F : List UInt8→Bool) (k : List UInt8),F k = true→(Ei t l F).1 k = true
 | [],_,_,h=>h
 | x :: l,F,k,h=>by
  unfold Ei
  split
  ·split
   ·exact K7 t l _ k (Tp _ _ _ h)
   ·exact h
  ·exact K7 t l F k h
theorem Wr (t : List UInt8) : ∀ (l : List HF) (F : List UInt8→Bool),(∀ x∈l,Ao x.name≠t)→Ei t l F = (F,true)
 | [],_,_=>rfl
 | x :: l,F,h=>by
  unfold Ei
  rw [if_neg (h x (List.mem_cons_self ..))]
  exact Wr t l F fun y hy=>h y (List.mem_cons_of_mem _ hy)
theorem Aj8 : Kq conn = true:=by decide +kernel
theorem Ajv {a b : List HF} (h : a.Sublist b) : (a.flatMap Db).length≤(b.flatMap Db).length:=by
 induction h with
 | slnil=>exact Nat.le_refl _
 | cons x _ ih=>rw [List.flatMap_cons,List.length_append]; omega
 | cons_cons x _ ih=>rw [List.flatMap_cons,List.flatMap_cons,List.length_append,List.length_append]; omega
theorem Mr (l : List HF) : (Bj l).length = (l.flatMap Db).length + 2:=by unfold Bj; rw [List.length_append]; rfl
theorem Lf {a b : List HF} (h : a.Sublist b) (hb : A7 b = 0) : A7 a = 0:=by
 rw [Fe] at hb ⊢
 obtain ⟨h1,h2,h3⟩:=hb
 have:=h.length_le
 have:=Ajv h
 rw [Mr] at h3 ⊢
 exact ⟨by omega,fun x hx=>h2 x (h.subset hx),by omega⟩
theorem Agl {a b : List HF} (h : a.Sublist b) (hb : Ed b = false) : Ed a = false:=by
 unfold Ed at hb ⊢
 rw [List.any_eq_false] at hb ⊢
 exact fun x hx=>hb x (h.subset hx)
structure Aej (l l' : List HF) : Prop where
 sub : l'.Sublist l
 again : Bm l' = (l',0)
 chk : A7 l = 0
theorem Akq {l l' : List HF} (h : Bm l = (l',0)) : Aej l l':=by
 have h0:=h
 unfold Bm at h
 split at h
 ·rename_i g; exact absurd (Prod.mk.inj h).2 g
 rename_i g
 have g : A7 l = 0:=by simpa using g
 split at h
 ·rename_i g2
  have e:=(Prod.mk.inj h).1
  have hsub : l'.Sublist l:=by rw [←e]; exact List.filter_sublist
  have hmem : ∀ x∈l',(F8 l).1 (Ao x.name) = false:=fun x hx=>by
   rw [←e] at hx
   have:=(List.mem_filter.1 hx).2
   unfold Lr at this
   simpa using this
  have hc : ∀ x∈l',Ao x.name≠conn:=fun x hx e2=>by
   have h1:=hmem x hx
   rw [e2] at h1
   have h2:=K7 conn l Kq conn Aj8
   unfold F8 at h1
   rw [h1] at h2; cases h2
  have hh : F8 l' = (Kq,true):=Wr conn l' Kq hc
  refine ⟨hsub,?_,g⟩
  unfold Bm
  rw [if_neg (by simp [Lf hsub g]),hh,if_pos rfl]
  congr 1
  refine List.filter_eq_self.2 fun x hx=>?_
  unfold Lr
  rw [Bool.not_eq_true']
  have h1:=hmem x hx
  show Kq (Ao x.name) = false
  cases hb : Kq (Ao x.name) with
  | false=>rfl
  | true =>
   have h2:=K7 conn l Kq _ hb
   unfold F8 at h1
   rw [h1] at h2; cases h2
 ·have:=(Prod.mk.inj h).2; exact absurd this (by decide)
structure Kt (r : Rq) (l' : List HF) : Prop where
 ex : ExOk r
 con : r.method≠sConnect
 bare : (r.body != [] && I3 r.method) = false
 strip : Bm r.fields = (l',0)
 st : Aej r.fields l'
 own : Ed l' = false
 wr : Ai r = (([⟨Fh,r.host⟩,⟨Ky,Lib.itoa r.id⟩] ++ l') ++ (if Bu r then [⟨sCL,Lib.itoa r.body.length⟩] else []),0)
 cw : A7 (Ai r).1 = 0
theorem Yj {r : Rq} (h : (Av r).2.2 = 0) : r.method≠sConnect∧(r.body != [] && I3 r.method) = false:=by
 unfold Av at h
 split at h
 ·cases h
 split at h
 ·cases h
 split at h
 ·cases h
 rename_i g3
 split at h
 ·rename_i g; exact absurd h g
 split at h
 ·cases h
 split at h
 ·rename_i g; exact absurd h g
 split at h
 ·cases h
 split at h
 ·cases h
 rename_i g8
 exact ⟨g3,by simpa using g8⟩
theorem Um {r : Rq} (h : (Av r).2.2 = 0) : ∃ l',Kt r l':=by
 have E:=M3 h
 obtain ⟨m1,m2⟩:=Yj h
 obtain ⟨w1,w2,w3,w4,w5⟩:=Tn E.chk
 have hs : (Bm r.fields).2 = 0:=by
  unfold Ai at w1
  split at w1
  ·exact w1
  ·rename_i g; simpa using g
 obtain ⟨l',hl⟩ : ∃ l',Bm r.fields = (l',0):=⟨_,by rw [←hs]⟩
 have S:=Akq hl
 refine ⟨l',E,m1,m2,hl,S,Agl S.sub w5,?_,w3⟩
 unfold Ai
 rw [hl,if_neg (by simp)]
theorem Iu {r : Rq} (h1 : 1≤r.id) (h2 : r.id≤1000000000) (h3 : C8 r.method = true) (h4 : r.method≠sConnect) (h5 : (Lx r.target).2 = 0) (h6 : Oc r.host = true) (h7 : (A1 r).2 = 0) (h8 : r.body.length≤65536) (h9 : (r.body != [] && I3 r.method) = false) : Av r = ([],(A1 r).1,0):=by
 unfold Av
 rw [if_neg (by omega),if_neg (by simp [h3]),if_neg h4,if_neg (by simp [h5]),if_neg (by simp [h6]),if_neg (by simp [h7]),if_neg (by omega),if_neg (by rw [h9]; simp)]
theorem Z5 {r : Rq} {w : List HF} (h1 : A7 r.fields = 0) (h2 : Ed r.fields = false) (h3 : Ai r = (w,0)) (h4 : A7 w = 0) : A1 r = (w,0):=by
 unfold A1
 rw [if_neg (by simp [h1]),if_neg (by simp [h2]),h3,if_neg (by simp),h4]
theorem itoa0 : Lib.itoa ((([] : List UInt8).length : Nat) : Int) = [48]:=by decide +kernel
theorem itoa_ne {n : Int} (h : 0≤n) : Lib.itoa n≠[]:=by
 obtain ⟨u,rfl⟩ : ∃ u : Nat,n = u:=⟨n.toNat,by omega⟩
 have he : Lib.itoa (u : Int) = Lib.decDigits u:=by unfold Lib.itoa; rw [if_neg (by omega)]; simp
 rw [he]; exact (Ld u u (by omega)).ne
theorem cl0_ok : G4 ⟨sCL,[48]⟩:=⟨by decide +kernel,by decide +kernel,by decide +kernel,by decide⟩
theorem Kt.bareCheck {r : Rq} {l' : List HF} (G : Kt r l') : (Dc ⟨r.id,r.method,r.target,r.host,l',[]⟩).2 = 0:=by
 obtain ⟨q,hq⟩ : ∃ q : Rq,q = ⟨r.id,r.method,r.target,r.host,l',[]⟩:=⟨_,rfl⟩
 have hw : Ai q = (([⟨Fh,r.host⟩,⟨Ky,Lib.itoa r.id⟩] ++ l') ++ (if Bu q then [⟨sCL,[48]⟩] else []),0):=by
  rw [hq]
  unfold Ai
  simp only
  rw [G.st.again,if_neg (by simp),itoa0]
 have hcw:=G.cw
 rw [G.wr,Fe] at hcw
 obtain ⟨c1,c2,c3⟩:=hcw
 simp only at c1 c2 c3
 have hb : Bu q = true→Bu r = true:=fun h=>by
  rw [hq] at h
  unfold Bu at h ⊢
  simp only [Bool.or_eq_true] at h ⊢
  rcases h with ((h | h) | h) | h
  ·exact absurd h (by decide)
  ·exact .inl (.inl (.inr h))
  ·exact .inl (.inr h)
  ·exact .inr h
 have hcq : A7 (([⟨Fh,r.host⟩,⟨Ky,Lib.itoa r.id⟩] ++ l') ++ (if Bu q then [⟨sCL,[48]⟩] else [])) = 0:=by
  rw [Fe]
  by_cases hq1 : Bu q = true
  ·rw [hb hq1] at c1 c2 c3
   rw [hq1]
   simp only [if_true] at c1 c2 c3 ⊢
   rw [Mr,List.flatMap_append,List.length_append] at c3
   rw [Mr]
   refine ⟨by simpa using c1,fun x hx=>?_,?_⟩
   ·rcases List.mem_append.1 hx with hx | hx
    ·exact c2 x (List.mem_append_left _ hx)
    ·rw [List.mem_singleton.1 hx]; exact cl0_ok
   ·have h1:=List.length_pos_iff.2 (itoa_ne (n:=(r.body.length : Int)) (by omega))
    have e1 : (List.flatMap Db [⟨sCL,[48]⟩]).length = sCL.length + 5:=rfl
    have e2 : (List.flatMap Db [⟨sCL,Lib.itoa (r.body.length : Int)⟩]).length = sCL.length + 4 + (Lib.itoa (r.body.length : Int)).length:=by
     simp only [List.flatMap_cons,List.flatMap_nil,List.append_nil,Db,List.length_append,List.length_cons,List.length_nil]; omega
    rw [e2] at c3; rw [List.flatMap_append,List.length_append,e1]; omega
  ·have hq0 : Bu q = false:=by simpa using hq1
   rw [hq0]
   simp only [Bool.false_eq_true,if_false,List.append_nil]
   have hs : (([⟨Fh,r.host⟩,⟨Ky,Lib.itoa r.id⟩] : List HF) ++ l').Sublist ((([⟨Fh,r.host⟩,⟨Ky,Lib.itoa r.id⟩] : List HF) ++ l') ++ (if Bu r then [⟨sCL,Lib.itoa r.body.length⟩] else [])):=List.sublist_append_left _ _
   have:=Lf hs ((Fe _).2 ⟨c1,c2,c3⟩)
   exact (Fe _).1 this
 have hck : A1 q = _:=Z5 (by rw [hq]; exact Lf G.st.sub G.st.chk) (by rw [hq]; exact G.own) hw hcq
 have hex:=Iu (r:=q) (by rw [hq]; exact G.ex.id1) (by rw [hq]; exact G.ex.id2) (by rw [hq]; exact G.ex.method) (by rw [hq]; exact G.con) (by rw [hq]; exact G.ex.org) (by rw [hq]; exact G.ex.host) (by rw [hck]) (by rw [hq]; simp) (by rw [hq]; rfl)
 rw [←hq]
 unfold Dc
 rw [hex]
theorem Kt.again {r : Rq} {l' : List HF} (G : Kt r l') : Bo ⟨r.id,r.method,r.target,r.host,l',r.body⟩ = Bo r∧(Av ⟨r.id,r.method,r.target,r.host,l',r.body⟩).2.2 = 0:=by
 obtain ⟨q,hq⟩ : ∃ q : Rq,q = ⟨r.id,r.method,r.target,r.host,l',r.body⟩:=⟨_,rfl⟩
 have hw : Ai q = ((Ai r).1,0):=by
  rw [G.wr,hq]
  unfold Ai
  simp only
  rw [G.st.again,if_neg (by simp)]
  rfl
 have hck : A1 q = _:=Z5 (by rw [hq]; exact Lf G.st.sub G.st.chk) (by rw [hq]; exact G.own) hw G.cw
 have hex:=Iu (r:=q) (by rw [hq]; exact G.ex.id1) (by rw [hq]; exact G.ex.id2) (by rw [hq]; exact G.ex.method) (by rw [hq]; exact G.con) (by rw [hq]; exact G.ex.org) (by rw [hq]; exact G.ex.host) (by rw [hck]) (by rw [hq]; exact G.ex.body) (by rw [hq]; exact G.bare)
 have h0 : (Av q).2.2 = 0:=by rw [hex]
 have hr : (Av r).2.2 = 0:=by
  rw [Iu G.ex.id1 G.ex.id2 G.ex.method G.con G.ex.org G.ex.host G.ex.chk G.ex.body G.bare]
 rw [←hq]
 refine ⟨?_,h0⟩
 rw [Iv h0,Iv hr,hw,hq]
theorem G7 (a b : List HF) (t : List UInt8) : D4 (a ++ b) t = D4 a t ++ D4 b t:=by
 unfold D4; rw [List.filter_append,List.map_append]
theorem Po {l : List HF} (h : Ed l = false) {t : List UInt8} (ht : I4 t = true) : D4 l t = []:=by
 unfold D4
 rw [List.filter_eq_nil_iff.2 ?_]; rfl
 intro x hx e
 unfold Ed at h
 rw [List.any_eq_false] at h
 refine h x hx ?_
 rw [eq_of_beq e]; exact ht
theorem Amf {l : List HF} (h : Ed l = false) : (l.filter fun x=>!I4 (Ao x.name)) = l:=by
 refine List.filter_eq_self.2 fun x hx=>?_
 unfold Ed at h
 rw [List.any_eq_false] at h
 simpa using h x hx
theorem Ai0 : I4 nHost = true∧I4 nId = true∧I4 nLen = true∧I4 nTE = true:=by decide
theorem Af9 : Ao Fh = nHost∧Ao Ky = nId∧Ao sCL = nLen:=by decide
theorem Kt.frame {r : Rq} {l' : List HF} (G : Kt r l') : (D9 (Ai r).1).hosts = [r.host]∧(D9 (Ai r).1).ids = [Lib.itoa r.id]∧(D9 (Ai r).1).lens = (if Bu r then [Lib.itoa r.body.length] else [])∧(D9 (Ai r).1).coded = false∧(D9 (Ai r).1).rest = l':=by
 obtain ⟨f1,f2,f3,f4,f5⟩:=Ww (Ai r).1
 obtain ⟨o1,o2,o3,o4⟩:=Ai0
 obtain ⟨p1,p2,p3⟩:=Af9
 rw [f1,f2,f3,f4,f5,G.wr]
 simp only
 have v : ∀ (t h i : List UInt8),D4 [⟨Fh,h⟩,⟨Ky,i⟩] t = (if nHost == t then [h] else []) ++ (if nId == t then [i] else []):=fun t h i=>by
  rw [Jo,Jo]
  simp only [p1,p2]
  split<;>split<;>rfl
 have w : ∀ (t : List UInt8),D4 (if Bu r then [⟨sCL,Lib.itoa (r.body.length : Int)⟩] else []) t = if Bu r && (nLen == t) then [Lib.itoa (r.body.length : Int)] else []:=fun t=>by
  cases Bu r with
  | false=>rfl
  | true =>
   simp only [if_true,Bool.true_and]
   rw [Jo]
   simp only [p3]
   split<;>rfl
 refine ⟨?_,?_,?_,?_,?_⟩
 ·rw [G7,G7,Po G.own o1,v,w,if_pos (by decide),if_neg (by decide),if_neg (by rw [show (nLen == nHost) = false by decide]; simp)]; rfl
 ·rw [G7,G7,Po G.own o2,v,w,if_neg (by decide),if_pos (by decide),if_neg (by rw [show (nLen == nId) = false by decide]; simp)]; rfl
 ·rw [G7,G7,Po G.own o3,v,w,if_neg (by decide),if_neg (by decide),show (nLen == nLen) = true by decide,Bool.and_true]; rfl
 ·rw [G7,G7,Po G.own o4,v,w,if_neg (by decide),if_neg (by decide),if_neg (by rw [show (nLen == nTE) = false by decide]; simp)]; rfl
 ·rw [List.filter_append,List.filter_append,Amf G.own]
  have e1 : (List.filter (fun x : HF=>!I4 (Ao x.name)) [⟨Fh,r.host⟩,⟨Ky,Lib.itoa r.id⟩]) = []:=by
   rw [List.filter_cons,if_neg (by simp only [p1,o1]; simp),List.filter_cons,if_neg (by simp only [p2,o2]; simp)]; rfl
  have e2 : (List.filter (fun x : HF=>!I4 (Ao x.name)) (if Bu r then [⟨sCL,Lib.itoa (r.body.length : Int)⟩] else [])) = []:=by
   split
   ·rw [List.filter_cons,if_neg (by simp only [p3,o3]; simp)]; rfl
   ·rfl
  rw [e1,e2]; simp
def Dw (r : Rq) : List UInt8:=r.method ++ 32 :: (r.target ++ rVer)
theorem Fl (r : Rq) : (Dw r).length = r.method.length + r.target.length + 12:=by unfold Dw; simp [rVer]; omega
theorem Si {r : Rq} (h : (Av r).2.2 = 0) : (Bo r).1 = Dw r ++ (Bj (Ai r).1 ++ r.body):=by
 rw [Iv h]; unfold Dw; simp [sVer,rVer]
theorem Aba {s : List UInt8} (h : C8 s = true) : Br s = true∧s.length≤16:=by
 unfold C8 at h
 simp only [Bool.and_eq_true,decide_eq_true_eq] at h
 exact ⟨h.2,h.1⟩
theorem sep10 : Sep 10:=⟨by decide,by decide⟩
theorem sep32 : Sep 32:=⟨by decide,by decide⟩
theorem Kt.line {r : Rq} {l' : List HF} (G : Kt r l') : r.method≠[]∧r.target≠[]∧(10 : UInt8) ∉ r.method∧(32 : UInt8) ∉ r.method∧(10 : UInt8) ∉ r.target∧(32 : UInt8) ∉ r.target∧r.method.length + r.target.length + 12≤1024:=by
 obtain ⟨h1,h2⟩:=Aba G.ex.method
 obtain ⟨u1,u2,_,u4⟩:=orgF_un G.ex.org
 exact ⟨Akl h1,u2,G8 h1 Uz.1,G8 h1 Uz.2.2.1,u1.notin sep10 (by decide) (by decide),u1.notin sep32 (by decide) (by decide),by omega⟩
theorem Kt.head {r : Rq} {l' : List HF} (G : Kt r l') (a : List UInt8) : Bp (Dw r ++ (Bj (Ai r).1 ++ a)) =
  Fx (Dw r ++ (Bj (Ai r).1 ++ a)) ⟨r.id,r.method,r.target,r.host,l',[]⟩ (((Dw r).length + (Bj (Ai r).1).length : Nat) : Int) (r.body.length : Int):=by
 obtain ⟨m1,t1,m10,m32,t10,t32,hl⟩:=G.line
 obtain ⟨b,hb⟩ : ∃ b,b = Dw r ++ (Bj (Ai r).1 ++ a):=⟨_,rfl⟩
 have hrl : Ax b = (r.method,r.target,(((Dw r).length : Nat) : Int),0):=by
  rw [hb,Fl]
  have:=Vh (u:=Bj (Ai r).1 ++ a) m1 t1 m10 m32 t10 t32 hl
  rw [←this]
  unfold Dw; simp
 have hd : b.drop (Dw r).length = Bj (Ai r).1 ++ a:=by rw [hb,List.drop_left]
 have hcw:=(Fe _).1 G.cw
 have hhp : B5 (Bj (Ai r).1 ++ a) = ((Ai r).1,(((Bj (Ai r).1).length : Nat) : Int),0):=by
  unfold B5
  rw [Adg (u:=a) (Ai r).1 0 _ [] (by rw [List.drop_zero]) hcw.2.1 (by omega) (by simpa using hcw.1) (by omega)]
  simp
 obtain ⟨f1,f2,f3,f4,f5⟩:=G.frame
 have hlens : (D9 (Ai r).1).lens.length≤1:=by rw [f3]; split<;>simp
 have hbad : Ki (D9 (Ai r).1) = false:=by
  unfold Ki
  rw [f1,f2,f4]
  simp; omega
 have hnum : Bi (Wk (D9 (Ai r).1)) 65536 = ((r.body.length : Int),0):=by
  unfold Wk
  rw [f3]
  cases hB : Bu r with
  | true =>
   simp only [if_true]
   rw [if_neg (by simp),List.getD_cons_zero]
   exact Te (by omega) (by have:=G.ex.body; omega) (by decide)
  | false =>
   simp only [Bool.false_eq_true,if_false]
   show Bi [48] 65536 = _
   rw [Vy]
   have : r.body = []:=by
    unfold Bu at hB
    simp only [Bool.or_eq_false_iff] at hB
    simpa using hB.1.1.1
   rw [this]; rfl
 have hnid : Bi (Lib.itoa r.id) 1000000000 = (r.id,0):=Te (by have:=G.ex.id1; omega) G.ex.id2 (by decide)
 rw [←hb]
 unfold Bp
 rw [hrl]
 simp only [Int.toNat_natCast]
 rw [hd,hhp]
 simp only [ne_eq,not_true,if_false]
 unfold Mj
 rw [hbad,if_neg (by simp),hnum,f1,f2,f5]
 simp only [List.getD_cons_zero]
 rw [hnid]
 unfold Mi
 simp only
 rw [if_neg (by decide),if_neg (by decide)]
 rw [Int.natCast_add]
theorem S7 {r : Rq} {l' : List HF} (h : (Av r).2.2 = 0) (G : Kt r l') (u : List UInt8) : Bp ((Bo r).1 ++ u) = (⟨r.id,r.method,r.target,r.host,l',r.body⟩,(((Bo r).1.length : Nat) : Int),0):=by
 have he:=Si h
 have e : (Bo r).1 ++ u = Dw r ++ (Bj (Ai r).1 ++ (r.body ++ u)):=by rw [he]; simp
 have hlen : (Bo r).1.length = (Dw r).length + (Bj (Ai r).1).length + r.body.length:=by rw [he]; simp; omega
 have hb : (decide (0 < (r.body.length : Int)) && I3 r.method) = false:=by
  have:=G.bare
  cases hbo : r.body with
  | nil=>simp
  | cons c w=>rw [hbo] at this; simpa using this
 rw [e,G.head (r.body ++ u)]
 unfold Fx
 rw [G.bareCheck,if_neg (by simp)]
 simp only
 rw [hb,if_neg (by simp),if_neg (by simp; omega),hlen]
 simp only [Int.toNat_natCast]
 have hd : (Dw r ++ (Bj (Ai r).1 ++ (r.body ++ u))).drop ((Dw r).length + (Bj (Ai r).1).length) = r.body ++ u:=by
  rw [←List.drop_drop,List.drop_left,List.drop_left]
 rw [hd,List.take_left]
 simp only [Prod.mk.injEq,true_and,and_true]
 omega
theorem Vq {r : Rq} {l' : List HF} (h : (Av r).2.2 = 0) (G : Kt r l') {b v : List UInt8} (hb : (Bo r).1 = b ++ v) (hv : v≠[]) : Bp b = (rqZ,0,10):=by
 rw [Si h] at hb
 obtain ⟨m1,t1,m10,m32,t10,t32,hl⟩:=G.line
 have hcw:=(Fe _).1 G.cw
 have hline : ∀ c,Dw r = b ++ c→c≠[]→Bp b = (rqZ,0,10):=fun c hc hc0=>by
  have hlen:=congrArg List.length hc
  rw [Fl,List.length_append] at hlen
  have hcl:=List.length_pos_iff.2 hc0
  have h10 : (10 : UInt8) ∉ b:=fun hm=>by
   obtain ⟨k,hk,hk2⟩:=List.mem_iff_getElem.1 hm
   have e2 : Dw r = (r.method ++ 32 :: (r.target ++ rV)) ++ [10]:=by unfold Dw; simp [rV,rVer]
   have hk3 : k < (r.method ++ 32 :: (r.target ++ rV)).length:=by
    simp only [List.length_append,List.length_cons]
    show k < r.method.length + (r.target.length + 10 + 1)
    omega
   have e1 : (Dw r).getD k 0 = 10:=by
    rw [hc,D7 hk,List.getD_eq_getElem?_getD,List.getElem?_eq_getElem hk]; exact hk2
   rw [e2,D7 hk3] at e1
   refine Ip (c:=10) ?_ hk3 e1
   simp only [List.mem_append,List.mem_cons,not_or]
   exact ⟨m10,by decide,t10,by decide⟩
  unfold Bp
  rw [rl_part h10 (by omega)]
  rfl
 rcases List.append_eq_append_iff.1 hb with ⟨a,ha,hb2⟩ | ⟨c,hc,_⟩
 ·-- b holds the line
  rcases List.append_eq_append_iff.1 hb2 with ⟨a2,ha2,hb3⟩ | ⟨c,hc,hd⟩
  ·-- and the fields
   rw [ha,ha2,G.head a2]
   unfold Fx
   rw [G.bareCheck,if_neg (by simp)]
   simp only
   have hlen:=congrArg List.length hb3
   rw [List.length_append] at hlen
   have hvl:=List.length_pos_iff.2 hv
   have hbb : (decide (0 < (r.body.length : Int)) && I3 r.method) = false:=by
    have:=G.bare
    cases hbo : r.body with
    | nil=>simp
    | cons c w=>rw [hbo] at this; simpa using this
   rw [hbb,if_neg (by simp),if_pos (by simp; omega)]
  ·by_cases hc0 : c = []
   ·subst hc0
    -- all the fields,and no more: the content is awaited
    have e : a = Bj (Ai r).1 ++ []:=by rw [hc]; simp
    have hbo : r.body = v:=by simpa using hd.symm
    rw [ha,e,G.head []]
    unfold Fx
    rw [G.bareCheck,if_neg (by simp)]
    simp only
    have hvl:=List.length_pos_iff.2 hv
    have hbb : (decide (0 < (r.body.length : Int)) && I3 r.method) = false:=by
     have:=G.bare
     cases hbo : r.body with
     | nil=>simp
     | cons c w=>rw [hbo] at this; simpa using this
    rw [hbb,if_neg (by simp),if_pos (by simp; rw [hbo]; omega)]
   ·have hrl : Ax b = (r.method,r.target,(((Dw r).length : Nat) : Int),0):=by
     rw [ha,Fl]
     have:=Vh (u:=a) m1 t1 m10 m32 t10 t32 hl
     rw [←this]
     unfold Dw; simp
    have hd0 : b.drop (Dw r).length = a:=by rw [ha,List.drop_left]
    have hhp : B5 a = ([],0,10):=by
     unfold B5
     exact Ahm (Ai r).1 0 _ [] c (by rw [List.drop_zero]; exact hc) hc0 hcw.2.1 (by omega) (by omega) (by simpa using hcw.1) (by omega)
    unfold Bp
    rw [hrl]
    simp only [Int.toNat_natCast]
    rw [hd0,hhp]
    rfl
 ·by_cases hc0 : c = []
  ·subst hc0
   -- just the line
   have e : b = Dw r:=by rw [hc]; simp
   have hrl : Ax b = (r.method,r.target,(((Dw r).length : Nat) : Int),0):=by
    rw [e,Fl]
    have:=Vh (u:=[]) m1 t1 m10 m32 t10 t32 hl
    rw [←this]
    unfold Dw; simp
   have hd0 : b.drop (Dw r).length = []:=by rw [e]; simp
   unfold Bp
   rw [hrl]
   simp only [Int.toNat_natCast]
   rw [hd0]
   rfl
  ·exact hline c hc hc0
end Go.Proofs.YtefelnhpfdcleaaGreatDoor
