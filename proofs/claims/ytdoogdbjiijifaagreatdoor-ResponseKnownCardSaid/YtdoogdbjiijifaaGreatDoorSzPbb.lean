/- Part of the proofs of the statements about responses and messages (layers 9 and 10): a symbolic executor over the code, that it is sound, and contracts of functions; it has no conditions of its own. -/
import Derived.Test.YtdoogdbjiijifaaGreatDoorSzPba
namespace Go.Proofs.YtdoogdbjiijifaaGreatDoor
open Go Go.Sx
set_option maxRecDepth 100000
set_option maxHeartbeats 400000
theorem Q4 : C9 10≠3∧C9 13≠3∧C9 32≠3∧C9 58≠3:=by decide
theorem Fm {s : List UInt8} {c : UInt8} (h : Bj s = true) (hc : C9 (c.toNat : Int)≠3) : c ∉ s:=by
 unfold Bj at h
 rw [Bool.and_eq_true,List.all_eq_true] at h
 intro hm
 have:=h.1 c hm
 exact hc (by simpa using this)
theorem Agu {s : List UInt8} (h : Bj s = true) : s≠[]:=by
 rintro rfl; simp [Bj] at h
theorem Un.notin {s : List UInt8} {c : UInt8} (hs : Sep c) (hk : Gz c.toNat = 0) (h63 : c≠63) (h : Un s) : c ∉ s:=by
 induction h with
 | nil=>simp
 | esc a b s ha hb _ ih =>
  simp only [List.mem_cons,not_or]
  exact ⟨hs.n37,fun e=>hs.val (by rw [e]; exact ha),fun e=>hs.val (by rw [e]; exact hb),ih⟩
 | one d s hd _ ih =>
  simp only [List.mem_cons,not_or]
  refine ⟨?_,ih⟩
  rintro rfl
  rcases hd with h | h
  ·exact h hk
  ·exact h63 h
theorem Pm {s : List UInt8} {c : UInt8} (h : Ci s = true) (hc : okB c = false) : c ∉ s:=by
 unfold Ci at h
 rw [List.all_eq_true] at h
 intro hm
 rw [h c hm] at hc; cases hc
def rV : List UInt8:=[32,72,84,84,80,47,49,46,49,13]
theorem Ahf {m t u : List UInt8} (hm : m≠[]) (ht : t≠[]) (m10 : (10 : UInt8) ∉ m) (m32 : (32 : UInt8) ∉ m) (t10 : (10 : UInt8) ∉ t) (t32 : (32 : UInt8) ∉ t) (hl : m.length + t.length + 12≤1024) :
  Cw (m ++ 32 :: (t ++ (rVer ++ u))) = (m,t,((m.length + t.length + 12 : Nat) : Int),0):=by
 obtain ⟨w,hw⟩ : ∃ w,w = m ++ 32 :: (t ++ rV):=⟨_,rfl⟩
 have hwl : w.length = m.length + t.length + 11:=by rw [hw]; simp [rV]; omega
 have hb : m ++ 32 :: (t ++ (rVer ++ u)) = w ++ 10 :: u:=by rw [hw]; simp [rV,rVer]
 have w10 : (10 : UInt8) ∉ w:=by
  rw [hw]
  simp only [List.mem_append,List.mem_cons,not_or]
  exact ⟨m10,by decide,t10,by decide⟩
 have htk : (w ++ 10 :: u).take 1024 = w ++ 10 :: u.take (1023 - w.length):=by
  rw [List.take_append,List.take_of_length_le (by omega)]
  congr 1
  obtain ⟨k,hk⟩ : ∃ k,1024 - w.length = k + 1:=⟨1023 - w.length,by omega⟩
  rw [hk,List.take_succ_cons]
  congr 2
  omega
 rw [hb,Ye,htk,Ks w10]
 simp only [Bool.not_true,Bool.false_and,Bool.false_eq_true,if_false]
 have es : w ++ [10] = (m ++ 32 :: t) ++ rVer:=by rw [hw]; simp [rV,rVer]
 have el : ((m ++ 32 :: t) ++ rVer).length - 11 = (m ++ 32 :: t).length:=by rw [List.length_append]; show _ + 11 - 11 = _; omega
 rw [Afm es.symm (by rw [el,List.drop_left]),el,List.take_left]
 unfold Aif
 rw [Ks m32]
 have hi : Lib.indexByte t 32 = -1:=Km (fun j hj e=>t32 (by
  rw [←e,List.getD_eq_getElem?_getD,List.getElem?_eq_getElem hj]; exact List.getElem_mem hj))
 simp only [hi]
 rw [if_neg (by simp [Qv,hm,ht])]
 simp only [Prod.mk.injEq,true_and,and_true]
 rw [←es,List.length_append,hwl]
 simp only [List.length_cons,List.length_nil]
structure Hs (x : HF) : Prop where
 name : Bj x.name = true
 plain : Ci x.value = true
 trim : trimF x.value = x.value
 len : x.value.length≤2000
def Iy (x : HF) : List UInt8:=(x.name ++ [58,32]) ++ x.value
theorem Nc (x : HF) : F6 x = Iy x ++ [13,10]:=rfl
theorem Hs.no {x : HF} (h : Hs x) : (10 : UInt8) ∉ Iy x∧(13 : UInt8) ∉ Iy x:=by
 unfold Iy
 simp only [List.mem_append,not_or]
 exact ⟨⟨⟨Fm h.name Q4.1,by decide⟩,Pm h.plain (by decide)⟩,⟨⟨Fm h.name Q4.2.1,by decide⟩,Pm h.plain (by decide)⟩⟩
theorem Hs.read {x : HF} (h : Hs x) : Oc (Iy x) = (x,true):=by
 have e : Iy x = x.name ++ 58 :: (32 :: x.value):=by unfold Iy; simp
 have hp : Ci (32 :: x.value) = true:=by
  have:=h.plain
  unfold Ci at this ⊢
  rw [List.all_cons,this]; rfl
 have ht : trimF (32 :: x.value) = x.value:=by
  have:=h.trim
  unfold trimF at this ⊢
  rw [Ls (by decide)]; exact this
 unfold Oc
 rw [e,Ks (Fm (c:=58) h.name Q4.2.2.2)]
 simp only
 rw [hp,h.name,if_neg (by simp),ht]
theorem S2 {s : List UInt8} {c : UInt8} {j : Nat} (h : c ∉ s) (hj : j < s.length) : s.getD j 0≠c:=fun e=>h (by
 rw [←e,List.getD_eq_getElem?_getD,List.getElem?_eq_getElem hj]; exact List.getElem_mem hj)
theorem Af4 (b : List UInt8) (p j : Nat) : (b.drop p).getD j 0 = b.getD (p + j) 0:=by
 rw [List.getD_eq_getElem?_getD,List.getElem?_drop,←List.getD_eq_getElem?_getD]
theorem H4 {a u : List UInt8} {j : Nat} (h : j < a.length) : (a ++ u).getD j 0 = a.getD j 0:=by
 rw [List.getD_eq_getElem?_getD,List.getElem?_append_left h,←List.getD_eq_getElem?_getD]
theorem Adq {b q u : List UInt8} {p m : Nat} {r : List HF} (hd : b.drop p = q ++ 13 :: 10 :: u) (q10 : (10 : UInt8) ∉ q) (h8 : p + q.length + 2≤8192) : hpG b (m + 1) p r = hpL b m (p + q.length + 1) r true q:=by
 have hl : p + q.length + 2≤b.length:=by
  have:=congrArg List.length hd
  simp at this; omega
 have hat : ∀ j,b.getD (p + j) 0 = (q ++ 13 :: 10 :: u).getD j 0:=fun j=>by rw [←hd,Af4]
 have g13 : b.getD (p + q.length) 0 = 13:=by rw [hat,List.getD_eq_getElem?_getD,List.getElem?_append_right (by omega)]; simp
 have g10 : b.getD (p + q.length + 1) 0 = 10:=by rw [show p + q.length + 1 = p + (q.length + 1) by omega,hat,List.getD_eq_getElem?_getD,List.getElem?_append_right (by omega)]; simp
 have hno : noNl b p (p + q.length + 1):=fun j h1 h2=>by
  obtain ⟨k,rfl⟩ : ∃ k,j = p + k:=⟨j - p,by omega⟩
  by_cases hk : k = q.length
  ·rw [hk,g13]; decide
  ·rw [hat,H4 (by omega)]
   exact S2 q10 (by omega)
 have:=(hp_line (m:=m) (r:=r) (p:=p) (i:=p + q.length + 1) (by omega) (by omega) g10 hno (by omega) true (by
  rw [show p + q.length + 1 - 1 = p + q.length by omega,g13]; simp; omega)).2 rfl
 rw [this,hd,show p + q.length + 1 - 1 - p = q.length by omega,List.take_left]
theorem Afy {s : List UInt8} {c : UInt8} (h : c ∉ s) : Lib.indexByte s c = -1:=Km fun _ hj=>S2 h hj
theorem hp_step {b u : List UInt8} {p m : Nat} {r : List HF} {x : HF} (hx : Hs x) (hd : b.drop p = F6 x ++ u) (h8 : p + (F6 x).length≤8192) (hr : r.length < 100) : hpG b (m + 1) p r = hpG b m (p + (F6 x).length) (r ++ [x]):=by
 obtain ⟨n10,n13⟩:=hx.no
 have hll : (F6 x).length = (Iy x).length + 2:=by rw [Nc,List.length_append]; rfl
 rw [Adq (q:=Iy x) (u:=u) (by rw [hd,Nc]; simp) n10 (by omega)]
 unfold hpL
 rw [hx.read,Afy n13]
 have hne : Iy x≠[]:=by unfold Iy; simp
 have hlen:=hx.len
 rw [if_neg (by simp),if_neg hne]
 simp only
 rw [if_neg (by simp),if_neg (by simp; omega),hll]
 congr 1
theorem hp_stop {b u : List UInt8} {p m : Nat} {r : List HF} (hd : b.drop p = 13 :: 10 :: u) (h8 : p + 2≤8192) : hpG b (m + 1) p r = (r,((p + 2 : Nat) : Int),0):=by
 rw [Adq (q:=[]) (u:=u) hd (by simp) (by simp; omega)]
 unfold hpL
 rw [if_neg (by decide),if_pos rfl]
 simp only [List.length_nil,Nat.add_zero,Prod.mk.injEq,true_and,and_true]
 omega
theorem Ps (x : HF) (l : List HF) : Ca (x :: l) = F6 x ++ Ca l:=by simp [Ca]
theorem Abr : Ca [] = [13,10]:=rfl
theorem Afo (x : HF) : 4≤(F6 x).length:=by rw [Nc,List.length_append]; unfold Iy; simp; omega
theorem Ze {b u : List UInt8} : ∀ (l : List HF) (p m : Nat) (r : List HF),b.drop p = Ca l ++ u→(∀ x∈l,Hs x)→p + (Ca l).length≤8192→r.length + l.length≤100→b.length - p < m→hpG b m p r = (r ++ l,((p + (Ca l).length : Nat) : Int),0)
 | _,_,0,_,_,_,_,_,h=>by omega
 | [],p,m + 1,r,hd,_,h8,_,_=>by
  rw [Abr] at hd h8 ⊢
  rw [hp_stop (u:=u) (by rw [hd]; simp) (by simpa using h8),List.append_nil]; rfl
 | x :: l,p,m + 1,r,hd,hx,h8,hr,hm=>by
  rw [Ps] at hd h8
  rw [List.append_assoc] at hd
  rw [List.length_append] at h8
  have hpos:=Afo x
  have hpl : p + (F6 x).length≤b.length:=by
   have:=congrArg List.length hd
   simp at this; omega
  simp only [List.length_cons] at hr
  rw [hp_step (hx x (List.mem_cons_self ..)) hd (by omega) (by omega)]
  have hd2 : b.drop (p + (F6 x).length) = Ca l ++ u:=by rw [←List.drop_drop,hd,List.drop_left]
  rw [Ze l _ m _ hd2 (fun y hy=>hx y (List.mem_cons_of_mem _ hy)) (by omega) (by rw [List.length_append]; simp; omega) (by omega),Ps,List.length_append,List.append_assoc]
  simp only [List.singleton_append,Prod.mk.injEq,true_and,and_true]
  omega
theorem Th : ∀ (l : List HF) (n : Int),Ff l n = 0↔(∀ x∈l,Hs x)∧n + ((l.flatMap F6).length : Int)≤8192
 | [],n=>by
  unfold Ff
  simp only [List.flatMap_nil,List.length_nil]
  split<;>simp<;>omega
 | x :: l,n=>by
  unfold Ff
  have hsz : Xz x = ((F6 x).length : Int):=by
   unfold Xz
   rw [Nc]
   unfold Iy
   simp
   omega
  by_cases hb : Ace x = true
  ·rw [if_pos hb]
   constructor
   ·intro h; cases h
   ·rintro ⟨h,_⟩
    have hx:=h x (List.mem_cons_self ..)
    unfold Ace at hb
    rw [hx.name,hx.plain,hx.trim] at hb
    simp at hb
  ·rw [if_neg hb]
   have hb : Ace x = false:=by simpa using hb
   unfold Ace at hb
   simp only [Bool.or_eq_false_iff,Bool.not_eq_false',bne_eq_false_iff_eq] at hb
   by_cases hv : 2000 < x.value.length
   ·rw [if_pos hv]
    constructor
    ·intro h; cases h
    ·rintro ⟨h,_⟩
     have:=(h x (List.mem_cons_self ..)).len
     omega
   ·rw [if_neg hv,Th l,hsz,List.flatMap_cons,List.length_append]
    constructor
    ·rintro ⟨h1,h2⟩
     refine ⟨fun y hy=>?_,by omega⟩
     rcases List.mem_cons.1 hy with rfl | hy
     ·exact ⟨hb.1,hb.2.1,hb.2.2,by omega⟩
     ·exact h1 y hy
    ·rintro ⟨h1,h2⟩
     exact ⟨fun y hy=>h1 y (List.mem_cons_of_mem _ hy),by omega⟩
theorem Ha (l : List HF) : A7 l = 0↔l.length≤100∧(∀ x∈l,Hs x)∧(Ca l).length≤8192:=by
 unfold A7
 have hL : (Ca l).length = (l.flatMap F6).length + 2:=by unfold Ca; rw [List.length_append]; rfl
 by_cases h : 100 < l.length
 ·rw [if_pos h]
  constructor
  ·intro g; cases g
  ·rintro ⟨g,_⟩; omega
 ·rw [if_neg h,Th]
  constructor
  ·rintro ⟨h1,h2⟩; exact ⟨by omega,h1,by omega⟩
  ·rintro ⟨_,h1,h2⟩; exact ⟨h1,by omega⟩
theorem N8 : ∀ (s t : List UInt8) (acc : Nat),By acc (s ++ t) = By (By acc s) t
 | [],t,acc=>rfl
 | c :: s,t,acc=>by
  rw [List.cons_append,show By acc (c :: (s ++ t)) = if c = 45 then By acc (s ++ t) else By (acc * 10 + (c.toNat - 48)) (s ++ t) from rfl,show By acc (c :: s) = if c = 45 then By acc s else By (acc * 10 + (c.toNat - 48)) s from rfl]
  split
  ·exact N8 s t acc
  ·exact N8 s t _
structure DecOk (u : Nat) (s : List UInt8) : Prop where
 val : By 0 s = u
 dig : Dv s = true
 ne : s≠[]
 head : s.length = 1∨charI s 0≠48
 pos : 1≤u→charI s 0≠48
theorem Ade : ∀ u : Fin 10,By 0 [UInt8.ofNat (48 + u.1)] = u.1∧Dv [UInt8.ofNat (48 + u.1)] = true∧(1≤u.1→charI [UInt8.ofNat (48 + u.1)] 0≠48)∧UInt8.ofNat (48 + u.1)≠45∧(UInt8.ofNat (48 + u.1)).toNat - 48 = u.1:=by decide +kernel
theorem Nv : ∀ (n u : Nat),u≤n→DecOk u (Lib.decDigits u)
 | n,u,h=>by
  rw [Lib.decDigits]
  by_cases h10 : u < 10
  ·rw [dif_pos h10]
   obtain ⟨h1,h2,h3,_,_⟩:=Ade ⟨u,h10⟩
   exact ⟨h1,h2,by simp,.inl rfl,h3⟩
  ·rw [dif_neg h10]
   cases n with
   | zero=>omega
   | succ n =>
    have ih:=Nv n (u / 10) (by omega)
    obtain ⟨h1,h2,h3,h4,h5⟩:=Ade ⟨u % 10,by omega⟩
    simp only at h1 h2 h3 h4 h5
    have hp:=ih.pos (by omega)
    have hc : charI (Lib.decDigits (u / 10) ++ [UInt8.ofNat (48 + u % 10)]) 0 = charI (Lib.decDigits (u / 10)) 0:=by
     unfold charI
     rw [H4 (List.length_pos_iff.2 ih.ne)]
    refine ⟨?_,?_,by simp,.inr (by rw [hc]; exact hp),fun _=>by rw [hc]; exact hp⟩
    ·rw [N8,ih.val]
     unfold By
     rw [if_neg h4]
     unfold By
     rw [h5]; omega
    ·unfold Dv at h2 ⊢
     rw [List.all_append,h2]
     have:=ih.dig
     unfold Dv at this
     rw [this]; rfl
theorem Pw {n hi : Int} (h0 : 0≤n) (h1 : n≤hi) (h2 : hi≤1000000000) : Ga (Lib.itoa n) hi = (n,0):=by
 obtain ⟨u,rfl⟩ : ∃ u : Nat,n = u:=⟨n.toNat,by omega⟩
 have he : Lib.itoa (u : Int) = Lib.decDigits u:=by unfold Lib.itoa; rw [if_neg (by omega)]; simp
 rw [he]
 obtain ⟨hv,hd,hne,hh,_⟩:=Nv u u (by omega)
 obtain ⟨s,hs⟩ : ∃ s,s = Lib.decDigits u:=⟨_,rfl⟩
 rw [←hs] at hv hd hne hh ⊢
 have h45 : charI s 0≠45:=by
  cases s with
  | nil=>exact absurd rfl hne
  | cons c r =>
   have:=Ma hd c (List.mem_cons_self ..)
   show (c.toNat : Int)≠45
   omega
 have hdec : Z2 s = true:=by
  rw [←Ad6]
  unfold Ab7
  have ht : Ns s = s:=by unfold Ns; rw [if_neg (fun g=>h45 g.1.2)]
  rw [ht,hd,decide_eq_false hne]
  rcases hh with h | h
  ·rw [h]; simp
  ·rw [decide_eq_false h]; simp
 rw [Yo s (by omega) h2]
 have : Afv s hi = ((u : Int),0):=by
  unfold Afv
  rw [hdec,if_neg (by simp),if_neg h45,hv,if_pos h1]
 rw [this,if_neg (by simp)]
end Go.Proofs.YtdoogdbjiijifaaGreatDoor
namespace Go.Proofs.YtdoogdbjiijifaaGreatDoor
open Go Go.Sx
set_option maxRecDepth 100000
set_option maxHeartbeats 400000
theorem Af6 {a b : List HF} (h : a.Sublist b) : (a.flatMap F6).length≤(b.flatMap F6).length:=by
 induction h with
 | slnil=>exact Nat.le_refl _
 | cons x _ ih=>rw [List.flatMap_cons,List.length_append]; omega
 | cons_cons x _ ih=>rw [List.flatMap_cons,List.flatMap_cons,List.length_append,List.length_append]; omega
theorem Y5 (l : List HF) : (Ca l).length = (l.flatMap F6).length + 2:=by unfold Ca; rw [List.length_append]; rfl
theorem Acb {a b : List HF} (h : a.Sublist b) (hb : A7 b = 0) : A7 a = 0:=by
 rw [Ha] at hb ⊢
 obtain ⟨h1,h2,h3⟩:=hb
 have:=h.length_le
 have:=Af6 h
 rw [Y5] at h3 ⊢
 exact ⟨by omega,fun x hx=>h2 x (h.subset hx),by omega⟩
structure Ajx (l l' : List HF) : Prop where
 sub : l'.Sublist l
 again : Q8 l' = (l',0)
 chk : A7 l = 0
structure P8 (r : Rq) (l' : List HF) : Prop where
 ex : ExOk r
 con : r.method≠Ri
 bare : (r.body != [] && Aec r.method) = false
 strip : Q8 r.fields = (l',0)
 st : Ajx r.fields l'
 own : Jj l' = false
 wr : A0 r = (([⟨X4,r.host⟩,⟨Ag9,Lib.itoa r.id⟩] ++ l') ++ (if Gc r then [⟨sCL,Lib.itoa r.body.length⟩] else []),0)
 cw : A7 (A0 r).1 = 0
theorem Kn {r : Rq} (h1 : 1≤r.id) (h2 : r.id≤1000000000) (h3 : Ip r.method = true) (h4 : r.method≠Ri) (h5 : (R8 r.target).2 = 0) (h6 : Aiu r.host = true) (h7 : (B7 r).2 = 0) (h8 : r.body.length≤65536) (h9 : (r.body != [] && Aec r.method) = false) : Bt r = ([],(B7 r).1,0):=by
 unfold Bt
 rw [if_neg (by omega),if_neg (by simp [h3]),if_neg h4,if_neg (by simp [h5]),if_neg (by simp [h6]),if_neg (by simp [h7]),if_neg (by omega),if_neg (by rw [h9]; simp)]
theorem Age {r : Rq} {w : List HF} (h1 : A7 r.fields = 0) (h2 : Jj r.fields = false) (h3 : A0 r = (w,0)) (h4 : A7 w = 0) : B7 r = (w,0):=by
 unfold B7
 rw [if_neg (by simp [h1]),if_neg (by simp [h2]),h3,if_neg (by simp),h4]
theorem P8.again {r : Rq} {l' : List HF} (G : P8 r l') : Np ⟨r.id,r.method,r.target,r.host,l',r.body⟩ = Np r∧(Bt ⟨r.id,r.method,r.target,r.host,l',r.body⟩).2.2 = 0:=by
 obtain ⟨q,hq⟩ : ∃ q : Rq,q = ⟨r.id,r.method,r.target,r.host,l',r.body⟩:=⟨_,rfl⟩
 have hw : A0 q = ((A0 r).1,0):=by
  rw [G.wr,hq]
  unfold A0
  simp only
  rw [G.st.again,if_neg (by simp)]
  rfl
 have hck : B7 q = _:=Age (by rw [hq]; exact Acb G.st.sub G.st.chk) (by rw [hq]; exact G.own) hw G.cw
 have hex:=Kn (r:=q) (by rw [hq]; exact G.ex.id1) (by rw [hq]; exact G.ex.id2) (by rw [hq]; exact G.ex.method) (by rw [hq]; exact G.con) (by rw [hq]; exact G.ex.org) (by rw [hq]; exact G.ex.host) (by rw [hck]) (by rw [hq]; exact G.ex.body) (by rw [hq]; exact G.bare)
 have h0 : (Bt q).2.2 = 0:=by rw [hex]
 have hr : (Bt r).2.2 = 0:=by
  rw [Kn G.ex.id1 G.ex.id2 G.ex.method G.con G.ex.org G.ex.host G.ex.chk G.ex.body G.bare]
 rw [←hq]
 refine ⟨?_,h0⟩
 rw [Tb h0,Tb hr,hw,hq]
theorem Fl (a b : List HF) (t : List UInt8) : Bu (a ++ b) t = Bu a t ++ Bu b t:=by
 unfold Bu; rw [List.filter_append,List.map_append]
theorem Mm {l : List HF} (h : Jj l = false) {t : List UInt8} (ht : R6 t = true) : Bu l t = []:=by
 unfold Bu
 rw [List.filter_eq_nil_iff.2 ?_]; rfl
 intro x hx e
 unfold Jj at h
 rw [List.any_eq_false] at h
 refine h x hx ?_
 rw [eq_of_beq e]; exact ht
theorem Ai7 {l : List HF} (h : Jj l = false) : (l.filter fun x=>!R6 (foldF x.name)) = l:=by
 refine List.filter_eq_self.2 fun x hx=>?_
 unfold Jj at h
 rw [List.any_eq_false] at h
 simpa using h x hx
theorem Ae9 : R6 Ke = true∧R6 nId = true∧R6 nLen = true∧R6 nTE = true:=by decide
theorem Aby : foldF X4 = Ke∧foldF Ag9 = nId∧foldF sCL = nLen:=by decide
theorem P8.frame {r : Rq} {l' : List HF} (G : P8 r l') : (H5 (A0 r).1).hosts = [r.host]∧(H5 (A0 r).1).ids = [Lib.itoa r.id]∧(H5 (A0 r).1).lens = (if Gc r then [Lib.itoa r.body.length] else [])∧(H5 (A0 r).1).coded = false∧(H5 (A0 r).1).rest = l':=by
 obtain ⟨f1,f2,f3,f4,f5⟩:=Ai0 (A0 r).1
 obtain ⟨o1,o2,o3,o4⟩:=Ae9
 obtain ⟨p1,p2,p3⟩:=Aby
 rw [f1,f2,f3,f4,f5,G.wr]
 simp only
 have v : ∀ (t h i : List UInt8),Bu [⟨X4,h⟩,⟨Ag9,i⟩] t = (if Ke == t then [h] else []) ++ (if nId == t then [i] else []):=fun t h i=>by
  rw [K0,K0]
  simp only [p1,p2]
  split<;>split<;>rfl
 have w : ∀ (t : List UInt8),Bu (if Gc r then [⟨sCL,Lib.itoa (r.body.length : Int)⟩] else []) t = if Gc r && (nLen == t) then [Lib.itoa (r.body.length : Int)] else []:=fun t=>by
  cases Gc r with
  | false=>rfl
  | true =>
   simp only [if_true,Bool.true_and]
   rw [K0]
   simp only [p3]
   split<;>rfl
 refine ⟨?_,?_,?_,?_,?_⟩
 ·rw [Fl,Fl,Mm G.own o1,v,w,if_pos (by decide),if_neg (by decide),if_neg (by rw [show (nLen == Ke) = false by decide]; simp)]; rfl
 ·rw [Fl,Fl,Mm G.own o2,v,w,if_neg (by decide),if_pos (by decide),if_neg (by rw [show (nLen == nId) = false by decide]; simp)]; rfl
 ·rw [Fl,Fl,Mm G.own o3,v,w,if_neg (by decide),if_neg (by decide),show (nLen == nLen) = true by decide,Bool.and_true]; rfl
 ·rw [Fl,Fl,Mm G.own o4,v,w,if_neg (by decide),if_neg (by decide),if_neg (by rw [show (nLen == nTE) = false by decide]; simp)]; rfl
 ·rw [List.filter_append,List.filter_append,Ai7 G.own]
  have e1 : (List.filter (fun x : HF=>!R6 (foldF x.name)) [⟨X4,r.host⟩,⟨Ag9,Lib.itoa r.id⟩]) = []:=by
   rw [List.filter_cons,if_neg (by simp only [p1,o1]; simp),List.filter_cons,if_neg (by simp only [p2,o2]; simp)]; rfl
  have e2 : (List.filter (fun x : HF=>!R6 (foldF x.name)) (if Gc r then [⟨sCL,Lib.itoa (r.body.length : Int)⟩] else [])) = []:=by
   split
   ·rw [List.filter_cons,if_neg (by simp only [p3,o3]; simp)]; rfl
   ·rfl
  rw [e1,e2]; simp
def Nb (r : Rq) : List UInt8:=r.method ++ 32 :: (r.target ++ rVer)
theorem Afn (r : Rq) : (Nb r).length = r.method.length + r.target.length + 12:=by unfold Nb; simp [rVer]; omega
theorem Wr {s : List UInt8} (h : Ip s = true) : Bj s = true∧s.length≤16:=by
 unfold Ip at h
 simp only [Bool.and_eq_true,decide_eq_true_eq] at h
 exact ⟨h.2,h.1⟩
theorem sep10 : Sep 10:=⟨by decide,by decide⟩
theorem sep32 : Sep 32:=⟨by decide,by decide⟩
theorem P8.line {r : Rq} {l' : List HF} (G : P8 r l') : r.method≠[]∧r.target≠[]∧(10 : UInt8) ∉ r.method∧(32 : UInt8) ∉ r.method∧(10 : UInt8) ∉ r.target∧(32 : UInt8) ∉ r.target∧r.method.length + r.target.length + 12≤1024:=by
 obtain ⟨h1,h2⟩:=Wr G.ex.method
 obtain ⟨u1,u2,_,u4⟩:=orgF_un G.ex.org
 exact ⟨Agu h1,u2,Fm h1 Q4.1,Fm h1 Q4.2.2.1,u1.notin sep10 (by decide) (by decide),u1.notin sep32 (by decide) (by decide),by omega⟩
theorem P8.head {r : Rq} {l' : List HF} (G : P8 r l') (a : List UInt8) : Ahq (Nb r ++ (Ca (A0 r).1 ++ a)) =
  Ahr (Nb r ++ (Ca (A0 r).1 ++ a)) ⟨r.id,r.method,r.target,r.host,l',[]⟩ (((Nb r).length + (Ca (A0 r).1).length : Nat) : Int) (r.body.length : Int):=by
 obtain ⟨m1,t1,m10,m32,t10,t32,hl⟩:=G.line
 obtain ⟨b,hb⟩ : ∃ b,b = Nb r ++ (Ca (A0 r).1 ++ a):=⟨_,rfl⟩
 have hrl : Cw b = (r.method,r.target,(((Nb r).length : Nat) : Int),0):=by
  rw [hb,Afn]
  have:=Ahf (u:=Ca (A0 r).1 ++ a) m1 t1 m10 m32 t10 t32 hl
  rw [←this]
  unfold Nb; simp
 have hd : b.drop (Nb r).length = Ca (A0 r).1 ++ a:=by rw [hb,List.drop_left]
 have hcw:=(Ha _).1 G.cw
 have hhp : Ax (Ca (A0 r).1 ++ a) = ((A0 r).1,(((Ca (A0 r).1).length : Nat) : Int),0):=by
  unfold Ax
  rw [Ze (u:=a) (A0 r).1 0 _ [] (by rw [List.drop_zero]) hcw.2.1 (by omega) (by simpa using hcw.1) (by omega)]
  simp
 obtain ⟨f1,f2,f3,f4,f5⟩:=G.frame
 have hlens : (H5 (A0 r).1).lens.length≤1:=by rw [f3]; split<;>simp
 have hbad : Ai2 (H5 (A0 r).1) = false:=by
  unfold Ai2
  rw [f1,f2,f4]
  simp; omega
 have hnum : Ga (lenS (H5 (A0 r).1)) 65536 = ((r.body.length : Int),0):=by
  unfold lenS
  rw [f3]
  cases hB : Gc r with
  | true =>
   simp only [if_true]
   rw [if_neg (by simp),List.getD_cons_zero]
   exact Pw (by omega) (by have:=G.ex.body; omega) (by decide)
  | false =>
   simp only [Bool.false_eq_true,if_false]
   show Ga [48] 65536 = _
   rw [Ah4]
   have : r.body = []:=by
    unfold Gc at hB
    simp only [Bool.or_eq_false_iff] at hB
    simpa using hB.1.1.1
   rw [this]; rfl
 have hnid : Ga (Lib.itoa r.id) 1000000000 = (r.id,0):=Pw (by have:=G.ex.id1; omega) G.ex.id2 (by decide)
 rw [←hb]
 unfold Ahq
 rw [hrl]
 simp only [Int.toNat_natCast]
 rw [hd,hhp]
 simp only [ne_eq,not_true,if_false]
 unfold Aht
 rw [hbad,if_neg (by simp),hnum,f1,f2,f5]
 simp only [List.getD_cons_zero]
 rw [hnid]
 unfold Ahs
 simp only
 rw [if_neg (by decide),if_neg (by decide)]
 rw [Int.natCast_add]
end Go.Proofs.YtdoogdbjiijifaaGreatDoor
namespace Go.Proofs.YtdoogdbjiijifaaGreatDoor
open Go Go.Sx
set_option maxRecDepth 100000
set_option maxHeartbeats 400000
structure RsH where
 minor : Int
 status : Int
 reason : List UInt8
 fields : List HF
structure Ch where
 phase : Int
 line : List UInt8
 data : List UInt8
 left : Int
 trailers : List HF
structure Rs where
 method : List UInt8
 phase : Int
 infos : Int
 line : List UInt8
 head : RsH
 framing : Int
 body : List UInt8
 left : Int
 chunks : Ch
def rsH0 : RsH:=⟨0,0,[],[]⟩
def ch0 : Ch:=⟨0,[],[],0,[]⟩
def rs0 (m : List UInt8) : Rs:=⟨m,0,0,[],rsH0,0,[],0,ch0⟩
def Iu (s : List UInt8) : Int:=if (decide (1≤s.length) && decide (s.length≤10)) && Dv s then (By 0 s : Int) else -1
def F5 : List UInt8:=[72,84,84,80,47,49,46]
def V9 (w : List UInt8) : Bool :=
 decide (13≤w.length) && (w.take 7 == F5) && (w.getD 7 0 == 48 || w.getD 7 0 == 49) && (w.getD 8 0 == 32) && (w.getD 12 0 == 32) && Ci (w.drop 13) && decide (100≤Iu ((w.drop 9).take 3)) && decide (Iu ((w.drop 9).take 3)≤599)
def stH (w : List UInt8) : RsH:=⟨((w.getD 7 0).toNat : Int) - 48,Iu ((w.drop 9).take 3),w.drop 13,[]⟩
def Aq (b : List UInt8) : RsH×Int×Int :=
 if !(Ap 10 (b.take 302)).2.2 then (rsH0,0,if 302≤b.length then 3 else 10) else
 if !(Lib.hasSuffix (Ap 10 (b.take 302)).1 [13] && V9 (Lib.trimSuffix (Ap 10 (b.take 302)).1 [13])) then (rsH0,0,6) else
 if (Ax (b.drop ((Ap 10 (b.take 302)).1.length + 1))).2.2≠0 then (rsH0,0,(Ax (b.drop ((Ap 10 (b.take 302)).1.length + 1))).2.2) else
 ({ stH (Lib.trimSuffix (Ap 10 (b.take 302)).1 [13]) with fields:=(Ax (b.drop ((Ap 10 (b.take 302)).1.length + 1))).1 },((Ap 10 (b.take 302)).1.length : Int) + 1 + (Ax (b.drop ((Ap 10 (b.take 302)).1.length + 1))).2.1,0)
def Br : List (List UInt8)→Option (List (List UInt8))
 | []=>some []
 | v :: r=>if (Ba v).2 = 0 then (Br r).map fun l=>(Ba v).1.map foldF ++ l else none
def nTEnc : List UInt8:=[116,114,97,110,115,102,101,114,45,101,110,99,111,100,105,110,103]
def Gv : List UInt8:=[99,104,117,110,107,101,100]
def Pi : List UInt8:=[72,69,65,68]
def Jh (h : RsH) : Int:=if (h.minor≠0∧h.minor≠1)∨h.status < 100∨599 < h.status then 6 else A7 h.fields
def Ep (l : List (List UInt8)) : Int×Int :=
 match l with
 | []=>(0,6)
 | x :: r=>if (x :: r).all (fun s=>decide (0≤Iu s) && (Iu s == Iu x)) then (if 65536 < Iu x then (0,3) else (Iu x,0)) else (0,6)
def Wg (m : List UInt8) (st : Int) : Bool:=((m == Pi || decide (st < 200)) || st == 204) || st == 304
def Au (m : List UInt8) (h : RsH) : Int×Int×Int :=
 if !Bj m then (0,0,2) else if Jh h≠0 then (0,0,Jh h) else
 if Wg m h.status then (0,0,0) else
 if (Bu h.fields nTEnc)≠[] then
  (if (Bu h.fields nLen)≠[]∨h.minor = 0∨Br (Bu h.fields nTEnc)≠some [Gv] then (0,0,6) else (2,0,0)) else
 if (Bu h.fields nLen)≠[] then
  (match Br (Bu h.fields nLen) with
   | none=>(0,0,6)
   | some l=>if (Ep l).2 = 0 then (1,(Ep l).1,0) else (0,0,(Ep l).2)) else (3,0,0)
def D7 (c : UInt8) : Int:=Dq (c.toNat : Int)
def Ez : List UInt8→Nat→Nat→Nat×Nat
 | [],k,n=>(k,n)
 | c :: r,k,n=>if 0≤D7 c then Ez r (k + 1) (16 * n + (D7 c).toNat) else (k,n)
def A3 (l : List UInt8) : Nat×Nat:=Ez l 0 0
def Cq (l : List UInt8) : Bool:=decide (l≠[]) && (l.getD (l.length - 1) 0 == 13)
def Ct (l : List UInt8) (c : UInt8) : Int :=
 if Cq l then 6 else
 if c = 13 then (if (A3 l).1 = 0 then 6 else 0) else
 if (A3 l).1 = l.length then
  (if 0≤D7 c∧(A3 l).1 = 8 then 3 else if D7 c < 0∧(c≠59∨(A3 l).1 = 0) then 6 else if 200≤l.length then 3 else 0)
 else if !okB c then 6 else if 200≤l.length then 3 else 0
def Kv : List (List UInt8):=[[99,111,110,110,101,99,116,105,111,110],[99,111,110,116,101,110,116,45,108,101,110,103,116,104],[104,111,115,116],[116,114,97,105,108,101,114],nTEnc]
def Um (l : List HF) : Bool:=l.any fun x=>inF Kv (foldF x.name)
def chS (s : Ch) (c : UInt8) : Ch×Int :=
 if s.phase = 0 then
  (if c = 10∧Cq s.line = true then
   (if (A3 s.line).2 = 0 then (⟨3,[],s.data,s.left,s.trailers⟩,0) else if 65536 < s.data.length + (A3 s.line).2 then (s,3) else (⟨1,[],s.data,(A3 s.line).2,s.trailers⟩,0))
   else if Ct s.line c≠0 then (s,Ct s.line c) else (⟨0,s.line ++ [c],s.data,s.left,s.trailers⟩,0))
 else if s.phase = 1 then (⟨if s.left - 1 = 0 then 2 else 1,s.line,s.data ++ [c],s.left - 1,s.trailers⟩,0)
 else if s.phase = 2 then
  (if s.line = []∧c = 13 then (⟨2,[13],s.data,s.left,s.trailers⟩,0) else if s.line = [13]∧c = 10 then (⟨0,[],s.data,s.left,s.trailers⟩,0) else (s,6))
 else
  (if (Ax (s.line ++ [c])).2.2 = 10 then (⟨3,s.line ++ [c],s.data,s.left,s.trailers⟩,0) else
   if (Ax (s.line ++ [c])).2.2≠0 then (s,(Ax (s.line ++ [c])).2.2) else
   if Um (Ax (s.line ++ [c])).1 then (s,6) else
   if A7 (Ax (s.line ++ [c])).1≠0 then (s,A7 (Ax (s.line ++ [c])).1) else
   (⟨4,[],s.data,s.left,(Ax (s.line ++ [c])).1⟩,0))
def Fh (l : List UInt8) : Prop:=∀ i,i < l.length→Ct (l.take i) (l.getD i 0) = 0
instance (l : List UInt8) : Decidable (Fh l):=by unfold Fh; exact inferInstance
structure H7 (s : Ch) : Prop where
 data : s.data.length≤65536
 left : s.phase = 1↔s.left≠0
 trail : s.phase = 4∨s.trailers = []
 ph : s.phase = 0∨s.phase = 1∨s.phase = 2∨s.phase = 3∨s.phase = 4
 p0 : s.phase = 0→Fh s.line
 p1 : s.phase = 1→s.line = []∧1≤s.left∧s.left≤65536 - (s.data.length : Int)
 p2 : s.phase = 2→(s.line = []∨s.line = [13])∧s.data≠[]
 p3 : s.phase = 3→(Ax s.line).2.2 = 10
 p4 : s.phase = 4→s.line = []∧A7 s.trailers = 0∧Um s.trailers = false
theorem Y7 {l : List UInt8} {c : UInt8} (h : Fh l) (hc : Ct l c = 0) : Fh (l ++ [c]):=fun i hi=>by
 rw [List.length_append] at hi
 by_cases h1 : i < l.length
 ·rw [List.take_append_of_le_length (by omega),H4 h1]
  exact h i h1
 ·have : i = l.length:=by simp only [List.length_cons,List.length_nil] at hi; omega
  subst this
  rw [List.take_left,List.getD_eq_getElem?_getD,List.getElem?_append_right (by omega)]
  simpa using hc
theorem Abu : Ax [] = ([],0,10):=rfl
theorem chOk0 : H7 ch0:=⟨by simp [ch0],by simp [ch0],.inr rfl,.inl rfl,fun _ i hi=>by simp [ch0] at hi,fun h=>by simp [ch0] at h,fun h=>by simp [ch0] at h,fun h=>by simp [ch0] at h,fun h=>by simp [ch0] at h⟩
theorem O9 {s t : Ch} {c : UInt8} (h : H7 s) (h4 : s.phase≠4) (hs : chS s c = (t,0)) : H7 t:=by
 unfold chS at hs
 have htr : s.trailers = []:=h.trail.resolve_left h4
 split at hs
 ·rename_i h0
  have hl : s.left = 0:=by
   rcases Decidable.em (s.left = 0) with e | e
   ·exact e
   ·have:=h.left.2 e; omega
  split at hs
  ·split at hs
   ·have:=(Prod.mk.inj hs).1; subst this
    exact ⟨h.data,by simp [hl],.inr htr,by simp,fun g=>by simp at g,fun g=>by simp at g,fun g=>by simp at g,fun _=>by rw [Abu],fun g=>by simp at g⟩
   ·rename_i hn
    split at hs
    ·have:=(Prod.mk.inj hs).2; cases this
    ·rename_i hd
     have:=(Prod.mk.inj hs).1; subst this
     refine ⟨h.data,?_,.inr htr,by simp,fun g=>by simp at g,fun _=>⟨rfl,?_,?_⟩,fun g=>by simp at g,fun g=>by simp at g,fun g=>by simp at g⟩
     ·simp only [true_iff]; show ((A3 s.line).2 : Int)≠0; omega
     ·show 1≤((A3 s.line).2 : Int); omega
     ·show ((A3 s.line).2 : Int)≤65536 - (s.data.length : Int); omega
  ·split at hs
   ·rename_i g; have:=(Prod.mk.inj hs).2; exact absurd this g
   ·rename_i g
    have:=(Prod.mk.inj hs).1; subst this
    exact ⟨h.data,by simp [hl],.inr htr,by simp,fun _=>Y7 (h.p0 h0) (by simpa using g),fun g=>by simp at g,fun g=>by simp at g,fun g=>by simp at g,fun g=>by simp at g⟩
 split at hs
 ·rename_i h1
  obtain ⟨q1,q2,q3⟩:=h.p1 h1
  have:=(Prod.mk.inj hs).1; subst this
  by_cases hz : s.left - 1 = 0
  ·rw [if_pos hz]
   exact ⟨by simp only [List.length_append,List.length_cons,List.length_nil]; omega,by simp; omega,.inr htr,by simp,fun g=>by simp at g,fun g=>by simp at g,fun _=>⟨.inl q1,by simp⟩,fun g=>by simp at g,fun g=>by simp at g⟩
  ·rw [if_neg hz]
   exact ⟨by simp only [List.length_append,List.length_cons,List.length_nil]; omega,by simp; omega,.inr htr,by simp,fun g=>by simp at g,fun _=>⟨q1,by simp only; omega,by simp only [List.length_append,List.length_cons,List.length_nil]; omega⟩,fun g=>by simp at g,fun g=>by simp at g,fun g=>by simp at g⟩
 split at hs
 ·rename_i h2
  obtain ⟨q1,q2⟩:=h.p2 h2
  have hl : s.left = 0:=by
   rcases Decidable.em (s.left = 0) with e | e
   ·exact e
   ·have:=h.left.2 e; omega
  split at hs
  ·have:=(Prod.mk.inj hs).1; subst this
   exact ⟨h.data,by simp [hl],.inr htr,by simp,fun g=>by simp at g,fun g=>by simp at g,fun _=>⟨.inr rfl,q2⟩,fun g=>by simp at g,fun g=>by simp at g⟩
  ·split at hs
   ·have:=(Prod.mk.inj hs).1; subst this
    exact ⟨h.data,by simp [hl],.inr htr,by simp,fun _ i hi=>by simp at hi,fun g=>by simp at g,fun g=>by simp at g,fun g=>by simp at g,fun g=>by simp at g⟩
   ·have:=(Prod.mk.inj hs).2; cases this
 rename_i g0 g1 g2
 have h3 : s.phase = 3:=by rcases h.ph with g | g | g | g | g<;>omega
 have hl : s.left = 0:=by
  rcases Decidable.em (s.left = 0) with e | e
  ·exact e
  ·have:=h.left.2 e; omega
 split at hs
 ·rename_i hm
  have:=(Prod.mk.inj hs).1; subst this
  exact ⟨h.data,by simp [hl],.inr htr,by simp,fun g=>by simp at g,fun g=>by simp at g,fun g=>by simp at g,fun _=>hm,fun g=>by simp at g⟩
 split at hs
 ·rename_i g; exact absurd (Prod.mk.inj hs).2 g
 split at hs
 ·have:=(Prod.mk.inj hs).2; cases this
 rename_i hb
 split at hs
 ·rename_i g; exact absurd (Prod.mk.inj hs).2 g
 rename_i hc
 have:=(Prod.mk.inj hs).1; subst this
 exact ⟨h.data,by simp [hl],.inl rfl,by simp,fun g=>by simp at g,fun g=>by simp at g,fun g=>by simp at g,fun g=>by simp at g,fun _=>⟨rfl,by simpa using hc,by simpa using hb⟩⟩
def Bw (s : Rs) (h : RsH) : Rs×Int :=
 if (Au s.method h).2.2≠0 then (s,(Au s.method h).2.2) else
 (⟨s.method,if (Au s.method h).1 = 0∨((Au s.method h).1 = 1∧(Au s.method h).2.1 = 0) then 2 else 1,s.infos,[],h,(Au s.method h).1,s.body,(Au s.method h).2.1,s.chunks⟩,0)
def rsS (s : Rs) (c : UInt8) : Rs×Int :=
 if s.phase = 0 then
  (if (Aq (s.line ++ [c])).2.2 = 10 then ({ s with line:=s.line ++ [c] },0) else
   if (Aq (s.line ++ [c])).2.2≠0 then (s,(Aq (s.line ++ [c])).2.2) else
   if (Aq (s.line ++ [c])).1.status = 101 then (s,6) else
   if 200≤(Aq (s.line ++ [c])).1.status then Bw s (Aq (s.line ++ [c])).1 else
   if 10 < s.infos + 1 then (s,3) else ({ s with line:=[],infos:=s.infos + 1 },0))
 else if s.framing = 2 then
  (if (chS s.chunks c).2≠0 then (s,(chS s.chunks c).2) else ({ s with chunks:=(chS s.chunks c).1,phase:=if (chS s.chunks c).1.phase = 4 then 2 else s.phase },0))
 else if 65536≤s.body.length then (s,3) else
 if s.framing = 1 then ({ s with body:=s.body ++ [c],left:=s.left - 1,phase:=if s.left - 1 = 0 then 2 else s.phase },0) else ({ s with body:=s.body ++ [c] },0)
def Af (s : Rs) : List UInt8→Rs×Nat×Int
 | []=>(s,0,0)
 | c :: b=>if s.phase = 2 then (s,0,0) else if (rsS s c).2≠0 then (s,0,(rsS s c).2) else ((Af (rsS s c).1 b).1,(Af (rsS s c).1 b).2.1 + 1,(Af (rsS s c).1 b).2.2)
structure C7 (s : Rs) : Prop where
 tok : Bj s.method = true
 i0 : 0≤s.infos
 i1 : s.infos≤10
 ph : s.phase = 0∨s.phase = 1∨s.phase = 2
 p0 : s.phase = 0→(Aq s.line).2.2 = 10∧s.head = rsH0∧s.framing = 0∧s.body = []∧s.left = 0∧s.chunks = ch0
 p1 : s.phase≠0→s.line = []∧200≤s.head.status∧Ci s.head.reason = true∧s.head.reason.length≤287∧(Au s.method s.head).2.2 = 0∧(Au s.method s.head).1 = s.framing∧
  (s.framing≠2→s.chunks = ch0)∧(s.framing≠1→s.left = 0)
 f0 : s.phase≠0→s.framing = 0→s.phase = 2∧s.body = []
 f1 : s.phase≠0→s.framing = 1→0≤s.left∧s.left≤(Au s.method s.head).2.1∧(s.body.length : Int) = (Au s.method s.head).2.1 - s.left∧(s.phase = 2↔s.left = 0)
 f2 : s.phase≠0→s.framing = 2→s.body = []∧H7 s.chunks∧(s.phase = 2↔s.chunks.phase = 4)
 f3 : s.phase≠0→s.framing = 3→s.body.length≤65536
theorem Lm (m : List UInt8) (h : RsH) : (Au m h).1 = 0∨(Au m h).1 = 1∨(Au m h).1 = 2∨(Au m h).1 = 3:=by
 unfold Au
 split
 ·simp
 split
 ·simp
 split
 ·simp
 split
 ·split<;>simp
 split
 ·split
  ·simp
  ·split<;>simp
 ·simp
theorem Aax (l : List (List UInt8)) : 0≤(Ep l).1∧(Ep l).1≤65536:=by
 unfold Ep
 split
 ·simp
 ·split
  ·rename_i h
   split
   ·simp
   ·rename_i g
    rw [List.all_cons,Bool.and_eq_true,Bool.and_eq_true] at h
    have:=of_decide_eq_true h.1.1
    exact ⟨this,by show Iu _≤_; omega⟩
  ·simp
theorem Jc (m : List UInt8) (h : RsH) : 0≤(Au m h).2.1∧(Au m h).2.1≤65536∧((Au m h).1≠1→(Au m h).2.1 = 0):=by
 unfold Au
 split
 ·simp
 split
 ·simp
 split
 ·simp
 split
 ·split<;>simp
 split
 ·split
  ·simp
  ·rename_i l _
   have:=Aax l
   split
   ·exact ⟨this.1,this.2,fun g=>absurd rfl g⟩
   ·simp
 ·simp
theorem Uk (b : List UInt8) (h : (Ap 10 (b.take 302)).2.2 = true) : (Ap 10 (b.take 302)).1.length≤301:=by
 obtain ⟨h1,h2,h3⟩:=Vo 10 (b.take 302)
 rw [h,if_pos rfl] at h2
 have:=congrArg List.length h2
 rw [List.length_take,List.length_append,List.length_cons] at this
 omega
theorem Aau {w : List UInt8} (h : V9 w = true) : Ci (stH w).reason = true∧100≤(stH w).status∧(stH w).status≤599∧(stH w).reason.length = w.length - 13∧13≤w.length:=by
 unfold V9 at h
 simp only [Bool.and_eq_true,decide_eq_true_eq] at h
 obtain ⟨⟨⟨⟨⟨⟨⟨a,_⟩,_⟩,_⟩,_⟩,b⟩,c⟩,d⟩:=h
 exact ⟨b,c,d,by show (w.drop 13).length = _; rw [List.length_drop],a⟩
theorem Abc {b : List UInt8} (h : (Aq b).2.2 = 0) : Ci (Aq b).1.reason = true∧100≤(Aq b).1.status∧(Aq b).1.reason.length≤287:=by
 unfold Aq at h ⊢
 split at h
 ·split at h<;>cases h
 rename_i g1
 split at h
 ·cases h
 rename_i g2
 split at h
 ·rename_i g; exact absurd h g
 rename_i g3
 rw [if_neg g1,if_neg g2,if_neg g3]
 have g1 : (Ap 10 (b.take 302)).2.2 = true:=by simpa using g1
 have g2 : (Lib.hasSuffix (Ap 10 (b.take 302)).1 [13] && V9 (Lib.trimSuffix (Ap 10 (b.take 302)).1 [13])) = true:=by simpa using g2
 rw [Bool.and_eq_true] at g2
 obtain ⟨s1,s2,s3,s4,s5⟩:=Aau g2.2
 have hl:=Uk b g1
 have hlt : (Lib.trimSuffix (Ap 10 (b.take 302)).1 [13]).length≤300:=by
  unfold Lib.trimSuffix
  rw [if_pos g2.1,List.length_take]
  simp only [List.length_cons,List.length_nil]
  omega
 exact ⟨s1,s2,by show (stH _).reason.length≤287; rw [s4]; omega⟩
theorem Ro : (Aq []).2.2 = 10:=rfl
theorem Kc {m : List UInt8} (h : Bj m = true) : C7 (rs0 m) :=
 ⟨h,by simp [rs0],by simp [rs0],.inl rfl,fun _=>⟨Ro,rfl,rfl,rfl,rfl,rfl⟩,fun g=>absurd rfl g,fun g=>absurd rfl g,fun g=>absurd rfl g,fun g=>absurd rfl g,fun g=>absurd rfl g⟩
theorem Rj {s t : Rs} {c : UInt8} (h : C7 s) (h2 : s.phase≠2) (hs : rsS s c = (t,0)) : C7 t:=by
 unfold rsS at hs
 split at hs
 ·rename_i h0
  obtain ⟨p1,p2,p3,p4,p5,p6⟩:=h.p0 h0
  split at hs
  ·rename_i hm
   have:=(Prod.mk.inj hs).1; subst this
   exact ⟨h.tok,h.i0,h.i1,h.ph,fun _=>⟨hm,p2,p3,p4,p5,p6⟩,fun g=>absurd h0 g,fun g=>absurd h0 g,fun g=>absurd h0 g,fun g=>absurd h0 g,fun g=>absurd h0 g⟩
  split at hs
  ·rename_i g; exact absurd (Prod.mk.inj hs).2 g
  rename_i hok
  have hok : (Aq (s.line ++ [c])).2.2 = 0:=by simpa using hok
  split at hs
  ·have:=(Prod.mk.inj hs).2; cases this
  split at hs
  ·rename_i hst
   unfold Bw at hs
   split at hs
   ·rename_i g; exact absurd (Prod.mk.inj hs).2 g
   rename_i hf
   have hf : (Au s.method (Aq (s.line ++ [c])).1).2.2 = 0:=by simpa using hf
   have:=(Prod.mk.inj hs).1; subst this
   obtain ⟨q1,q2,q3⟩:=Abc hok
   obtain ⟨r1,r2,r3⟩:=Jc s.method (Aq (s.line ++ [c])).1
   obtain ⟨k,hk⟩ : ∃ k,k = Au s.method (Aq (s.line ++ [c])).1:=⟨_,rfl⟩
   obtain ⟨H,hH⟩ : ∃ H,H = (Aq (s.line ++ [c])).1:=⟨_,rfl⟩
   rw [←hH] at hk hst q1 q2 q3
   rw [←hH,←hk] at hf r1 r2 r3
   rw [←hH,←hk]
   clear hs hok hH
   refine ⟨h.tok,h.i0,h.i1,by simp only; split<;>simp,fun g=>?_,fun _=>⟨rfl,hst,q1,q3,by show (Au s.method H).2.2 = 0; rw [←hk]; exact hf,by show (Au s.method H).1 = _; rw [←hk],fun _=>p6,fun g=>r3 g⟩,fun _ g=>?_,fun _ g=>?_,fun _ g=>?_,fun _ _=>?_⟩
   ·simp only at g; split at g<;>cases g
   ·have g : k.1 = 0:=g
    exact ⟨by simp only; rw [if_pos (.inl g)],p4⟩
   ·have g : k.1 = 1:=g
    refine ⟨r1,by show k.2.1≤(Au s.method H).2.1; rw [←hk]; omega,?_,?_⟩
    ·show (s.body.length : Int) = (Au s.method H).2.1 - k.2.1
     rw [←hk,p4]; simp
    ·show (if k.1 = 0∨(k.1 = 1∧k.2.1 = 0) then (2 : Int) else 1) = 2↔k.2.1 = 0
     by_cases hz : k.2.1 = 0
     ·rw [if_pos (.inr ⟨g,hz⟩)]; simp [hz]
     ·rw [if_neg (by rintro (e | e)<;>omega)]; simp [hz]
   ·have g : k.1 = 2:=g
    refine ⟨p4,by show H7 s.chunks; rw [p6]; exact chOk0,?_⟩
    show (if k.1 = 0∨(k.1 = 1∧k.2.1 = 0) then (2 : Int) else 1) = 2↔s.chunks.phase = 4
    rw [if_neg (by rintro (e | e)<;>omega),p6]; simp [ch0]
   ·show s.body.length≤65536; rw [p4]; simp
  split at hs
  ·have:=(Prod.mk.inj hs).2; cases this
  ·rename_i hi
   have:=(Prod.mk.inj hs).1; subst this
   exact ⟨h.tok,by show 0≤s.infos + 1; have:=h.i0; omega,by show s.infos + 1≤10; omega,h.ph,fun _=>⟨Ro,p2,p3,p4,p5,p6⟩,fun g=>absurd h0 g,fun g=>absurd h0 g,fun g=>absurd h0 g,fun g=>absurd h0 g,fun g=>absurd h0 g⟩
 rename_i h0
 have h1 : s.phase = 1:=by rcases h.ph with g | g | g<;>omega
 obtain ⟨p1,p2,p3,p4,p5,p6,p7,p8⟩:=h.p1 h0
 split at hs
 ·rename_i hf
  obtain ⟨q1,q2,q3⟩:=h.f2 h0 hf
  have hc4 : s.chunks.phase≠4:=fun e=>by have:=q3.2 e; omega
  split at hs
  ·rename_i g; exact absurd (Prod.mk.inj hs).2 g
  rename_i g
  have g : (chS s.chunks c).2 = 0:=by simpa using g
  have hok : H7 (chS s.chunks c).1:=O9 q2 hc4 (by rw [←g])
  have:=(Prod.mk.inj hs).1; subst this
  refine ⟨h.tok,h.i0,h.i1,by simp only; split<;>simp [h1],fun e=>?_,fun _=>⟨p1,p2,p3,p4,p5,p6,fun e=>absurd hf e,p8⟩,fun _ e=>?_,fun _ e=>?_,fun _ _=>⟨q1,hok,?_⟩,fun _ e=>?_⟩
  ·simp only at e; split at e<;>omega
  ·have e : s.framing = 0:=e; omega
  ·have e : s.framing = 1:=e; omega
  ·show (if (chS s.chunks c).1.phase = 4 then (2 : Int) else s.phase) = 2↔(chS s.chunks c).1.phase = 4
   by_cases e : (chS s.chunks c).1.phase = 4
   ·rw [if_pos e]; simp [e]
   ·rw [if_neg e]; simp [e,h1]
  ·have e : s.framing = 3:=e; omega
 rename_i hf2
 split at hs
 ·have:=(Prod.mk.inj hs).2; cases this
 rename_i hb
 split at hs
 ·rename_i hf
  obtain ⟨q1,q2,q3,q4⟩:=h.f1 h0 hf
  have hl : s.left≠0:=fun e=>by have:=q4.2 e; omega
  have:=(Prod.mk.inj hs).1; subst this
  refine ⟨h.tok,h.i0,h.i1,by simp only; split<;>simp [h1],fun e=>?_,fun _=>⟨p1,p2,p3,p4,p5,p6,p7,fun e=>absurd hf e⟩,fun _ e=>?_,fun _ _=>⟨by show 0≤s.left - 1; omega,by show s.left - 1≤(Au s.method s.head).2.1; omega,?_,?_⟩,fun _ e=>?_,fun _ e=>?_⟩
  ·simp only at e; split at e<;>omega
  ·have e : s.framing = 0:=e; omega
  ·show ((s.body ++ [c]).length : Int) = (Au s.method s.head).2.1 - (s.left - 1)
   rw [List.length_append]; simp only [List.length_cons,List.length_nil]; omega
  ·show (if s.left - 1 = 0 then (2 : Int) else s.phase) = 2↔s.left - 1 = 0
   by_cases e : s.left - 1 = 0
   ·rw [if_pos e]; simp [e]
   ·rw [if_neg e]; simp [e,h1]
  ·have e : s.framing = 2:=e; omega
  ·have e : s.framing = 3:=e; omega
 ·rename_i hf1
  have:=(Prod.mk.inj hs).1; subst this
  refine ⟨h.tok,h.i0,h.i1,h.ph,fun e=>absurd e h0,fun _=>⟨p1,p2,p3,p4,p5,p6,p7,p8⟩,fun _ e=>?_,fun _ e=>absurd e hf1,fun _ e=>absurd e hf2,fun _ _=>?_⟩
  ·have:=(h.f0 h0 e).1; omega
  ·show (s.body ++ [c]).length≤65536
   rw [List.length_append]; simp only [List.length_cons,List.length_nil]; omega
end Go.Proofs.YtdoogdbjiijifaaGreatDoor
