/- Part of the proofs of the statements about responses and messages (layers 9 and 10): a symbolic executor over the code, that it is sound, and contracts of functions; it has no conditions of its own. -/
import Derived.Test.YtdoogdbjiijifaaGreatDoorE4Pbb
namespace Go.Proofs.YtdoogdbjiijifaaGreatDoor
open Go Go.Sx
set_option maxRecDepth 100000
set_option maxHeartbeats 400000
inductive Un : List UInt8->Prop
 | nil : Un []
 | esc (a b : UInt8) (s : List UInt8) : 0<=Dq (a.toNat : Int)->0<=Dq (b.toNat : Int)->Un s->Un (37 :: a :: b :: s)
 | one (c : UInt8) (s : List UInt8) : (G3 c.toNat≠0\/c = 63)->Un s->Un (c :: s)
inductive Nu : List UInt8->Prop
 | nil : Nu []
 | esc (v : Nat) (s : List UInt8) : v < 256->G3 v≠1->Nu s->Nu (37 :: Ag4.getD (v / 16) 0 :: Ag4.getD (v % 16) 0 :: s)
 | one (c : UInt8) (s : List UInt8) : (G3 c.toNat≠0\/c = 63)->Nu s->Nu (c :: s)
inductive NrR : List UInt8->List UInt8->Prop
 | nil : NrR [] []
 | esc (a b : UInt8) (s t : List UInt8) : 0<=Dq (a.toNat : Int)->0<=Dq (b.toNat : Int)->NrR s t->NrR (37 :: a :: b :: s) (escO (16 * Dq (a.toNat : Int) + Dq (b.toNat : Int)) ++ t)
 | one (c : UInt8) (s t : List UInt8) : (G3 c.toNat≠0\/c = 63)->NrR s t->NrR (c :: s) (c :: t)
theorem Q8 (s : List UInt8) : ∀ (m i e r : Nat),s.length - i<=m->J1 s i e = some r->Un (s.drop i)
 | m,i,e,r,hm,h=>by
  by_cases hl : i < s.length
  ·cases m with
   | zero=>omega
   | succ m =>
    cases he : Tw s i with
    | true =>
     rw [Aiw hl he] at h
     have hp : Aju s i:=of_decide_eq_true he
     have ih:=Q8 s m (i + 3) e r (by omega) h
     have d0:=Cl hl
     have d1:=Cl (show i + 1 < s.length by have:=hp.1; omega)
     have d2:=Cl (show i + 1 + 1 < s.length by have:=hp.1; omega)
     rw [d0,d1,d2]
     have h37 : s.getD i 0 = 37:=UInt8.toNat_inj.1 (by have:=hp.2.1; unfold charI at this; show (s.getD i 0).toNat = 37; omega)
     rw [h37]
     exact Un.esc _ _ _ hp.2.2.1 hp.2.2.2 ih
    | false =>
     rw [Cl hl]
     by_cases h63 : charI s i = 63
     ·rw [Af5 hl he h63] at h
      exact Un.one _ _ (.inr (UInt8.toNat_inj.1 (by unfold charI at h63; show (s.getD i 0).toNat = 63; omega))) (Q8 s m (i + 1) _ r (by omega) h)
     ·by_cases hk : G3 (charI s i).toNat = 0
      ·rw [Aix hl he h63 hk] at h; cases h
      ·rw [Af4 hl he h63 hk] at h
       exact Un.one _ _ (.inl (by unfold charI at hk; simpa using hk)) (Q8 s m (i + 1) _ r (by omega) h)
  ·rw [List.drop_eq_nil_of_le (by omega)]; exact Un.nil
theorem dig_val : ∀ d : Fin 16,Dq ((Ag4.getD d.1 0).toNat : Int) = (d.1 : Int):=by decide
theorem Aau {d : Nat} (h : d < 16) : Dq ((Ag4.getD d 0).toNat : Int) = (d : Int):=dig_val ⟨d,h⟩
structure Sep (c : UInt8) : Prop where
 n37 : c≠37
 val : ¬ 0<=Dq (c.toNat : Int)
theorem Un.cut {c : UInt8} (hc : Sep c) {u : List UInt8} (h : Un u) : ∀ a b,u = a ++ c :: b->Un a/\Un b:=by
 induction h with
 | nil=>intro a b h; simp at h
 | esc x y s hx hy _ ih =>
  intro a b h
  match a,h with
  | [],h=>exact absurd (List.cons.inj h).1.symm hc.n37
  | [p],h=>have:=(List.cons.inj (List.cons.inj h).2).1; exact absurd (by rw [<-this]; exact hx) hc.val
  | [p,q],h=>have:=(List.cons.inj (List.cons.inj (List.cons.inj h).2).2).1; exact absurd (by rw [<-this]; exact hy) hc.val
  | p :: q :: r :: a,h =>
   simp only [List.cons_append,List.cons.injEq] at h
   obtain ⟨rfl,rfl,rfl,h⟩:=h
   obtain ⟨h1,h2⟩:=ih a b h
   exact ⟨.esc _ _ _ hx hy h1,h2⟩
 | one x s hx hs ih =>
  intro a b h
  match a,h with
  | [],h=>rw [(List.cons.inj h).2] at hs; exact ⟨.nil,hs⟩
  | p :: a,h =>
   simp only [List.cons_append,List.cons.injEq] at h
   obtain ⟨rfl,h⟩:=h
   obtain ⟨h1,h2⟩:=ih a b h
   exact ⟨.one _ _ hx h1,h2⟩
theorem Nu.cut {c : UInt8} (hc : Sep c) {u : List UInt8} (h : Nu u) : ∀ a b,u = a ++ c :: b->Nu a/\Nu b:=by
 induction h with
 | nil=>intro a b h; simp at h
 | esc v s hv hk _ ih =>
  intro a b h
  match a,h with
  | [],h=>exact absurd (List.cons.inj h).1.symm hc.n37
  | [p],h=>have:=(List.cons.inj (List.cons.inj h).2).1; exact absurd (by rw [<-this,Aau (by omega)]; omega) hc.val
  | [p,q],h=>have:=(List.cons.inj (List.cons.inj (List.cons.inj h).2).2).1; exact absurd (by rw [<-this,Aau (by omega)]; omega) hc.val
  | p :: q :: r :: a,h =>
   simp only [List.cons_append,List.cons.injEq] at h
   obtain ⟨rfl,rfl,rfl,h⟩:=h
   obtain ⟨h1,h2⟩:=ih a b h
   exact ⟨.esc _ _ hv hk h1,h2⟩
 | one x s hx hs ih =>
  intro a b h
  match a,h with
  | [],h=>rw [(List.cons.inj h).2] at hs; exact ⟨.nil,hs⟩
  | p :: a,h =>
   simp only [List.cons_append,List.cons.injEq] at h
   obtain ⟨rfl,h⟩:=h
   obtain ⟨h1,h2⟩:=ih a b h
   exact ⟨.one _ _ hx h1,h2⟩
theorem Nu.app {a b : List UInt8} (h : Nu a) (hb : Nu b) : Nu (a ++ b):=by
 induction h with
 | nil=>exact hb
 | esc v s hv hk _ ih=>exact .esc _ _ hv hk ih
 | one c s hc _ ih=>exact .one _ _ hc ih
theorem Wm (c : UInt8) (s : List UInt8) : c ∉ (Ap c s).1/\s = (Ap c s).1 ++ (if (Ap c s).2.2 then c :: (Ap c s).2.1 else [])/\((Ap c s).2.2 = false->(Ap c s).2.1 = []):=by
 induction s with
 | nil=>simp [Ap]
 | cons b r ih =>
  rw [show Ap c (b :: r) = if b == c then ([],r,true) else (b :: (Ap c r).1,(Ap c r).2) from rfl]
  by_cases hb : b = c
  ·rw [if_pos (by simpa using hb)]; simp [hb]
  ·rw [if_neg (by simpa using hb)]
   obtain ⟨h1,h2,h3⟩:=ih
   refine ⟨?_,?_,h3⟩
   ·rw [List.mem_cons,not_or]; exact ⟨fun e=>hb e.symm,h1⟩
   ·show b :: r = b :: ((Ap c r).1 ++ _)
    rw [<-h2]
theorem Kw {c : UInt8} : ∀ {a : List UInt8},c ∉ a->∀ b,Ap c (a ++ c :: b) = (a,b,true)
 | [],_,b=>by simp [Ap]
 | x :: a,h,b=>by
  rw [List.mem_cons,not_or] at h
  show (if x == c then ([],a ++ c :: b,true) else (x :: (Ap c (a ++ c :: b)).1,(Ap c (a ++ c :: b)).2)) = _
  rw [if_neg (by simpa using fun e=>h.1 e.symm),Kw h.2 b]
theorem Wn {c : UInt8} : ∀ {a : List UInt8},c ∉ a->Ap c a = (a,[],false)
 | [],_=>by simp [Ap]
 | x :: a,h=>by
  rw [List.mem_cons,not_or] at h
  show (if x == c then _ else _) = _
  rw [if_neg (by simpa using fun e=>h.1 e.symm),Wn h.2]
structure Seg (x : List UInt8) : Prop where
 nu : Nu x
 n47 : (47 : UInt8) ∉ x
 n63 : (63 : UInt8) ∉ x
structure Good (x : List UInt8) : Prop where
 seg : Seg x
 d1 : x≠[46]
 d2 : x≠[46,46]
theorem Seg.nil : Seg []:=⟨.nil,by simp,by simp⟩
theorem Good.nil : Good []:=⟨.nil,by simp,by simp⟩
def flat (L : List (List UInt8)) : List UInt8:=L.flatMap fun x=>47 :: x
structure Cleaned (s t : List UInt8) (L : List (List UInt8)) (Q : List UInt8) (hb : Bool) : Prop where
 eq : t = flat L ++ (if hb then 63 :: Q else [])
 ne : L≠[]
 good : ∀ x∈L,Good x
 q : Nu Q
 q0 : hb = false->Q = []
 len : t.length<=s.length
 s500 : s.length<=500
 sp : L0 t = (flat L,Q,hb,0)
 has : (L0 s).2.2 = (hb,0)
 again : cleanF t = (t,0)
theorem orgF_un {s : List UInt8} (h : (Sw s).2 = 0) : Un s/\s≠[]/\charI s 0 = 47/\s.length<=500:=by
 have hl:=Aiy h
 unfold Sw at h
 rw [if_neg (by omega),pre47] at h
 split at h
 ·cases h
 rename_i h0
 have h0 : s≠[]/\charI s 0 = 47:=by simpa using h0
 cases ho : J1 s 0 s.length with
 | none=>rw [ho] at h; cases h
 | some r =>
  have:=Q8 s s.length 0 s.length r (by omega) ho
  rw [List.drop_zero] at this
  exact ⟨this,h0.1,h0.2,hl⟩
end Go.Proofs.YtdoogdbjiijifaaGreatDoor
namespace Go.Proofs.YtdoogdbjiijifaaGreatDoor
open Go Go.Sx
set_option maxRecDepth 100000
set_option maxHeartbeats 400000
theorem Ro : Dc 10≠3/\Dc 13≠3/\Dc 32≠3/\Dc 58≠3:=by decide
theorem Fs {s : List UInt8} {c : UInt8} (h : Bj s = true) (hc : Dc (c.toNat : Int)≠3) : c ∉ s:=by
 unfold Bj at h
 rw [Bool.and_eq_true,List.all_eq_true] at h
 intro hm
 have:=h.1 c hm
 exact hc (by simpa using this)
theorem Ahr {s : List UInt8} (h : Bj s = true) : s≠[]:=by
 rintro rfl; simp [Bj] at h
theorem Un.notin {s : List UInt8} {c : UInt8} (hs : Sep c) (hk : G3 c.toNat = 0) (h63 : c≠63) (h : Un s) : c ∉ s:=by
 induction h with
 | nil=>simp
 | esc a b s ha hb _ ih =>
  simp only [List.mem_cons,not_or]
  exact ⟨hs.n37,fun e=>hs.val (by rw [e]; exact ha),fun e=>hs.val (by rw [e]; exact hb),ih⟩
 | one d s hd _ ih =>
  simp only [List.mem_cons,not_or]
  refine ⟨?_,ih⟩
  rintro rfl
  rcases hd with h | h
  ·exact h hk
  ·exact h63 h
theorem Pv {s : List UInt8} {c : UInt8} (h : Ci s = true) (hc : okB c = false) : c ∉ s:=by
 unfold Ci at h
 rw [List.all_eq_true] at h
 intro hm
 rw [h c hm] at hc; cases hc
def rV : List UInt8:=[32,72,84,84,80,47,49,46,49,13]
theorem Aid {m t u : List UInt8} (hm : m≠[]) (ht : t≠[]) (m10 : (10 : UInt8) ∉ m) (m32 : (32 : UInt8) ∉ m) (t10 : (10 : UInt8) ∉ t) (t32 : (32 : UInt8) ∉ t) (hl : m.length + t.length + 12<=1024) :
  Cw (m ++ 32 :: (t ++ (rVer ++ u))) = (m,t,((m.length + t.length + 12 : Nat) : Int),0):=by
 obtain ⟨w,hw⟩ : ∃ w,w = m ++ 32 :: (t ++ rV):=⟨_,rfl⟩
 have hwl : w.length = m.length + t.length + 11:=by rw [hw]; simp [rV]; omega
 have hb : m ++ 32 :: (t ++ (rVer ++ u)) = w ++ 10 :: u:=by rw [hw]; simp [rV,rVer]
 have w10 : (10 : UInt8) ∉ w:=by
  rw [hw]
  simp only [List.mem_append,List.mem_cons,not_or]
  exact ⟨m10,by decide,t10,by decide⟩
 have htk : (w ++ 10 :: u).take 1024 = w ++ 10 :: u.take (1023 - w.length):=by
  rw [List.take_append,List.take_of_length_le (by omega)]
  congr 1
  obtain ⟨k,hk⟩ : ∃ k,1024 - w.length = k + 1:=⟨1023 - w.length,by omega⟩
  rw [hk,List.take_succ_cons]
  congr 2
  omega
 rw [hb,Y9,htk,Kw w10]
 simp only [Bool.not_true,Bool.false_and,Bool.false_eq_true,if_false]
 have es : w ++ [10] = (m ++ 32 :: t) ++ rVer:=by rw [hw]; simp [rV,rVer]
 have el : ((m ++ 32 :: t) ++ rVer).length - 11 = (m ++ 32 :: t).length:=by rw [List.length_append]; show _ + 11 - 11 = _; omega
 rw [Agf es.symm (by rw [el,List.drop_left]),el,List.take_left]
 unfold Ajd
 rw [Kw m32]
 have hi : Lib.indexByte t 32 = -1:=Kq (fun j hj e=>t32 (by
  rw [<-e,List.getD_eq_getElem?_getD,List.getElem?_eq_getElem hj]; exact List.getElem_mem hj))
 simp only [hi]
 rw [if_neg (by simp [Rb,hm,ht])]
 simp only [Prod.mk.injEq,true_and,and_true]
 rw [<-es,List.length_append,hwl]
 simp only [List.length_cons,List.length_nil]
structure Hv (x : HF) : Prop where
 name : Bj x.name = true
 plain : Ci x.value = true
 trim : trimF x.value = x.value
 len : x.value.length<=2000
def I3 (x : HF) : List UInt8:=(x.name ++ [58,32]) ++ x.value
theorem Nj (x : HF) : F8 x = I3 x ++ [13,10]:=rfl
theorem Hv.no {x : HF} (h : Hv x) : (10 : UInt8) ∉ I3 x/\(13 : UInt8) ∉ I3 x:=by
 unfold I3
 simp only [List.mem_append,not_or]
 exact ⟨⟨⟨Fs h.name Ro.1,by decide⟩,Pv h.plain (by decide)⟩,⟨⟨Fs h.name Ro.2.1,by decide⟩,Pv h.plain (by decide)⟩⟩
theorem Hv.read {x : HF} (h : Hv x) : Oj (I3 x) = (x,true):=by
 have e : I3 x = x.name ++ 58 :: (32 :: x.value):=by unfold I3; simp
 have hp : Ci (32 :: x.value) = true:=by
  have:=h.plain
  unfold Ci at this ⊢
  rw [List.all_cons,this]; rfl
 have ht : trimF (32 :: x.value) = x.value:=by
  have:=h.trim
  unfold trimF at this ⊢
  rw [Ly (by decide)]; exact this
 unfold Oj
 rw [e,Kw (Fs (c:=58) h.name Ro.2.2.2)]
 simp only
 rw [hp,h.name,if_neg (by simp),ht]
theorem Tp {s : List UInt8} {c : UInt8} {j : Nat} (h : c ∉ s) (hj : j < s.length) : s.getD j 0≠c:=fun e=>h (by
 rw [<-e,List.getD_eq_getElem?_getD,List.getElem?_eq_getElem hj]; exact List.getElem_mem hj)
theorem Agw (b : List UInt8) (p j : Nat) : (b.drop p).getD j 0 = b.getD (p + j) 0:=by
 rw [List.getD_eq_getElem?_getD,List.getElem?_drop,<-List.getD_eq_getElem?_getD]
theorem H7 {a u : List UInt8} {j : Nat} (h : j < a.length) : (a ++ u).getD j 0 = a.getD j 0:=by
 rw [List.getD_eq_getElem?_getD,List.getElem?_append_left h,<-List.getD_eq_getElem?_getD]
theorem Aek {b q u : List UInt8} {p m : Nat} {r : List HF} (hd : b.drop p = q ++ 13 :: 10 :: u) (q10 : (10 : UInt8) ∉ q) (h8 : p + q.length + 2<=8192) : hpG b (m + 1) p r = hpL b m (p + q.length + 1) r true q:=by
 have hl : p + q.length + 2<=b.length:=by
  have:=congrArg List.length hd
  simp at this; omega
 have hat : ∀ j,b.getD (p + j) 0 = (q ++ 13 :: 10 :: u).getD j 0:=fun j=>by rw [<-hd,Agw]
 have g13 : b.getD (p + q.length) 0 = 13:=by rw [hat,List.getD_eq_getElem?_getD,List.getElem?_append_right (by omega)]; simp
 have g10 : b.getD (p + q.length + 1) 0 = 10:=by rw [show p + q.length + 1 = p + (q.length + 1) by omega,hat,List.getD_eq_getElem?_getD,List.getElem?_append_right (by omega)]; simp
 have hno : noNl b p (p + q.length + 1):=fun j h1 h2=>by
  obtain ⟨k,rfl⟩ : ∃ k,j = p + k:=⟨j - p,by omega⟩
  by_cases hk : k = q.length
  ·rw [hk,g13]; decide
  ·rw [hat,H7 (by omega)]
   exact Tp q10 (by omega)
 have:=(hp_line (m:=m) (r:=r) (p:=p) (i:=p + q.length + 1) (by omega) (by omega) g10 hno (by omega) true (by
  rw [show p + q.length + 1 - 1 = p + q.length by omega,g13]; simp; omega)).2 rfl
 rw [this,hd,show p + q.length + 1 - 1 - p = q.length by omega,List.take_left]
theorem Agq {s : List UInt8} {c : UInt8} (h : c ∉ s) : Lib.indexByte s c = -1:=Kq fun _ hj=>Tp h hj
theorem hp_step {b u : List UInt8} {p m : Nat} {r : List HF} {x : HF} (hx : Hv x) (hd : b.drop p = F8 x ++ u) (h8 : p + (F8 x).length<=8192) (hr : r.length < 100) : hpG b (m + 1) p r = hpG b m (p + (F8 x).length) (r ++ [x]):=by
 obtain ⟨n10,n13⟩:=hx.no
 have hll : (F8 x).length = (I3 x).length + 2:=by rw [Nj,List.length_append]; rfl
 rw [Aek (q:=I3 x) (u:=u) (by rw [hd,Nj]; simp) n10 (by omega)]
 unfold hpL
 rw [hx.read,Agq n13]
 have hne : I3 x≠[]:=by unfold I3; simp
 have hlen:=hx.len
 rw [if_neg (by simp),if_neg hne]
 simp only
 rw [if_neg (by simp),if_neg (by simp; omega),hll]
 congr 1
theorem hp_stop {b u : List UInt8} {p m : Nat} {r : List HF} (hd : b.drop p = 13 :: 10 :: u) (h8 : p + 2<=8192) : hpG b (m + 1) p r = (r,((p + 2 : Nat) : Int),0):=by
 rw [Aek (q:=[]) (u:=u) hd (by simp) (by simp; omega)]
 unfold hpL
 rw [if_neg (by decide),if_pos rfl]
 simp only [List.length_nil,Nat.add_zero,Prod.mk.injEq,true_and,and_true]
 omega
theorem P6 (x : HF) (l : List HF) : Cb (x :: l) = F8 x ++ Cb l:=by simp [Cb]
theorem Acm : Cb [] = [13,10]:=rfl
theorem Agh (x : HF) : 4<=(F8 x).length:=by rw [Nj,List.length_append]; unfold I3; simp; omega
theorem Z9 {b u : List UInt8} : ∀ (l : List HF) (p m : Nat) (r : List HF),b.drop p = Cb l ++ u->(∀ x∈l,Hv x)->p + (Cb l).length<=8192->r.length + l.length<=100->b.length - p < m->hpG b m p r = (r ++ l,((p + (Cb l).length : Nat) : Int),0)
 | _,_,0,_,_,_,_,_,h=>by omega
 | [],p,m + 1,r,hd,_,h8,_,_=>by
  rw [Acm] at hd h8 ⊢
  rw [hp_stop (u:=u) (by rw [hd]; simp) (by simpa using h8),List.append_nil]; rfl
 | x :: l,p,m + 1,r,hd,hx,h8,hr,hm=>by
  rw [P6] at hd h8
  rw [List.append_assoc] at hd
  rw [List.length_append] at h8
  have hpos:=Agh x
  have hpl : p + (F8 x).length<=b.length:=by
   have:=congrArg List.length hd
   simp at this; omega
  simp only [List.length_cons] at hr
  rw [hp_step (hx x (List.mem_cons_self ..)) hd (by omega) (by omega)]
  have hd2 : b.drop (p + (F8 x).length) = Cb l ++ u:=by rw [<-List.drop_drop,hd,List.drop_left]
  rw [Z9 l _ m _ hd2 (fun y hy=>hx y (List.mem_cons_of_mem _ hy)) (by omega) (by rw [List.length_append]; simp; omega) (by omega),P6,List.length_append,List.append_assoc]
  simp only [List.singleton_append,Prod.mk.injEq,true_and,and_true]
  omega
theorem T4 : ∀ (l : List HF) (n : Int),Fi l n = 0↔(∀ x∈l,Hv x)/\n + ((l.flatMap F8).length : Int)<=8192
 | [],n=>by
  unfold Fi
  simp only [List.flatMap_nil,List.length_nil]
  split<;>simp<;>omega
 | x :: l,n=>by
  unfold Fi
  have hsz : Yr x = ((F8 x).length : Int):=by
   unfold Yr
   rw [Nj]
   unfold I3
   simp
   omega
  by_cases hb : Ada x = true
  ·rw [if_pos hb]
   constructor
   ·intro h; cases h
   ·rintro ⟨h,_⟩
    have hx:=h x (List.mem_cons_self ..)
    unfold Ada at hb
    rw [hx.name,hx.plain,hx.trim] at hb
    simp at hb
  ·rw [if_neg hb]
   have hb : Ada x = false:=by simpa using hb
   unfold Ada at hb
   simp only [Bool.or_eq_false_iff,Bool.not_eq_false',bne_eq_false_iff_eq] at hb
   by_cases hv : 2000 < x.value.length
   ·rw [if_pos hv]
    constructor
    ·intro h; cases h
    ·rintro ⟨h,_⟩
     have:=(h x (List.mem_cons_self ..)).len
     omega
   ·rw [if_neg hv,T4 l,hsz,List.flatMap_cons,List.length_append]
    constructor
    ·rintro ⟨h1,h2⟩
     refine ⟨fun y hy=>?_,by omega⟩
     rcases List.mem_cons.1 hy with rfl | hy
     ·exact ⟨hb.1,hb.2.1,hb.2.2,by omega⟩
     ·exact h1 y hy
    ·rintro ⟨h1,h2⟩
     exact ⟨fun y hy=>h1 y (List.mem_cons_of_mem _ hy),by omega⟩
theorem Hc (l : List HF) : A9 l = 0↔l.length<=100/\(∀ x∈l,Hv x)/\(Cb l).length<=8192:=by
 unfold A9
 have hL : (Cb l).length = (l.flatMap F8).length + 2:=by unfold Cb; rw [List.length_append]; rfl
 by_cases h : 100 < l.length
 ·rw [if_pos h]
  constructor
  ·intro g; cases g
  ·rintro ⟨g,_⟩; omega
 ·rw [if_neg h,T4]
  constructor
  ·rintro ⟨h1,h2⟩; exact ⟨by omega,h1,by omega⟩
  ·rintro ⟨_,h1,h2⟩; exact ⟨h1,by omega⟩
theorem Og : ∀ (s t : List UInt8) (acc : Nat),B4 acc (s ++ t) = B4 (B4 acc s) t
 | [],t,acc=>rfl
 | c :: s,t,acc=>by
  rw [List.cons_append,show B4 acc (c :: (s ++ t)) = if c = 45 then B4 acc (s ++ t) else B4 (acc * 10 + (c.toNat - 48)) (s ++ t) from rfl,show B4 acc (c :: s) = if c = 45 then B4 acc s else B4 (acc * 10 + (c.toNat - 48)) s from rfl]
  split
  ·exact Og s t acc
  ·exact Og s t _
structure DecOk (u : Nat) (s : List UInt8) : Prop where
 val : B4 0 s = u
 dig : Dv s = true
 ne : s≠[]
 head : s.length = 1\/charI s 0≠48
 pos : 1<=u->charI s 0≠48
theorem Ad8 : ∀ u : Fin 10,B4 0 [UInt8.ofNat (48 + u.1)] = u.1/\Dv [UInt8.ofNat (48 + u.1)] = true/\(1<=u.1->charI [UInt8.ofNat (48 + u.1)] 0≠48)/\UInt8.ofNat (48 + u.1)≠45/\(UInt8.ofNat (48 + u.1)).toNat - 48 = u.1:=by decide +kernel
theorem N1 : ∀ (n u : Nat),u<=n->DecOk u (Lib.decDigits u)
 | n,u,h=>by
  rw [Lib.decDigits]
  by_cases h10 : u < 10
  ·rw [dif_pos h10]
   obtain ⟨h1,h2,h3,_,_⟩:=Ad8 ⟨u,h10⟩
   exact ⟨h1,h2,by simp,.inl rfl,h3⟩
  ·rw [dif_neg h10]
   cases n with
   | zero=>omega
   | succ n =>
    have ih:=N1 n (u / 10) (by omega)
    obtain ⟨h1,h2,h3,h4,h5⟩:=Ad8 ⟨u % 10,by omega⟩
    simp only at h1 h2 h3 h4 h5
    have hp:=ih.pos (by omega)
    have hc : charI (Lib.decDigits (u / 10) ++ [UInt8.ofNat (48 + u % 10)]) 0 = charI (Lib.decDigits (u / 10)) 0:=by
     unfold charI
     rw [H7 (List.length_pos_iff.2 ih.ne)]
    refine ⟨?_,?_,by simp,.inr (by rw [hc]; exact hp),fun _=>by rw [hc]; exact hp⟩
    ·rw [Og,ih.val]
     unfold B4
     rw [if_neg h4]
     unfold B4
     rw [h5]; omega
    ·unfold Dv at h2 ⊢
     rw [List.all_append,h2]
     have:=ih.dig
     unfold Dv at this
     rw [this]; rfl
theorem Qa {n hi : Int} (h0 : 0<=n) (h1 : n<=hi) (h2 : hi<=1000000000) : Gb (Lib.itoa n) hi = (n,0):=by
 obtain ⟨u,rfl⟩ : ∃ u : Nat,n = u:=⟨n.toNat,by omega⟩
 have he : Lib.itoa (u : Int) = Lib.decDigits u:=by unfold Lib.itoa; rw [if_neg (by omega)]; simp
 rw [he]
 obtain ⟨hv,hd,hne,hh,_⟩:=N1 u u (by omega)
 obtain ⟨s,hs⟩ : ∃ s,s = Lib.decDigits u:=⟨_,rfl⟩
 rw [<-hs] at hv hd hne hh ⊢
 have h45 : charI s 0≠45:=by
  cases s with
  | nil=>exact absurd rfl hne
  | cons c r =>
   have:=Mi hd c (List.mem_cons_self ..)
   show (c.toNat : Int)≠45
   omega
 have hdec : Aax s = true:=by
  rw [<-Aez]
  unfold Ac3
  have ht : Nz s = s:=by unfold Nz; rw [if_neg (fun g=>h45 g.1.2)]
  rw [ht,hd,decide_eq_false hne]
  rcases hh with h | h
  ·rw [h]; simp
  ·rw [decide_eq_false h]; simp
 rw [Zj s (by omega) h2]
 have : Agn s hi = ((u : Int),0):=by
  unfold Agn
  rw [hdec,if_neg (by simp),if_neg h45,hv,if_pos h1]
 rw [this,if_neg (by simp)]
end Go.Proofs.YtdoogdbjiijifaaGreatDoor
namespace Go.Proofs.YtdoogdbjiijifaaGreatDoor
open Go Go.Sx
set_option maxRecDepth 100000
set_option maxHeartbeats 400000
theorem Agy {a b : List HF} (h : a.Sublist b) : (a.flatMap F8).length<=(b.flatMap F8).length:=by
 induction h with
 | slnil=>exact Nat.le_refl _
 | cons x _ ih=>rw [List.flatMap_cons,List.length_append]; omega
 | cons_cons x _ ih=>rw [List.flatMap_cons,List.flatMap_cons,List.length_append,List.length_append]; omega
theorem Z0 (l : List HF) : (Cb l).length = (l.flatMap F8).length + 2:=by unfold Cb; rw [List.length_append]; rfl
theorem Ac7 {a b : List HF} (h : a.Sublist b) (hb : A9 b = 0) : A9 a = 0:=by
 rw [Hc] at hb ⊢
 obtain ⟨h1,h2,h3⟩:=hb
 have:=h.length_le
 have:=Agy h
 rw [Z0] at h3 ⊢
 exact ⟨by omega,fun x hx=>h2 x (h.subset hx),by omega⟩
structure Akx (l l' : List HF) : Prop where
 sub : l'.Sublist l
 again : Ru l' = (l',0)
 chk : A9 l = 0
structure Qn (r : Rq) (l' : List HF) : Prop where
 ex : ExOk r
 con : r.method≠Sd
 bare : (r.body != [] && Ae4 r.method) = false
 strip : Ru r.fields = (l',0)
 st : Akx r.fields l'
 own : Jm l' = false
 wr : A0 r = (([⟨Yz,r.host⟩,⟨Ah7,Lib.itoa r.id⟩] ++ l') ++ (if Gd r then [⟨sCL,Lib.itoa r.body.length⟩] else []),0)
 cw : A9 (A0 r).1 = 0
theorem Kr {r : Rq} (h1 : 1<=r.id) (h2 : r.id<=1000000000) (h3 : Is r.method = true) (h4 : r.method≠Sd) (h5 : (Sw r.target).2 = 0) (h6 : Ajs r.host = true) (h7 : (B7 r).2 = 0) (h8 : r.body.length<=65536) (h9 : (r.body != [] && Ae4 r.method) = false) : Bt r = ([],(B7 r).1,0):=by
 unfold Bt
 rw [if_neg (by omega),if_neg (by simp [h3]),if_neg h4,if_neg (by simp [h5]),if_neg (by simp [h6]),if_neg (by simp [h7]),if_neg (by omega),if_neg (by rw [h9]; simp)]
theorem Ag8 {r : Rq} {w : List HF} (h1 : A9 r.fields = 0) (h2 : Jm r.fields = false) (h3 : A0 r = (w,0)) (h4 : A9 w = 0) : B7 r = (w,0):=by
 unfold B7
 rw [if_neg (by simp [h1]),if_neg (by simp [h2]),h3,if_neg (by simp),h4]
theorem Qn.again {r : Rq} {l' : List HF} (G : Qn r l') : Nw ⟨r.id,r.method,r.target,r.host,l',r.body⟩ = Nw r/\(Bt ⟨r.id,r.method,r.target,r.host,l',r.body⟩).2.2 = 0:=by
 obtain ⟨q,hq⟩ : ∃ q : Rq,q = ⟨r.id,r.method,r.target,r.host,l',r.body⟩:=⟨_,rfl⟩
 have hw : A0 q = ((A0 r).1,0):=by
  rw [G.wr,hq]
  unfold A0
  simp only
  rw [G.st.again,if_neg (by simp)]
  rfl
 have hck : B7 q = _:=Ag8 (by rw [hq]; exact Ac7 G.st.sub G.st.chk) (by rw [hq]; exact G.own) hw G.cw
 have hex:=Kr (r:=q) (by rw [hq]; exact G.ex.id1) (by rw [hq]; exact G.ex.id2) (by rw [hq]; exact G.ex.method) (by rw [hq]; exact G.con) (by rw [hq]; exact G.ex.org) (by rw [hq]; exact G.ex.host) (by rw [hck]) (by rw [hq]; exact G.ex.body) (by rw [hq]; exact G.bare)
 have h0 : (Bt q).2.2 = 0:=by rw [hex]
 have hr : (Bt r).2.2 = 0:=by
  rw [Kr G.ex.id1 G.ex.id2 G.ex.method G.con G.ex.org G.ex.host G.ex.chk G.ex.body G.bare]
 rw [<-hq]
 refine ⟨?_,h0⟩
 rw [Ty h0,Ty hr,hw,hq]
theorem Fq (a b : List HF) (t : List UInt8) : Bu (a ++ b) t = Bu a t ++ Bu b t:=by
 unfold Bu; rw [List.filter_append,List.map_append]
theorem Mu {l : List HF} (h : Jm l = false) {t : List UInt8} (ht : Sv t = true) : Bu l t = []:=by
 unfold Bu
 rw [List.filter_eq_nil_iff.2 ?_]; rfl
 intro x hx e
 unfold Jm at h
 rw [List.any_eq_false] at h
 refine h x hx ?_
 rw [eq_of_beq e]; exact ht
theorem Aj5 {l : List HF} (h : Jm l = false) : (l.filter fun x=>!Sv (foldF x.name)) = l:=by
 refine List.filter_eq_self.2 fun x hx=>?_
 unfold Jm at h
 rw [List.any_eq_false] at h
 simpa using h x hx
theorem Af3 : Sv Ki = true/\Sv nId = true/\Sv nLen = true/\Sv nTE = true:=by decide
theorem Acu : foldF Yz = Ki/\foldF Ah7 = nId/\foldF sCL = nLen:=by decide
theorem Qn.frame {r : Rq} {l' : List HF} (G : Qn r l') : (H8 (A0 r).1).hosts = [r.host]/\(H8 (A0 r).1).ids = [Lib.itoa r.id]/\(H8 (A0 r).1).lens = (if Gd r then [Lib.itoa r.body.length] else [])/\(H8 (A0 r).1).coded = false/\(H8 (A0 r).1).rest = l':=by
 obtain ⟨f1,f2,f3,f4,f5⟩:=Ajy (A0 r).1
 obtain ⟨o1,o2,o3,o4⟩:=Af3
 obtain ⟨p1,p2,p3⟩:=Acu
 rw [f1,f2,f3,f4,f5,G.wr]
 simp only
 have v : ∀ (t h i : List UInt8),Bu [⟨Yz,h⟩,⟨Ah7,i⟩] t = (if Ki == t then [h] else []) ++ (if nId == t then [i] else []):=fun t h i=>by
  rw [K5,K5]
  simp only [p1,p2]
  split<;>split<;>rfl
 have w : ∀ (t : List UInt8),Bu (if Gd r then [⟨sCL,Lib.itoa (r.body.length : Int)⟩] else []) t = if Gd r && (nLen == t) then [Lib.itoa (r.body.length : Int)] else []:=fun t=>by
  cases Gd r with
  | false=>rfl
  | true =>
   simp only [if_true,Bool.true_and]
   rw [K5]
   simp only [p3]
   split<;>rfl
 refine ⟨?_,?_,?_,?_,?_⟩
 ·rw [Fq,Fq,Mu G.own o1,v,w,if_pos (by decide),if_neg (by decide),if_neg (by rw [show (nLen == Ki) = false by decide]; simp)]; rfl
 ·rw [Fq,Fq,Mu G.own o2,v,w,if_neg (by decide),if_pos (by decide),if_neg (by rw [show (nLen == nId) = false by decide]; simp)]; rfl
 ·rw [Fq,Fq,Mu G.own o3,v,w,if_neg (by decide),if_neg (by decide),show (nLen == nLen) = true by decide,Bool.and_true]; rfl
 ·rw [Fq,Fq,Mu G.own o4,v,w,if_neg (by decide),if_neg (by decide),if_neg (by rw [show (nLen == nTE) = false by decide]; simp)]; rfl
 ·rw [List.filter_append,List.filter_append,Aj5 G.own]
  have e1 : (List.filter (fun x : HF=>!Sv (foldF x.name)) [⟨Yz,r.host⟩,⟨Ah7,Lib.itoa r.id⟩]) = []:=by
   rw [List.filter_cons,if_neg (by simp only [p1,o1]; simp),List.filter_cons,if_neg (by simp only [p2,o2]; simp)]; rfl
  have e2 : (List.filter (fun x : HF=>!Sv (foldF x.name)) (if Gd r then [⟨sCL,Lib.itoa (r.body.length : Int)⟩] else [])) = []:=by
   split
   ·rw [List.filter_cons,if_neg (by simp only [p3,o3]; simp)]; rfl
   ·rfl
  rw [e1,e2]; simp
def Ni (r : Rq) : List UInt8:=r.method ++ 32 :: (r.target ++ rVer)
theorem Agg (r : Rq) : (Ni r).length = r.method.length + r.target.length + 12:=by unfold Ni; simp [rVer]; omega
theorem Xj {s : List UInt8} (h : Is s = true) : Bj s = true/\s.length<=16:=by
 unfold Is at h
 simp only [Bool.and_eq_true,decide_eq_true_eq] at h
 exact ⟨h.2,h.1⟩
theorem sep10 : Sep 10:=⟨by decide,by decide⟩
theorem sep32 : Sep 32:=⟨by decide,by decide⟩
theorem Qn.line {r : Rq} {l' : List HF} (G : Qn r l') : r.method≠[]/\r.target≠[]/\(10 : UInt8) ∉ r.method/\(32 : UInt8) ∉ r.method/\(10 : UInt8) ∉ r.target/\(32 : UInt8) ∉ r.target/\r.method.length + r.target.length + 12<=1024:=by
 obtain ⟨h1,h2⟩:=Xj G.ex.method
 obtain ⟨u1,u2,_,u4⟩:=orgF_un G.ex.org
 exact ⟨Ahr h1,u2,Fs h1 Ro.1,Fs h1 Ro.2.2.1,u1.notin sep10 (by decide) (by decide),u1.notin sep32 (by decide) (by decide),by omega⟩
theorem Qn.head {r : Rq} {l' : List HF} (G : Qn r l') (a : List UInt8) : Aio (Ni r ++ (Cb (A0 r).1 ++ a)) =
  Aip (Ni r ++ (Cb (A0 r).1 ++ a)) ⟨r.id,r.method,r.target,r.host,l',[]⟩ (((Ni r).length + (Cb (A0 r).1).length : Nat) : Int) (r.body.length : Int):=by
 obtain ⟨m1,t1,m10,m32,t10,t32,hl⟩:=G.line
 obtain ⟨b,hb⟩ : ∃ b,b = Ni r ++ (Cb (A0 r).1 ++ a):=⟨_,rfl⟩
 have hrl : Cw b = (r.method,r.target,(((Ni r).length : Nat) : Int),0):=by
  rw [hb,Agg]
  have:=Aid (u:=Cb (A0 r).1 ++ a) m1 t1 m10 m32 t10 t32 hl
  rw [<-this]
  unfold Ni; simp
 have hd : b.drop (Ni r).length = Cb (A0 r).1 ++ a:=by rw [hb,List.drop_left]
 have hcw:=(Hc _).1 G.cw
 have hhp : Ax (Cb (A0 r).1 ++ a) = ((A0 r).1,(((Cb (A0 r).1).length : Nat) : Int),0):=by
  unfold Ax
  rw [Z9 (u:=a) (A0 r).1 0 _ [] (by rw [List.drop_zero]) hcw.2.1 (by omega) (by simpa using hcw.1) (by omega)]
  simp
 obtain ⟨f1,f2,f3,f4,f5⟩:=G.frame
 have hlens : (H8 (A0 r).1).lens.length<=1:=by rw [f3]; split<;>simp
 have hbad : Aj0 (H8 (A0 r).1) = false:=by
  unfold Aj0
  rw [f1,f2,f4]
  simp; omega
 have hnum : Gb (lenS (H8 (A0 r).1)) 65536 = ((r.body.length : Int),0):=by
  unfold lenS
  rw [f3]
  cases hB : Gd r with
  | true =>
   simp only [if_true]
   rw [if_neg (by simp),List.getD_cons_zero]
   exact Qa (by omega) (by have:=G.ex.body; omega) (by decide)
  | false =>
   simp only [Bool.false_eq_true,if_false]
   show Gb [48] 65536 = _
   rw [Ai2]
   have : r.body = []:=by
    unfold Gd at hB
    simp only [Bool.or_eq_false_iff] at hB
    simpa using hB.1.1.1
   rw [this]; rfl
 have hnid : Gb (Lib.itoa r.id) 1000000000 = (r.id,0):=Qa (by have:=G.ex.id1; omega) G.ex.id2 (by decide)
 rw [<-hb]
 unfold Aio
 rw [hrl]
 simp only [Int.toNat_natCast]
 rw [hd,hhp]
 simp only [ne_eq,not_true,if_false]
 unfold Air
 rw [hbad,if_neg (by simp),hnum,f1,f2,f5]
 simp only [List.getD_cons_zero]
 rw [hnid]
 unfold Aiq
 simp only
 rw [if_neg (by decide),if_neg (by decide)]
 rw [Int.natCast_add]
end Go.Proofs.YtdoogdbjiijifaaGreatDoor
