/- Part of the proofs of the statements about responses and messages (layers 9 and 10): a symbolic executor over the code, that it is sound, and contracts of functions; it has no conditions of its own. -/
import Derived.Test.YtdoogdbjiijifaaGreatDoorSzPbb
import Derived.Test.YtdoogdbjiijifaaGreatDoorSzPba
import Derived.Test.YtdoogdbjiijifaaGreatDoorSzPau
import Derived.Test.YtdoogdbjiijifaaGreatDoorSzPaz
import Derived.Test.YtdoogdbjiijifaaGreatDoorSzPay
namespace Go.Proofs.YtdoogdbjiijifaaGreatDoor
open Go Go.Sx
set_option maxRecDepth 100000
set_option maxHeartbeats 400000
theorem Rl (b : List UInt8) : ∀ s,(Af s b).2.1≤b.length:=by
 induction b with
 | nil=>intro s; simp [Af]
 | cons c b ih =>
  intro s
  unfold Af
  split
  ·simp
  split
  ·simp
  ·have:=ih (rsS s c).1
   simp only [List.length_cons]; omega
theorem Ie (b : List UInt8) : ∀ s,C7 s→(Af s b).2.2 = 0→C7 (Af s b).1:=by
 induction b with
 | nil=>intro s h _; exact h
 | cons c b ih =>
  intro s h he
  unfold Af at he ⊢
  split
  ·exact h
  rename_i h2
  rw [if_neg h2] at he
  split
  ·exact h
  rename_i h3
  rw [if_neg h3] at he
  exact ih _ (Rj h h2 (by rw [show (rsS s c) = ((rsS s c).1,(rsS s c).2) from rfl,show (rsS s c).2 = 0 by simpa using h3])) he
theorem Aa9 (b : List UInt8) : ∀ s k,(Af s b).2.2 = 0→k≤(Af s b).2.1→(Af s (b.take k)).2.2 = 0∧(Af s (b.take k)).2.1 = k∧(k < (Af s b).2.1→(Af s (b.take k)).1.phase≠2):=by
 induction b with
 | nil =>
  intro s k _ hk
  have : k = 0:=by simpa [Af] using hk
  subst this
  exact ⟨rfl,rfl,fun h=>by simp [Af] at h⟩
 | cons c b ih =>
  intro s k he hk
  cases k with
  | zero =>
   rw [List.take_zero]
   refine ⟨rfl,rfl,fun h=>?_⟩
   show s.phase≠2
   intro h2
   unfold Af at h
   rw [if_pos h2] at h
   simp at h
  | succ k =>
   rw [List.take_succ_cons]
   unfold Af at he hk ⊢
   split at he
   ·rename_i h2; rw [if_pos h2] at hk; simp at hk
   rename_i h2
   rw [if_neg h2] at hk ⊢
   split at he
   ·rename_i h3; exact absurd he h3
   rename_i h3
   rw [if_neg h3] at hk ⊢
   obtain ⟨a1,a2,a3⟩:=ih _ k he (by simpa using hk)
   refine ⟨a1,by simp only; omega,fun h=>?_⟩
   rw [if_neg h2,if_neg h3] at h
   exact a3 (by simpa using h)
theorem Ae3 (b : List UInt8) : ∀ s u,(Af s b).2.2 = 0→(Af s b).1.phase = 2→Af s (b.take (Af s b).2.1 ++ u) = Af s b:=by
 induction b with
 | nil =>
  intro s u _ h2
  have h2 : s.phase = 2:=h2
  cases u with
  | nil=>rfl
  | cons x u =>
   show Af s (x :: u) = (s,0,0)
   unfold Af
   rw [if_pos h2]
 | cons c b ih =>
  intro s u he hp
  by_cases h2 : s.phase = 2
  ·have e : Af s (c :: b) = (s,0,0):=by unfold Af; rw [if_pos h2]
   rw [e,List.take_zero,List.nil_append]
   cases u with
   | nil=>rfl
   | cons x u=>unfold Af; rw [if_pos h2]
  ·by_cases h3 : (rsS s c).2≠0
   ·exfalso
    unfold Af at he
    rw [if_neg h2,if_pos h3] at he
    exact h3 he
   ·have e : Af s (c :: b) = ((Af (rsS s c).1 b).1,(Af (rsS s c).1 b).2.1 + 1,(Af (rsS s c).1 b).2.2):=by
     conv=>lhs; unfold Af
     rw [if_neg h2,if_neg h3]
    rw [e] at he hp ⊢
    have:=ih (rsS s c).1 u he hp
    rw [List.take_succ_cons,List.cons_append]
    conv=>lhs; unfold Af
    rw [if_neg h2,if_neg h3,this]
theorem X9 (b : List UInt8) : ∀ s,s.phase = 1→s.framing = 3→(Af s b).2.2 = 0→(Af s b).1.phase = 1∧(Af s b).1.framing = 3:=by
 induction b with
 | nil=>intro s h1 h2 _; exact ⟨h1,h2⟩
 | cons c b ih =>
  intro s h1 h2 he
  unfold Af at he ⊢
  rw [if_neg (by omega)] at he ⊢
  split at he
  ·rename_i h3; exact absurd he h3
  rename_i h3
  rw [if_neg h3]
  have e : (rsS s c).1.phase = 1∧(rsS s c).1.framing = 3:=by
   unfold rsS at h3 ⊢
   rw [if_neg (by omega),if_neg (by omega)] at h3 ⊢
   split at h3
   ·exact absurd (by simp) h3
   rename_i h4
   rw [if_neg h4,if_neg (by omega)]
   exact ⟨h1,h2⟩
  exact ih _ e.1 e.2 he
theorem Ae2 (b : List UInt8) : ∀ s v,(Af s b).2.2 = 0→(Af s b).2.1 = b.length→Af s (b ++ v) = ((Af (Af s b).1 v).1,b.length + (Af (Af s b).1 v).2.1,(Af (Af s b).1 v).2.2):=by
 induction b with
 | nil=>intro s v _ _; simp [Af]
 | cons c b ih =>
  intro s v he hn
  by_cases h2 : s.phase = 2
  ·unfold Af at hn
   rw [if_pos h2] at hn
   simp at hn
  ·by_cases h3 : (rsS s c).2≠0
   ·exfalso
    unfold Af at he
    rw [if_neg h2,if_pos h3] at he
    exact h3 he
   ·have e : Af s (c :: b) = ((Af (rsS s c).1 b).1,(Af (rsS s c).1 b).2.1 + 1,(Af (rsS s c).1 b).2.2):=by
     conv=>lhs; unfold Af
     rw [if_neg h2,if_neg h3]
    rw [e] at he hn ⊢
    have:=ih (rsS s c).1 v he (by simp only [List.length_cons] at hn; omega)
    rw [List.cons_append]
    conv=>lhs; unfold Af
    rw [if_neg h2,if_neg h3,this]
    simp only [List.length_cons,Prod.mk.injEq,true_and,and_true]
    omega
def Ad2 (s : Rs) : Bool:=!(decide (s.phase = 2) || (decide (s.phase = 1) && decide (s.framing = 3)))
structure WholeV (m : List UInt8) (b : List UInt8) : Prop where
 pos : 1≤(Af (rs0 m) b).2.1
 le : (Af (rs0 m) b).2.1≤b.length
 cl : (Af (rs0 m) b).1.framing≠3
 part : ∀ k,k < (Af (rs0 m) b).2.1→C7 (Af (rs0 m) (b.take k)).1∧(Af (rs0 m) (b.take k)).2.2 = 0∧(Af (rs0 m) (b.take k)).2.1 = k∧(Af (rs0 m) (b.take k)).1.phase≠2∧Ad2 (Af (rs0 m) (b.take k)).1 = true
 more : ∀ u,Af (rs0 m) (b.take (Af (rs0 m) b).2.1 ++ u) = Af (rs0 m) b
theorem Aas {s : Rs} {c : UInt8} (_h : C7 s) (hp : s.phase≠2) (he : (rsS s c).2 = 0) (h2 : (rsS s c).1.phase = 2) : (rsS s c).1.framing≠3:=by
 intro h3
 have e : rsS s c = ((rsS s c).1,0):=by rw [←he]
 obtain ⟨t,ht⟩ : ∃ t,t = (rsS s c).1:=⟨_,rfl⟩
 rw [←ht] at h2 h3 e
 unfold rsS at e
 split at e
 ·split at e
  ·have:=(Prod.mk.inj e).1; rw [←this] at h2; rename_i h0 _; have h2 : s.phase = 2:=h2; omega
  split at e
  ·rename_i g; exact absurd (Prod.mk.inj e).2 g
  split at e
  ·have:=(Prod.mk.inj e).2; cases this
  split at e
  ·unfold Bw at e
   split at e
   ·rename_i g; exact absurd (Prod.mk.inj e).2 g
   have:=(Prod.mk.inj e).1
   rw [←this] at h2 h3
   simp only at h2 h3
   rw [if_neg (by rintro (g | g)<;>omega)] at h2
   cases h2
  split at e
  ·have:=(Prod.mk.inj e).2; cases this
  ·have:=(Prod.mk.inj e).1; rw [←this] at h2; have h2 : s.phase = 2:=h2; exact hp h2
 split at e
 ·rename_i hf
  split at e
  ·rename_i g; exact absurd (Prod.mk.inj e).2 g
  ·have:=(Prod.mk.inj e).1; rw [←this] at h3; have h3 : s.framing = 3:=h3; omega
 split at e
 ·have:=(Prod.mk.inj e).2; cases this
 split at e
 ·rename_i hf
  have:=(Prod.mk.inj e).1; rw [←this] at h3; have h3 : s.framing = 3:=h3; omega
 ·have:=(Prod.mk.inj e).1; rw [←this] at h2; have h2 : s.phase = 2:=h2; exact hp h2
theorem Ae0 (b : List UInt8) : ∀ s,C7 s→s.phase≠2→(Af s b).2.2 = 0→(Af s b).1.phase = 2→(Af s b).1.framing≠3:=by
 induction b with
 | nil=>intro s _ h2 _ h3; exact absurd h3 h2
 | cons c b ih =>
  intro s h h2 he hp
  unfold Af at he hp ⊢
  rw [if_neg h2] at he hp ⊢
  split at he
  ·rename_i g; exact absurd he g
  rename_i g
  rw [if_neg g] at hp ⊢
  have g : (rsS s c).2 = 0:=by simpa using g
  have hok : C7 (rsS s c).1:=Rj h h2 (by rw [←g])
  by_cases h3 : (rsS s c).1.phase = 2
  ·have e : Af (rsS s c).1 b = ((rsS s c).1,0,0):=by
    cases b with
    | nil=>rfl
    | cons x b=>unfold Af; rw [if_pos h3]
   rw [e]
   exact Aas h h2 g h3
  ·exact ih _ hok h3 he hp
theorem whole_ok {m b : List UInt8} (hm : Bj m = true) (he : (Af (rs0 m) b).2.2 = 0) (hp : (Af (rs0 m) b).1.phase = 2) : WholeV m b:=by
 have h0:=Kc hm
 have hpos : 1≤(Af (rs0 m) b).2.1:=by
  cases b with
  | nil=>simp [Af,rs0] at hp
  | cons c b =>
   unfold Af at he ⊢
   rw [if_neg (by simp [rs0])] at he ⊢
   split at he
   ·rename_i g; exact absurd he g
   rename_i g
   rw [if_neg g]
   simp
 refine ⟨hpos,Rl b _,Ae0 b _ h0 (by simp [rs0]) he hp,fun k hk=>?_,fun u=>Ae3 b _ u he hp⟩
 obtain ⟨a1,a2,a3⟩:=Aa9 b (rs0 m) k he (by omega)
 have hok:=Ie (b.take k) _ h0 a1
 refine ⟨hok,a1,a2,a3 hk,?_⟩
 unfold Ad2
 have hn2:=a3 hk
 cases hc : (decide ((Af (rs0 m) (b.take k)).1.phase = 1) && decide ((Af (rs0 m) (b.take k)).1.framing = 3)) with
 | false=>simp [hn2]
 | true =>
  exfalso
  rw [Bool.and_eq_true,decide_eq_true_eq,decide_eq_true_eq] at hc
  have hkl : k≤b.length:=by have:=Rl b (rs0 m); omega
  have htw:=Ae2 (b.take k) (rs0 m) (b.drop k) a1 (by rw [a2,List.length_take]; omega)
  rw [List.take_append_drop] at htw
  rw [htw] at he hp
  have:=X9 (b.drop k) _ hc.1 hc.2 he
  simp only at hp
  rw [this.1] at hp
  cases hp
end Go.Proofs.YtdoogdbjiijifaaGreatDoor
namespace Go.Proofs.YtdoogdbjiijifaaGreatDoor
open Go Go.Sx
set_option maxRecDepth 100000
set_option maxHeartbeats 8000000
structure HrJ (b : List UInt8) (k : List HF×Int×Int) (p i : Nat) (P I : Int) (m : Nat) (r : List HF) (f1 : Nat→List SV) (n1 : Int) (b1 : Bool) : Prop where
 lie : At b i I m
 eP : P = p
 le : p≤i
 le2 : p≤8192
 no : noNl b p i
 k : k = hpG b (b.length - p + 1) p r
 G : GrH f1 n1 b1 r
 len : r.length≤100
structure NilI (s : List UInt8) (j p : Nat) : Prop where
 h : s = []↔j = p + 1
structure CrB (g cr : Bool) : Prop where
 h : g = cr
end Go.Proofs.YtdoogdbjiijifaaGreatDoor
namespace Go.Proofs.YtdoogdbjiijifaaGreatDoor
open Go Go.Sx
set_option maxRecDepth 100000
set_option maxHeartbeats 400000
theorem Ug (s : List UInt8) (c d : UInt8) (h : d≠c) : Lib.indexByte (s ++ [d]) c = Lib.indexByte s c:=by
 induction s with
 | nil =>
  show Lib.indexByte [d] c = -1
  unfold Lib.indexByte
  rw [if_neg (by simpa using h)]
  rfl
 | cons x r ih =>
  rw [List.cons_append]
  unfold Lib.indexByte
  rw [ih]
theorem Vb {b : List UInt8} {c : UInt8} (hc : c≠10) (hl : b.length + 1≤8192) : ∀ (m m' p : Nat) (r : List HF),p≤b.length→b.length - p < m→b.length + 1 - p < m'→(hpG b m p r).2.2 = 10→(hpG (b ++ [c]) m' p r).2.2 = 10
 | 0,_,_,_,_,h,_,_=>by omega
 | _ + 1,0,_,_,_,_,h,_=>by omega
 | m + 1,m' + 1,p,r,hp,h,h',he=>by
  have hd : (b ++ [c]).drop p = b.drop p ++ [c]:=List.drop_append_of_le_length hp
  have hi:=K6 (s:=b.drop p) (c:=10)
  rw [List.length_drop] at hi
  have hx:=Ug (b.drop p) 10 c hc
  unfold hpG at he ⊢
  rw [hd,hx]
  split at he
  ·cases he
  rename_i g1
  rw [if_neg (by
   intro e
   rw [Bool.or_eq_true,Bool.and_eq_true] at e
   rw [Bool.or_eq_true,Bool.and_eq_true] at g1
   rcases e with e | e
   ·have:=of_decide_eq_true e.2
    rw [List.length_append] at this
    simp only [List.length_cons,List.length_nil] at this
    omega
   ·exact g1 (.inr e))]
  split at he
  ·rename_i g2; rw [if_pos g2]
  rename_i g2
  rw [if_neg g2]
  have hj:=hi.2 (by omega)
  have htk : (b.drop p ++ [c]).take (Lib.indexByte (b.drop p) 10).toNat = (b.drop p).take (Lib.indexByte (b.drop p) 10).toNat:=List.take_append_of_le_length (by rw [List.length_drop]; omega)
  rw [htk]
  split at he
  ·cases he
  rename_i g3
  rw [if_neg g3]
  split at he
  ·cases he
  rename_i g4
  rw [if_neg g4]
  split at he
  ·cases he
  rename_i g5
  rw [if_neg g5]
  split at he
  ·cases he
  rename_i g6
  rw [if_neg g6]
  exact Vb hc hl m m' _ _ (by omega) (by omega) (by omega) he
theorem Px {b : List UInt8} {c : UInt8} (hc : c≠10) (hl : b.length + 1≤8192) (h : (Ax b).2.2 = 10) : (Ax (b ++ [c])).2.2 = 10:=by
 unfold Ax at h ⊢
 rw [List.length_append]
 exact Vb hc hl _ _ 0 [] (by omega) (by omega) (by simp) h
theorem Af2 {l : List UInt8} {c : UInt8} (hc : c≠10) (hl : l.length + 1≤301) (h : (Aq l).2.2 = 10) : (Aq (l ++ [c])).2.2 = 10:=by
 have t1 : l.take 302 = l:=List.take_of_length_le (by omega)
 have t2 : (l ++ [c]).take 302 = l ++ [c]:=List.take_of_length_le (by simp; omega)
 obtain ⟨c1,c2,c3⟩:=Vo 10 l
 unfold Aq at h ⊢
 rw [t1] at h
 rw [t2]
 cases hb : (Ap 10 l).2.2 with
 | false =>
  rw [hb] at c2
  simp only [Bool.false_eq_true,if_false,List.append_nil] at c2
  have hn : (10 : UInt8) ∉ l:=by rw [c2]; exact c1
  have hn2 : (10 : UInt8) ∉ l ++ [c]:=by
   rw [List.mem_append,not_or]
   exact ⟨hn,by simpa using fun e=>hc e.symm⟩
  rw [Vp hn2]
  simp only [Bool.not_false,if_true]
  rw [if_neg (by simp; omega)]
 | true =>
  rw [hb] at c2
  simp only [if_true] at c2
  have e2 : l ++ [c] = (Ap 10 l).1 ++ 10 :: ((Ap 10 l).2.1 ++ [c]):=by
   conv=>lhs; rw [c2]
   simp
  have e3 : Ap 10 (l ++ [c]) = ((Ap 10 l).1,(Ap 10 l).2.1 ++ [c],true):=by rw [e2,Ks c1]
  rw [e3]
  rw [hb] at h
  simp only [Bool.not_true,Bool.false_eq_true,if_false] at h ⊢
  split at h
  ·cases h
  rename_i g1
  rw [if_neg g1]
  have hd : l.drop ((Ap 10 l).1.length + 1) = (Ap 10 l).2.1:=by
   have h9:=congrArg (List.drop ((Ap 10 l).1.length + 1)) c2
   rw [h9,←List.drop_drop,List.drop_left]; rfl
  have hd2 : (l ++ [c]).drop ((Ap 10 l).1.length + 1) = (Ap 10 l).2.1 ++ [c]:=by
   rw [e2,←List.drop_drop,List.drop_left]; rfl
  rw [hd] at h
  rw [hd2]
  have hlen : (Ap 10 l).2.1.length + 1≤8192:=by
   have:=congrArg List.length c2
   rw [List.length_append,List.length_cons] at this
   omega
  split at h
  ·rename_i g
   have h : (Ax (Ap 10 l).2.1).2.2 = 10:=h
   have hm:=Px hc hlen h
   rw [if_pos (by rw [hm]; decide)]
   exact hm
  ·cases h
theorem Aez (b : List UInt8) : ∀ s : Rs,s.phase = 1→s.framing = 1→1≤s.left→s.left + (s.body.length : Int)≤65536→
  Af s b = ({ s with body:=s.body ++ b.take (min s.left.toNat b.length),left:=s.left - (min s.left.toNat b.length : Nat),phase:=if s.left - (min s.left.toNat b.length : Nat) = 0 then 2 else 1 },min s.left.toNat b.length,0):=by
 induction b with
 | nil =>
  intro s h1 h2 h3 h4
  obtain ⟨m,p,i,l,hd,f,bo,le,ch⟩:=s
  simp only at h1 h2 h3 h4
  subst h1 h2
  simp [Af]
  omega
 | cons c b ih =>
  intro s h1 h2 h3 h4
  have hS : rsS s c = ({ s with body:=s.body ++ [c],left:=s.left - 1,phase:=if s.left - 1 = 0 then 2 else s.phase },0):=by
   unfold rsS
   rw [if_neg (by omega),if_neg (by omega),if_neg (by omega),if_pos h2]
  unfold Af
  rw [if_neg (by omega),hS,if_neg (by simp)]
  by_cases hz : s.left - 1 = 0
  ·have e : Af { s with body:=s.body ++ [c],left:=s.left - 1,phase:=if s.left - 1 = 0 then 2 else s.phase } b = ({ s with body:=s.body ++ [c],left:=s.left - 1,phase:=if s.left - 1 = 0 then 2 else s.phase },0,0):=by
    cases b with
    | nil=>rfl
    | cons x b=>unfold Af; rw [if_pos (by simp only; rw [if_pos hz])]
   rw [e]
   have hm : min s.left.toNat (c :: b).length = 1:=by simp only [List.length_cons]; omega
   rw [hm]
   simp only [List.take_succ_cons,List.take_zero,Int.natCast_one,if_pos hz]
  ·have:=ih { s with body:=s.body ++ [c],left:=s.left - 1,phase:=if s.left - 1 = 0 then 2 else s.phase } (by simp only; rw [if_neg hz]; exact h1) h2 (by simp only; omega) (by simp only [List.length_append,List.length_cons,List.length_nil]; omega)
   rw [this]
   have hm : min s.left.toNat (c :: b).length = min (s.left - 1).toNat b.length + 1:=by simp only [List.length_cons]; omega
   rw [hm]
   have hs : s.left - 1 - ((min (s.left - 1).toNat b.length : Nat) : Int) = s.left - ((min (s.left - 1).toNat b.length + 1 : Nat) : Int):=by omega
   simp only [hs,List.take_succ_cons,List.append_assoc,List.singleton_append]
theorem Aa8 (b : List UInt8) : ∀ s : Rs,s.phase = 1→s.framing = 3→
  (s.body.length + b.length≤65536→Af s b = ({ s with body:=s.body ++ b },b.length,0))∧(65536 < s.body.length + b.length→s.body.length≤65536→(Af s b).2.2 = 3):=by
 induction b with
 | nil =>
  intro s h1 h2
  refine ⟨fun _=>?_,fun h h2=>?_⟩
  ·obtain ⟨m,p,i,l,hd,f,bo,le,ch⟩:=s
   simp [Af]
  ·simp at h; omega
 | cons c b ih =>
  intro s h1 h2
  have hS : s.body.length < 65536→rsS s c = ({ s with body:=s.body ++ [c] },0):=fun h=>by
   unfold rsS
   rw [if_neg (by omega),if_neg (by omega),if_neg (by omega),if_neg (by omega)]
  refine ⟨fun h=>?_,fun h h3=>?_⟩
  ·simp only [List.length_cons] at h
   unfold Af
   rw [if_neg (by omega),hS (by omega),if_neg (by simp)]
   have:=(ih { s with body:=s.body ++ [c] } h1 h2).1 (by simp only [List.length_append,List.length_cons,List.length_nil]; omega)
   rw [this]
   simp
  ·unfold Af
   rw [if_neg (by omega)]
   by_cases hb : s.body.length < 65536
   ·rw [hS hb,if_neg (by simp)]
    exact (ih { s with body:=s.body ++ [c] } h1 h2).2 (by simp only [List.length_append,List.length_cons,List.length_nil] at h ⊢; omega) (by simp only [List.length_append,List.length_cons,List.length_nil]; omega)
   ·have : rsS s c = (s,3):=by
     unfold rsS
     rw [if_neg (by omega),if_neg (by omega),if_pos (by omega)]
    rw [this,if_pos (by simp)]
def Bd (s : Ch) : List UInt8→Ch×Nat×Int
 | []=>(s,0,0)
 | c :: b=>if s.phase = 4 then (s,0,0) else if (chS s c).2≠0 then (s,0,(chS s c).2) else ((Bd (chS s c).1 b).1,(Bd (chS s c).1 b).2.1 + 1,(Bd (chS s c).1 b).2.2)
theorem X7 (b : List UInt8) : ∀ s : Rs,s.phase = 1→s.framing = 2→s.chunks.phase≠4→
  ((Bd s.chunks b).2.2 = 0→Af s b = ({ s with chunks:=(Bd s.chunks b).1,phase:=if (Bd s.chunks b).1.phase = 4 then 2 else 1 },(Bd s.chunks b).2.1,0))∧((Bd s.chunks b).2.2≠0→(Af s b).2.2 = (Bd s.chunks b).2.2):=by
 induction b with
 | nil =>
  intro s h1 h2 h3
  refine ⟨fun _=>?_,fun h=>absurd rfl h⟩
  obtain ⟨m,p,i,l,hd,f,bo,le,ch⟩:=s
  simp only at h1 h2 h3
  subst h1 h2
  simp [Af,Bd,h3]
 | cons c b ih =>
  intro s h1 h2 h3
  by_cases he : (chS s.chunks c).2≠0
  ·have hS : rsS s c = (s,(chS s.chunks c).2):=by
    unfold rsS
    rw [if_neg (by omega),if_pos h2,if_pos he]
   have e1 : Bd s.chunks (c :: b) = (s.chunks,0,(chS s.chunks c).2):=by unfold Bd; rw [if_neg h3,if_pos he]
   have e2 : Af s (c :: b) = (s,0,(chS s.chunks c).2):=by unfold Af; rw [if_neg (by omega),hS,if_pos he]
   rw [e1,e2]
   exact ⟨fun h=>absurd h he,fun _=>rfl⟩
  ·have hS : rsS s c = ({ s with chunks:=(chS s.chunks c).1,phase:=if (chS s.chunks c).1.phase = 4 then 2 else s.phase },0):=by
    unfold rsS
    rw [if_neg (by omega),if_pos h2,if_neg he]
   have e1 : Bd s.chunks (c :: b) = ((Bd (chS s.chunks c).1 b).1,(Bd (chS s.chunks c).1 b).2.1 + 1,(Bd (chS s.chunks c).1 b).2.2):=by
    conv=>lhs; unfold Bd
    rw [if_neg h3,if_neg he]
   have e2 : Af s (c :: b) = ((Af { s with chunks:=(chS s.chunks c).1,phase:=if (chS s.chunks c).1.phase = 4 then 2 else s.phase } b).1,(Af { s with chunks:=(chS s.chunks c).1,phase:=if (chS s.chunks c).1.phase = 4 then 2 else s.phase } b).2.1 + 1,(Af { s with chunks:=(chS s.chunks c).1,phase:=if (chS s.chunks c).1.phase = 4 then 2 else s.phase } b).2.2):=by
    conv=>lhs; unfold Af
    rw [if_neg (by omega),hS,if_neg (by simp)]
   rw [e1,e2]
   by_cases h4 : (chS s.chunks c).1.phase = 4
   ·have c0 : Bd (chS s.chunks c).1 b = ((chS s.chunks c).1,0,0):=by
     cases b with
     | nil=>rfl
     | cons x b=>unfold Bd; rw [if_pos h4]
    have r0 : Af { s with chunks:=(chS s.chunks c).1,phase:=if (chS s.chunks c).1.phase = 4 then 2 else s.phase } b = ({ s with chunks:=(chS s.chunks c).1,phase:=if (chS s.chunks c).1.phase = 4 then 2 else s.phase },0,0):=by
     cases b with
     | nil=>rfl
     | cons x b=>unfold Af; rw [if_pos (by simp only; rw [if_pos h4])]
    rw [c0,r0]
    simp [h4]
   ·have:=ih { s with chunks:=(chS s.chunks c).1,phase:=if (chS s.chunks c).1.phase = 4 then 2 else s.phase } (by simp only; rw [if_neg h4]; exact h1) h2 h4
    simp only at this
    refine ⟨fun h=>?_,fun h=>?_⟩
    ·rw [this.1 h]
    ·rw [this.2 h]
end Go.Proofs.YtdoogdbjiijifaaGreatDoor
namespace Go.Proofs.YtdoogdbjiijifaaGreatDoor
open Go Go.Sx
set_option maxRecDepth 100000
set_option maxHeartbeats 400000
def headB (w : List UInt8) (L : List HF) : List UInt8:=w ++ 13 :: 10 :: Ca L
structure LineW (w : List UInt8) : Prop where
 ok : V9 w = true
 len : w.length≤300
 n10 : (10 : UInt8) ∉ w
def Aix : List UInt8:=[48,49,50,51,52,53,54,55,56,57,97,98,99,100,101,102]
def hexL (n : Nat) : List UInt8:=if _h : n < 16 then [Aix.getD n 0] else hexL (n / 16) ++ [Aix.getD (n % 16) 0]
 termination_by n
decreasing_by omega
structure HexOk (n : Nat) (l : List UInt8) : Prop where
 dig : ∀ x∈l,0≤D7 x
 size : A3 l = (l.length,n)
 no13 : (13 : UInt8) ∉ l
 ne : l≠[]
end Go.Proofs.YtdoogdbjiijifaaGreatDoor
namespace Go.Proofs.YtdoogdbjiijifaaGreatDoor
open Go Go.Sx
set_option maxRecDepth 100000
set_option maxHeartbeats 400000
def encC (b : List UInt8) : List UInt8:=(if b = [] then [] else hexL b.length ++ 13 :: 10 :: (b ++ [13,10])) ++ [48,13,10,13,10]
end Go.Proofs.YtdoogdbjiijifaaGreatDoor
namespace Go.Proofs.YtdoogdbjiijifaaGreatDoor
open Go Go.Sx
set_option maxRecDepth 100000
set_option maxHeartbeats 400000
def A6 (l : List UInt8) : Int:=if l = [] then 0 else if Cq l then 3 else if (A3 l).1 = l.length then 1 else 2
theorem Lv : ∀ (l : List UInt8) (k n : Nat),k≤(Ez l k n).1∧(Ez l k n).1≤k + l.length
 | [],k,n=>by simp [Ez]
 | c :: r,k,n=>by
  unfold Ez
  split
  ·have:=Lv r (k + 1) (16 * n + (D7 c).toNat)
   simp only [List.length_cons]; omega
  ·simp
theorem Rg (c : UInt8) : ∀ (l : List UInt8) (k n : Nat),Ez (l ++ [c]) k n = if (Ez l k n).1 = k + l.length∧0≤D7 c then ((Ez l k n).1 + 1,16 * (Ez l k n).2 + (D7 c).toNat) else Ez l k n
 | [],k,n=>by
  simp only [List.nil_append,Ez,List.length_nil,Nat.add_zero,true_and]
 | d :: r,k,n=>by
  simp only [List.cons_append]
  unfold Ez
  by_cases hd : 0≤D7 d
  ·rw [if_pos hd,if_pos hd,Rg c r]
   have e : (k + 1 + r.length) = k + (d :: r).length:=by simp only [List.length_cons]; omega
   rw [e]
  ·rw [if_neg hd,if_neg hd,if_neg]
   rintro ⟨h,_⟩
   simp only [List.length_cons] at h
   omega
theorem Iz (l : List UInt8) (c : UInt8) : A3 (l ++ [c]) = if (A3 l).1 = l.length∧0≤D7 c then ((A3 l).1 + 1,16 * (A3 l).2 + (D7 c).toNat) else A3 l:=by
 unfold A3
 rw [Rg,Nat.zero_add]
theorem Ag7 (l : List UInt8) : (A3 l).1≤l.length:=by have:=(Lv l 0 0).2; unfold A3; omega
theorem Ad5 (c : UInt8) : D7 c≤15:=(Aen _).2
theorem Ur : ∀ (l : List UInt8) (k n : Nat),n < 16 ^ k→(Ez l k n).2 < 16 ^ (Ez l k n).1
 | [],k,n,h=>h
 | c :: r,k,n,h=>by
  unfold Ez
  split
  ·refine Ur r _ _ ?_
   have h1:=Ad5 c
   rw [Nat.pow_succ]
   omega
  ·exact h
theorem Y6 {l : List UInt8} (h : Fh l) (k : Nat) : Fh (l.take k):=fun i hi=>by
 rw [List.length_take] at hi
 have h1:=h i (by omega)
 have e1 : (l.take k).take i = l.take i:=by rw [List.take_take]; congr 1; omega
 have e2 : (l.take k).getD i 0 = l.getD i 0:=by rw [List.getD_eq_getElem?_getD,List.getD_eq_getElem?_getD,List.getElem?_take,if_pos (by omega)]
 rw [e1,e2]; exact h1
theorem Pt {l : List UInt8} (h : Fh l) : (A3 l).1≤8:=by
 suffices H : ∀ k,k≤l.length→(A3 (l.take k)).1≤8 by
  have:=H l.length (Nat.le_refl _)
  rwa [List.take_length] at this
 intro k
 induction k with
 | zero=>intro _; simp [A3,Ez]
 | succ k ih =>
  intro hk
  have hm:=h k (by omega)
  have e : l.take (k + 1) = l.take k ++ [l.getD k 0]:=by
   rw [List.take_add_one,List.getElem?_eq_getElem (by omega),List.getD_eq_getElem?_getD,List.getElem?_eq_getElem (by omega)]; rfl
  rw [e,Iz]
  have i1:=ih (by omega)
  split
  ·rename_i g
   unfold Ct at hm
   split at hm
   ·cases hm
   split at hm
   ·rename_i g13
    rw [g13] at g
    exact absurd g.2 (by decide)
   split at hm
   ·split at hm
    ·cases hm
    ·rename_i g8
     simp only
     have : (A3 (l.take k)).1≠8:=fun e8=>g8 ⟨g.2,e8⟩
     omega
   ·rename_i g8; exact absurd g.1 g8
  ·exact i1
theorem So {l : List UInt8} (h : Fh l) : (A3 l).2 < 4294967296:=by
 have h1:=Ur l 0 0 (by decide)
 have h2:=Pt h
 have h3 : (16 : Nat) ^ (A3 l).1≤16 ^ 8:=Nat.pow_le_pow_right (by decide) h2
 have h4 : (A3 l).2 < 16 ^ (A3 l).1:=h1
 have h5 : (16 : Nat) ^ 8 = 4294967296:=by decide
 omega
theorem Hm (l : List UInt8) (c : UInt8) : Cq (l ++ [c]) = (c == 13):=by
 unfold Cq
 rw [List.length_append]
 simp only [List.length_cons,List.length_nil,Nat.add_sub_cancel]
 rw [List.getD_eq_getElem?_getD,List.getElem?_append_right (Nat.le_refl _)]
 simp
theorem Qw (l : List UInt8) : A6 (l ++ [13]) = 3∧A3 (l ++ [13]) = A3 l:=by
 refine ⟨?_,?_⟩
 ·unfold A6
  rw [if_neg (by simp),Hm]
  simp
 ·rw [Iz,if_neg]
  rintro ⟨_,h⟩
  exact absurd h (by decide)
theorem Zl {l : List UInt8} {c : UInt8} (h : (A3 l).1 = l.length) (hd : 0≤D7 c) : A6 (l ++ [c]) = 1∧(A3 (l ++ [c])).2 = 16 * (A3 l).2 + (D7 c).toNat:=by
 have hc : c≠13:=by rintro rfl; exact absurd hd (by decide)
 have e:=Iz l c
 rw [if_pos ⟨h,hd⟩] at e
 refine ⟨?_,by rw [e]⟩
 unfold A6
 rw [if_neg (by simp),Hm,if_neg (by simpa using hc),if_pos (by rw [e,List.length_append]; simp only [List.length_cons,List.length_nil]; omega)]
theorem Fx {l : List UInt8} {c : UInt8} (h : ¬ ((A3 l).1 = l.length∧0≤D7 c)) (hc : c≠13) : A6 (l ++ [c]) = 2∧A3 (l ++ [c]) = A3 l:=by
 have e:=Iz l c
 rw [if_neg h] at e
 refine ⟨?_,e⟩
 unfold A6
 have:=Ag7 l
 rw [if_neg (by simp),Hm,if_neg (by simpa using hc),if_neg (by rw [e,List.length_append]; simp only [List.length_cons,List.length_nil]; omega)]
theorem Pz (l : List UInt8) : A6 l = 0∨A6 l = 1∨A6 l = 2∨A6 l = 3:=by
 unfold A6
 split
 ·simp
 split
 ·simp
 split<;>simp
theorem Qx {l : List UInt8} : A6 l = 0↔l = []:=by
 unfold A6
 split
 ·simp_all
 split
 ·simp_all
 split<;>simp_all
theorem K8 {l : List UInt8} : A6 l = 3↔Cq l = true:=by
 unfold A6
 split
 ·rename_i h; subst h; simp [Cq]
 split
 ·simp_all
 split<;>simp_all
theorem W1 {l : List UInt8} (h : A6 l = 1) : l≠[]∧Cq l = false∧(A3 l).1 = l.length:=by
 unfold A6 at h
 split at h
 ·cases h
 split at h
 ·cases h
 split at h
 ·exact ⟨by assumption,by simp_all,by assumption⟩
 ·cases h
theorem W0 {l : List UInt8} (h : A6 l = 2) : l≠[]∧Cq l = false∧(A3 l).1≠l.length:=by
 unfold A6 at h
 split at h
 ·cases h
 split at h
 ·cases h
 split at h
 ·cases h
 ·exact ⟨by assumption,by simp_all,by assumption⟩
theorem Sq {l : List UInt8} (h : Fh l) : l.length≤201:=by
 refine Nat.le_of_not_lt fun hl=>?_
 have h1:=h 200 (by omega)
 have hlen : (l.take 200).length = 200:=by rw [List.length_take]; omega
 have hc : l.getD 200 0 = 13:=by
  refine Decidable.byContradiction fun hc=>?_
  unfold Ct at h1
  split at h1
  ·cases h1
  rw [hlen] at h1
  split at h1
  ·split at h1
   ·cases h1
   ·split at h1
    ·cases h1
    ·rw [if_pos (Nat.le_refl _)] at h1; cases h1
  ·split at h1
   ·cases h1
   ·rw [if_pos (Nat.le_refl _)] at h1; cases h1
 have h2:=h 201 (by omega)
 have e : l.take 201 = l.take 200 ++ [l.getD 200 0]:=by
  rw [List.take_add_one,List.getElem?_eq_getElem (by omega),List.getD_eq_getElem?_getD,List.getElem?_eq_getElem (by omega)]; rfl
 rw [e,hc] at h2
 unfold Ct at h2
 rw [Hm,if_pos (by decide)] at h2
 cases h2
theorem Sp {l : List UInt8} (h : Fh l) (hl : l≠[]) : (A3 l).1≠0:=by
 match l,hl with
 | c :: r,_ =>
  have h0:=h 0 (by simp)
  have hd : 0≤D7 c:=by
   simp only [List.take_zero,List.getD_cons_zero] at h0
   unfold Ct at h0
   split at h0
   ·cases h0
   split at h0
   ·rw [if_pos (show (A3 ([] : List UInt8)).1 = 0 from rfl)] at h0; cases h0
   rw [if_pos (show (A3 ([] : List UInt8)).1 = ([] : List UInt8).length from rfl)] at h0
   split at h0
   ·cases h0
   split at h0
   ·cases h0
   ·rename_i g
    exact Int.not_lt.1 fun e=>g ⟨e,.inr rfl⟩
  unfold A3 Ez
  rw [if_pos hd]
  have:=(Lv r 1 (16 * 0 + (D7 c).toNat)).1
  simp only [Nat.zero_add]
  omega
theorem Nn {l : List UInt8} (h : A6 l = 0∨A6 l = 1) : Cq l = false∧(A3 l).1 = l.length:=by
 rcases h with h | h
 ·rw [Qx] at h; subst h; exact ⟨rfl,rfl⟩
 ·exact ⟨(W1 h).2.1,(W1 h).2.2⟩
theorem Yt {l : List UInt8} {c : UInt8} (h : A6 l = 3) : Ct l c = 6:=by
 unfold Ct; rw [if_pos (K8.1 h)]
theorem Qu {l : List UInt8} (hl : Fh l) (h : A6 l≠3) : Ct l 13 = if A6 l = 0 then 6 else 0:=by
 have h3 : Cq l = false:=by
  cases e : Cq l with
  | false=>rfl
  | true=>exact absurd (K8.2 e) h
 unfold Ct
 rw [h3]
 simp only [Bool.false_eq_true,if_false,if_true]
 by_cases h0 : A6 l = 0
 ·rw [if_pos h0]; rw [Qx] at h0; subst h0; rfl
 ·rw [if_neg h0,if_neg (Sp hl fun e=>h0 (Qx.2 e))]
theorem Il {l : List UInt8} {c : UInt8} (h : A6 l = 2) (hc : c≠13) : Ct l c = if !okB c then 6 else if 200≤l.length then 3 else 0:=by
 obtain ⟨_,h2,h3⟩:=W0 h
 unfold Ct
 rw [h2,if_neg (by simp),if_neg hc,if_neg h3]
theorem more_8 {l : List UInt8} {c : UInt8} (h : A6 l = 0∨A6 l = 1) (hd : 0≤D7 c) (h8 : l.length = 8) : Ct l c = 3:=by
 obtain ⟨h2,h3⟩:=Nn h
 have hc : c≠13:=by rintro rfl; exact absurd hd (by decide)
 unfold Ct
 rw [h2,if_neg (by simp),if_neg hc,if_pos h3,if_pos ⟨hd,by omega⟩]
theorem Yu {l : List UInt8} {c : UInt8} (h : A6 l = 0∨A6 l = 1) (hd : 0≤D7 c) (h8 : l.length≠8) : Ct l c = if 200≤l.length then 3 else 0:=by
 obtain ⟨h2,h3⟩:=Nn h
 have hc : c≠13:=by rintro rfl; exact absurd hd (by decide)
 unfold Ct
 rw [h2,if_neg (by simp),if_neg hc,if_pos h3,if_neg (by rintro ⟨_,e⟩; omega),if_neg (by rintro ⟨e,_⟩; omega)]
theorem K5 {l : List UInt8} (hl : Fh l) (h : A6 l = 1) : Ct l 59 = if 200≤l.length then 3 else 0:=by
 obtain ⟨h1,h2,h3⟩:=W1 h
 have hd : D7 59 < 0:=by decide
 unfold Ct
 rw [h2,if_neg (by simp),if_neg (by decide),if_pos h3,if_neg (by rintro ⟨e,_⟩; omega),if_neg]
 rintro ⟨_,e | e⟩
 ·exact e rfl
 ·exact Sp hl h1 e
theorem Yv {l : List UInt8} {c : UInt8} (h : A6 l = 0∨A6 l = 1) (hd : D7 c < 0) (hc : c≠13) (hn : ¬ (c = 59∧A6 l = 1)) : Ct l c = 6:=by
 obtain ⟨h2,h3⟩:=Nn h
 unfold Ct
 rw [h2,if_neg (by simp),if_neg hc,if_pos h3,if_neg (by rintro ⟨e,_⟩; omega),if_pos]
 refine ⟨hd,?_⟩
 by_cases e : c = 59
 ·refine .inr ?_
  rcases h with h | h
  ·rw [Qx] at h; subst h; rfl
  ·exact absurd ⟨e,h⟩ hn
 ·exact .inl e
theorem Aaa {s : Ch} {c : UInt8} (hp : s.phase = 0) (h : ¬ (c = 10∧Cq s.line = true)) : chS s c = if Ct s.line c≠0 then (s,Ct s.line c) else (⟨0,s.line ++ [c],s.data,s.left,s.trailers⟩,0):=by
 unfold chS; rw [if_pos hp,if_neg h]
theorem Z9 {s : Ch} (hp : s.phase = 0) (h : Cq s.line = true) : chS s 10 = if (A3 s.line).2 = 0 then (⟨3,[],s.data,s.left,s.trailers⟩,0) else if 65536 < s.data.length + (A3 s.line).2 then (s,3) else (⟨1,[],s.data,(A3 s.line).2,s.trailers⟩,0):=by
 unfold chS; rw [if_pos hp,if_pos ⟨rfl,h⟩]
end Go.Proofs.YtdoogdbjiijifaaGreatDoor
namespace Go.Proofs.YtdoogdbjiijifaaGreatDoor
open Go Go.Sx
set_option maxRecDepth 100000
set_option maxHeartbeats 400000
structure EqNN (a b : Nat) : Prop where
 h : a = b
structure LeN (a b : Nat) : Prop where
 h : a≤b
def LeO (s s' : SV) : Prop:=∀ (I : Nat→Nat→Prop) (w : Go.World) (v : Go.Value),RO I w s v→RO I w s' v
theorem LeO.refl (s : SV) : LeO s s:=fun _ _ _ h=>h
theorem LeO.sl {nl nl' : BT} {n n' : ST} {sz : Nat} {f f' : Nat→List SV} (h1 : nl.den = nl'.den) (h2 : n.den = n'.den) (h : ∀ i : Nat,(i : Int) < n.den→f i = f' i) : LeO (.sl nl n sz f) (.sl nl' n' sz f'):=by
 intro I w v hr
 rcases hr.sl_inv with ⟨rfl,e0,e1⟩ | ⟨a,m,cap,g,rfl,e1,e2,e3,e3',e4,e5,e5',e6,e7⟩
 ·exact .slnil (by rw [←h1]; exact e1) (by rw [←h2]; exact e0)
 ·have hf : ∀ i,i < m→f' i = f i:=fun i hi=>(h i (by omega)).symm
  exact .sl g (by rw [←h1]; exact e1) (by rw [←h2]; exact e2) e3 e3' e4 (fun i hi=>by rw [hf i hi]; exact e5 i hi) e5' e6 (fun i j s hi hs=>by rw [hf i hi] at hs; exact e7 i j s hi hs)
def rqCs (r : Rq) (nl : Bool) (n : Int) (f : Nat→List SV) : List SV:=[.int .i64 (.a r.id),.str r.method,.str r.target,.str r.host,.sl (.a nl) (.a n) 2 f,.str r.body]
def IsRq (cs : List SV) (r : Rq) : Prop:=∃ nl n f,cs = rqCs r nl n f∧GrH f n nl r.fields
structure Ts (f : Nat→List SV) (n : Int) (l : List Rq) : Prop where
 n : n = l.length
 f : ∀ i,i < l.length→IsRq (f i) (l.getD i rqZ)
 len : l.length≤9223372036854775807
structure GrQ (f : Nat→List SV) (n : Int) (nl : Bool) (l : List Rq) : Prop where
 row : Ts f n l
 nl : nl = l.isEmpty
theorem Ts.nil : Ts (fun _=>[]) 0 []:=⟨rfl,fun i hi=>absurd hi (by simp),by simp⟩
theorem GrQ.nil : GrQ (fun _=>[]) 0 true []:=⟨Ts.nil,rfl⟩
theorem Ts.app {f g f' : Nat→List SV} {n m n' : Int} {a b : List Rq} (R : Ts f n a) (S : Ts g m b) (h : Hq f' n' n m f g) (hl : a.length + b.length≤9223372036854775807) : Ts f' n' (a ++ b):=by
 have hn:=R.n; have hm:=S.n
 refine ⟨by rw [h.len,hn,hm,List.length_append]; omega,fun i hi=>?_,by rw [List.length_append]; exact hl⟩
 rw [List.length_append] at hi
 by_cases h1 : i < a.length
 ·rw [h.lo i (by omega),List.getD_eq_getElem?_getD,List.getElem?_append_left h1,←List.getD_eq_getElem?_getD]
  exact R.f i h1
 ·rw [h.hi i (i - a.length) (by omega) (by omega),List.getD_eq_getElem?_getD,List.getElem?_append_right (by omega),←List.getD_eq_getElem?_getD]
  exact S.f _ (by omega)
theorem Ts.one {f : Nat→List SV} {x : Rq} (h : IsRq (f 0) x) : Ts f 1 [x]:=by
 refine ⟨rfl,fun i hi=>?_,by simp⟩
 have hi : i < 1:=hi
 obtain rfl : i = 0:=by omega
 exact h
theorem GrQ.more {f f' g : Nat→List SV} {n n' : Int} {nl nl' : Bool} {l : List Rq} {x : Rq} (G : GrQ f n nl l) (hg : IsRq (g 0) x) (h : Hq f' n' n 1 f g) (hl : l.length≤1000000) (hb : nl' = false) : GrQ f' n' nl' (l ++ [x]) :=
 ⟨G.row.app (Ts.one hg) h (by simp only [List.length_cons,List.length_nil]; omega),by rw [hb]; simp⟩
end Go.Proofs.YtdoogdbjiijifaaGreatDoor
namespace Go.Proofs.YtdoogdbjiijifaaGreatDoor
open Go Go.Sx
set_option maxRecDepth 100000
set_option maxHeartbeats 8000000
structure D9 (s : Ch) (ph lf : Int) (tl : Int) (tf : Nat→List SV) (dl : Int) (df : Nat→List SV) (nl : Int) (nf : Nat→List SV) (fo sz : Int) : Prop where
 eph : ph = s.phase
 elf : lf = s.left
 tr : Bz tf tl s.trailers
 da : A8 df dl s.data
 li : A8 nf nl s.line
 efo : fo = if s.phase = 0 then A6 s.line else 0
 esz : sz = if s.phase = 0 then ((A3 s.line).2 : Int) else 0
def rdC (ph : Int) (l0 d0 : List UInt8) (lf : Int) (tn : Bool) (tl : Int) (tf : Nat→List SV) (db : Bool) (dl : Int) (nn : Bool) (nl g fo sz : Int) : List SV :=
 [.int .i64 (.a ph),.str l0,.str d0,.int .i64 (.a lf),.sl (.a tn) (.a tl) 2 tf,.osl (.a db) (.a dl) 1,.vsl (.a nn) (.a nl) (.a g) 2,.int .i64 (.a fo),.int .i64 (.a sz)]
structure Agp (s s' : Ch) (tn nn : Bool) (g : Int) (tn' nn' : Bool) (g' : Int) (db' : Bool) : Prop where
 ed : db' = false
 et : tn' = if s'.phase = 4 then s'.trailers.isEmpty else tn
 en : nn' = if s.phase = 1 then nn else s'.line.isEmpty
 eg : g' = if s.phase = 1 then g else if s'.phase = 4 then g + 3 else g + 1
def Tr (s : Ch) (c : UInt8) (l0 d0 : List UInt8) (tn0 nn0 : Bool) (g0 : Int) (gr : Bool) (K : SV→List Hl→Prop) : Prop :=
 ∀ e,e = (chS s c).2→(e≠0→K (.int .i64 (.a e)) [.gone,.gone,.gone])∧
  (e = 0→∀ ph lf tn tl tf db dl df nn nl g nf fo sz,D9 (chS s c).1 ph lf tl tf dl df nl nf fo sz→Agp s (chS s c).1 tn0 nn0 g0 tn nn g db→K (.int .i64 (.a e)) [.blk 220 (rdC ph l0 d0 lf tn tl tf db dl nn nl g fo sz),.own 5 (.a dl) 1 gr df,.vec 5 (.a nl) (.a g) 1 nf])
def J4 (p : Int) : FSpec:=fun _ xs ls K=>∃ (s : Ch) (c : UInt8) (ci : Int) (ph lf : Int) (l0 d0 : List UInt8) (tn : Bool) (tl : Int) (tf : Nat→List SV) (db : Bool) (dl : Int) (gr : Bool) (df : Nat→List SV) (nn : Bool) (nl g : Int) (nf : Nat→List SV) (fo sz : Int),
 xs = [.ptr 0 0,.int .u8 (.a ci)]∧ls = [.blk 220 (rdC ph l0 d0 lf tn tl tf db dl nn nl g fo sz),.own 5 (.a dl) 1 gr df,.vec 5 (.a nl) (.a g) 1 nf]∧
 ci = (c.toNat : Int)∧D9 s ph lf tl tf dl df nl nf fo sz∧s.phase = p∧db = false∧H7 s∧Tr s c l0 d0 tn nn g gr K
theorem Ce (s : List UInt8) : LeV (.str s) (.str s):=LeV.refl _
theorem L8 {t t' ph ph' lf lf' tl tl' dl dl' nl nl' g g' g2 g2' n n' fo fo' sz sz' : ST} {l0 d0 : List UInt8} {tn tn' db db' nn nn' : BT} {tf tf' df df' nf nf' : Nat→List SV} {gr : Bool} (he : t.den = t'.den) (h1 : ph.den = ph'.den) (h2 : lf.den = lf'.den)
  (h3 : LeV (.sl tn tl 2 tf) (.sl tn' tl' 2 tf')) (h4 : db.den = db'.den∧dl.den = dl'.den) (h5 : nn.den = nn'.den∧nl.den = nl'.den∧g.den = g'.den) (h6 : fo.den = fo'.den) (h7 : sz.den = sz'.den)
  (h8 : n.den = n'.den∧∀ i : Nat,(i : Int) < n.den→df i = df' i) {m m' : ST} (h9 : m.den = m'.den∧g2.den = g2'.den∧∀ i : Nat,(i : Int) < m.den→nf i = nf' i) :
  Fin (.int .i64 t) (.int .i64 t') [.blk 220 [.int .i64 ph,.str l0,.str d0,.int .i64 lf,.sl tn tl 2 tf,.osl db dl 1,.vsl nn nl g 2,.int .i64 fo,.int .i64 sz],.own 5 n 1 gr df,.vec 5 m g2 1 nf]
   [.blk 220 [.int .i64 ph',.str l0,.str d0,.int .i64 lf',.sl tn' tl' 2 tf',.osl db' dl' 1,.vsl nn' nl' g' 2,.int .i64 fo',.int .i64 sz'],.own 5 n' 1 gr df',.vec 5 m' g2' 1 nf'] :=
 ⟨Al he,Cp (LeH.cons (Am (.cons (Al h1) (.cons (Ce _) (.cons (Ce _) (.cons (Al h2) (.cons h3 (.cons (Adm h4.1 h4.2) (.cons (Adl h5.1 h5.2.1 h5.2.2) (.cons (Al h6) (.cons (Al h7) .nil))))))))))
  (LeH.cons (Wp h8.1 h8.2) (LeH.cons (Hj h9.1 h9.2.1 h9.2.2) fun _ _ _ _ h=>h))),Nat.le_refl _⟩
theorem Dh {t t' : ST} {a b c : Hl} (he : t.den = t'.den) : Fin (.int .i64 t) (.int .i64 t') [a,b,c] [.gone,.gone,.gone]:=by
 refine ⟨Al he,fun h E w hk=>?_,Nat.le_refl _⟩
 match h with
 | 0=>trivial
 | 1=>trivial
 | 2=>trivial
 | h + 3=>exact hk
theorem row1 {f : Nat→List SV} {c : UInt8} (h : f 0 = [.int .u8 (.a (c.toNat : Int))]) : ∀ i,i < [c].length→f i = [.int .u8 (.a (([c].getD i 0).toNat : Int))]:=by
 intro i hi
 have : i = 0:=by simpa using hi
 subst this
 simpa using h
theorem eqB (c d : UInt8) : ((c.toNat : Int) == (d.toNat : Int)) = (c == d):=by
 rw [Bool.eq_iff_iff,beq_iff_eq,beq_iff_eq]
 constructor
 ·intro h; exact UInt8.toNat_inj.1 (by omega)
 ·intro h; rw [h]
theorem Afx : A2 Tryz.prog gl 187 (J4 1):=by
 refine Ek (gh:=[]) mixed Dd Aw Tryz.func187 (by kernel_rfl) (by kernel_rfl) ?_
 intro xs ls K h
 unfold J4 at h
 obtain ⟨s,c,ci,ph,lf,l0,d0,tn,tl,tf,db,dl,gr,df,nn,nl,g,nf,fo,sz,rfl,rfl,rfl,V,hp,hdb,hO,h⟩:=h
 have hc : chS s c = (⟨if s.left - 1 = 0 then 2 else 1,s.line,s.data ++ [c],s.left - 1,s.trailers⟩,0):=by unfold chS; rw [if_neg (by omega),if_pos hp]
 obtain ⟨q1,q2,q3⟩:=hO.p1 hp
 have hd:=hO.data
 have hle:=V.elf
 have hw : IntKind.i64.wrap (lf - 1) = lf - 1:=Bl (by omega) (by omega)
 unfold Tr at h
 rw [hc] at h
 have h:=(h 0 rfl).2 rfl
 simp only at h
 have hdl : dl = s.data.length:=V.da.n
 have R' : A8 (byteRow (s.data ++ [c])) ((s.data ++ [c]).length : Nat) (s.data ++ [c]):=⟨rfl,fun i _=>rfl⟩
 have hfo : fo = 0:=by have:=V.efo; rwa [if_neg (by omega)] at this
 have hsz : sz = 0:=by have:=V.esz; rwa [if_neg (by omega)] at this
 have VD : VI dl s.data.length:=⟨hdl⟩
 have HL : LeN s.data.length 65536:=⟨hd⟩
 clear hdl hd
 have go : ∀ ph' : Int,ph' = (if s.left - 1 = 0 then 2 else 1)→K (.int .i64 (.a 0)) [.blk 220 (rdC ph' l0 d0 (IntKind.i64.wrap (lf - 1)) tn tl tf false ((s.data ++ [c]).length : Nat) nn nl g fo sz),.own 5 (.a ((s.data ++ [c]).length : Nat)) 1 gr (byteRow (s.data ++ [c])),.vec 5 (.a nl) (.a g) 1 nf]:=fun ph' hph =>
  h ph' _ tn tl tf false _ _ nn nl g nf fo sz ⟨hph,by rw [hw,hle],V.tr,R',V.li,by rw [hfo,if_neg]; show ¬ (if _ then _ else _) = _; split<;>decide,by rw [hsz,if_neg]; show ¬ (if _ then _ else _) = _; split<;>decide⟩ ⟨rfl,by rw [if_neg]; show ¬ (if _ then _ else _) = _; split<;>decide,by rw [if_pos hp],by rw [if_pos hp]⟩
 have hzd : (IntKind.i64.wrap (lf - 1) == 0) = decide (s.left - 1 = 0):=by rw [hw,hle,Bool.eq_iff_iff,beq_iff_eq,decide_eq_true_eq]
 obtain ⟨N,VN⟩ : ∃ N : Int,VI N (s.data ++ [c]).length:=⟨_,⟨rfl⟩⟩
 rw [←VN.h] at go R'
 have hNd : N = dl + 1:=by rw [VN.h,VD.h,List.length_append]; simp
 obtain ⟨W,hW⟩ : ∃ W,W = IntKind.i64.wrap (lf - 1):=⟨_,rfl⟩
 rw [←hW] at go
 have EW : EqI W (IntKind.i64.wrap (lf - 1)):=⟨hW⟩
 clear hW
 have HN : EqI N (dl + 1):=⟨hNd⟩
 obtain ⟨T,hT⟩ : ∃ T,T = s.data ++ [c]:=⟨_,rfl⟩
 rw [←hT] at go R'
 clear h hc hNd hle q3 q2
 refine ⟨_,_,go (if s.left - 1 = 0 then 2 else 1) rfl,fun D hD=>?_⟩
 obtain ⟨p',hp'⟩ : ∃ p' : Int,p' = (if s.left - 1 = 0 then 2 else 1):=⟨_,rfl⟩
 rw [←hp']
 cbv
 intro f3 hf3
 cbv
 refine ⟨by subst hD; exact ⟨rfl,by show (dl + 1) * 1≤_; rw [VD.h]; have:=HL.h; omega,by show dl + 1≤_; rw [VD.h]; have:=HL.h; omega⟩,fun f4 n4 hm=>?_⟩
 cbv
 have h40 : f3 0 = [.int .u8 (.a (c.toNat : Int))]:=by rw [hf3.h 0 _ rfl]; subst hD; rfl
 have R4 : A8 f4 n4 (s.data ++ [c]):=V.da.more (g:=f3) (u:=[c]) rfl (row1 h40) (by subst hD; exact hm)
 clear hm hf3
 rw [←hT] at R4
 have hrow : n4 = N∧∀ i : Nat,(i : Int) < n4→f4 i = byteRow T i:=by
  have e1:=R4.n
  have e2:=R'.n
  refine ⟨by omega,fun i hi=>?_⟩
  rw [R4.f i (by omega)]; rfl
 refine br hD (fun hb=>?_) (fun hb=>?_)<;>cbv
 ·have hb : (IntKind.i64.wrap (lf - 1) == 0) = true:=by subst hD; exact hb
  rw [hzd,decide_eq_true_eq] at hb
  rw [if_pos hb] at hp'
  subst hD hp'
  exact L8 rfl rfl (by exact EW.h.symm) (LeV.refl _) ⟨by rw [hdb]; rfl,by exact hrow.1⟩ ⟨rfl,rfl,rfl⟩ rfl rfl (by exact hrow) ⟨rfl,rfl,fun _ _=>rfl⟩
 ·have hb : (IntKind.i64.wrap (lf - 1) == 0) = false:=by subst hD; exact hb
  rw [hzd,decide_eq_false_iff_not] at hb
  rw [if_neg hb] at hp'
  have hph:=V.eph
  rw [hp] at hph
  subst hD hp' hph
  exact L8 rfl rfl (by exact EW.h.symm) (LeV.refl _) ⟨by rw [hdb]; rfl,by exact hrow.1⟩ ⟨rfl,rfl,rfl⟩ rfl rfl (by exact hrow) ⟨rfl,rfl,fun _ _=>rfl⟩
end Go.Proofs.YtdoogdbjiijifaaGreatDoor
