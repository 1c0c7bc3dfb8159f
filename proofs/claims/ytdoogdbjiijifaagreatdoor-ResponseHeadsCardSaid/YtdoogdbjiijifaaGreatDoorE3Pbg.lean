/- Part of the proofs of the statements about responses and messages (layers 9 and 10): a symbolic executor over the code, that it is sound, and contracts of functions; it has no conditions of its own. -/
import Derived.Test.YtdoogdbjiijifaaGreatDoorE3Pbf
import Derived.Test.YtdoogdbjiijifaaGreatDoorE3Pbd
import Derived.Test.YtdoogdbjiijifaaGreatDoorE3Pbc
import Derived.Test.YtdoogdbjiijifaaGreatDoorE3Pav
import Derived.Test.YtdoogdbjiijifaaGreatDoorE3Pba
namespace Go.Proofs.YtdoogdbjiijifaaGreatDoor
open Go Go.Sx
set_option maxRecDepth 100000
set_option maxHeartbeats 400000
theorem V8(s:List UInt8)(c d:UInt8)(h:d≠c):Lib.indexByte (s++[d]) c=Lib.indexByte s c:=by
 induction s with
 |nil =>
  show Lib.indexByte [d] c=-1;unfold Lib.indexByte;rw[if_neg (by simpa using h)];rfl
 |cons x r ih =>
  rw[List.cons_append];unfold Lib.indexByte;rw[ih]
theorem W9{b:List UInt8}{c:UInt8}(hc:c≠10)(hl:b.length+1<=8192):∀(m m' p:Nat) (r:List HF),p<=b.length->b.length-p<m->b.length+1-p<m'->(hpG b m p r).2.2=10->(hpG (b++[c]) m' p r).2.2=10
 |0,_,_,_,_,h,_,_=>by omega
 |_+1,0,_,_,_,_,h,_=>by omega
 |m+1,m'+1,p,r,hp,h,h',he=>by
  have hd:(b++[c]).drop p=b.drop p++[c]:=List.drop_append_of_le_length hp;have hi:=Hb (s:=b.drop p) (c:=10);rw[List.length_drop]at hi;have hx:=V8 (b.drop p) 10 c hc;unfold hpG at he ⊢;rw[hd,hx]
  split at he
  ·cases he
  rename_i g1;rw[if_neg (by
   intro e;rw[Bool.or_eq_true,Bool.and_eq_true]at e;rw[Bool.or_eq_true,Bool.and_eq_true]at g1;rcases e with e|e
   ·have:=of_decide_eq_true e.2
    rw[List.length_append]at this;simp only[List.length_cons,List.length_nil]at this;omega
   ·exact g1 (.inr e))]
  split at he
  ·rename_i g2;rw[if_pos g2]
  rename_i g2;rw[if_neg g2];have hj:=hi.2 (by omega);have htk:(b.drop p++[c]).take (Lib.indexByte (b.drop p) 10).toNat=(b.drop p).take (Lib.indexByte (b.drop p) 10).toNat:=List.take_append_of_le_length (by rw[List.length_drop];omega);rw[htk]
  split at he
  ·cases he
  rename_i g3;rw[if_neg g3]
  split at he
  ·cases he
  rename_i g4;rw[if_neg g4]
  split at he
  ·cases he
  rename_i g5;rw[if_neg g5]
  split at he
  ·cases he
  rename_i g6;rw[if_neg g6];exact W9 hc hl m m' _ _ (by omega) (by omega) (by omega) he
theorem Q7{b:List UInt8}{c:UInt8}(hc:c≠10)(hl:b.length+1<=8192)(h:(Av b).2.2=10):(Av (b++[c])).2.2=10:=by
 unfold Av at h ⊢;rw[List.length_append];exact W9 hc hl _ _ 0 [] (by omega) (by omega) (by simp) h
theorem Aim{l:List UInt8}{c:UInt8}(hc:c≠10)(hl:l.length+1<=301)(h:(An l).2.2=10):(An (l++[c])).2.2=10:=by
 have t1:l.take 302=l:=List.take_of_length_le (by omega);have t2:(l++[c]).take 302=l++[c]:=List.take_of_length_le (by simp;omega);obtain⟨c1,c2,c3⟩:=Xs 10 l;unfold An at h ⊢;rw[t1]at h;rw[t2];cases hb:(Am 10 l).2.2 with
 |false =>
  rw[hb]at c2;simp only[Bool.false_eq_true,if_false,List.append_nil]at c2;have hn:(10:UInt8) ∉ l:=by rw[c2];exact c1
  have hn2:(10:UInt8) ∉ l++[c]:=by
   rw[List.mem_append,not_or];exact⟨hn,by simpa using λe=>hc e.symm⟩
  rw[Qf hn2];simp only[Bool.not_false,if_true];rw[if_neg (by simp;omega)]
 |true =>
  rw[hb]at c2;simp only[if_true]at c2;have e2:l++[c]=(Am 10 l).1++10 :: ((Am 10 l).2.1++[c]):=by
   conv=>lhs;rw[c2]
   simp
  have e3:Am 10 (l++[c])=((Am 10 l).1,(Am 10 l).2.1++[c],true):=by rw[e2,Jr c1]
  rw[e3];rw[hb]at h;simp only[Bool.not_true,Bool.false_eq_true,if_false]at h ⊢
  split at h
  ·cases h
  rename_i g1;rw[if_neg g1];have hd:l.drop ((Am 10 l).1.length+1)=(Am 10 l).2.1:=by
   have h9:=congrArg (List.drop ((Am 10 l).1.length+1)) c2;rw[h9,<-List.drop_drop,List.drop_left];rfl
  have hd2:(l++[c]).drop ((Am 10 l).1.length+1)=(Am 10 l).2.1++[c]:=by
   rw[e2,<-List.drop_drop,List.drop_left];rfl
  rw[hd]at h;rw[hd2];have hlen:(Am 10 l).2.1.length+1<=8192:=by
   have:=congrArg List.length c2;rw[List.length_append,List.length_cons]at this;omega
  split at h
  ·rename_i g
   have h:(Av (Am 10 l).2.1).2.2=10:=h;have hm:=Q7 hc hlen h;rw[if_pos (by rw[hm];decide)];exact hm
  ·cases h
theorem Ahk(b:List UInt8):∀s:Rs,s.phase=1->s.framing=1->1<=s.left->s.left+(s.body.length:Int)<=65536->
  A0 s b=({ s with body:=s.body++b.take (min s.left.toNat b.length),left:=s.left-(min s.left.toNat b.length:Nat),phase:=if s.left-(min s.left.toNat b.length:Nat)=0 then 2 else 1 },min s.left.toNat b.length,0):=by
 induction b with
 |nil =>
  intro s h1 h2 h3 h4;obtain⟨m,p,i,l,hd,f,bo,le,ch⟩:=s;simp only at h1 h2 h3 h4;subst h1 h2;simp[A0];omega
 |cons c b ih =>
  intro s h1 h2 h3 h4;have hS:rsS s c=({ s with body:=s.body++[c],left:=s.left-1,phase:=if s.left-1=0 then 2 else s.phase },0):=by
   unfold rsS;rw[if_neg (by omega),if_neg (by omega),if_neg (by omega),if_pos h2]
  unfold A0;rw[if_neg (by omega),hS,if_neg (by simp)]
  by_cases hz:s.left-1=0
  ·have e:A0 { s with body:=s.body++[c],left:=s.left-1,phase:=if s.left-1=0 then 2 else s.phase } b=({ s with body:=s.body++[c],left:=s.left-1,phase:=if s.left-1=0 then 2 else s.phase },0,0):=by
    cases b with
    |nil=>rfl
    |cons x b=>unfold A0;rw[if_pos (by simp only;rw[if_pos hz])]
   rw[e];have hm:min s.left.toNat (c :: b).length=1:=by simp only[List.length_cons];omega
   rw[hm];simp only[List.take_succ_cons,List.take_zero,Int.natCast_one,if_pos hz]
  ·have:=ih { s with body:=s.body++[c],left:=s.left-1,phase:=if s.left-1=0 then 2 else s.phase } (by simp only;rw[if_neg hz];exact h1) h2 (by simp only;omega) (by simp only[List.length_append,List.length_cons,List.length_nil];omega)
   rw[this];have hm:min s.left.toNat (c :: b).length=min (s.left-1).toNat b.length+1:=by simp only[List.length_cons];omega
   rw[hm];have hs:s.left-1-((min (s.left-1).toNat b.length:Nat):Int)=s.left-((min (s.left-1).toNat b.length+1:Nat):Int):=by omega
   simp only[hs,List.take_succ_cons,List.append_assoc,List.singleton_append]
theorem Adf(b:List UInt8):∀s:Rs,s.phase=1->s.framing=3->
  (s.body.length+b.length<=65536->A0 s b=({ s with body:=s.body++b },b.length,0))/\(65536<s.body.length+b.length->s.body.length<=65536->(A0 s b).2.2=3):=by
 induction b with
 |nil =>
  intro s h1 h2;refine⟨λ_=>?_,λh h2=>?_⟩
  ·obtain⟨m,p,i,l,hd,f,bo,le,ch⟩:=s
   simp[A0]
  ·simp at h;omega
 |cons c b ih =>
  intro s h1 h2;have hS:s.body.length<65536->rsS s c=({ s with body:=s.body++[c] },0):=λh=>by
   unfold rsS;rw[if_neg (by omega),if_neg (by omega),if_neg (by omega),if_neg (by omega)]
  refine⟨λh=>?_,λh h3=>?_⟩
  ·simp only[List.length_cons]at h
   unfold A0;rw[if_neg (by omega),hS (by omega),if_neg (by simp)];have:=(ih { s with body:=s.body++[c] } h1 h2).1 (by simp only[List.length_append,List.length_cons,List.length_nil];omega);rw[this];simp
  ·unfold A0
   rw[if_neg (by omega)]
   by_cases hb:s.body.length<65536
   ·rw[hS hb,if_neg (by simp)]
    exact (ih { s with body:=s.body++[c] } h1 h2).2 (by simp only[List.length_append,List.length_cons,List.length_nil]at h ⊢;omega) (by simp only[List.length_append,List.length_cons,List.length_nil];omega)
   ·have:rsS s c=(s,3):=by
     unfold rsS;rw[if_neg (by omega),if_neg (by omega),if_pos (by omega)]
    rw[this,if_pos (by simp)]
def Bi(s:Ch):List UInt8->Ch×Nat×Int
 | []=>(s,0,0)
 |c :: b=>if s.phase=4 then (s,0,0) else if (chS s c).2≠0 then (s,0,(chS s c).2) else ((Bi (chS s c).1 b).1,(Bi (chS s c).1 b).2.1+1,(Bi (chS s c).1 b).2.2)
theorem Z7(b:List UInt8):∀s:Rs,s.phase=1->s.framing=2->s.chunks.phase≠4->
  ((Bi s.chunks b).2.2=0->A0 s b=({ s with chunks:=(Bi s.chunks b).1,phase:=if (Bi s.chunks b).1.phase=4 then 2 else 1 },(Bi s.chunks b).2.1,0))/\((Bi s.chunks b).2.2≠0->(A0 s b).2.2=(Bi s.chunks b).2.2):=by
 induction b with
 |nil =>
  intro s h1 h2 h3;refine⟨λ_=>?_,λh=>absurd rfl h⟩;obtain⟨m,p,i,l,hd,f,bo,le,ch⟩:=s;simp only at h1 h2 h3;subst h1 h2;simp[A0,Bi,h3]
 |cons c b ih =>
  intro s h1 h2 h3
  by_cases he:(chS s.chunks c).2≠0
  ·have hS:rsS s c=(s,(chS s.chunks c).2):=by
    unfold rsS;rw[if_neg (by omega),if_pos h2,if_pos he]
   have e1:Bi s.chunks (c :: b)=(s.chunks,0,(chS s.chunks c).2):=by unfold Bi;rw[if_neg h3,if_pos he]
   have e2:A0 s (c :: b)=(s,0,(chS s.chunks c).2):=by unfold A0;rw[if_neg (by omega),hS,if_pos he]
   rw[e1,e2];exact⟨λh=>absurd h he,λ_=>rfl⟩
  ·have hS:rsS s c=({ s with chunks:=(chS s.chunks c).1,phase:=if (chS s.chunks c).1.phase=4 then 2 else s.phase },0):=by
    unfold rsS;rw[if_neg (by omega),if_pos h2,if_neg he]
   have e1:Bi s.chunks (c :: b)=((Bi (chS s.chunks c).1 b).1,(Bi (chS s.chunks c).1 b).2.1+1,(Bi (chS s.chunks c).1 b).2.2):=by
    conv=>lhs;unfold Bi
    rw[if_neg h3,if_neg he]
   have e2:A0 s (c :: b)=((A0 { s with chunks:=(chS s.chunks c).1,phase:=if (chS s.chunks c).1.phase=4 then 2 else s.phase } b).1,(A0 { s with chunks:=(chS s.chunks c).1,phase:=if (chS s.chunks c).1.phase=4 then 2 else s.phase } b).2.1+1,(A0 { s with chunks:=(chS s.chunks c).1,phase:=if (chS s.chunks c).1.phase=4 then 2 else s.phase } b).2.2):=by
    conv=>lhs;unfold A0
    rw[if_neg (by omega),hS,if_neg (by simp)]
   rw[e1,e2]
   by_cases h4:(chS s.chunks c).1.phase=4
   ·have c0:Bi (chS s.chunks c).1 b=((chS s.chunks c).1,0,0):=by
     cases b with
     |nil=>rfl
     |cons x b=>unfold Bi;rw[if_pos h4]
    have r0:A0 { s with chunks:=(chS s.chunks c).1,phase:=if (chS s.chunks c).1.phase=4 then 2 else s.phase } b=({ s with chunks:=(chS s.chunks c).1,phase:=if (chS s.chunks c).1.phase=4 then 2 else s.phase },0,0):=by
     cases b with
     |nil=>rfl
     |cons x b=>unfold A0;rw[if_pos (by simp only;rw[if_pos h4])]
    rw[c0,r0];simp[h4]
   ·have:=ih { s with chunks:=(chS s.chunks c).1,phase:=if (chS s.chunks c).1.phase=4 then 2 else s.phase } (by simp only;rw[if_neg h4];exact h1) h2 h4
    simp only at this;refine⟨λh=>?_,λh=>?_⟩
    ·rw[this.1 h]
    ·rw[this.2 h]
def headB(w:List UInt8)(L:List HF):List UInt8:=w++13 :: 10 :: Cm L
structure LineW(w:List UInt8):Prop where
 ok:Pf w=true
 len:w.length<=300
 n10:(10:UInt8) ∉ w
def Alx:List UInt8:=[48,49,50,51,52,53,54,55,56,57,97,98,99,100,101,102]
def hexL(n:Nat):List UInt8:=if _h:n<16 then [Alx.getD n 0] else hexL (n / 16)++[Alx.getD (n % 16) 0]
 termination_by n
decreasing_by omega
structure HexOk(n:Nat)(l:List UInt8):Prop where
 dig:∀x∈l,0<=El x
 size:A8 l=(l.length,n)
 no13:(13:UInt8) ∉ l
 ne:l≠[]
def encC(b:List UInt8):List UInt8:=(if b=[] then [] else hexL b.length++13 :: 10 :: (b++[13,10]))++[48,13,10,13,10]
def Bd(l:List UInt8):Int:=if l=[] then 0 else if C2 l then 3 else if (A8 l).1=l.length then 1 else 2
theorem Mv:∀(l:List UInt8) (k n:Nat),k<=(Fk l k n).1/\(Fk l k n).1<=k+l.length
 | [],k,n=>by simp[Fk]
 |c :: r,k,n=>by
  unfold Fk
  split
  ·have:=Mv r (k+1) (16 * n+(El c).toNat)
   simp only[List.length_cons];omega
  ·simp
theorem S6(c:UInt8):∀(l:List UInt8) (k n:Nat),Fk (l++[c]) k n=if (Fk l k n).1=k+l.length/\0<=El c then ((Fk l k n).1+1,16 * (Fk l k n).2+(El c).toNat) else Fk l k n
 | [],k,n=>by
  simp only[List.nil_append,Fk,List.length_nil,Nat.add_zero,true_and]
 |d :: r,k,n=>by
  simp only[List.cons_append];unfold Fk
  by_cases hd:0<=El d
  ·rw[if_pos hd,if_pos hd,S6 c r]
   have e:(k+1+r.length)=k+(d :: r).length:=by simp only[List.length_cons];omega
   rw[e]
  ·rw[if_neg hd,if_neg hd,if_neg]
   rintro⟨h,_⟩;simp only[List.length_cons]at h;omega
theorem Jv(l:List UInt8)(c:UInt8):A8 (l++[c])=if (A8 l).1=l.length/\0<=El c then ((A8 l).1+1,16 * (A8 l).2+(El c).toNat) else A8 l:=by
 unfold A8;rw[S6,Nat.zero_add]
theorem Aj3(l:List UInt8):(A8 l).1<=l.length:=by have:=(Mv l 0 0).2;unfold A8;omega
theorem Agq(c:UInt8):El c<=15:=(Ag7 _).2
theorem Wm:∀(l:List UInt8) (k n:Nat),n<16 ^ k->(Fk l k n).2<16 ^ (Fk l k n).1
 | [],k,n,h=>h
 |c :: r,k,n,h=>by
  unfold Fk
  split
  ·refine Wm r _ _ ?_
   have h1:=Agq c;rw[Nat.pow_succ];omega
  ·exact h
theorem Aa7{l:List UInt8}(h:Fy l)(k:Nat):Fy (l.take k):=λi hi=>by
 rw[List.length_take]at hi;have h1:=h i (by omega);have e1:(l.take k).take i=l.take i:=by rw[List.take_take];congr 1;omega
 have e2:(l.take k).getD i 0=l.getD i 0:=by rw[List.getD_eq_getElem?_getD,List.getD_eq_getElem?_getD,List.getElem?_take,if_pos (by omega)]
 rw[e1,e2];exact h1
theorem Q4{l:List UInt8}(h:Fy l):(A8 l).1<=8:=by
 suffices H:∀k,k<=l.length->(A8 (l.take k)).1<=8 by
  have:=H l.length (Nat.le_refl _)
  rwa [List.take_length]at this
 intro k
 induction k with
 |zero=>intro _;simp[A8,Fk]
 |succ k ih =>
  intro hk;have hm:=h k (by omega);have e:l.take (k+1)=l.take k++[l.getD k 0]:=by
   rw[List.take_add_one,List.getElem?_eq_getElem (by omega),List.getD_eq_getElem?_getD,List.getElem?_eq_getElem (by omega)];rfl
  rw[e,Jv];have i1:=ih (by omega)
  split
  ·rename_i g
   unfold C5 at hm
   split at hm
   ·cases hm
   split at hm
   ·rename_i g13
    rw[g13]at g;exact absurd g.2 (by decide)
   split at hm
   ·split at hm
    ·cases hm
    ·rename_i g8
     simp only;have:(A8 (l.take k)).1≠8:=λe8=>g8 ⟨g.2,e8⟩;omega
   ·rename_i g8;exact absurd g.1 g8
  ·exact i1
theorem T8{l:List UInt8}(h:Fy l):(A8 l).2<4294967296:=by
 have h1:=Wm l 0 0 (by decide);have h2:=Q4 h;have h3:(16:Nat) ^ (A8 l).1<=16 ^ 8:=Nat.pow_le_pow_right (by decide) h2;have h4:(A8 l).2<16 ^ (A8 l).1:=h1;have h5:(16:Nat) ^ 8=4294967296:=by decide
 omega
theorem Id(l:List UInt8)(c:UInt8):C2 (l++[c])=(c==13):=by
 unfold C2;rw[List.length_append];simp only[List.length_cons,List.length_nil,Nat.add_sub_cancel];rw[List.getD_eq_getElem?_getD,List.getElem?_append_right (Nat.le_refl _)];simp
theorem Sf(l:List UInt8):Bd (l++[13])=3/\A8 (l++[13])=A8 l:=by
 refine⟨?_,?_⟩
 ·unfold Bd
  rw[if_neg (by simp),Id];simp
 ·rw[Jv,if_neg]
  rintro⟨_,h⟩;exact absurd h (by decide)
theorem Abp{l:List UInt8}{c:UInt8}(h:(A8 l).1=l.length)(hd:0<=El c):Bd (l++[c])=1/\(A8 (l++[c])).2=16 * (A8 l).2+(El c).toNat:=by
 have hc:c≠13:=by rintro rfl;exact absurd hd (by decide)
 have e:=Jv l c;rw[if_pos ⟨h,hd⟩]at e;refine⟨?_,by rw[e]⟩;unfold Bd;rw[if_neg (by simp),Id,if_neg (by simpa using hc),if_pos (by rw[e,List.length_append];simp only[List.length_cons,List.length_nil];omega)]
theorem Gc{l:List UInt8}{c:UInt8}(h:¬((A8 l).1=l.length/\0<=El c))(hc:c≠13):Bd (l++[c])=2/\A8 (l++[c])=A8 l:=by
 have e:=Jv l c;rw[if_neg h]at e;refine⟨?_,e⟩;unfold Bd;have:=Aj3 l;rw[if_neg (by simp),Id,if_neg (by simpa using hc),if_neg (by rw[e,List.length_append];simp only[List.length_cons,List.length_nil];omega)]
theorem Q9(l:List UInt8):Bd l=0\/Bd l=1\/Bd l=2\/Bd l=3:=by
 unfold Bd
 split
 ·simp
 split
 ·simp
 split<;>simp
theorem Sg{l:List UInt8}:Bd l=0↔l=[]:=by
 unfold Bd
 split
 ·simp_all
 split
 ·simp_all
 split<;>simp_all
theorem L4{l:List UInt8}:Bd l=3↔C2 l=true:=by
 unfold Bd
 split
 ·rename_i h;subst h;simp[C2]
 split
 ·simp_all
 split<;>simp_all
theorem Y1{l:List UInt8}(h:Bd l=1):l≠[]/\C2 l=false/\(A8 l).1=l.length:=by
 unfold Bd at h
 split at h
 ·cases h
 split at h
 ·cases h
 split at h
 ·exact⟨by assumption,by simp_all,by assumption⟩
 ·cases h
theorem Y0{l:List UInt8}(h:Bd l=2):l≠[]/\C2 l=false/\(A8 l).1≠l.length:=by
 unfold Bd at h
 split at h
 ·cases h
 split at h
 ·cases h
 split at h
 ·cases h
 ·exact⟨by assumption,by simp_all,by assumption⟩
theorem Ua{l:List UInt8}(h:Fy l):l.length<=201:=by
 refine Nat.le_of_not_lt λhl=>?_;have h1:=h 200 (by omega);have hlen:(l.take 200).length=200:=by rw[List.length_take];omega
 have hc:l.getD 200 0=13:=by
  refine Decidable.byContradiction λhc=>?_;unfold C5 at h1
  split at h1
  ·cases h1
  rw[hlen]at h1
  split at h1
  ·split at h1
   ·cases h1
   ·split at h1
    ·cases h1
    ·rw[if_pos (Nat.le_refl _)]at h1;cases h1
  ·split at h1
   ·cases h1
   ·rw[if_pos (Nat.le_refl _)]at h1;cases h1
 have h2:=h 201 (by omega);have e:l.take 201=l.take 200++[l.getD 200 0]:=by
  rw[List.take_add_one,List.getElem?_eq_getElem (by omega),List.getD_eq_getElem?_getD,List.getElem?_eq_getElem (by omega)];rfl
 rw[e,hc]at h2;unfold C5 at h2;rw[Id,if_pos (by decide)]at h2;cases h2
theorem T9{l:List UInt8}(h:Fy l)(hl:l≠[]):(A8 l).1≠0:=by
 match l,hl with
 |c :: r,_ =>
  have h0:=h 0 (by simp);have hd:0<=El c:=by
   simp only[List.take_zero,List.getD_cons_zero]at h0;unfold C5 at h0
   split at h0
   ·cases h0
   split at h0
   ·rw[if_pos (show (A8 ([]:List UInt8)).1=0 from rfl)]at h0;cases h0
   rw[if_pos (show (A8 ([]:List UInt8)).1=([]:List UInt8).length from rfl)]at h0
   split at h0
   ·cases h0
   split at h0
   ·cases h0
   ·rename_i g
    exact Int.not_lt.1 λe=>g ⟨e,.inr rfl⟩
  unfold A8 Fk;rw[if_pos hd];have:=(Mv r 1 (16 * 0+(El c).toNat)).1;simp only[Nat.zero_add];omega
theorem Ox{l:List UInt8}(h:Bd l=0\/Bd l=1):C2 l=false/\(A8 l).1=l.length:=by
 rcases h with h|h
 ·rw[Sg]at h;subst h;exact⟨rfl,rfl⟩
 ·exact⟨(Y1 h).2.1,(Y1 h).2.2⟩
theorem Aau{l:List UInt8}{c:UInt8}(h:Bd l=3):C5 l c=6:=by
 unfold C5;rw[if_pos (L4.1 h)]
theorem Sd{l:List UInt8}(hl:Fy l)(h:Bd l≠3):C5 l 13=if Bd l=0 then 6 else 0:=by
 have h3:C2 l=false:=by
  cases e:C2 l with
  |false=>rfl
  |true=>exact absurd (L4.2 e) h
 unfold C5;rw[h3];simp only[Bool.false_eq_true,if_false,if_true]
 by_cases h0:Bd l=0
 ·rw[if_pos h0];rw[Sg]at h0;subst h0;rfl
 ·rw[if_neg h0,if_neg (T9 hl λe=>h0 (Sg.2 e))]
theorem Jg{l:List UInt8}{c:UInt8}(h:Bd l=2)(hc:c≠13):C5 l c=if !okB c then 6 else if 200<=l.length then 3 else 0:=by
 obtain⟨_,h2,h3⟩:=Y0 h;unfold C5;rw[h2,if_neg (by simp),if_neg hc,if_neg h3]
theorem more_8{l:List UInt8}{c:UInt8}(h:Bd l=0\/Bd l=1)(hd:0<=El c)(h8:l.length=8):C5 l c=3:=by
 obtain⟨h2,h3⟩:=Ox h;have hc:c≠13:=by rintro rfl;exact absurd hd (by decide)
 unfold C5;rw[h2,if_neg (by simp),if_neg hc,if_pos h3,if_pos ⟨hd,by omega⟩]
theorem Aav{l:List UInt8}{c:UInt8}(h:Bd l=0\/Bd l=1)(hd:0<=El c)(h8:l.length≠8):C5 l c=if 200<=l.length then 3 else 0:=by
 obtain⟨h2,h3⟩:=Ox h;have hc:c≠13:=by rintro rfl;exact absurd hd (by decide)
 unfold C5;rw[h2,if_neg (by simp),if_neg hc,if_pos h3,if_neg (by rintro⟨_,e⟩;omega),if_neg (by rintro⟨e,_⟩;omega)]
theorem L3{l:List UInt8}(hl:Fy l)(h:Bd l=1):C5 l 59=if 200<=l.length then 3 else 0:=by
 obtain⟨h1,h2,h3⟩:=Y1 h;have hd:El 59<0:=by decide
 unfold C5;rw[h2,if_neg (by simp),if_neg (by decide),if_pos h3,if_neg (by rintro⟨e,_⟩;omega),if_neg];rintro⟨_,e|e⟩
 ·exact e rfl
 ·exact T9 hl h1 e
theorem Aaw{l:List UInt8}{c:UInt8}(h:Bd l=0\/Bd l=1)(hd:El c<0)(hc:c≠13)(hn:¬(c=59/\Bd l=1)):C5 l c=6:=by
 obtain⟨h2,h3⟩:=Ox h;unfold C5;rw[h2,if_neg (by simp),if_neg hc,if_pos h3,if_neg (by rintro⟨e,_⟩;omega),if_pos];refine⟨hd,?_⟩
 by_cases e:c=59
 ·refine .inr ?_
  rcases h with h|h
  ·rw[Sg]at h;subst h;rfl
  ·exact absurd ⟨e,h⟩ hn
 ·exact .inl e
theorem Ace{s:Ch}{c:UInt8}(hp:s.phase=0)(h:¬(c=10/\C2 s.line=true)):chS s c=if C5 s.line c≠0 then (s,C5 s.line c) else (⟨0,s.line++[c],s.data,s.left,s.trailers⟩,0):=by
 unfold chS;rw[if_pos hp,if_neg h]
theorem Acd{s:Ch}(hp:s.phase=0)(h:C2 s.line=true):chS s 10=if (A8 s.line).2=0 then (⟨3,[],s.data,s.left,s.trailers⟩,0) else if 65536<s.data.length+(A8 s.line).2 then (s,3) else (⟨1,[],s.data,(A8 s.line).2,s.trailers⟩,0):=by
 unfold chS;rw[if_pos hp,if_pos ⟨rfl,h⟩]
structure EqNN(a b:Nat):Prop where
 h:a=b
structure LeN(a b:Nat):Prop where
 h:a<=b
def LeO(s s':SV):Prop:=∀(I:Nat->Nat->Prop) (w:Go.World) (v:Go.Value),RO I w s v->RO I w s' v
theorem LeO.refl(s:SV):LeO s s:=λ_ _ _ h=>h
theorem LeO.sl{nl nl':BT}{n n':ST}{sz:Nat}{f f':Nat->List SV}(h1:nl.den=nl'.den)(h2:n.den=n'.den)(h:∀i:Nat,(i:Int)<n.den->f i=f' i):LeO (.sl nl n sz f) (.sl nl' n' sz f'):=by
 intro I w v hr;rcases hr.sl_inv with⟨rfl,e0,e1⟩|⟨a,m,cap,g,rfl,e1,e2,e3,e3',e4,e5,e5',e6,e7⟩
 ·exact .slnil (by rw[<-h1];exact e1) (by rw[<-h2];exact e0)
 ·have hf:∀i,i<m->f' i=f i:=λi hi=>(h i (by omega)).symm
  exact .sl g (by rw[<-h1];exact e1) (by rw[<-h2];exact e2) e3 e3' e4 (λi hi=>by rw[hf i hi];exact e5 i hi) e5' e6 (λi j s hi hs=>by rw[hf i hi]at hs;exact e7 i j s hi hs)
def rqCs(r:Rq)(nl:Bool)(n:Int)(f:Nat->List SV):List SV:=[.int .i64 (.a r.id),.str r.method,.str r.target,.str r.host,.sl (.a nl) (.a n) 2 f,.str r.body]
def IsRq(cs:List SV)(r:Rq):Prop:=∃nl n f,cs=rqCs r nl n f/\GrH f n nl r.fields
structure Vd(f:Nat->List SV)(n:Int)(l:List Rq):Prop where
 n:n=l.length
 f:∀i,i<l.length->IsRq (f i) (l.getD i rqZ)
 len:l.length<=9223372036854775807
structure GrQ(f:Nat->List SV)(n:Int)(nl:Bool)(l:List Rq):Prop where
 row:Vd f n l
 nl:nl=l.isEmpty
theorem Vd.nil:Vd (λ_=>[]) 0 []:=⟨rfl,λi hi=>absurd hi (by simp),by simp⟩
theorem GrQ.nil:GrQ (λ_=>[]) 0 true []:=⟨Vd.nil,rfl⟩
theorem Vd.app{f g f':Nat->List SV}{n m n':Int}{a b:List Rq}(R:Vd f n a)(S:Vd g m b)(h:G8 f' n' n m f g)(hl:a.length+b.length<=9223372036854775807):Vd f' n' (a++b):=by
 have hn:=R.n;have hm:=S.n;refine⟨by rw[h.len,hn,hm,List.length_append];omega,λi hi=>?_,by rw[List.length_append];exact hl⟩;rw[List.length_append]at hi
 by_cases h1:i<a.length
 ·rw[h.lo i (by omega),List.getD_eq_getElem?_getD,List.getElem?_append_left h1,<-List.getD_eq_getElem?_getD]
  exact R.f i h1
 ·rw[h.hi i (i-a.length) (by omega) (by omega),List.getD_eq_getElem?_getD,List.getElem?_append_right (by omega),<-List.getD_eq_getElem?_getD]
  exact S.f _ (by omega)
theorem Vd.one{f:Nat->List SV}{x:Rq}(h:IsRq (f 0) x):Vd f 1 [x]:=by
 refine⟨rfl,λi hi=>?_,by simp⟩;have hi:i<1:=hi;obtain rfl:i=0:=by omega
 exact h
theorem GrQ.more{f f' g:Nat->List SV}{n n':Int}{nl nl':Bool}{l:List Rq}{x:Rq}(G:GrQ f n nl l)(hg:IsRq (g 0) x)(h:G8 f' n' n 1 f g)(hl:l.length<=1000000)(hb:nl'=false):GrQ f' n' nl' (l++[x]) :=
 ⟨G.row.app (Vd.one hg) h (by simp only[List.length_cons,List.length_nil];omega),by rw[hb];simp⟩
set_option maxHeartbeats 8000000
structure En(s:Ch)(ph lf:Int)(tl:Int)(tf:Nat->List SV)(dl:Int)(df:Nat->List SV)(nl:Int)(nf:Nat->List SV)(fo sz:Int):Prop where
 eph:ph=s.phase
 elf:lf=s.left
 tr:Bu tf tl s.trailers
 da:A7 df dl s.data
 li:A7 nf nl s.line
 efo:fo=if s.phase=0 then Bd s.line else 0
 esz:sz=if s.phase=0 then ((A8 s.line).2:Int) else 0
def rdC(ph:Int)(l0 d0:List UInt8)(lf:Int)(tn:Bool)(tl:Int)(tf:Nat->List SV)(db:Bool)(dl:Int)(nn:Bool)(nl g fo sz:Int):List SV :=
 [.int .i64 (.a ph),.str l0,.str d0,.int .i64 (.a lf),.sl (.a tn) (.a tl) 2 tf,.osl (.a db) (.a dl) 1,.vsl (.a nn) (.a nl) (.a g) 2,.int .i64 (.a fo),.int .i64 (.a sz)]
structure Ajj(s s':Ch)(tn nn:Bool)(g:Int)(tn' nn':Bool)(g':Int)(db':Bool):Prop where
 ed:db'=false
 et:tn'=if s'.phase=4 then s'.trailers.isEmpty else tn
 en:nn'=if s.phase=1 then nn else s'.line.isEmpty
 eg:g'=if s.phase=1 then g else if s'.phase=4 then g+3 else g+1
def Vc(s:Ch)(c:UInt8)(l0 d0:List UInt8)(tn0 nn0:Bool)(g0:Int)(gr:Bool)(K:SV->List Hl->Prop):Prop :=
 ∀e,e=(chS s c).2->(e≠0->K (.int .i64 (.a e)) [.gone,.gone,.gone])/\
  (e=0->∀ph lf tn tl tf db dl df nn nl g nf fo sz,En (chS s c).1 ph lf tl tf dl df nl nf fo sz->Ajj s (chS s c).1 tn0 nn0 g0 tn nn g db->K (.int .i64 (.a e)) [.blk 220 (rdC ph l0 d0 lf tn tl tf db dl nn nl g fo sz),.own 5 (.a dl) 1 gr df,.vec 5 (.a nl) (.a g) 1 nf])
def Kw(p:Int):FSpec:=λ_ xs ls K=>∃(s:Ch) (c:UInt8) (ci:Int) (ph lf:Int) (l0 d0:List UInt8) (tn:Bool) (tl:Int) (tf:Nat->List SV) (db:Bool) (dl:Int) (gr:Bool) (df:Nat->List SV) (nn:Bool) (nl g:Int) (nf:Nat->List SV) (fo sz:Int),
 xs=[.ptr 0 0,.int .u8 (.a ci)]/\ls=[.blk 220 (rdC ph l0 d0 lf tn tl tf db dl nn nl g fo sz),.own 5 (.a dl) 1 gr df,.vec 5 (.a nl) (.a g) 1 nf]/\
 ci=(c.toNat:Int)/\En s ph lf tl tf dl df nl nf fo sz/\s.phase=p/\db=false/\Ix s/\Vc s c l0 d0 tn nn g gr K
theorem Cn(s:List UInt8):LeV (.str s) (.str s):=LeV.refl _
theorem M8{t t' ph ph' lf lf' tl tl' dl dl' nl nl' g g' g2 g2' n n' fo fo' sz sz':ST}{l0 d0:List UInt8}{tn tn' db db' nn nn':BT}{tf tf' df df' nf nf':Nat->List SV}{gr:Bool}(he:t.den=t'.den)(h1:ph.den=ph'.den)(h2:lf.den=lf'.den)
  (h3:LeV (.sl tn tl 2 tf) (.sl tn' tl' 2 tf')) (h4:db.den=db'.den/\dl.den=dl'.den) (h5:nn.den=nn'.den/\nl.den=nl'.den/\g.den=g'.den) (h6:fo.den=fo'.den) (h7:sz.den=sz'.den)
  (h8:n.den=n'.den/\∀i:Nat,(i:Int)<n.den->df i=df' i) {m m':ST} (h9:m.den=m'.den/\g2.den=g2'.den/\∀i:Nat,(i:Int)<m.den->nf i=nf' i):
  Fin (.int .i64 t) (.int .i64 t') [.blk 220 [.int .i64 ph,.str l0,.str d0,.int .i64 lf,.sl tn tl 2 tf,.osl db dl 1,.vsl nn nl g 2,.int .i64 fo,.int .i64 sz],.own 5 n 1 gr df,.vec 5 m g2 1 nf]
   [.blk 220 [.int .i64 ph',.str l0,.str d0,.int .i64 lf',.sl tn' tl' 2 tf',.osl db' dl' 1,.vsl nn' nl' g' 2,.int .i64 fo',.int .i64 sz'],.own 5 n' 1 gr df',.vec 5 m' g2' 1 nf'] :=
 ⟨Ak he,Cz (LeH.cons (Ao (.cons (Ak h1) (.cons (Cn _) (.cons (Cn _) (.cons (Ak h2) (.cons h3 (.cons (Af8 h4.1 h4.2) (.cons (Af7 h5.1 h5.2.1 h5.2.2) (.cons (Ak h6) (.cons (Ak h7) .nil))))))))))
  (LeH.cons (Yo h8.1 h8.2) (LeH.cons (Ia h9.1 h9.2.1 h9.2.2) λ_ _ _ _ h=>h))),Nat.le_refl _⟩
theorem Dt{t t':ST}{a b c:Hl}(he:t.den=t'.den):Fin (.int .i64 t) (.int .i64 t') [a,b,c] [.gone,.gone,.gone]:=by
 refine⟨Ak he,λh E w hk=>?_,Nat.le_refl _⟩
 match h with
 |0=>trivial
 |1=>trivial
 |2=>trivial
 |h+3=>exact hk
theorem row1{f:Nat->List SV}{c:UInt8}(h:f 0=[.int .u8 (.a (c.toNat:Int))]):∀i,i<[c].length->f i=[.int .u8 (.a (([c].getD i 0).toNat:Int))]:=by
 intro i hi;have:i=0:=by simpa using hi
 subst this;simpa using h
theorem eqB(c d:UInt8):((c.toNat:Int)==(d.toNat:Int))=(c==d):=by
 rw[Bool.eq_iff_iff,beq_iff_eq,beq_iff_eq];constructor
 ·intro h;exact UInt8.toNat_inj.1 (by omega)
 ·intro h;rw[h]
theorem Aih:Ay Tryz.prog gl 187 (Kw 1):=by
 refine Ez (gh:=[]) mixed C6 Ai Tryz.func187 (by kernel_rfl) (by kernel_rfl) ?_;intro xs ls K h;unfold Kw at h;obtain⟨s,c,ci,ph,lf,l0,d0,tn,tl,tf,db,dl,gr,df,nn,nl,g,nf,fo,sz,rfl,rfl,rfl,V,hp,hdb,hO,h⟩:=h;have hc:chS s c=(⟨if s.left-1=0 then 2 else 1,s.line,s.data++[c],s.left-1,s.trailers⟩,0):=by unfold chS;rw[if_neg (by omega),if_pos hp]
 obtain⟨q1,q2,q3⟩:=hO.p1 hp;have hd:=hO.data;have hle:=V.elf;have hw:IntKind.i64.wrap (lf-1)=lf-1:=A4 (by omega) (by omega);unfold Vc at h;rw[hc]at h;have h:=(h 0 rfl).2 rfl;simp only at h;have hdl:dl=s.data.length:=V.da.n;have R':A7 (byteRow (s.data++[c])) ((s.data++[c]).length:Nat) (s.data++[c]):=⟨rfl,λi _=>rfl⟩;have hfo:fo=0:=by have:=V.efo;rwa [if_neg (by omega)]at this
 have hsz:sz=0:=by have:=V.esz;rwa [if_neg (by omega)]at this
 have VD:VI dl s.data.length:=⟨hdl⟩;have HL:LeN s.data.length 65536:=⟨hd⟩;clear hdl hd;have go:∀ph':Int,ph'=(if s.left-1=0 then 2 else 1)->K (.int .i64 (.a 0)) [.blk 220 (rdC ph' l0 d0 (IntKind.i64.wrap (lf-1)) tn tl tf false ((s.data++[c]).length:Nat) nn nl g fo sz),.own 5 (.a ((s.data++[c]).length:Nat)) 1 gr (byteRow (s.data++[c])),.vec 5 (.a nl) (.a g) 1 nf]:=λph' hph =>
  h ph' _ tn tl tf false _ _ nn nl g nf fo sz ⟨hph,by rw[hw,hle],V.tr,R',V.li,by rw[hfo,if_neg];show ¬(if _ then _ else _)=_;split<;>decide,by rw[hsz,if_neg];show ¬(if _ then _ else _)=_;split<;>decide⟩ ⟨rfl,by rw[if_neg];show ¬(if _ then _ else _)=_;split<;>decide,by rw[if_pos hp],by rw[if_pos hp]⟩
 have hzd:(IntKind.i64.wrap (lf-1)==0)=decide (s.left-1=0):=by rw[hw,hle,Bool.eq_iff_iff,beq_iff_eq,decide_eq_true_eq]
 obtain⟨N,VN⟩:∃N:Int,VI N (s.data++[c]).length:=⟨_,⟨rfl⟩⟩;rw[<-VN.h]at go R';have hNd:N=dl+1:=by rw[VN.h,VD.h,List.length_append];simp
 obtain⟨W,hW⟩:∃W,W=IntKind.i64.wrap (lf-1):=⟨_,rfl⟩;rw[<-hW]at go;have EW:EqI W (IntKind.i64.wrap (lf-1)):=⟨hW⟩;clear hW;have HN:EqI N (dl+1):=⟨hNd⟩;obtain⟨T,hT⟩:∃T,T=s.data++[c]:=⟨_,rfl⟩;rw[<-hT]at go R';clear h hc hNd hle q3 q2;refine⟨_,_,go (if s.left-1=0 then 2 else 1) rfl,λD hD=>?_⟩;obtain⟨p',hp'⟩:∃p':Int,p'=(if s.left-1=0 then 2 else 1):=⟨_,rfl⟩;rw[<-hp'];cbv;intro f3 hf3;cbv;refine⟨by subst hD;exact⟨rfl,by show (dl+1) * 1<=_;rw[VD.h];have:=HL.h;omega,by show dl+1<=_;rw[VD.h];have:=HL.h;omega⟩,λf4 n4 hm=>?_⟩;cbv;have h40:f3 0=[.int .u8 (.a (c.toNat:Int))]:=by rw[hf3.h 0 _ rfl];subst hD;rfl
 have R4:A7 f4 n4 (s.data++[c]):=V.da.more (g:=f3) (u:=[c]) rfl (row1 h40) (by subst hD;exact hm);clear hm hf3;rw[<-hT]at R4;have hrow:n4=N/\∀i:Nat,(i:Int)<n4->f4 i=byteRow T i:=by
  have e1:=R4.n;have e2:=R'.n;refine⟨by omega,λi hi=>?_⟩;rw[R4.f i (by omega)];rfl
 refine br hD (λhb=>?_) (λhb=>?_)<;>cbv
 ·have hb:(IntKind.i64.wrap (lf-1)==0)=true:=by subst hD;exact hb
  rw[hzd,decide_eq_true_eq]at hb;rw[if_pos hb]at hp';subst hD hp';exact M8 rfl rfl (by exact EW.h.symm) (LeV.refl _) ⟨by rw[hdb];rfl,by exact hrow.1⟩ ⟨rfl,rfl,rfl⟩ rfl rfl (by exact hrow) ⟨rfl,rfl,λ_ _=>rfl⟩
 ·have hb:(IntKind.i64.wrap (lf-1)==0)=false:=by subst hD;exact hb
  rw[hzd,decide_eq_false_iff_not]at hb;rw[if_neg hb]at hp';have hph:=V.eph;rw[hp]at hph;subst hD hp' hph;exact M8 rfl rfl (by exact EW.h.symm) (LeV.refl _) ⟨by rw[hdb];rfl,by exact hrow.1⟩ ⟨rfl,rfl,rfl⟩ rfl rfl (by exact hrow) ⟨rfl,rfl,λ_ _=>rfl⟩
theorem Alr:Ay Tryz.prog gl 188 (Kw 2):=by
 refine Ez (gh:=[(999985,[]),(3,[.vmov 0 6 2]),(5,[.vnil 0 6 2])]) mixed C6 Ai Tryz.func188 (by kernel_rfl) (by kernel_rfl) ?_;intro xs ls K h;unfold Kw at h;obtain⟨s,c,ci,ph,lf,l0,d0,tn,tl,tf,db,dl,gr,df,nn,nl,g,nf,fo,sz,rfl,rfl,rfl,V,hp,hdb,hO,h⟩:=h;have hnl:nl=s.line.length:=V.li.n;unfold Vc at h;have hc:chS s c=if s.line=[]/\c=13 then (⟨2,[13],s.data,s.left,s.trailers⟩,0) else if s.line=[13]/\c=10 then (⟨0,[],s.data,s.left,s.trailers⟩,0) else (s,6):=by
  unfold chS;rw[if_neg (by omega),if_neg (by omega),if_pos hp]
 have hfo:fo=0:=by have:=V.efo;rwa [if_neg (by omega)]at this
 have hsz:sz=0:=by have:=V.esz;rwa [if_neg (by omega)]at this
 have hc13:((c.toNat:Int)==13)=(c==13):=eqB c 13;have hc10:((c.toNat:Int)==10)=(c==10):=eqB c 10;have hl0:(nl==0)=decide (s.line=[]):=by rw[hnl,Bool.eq_iff_iff,beq_iff_eq,decide_eq_true_eq,<-List.length_eq_zero_iff];omega
 have hl1:(nl==1)=decide (s.line=[13]):=by
  rcases (hO.p2 hp).1 with e|e
  ·rw[hnl,e];decide
  ·rw[hnl,e];decide
 clear hnl
 by_cases h1:s.line=[]/\c=13
 ·rw[hc,if_pos h1]at h
  have h:=(h 0 rfl).2 rfl;simp only at h;obtain⟨G,hG⟩:∃G,G=g+1:=⟨_,rfl⟩;have h:=h ph lf tn tl tf db dl df false 1 G (byteRow [13]) fo sz ⟨by rw[V.eph,hp],V.elf,V.tr,V.da,⟨rfl,λi _=>rfl⟩,hfo,hsz⟩ ⟨hdb,by rw[if_neg];show ¬(2:Int)=4;decide,by rw[if_neg (by omega)];rfl,by rw[if_neg (by omega),hG,if_neg];show ¬(2:Int)=4;decide⟩;have EG:EqI G (g+1):=⟨hG⟩;clear hG hc;refine⟨_,_,h,λD hD=>?_⟩;cbv;refine br hD (λhb=>?_) (λhb=>?_)<;>cbv
  ·intro f3 hf3
   cbv;have h30:f3 0=[.int .u8 (.a (c.toNat:Int))]:=by rw[hf3.h 0 _ rfl];subst hD;rfl
   refine⟨by subst hD;exact⟨rfl⟩,λg' hg'=>?_⟩;cbv;have hgn:g'=g+1:=by subst hD;exact hg'.h
   clear hg';subst hD;refine M8 rfl rfl rfl (LeV.refl _) ⟨rfl,rfl⟩ ⟨rfl,rfl,by rw[EG.h];exact hgn⟩ rfl rfl ⟨rfl,λ_ _=>rfl⟩ ⟨rfl,by rw[EG.h];exact hgn,λi hi=>?_⟩;have hi:(i:Int)<1:=hi;obtain rfl:i=0:=by omega
   rw[h30,h1.2];rfl
  ·have hb:((nl==0)&&((c.toNat:Int)==13))=false:=by subst hD;exact hb
   rw[hl0,hc13,h1.1,h1.2]at hb;cases hb
 by_cases h2:s.line=[13]/\c=10
 ·rw[hc,if_neg h1,if_pos h2]at h
  have h:=(h 0 rfl).2 rfl;simp only at h;obtain⟨G,hG⟩:∃G,G=g+1:=⟨_,rfl⟩;have h:=h 0 lf tn tl tf db dl df true 0 G (λ_=>[]) fo sz ⟨rfl,V.elf,V.tr,V.da,⟨rfl,λi hi=>by cases hi⟩,hfo,hsz⟩ ⟨hdb,by rw[if_neg];show ¬(0:Int)=4;decide,by rw[if_neg (by omega)];rfl,by rw[if_neg (by omega),hG,if_neg];show ¬(0:Int)=4;decide⟩;have EG:EqI G (g+1):=⟨hG⟩;clear hG hc;refine⟨_,_,h,λD hD=>?_⟩;cbv;refine br hD (λhb=>?_) (λhb=>?_)<;>cbv
  ·have hb:((nl==0)&&((c.toNat:Int)==13))=true:=by subst hD;exact hb
   rw[hl0,hc13,h2.1]at hb;cases hb
  ·refine br hD (λhb=>?_) (λhb=>?_)<;>cbv
   ·intro g' hg'
    cbv;have hgn:g'=g+1:=by subst hD;exact hg'.h
    clear hg';subst hD;exact M8 rfl rfl rfl (LeV.refl _) ⟨rfl,rfl⟩ ⟨rfl,rfl,by rw[EG.h];exact hgn⟩ rfl rfl ⟨rfl,λ_ _=>rfl⟩ ⟨rfl,by rw[EG.h];exact hgn,λi hi=>rfl⟩
   ·have hb:((nl==1)&&((c.toNat:Int)==10))=false:=by subst hD;exact hb
    rw[hl1,hc10,h2.1,h2.2]at hb;cases hb
 ·rw[hc,if_neg h1,if_neg h2]at h
  have h:=(h 6 rfl).1 (by decide);clear hc;refine⟨_,_,h,λD hD=>?_⟩;cbv;refine br hD (λhb=>?_) (λhb=>?_)<;>cbv
  ·exfalso
   have hb:((nl==0)&&((c.toNat:Int)==13))=true:=by subst hD;exact hb
   rw[hl0,hc13,Bool.and_eq_true,decide_eq_true_eq,beq_iff_eq]at hb;exact h1 hb
  ·refine br hD (λhb=>?_) (λhb=>?_)<;>cbv
   ·exfalso
    have hb:((nl==1)&&((c.toNat:Int)==10))=true:=by subst hD;exact hb
    rw[hl1,hc10,Bool.and_eq_true,decide_eq_true_eq,beq_iff_eq]at hb;exact h2 hb
   ·subst hD;exact Dt rfl
def spSized:FSpec:=λ_ xs ls K=>∃(s:Ch) (ph lf:Int) (l0 d0:List UInt8) (tn:Bool) (tl:Int) (tf:Nat->List SV) (db:Bool) (dl:Int) (gr:Bool) (df:Nat->List SV) (nn:Bool) (nl g:Int) (nf:Nat->List SV) (fo sz:Int),
 xs=[.ptr 0 0]/\ls=[.blk 220 (rdC ph l0 d0 lf tn tl tf db dl nn nl g fo sz),.own 5 (.a dl) 1 gr df,.vec 5 (.a nl) (.a g) 1 nf]/\
 En s ph lf tl tf dl df nl nf fo sz/\s.phase=0/\db=false/\C2 s.line=true/\Ix s/\Vc s 10 l0 d0 tn nn g gr K
theorem Aj1:Ay Tryz.prog gl 240 spSized:=by
 refine Ez (gh:=[(2,[.vnil 0 6 2])]) mixed C6 Ai Tryz.func240 (by kernel_rfl) (by kernel_rfl) ?_;intro xs ls K h;unfold spSized at h;obtain⟨s,ph,lf,l0,d0,tn,tl,tf,db,dl,gr,df,nn,nl,g,nf,fo,sz,rfl,rfl,V,hp,hdb,hend,hO,h⟩:=h;unfold Vc at h;rw[Acd hp hend]at h;have hsz:sz=((A8 s.line).2:Int):=by have:=V.esz;rwa [if_pos hp]at this
 have hv:=T8 (hO.p0 hp);obtain⟨n,hn⟩:∃n,n=(A8 s.line).2:=⟨_,rfl⟩;rw[<-hn]at h hsz hv;have hdl:dl=s.data.length:=V.da.n;have VS:VI sz n:=⟨hsz⟩;have VD:VI dl s.data.length:=⟨hdl⟩;have HL:LeN s.data.length 65536:=⟨hO.data⟩;have HV:LeN n 4294967296:=⟨by omega⟩;obtain⟨G,hG⟩:∃G,G=g+1:=⟨_,rfl⟩;have EG:EqI G (g+1):=⟨hG⟩;clear hG hsz hv hdl hn
 by_cases h0:n=0
 ·rw[if_pos h0]at h
  have h:=(h 0 rfl).2 rfl 3 lf tn tl tf db dl df true 0 G (λ_=>[]) 0 0 ⟨rfl,V.elf,V.tr,V.da,⟨rfl,λi hi=>by cases hi⟩,by rw[if_neg];show ¬(3:Int)=0;decide,by rw[if_neg];show ¬(3:Int)=0;decide⟩ ⟨hdb,by rw[if_neg];show ¬(3:Int)=4;decide,by rw[if_neg (by omega)];rfl,by rw[if_neg (by omega),EG.h,if_neg];show ¬(3:Int)=4;decide⟩;refine⟨_,_,h,λD hD=>?_⟩;cbv;intro g' hg';cbv;have hgn:g'=g+1:=by subst hD;exact hg'.h
  clear hg';refine br hD (λhb=>?_) (λhb=>?_)<;>cbv
  ·subst hD
   exact M8 rfl rfl rfl (LeV.refl _) ⟨rfl,rfl⟩ ⟨rfl,rfl,by rw[EG.h];exact hgn⟩ rfl rfl ⟨rfl,λ_ _=>rfl⟩ ⟨rfl,by rw[EG.h];exact hgn,λi hi=>rfl⟩
  ·exfalso
   have hb:(sz==0)=false:=by subst hD;exact hb
   rw[VS.h,h0]at hb;cases hb
 rw[if_neg h0]at h;have hw:IntKind.i64.wrap (dl+sz)=dl+sz:=by have:=VS.h;have:=VD.h;have:=HL.h;have:=HV.h;exact A4 (by omega) (by omega)
 by_cases h1:65536<s.data.length+n
 ·rw[if_pos h1]at h
  have h:=(h 3 rfl).1 (by decide);refine⟨_,_,h,λD hD=>?_⟩;have hbig:decide (65536<IntKind.i64.wrap (dl+sz))=true:=by rw[hw,VS.h,VD.h,decide_eq_true_eq];omega
  clear hw;cbv;intro g' hg';cbv;refine br hD (λhb=>?_) (λhb=>?_)<;>cbv
  ·exfalso
   have hb:(sz==0)=true:=by subst hD;exact hb
   rw[VS.h,beq_iff_eq]at hb;omega
  ·refine br hD (λhb=>?_) (λhb=>?_)<;>cbv
   ·subst hD;exact Dt rfl
   ·exfalso
    have hb:decide (65536<IntKind.i64.wrap (dl+sz))=false:=by subst hD;exact hb
    rw[hbig]at hb;cases hb
 ·rw[if_neg h1]at h
  have h:=(h 0 rfl).2 rfl 1 sz tn tl tf db dl df true 0 G (λ_=>[]) 0 0 ⟨rfl,VS.h,V.tr,V.da,⟨rfl,λi hi=>by cases hi⟩,by rw[if_neg];show ¬(1:Int)=0;decide,by rw[if_neg];show ¬(1:Int)=0;decide⟩ ⟨hdb,by rw[if_neg];show ¬(1:Int)=4;decide,by rw[if_neg (by omega)];rfl,by rw[if_neg (by omega),EG.h,if_neg];show ¬(1:Int)=4;decide⟩;refine⟨_,_,h,λD hD=>?_⟩;have hbig:decide (65536<IntKind.i64.wrap (dl+sz))=false:=by rw[hw,VS.h,VD.h,decide_eq_false_iff_not];omega
  clear hw;cbv;intro g' hg';cbv;have hgn:g'=g+1:=by subst hD;exact hg'.h
  clear hg';refine br hD (λhb=>?_) (λhb=>?_)<;>cbv
  ·exfalso
   have hb:(sz==0)=true:=by subst hD;exact hb
   rw[VS.h,beq_iff_eq]at hb;omega
  ·refine br hD (λhb=>?_) (λhb=>?_)<;>cbv
   ·exfalso
    have hb:decide (65536<IntKind.i64.wrap (dl+sz))=true:=by subst hD;exact hb
    rw[hbig]at hb;cases hb
   ·subst hD
    exact M8 rfl rfl rfl (LeV.refl _) ⟨rfl,rfl⟩ ⟨rfl,rfl,by rw[EG.h];exact hgn⟩ rfl rfl ⟨rfl,λ_ _=>rfl⟩ ⟨rfl,by rw[EG.h];exact hgn,λi hi=>rfl⟩
end Go.Proofs.YtdoogdbjiijifaaGreatDoor
