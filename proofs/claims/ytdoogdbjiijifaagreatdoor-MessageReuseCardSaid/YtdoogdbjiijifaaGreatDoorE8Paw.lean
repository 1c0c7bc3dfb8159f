/- A part of the proof: contracts of functions, or the executor and its soundness. No conditions. -/
import Derived.Test.YtdoogdbjiijifaaGreatDoorE8Pav
import Derived.Test.YtdoogdbjiijifaaGreatDoorE8Pap
import Derived.Test.YtdoogdbjiijifaaGreatDoorE8Pau
import Derived.Test.YtdoogdbjiijifaaGreatDoorE8Pas
namespace Go.Proofs.YtdoogdbjiijifaaGreatDoor
open Go Go.Sx
set_option maxRecDepth 100000
set_option maxHeartbeats 400000
theorem Wo(s:List UInt8)(c d:UInt8)(h:d≠c):Lib.indexByte (s++[d]) c=Lib.indexByte s c:=by
 induction s with
 |nil =>
  show Lib.indexByte [d] c=-1;unfold Lib.indexByte;rw[QA (by simpa using h)];rfl
 |cons x r ih =>
  rw[UM];unfold Lib.indexByte;rw[ih]
theorem Xt{b:List UInt8}{c:UInt8}(hc:c≠10)(hl:b.length+1<=8192):∀(m m' p:Nat) (r:List HF),p<=b.length->b.length-p<m->b.length+1-p<m'->(kK b m p r).2.2=10->(kK (b++[c]) m' p r).2.2=10
 |0,_,_,_,_,h,_,_=>by omega
 |_+1,0,_,_,_,_,h,_=>by omega
 |m+1,m'+1,p,r,hp,h,h',he=>by
  have hd:(b++[c]).drop p=b.drop p++[c]:=List.drop_append_of_le_length hp;have hi:=Mi (s:=b.drop p) (c:=10);rw[QY]at hi;have hx:=Wo (b.drop p) 10 c hc;unfold kK at he ⊢;rw[hd,hx]
  split at he
  .cases he
  rename_i g1;rw[QA (by
   intro e;rw[XR,QE]at e;rw[XR,QE]at g1;rcases e with e|e
   .have:=QT e.2
    rw[QF]at this;simp only[QG,QU]at this;omega
   .exact g1 (.inr e))]
  split at he
  .rename_i g2;rw[QB g2]
  rename_i g2;rw[QA g2];have hj:=hi.2 (by omega);have sR:(b.drop p++[c]).take (Lib.indexByte (b.drop p) 10).toNat=(b.drop p).take (Lib.indexByte (b.drop p) 10).toNat:=List.take_append_of_le_length (by rw[QY];omega);rw[sR]
  split at he
  .cases he
  rename_i g3;rw[QA g3]
  split at he
  .cases he
  rename_i g4;rw[QA g4]
  split at he
  .cases he
  rename_i g5;rw[QA g5]
  split at he
  .cases he
  rename_i g6;rw[QA g6];exact Xt hc hl m m' _ _ (by omega) (by omega) (by omega) he
variable {c:UInt8}{l l0 d0:List UInt8}{s:Ch}{t t' eV lf gX m m':ST}{tn pR db dd nn kT:BT}{tf gR df nj nf jI f:Nat->List SV}{gr:Bool}
theorem Rg{b:List UInt8}(hc:c≠10)(hl:b.length+1<=8192)(h:(A7 b).2.2=10):(A7 (b++[c])).2.2=10:=by
 unfold A7 at h ⊢;rw[QF];exact Xt hc hl _ _ 0 [] (by omega) (by omega) (by simp) h
theorem Ai7(hc:c≠10)(hl:l.length+1<=301)(h:(Ar l).2.2=10):(Ar (l++[c])).2.2=10:=by
 have t1:l.take 302=l:=XI (by omega);have t2:(l++[c]).take 302=l++[c]:=XI (by simp;omega);obtain⟨c1,c2,c3⟩:=X7 10 l;unfold Ar at h ⊢;rw[t1]at h;rw[t2];cases hb:(Bf 10 l).2.2 with
 |false =>
  rw[hb]at c2;simp only[XD,if_false,YT]at c2;have hn:(10:UInt8) ∉ l:=by rw[c2];exact c1
  have kW:(10:UInt8) ∉ l++[c]:=by
   rw[ZZ,not_or];exact⟨hn,by simpa using λe=>hc e.symm⟩
  rw[X8 kW];simp only[Bool.not_false,if_true];rw[QA (by simp;omega)]
 |true =>
  rw[hb]at c2;simp only[if_true]at c2;have e2:l++[c]=(Bf 10 l).1++10 :: ((Bf 10 l).2.1++[c]):=by
   conv=>lhs;rw[c2]
   simp
  have e3:Bf 10 (l++[c])=((Bf 10 l).1,(Bf 10 l).2.1++[c],true):=by rw[e2,Ac4 c1]
  rw[e3];rw[hb]at h;simp only[YH,XD,if_false]at h ⊢
  split at h
  .cases h
  rename_i g1;rw[QA g1];have hd:l.drop ((Bf 10 l).1.length+1)=(Bf 10 l).2.1:=by
   have h9:=congrArg (List.drop ((Bf 10 l).1.length+1)) c2;rw[h9,<-ZA,List.drop_left];rfl
  have qR:(l++[c]).drop ((Bf 10 l).1.length+1)=(Bf 10 l).2.1++[c]:=by
   rw[e2,<-ZA,List.drop_left];rfl
  rw[hd]at h;rw[qR];have hlen:(Bf 10 l).2.1.length+1<=8192:=by
   have:=congrArg List.length c2;rw[QF,QG]at this;omega
  split at h
  .rename_i g
   have h:(A7 (Bf 10 l).2.1).2.2=10:=h;have hm:=Rg hc hlen h;rw[QB (by rw[hm];decide)];exact hm
  .cases h
theorem Ah3(b:List UInt8):∀s:Rs,s.phase=1->s.aD=1->1<=s.left->s.left+(s.body.length:Int)<=65536->
  Ag s b=({ s with body:=s.body++b.take (min s.left.toNat b.length),left:=s.left-(min s.left.toNat b.length:Nat),phase:=if s.left-(min s.left.toNat b.length:Nat)=0 then 2 else 1 },min s.left.toNat b.length,0):=by
 induction b with
 |nil =>
  intro s h1 h2 h3 h4;obtain⟨m,p,i,l,hd,f,bo,le,ch⟩:=s;simp only at h1 h2 h3 h4;subst h1 h2;simp[Ag];omega
 |cons c b ih =>
  intro s h1 h2 h3 h4;have hS:bA s c=({ s with body:=s.body++[c],left:=s.left-1,phase:=if s.left-1=0 then 2 else s.phase },0):=by
   unfold bA;rw[QA (by omega),QA (by omega),QA (by omega),QB h2]
  unfold Ag;rw[QA (by omega),hS,QA (by simp)]
  by_cases hz:s.left-1=0
  .have e:Ag { s with body:=s.body++[c],left:=s.left-1,phase:=if s.left-1=0 then 2 else s.phase } b=({ s with body:=s.body++[c],left:=s.left-1,phase:=if s.left-1=0 then 2 else s.phase },0,0):=by
    cases b with
    |nil=>rfl
    |cons x b=>unfold Ag;rw[QB (by simp only;rw[QB hz])]
   rw[e];have hm:min s.left.toNat (c :: b).length=1:=by simp only[QG];omega
   rw[hm];simp only[YE,List.take_zero,Int.natCast_one,QB hz]
  .have:=ih { s with body:=s.body++[c],left:=s.left-1,phase:=if s.left-1=0 then 2 else s.phase } (by simp only;rw[QA hz];exact h1) h2 (by simp only;omega) (by simp only[QF,QG,QU];omega)
   rw[this];have hm:min s.left.toNat (c :: b).length=min (s.left-1).toNat b.length+1:=by simp only[QG];omega
   rw[hm];have hs:s.left-1-((min (s.left-1).toNat b.length:Nat):Int)=s.left-((min (s.left-1).toNat b.length+1:Nat):Int):=by omega
   simp only[hs,YE,ZH,List.singleton_append]
theorem Aed(b:List UInt8):∀s:Rs,s.phase=1->s.aD=3->
  (s.body.length+b.length<=65536->Ag s b=({ s with body:=s.body++b },b.length,0))/\(65536<s.body.length+b.length->s.body.length<=65536->(Ag s b).2.2=3):=by
 induction b with
 |nil =>
  intro s h1 h2;refine⟨λ_=>?_,λh h2=>?_⟩
  .obtain⟨m,p,i,l,hd,f,bo,le,ch⟩:=s
   simp[Ag]
  .simp at h;omega
 |cons c b ih =>
  intro s h1 h2;have hS:s.body.length<65536->bA s c=({ s with body:=s.body++[c] },0):=λh=>by
   unfold bA;rw[QA (by omega),QA (by omega),QA (by omega),QA (by omega)]
  refine⟨λh=>?_,λh h3=>?_⟩
  .simp only[QG]at h
   unfold Ag;rw[QA (by omega),hS (by omega),QA (by simp)];have:=(ih { s with body:=s.body++[c] } h1 h2).1 (by simp only[QF,QG,QU];omega);rw[this];simp
  .unfold Ag
   rw[QA (by omega)]
   by_cases hb:s.body.length<65536
   .rw[hS hb,QA (by simp)]
    exact (ih { s with body:=s.body++[c] } h1 h2).2 (by simp only[QF,QG,QU]at h ⊢;omega) (by simp only[QF,QG,QU];omega)
   .have:bA s c=(s,3):=by
     unfold bA;rw[QA (by omega),QA (by omega),QB (by omega)]
    rw[this,QB (by simp)]
def Bj(s:Ch):List UInt8->Ch×Nat×Int
 | []=>(s,0,0)
 |c :: b=>if s.phase=4 then (s,0,0) else if (cJ s c).2≠0 then (s,0,(cJ s c).2) else ((Bj (cJ s c).1 b).1,(Bj (cJ s c).1 b).2.1+1,(Bj (cJ s c).1 b).2.2)
theorem Aax(b:List UInt8):∀s:Rs,s.phase=1->s.aD=2->s.chunks.phase≠4->
  ((Bj s.chunks b).2.2=0->Ag s b=({ s with chunks:=(Bj s.chunks b).1,phase:=if (Bj s.chunks b).1.phase=4 then 2 else 1 },(Bj s.chunks b).2.1,0))/\((Bj s.chunks b).2.2≠0->(Ag s b).2.2=(Bj s.chunks b).2.2):=by
 induction b with
 |nil =>
  intro s h1 h2 h3;refine⟨λ_=>?_,λh=>absurd rfl h⟩;obtain⟨m,p,i,l,hd,f,bo,le,ch⟩:=s;simp only at h1 h2 h3;subst h1 h2;simp[Ag,Bj,h3]
 |cons c b ih =>
  intro s h1 h2 h3
  by_cases he:(cJ s.chunks c).2≠0
  .have hS:bA s c=(s,(cJ s.chunks c).2):=by
    unfold bA;rw[QA (by omega),QB h2,QB he]
   have e1:Bj s.chunks (c :: b)=(s.chunks,0,(cJ s.chunks c).2):=by unfold Bj;rw[QA h3,QB he]
   have e2:Ag s (c :: b)=(s,0,(cJ s.chunks c).2):=by unfold Ag;rw[QA (by omega),hS,QB he]
   rw[e1,e2];exact⟨λh=>absurd h he,λ_=>rfl⟩
  .have hS:bA s c=({ s with chunks:=(cJ s.chunks c).1,phase:=if (cJ s.chunks c).1.phase=4 then 2 else s.phase },0):=by
    unfold bA;rw[QA (by omega),QB h2,QA he]
   have e1:Bj s.chunks (c :: b)=((Bj (cJ s.chunks c).1 b).1,(Bj (cJ s.chunks c).1 b).2.1+1,(Bj (cJ s.chunks c).1 b).2.2):=by
    conv=>lhs;unfold Bj
    rw[QA h3,QA he]
   have e2:Ag s (c :: b)=((Ag { s with chunks:=(cJ s.chunks c).1,phase:=if (cJ s.chunks c).1.phase=4 then 2 else s.phase } b).1,(Ag { s with chunks:=(cJ s.chunks c).1,phase:=if (cJ s.chunks c).1.phase=4 then 2 else s.phase } b).2.1+1,(Ag { s with chunks:=(cJ s.chunks c).1,phase:=if (cJ s.chunks c).1.phase=4 then 2 else s.phase } b).2.2):=by
    conv=>lhs;unfold Ag
    rw[QA (by omega),hS,QA (by simp)]
   rw[e1,e2]
   by_cases h4:(cJ s.chunks c).1.phase=4
   .have c0:Bj (cJ s.chunks c).1 b=((cJ s.chunks c).1,0,0):=by
     cases b with
     |nil=>rfl
     |cons x b=>unfold Bj;rw[QB h4]
    have r0:Ag { s with chunks:=(cJ s.chunks c).1,phase:=if (cJ s.chunks c).1.phase=4 then 2 else s.phase } b=({ s with chunks:=(cJ s.chunks c).1,phase:=if (cJ s.chunks c).1.phase=4 then 2 else s.phase },0,0):=by
     cases b with
     |nil=>rfl
     |cons x b=>unfold Ag;rw[QB (by simp only;rw[QB h4])]
    rw[c0,r0];simp[h4]
   .have:=ih { s with chunks:=(cJ s.chunks c).1,phase:=if (cJ s.chunks c).1.phase=4 then 2 else s.phase } (by simp only;rw[QA h4];exact h1) h2 h4
    simp only at this;refine⟨λh=>?_,λh=>?_⟩
    .rw[this.1 h]
    .rw[this.2 h]
def ya:List UInt8:=[48,49,50,51,52,53,54,55,56,57,97,98,99,100,101,102]
def Be(l:List UInt8):Int:=if l=[] then 0 else if Cz l then 3 else if (Ba l).1=l.length then 1 else 2
theorem M8:∀(l:List UInt8) (k n:Nat),k<=(Fw l k n).1/\(Fw l k n).1<=k+l.length
 | [],k,n=>by simp[Fw]
 |c :: r,k,n=>by
  unfold Fw
  split
  .have:=M8 r (k+1) (16 * n+(E9 c).toNat)
   simp only[QG];omega
  .simp
theorem Tk(c:UInt8):∀(l:List UInt8) (k n:Nat),Fw (l++[c]) k n=if (Fw l k n).1=k+l.length/\0<=E9 c then ((Fw l k n).1+1,16 * (Fw l k n).2+(E9 c).toNat) else Fw l k n
 | [],k,n=>by
  simp only[List.nil_append,Fw,QU,XY,true_and]
 |d :: r,k,n=>by
  simp only[UM];unfold Fw
  by_cases hd:0<=E9 d
  .rw[QB hd,QB hd,Tk c r]
   have e:(k+1+r.length)=k+(d :: r).length:=by simp only[QG];omega
   rw[e]
  .rw[QA hd,QA hd,QA]
   rintro⟨h,_⟩;simp only[QG]at h;omega
theorem J0(l:List UInt8)(c:UInt8):Ba (l++[c])=if (Ba l).1=l.length/\0<=E9 c then ((Ba l).1+1,16 * (Ba l).2+(E9 c).toNat) else Ba l:=by
 unfold Ba;rw[Tk,XE]
theorem Akj(l:List UInt8):(Ba l).1<=l.length:=by have:=(M8 l 0 0).2;unfold Ba;omega
theorem Ag8(c:UInt8):E9 c<=15:=(Ps _).2
theorem W5:∀(l:List UInt8) (k n:Nat),n<16 ^ k->(Fw l k n).2<16 ^ (Fw l k n).1
 | [],k,n,h=>h
 |c :: r,k,n,h=>by
  unfold Fw
  split
  .refine W5 r _ _ ?_
   have h1:=Ag8 c;rw[Nat.pow_succ];omega
  .exact h
theorem Ab3(h:Gi l)(k:Nat):Gi (l.take k):=λi hi=>by
 rw[QZ]at hi;have h1:=h i (by omega);have e1:(l.take k).take i=l.take i:=by rw[UT];congr 1;omega
 have e2:(l.take k).getD i 0=l.getD i 0:=by rw[QD,QD,QN,QB (by omega)]
 rw[e1,e2];exact h1
theorem Rb(h:Gi l):(Ba l).1<=8:=by
 suffices H:∀k,k<=l.length->(Ba (l.take k)).1<=8 by
  have:=H l.length (QH _)
  rwa [YQ]at this
 intro k
 induction k with
 |zero=>intro _;simp[Ba,Fw]
 |succ k ih =>
  intro hk;have hm:=h k (by omega);have e:l.take (k+1)=l.take k++[l.getD k 0]:=by
   rw[UK,QC (by omega),QD,QC (by omega)];rfl
  rw[e,J0];have i1:=ih (by omega)
  split
  .rename_i g
   unfold C8 at hm
   split at hm
   .cases hm
   split at hm
   .rename_i g13
    rw[g13]at g;exact absurd g.2 (by decide)
   split at hm
   .split at hm
    .cases hm
    .rename_i g8
     simp only;have:(Ba (l.take k)).1≠8:=λe8=>g8 ⟨g.2,e8⟩;omega
   .rename_i g8;exact absurd g.1 g8
  .exact i1
theorem Ui(h:Gi l):(Ba l).2<4294967296:=by
 have h1:=W5 l 0 0 (by decide);have h2:=Rb h;have h3:(16:Nat) ^ (Ba l).1<=16 ^ 8:=Nat.pow_le_pow_right (by decide) h2;have h4:(Ba l).2<16 ^ (Ba l).1:=h1;have h5:(16:Nat) ^ 8=4294967296:=by decide
 omega
theorem Ik(l:List UInt8)(c:UInt8):Cz (l++[c])=(c==13):=by
 unfold Cz;rw[QF];simp only[QG,QU,Nat.add_sub_cancel];rw[QD,QO (QH _)];simp
theorem Sz(l:List UInt8):Be (l++[13])=3/\Ba (l++[13])=Ba l:=by
 refine⟨?_,?_⟩
 .unfold Be
  rw[QA (by simp),Ik];simp
 .rw[J0,QA]
  rintro⟨_,h⟩;exact absurd h (by decide)
theorem Acm(h:(Ba l).1=l.length)(hd:0<=E9 c):Be (l++[c])=1/\(Ba (l++[c])).2=16 * (Ba l).2+(E9 c).toNat:=by
 have hc:c≠13:=by rintro rfl;exact absurd hd (by decide)
 have e:=J0 l c;rw[QB ⟨h,hd⟩]at e;refine⟨?_,by rw[e]⟩;unfold Be;rw[QA (by simp),Ik,QA (by simpa using hc),QB (by rw[e,QF];simp only[QG,QU];omega)]
theorem Gy(h:¬((Ba l).1=l.length/\0<=E9 c))(hc:c≠13):Be (l++[c])=2/\Ba (l++[c])=Ba l:=by
 have e:=J0 l c;rw[QA h]at e;refine⟨?_,e⟩;unfold Be;have:=Akj l;rw[QA (by simp),Ik,QA (by simpa using hc),QA (by rw[e,QF];simp only[QG,QU];omega)]
theorem Ri(l:List UInt8):Be l=0\/Be l=1\/Be l=2\/Be l=3:=by
 unfold Be
 split
 .simp
 split
 .simp
 split<;>simp
theorem S0:Be l=0↔l=[]:=by
 unfold Be
 split
 .simp_all
 split
 .simp_all
 split<;>simp_all
theorem Mj:Be l=3↔Cz l=true:=by
 unfold Be
 split
 .rename_i h;subst h;simp[Cz]
 split
 .simp_all
 split<;>simp_all
theorem Zh(h:Be l=1):l≠[]/\Cz l=false/\(Ba l).1=l.length:=by
 unfold Be at h
 split at h
 .cases h
 split at h
 .cases h
 split at h
 .exact⟨by assumption,by simp_all,by assumption⟩
 .cases h
theorem Zg(h:Be l=2):l≠[]/\Cz l=false/\(Ba l).1≠l.length:=by
 unfold Be at h
 split at h
 .cases h
 split at h
 .cases h
 split at h
 .cases h
 .exact⟨by assumption,by simp_all,by assumption⟩
theorem Uk(h:Gi l):l.length<=201:=by
 refine Nat.le_of_not_lt λhl=>?_;have h1:=h 200 (by omega);have hlen:(l.take 200).length=200:=by rw[QZ];omega
 have hc:l.getD 200 0=13:=by
  refine Decidable.byContradiction λhc=>?_;unfold C8 at h1
  split at h1
  .cases h1
  rw[hlen]at h1
  split at h1
  .split at h1
   .cases h1
   .split at h1
    .cases h1
    .rw[QB (QH _)]at h1;cases h1
  .split at h1
   .cases h1
   .rw[QB (QH _)]at h1;cases h1
 have h2:=h 201 (by omega);have e:l.take 201=l.take 200++[l.getD 200 0]:=by
  rw[UK,QC (by omega),QD,QC (by omega)];rfl
 rw[e,hc]at h2;unfold C8 at h2;rw[Ik,QB (by decide)]at h2;cases h2
theorem Uj(h:Gi l)(hl:l≠[]):(Ba l).1≠0:=by
 match l,hl with
 |c :: r,_ =>
  have h0:=h 0 (by simp);have hd:0<=E9 c:=by
   simp only[List.take_zero,List.getD_cons_zero]at h0;unfold C8 at h0
   split at h0
   .cases h0
   split at h0
   .rw[QB (show (Ba ([]:List UInt8)).1=0 from rfl)]at h0;cases h0
   rw[QB (show (Ba ([]:List UInt8)).1=([]:List UInt8).length from rfl)]at h0
   split at h0
   .cases h0
   split at h0
   .cases h0
   .rename_i g
    exact Int.not_lt.1 λe=>g ⟨e,.inr rfl⟩
  unfold Ba Fw;rw[QB hd];have:=(M8 r 1 (16 * 0+(E9 c).toNat)).1;simp only[XE];omega
theorem O8(h:Be l=0\/Be l=1):Cz l=false/\(Ba l).1=l.length:=by
 rcases h with h|h
 .rw[S0]at h;subst h;exact⟨rfl,rfl⟩
 .exact⟨(Zh h).2.1,(Zh h).2.2⟩
theorem Abp(h:Be l=3):C8 l c=6:=by
 unfold C8;rw[QB (Mj.1 h)]
theorem Su(hl:Gi l)(h:Be l≠3):C8 l 13=if Be l=0 then 6 else 0:=by
 have h3:Cz l=false:=by
  cases e:Cz l with
  |false=>rfl
  |true=>exact absurd (Mj.2 e) h
 unfold C8;rw[h3];simp only[XD,if_false,if_true]
 by_cases h0:Be l=0
 .rw[QB h0];rw[S0]at h0;subst h0;rfl
 .rw[QA h0,QA (Uj hl λe=>h0 (S0.2 e))]
theorem Ji(h:Be l=2)(hc:c≠13):C8 l c=if !okB c then 6 else if 200<=l.length then 3 else 0:=by
 obtain⟨_,h2,h3⟩:=Zg h;unfold C8;rw[h2,QA (by simp),QA hc,QA h3]
theorem vv(h:Be l=0\/Be l=1)(hd:0<=E9 c)(h8:l.length=8):C8 l c=3:=by
 obtain⟨h2,h3⟩:=O8 h;have hc:c≠13:=by rintro rfl;exact absurd hd (by decide)
 unfold C8;rw[h2,QA (by simp),QA hc,QB h3,QB ⟨hd,by omega⟩]
theorem Abq(h:Be l=0\/Be l=1)(hd:0<=E9 c)(h8:l.length≠8):C8 l c=if 200<=l.length then 3 else 0:=by
 obtain⟨h2,h3⟩:=O8 h;have hc:c≠13:=by rintro rfl;exact absurd hd (by decide)
 unfold C8;rw[h2,QA (by simp),QA hc,QB h3,QA (by rintro⟨_,e⟩;omega),QA (by rintro⟨e,_⟩;omega)]
theorem Mg(hl:Gi l)(h:Be l=1):C8 l 59=if 200<=l.length then 3 else 0:=by
 obtain⟨h1,h2,h3⟩:=Zh h;have hd:E9 59<0:=by decide
 unfold C8;rw[h2,QA (by simp),QA (by decide),QB h3,QA (by rintro⟨e,_⟩;omega),QA];rintro⟨_,e|e⟩
 .exact e rfl
 .exact Uj hl h1 e
theorem Abr(h:Be l=0\/Be l=1)(hd:E9 c<0)(hc:c≠13)(hn:¬(c=59/\Be l=1)):C8 l c=6:=by
 obtain⟨h2,h3⟩:=O8 h;unfold C8;rw[h2,QA (by simp),QA hc,QB h3,QA (by rintro⟨e,_⟩;omega),QB];refine⟨hd,?_⟩
 by_cases e:c=59
 .refine .inr ?_
  rcases h with h|h
  .rw[S0]at h;subst h;rfl
  .exact absurd ⟨e,h⟩ hn
 .exact .inl e
theorem Ada(hp:s.phase=0)(h:¬(c=10/\Cz s.line=true)):cJ s c=if C8 s.line c≠0 then (s,C8 s.line c) else (⟨0,s.line++[c],s.data,s.left,s.aE⟩,0):=by
 unfold cJ;rw[QB hp,QA h]
theorem Ac9(hp:s.phase=0)(h:Cz s.line=true):cJ s 10=if (Ba s.line).2=0 then (⟨3,[],s.data,s.left,s.aE⟩,0) else if 65536<s.data.length+(Ba s.line).2 then (s,3) else (⟨1,[],s.data,(Ba s.line).2,s.aE⟩,0):=by
 unfold cJ;rw[QB hp,QB ⟨rfl,h⟩]
structure AN(a b:Nat):Prop where
 h:a=b
structure eU(a b:Nat):Prop where
 h:a<=b
set_option maxHeartbeats 8000000
structure Eu(s:Ch)(ph lf:Int)(tl:Int)(tf:Nat->List SV)(dl:Int)(df:Nat->List SV)(nl:Int)(nf:Nat->List SV)(fo sz:Int):Prop where
 gU:ph=s.phase
 iS:lf=s.left
 tr:A5 tf tl s.aE
 da:Bl df dl s.data
 li:Bl nf nl s.line
 sd:fo=if s.phase=0 then Be s.line else 0
 nc:sz=if s.phase=0 then ((Ba s.line).2:Int) else 0
def po(ph:Int)(l0 d0:List UInt8)(lf:Int)(tn:Bool)(tl:Int)(tf:Nat->List SV)(db:Bool)(dl:Int)(nn:Bool)(nl g fo sz:Int):List SV :=
 [.int .i64 (.a ph),.str l0,.str d0,.int .i64 (.a lf),.sl (.a tn) (.a tl) 2 tf,.bV (.a db) (.a dl) 1,.cP (.a nn) (.a nl) (.a g) 2,.int .i64 (.a fo),.int .i64 (.a sz)]
structure CZ(s s':Ch)(tn nn:Bool)(g:Int)(pR kT:Bool)(g':Int)(dd:Bool):Prop where
 ed:dd=false
 et:pR=if s'.phase=4 then s'.aE.isEmpty else tn
 en:kT=if s.phase=1 then nn else s'.line.isEmpty
 eg:g'=if s.phase=1 then g else if s'.phase=4 then g+3 else g+1
def Vv(s:Ch)(c:UInt8)(l0 d0:List UInt8)(BE nn0:Bool)(g0:Int)(gr:Bool)(K:SV->List Hl->Prop):Prop :=
 ∀e,e=(cJ s c).2->(e≠0->K (.int .i64 (.a e)) [.gone,.gone,.gone])/\
  (e=0->∀ph lf tn tl tf db dl df nn nl g nf fo sz,Eu (cJ s c).1 ph lf tl tf dl df nl nf fo sz->CZ s (cJ s c).1 BE nn0 g0 tn nn g db->K (.int .i64 (.a e)) [.aG 220 (po ph l0 d0 lf tn tl tf db dl nn nl g fo sz),.own 5 (.a dl) 1 gr df,.vec 5 (.a nl) (.a g) 1 nf])
def La(p:Int):aB:=λ_ xs ls K=>∃(s:Ch) (c:UInt8) (ci:Int) (ph lf:Int) (l0 d0:List UInt8) (tn:Bool) (tl:Int) (tf:Nat->List SV) (db:Bool) (dl:Int) (gr:Bool) (df:Nat->List SV) (nn:Bool) (nl g:Int) (nf:Nat->List SV) (fo sz:Int),
 xs=[.ptr 0 0,.int .u8 (.a ci)]/\ls=[.aG 220 (po ph l0 d0 lf tn tl tf db dl nn nl g fo sz),.own 5 (.a dl) 1 gr df,.vec 5 (.a nl) (.a g) 1 nf]/\
 ci=(c.toNat:Int)/\Eu s ph lf tl tf dl df nl nf fo sz/\s.phase=p/\db=false/\Iz s/\Vv s c l0 d0 tn nn g gr K
theorem Cj(s:List UInt8):aO (.str s) (.str s):=aO.refl _
theorem Nm{ph tl gV dl xN nl dJ g g' g2 g2' n n' fo qU sz cD:ST}(he:t.den=t'.den)(h1:ph.den=eV.den)(h2:lf.den=gX.den)
  (h3:aO (.sl tn tl 2 tf) (.sl pR gV 2 gR)) (h4:db.den=dd.den/\dl.den=xN.den) (h5:nn.den=kT.den/\nl.den=dJ.den/\g.den=g'.den) (h6:fo.den=qU.den) (h7:sz.den=cD.den)
  (h8:n.den=n'.den/\∀i:Nat,(i:Int)<n.den->df i=nj i)  (h9:m.den=m'.den/\g2.den=g2'.den/\∀i:Nat,(i:Int)<m.den->nf i=jI i):
  Fin (.int .i64 t) (.int .i64 t') [.aG 220 [.int .i64 ph,.str l0,.str d0,.int .i64 lf,.sl tn tl 2 tf,.bV db dl 1,.cP nn nl g 2,.int .i64 fo,.int .i64 sz],.own 5 n 1 gr df,.vec 5 m g2 1 nf]
   [.aG 220 [.int .i64 eV,.str l0,.str d0,.int .i64 gX,.sl pR gV 2 gR,.bV dd xN 1,.cP kT dJ g' 2,.int .i64 qU,.int .i64 cD],.own 5 n' 1 gr nj,.vec 5 m' g2' 1 jI] :=
 ⟨Ai he,Cn (cI.cons (Ao (.cons (Ai h1) (.cons (Cj _) (.cons (Cj _) (.cons (Ai h2) (.cons h3 (.cons (Xl h4.1 h4.2) (.cons (OL h5.1 h5.2.1 h5.2.2) (.cons (Ai h6) (.cons (Ai h7) .nil))))))))))
  (cI.cons (Y5 h8.1 h8.2) (cI.cons (Ih h9.1 h9.2.1 h9.2.2) λ_ _ _ _ h=>h))),QH _⟩
theorem Dy{a b c:Hl}(he:t.den=t'.den):Fin (.int .i64 t) (.int .i64 t') [a,b,c] [.gone,.gone,.gone]:=by
 refine⟨Ai he,λh E w hk=>?_,QH _⟩
 match h with
 |0=>trivial
 |1=>trivial
 |2=>trivial
 |h+3=>exact hk
theorem jG(h:f 0=[.int .u8 (.a (c.toNat:Int))]):∀i,i<[c].length->f i=[.int .u8 (.a (([c].getD i 0).toNat:Int))]:=by
 intro i hi;have:i=0:=by simpa using hi
 subst this;simpa using h
theorem yF(c d:UInt8):((c.toNat:Int)==(d.toNat:Int))=(c==d):=by
 rw[XX,QS,QS];constructor
 .intro h;exact UInt8.toNat_inj.1 (by omega)
 .intro h;rw[h]
theorem Ai2:Ap Tryz.prog gl 187 (La 1):=by
 refine Bq (gh:=[]) mixed Ee Ae Tryz.func187 (by kernel_rfl) (by kernel_rfl) ?_;intro xs ls K h;unfold La at h;obtain⟨s,c,ci,ph,lf,l0,d0,tn,tl,tf,db,dl,gr,df,nn,nl,g,nf,fo,sz,rfl,rfl,rfl,V,hp,nQ,hO,h⟩:=h;have hc:cJ s c=(⟨if s.left-1=0 then 2 else 1,s.line,s.data++[c],s.left-1,s.aE⟩,0):=by unfold cJ;rw[QA (by omega),QB hp]
 obtain⟨q1,q2,q3⟩:=hO.p1 hp;have hd:=hO.data;have hle:=V.iS;have hw:IntKind.i64.wrap (lf-1)=lf-1:=wrap64 (by omega) (by omega);unfold Vv at h;rw[hc]at h;have h:=(h 0 rfl).2 rfl;simp only at h;have cm:dl=s.data.length:=V.da.n;have R':Bl (aU (s.data++[c])) ((s.data++[c]).length:Nat) (s.data++[c]):=⟨rfl,λi _=>rfl⟩;have mI:fo=0:=by have:=V.sd;rwa [QA (by omega)]at this
 have bB:sz=0:=by have:=V.nc;rwa [QA (by omega)]at this
 have VD:VI dl s.data.length:=⟨cm⟩;have HL:eU s.data.length 65536:=⟨hd⟩;clear cm hd;have go:∀eV:Int,eV=(if s.left-1=0 then 2 else 1)->K (.int .i64 (.a 0)) [.aG 220 (po eV l0 d0 (IntKind.i64.wrap (lf-1)) tn tl tf false ((s.data++[c]).length:Nat) nn nl g fo sz),.own 5 (.a ((s.data++[c]).length:Nat)) 1 gr (aU (s.data++[c])),.vec 5 (.a nl) (.a g) 1 nf]:=λeV fH =>
  h eV _ tn tl tf false _ _ nn nl g nf fo sz ⟨fH,by rw[hw,hle],V.tr,R',V.li,by rw[mI,QA];show ¬(if _ then _ else _)=_;split<;>decide,by rw[bB,QA];show ¬(if _ then _ else _)=_;split<;>decide⟩ ⟨rfl,by rw[QA];show ¬(if _ then _ else _)=_;split<;>decide,by rw[QB hp],by rw[QB hp]⟩
 have hzd:(IntKind.i64.wrap (lf-1)==0)=decide (s.left-1=0):=by rw[hw,hle,XX,QS,QJ]
 obtain⟨N,VN⟩:∃N:Int,VI N (s.data++[c]).length:=⟨_,⟨rfl⟩⟩;rw[<-VN.h]at go R';have hNd:N=dl+1:=by rw[VN.h,VD.h,QF];simp
 obtain⟨W,hW⟩:∃W,W=IntKind.i64.wrap (lf-1):=⟨_,rfl⟩;rw[<-hW]at go;have EW:oH W (IntKind.i64.wrap (lf-1)):=⟨hW⟩;clear hW;have HN:oH N (dl+1):=⟨hNd⟩;obtain⟨T,hT⟩:∃T,T=s.data++[c]:=⟨_,rfl⟩;rw[<-hT]at go R';clear h hc hNd hle q3 q2;refine⟨_,_,go (if s.left-1=0 then 2 else 1) rfl,λD hD=>?_⟩;obtain⟨p',mC⟩:∃p':Int,p'=(if s.left-1=0 then 2 else 1):=⟨_,rfl⟩;rw[<-mC];cbv;intro f3 eN;cbv;refine⟨by subst hD;exact⟨rfl,by show (dl+1) * 1<=_;rw[VD.h];have:=HL.h;omega,by show dl+1<=_;rw[VD.h];have:=HL.h;omega⟩,λf4 n4 hm=>?_⟩;cbv;have h40:f3 0=[.int .u8 (.a (c.toNat:Int))]:=by rw[eN.h 0 _ rfl];subst hD;rfl
 have R4:Bl f4 n4 (s.data++[c]):=V.da.more (g:=f3) (u:=[c]) rfl (jG h40) (by subst hD;exact hm);clear hm eN;rw[<-hT]at R4;have aI:n4=N/\∀i:Nat,(i:Int)<n4->f4 i=aU T i:=by
  have e1:=R4.n;have e2:=R'.n;refine⟨by omega,λi hi=>?_⟩;rw[R4.f i (by omega)];rfl
 refine br hD (λhb=>?_) (λhb=>?_)<;>cbv
 .have hb:(IntKind.i64.wrap (lf-1)==0)=true:=by subst hD;exact hb
  rw[hzd,QJ]at hb;rw[QB hb]at mC;subst hD mC;exact Nm rfl rfl (by exact EW.h.symm) (aO.refl _) ⟨by rw[nQ];rfl,by exact aI.1⟩ ⟨rfl,rfl,rfl⟩ rfl rfl (by exact aI) ⟨rfl,rfl,λ_ _=>rfl⟩
 .have hb:(IntKind.i64.wrap (lf-1)==0)=false:=by subst hD;exact hb
  rw[hzd,QL]at hb;rw[QA hb]at mC;have fH:=V.gU;rw[hp]at fH;subst hD mC fH;exact Nm rfl rfl (by exact EW.h.symm) (aO.refl _) ⟨by rw[nQ];rfl,by exact aI.1⟩ ⟨rfl,rfl,rfl⟩ rfl rfl (by exact aI) ⟨rfl,rfl,λ_ _=>rfl⟩
theorem Ama:Ap Tryz.prog gl 188 (La 2):=by
 refine Bq (gh:=[(999985,[]),(3,[.qX 0 6 2]),(5,[.oI 0 6 2])]) mixed Ee Ae Tryz.func188 (by kernel_rfl) (by kernel_rfl) ?_;intro xs ls K h;unfold La at h;obtain⟨s,c,ci,ph,lf,l0,d0,tn,tl,tf,db,dl,gr,df,nn,nl,g,nf,fo,sz,rfl,rfl,rfl,V,hp,nQ,hO,h⟩:=h;have eK:nl=s.line.length:=V.li.n;unfold Vv at h;have hc:cJ s c=if s.line=[]/\c=13 then (⟨2,[13],s.data,s.left,s.aE⟩,0) else if s.line=[13]/\c=10 then (⟨0,[],s.data,s.left,s.aE⟩,0) else (s,6):=by
  unfold cJ;rw[QA (by omega),QA (by omega),QB hp]
 have mI:fo=0:=by have:=V.sd;rwa [QA (by omega)]at this
 have bB:sz=0:=by have:=V.nc;rwa [QA (by omega)]at this
 have fV:((c.toNat:Int)==13)=(c==13):=yF c 13;have IL:((c.toNat:Int)==10)=(c==10):=yF c 10;have qP:(nl==0)=decide (s.line=[]):=by rw[eK,XX,QS,QJ,<-List.length_eq_zero_iff];omega
 have xp:(nl==1)=decide (s.line=[13]):=by
  rcases (hO.p2 hp).1 with e|e
  .rw[eK,e];decide
  .rw[eK,e];decide
 clear eK
 by_cases h1:s.line=[]/\c=13
 .rw[hc,QB h1]at h
  have h:=(h 0 rfl).2 rfl;simp only at h;obtain⟨G,hG⟩:∃G,G=g+1:=⟨_,rfl⟩;have h:=h ph lf tn tl tf db dl df false 1 G (aU [13]) fo sz ⟨by rw[V.gU,hp],V.iS,V.tr,V.da,⟨rfl,λi _=>rfl⟩,mI,bB⟩ ⟨nQ,by rw[QA];show ¬(2:Int)=4;decide,by rw[QA (by omega)];rfl,by rw[QA (by omega),hG,QA];show ¬(2:Int)=4;decide⟩;have EG:oH G (g+1):=⟨hG⟩;clear hG hc;refine⟨_,_,h,λD hD=>?_⟩;cbv;refine br hD (λhb=>?_) (λhb=>?_)<;>cbv
  .intro f3 eN
   cbv;have mS:f3 0=[.int .u8 (.a (c.toNat:Int))]:=by rw[eN.h 0 _ rfl];subst hD;rfl
   refine⟨by subst hD;exact⟨rfl⟩,λg' mR=>?_⟩;cbv;have jE:g'=g+1:=by subst hD;exact mR.h
   clear mR;subst hD;refine Nm rfl rfl rfl (aO.refl _) ⟨rfl,rfl⟩ ⟨rfl,rfl,by rw[EG.h];exact jE⟩ rfl rfl ⟨rfl,λ_ _=>rfl⟩ ⟨rfl,by rw[EG.h];exact jE,λi hi=>?_⟩;have hi:(i:Int)<1:=hi;obtain rfl:i=0:=by omega
   rw[mS,h1.2];rfl
  .have hb:((nl==0)&&((c.toNat:Int)==13))=false:=by subst hD;exact hb
   rw[qP,fV,h1.1,h1.2]at hb;cases hb
 by_cases h2:s.line=[13]/\c=10
 .rw[hc,QA h1,QB h2]at h
  have h:=(h 0 rfl).2 rfl;simp only at h;obtain⟨G,hG⟩:∃G,G=g+1:=⟨_,rfl⟩;have h:=h 0 lf tn tl tf db dl df true 0 G (λ_=>[]) fo sz ⟨rfl,V.iS,V.tr,V.da,⟨rfl,λi hi=>by cases hi⟩,mI,bB⟩ ⟨nQ,by rw[QA];show ¬(0:Int)=4;decide,by rw[QA (by omega)];rfl,by rw[QA (by omega),hG,QA];show ¬(0:Int)=4;decide⟩;have EG:oH G (g+1):=⟨hG⟩;clear hG hc;refine⟨_,_,h,λD hD=>?_⟩;cbv;refine br hD (λhb=>?_) (λhb=>?_)<;>cbv
  .have hb:((nl==0)&&((c.toNat:Int)==13))=true:=by subst hD;exact hb
   rw[qP,fV,h2.1]at hb;cases hb
  .refine br hD (λhb=>?_) (λhb=>?_)<;>cbv
   .intro g' mR
    cbv;have jE:g'=g+1:=by subst hD;exact mR.h
    clear mR;subst hD;exact Nm rfl rfl rfl (aO.refl _) ⟨rfl,rfl⟩ ⟨rfl,rfl,by rw[EG.h];exact jE⟩ rfl rfl ⟨rfl,λ_ _=>rfl⟩ ⟨rfl,by rw[EG.h];exact jE,λi hi=>rfl⟩
   .have hb:((nl==1)&&((c.toNat:Int)==10))=false:=by subst hD;exact hb
    rw[xp,IL,h2.1,h2.2]at hb;cases hb
 .rw[hc,QA h1,QA h2]at h
  have h:=(h 6 rfl).1 (by decide);clear hc;refine⟨_,_,h,λD hD=>?_⟩;cbv;refine br hD (λhb=>?_) (λhb=>?_)<;>cbv
  .exfalso
   have hb:((nl==0)&&((c.toNat:Int)==13))=true:=by subst hD;exact hb
   rw[qP,fV,QE,QJ,QS]at hb;exact h1 hb
  .refine br hD (λhb=>?_) (λhb=>?_)<;>cbv
   .exfalso
    have hb:((nl==1)&&((c.toNat:Int)==10))=true:=by subst hD;exact hb
    rw[xp,IL,QE,QJ,QS]at hb;exact h2 hb
   .subst hD;exact Dy rfl
def vL:aB:=λ_ xs ls K=>∃(s:Ch) (ph lf:Int) (l0 d0:List UInt8) (tn:Bool) (tl:Int) (tf:Nat->List SV) (db:Bool) (dl:Int) (gr:Bool) (df:Nat->List SV) (nn:Bool) (nl g:Int) (nf:Nat->List SV) (fo sz:Int),
 xs=[.ptr 0 0]/\ls=[.aG 220 (po ph l0 d0 lf tn tl tf db dl nn nl g fo sz),.own 5 (.a dl) 1 gr df,.vec 5 (.a nl) (.a g) 1 nf]/\
 Eu s ph lf tl tf dl df nl nf fo sz/\s.phase=0/\db=false/\Cz s.line=true/\Iz s/\Vv s 10 l0 d0 tn nn g gr K
theorem Akh:Ap Tryz.prog gl 240 vL:=by
 refine Bq (gh:=[(2,[.oI 0 6 2])]) mixed Ee Ae Tryz.func240 (by kernel_rfl) (by kernel_rfl) ?_;intro xs ls K h;unfold vL at h;obtain⟨s,ph,lf,l0,d0,tn,tl,tf,db,dl,gr,df,nn,nl,g,nf,fo,sz,rfl,rfl,V,hp,nQ,lh,hO,h⟩:=h;unfold Vv at h;rw[Ac9 hp lh]at h;have bB:sz=((Ba s.line).2:Int):=by have:=V.nc;rwa [QB hp]at this
 have hv:=Ui (hO.p0 hp);obtain⟨n,hn⟩:∃n,n=(Ba s.line).2:=⟨_,rfl⟩;rw[<-hn]at h bB hv;have cm:dl=s.data.length:=V.da.n;have VS:VI sz n:=⟨bB⟩;have VD:VI dl s.data.length:=⟨cm⟩;have HL:eU s.data.length 65536:=⟨hO.data⟩;have HV:eU n 4294967296:=⟨by omega⟩;obtain⟨G,hG⟩:∃G,G=g+1:=⟨_,rfl⟩;have EG:oH G (g+1):=⟨hG⟩;clear hG bB hv cm hn
 by_cases h0:n=0
 .rw[QB h0]at h
  have h:=(h 0 rfl).2 rfl 3 lf tn tl tf db dl df true 0 G (λ_=>[]) 0 0 ⟨rfl,V.iS,V.tr,V.da,⟨rfl,λi hi=>by cases hi⟩,by rw[QA];show ¬(3:Int)=0;decide,by rw[QA];show ¬(3:Int)=0;decide⟩ ⟨nQ,by rw[QA];show ¬(3:Int)=4;decide,by rw[QA (by omega)];rfl,by rw[QA (by omega),EG.h,QA];show ¬(3:Int)=4;decide⟩;refine⟨_,_,h,λD hD=>?_⟩;cbv;intro g' mR;cbv;have jE:g'=g+1:=by subst hD;exact mR.h
  clear mR;refine br hD (λhb=>?_) (λhb=>?_)<;>cbv
  .subst hD
   exact Nm rfl rfl rfl (aO.refl _) ⟨rfl,rfl⟩ ⟨rfl,rfl,by rw[EG.h];exact jE⟩ rfl rfl ⟨rfl,λ_ _=>rfl⟩ ⟨rfl,by rw[EG.h];exact jE,λi hi=>rfl⟩
  .exfalso
   have hb:(sz==0)=false:=by subst hD;exact hb
   rw[VS.h,h0]at hb;cases hb
 rw[QA h0]at h;have hw:IntKind.i64.wrap (dl+sz)=dl+sz:=by have:=VS.h;have:=VD.h;have:=HL.h;have:=HV.h;exact wrap64 (by omega) (by omega)
 by_cases h1:65536<s.data.length+n
 .rw[QB h1]at h
  have h:=(h 3 rfl).1 (by decide);refine⟨_,_,h,λD hD=>?_⟩;have oR:decide (65536<IntKind.i64.wrap (dl+sz))=true:=by rw[hw,VS.h,VD.h,QJ];omega
  clear hw;cbv;intro g' mR;cbv;refine br hD (λhb=>?_) (λhb=>?_)<;>cbv
  .exfalso
   have hb:(sz==0)=true:=by subst hD;exact hb
   rw[VS.h,QS]at hb;omega
  .refine br hD (λhb=>?_) (λhb=>?_)<;>cbv
   .subst hD;exact Dy rfl
   .exfalso
    have hb:decide (65536<IntKind.i64.wrap (dl+sz))=false:=by subst hD;exact hb
    rw[oR]at hb;cases hb
 .rw[QA h1]at h
  have h:=(h 0 rfl).2 rfl 1 sz tn tl tf db dl df true 0 G (λ_=>[]) 0 0 ⟨rfl,VS.h,V.tr,V.da,⟨rfl,λi hi=>by cases hi⟩,by rw[QA];show ¬(1:Int)=0;decide,by rw[QA];show ¬(1:Int)=0;decide⟩ ⟨nQ,by rw[QA];show ¬(1:Int)=4;decide,by rw[QA (by omega)];rfl,by rw[QA (by omega),EG.h,QA];show ¬(1:Int)=4;decide⟩;refine⟨_,_,h,λD hD=>?_⟩;have oR:decide (65536<IntKind.i64.wrap (dl+sz))=false:=by rw[hw,VS.h,VD.h,QL];omega
  clear hw;cbv;intro g' mR;cbv;have jE:g'=g+1:=by subst hD;exact mR.h
  clear mR;refine br hD (λhb=>?_) (λhb=>?_)<;>cbv
  .exfalso
   have hb:(sz==0)=true:=by subst hD;exact hb
   rw[VS.h,QS]at hb;omega
  .refine br hD (λhb=>?_) (λhb=>?_)<;>cbv
   .exfalso
    have hb:decide (65536<IntKind.i64.wrap (dl+sz))=true:=by subst hD;exact hb
    rw[oR]at hb;cases hb
   .subst hD
    exact Nm rfl rfl rfl (aO.refl _) ⟨rfl,rfl⟩ ⟨rfl,rfl,by rw[EG.h];exact jE⟩ rfl rfl ⟨rfl,λ_ _=>rfl⟩ ⟨rfl,by rw[EG.h];exact jE,λi hi=>rfl⟩
set_option maxHeartbeats 16000000
theorem Ae3:∀d:Fin 256,(if d.1<48\/(57<d.1/\d.1<65) then (-1:Int) else Lib.indexByte ya (UInt8.ofNat (Eg .or .u8 (d.1:Int) 32).toNat))=E9 (UInt8.ofNat d.1):=by decide +kernel
theorem Ai5:∀d:Fin 256,0<=Eg .or .u8 (d.1:Int) 32/\Eg .or .u8 (d.1:Int) 32<=255:=by decide +kernel
theorem x9(c:UInt8):(if c.toNat<48\/(57<c.toNat/\c.toNat<65) then (-1:Int) else Lib.indexByte ya (UInt8.ofNat (Eg .or .u8 (c.toNat:Int) 32).toNat))=E9 c:=by
 have:=Ae3 ⟨c.toNat,c.toNat_lt⟩;have e:UInt8.ofNat c.toNat=c:=by simp
 rw[<-e];simpa using this
theorem E8{f':Nat->List SV}{n n':Int}{b b':BT}{l:List HF}(R:A5 f n l)(R':A5 f' n' l)(hb:b.den=b'.den)(hm:m.den=n)(CA:m'.den=n'):aO (.sl b m 2 f) (.sl b' m' 2 f'):=by
 have h1:=R.n;have h2:=R'.n;exact aO.sl hb (by rw[hm,CA,h1,h2]) λi hi=>by rw[hm]at hi;rw[R.f i (by omega),R'.f i (by omega)]
theorem Jr{s':Ch}{p l tl dl nl fo sz p' l' gV xN dJ qU cD:Int}(V:Eu s' p l tl tf dl df nl nf fo sz)(V':Eu s' p' l' gV gR xN nj dJ jI qU cD)
  {ph fx pS zh uO zg uN vr tM vq tL gt yp gu yo yx uM um tI:ST}   
  (he:t.den=t'.den) (h1:ph.den=p/\eV.den=p') (h2:lf.den=l/\gX.den=l') (h3:tn.den=pR.den/\fx.den=tl/\pS.den=gV) (h4:db.den=dd.den/\zh.den=dl/\uO.den=xN/\zg.den=dl/\uN.den=xN) (h5:nn.den=kT.den/\vr.den=nl/\tM.den=dJ/\vq.den=nl/\tL.den=dJ)
  (h6:gt.den=yp.den/\gu.den=yo.den) (h7:yx.den=fo/\uM.den=qU) (h8:um.den=sz/\tI.den=cD):
  Fin (.int .i64 t) (.int .i64 t') [.aG 220 [.int .i64 ph,.str l0,.str d0,.int .i64 lf,.sl tn fx 2 tf,.bV db zh 1,.cP nn vr gt 2,.int .i64 yx,.int .i64 um],.own 5 zg 1 gr df,.vec 5 vq gu 1 nf]
   [.aG 220 [.int .i64 eV,.str l0,.str d0,.int .i64 gX,.sl pR pS 2 gR,.bV dd uO 1,.cP kT tM yp 2,.int .i64 uM,.int .i64 tI],.own 5 uN 1 gr nj,.vec 5 tL yo 1 jI]:=by
 have d1:=V.da.n;have d2:=V'.da.n;have n1:=V.li.n;have n2:=V'.li.n;refine Nm he (by rw[h1.1,h1.2,V.gU,V'.gU]) (by rw[h2.1,h2.2,V.iS,V'.iS]) (E8 V.tr V'.tr h3.1 h3.2.1 h3.2.2) ⟨h4.1,by rw[h4.2.1,h4.2.2.1,d1,d2]⟩ ⟨h5.1,by rw[h5.2.1,h5.2.2.1,n1,n2],h6.1⟩ (by rw[h7.1,h7.2,V.sd,V'.sd]) (by rw[h8.1,h8.2,V.nc,V'.nc])
  ⟨by rw[h4.2.2.2.1,h4.2.2.2.2,d1,d2],λi hi=>?_⟩ ⟨by rw[h5.2.2.2.1,h5.2.2.2.2,n1,n2],h6.2,λi hi=>?_⟩
 .rw[h4.2.2.2.1]at hi
  rw[V.da.f i (by omega),V'.da.f i (by omega)]
 .rw[h5.2.2.2.1]at hi
  rw[V.li.f i (by omega),V'.li.f i (by omega)]
theorem Ajm(hp:s.phase=0)(h:(cJ s c).2=0):(cJ s c).1.phase≠4/\(cJ s c).1.aE=s.aE/\(cJ s c).1.data=s.data:=by
 unfold cJ at h ⊢;rw[QB hp]at h ⊢
 split at h
 .rename_i g
  rw[QB g]
  split at h
  .rename_i g2;rw[QB g2];exact⟨by simp,rfl,rfl⟩
  .rename_i g2
   rw[QA g2]
   split at h
   .cases h
   .rename_i g3;rw[QA g3];exact⟨by simp,rfl,rfl⟩
 .rename_i g
  rw[QA g]
  split at h
  .rename_i g2;exact absurd h g2
  .rename_i g2;rw[QA g2];exact⟨by simp,rfl,rfl⟩
theorem OO(c:UInt8):(((c.toNat:Int) != 9)&&(decide ((c.toNat:Int)<32)||decide (126<(c.toNat:Int))))=!okB c:=by
 rw[XX];simp only[okB,QE,XR,bne_iff_ne,QJ,XO,XC,QL,ZI,ne_eq];omega
theorem Xm:Ap Tryz.prog gl 186 (La 0):=by
 refine Bq (gh:=[]) mixed Ee (Ab (Acn Agu) (Al Akh Ae)) Tryz.func186 (by kernel_rfl) (by kernel_rfl) ?_;intro xs ls K h;unfold La at h;obtain⟨s,c,ci,ph,lf,l0,d0,tn,tl,tf,db,dl,gr,df,nn,nl,g,nf,fo,sz,rfl,rfl,rfl,V,hp,nQ,hO,h⟩:=h;unfold Vv at h;have bn:=Ajm (c:=c) hp;have sD:=Ada (c:=c) hp;have eJ:=Ac9 hp;obtain⟨e,he⟩:∃e,e=(cJ s c).2:=⟨_,rfl⟩;obtain⟨s',cB⟩:∃s',s'=(cJ s c).1:=⟨_,rfl⟩;have h:=h e he;rw[<-cB]at h;rw[<-he,<-cB]at bn;obtain⟨L,kO,nS,hK⟩:∃L:List Hl,(e≠0->L=[.gone,.gone,.gone])/\(e=0->∃eV gX kT dJ g' jI qU cD,L=[.aG 220 (po eV l0 d0 gX tn tl tf db dl kT dJ g' qU cD),.own 5 (.a dl) 1 gr df,.vec 5 (.a dJ) (.a g') 1 jI]/\
   Eu s' eV gX tl tf dl df dJ jI qU cD/\CZ s s' tn nn g tn kT g' db)/\K (.int .i64 (.a e)) L:=by
  by_cases e0:e=0
  .obtain⟨k1,k2,k3⟩:=bn e0
   have V':Eu s' s'.phase s'.left tl tf dl df s'.line.length (aU s'.line) (if s'.phase=0 then Be s'.line else 0) (if s'.phase=0 then ((Ba s'.line).2:Int) else 0):=⟨rfl,rfl,by rw[k2];exact V.tr,by rw[k3];exact V.da,⟨rfl,λi _=>rfl⟩,rfl,rfl⟩;have N':CZ s s' tn nn g tn s'.line.isEmpty (g+1) db:=⟨nQ,by rw[QA k1],by rw[QA (by omega)],by rw[QA (by omega),QA k1]⟩;exact⟨_,λh=>absurd e0 h,λ_=>⟨_,_,_,_,_,_,_,_,rfl,V',N'⟩,h.2 e0 _ _ _ _ _ _ _ _ _ _ _ _ _ _ V' N'⟩
  .exact⟨_,λ_=>rfl,λh=>absurd h e0,h.1 e0⟩
 have mI:fo=Be s.line:=by have:=V.sd;rwa [QB hp]at this
 have bB:sz=((Ba s.line).2:Int):=by have:=V.nc;rwa [QB hp]at this
 have cy:=hO.p0 hp;have hv:=Ui cy;have bD:=Rb cy;have eK:nl=s.line.length:=V.li.n;have jD:s.line.length<=1000000:=by have:=Uk cy;omega
 have VN:VI nl s.line.length:=⟨eK⟩;have HL:eU s.line.length 1000000:=⟨jD⟩;have VS:VI sz (Ba s.line).2:=⟨bB⟩;have HV:eU (Ba s.line).2 4294967295:=⟨by omega⟩;have EF:oH fo (Be s.line):=⟨mI⟩;have lu:=x9 c
 -- fm a step within qZ line answers
 have mJ:∀v:Int,¬(c=10/\Cz s.line=true)->C8 s.line c=v->v≠0->e=v:=λv h1 h2 h3=>by
  rw[he,sD h1,h2,QB h3]
 have fT:¬(c=10/\Cz s.line=true)->C8 s.line c=0->e=0/\s'=⟨0,s.line++[c],s.data,s.left,s.aE⟩:=λh1 h2=>by
  rw[he,cB,sD h1,h2,QA (by simp)];exact⟨rfl,rfl⟩
 clear sD bB eK jD hv mI h bn;refine⟨_,_,hK,λD hD=>?_⟩;clear hK;cbv;refine⟨ya,_,rfl,rfl,by subst hD;exact Ai5 ⟨c.toNat,c.toNat_lt⟩,λr hr=>?_⟩;cbv;refine br hD (λhb=>?_) (λhb=>?_)<;>cbv
 .have hb:(decide ((c.toNat:Int)<48)||(decide (57<(c.toNat:Int))&&decide ((c.toNat:Int)<65)))=true:=by subst hD;exact hb
  have hd:E9 c=-1:=by
   rw[<-lu,QB];simp only[XR,QE,QJ]at hb;omega
  clear hb lu hr;refine br hD (λhb=>?_) (λhb=>?_)<;>cbv
  .have hb:((fo==3)&&((c.toNat:Int)==10))=true:=by subst hD;exact hb
   have qF:c=10/\Cz s.line=true:=by
    rw[QE,QS]at hb;have CJ:=yF c 10;have h2:=hb.2;rw[show ((c.toNat:Int)==10)=(c==10) from CJ,QS]at h2;exact⟨h2,Mj.1 (by rw[<-EF.h];exact hb.1)⟩
   refine⟨s,D.i (.a ph),D.i (.a lf),l0,d0,D.b (.a tn),D.i (.a tl),tf,D.b (.a db),D.i (.a dl),gr,df,D.b (.a nn),D.i (.a nl),D.i (.a g),nf,D.i (.a fo),D.i (.a sz),rfl,rfl,by subst hD;exact V,hp,by subst hD;exact nQ,qF.2,hO,λe2 sX=>⟨λaY=>?_,λh0 lK dz uX du dw db2 sg sh px rS g2 py rv fy V2 N2=>?_⟩⟩<;>cbv
   .have ee:e=e2:=by rw[he,sX,qF.1]
    rw[kO (by rw[ee];exact aY)];subst hD;exact Dy ee.symm
   .have ee:e=e2:=by rw[he,sX,qF.1]
    obtain⟨p3,l3,jU,pW,g3,pX,qG,pT,rfl,V3,N3⟩:=nS (by rw[ee];exact h0);have es:s'=(cJ s 10).1:=by rw[cB,qF.1]
    rw[<-es]at V2 N2;subst hD;exact Jr V2 V3 (by exact ee.symm) ⟨rfl,rfl⟩ ⟨rfl,rfl⟩ ⟨by exact N2.et.trans N3.et.symm,rfl,rfl⟩ ⟨by exact N2.ed.trans N3.ed.symm,rfl,rfl,rfl,rfl⟩ ⟨by exact N2.en.trans N3.en.symm,rfl,rfl,rfl,rfl⟩ ⟨by exact N2.eg.trans N3.eg.symm,by exact N2.eg.trans N3.eg.symm⟩ ⟨rfl,rfl⟩ ⟨rfl,rfl⟩
  have hb:((fo==3)&&((c.toNat:Int)==10))=false:=by subst hD;exact hb
  have pG:¬(c=10/\Cz s.line=true):=by
   rintro⟨h1,h2⟩;rw[EF.h,Mj.2 h2,h1]at hb;cases hb
  clear hb;refine br hD (λhb=>?_) (λhb=>?_)<;>cbv
  .have hb:(fo==3)=true:=by subst hD;exact hb
   rw[EF.h,QS]at hb;have em:e=6:=mJ 6 pG (Abp hb) (by decide);rw[kO (by rw[em];decide)];subst hD;exact Dy em.symm
  have h3:Be s.line≠3:=by
   have hb:(fo==3)=false:=by subst hD;exact hb
   rw[EF.h]at hb;simpa using hb
  clear hb;refine br hD (λhb=>?_) (λhb=>?_)<;>cbv
  .have hb:(((c.toNat:Int)==13)&&(fo != 0))=true:=by subst hD;exact hb
   rw[show ((c.toNat:Int)==13)=(c==13) from yF c 13,EF.h,QE,QS,bne_iff_ne]at hb;obtain⟨hc,cg⟩:=hb;intro f3 eN;cbv;refine⟨by subst hD;exact⟨rfl,by show (nl+1) * 1<=_;rw[VN.h];have:=HL.h;omega,by show nl+1<=_;rw[VN.h];have:=HL.h;omega⟩,by subst hD;exact⟨rfl⟩,λf4 n4 hm g4 gS=>?_⟩;cbv;have mS:f3 0=[.int .u8 (.a (c.toNat:Int))]:=by rw[eN.h 0 _ rfl];subst hD;rfl
   have R4:Bl f4 n4 (s.line++[c]):=V.li.more (g:=f3) (u:=[c]) rfl (jG mS) (by subst hD;exact hm);have jE:g4=g+1:=by subst hD;exact gS.h
   clear hm eN gS;obtain⟨e0,es⟩:=fT pG (by rw[hc,Su cy h3,QA cg]);obtain⟨p3,l3,jU,pW,g3,pX,qG,pT,rfl,V3,N3⟩:=nS e0;have V2:Eu s' ph lf tl tf dl df n4 f4 3 (sz):=by rw[es];exact⟨V.gU.trans hp,V.iS,V.tr,V.da,R4,by rw[QB rfl];exact by rw[hc];exact (Sz s.line).1.symm,by rw[QB rfl];exact by rw[hc];show sz=_;rw[(Sz s.line).2];exact VS.h⟩
   have gC:jU=false:=by have:=N3.en;rw[QA (by omega),es]at this;rw[this];simp
   have gT:g3=g+1:=by have:=N3.eg;rw[QA (by omega),es,QA (by show ¬(0:Int)=4;decide)]at this;exact this
   subst hD;exact Jr V2 V3 (by exact e0.symm) ⟨rfl,rfl⟩ ⟨rfl,rfl⟩ ⟨rfl,rfl,rfl⟩ ⟨rfl,rfl,rfl,rfl,rfl⟩ ⟨by rw[gC];exact ZM _,rfl,rfl,rfl,rfl⟩ ⟨by exact jE.trans gT.symm,by exact jE.trans gT.symm⟩ ⟨rfl,rfl⟩ ⟨by exact rfl,rfl⟩
  have mL:¬(c=13/\Be s.line≠0):=by
   have hb:(((c.toNat:Int)==13)&&(fo != 0))=false:=by subst hD;exact hb
   rw[show ((c.toNat:Int)==13)=(c==13) from yF c 13,EF.h]at hb;rintro⟨h1,h2⟩;rw[h1]at hb;simp[h2]at hb
  clear hb;refine br hD (λhb=>?_) (λhb=>?_)<;>cbv
  .have hb:(fo==2)=true:=by subst hD;exact hb
   rw[EF.h,QS]at hb;have eS:=hb;clear hb;have fV:c≠13:=λh=>mL ⟨h,by rw[eS];decide⟩;refine br hD (λhb=>?_) (λhb=>?_)<;>cbv
   .have hb:(((c.toNat:Int) != 9)&&(decide ((c.toNat:Int)<32)||decide (126<(c.toNat:Int))))=true:=by subst hD;exact hb
    rw[OO]at hb;have em:e=6:=mJ 6 pG (by rw[Ji eS fV,QB hb]) (by decide);rw[kO (by rw[em];decide)];subst hD;exact Dy em.symm
   have hb:(((c.toNat:Int) != 9)&&(decide ((c.toNat:Int)<32)||decide (126<(c.toNat:Int))))=false:=by subst hD;exact hb
   rw[OO]at hb;have hk:¬(!okB c)=true:=by rw[hb];decide
   have aY:¬((Ba s.line).1=s.line.length/\0<=E9 c):=λh=>(Zg eS).2.2 h.1;clear hb;refine br hD (λhb=>?_) (λhb=>?_)<;>cbv
   .have hb:decide (200<=nl)=true:=by subst hD;exact hb
    have eX:200<=s.line.length:=by rw[QJ]at hb;have:=VN.h;omega
    have em:e=3:=mJ 3 pG (by rw[Ji eS fV,QA hk,QB eX]) (by decide);rw[kO (by rw[em];decide)];subst hD;exact Dy em.symm
   .have hb:decide (200<=nl)=false:=by subst hD;exact hb
    have eX:¬200<=s.line.length:=by rw[QL]at hb;have:=VN.h;omega
    intro f3 eN;cbv;refine⟨by subst hD;exact⟨rfl,by show (nl+1) * 1<=_;rw[VN.h];have:=HL.h;omega,by show nl+1<=_;rw[VN.h];have:=HL.h;omega⟩,by subst hD;exact⟨rfl⟩,λf4 n4 hm g4 gS=>?_⟩;cbv;have mS:f3 0=[.int .u8 (.a (c.toNat:Int))]:=by rw[eN.h 0 _ rfl];subst hD;rfl
    have R4:Bl f4 n4 (s.line++[c]):=V.li.more (g:=f3) (u:=[c]) rfl (jG mS) (by subst hD;exact hm);have jE:g4=g+1:=by subst hD;exact gS.h
    clear hm eN gS;obtain⟨e0,es⟩:=fT pG (by rw[Ji eS fV,QA hk,QA eX]);obtain⟨p3,l3,jU,pW,g3,pX,qG,pT,rfl,V3,N3⟩:=nS e0;have V2:Eu s' ph lf tl tf dl df n4 f4 fo (sz):=by rw[es];exact⟨V.gU.trans hp,V.iS,V.tr,V.da,R4,by rw[QB rfl];exact by rw[(Gy aY fV).1,EF.h,eS],by rw[QB rfl];exact by rw[(Gy aY fV).2];exact VS.h⟩
    have gC:jU=false:=by have:=N3.en;rw[QA (by omega),es]at this;rw[this];simp
    have gT:g3=g+1:=by have:=N3.eg;rw[QA (by omega),es,QA (by show ¬(0:Int)=4;decide)]at this;exact this
    subst hD;exact Jr V2 V3 (by exact e0.symm) ⟨rfl,rfl⟩ ⟨rfl,rfl⟩ ⟨rfl,rfl,rfl⟩ ⟨rfl,rfl,rfl,rfl,rfl⟩ ⟨by rw[gC];exact ZM _,rfl,rfl,rfl,rfl⟩ ⟨by exact jE.trans gT.symm,by exact jE.trans gT.symm⟩ ⟨rfl,rfl⟩ ⟨by exact rfl,rfl⟩
  have eS:Be s.line≠2:=by
   have hb:(fo==2)=false:=by subst hD;exact hb
   rw[EF.h]at hb;simpa using hb
  have uG:Be s.line=0\/Be s.line=1:=by
   rcases Ri s.line with h|h|h|h
   .exact .inl h
   .exact .inr h
   .exact absurd h eS
   .exact absurd h h3
  clear hb;have CD:E9 c<0:=by rw[hd];decide
  refine br hD (λhb=>?_) (λhb=>?_)<;>cbv
  .have hb:(((c.toNat:Int)==59)&&(fo==1))=true:=by subst hD;exact hb
   rw[show ((c.toNat:Int)==59)=(c==59) from yF c 59,EF.h,QE,QS,QS]at hb;obtain⟨hc,fO⟩:=hb;have aY:¬((Ba s.line).1=s.line.length/\0<=E9 c):=λh=>by omega
   have fV:c≠13:=by rw[hc];decide
   refine br hD (λhb=>?_) (λhb=>?_)<;>cbv
   .have hb:decide (200<=nl)=true:=by subst hD;exact hb
    have eX:200<=s.line.length:=by rw[QJ]at hb;have:=VN.h;omega
    have em:e=3:=mJ 3 pG (by rw[hc,Mg cy fO,QB eX]) (by decide);rw[kO (by rw[em];decide)];subst hD;exact Dy em.symm
   .have hb:decide (200<=nl)=false:=by subst hD;exact hb
    have eX:¬200<=s.line.length:=by rw[QL]at hb;have:=VN.h;omega
    intro f3 eN;cbv;refine⟨by subst hD;exact⟨rfl,by show (nl+1) * 1<=_;rw[VN.h];have:=HL.h;omega,by show nl+1<=_;rw[VN.h];have:=HL.h;omega⟩,by subst hD;exact⟨rfl⟩,λf4 n4 hm g4 gS=>?_⟩;cbv;have mS:f3 0=[.int .u8 (.a (c.toNat:Int))]:=by rw[eN.h 0 _ rfl];subst hD;rfl
    have R4:Bl f4 n4 (s.line++[c]):=V.li.more (g:=f3) (u:=[c]) rfl (jG mS) (by subst hD;exact hm);have jE:g4=g+1:=by subst hD;exact gS.h
    clear hm eN gS;obtain⟨e0,es⟩:=fT pG (by rw[hc,Mg cy fO,QA eX]);obtain⟨p3,l3,jU,pW,g3,pX,qG,pT,rfl,V3,N3⟩:=nS e0;have V2:Eu s' ph lf tl tf dl df n4 f4 2 (sz):=by rw[es];exact⟨V.gU.trans hp,V.iS,V.tr,V.da,R4,by rw[QB rfl];exact (Gy aY fV).1.symm,by rw[QB rfl];exact by rw[(Gy aY fV).2];exact VS.h⟩
    have gC:jU=false:=by have:=N3.en;rw[QA (by omega),es]at this;rw[this];simp
    have gT:g3=g+1:=by have:=N3.eg;rw[QA (by omega),es,QA (by show ¬(0:Int)=4;decide)]at this;exact this
    subst hD;exact Jr V2 V3 (by exact e0.symm) ⟨rfl,rfl⟩ ⟨rfl,rfl⟩ ⟨rfl,rfl,rfl⟩ ⟨rfl,rfl,rfl,rfl,rfl⟩ ⟨by rw[gC];exact ZM _,rfl,rfl,rfl,rfl⟩ ⟨by exact jE.trans gT.symm,by exact jE.trans gT.symm⟩ ⟨rfl,rfl⟩ ⟨by exact rfl,rfl⟩
  have xk:¬(c=59/\Be s.line=1):=by
   have hb:(((c.toNat:Int)==59)&&(fo==1))=false:=by subst hD;exact hb
   rw[show ((c.toNat:Int)==59)=(c==59) from yF c 59,EF.h]at hb;rintro⟨h1,h2⟩;rw[h1,h2]at hb;cases hb
  have TL:C8 s.line c=6:=by
   by_cases qF:c=13
   .have cg:Be s.line=0:=Decidable.byContradiction λh=>mL ⟨qF,h⟩
    rw[qF,Su cy h3,QB cg]
   .exact Abr uG CD qF xk
  have em:e=6:=mJ 6 pG (TL) (by decide);rw[kO (by rw[em];decide)];subst hD;exact Dy em.symm
 .have hb:(decide ((c.toNat:Int)<48)||(decide (57<(c.toNat:Int))&&decide ((c.toNat:Int)<65)))=false:=by subst hD;exact hb
  have hd:E9 c=r:=by
   rw[hr,<-lu,QA]
   .subst hD;rfl
   .rintro h
    simp only[XC,ZI,QL]at hb;omega
  clear hb lu hr;refine br hD (λhb=>?_) (λhb=>?_)<;>cbv
  .have hb:((fo==3)&&((c.toNat:Int)==10))=true:=by subst hD;exact hb
   have qF:c=10/\Cz s.line=true:=by
    rw[QE,QS]at hb;have CJ:=yF c 10;have h2:=hb.2;rw[show ((c.toNat:Int)==10)=(c==10) from CJ,QS]at h2;exact⟨h2,Mj.1 (by rw[<-EF.h];exact hb.1)⟩
   refine⟨s,D.i (.a ph),D.i (.a lf),l0,d0,D.b (.a tn),D.i (.a tl),tf,D.b (.a db),D.i (.a dl),gr,df,D.b (.a nn),D.i (.a nl),D.i (.a g),nf,D.i (.a fo),D.i (.a sz),rfl,rfl,by subst hD;exact V,hp,by subst hD;exact nQ,qF.2,hO,λe2 sX=>⟨λaY=>?_,λh0 lK dz uX du dw db2 sg sh px rS g2 py rv fy V2 N2=>?_⟩⟩<;>cbv
   .have ee:e=e2:=by rw[he,sX,qF.1]
    rw[kO (by rw[ee];exact aY)];subst hD;exact Dy ee.symm
   .have ee:e=e2:=by rw[he,sX,qF.1]
    obtain⟨p3,l3,jU,pW,g3,pX,qG,pT,rfl,V3,N3⟩:=nS (by rw[ee];exact h0);have es:s'=(cJ s 10).1:=by rw[cB,qF.1]
    rw[<-es]at V2 N2;subst hD;exact Jr V2 V3 (by exact ee.symm) ⟨rfl,rfl⟩ ⟨rfl,rfl⟩ ⟨by exact N2.et.trans N3.et.symm,rfl,rfl⟩ ⟨by exact N2.ed.trans N3.ed.symm,rfl,rfl,rfl,rfl⟩ ⟨by exact N2.en.trans N3.en.symm,rfl,rfl,rfl,rfl⟩ ⟨by exact N2.eg.trans N3.eg.symm,by exact N2.eg.trans N3.eg.symm⟩ ⟨rfl,rfl⟩ ⟨rfl,rfl⟩
  have hb:((fo==3)&&((c.toNat:Int)==10))=false:=by subst hD;exact hb
  have pG:¬(c=10/\Cz s.line=true):=by
   rintro⟨h1,h2⟩;rw[EF.h,Mj.2 h2,h1]at hb;cases hb
  clear hb;refine br hD (λhb=>?_) (λhb=>?_)<;>cbv
  .have hb:(fo==3)=true:=by subst hD;exact hb
   rw[EF.h,QS]at hb;have em:e=6:=mJ 6 pG (Abp hb) (by decide);rw[kO (by rw[em];decide)];subst hD;exact Dy em.symm
  have h3:Be s.line≠3:=by
   have hb:(fo==3)=false:=by subst hD;exact hb
   rw[EF.h]at hb;simpa using hb
  clear hb;refine br hD (λhb=>?_) (λhb=>?_)<;>cbv
  .have hb:(((c.toNat:Int)==13)&&(fo != 0))=true:=by subst hD;exact hb
   rw[show ((c.toNat:Int)==13)=(c==13) from yF c 13,EF.h,QE,QS,bne_iff_ne]at hb;obtain⟨hc,cg⟩:=hb;intro f3 eN;cbv;refine⟨by subst hD;exact⟨rfl,by show (nl+1) * 1<=_;rw[VN.h];have:=HL.h;omega,by show nl+1<=_;rw[VN.h];have:=HL.h;omega⟩,by subst hD;exact⟨rfl⟩,λf4 n4 hm g4 gS=>?_⟩;cbv;have mS:f3 0=[.int .u8 (.a (c.toNat:Int))]:=by rw[eN.h 0 _ rfl];subst hD;rfl
   have R4:Bl f4 n4 (s.line++[c]):=V.li.more (g:=f3) (u:=[c]) rfl (jG mS) (by subst hD;exact hm);have jE:g4=g+1:=by subst hD;exact gS.h
   clear hm eN gS;obtain⟨e0,es⟩:=fT pG (by rw[hc,Su cy h3,QA cg]);obtain⟨p3,l3,jU,pW,g3,pX,qG,pT,rfl,V3,N3⟩:=nS e0;have V2:Eu s' ph lf tl tf dl df n4 f4 3 (sz):=by rw[es];exact⟨V.gU.trans hp,V.iS,V.tr,V.da,R4,by rw[QB rfl];exact by rw[hc];exact (Sz s.line).1.symm,by rw[QB rfl];exact by rw[hc];show sz=_;rw[(Sz s.line).2];exact VS.h⟩
   have gC:jU=false:=by have:=N3.en;rw[QA (by omega),es]at this;rw[this];simp
   have gT:g3=g+1:=by have:=N3.eg;rw[QA (by omega),es,QA (by show ¬(0:Int)=4;decide)]at this;exact this
   subst hD;exact Jr V2 V3 (by exact e0.symm) ⟨rfl,rfl⟩ ⟨rfl,rfl⟩ ⟨rfl,rfl,rfl⟩ ⟨rfl,rfl,rfl,rfl,rfl⟩ ⟨by rw[gC];exact ZM _,rfl,rfl,rfl,rfl⟩ ⟨by exact jE.trans gT.symm,by exact jE.trans gT.symm⟩ ⟨rfl,rfl⟩ ⟨by exact rfl,rfl⟩
  have mL:¬(c=13/\Be s.line≠0):=by
   have hb:(((c.toNat:Int)==13)&&(fo != 0))=false:=by subst hD;exact hb
   rw[show ((c.toNat:Int)==13)=(c==13) from yF c 13,EF.h]at hb;rintro⟨h1,h2⟩;rw[h1]at hb;simp[h2]at hb
  clear hb;refine br hD (λhb=>?_) (λhb=>?_)<;>cbv
  .have hb:(fo==2)=true:=by subst hD;exact hb
   rw[EF.h,QS]at hb;have eS:=hb;clear hb;have fV:c≠13:=λh=>mL ⟨h,by rw[eS];decide⟩;refine br hD (λhb=>?_) (λhb=>?_)<;>cbv
   .have hb:(((c.toNat:Int) != 9)&&(decide ((c.toNat:Int)<32)||decide (126<(c.toNat:Int))))=true:=by subst hD;exact hb
    rw[OO]at hb;have em:e=6:=mJ 6 pG (by rw[Ji eS fV,QB hb]) (by decide);rw[kO (by rw[em];decide)];subst hD;exact Dy em.symm
   have hb:(((c.toNat:Int) != 9)&&(decide ((c.toNat:Int)<32)||decide (126<(c.toNat:Int))))=false:=by subst hD;exact hb
   rw[OO]at hb;have hk:¬(!okB c)=true:=by rw[hb];decide
   have aY:¬((Ba s.line).1=s.line.length/\0<=E9 c):=λh=>(Zg eS).2.2 h.1;clear hb;refine br hD (λhb=>?_) (λhb=>?_)<;>cbv
   .have hb:decide (200<=nl)=true:=by subst hD;exact hb
    have eX:200<=s.line.length:=by rw[QJ]at hb;have:=VN.h;omega
    have em:e=3:=mJ 3 pG (by rw[Ji eS fV,QA hk,QB eX]) (by decide);rw[kO (by rw[em];decide)];subst hD;exact Dy em.symm
   .have hb:decide (200<=nl)=false:=by subst hD;exact hb
    have eX:¬200<=s.line.length:=by rw[QL]at hb;have:=VN.h;omega
    intro f3 eN;cbv;refine⟨by subst hD;exact⟨rfl,by show (nl+1) * 1<=_;rw[VN.h];have:=HL.h;omega,by show nl+1<=_;rw[VN.h];have:=HL.h;omega⟩,by subst hD;exact⟨rfl⟩,λf4 n4 hm g4 gS=>?_⟩;cbv;have mS:f3 0=[.int .u8 (.a (c.toNat:Int))]:=by rw[eN.h 0 _ rfl];subst hD;rfl
    have R4:Bl f4 n4 (s.line++[c]):=V.li.more (g:=f3) (u:=[c]) rfl (jG mS) (by subst hD;exact hm);have jE:g4=g+1:=by subst hD;exact gS.h
    clear hm eN gS;obtain⟨e0,es⟩:=fT pG (by rw[Ji eS fV,QA hk,QA eX]);obtain⟨p3,l3,jU,pW,g3,pX,qG,pT,rfl,V3,N3⟩:=nS e0;have V2:Eu s' ph lf tl tf dl df n4 f4 fo (sz):=by rw[es];exact⟨V.gU.trans hp,V.iS,V.tr,V.da,R4,by rw[QB rfl];exact by rw[(Gy aY fV).1,EF.h,eS],by rw[QB rfl];exact by rw[(Gy aY fV).2];exact VS.h⟩
    have gC:jU=false:=by have:=N3.en;rw[QA (by omega),es]at this;rw[this];simp
    have gT:g3=g+1:=by have:=N3.eg;rw[QA (by omega),es,QA (by show ¬(0:Int)=4;decide)]at this;exact this
    subst hD;exact Jr V2 V3 (by exact e0.symm) ⟨rfl,rfl⟩ ⟨rfl,rfl⟩ ⟨rfl,rfl,rfl⟩ ⟨rfl,rfl,rfl,rfl,rfl⟩ ⟨by rw[gC];exact ZM _,rfl,rfl,rfl,rfl⟩ ⟨by exact jE.trans gT.symm,by exact jE.trans gT.symm⟩ ⟨rfl,rfl⟩ ⟨by exact rfl,rfl⟩
  have eS:Be s.line≠2:=by
   have hb:(fo==2)=false:=by subst hD;exact hb
   rw[EF.h]at hb;simpa using hb
  have uG:Be s.line=0\/Be s.line=1:=by
   rcases Ri s.line with h|h|h|h
   .exact .inl h
   .exact .inr h
   .exact absurd h eS
   .exact absurd h h3
  clear hb;refine br hD (λhb=>?_) (λhb=>?_)<;>cbv
  .have hb:(decide (0<=r)&&(nl==8))=true:=by subst hD;exact hb
   rw[QE,QJ,QS]at hb;have em:e=3:=mJ 3 pG (vv uG (by rw[hd];exact hb.1) (by have:=VN.h;omega)) (by decide);rw[kO (by rw[em];decide)];subst hD;exact Dy em.symm
  have h8:¬(0<=r/\nl=8):=by
   have hb:(decide (0<=r)&&(nl==8))=false:=by subst hD;exact hb
   rintro⟨h1,h2⟩;rw[h2]at hb;simp[h1]at hb
  clear hb;refine br hD (λhb=>?_) (λhb=>?_)<;>cbv
  .have hb:decide (0<=r)=true:=by subst hD;exact hb
   rw[QJ]at hb;have NK:0<=E9 c:=by rw[hd];exact hb
   have hn8:s.line.length≠8:=λh=>h8 ⟨hb,by have:=VN.h;omega⟩;have jM:=(O8 uG).2;have GD:IntKind.i64.wrap (IntKind.i64.wrap (16 * sz)+r)=16 * sz+r:=by
    have h1:=VS.h;have h2:=HV.h;have h3:=Ag8 c;have e1:IntKind.i64.wrap (16 * sz)=16 * sz:=wrap64 (by omega) (by omega);rw[e1];exact wrap64 (by omega) (by omega)
   have ESZ:oH (IntKind.i64.wrap (IntKind.i64.wrap (16 * sz)+r)) (16 * sz+r):=⟨GD⟩;clear hb GD;refine br hD (λhb=>?_) (λhb=>?_)<;>cbv
   .have hb:decide (200<=nl)=true:=by subst hD;exact hb
    have eX:200<=s.line.length:=by rw[QJ]at hb;have:=VN.h;omega
    have em:e=3:=mJ 3 pG (by rw[Abq uG NK hn8,QB eX]) (by decide);rw[kO (by rw[em];decide)];subst hD;exact Dy em.symm
   .have hb:decide (200<=nl)=false:=by subst hD;exact hb
    have eX:¬200<=s.line.length:=by rw[QL]at hb;have:=VN.h;omega
    intro f3 eN;cbv;refine⟨by subst hD;exact⟨rfl,by show (nl+1) * 1<=_;rw[VN.h];have:=HL.h;omega,by show nl+1<=_;rw[VN.h];have:=HL.h;omega⟩,by subst hD;exact⟨rfl⟩,λf4 n4 hm g4 gS=>?_⟩;cbv;have mS:f3 0=[.int .u8 (.a (c.toNat:Int))]:=by rw[eN.h 0 _ rfl];subst hD;rfl
    have R4:Bl f4 n4 (s.line++[c]):=V.li.more (g:=f3) (u:=[c]) rfl (jG mS) (by subst hD;exact hm);have jE:g4=g+1:=by subst hD;exact gS.h
    clear hm eN gS;obtain⟨e0,es⟩:=fT pG (by rw[Abq uG NK hn8,QA eX]);obtain⟨p3,l3,jU,pW,g3,pX,qG,pT,rfl,V3,N3⟩:=nS e0;have V2:Eu s' ph lf tl tf dl df n4 f4 1 (16 * sz+r):=by rw[es];exact⟨V.gU.trans hp,V.iS,V.tr,V.da,R4,by rw[QB rfl];exact (Acm jM NK).1.symm,by rw[QB rfl];exact by rw[(Acm jM NK).2];have:=VS.h;omega⟩
    have gC:jU=false:=by have:=N3.en;rw[QA (by omega),es]at this;rw[this];simp
    have gT:g3=g+1:=by have:=N3.eg;rw[QA (by omega),es,QA (by show ¬(0:Int)=4;decide)]at this;exact this
    subst hD;exact Jr V2 V3 (by exact e0.symm) ⟨rfl,rfl⟩ ⟨rfl,rfl⟩ ⟨rfl,rfl,rfl⟩ ⟨rfl,rfl,rfl,rfl,rfl⟩ ⟨by rw[gC];exact ZM _,rfl,rfl,rfl,rfl⟩ ⟨by exact jE.trans gT.symm,by exact jE.trans gT.symm⟩ ⟨rfl,rfl⟩ ⟨by exact ESZ.h,rfl⟩
  have CD:E9 c<0:=by
   have hb:decide (0<=r)=false:=by subst hD;exact hb
   rw[QL]at hb;rw[hd];omega
  clear hb;refine br hD (λhb=>?_) (λhb=>?_)<;>cbv
  .have hb:(((c.toNat:Int)==59)&&(fo==1))=true:=by subst hD;exact hb
   rw[show ((c.toNat:Int)==59)=(c==59) from yF c 59,EF.h,QE,QS,QS]at hb;obtain⟨hc,fO⟩:=hb;have aY:¬((Ba s.line).1=s.line.length/\0<=E9 c):=λh=>by omega
   have fV:c≠13:=by rw[hc];decide
   refine br hD (λhb=>?_) (λhb=>?_)<;>cbv
   .have hb:decide (200<=nl)=true:=by subst hD;exact hb
    have eX:200<=s.line.length:=by rw[QJ]at hb;have:=VN.h;omega
    have em:e=3:=mJ 3 pG (by rw[hc,Mg cy fO,QB eX]) (by decide);rw[kO (by rw[em];decide)];subst hD;exact Dy em.symm
   .have hb:decide (200<=nl)=false:=by subst hD;exact hb
    have eX:¬200<=s.line.length:=by rw[QL]at hb;have:=VN.h;omega
    intro f3 eN;cbv;refine⟨by subst hD;exact⟨rfl,by show (nl+1) * 1<=_;rw[VN.h];have:=HL.h;omega,by show nl+1<=_;rw[VN.h];have:=HL.h;omega⟩,by subst hD;exact⟨rfl⟩,λf4 n4 hm g4 gS=>?_⟩;cbv;have mS:f3 0=[.int .u8 (.a (c.toNat:Int))]:=by rw[eN.h 0 _ rfl];subst hD;rfl
    have R4:Bl f4 n4 (s.line++[c]):=V.li.more (g:=f3) (u:=[c]) rfl (jG mS) (by subst hD;exact hm);have jE:g4=g+1:=by subst hD;exact gS.h
    clear hm eN gS;obtain⟨e0,es⟩:=fT pG (by rw[hc,Mg cy fO,QA eX]);obtain⟨p3,l3,jU,pW,g3,pX,qG,pT,rfl,V3,N3⟩:=nS e0;have V2:Eu s' ph lf tl tf dl df n4 f4 2 (sz):=by rw[es];exact⟨V.gU.trans hp,V.iS,V.tr,V.da,R4,by rw[QB rfl];exact (Gy aY fV).1.symm,by rw[QB rfl];exact by rw[(Gy aY fV).2];exact VS.h⟩
    have gC:jU=false:=by have:=N3.en;rw[QA (by omega),es]at this;rw[this];simp
    have gT:g3=g+1:=by have:=N3.eg;rw[QA (by omega),es,QA (by show ¬(0:Int)=4;decide)]at this;exact this
    subst hD;exact Jr V2 V3 (by exact e0.symm) ⟨rfl,rfl⟩ ⟨rfl,rfl⟩ ⟨rfl,rfl,rfl⟩ ⟨rfl,rfl,rfl,rfl,rfl⟩ ⟨by rw[gC];exact ZM _,rfl,rfl,rfl,rfl⟩ ⟨by exact jE.trans gT.symm,by exact jE.trans gT.symm⟩ ⟨rfl,rfl⟩ ⟨by exact rfl,rfl⟩
  have xk:¬(c=59/\Be s.line=1):=by
   have hb:(((c.toNat:Int)==59)&&(fo==1))=false:=by subst hD;exact hb
   rw[show ((c.toNat:Int)==59)=(c==59) from yF c 59,EF.h]at hb;rintro⟨h1,h2⟩;rw[h1,h2]at hb;cases hb
  have TL:C8 s.line c=6:=by
   by_cases qF:c=13
   .have cg:Be s.line=0:=Decidable.byContradiction λh=>mL ⟨qF,h⟩
    rw[qF,Su cy h3,QB cg]
   .exact Abr uG CD qF xk
  have em:e=6:=mJ 6 pG (TL) (by decide);rw[kO (by rw[em];decide)];subst hD;exact Dy em.symm
end Go.Proofs.YtdoogdbjiijifaaGreatDoor
