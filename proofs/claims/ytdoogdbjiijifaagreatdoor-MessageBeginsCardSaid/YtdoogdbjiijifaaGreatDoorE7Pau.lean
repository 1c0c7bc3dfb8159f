/- A part of the proof: contracts of functions, or the executor and its soundness. No conditions. -/
import Derived.Test.YtdoogdbjiijifaaGreatDoorE7Pat
namespace Go.Cv
open Go Go.RowKit
theorem Lr(m j:Nat):bit m j=m.testBit j:=by
 show Nat.beq (Nat.land (Nat.shiftRight m j) 1) 1=m.testBit j;have e1:Nat.land (Nat.shiftRight m j) 1=(m >>> j) % 2:=by
  show (m >>> j) &&& 1=_;rw[Nat.and_one_is_mod]
 rw[e1];have e2:m.testBit j=decide ((m >>> j) % 2=1):=by
  rw[Nat.testBit_eq_decide_div_mod_eq,Nat.shiftRight_eq_div_pow]
 rw[e2];rcases Nat.mod_two_eq_zero_or_one (m >>> j) with h|h<;>rw[h]<;>rfl
theorem RN(a b j:Nat):bit (Nat.lor a b) j=(bit a j||bit b j):=by
 rw[Lr,Lr,Lr];exact Nat.testBit_or a b j
theorem Aa7(i j:Nat):bit (Nat.shiftLeft 1 i) j=decide (i=j):=by
 rw[Lr];show (1 <<< i).testBit j=_;rw[Nat.one_shiftLeft,Nat.testBit_two_pow]
theorem Lq(j:Nat):bit 0 j=false:=by rw[Lr];exact Nat.zero_testBit j
theorem lh(m i j:Nat):bit (Nat.lor m (Nat.shiftLeft 1 i)) j=aL (bit m) i j:=by
 rw[RN,Aa7];unfold aL
 by_cases h:i=j
 .subst h;simp
 .rw[QD (Ne.symm h)];simp[h]
theorem Td(d m:Nat):Nat.beq (Nat.land d m) d=true↔∀j,bit d j=true->bit m j=true:=by
 rw[beq_iff];constructor
 .intro h j hj
  rw[Lr]at hj ⊢;have:(Nat.land d m).testBit j=d.testBit j:=by rw[h]
  rw[show (Nat.land d m)=d &&& m from rfl,Nat.testBit_and,hj]at this;simpa using this
 .intro h
  apply Nat.eq_of_testBit_eq;intro j;rw[show (Nat.land d m)=d &&& m from rfl,Nat.testBit_and];have:=h j;rw[Lr,Lr]at this;cases hd:d.testBit j
  .rfl
  .rw[this hd];rfl
theorem Wh:∀(l:List Edge) (i:Nat),bit (Lm l) i=true↔∃e∈l,Region.binds .any e=true/\e.on=i
 | [],i=>by rw[show Lm []=0 from rfl,Lq];simp
 |e :: l,i=>by
  have ih:=Wh l i;have h:Lm (e :: l)=bif Region.binds .any e then Nat.lor (Nat.shiftLeft 1 e.on) (Lm l) else Lm l:=rfl
  rw[h];cases hb:Region.binds .any e
  .rw[show (bif false then Nat.lor (Nat.shiftLeft 1 e.on) (Lm l) else Lm l)=Lm l from rfl,ih]
   constructor
   .rintro⟨x,h1,h2⟩;exact⟨x,by simp[h1],h2⟩
   .rintro⟨x,h1,h2⟩
    rcases List.mem_cons.1 h1 with rfl|h1
    .rw[hb]at h2;cases h2.1
    .exact⟨x,h1,h2⟩
  .rw[show (bif true then Nat.lor (Nat.shiftLeft 1 e.on) (Lm l) else Lm l)=Nat.lor (Nat.shiftLeft 1 e.on) (Lm l) from rfl,RN,Aa7,ZB,QN,ih]
   constructor
   .rintro (rfl|⟨x,h1,h2⟩)
    .exact⟨e,by simp,hb,rfl⟩
    .exact⟨x,by simp[h1],h2⟩
   .rintro⟨x,h1,h2⟩
    rcases List.mem_cons.1 h1 with rfl|h1
    .exact .inl h2.2
    .exact .inr ⟨x,h1,h2⟩
theorem Zh(en:En):∀(l:List Oper) (t:Tr Nat) (j:Nat),(B5 en l t j).length=l.length/\∀(i:Nat) (o:Oper),l[i]?=some o->∃m,(B5 en l t j)[i]?=some ⟨j+i,o,Lm o.after.toList,m,Bq en o.op⟩
 | [],t,j=>⟨rfl,λi o h=>by cases h⟩
 |o :: l,t,j=>by
  have e:B5 en (o :: l) t j=⟨j,o,Lm o.after.toList,S6 t o.after.toList,Bq en o.op⟩ :: B5 en l (t.set j (S6 t o.after.toList)) (j+1):=by
   have e0:B5 en (o :: l) t j=Gg (S6 t o.after.toList) λm=>(⟨j,o,Lm o.after.toList,m,Bq en o.op⟩:An) :: B5 en l (t.set j m) (Nat.succ j):=rfl;rw[e0,Ej]
  obtain⟨h1,h2⟩:=Zh en l (t.set j (S6 t o.after.toList)) (j+1);rw[e];refine⟨by simp[h1],λi o' h=>?_⟩;cases i with
  |zero=>cases h;exact⟨_,rfl⟩
  |succ i =>
   obtain⟨m,hm⟩:=h2 i o' (by simpa using h);exact⟨m,by rw[ZJ,hm];congr 2;omega⟩
inductive Lx(en:En)(ops:Array Oper)(bL:List An):(Nat->Bool)->List PE->Prop
 |nil {de:Nat->Bool} (h:∀i,i<ops.size->de i=true):Lx en ops bL de []
 |fl {de:Nat->Bool} {e:PE} {l:List PE} (hr:kO ops de e.j) (ho:ops[e.j]?=some e.o) (hk:Bq en e.o.op≠0) (zQ:e.re=[]) (h:Lx en ops bL (aL de e.j) l):Lx en ops bL de (e :: l)
 |so {de:Nat->Bool} {e:PE} {l:List PE} {a:An} (hr:kO ops de e.j) (ho:ops[e.j]?=some e.o) (hk:Bq en e.o.op=0) (hu:∀i,kO ops de i->i=e.j) (ha:bL[e.j]?=some a)
   (zQ:∀b∈bL,de b.j=true->b.kd=1->bit a.tm b.j=false->b.o∈e.re) (h:Lx en ops bL (aL de e.j) l):Lx en ops bL de (e :: l)
theorem Uv{mask:Nat}:∀ {l:List An} {a:An},Rm mask l=some a->a∈l/\a.kd≠0/\(∀i,bit a.dm i=true->bit mask i=true)/\bit mask a.j=false
 | [],a,h=>by cases h
 |b :: l,a,h=>by
  have e:Rm mask (b :: l)=bif !Nat.beq b.kd 0&&Nat.beq (Nat.land b.dm mask) b.dm&&!bit mask b.j then some b else Rm mask l:=rfl
  rw[e]at h;cases hc:(!Nat.beq b.kd 0&&Nat.beq (Nat.land b.dm mask) b.dm&&!bit mask b.j)<;>rw[hc]at h
  .obtain⟨h1,h2⟩:=Uv (l:=l) h
   exact⟨by simp[h1],h2⟩
  .cases h
   simp only[QB,XK]at hc;exact⟨by simp,λe=>(by rw[e]at hc;cases hc.1.1),(Td _ _).1 hc.1.2,hc.2⟩
theorem Uw{mask:Nat}:∀ {l:List An},Rm mask l=none->∀a∈l,a.kd≠0->(∀i,bit a.dm i=true->bit mask i=true)->bit mask a.j=false->False
 | [],_,a,ha,_,_,_=>by cases ha
 |b :: l,h,a,ha,h1,h2,h3=>by
  have e:Rm mask (b :: l)=bif !Nat.beq b.kd 0&&Nat.beq (Nat.land b.dm mask) b.dm&&!bit mask b.j then some b else Rm mask l:=rfl
  rw[e]at h;cases hc:(!Nat.beq b.kd 0&&Nat.beq (Nat.land b.dm mask) b.dm&&!bit mask b.j)<;>rw[hc]at h
  .rcases List.mem_cons.1 ha with rfl|ha
   .have:(!Nat.beq a.kd 0&&Nat.beq (Nat.land a.dm mask) a.dm&&!bit mask a.j)=true:=by
     simp only[QB,XK];refine⟨⟨?_,(Td _ _).2 h2⟩,h3⟩;cases hb:Nat.beq a.kd 0
     .rfl
     .exact (h1 ((beq_iff _ _).1 hb)).elim
    rw[hc]at this;cases this
   .exact Uw (l:=l) h a ha h1 h2 h3
  .cases h
theorem Nf{mask:Nat}:∀ {l:List An} (a:An),a∈Fq mask l↔a∈l/\a.kd=0/\(∀i,bit a.dm i=true->bit mask i=true)/\bit mask a.j=false
 | [],a=>by simp[Fq]
 |b :: l,a=>by
  have e:Fq mask (b :: l)=bif Nat.beq b.kd 0&&Nat.beq (Nat.land b.dm mask) b.dm&&!bit mask b.j then b :: Fq mask l else Fq mask l:=rfl
  have ih:=Nf (mask:=mask) (l:=l) a;rw[e];have IF:(Nat.beq b.kd 0&&Nat.beq (Nat.land b.dm mask) b.dm&&!bit mask b.j)=true↔b.kd=0/\(∀i,bit b.dm i=true->bit mask i=true)/\bit mask b.j=false:=by
   simp only[QB,XK,beq_iff];rw[and_assoc];constructor
   .rintro⟨h1,h2,h3⟩;exact⟨h1,(Td _ _).1 ((beq_iff _ _).2 h2),h3⟩
   .rintro⟨h1,h2,h3⟩;exact⟨h1,(beq_iff _ _).1 ((Td _ _).2 h2),h3⟩
  cases hc:(Nat.beq b.kd 0&&Nat.beq (Nat.land b.dm mask) b.dm&&!bit mask b.j)
  .rw[show (bif false then b :: Fq mask l else Fq mask l)=Fq mask l from rfl,ih]
   constructor
   .rintro⟨h1,h2⟩;exact⟨by simp[h1],h2⟩
   .rintro⟨h1,h2⟩
    rcases List.mem_cons.1 h1 with rfl|h1
    .rw[IF.2 h2]at hc;cases hc
    .exact⟨h1,h2⟩
  .rw[show (bif true then b :: Fq mask l else Fq mask l)=b :: Fq mask l from rfl,ZO,ih]
   constructor
   .rintro (rfl|⟨h1,h2⟩)
    .exact⟨by simp,IF.1 hc⟩
    .exact⟨by simp[h1],h2⟩
   .rintro⟨h1,h2⟩
    rcases List.mem_cons.1 h1 with rfl|h1
    .exact .inl rfl
    .exact .inr ⟨h1,h2⟩
theorem Yq(dm:Nat):∀(l:List An) (b:An),b∈l->bit dm b.j=false->b.kd≠2->b.o∈later dm l
 | [],b,hb,_,_=>by cases hb
 |a :: l,b,hb,h1,h2=>by
  have e:later dm (a :: l)=bif bit dm a.j||Nat.beq a.kd 2 then later dm l else a.o :: later dm l:=rfl
  rw[e];rcases List.mem_cons.1 hb with rfl|hb
  .have:(bit dm b.j||Nat.beq b.kd 2)=false:=by
    rw[h1];cases hc:Nat.beq b.kd 2
    .rfl
    .exact (h2 ((beq_iff _ _).1 hc)).elim
   rw[this];exact QY
  .have:=Yq dm l b hb h1 h2
   cases (bit dm a.j||Nat.beq a.kd 2)
   .exact QX _ this
   .exact this
structure PA(en:En)(ops:Array Oper)(bL:List An):Prop where
 mem:∀a∈bL,ops[a.j]?=some a.o/\a.dm=Lm a.o.after.toList/\a.kd=Bq en a.o.op/\bL[a.j]?=some a
 get:∀i,i<ops.size->∃a∈bL,a.j=i
theorem Ww(en:En)(ops:Array Oper):PA en ops (B5 en ops.toList .e 0):=by
 obtain⟨h1,h2⟩:=Zh en ops.toList .e 0;constructor
 .intro a ha
  obtain⟨i,hi⟩:=List.mem_iff_getElem?.1 ha;have aA:i<ops.toList.length:=by rw[<-h1];exact (List.getElem?_eq_some_iff.1 hi).1
  obtain⟨m,hm⟩:=h2 i _ (QA aA);rw[hm]at hi;cases hi;rw[XD];refine⟨?_,rfl,rfl,by rw[hm,XD]⟩;rw[<-QG];exact QA aA
 .intro i hi
  have aA:i<ops.toList.length:=by simpa using hi
  obtain⟨m,hm⟩:=h2 i _ (QA aA);exact⟨_,QF hm,XD i⟩
theorem PA.SN{en:En}{ops:Array Oper}{bL:List An}(A:PA en ops bL){a:An}(ha:a∈bL)(mask:Nat):kO ops (bit mask) a.j↔(∀i,bit a.dm i=true->bit mask i=true)/\bit mask a.j=false:=by
 obtain⟨h1,h2,_,_⟩:=A.mem a ha;constructor
 .rintro⟨_,r2,r3⟩
  refine⟨λi hi=>?_,r2⟩;rw[h2,Wh]at hi;obtain⟨e,he,hb,rfl⟩:=hi;exact r3 _ h1 e (by simpa using he) hb
 .rintro⟨r1,r2⟩
  refine⟨(Array.getElem?_eq_some_iff.1 h1).1,r2,λo ho e he hb=>?_⟩;rw[h1]at ho;cases ho;exact r1 _ (by rw[h2,Wh];exact⟨e,by simpa using he,hb,rfl⟩)
theorem Uu{en:En}{ops:Array Oper}{bL:List An}(A:PA en ops bL):∀(n mask:Nat) (vY:List An) (l:List PE),(∀b∈bL,bit mask b.j=true->b.kd≠0->b∈vY)->Yb bL n mask vY=some l->Lx en ops bL (bit mask) l
 |0,mask,vY,l,hf,h=>by
  replace h:(bif Cg (λ(a:An)=>bit mask a.j) bL then some [] else none)=some l:=h
  cases hb:Cg (λ(a:An)=>bit mask a.j) bL<;>rw[hb]at h<;>cases h;refine .nil λi hi=>?_;obtain⟨a,ha,rfl⟩:=A.get i hi;exact (Cz _ _).1 hb a ha
 |n+1,mask,vY,l,hf,h=>by
  have ej:∀j,bit (Nat.lor mask (Nat.shiftLeft 1 j))=aL (bit mask) j:=λj=>funext λi=>lh mask j i;have e:Yb bL (n+1) mask vY=match Rm mask bL with
   |some a=>match Yb bL n (Nat.lor mask (Nat.shiftLeft 1 a.j)) (a :: vY) with
    |some l=>some (⟨a.j,a.o,[]⟩ :: l)
    |none=>none
   |none=>match Fq mask bL with
    | [a]=>match Yb bL n (Nat.lor mask (Nat.shiftLeft 1 a.j)) vY with
     |some l=>some (⟨a.j,a.o,later a.tm vY⟩ :: l)
     |none=>none
    |_=>none:=rfl
  rw[e]at h
  split at h
  .rename_i a hp
   obtain⟨p1,p2,p3,p4⟩:=Uv hp;obtain⟨a1,a2,a3,a4⟩:=A.mem a p1
   split at h
   .rename_i l' iA
    cases h;have ih:=Uu A n _ _ l' (λb hb kG hk=>by
     rw[ej]at kG;unfold aL at kG
     split at kG
     .rename_i hj
      obtain⟨_,_,_,b4⟩:=A.mem b hb;rw[hj,a4]at b4;cases b4;exact QY
     .exact QX _ (hf b hb kG hk)) iA
    rw[ej]at ih;exact .fl ((A.SN p1 mask).2 ⟨p3,p4⟩) a1 (by rw[<-a3];exact p2) rfl ih
   .cases h
  .rename_i hp
   split at h
   .rename_i a hr
    have dT:=(Nf (mask:=mask) (l:=bL) a).1 (by rw[hr];exact QY);obtain⟨p1,p2,p3,p4⟩:=dT;obtain⟨a1,a2,a3,a4⟩:=A.mem a p1
    split at h
    .rename_i l' iA
     cases h;have ih:=Uu A n _ _ l' (λb hb kG hk=>by
      rw[ej]at kG;unfold aL at kG
      split at kG
      .rename_i hj
       obtain⟨_,_,_,b4⟩:=A.mem b hb;rw[hj,a4]at b4;cases b4;exact (hk p2).elim
      .exact hf b hb kG hk) iA
     rw[ej]at ih;refine .so (a:=a) ((A.SN p1 mask).2 ⟨p3,p4⟩) a1 (by rw[<-a3];exact p2) (λi hi=>?_) a4 (λb hb kG hk ht=>?_) ih
     .obtain⟨b,hb,rfl⟩:=A.get i hi.1
      obtain⟨r1,r2⟩:=(A.SN hb mask).1 hi
      by_cases hk:b.kd=0
      .have:=(Nf (mask:=mask) (l:=bL) b).2 ⟨hb,hk,r1,r2⟩
       rw[hr,UH]at this;rw[this]
      .exact (Uw hp b hb hk r1 r2).elim
     .exact Yq _ _ b (hf b hb kG (by rw[hk];decide)) ht (by rw[hk];decide)
    .cases h
   .cases h
theorem ca{en:En}{ops:Array Oper}{l:List PE}(h:pB en ops.toList=some l):Lx en ops (B5 en ops.toList .e 0) (λ_=>false) l/\Cg (Gu ops.toList (B5 en ops.toList .e 0)) (B5 en ops.toList .e 0)=true/\ops.toList.length<=aH:=by
 replace h:(bif Nat.ble (len ops.toList) aH&&Cg (Gu ops.toList (B5 en ops.toList .e 0)) (B5 en ops.toList .e 0) then Yb (B5 en ops.toList .e 0) (len ops.toList) 0 [] else none)=some l:=h
 cases hb:(Nat.ble (len ops.toList) aH&&Cg (Gu ops.toList (B5 en ops.toList .e 0)) (B5 en ops.toList .e 0))<;>rw[hb]at h
 .cases h
 .rw[QB,As,B7]at hb
  have:=Uu (Ww en ops) _ 0 [] l (λb _ kG _=>by rw[Lq]at kG;cases kG) h;rw[show bit 0=λ_=>false from funext Lq]at this;exact⟨this,hb.2,hb.1⟩
def mb(ops:Array Oper)(i b:Nat):Prop:=∃o,ops[i]?=some o/\∃e∈o.after,Region.binds .any e=true/\e.on=b
inductive uQ(ops:Array Oper):Nat->Nat->Prop
 |one {i b:Nat} (h:mb ops i b):uQ ops i b
 |far {i c b:Nat} (h:mb ops i c) (hc:uQ ops c b):uQ ops i b
def Is(ops:Array Oper)(done:Nat->Bool):Prop:=∀i b,done i=true->mb ops i b->done b=true
theorem Is.zk{ops:Array Oper}{done:Nat->Bool}(h:Is ops done){i b:Nat}(hi:done i=true)(ha:uQ ops i b):done b=true:=by
 induction ha with
 |one hd=>exact h _ _ hi hd
 |far hd _ ih=>exact ih (h _ _ hi hd)
theorem kO.dep{ops:Array Oper}{done:Nat->Bool}{i b:Nat}(h:kO ops done i)(hd:mb ops i b):done b=true:=by
 obtain⟨o,ho,e,he,hb,rfl⟩:=hd;exact h.2.2 o ho e he hb
theorem kO.zk{ops:Array Oper}{done:Nat->Bool}(hc:Is ops done){i b:Nat}(h:kO ops done i)(ha:uQ ops i b):done b=true:=by
 cases ha with
 |one hd=>exact h.dep hd
 |far hd ha=>exact hc.zk (h.dep hd) ha
theorem Is.aL{ops:Array Oper}{done:Nat->Bool}(hc:Is ops done){i:Nat}(h:kO ops done i):Is ops (Cv.aL done i):=λj b hj hd=>by
 unfold Cv.aL at hj ⊢
 by_cases hb:b=i
 .rw[QE hb]
 .rw[QD hb]
  split at hj
  .rename_i he;subst he;exact h.dep hd
  .exact hc j b hj hd
theorem Sf(ops:Array Oper):Is ops (λ_=>false):=λ_ _ h=>by cases h
theorem kO.more{ops:Array Oper}{done nD:Nat->Bool}{i:Nat}(h:kO ops done i)(hs:∀j,done j=true->nD j=true)(hn:nD i=false):kO ops nD i :=
 ⟨h.1,hn,λo ho e he hb=>hs _ (h.2.2 o ho e he hb)⟩
theorem Ad1{ops:Array Oper}{t:Tr Nat}{i:Nat}{o:Oper}(ho:ops[i]?=some o)(ht:∀k m,t.get k=some m->∀b,bit m b=true->uQ ops k b):∀(l:List Edge),(∀e∈l,e∈o.after)->∀b,bit (S6 t l) b=true->uQ ops i b
 | [],_,b,h=>by rw[show S6 t []=0 from rfl,Lq]at h;cases h
 |e :: l,hl,b,h=>by
  have ih:=Ad1 ho ht l (λx hx=>hl x (by simp[hx]));have he:S6 t (e :: l)=bif Region.binds .any e then Nat.lor (Nat.lor (Nat.shiftLeft 1 e.on) (match t.get e.on with|some m=>m|none=>0)) (S6 t l) else S6 t l:=rfl
  rw[he]at h;cases hb:Region.binds .any e<;>rw[hb]at h
  .exact ih b h
  .have h:bit (Nat.lor (Nat.lor (Nat.shiftLeft 1 e.on) (match t.get e.on with|some m=>m|none=>0)) (S6 t l)) b=true:=h
   rw[RN,RN,Aa7,ZB,ZB,QN]at h;have hd:mb ops i e.on:=⟨o,ho,e,hl e (by simp),hb,rfl⟩;rcases h with (h|h)|h
   .exact h ▸ .one hd
   .split at h
    .rename_i m hm
     exact .far hd (ht _ m hm b h)
    .rw[Lq]at h;cases h
   .exact ih b h
theorem Wv(en:En){ops:Array Oper}:∀(l:List Oper) (t:Tr Nat) (j:Nat),j+l.length<=aH->(∀(i:Nat) (o:Oper),l[i]?=some o->ops[j+i]?=some o)->(∀k m,t.get k=some m->∀b,bit m b=true->uQ ops k b)->
  ∀a∈B5 en l t j,∀b,bit a.tm b=true->uQ ops a.j b
 | [],t,j,_,_,_,a,ha,_,_=>by cases ha
 |o :: l,t,j,hk,hl,ht,a,ha,b,hb=>by
  have e0:B5 en (o :: l) t j=Gg (S6 t o.after.toList) λm=>(⟨j,o,Lm o.after.toList,m,Bq en o.op⟩:An) :: B5 en l (t.set j m) (Nat.succ j):=rfl;rw[e0,Ej]at ha;simp only[QT]at hk;have IM:=Ad1 (hl 0 o rfl) ht o.after.toList (λe he=>by simpa using he);rcases List.mem_cons.1 ha with rfl|ha
  .exact IM b hb
  .refine Wv en l _ (j+1) (by omega) (λi o' h=>?_) (λk m h=>?_) a ha b hb
   .have:=hl (i+1) o' (by simpa using h)
    rw[show j+1+i=j+(i+1) by omega];exact this
   .rw[Tr.cH _ _ (by omega)]at h
    split at h
    .rename_i he
     cases h;rw[he];exact IM
    .exact ht k m h
def N4(en:En)(hp:Tr CO)(fr:Tr CV)(ops:List Oper)(o:Oper):Prop :=
 (want fr ops o=some false/\∀t,o.dst=some t->aX fr t=.u)\/(want fr ops o=some true/\∃v,oU en hp fr o=some v/\∀t,o.dst=some t->aX fr t=v)
theorem u7{v:CV}(h:isU v=true):v=.u:=by cases v<;>first|rfl|cases h
theorem Apy{en:En}{hp:Tr CO}{fr:Tr CV}{ops:List Oper}{o:Oper}(h:again en hp fr ops o=true):N4 en hp fr ops o:=by
 unfold again at h
 split at h
 .cases h
 .rename_i hw
  refine .inl ⟨hw,λt ht=>?_⟩;rw[ht]at h;exact u7 h
 .rename_i hw
  unfold Apz at h
  split at h
  .cases h
  .rename_i v hv
   refine .inr ⟨hw,v,hv,λt ht=>?_⟩;rw[ht]at h;exact (Of 6 _ _ h).symm
theorem C2{fr aO:Tr CV}{ops:List Oper}{o:Oper}(h:∀g wt t,o.guard=some (g,wt)->Dp ops g=some t->aX fr t=aX aO t):want fr ops o=want aO ops o:=by
 unfold want;cases hg:o.guard with
 |none=>rfl
 |some q =>
  obtain⟨g,wt⟩:=q;show (match Dp ops g with|none=>none|some t=>Fh wt (aX fr t))=(match Dp ops g with|none=>none|some t=>Fh wt (aX aO t));cases hd:Dp ops g with
  |none=>rfl
  |some t=>show Fh wt (aX fr t)=Fh wt (aX aO t);rw[h g wt t hg hd]
theorem N4.move{en:En}{hp dS:Tr CO}{fr aO:Tr CV}{ops:List Oper}{o:Oper}(h:N4 en hp fr ops o)(M:lB hp dS)(ha:Alike en fr aO o.op.operands.toList)(hg:∀g wt t,o.guard=some (g,wt)->Dp ops g=some t->aX fr t=aX aO t)(hd:∀t,o.dst=some t->aX fr t=aX aO t):N4 en dS aO ops o:=by
 rcases h with⟨h1,h2⟩|⟨h1,v,h2,h3⟩
 .exact .inl ⟨by rw[<-C2 hg];exact h1,λt ht=>by rw[<-hd t ht];exact h2 t ht⟩
 .exact .inr ⟨by rw[<-C2 hg];exact h1,v,by rw[<-Me ha];exact An6 M h2,λt ht=>by rw[<-hd t ht];exact h3 t ht⟩
theorem U6{t:Nat}:∀ {l:List Operand},t∈tmpsOf l↔Operand.tmp t∈l
 | []=>by simp[tmpsOf]
 |x :: l=>by
  have ih:=U6 (t:=t) (l:=l);have e:tmpsOf (x :: l)=match x with|.tmp t=>t :: tmpsOf l|_=>tmpsOf l:=by cases x<;>rfl
  rw[e];cases x<;>simp[ih]
theorem Ji{en:En}{fr aO:Tr CV}{ops:List Oper}{o:Oper}(h:∀t∈reads ops o,aX fr t=aX aO t):Alike en fr aO o.op.operands.toList/\∀g wt t,o.guard=some (g,wt)->Dp ops g=some t->aX fr t=aX aO t:=by
 constructor
 .intro x hx
  cases x with
  |tmp t =>
   have hm:t∈tmpsOf o.op.operands.toList:=U6.2 hx;have:t∈reads ops o:=by
    unfold reads
    split
    .exact hm
    .split
     .exact QX _ hm
     .exact hm
   exact h t this
  |_=>rfl
 .intro g wt t hg hd
  refine h t ?_;unfold reads;rw[hg];show t∈(match Dp ops g with|some t=>t :: tmpsOf o.op.operands.toList|none=>tmpsOf o.op.operands.toList);rw[hd];exact QY
theorem V6{ops:List Oper}{bL:List An}{x y:An}{t:Nat}(h:Cg (Gu ops bL) bL=true)(hx:x∈bL)(hy:y∈bL)(aV:y.j≠x.j)(hd:y.o.dst=some t):R8 x y t (reads ops x.o)=true:=by
 have h1:=(Cz _ _).1 h x hx;have h2:=(Cz _ _).1 h1 y hy;have e:(match y.o.dst with|none=>true|some t=>bif Nat.beq y.j x.j then (bif Nat.beq x.kd 0 then true else !Dx t (reads ops x.o)) else R8 x y t (reads ops x.o))=true:=h2;have hb:Nat.beq y.j x.j=false:=by
  cases hb:Nat.beq y.j x.j
  .rfl
  .exact (aV ((beq_iff _ _).1 hb)).elim
 rw[hd]at e;have e:(bif Nat.beq y.j x.j then (bif Nat.beq x.kd 0 then true else !Dx t (reads ops x.o)) else R8 x y t (reads ops x.o))=true:=e;rw[hb]at e;exact e
theorem Aob{ops:List Oper}{bL:List An}{x:An}{t:Nat}(h:Cg (Gu ops bL) bL=true)(hx:x∈bL)(hk:x.kd≠0)(hd:x.o.dst=some t):t ∉ reads ops x.o:=by
 have h1:=(Cz _ _).1 h x hx;have h2:=(Cz _ _).1 h1 x hx;have e:(match x.o.dst with|none=>true|some t=>bif Nat.beq x.j x.j then (bif Nat.beq x.kd 0 then true else !Dx t (reads ops x.o)) else R8 x x t (reads ops x.o))=true:=h2;rw[hd]at e;have e:(bif Nat.beq x.j x.j then (bif Nat.beq x.kd 0 then true else !Dx t (reads ops x.o)) else R8 x x t (reads ops x.o))=true:=e;have lW:Nat.beq x.kd 0=false:=by
  cases hb:Nat.beq x.kd 0
  .rfl
  .exact (hk ((beq_iff _ _).1 hb)).elim
 rw[(beq_iff x.j x.j).2 rfl,lW]at e;have e:(!Dx t (reads ops x.o))=true:=e;intro hm;rw[(Ca t _).2 hm]at e;cases e
theorem iy{ops:List Oper}{bL:List An}{x y:An}{t:Nat}(h:Cg (Gu ops bL) bL=true)(hx:x∈bL)(hy:y∈bL)(aV:y.j≠x.j)(hk:y.kd≠0)(hd:y.o.dst=some t):
  (t∈reads ops x.o->bit x.tm y.j=true)/\x.o.dst≠some t:=by
 have hf:=V6 h hx hy aV hd;have lW:Nat.beq y.kd 0=false:=by
  cases hb:Nat.beq y.kd 0
  .rfl
  .exact (hk ((beq_iff _ _).1 hb)).elim
 have e:((bif Dx t (reads ops x.o) then bit x.tm y.j else true)&&(match x.o.dst with|some t'=>!Nat.beq t t'|none=>true))=true:=by
  have:R8 x y t (reads ops x.o)=bif Nat.beq y.kd 0 then (bif Nat.beq x.kd 2&&Dx t (reads ops x.o) then bit x.tm y.j||bit y.tm x.j else true) else (bif Dx t (reads ops x.o) then bit x.tm y.j else true)&&(match x.o.dst with|some t'=>!Nat.beq t t'|none=>true):=rfl
  rw[this,lW]at hf;exact hf
 rw[QB]at e;refine⟨λhm=>?_,λhe=>?_⟩
 .have:=e.1
  rw[(Ca t _).2 hm]at this;exact this
 .have:=e.2
  rw[he]at this;have:(!Nat.beq t t)=true:=this;rw[(beq_iff t t).2 rfl]at this;cases this
theorem Aoa{ops:List Oper}{bL:List An}{x y:An}{t:Nat}(h:Cg (Gu ops bL) bL=true)(hx:x∈bL)(hy:y∈bL)(aV:y.j≠x.j)(hk:y.kd=0)(aR:x.kd=2)(hd:y.o.dst=some t)(hr:t∈reads ops x.o):
  bit x.tm y.j=true\/bit y.tm x.j=true:=by
 have hf:=V6 h hx hy aV hd;have:R8 x y t (reads ops x.o)=bif Nat.beq y.kd 0 then (bif Nat.beq x.kd 2&&Dx t (reads ops x.o) then bit x.tm y.j||bit y.tm x.j else true) else (bif Dx t (reads ops x.o) then bit x.tm y.j else true)&&(match x.o.dst with|some t'=>!Nat.beq t t'|none=>true):=rfl
 rw[this,(beq_iff _ _).2 hk,(beq_iff _ _).2 aR,(Ca t _).2 hr]at hf;have hf:(bit x.tm y.j||bit y.tm x.j)=true:=hf
 rwa [ZB]at hf
section
variable {S:Sg} {base:Nat} {w0 w:World} {U U':Nat->Option CO} {ι:Ip} {hp:Tr CO} {nx:Nat}
theorem Aha(hS:eH S)(h:HR S base w0 U ι hp nx w){t r sz b:Nat}{kd:TK}{zr:List CV}(hT:S.en.T t=some ⟨kd,sz+1,b,zr⟩)(hl:zr.length<=10000000)(hu:U r=some (.c t (oZ zr 0) (len zr) 0 0 false false))(hU:∀r' o',U' r'=some o'->r'≠r/\U r'=some o'):
  ∃u w' bI,Ex ι bI/\((do pure (.value (<-Instr.alloc t true (.tuple #[]))):Sem Next)).run S.P w=.ok (.value u) w'/\HR S base w0 U' bI hp nx w'/\VR bI (.p r 0 0) u:=by
 obtain⟨u1,u2,u3⟩:=h.zI r _ hu;have cY:=hS.T t _ hT;obtain⟨zv,jT,lF,sF,vc,_⟩:=cY.zero ι w;have hlen:zv.cells.toList.length=zr.length:=lF.1.symm;have hx:Ex ι (ι.add r 0 ⟨w.heap.size,0,zv.cells.size⟩):=Ip.gZ (u2 0);have WA:OR S (ι.add r 0 ⟨w.heap.size,0,zv.cells.size⟩) (w.alloc (.cells zv.cells t)) ⟨w.heap.size,0,zv.cells.size⟩ 0 (.c t (oZ zr 0) (len zr) 0 0 false false) :=
  Z5 (L:=⟨w.heap.size,0,zv.cells.size⟩) (arr:=zv.cells) (fz:=(0,0)) (World.alloc_heap_new w _) rfl (QK _) (by rw[B7,<-hlen];simp) (by rw[B7];exact QK _) (by unfold aH;omega) (lF.mono hx) sF (λi u hu=>by rw[QG]at hu;exact hu) rfl
 refine⟨.pointer (some ⟨w.heap.size,0,none⟩),_,_,hx,?_,h.born u2 u3 u1 WA hU,.p (Ip.bW _ _ _ _) (QK _)⟩;simp[Instr.alloc,jT,newVar,Go.newRow]
theorem All(h:HR S base w0 U ι hp nx w){e l n r:Nat}(hl9:l<=1000000000)(hu:U r=some (.c e (oZ (H2 n l 0) 0) l 0 0 false true))(hU:∀r' o',U' r'=some o'->r'≠r/\U r'=some o'):
  ∃u w' bI,Ex ι bI/\((do pure (.value (<-Conv.stringToBytes e (strOf l n))):Sem Next)).run S.P w=.ok (.value u) w'/\HR S base w0 U' bI hp nx w'/\VR bI (.sl r 0 0 l 1 0) u:=by
 obtain⟨cap,dH,CC⟩:∃cap,l<=cap/\(choose (.appendCap (strOf l n).size 0 e)).run S.P w=.ok cap w.drew:=by
  refine⟨_,?_,by rw[run_choose_drew];rfl⟩;show l<=(strOf l n).size+_;rw[A7];exact YM _ _
 have hb:=Q4 (ι:=ι) l n;have nP:(H2 n l 0).length=l:=by rw[hb.1];simp[Cj,Ek]
 let arr:Array Value:=(strOf l n).data.map (λb=>Value.int .u8 (b.toNat:Int))++Array.replicate (cap-(strOf l n).size) (.int .u8 0)
 have mV:(strOf l n).data.size=l:=A7 l n;have kH:arr.size=cap:=by
  show (_++_:Array Value).size=cap;rw[Array.size_append,VN,Array.size_replicate,A7,mV];omega
 have hd:HR S base w0 U ι hp nx w.drew:=h.drew;obtain⟨u1,u2,u3⟩:=hd.zI r _ hu;have aM:w.drew.heap.size=w.heap.size:=rfl;have bV:=hd.born (en:=cap) (ob:=.cells arr e (arr.size,arr.size+1)) (U':=U') u2 u3 u1 (o:=.c e (oZ (H2 n l 0) 0) l 0 0 false true)
  (Z5 (L:=⟨w.drew.heap.size,0,cap⟩) (World.alloc_heap_new _ _) rfl (by rw[kH];exact QK _) dH (by rw[nP];exact QK _) (by unfold aH;omega) (hb.mono (Ip.gZ (u2 0))) (λu hu=>by
    obtain⟨b,_,rfl⟩:=List.mem_map.1 hu;rfl) (λi u hu=>by
    show (_++_:Array Value)[i]?=some u;have aA:i<l:=by
     have:=(List.getElem?_eq_some_iff.1 hu).1;rw[XW,Cj,Ek]at this;exact this
    rw[YB (by rw[VN,mV];exact aA),Array.getElem?_map,<-QG,<-QP];exact hu) (.inr rfl)) hU
 refine⟨.slice (some ⟨w.heap.size,0,none⟩) l cap,_,_,Ip.gZ (u2 0),?_,bV,?_⟩
 .have pC:(w.drew.alloc (.cells arr e)).shape? w.heap.size=some (e,arr.size):=by
   have:=World.alloc_heap_new w.drew (.cells arr e);unfold World.shape?;rw[show (w.drew.alloc (.cells arr e)).heap[w.heap.size]?=some (.cells arr e) from this]
  have xY:(w.drew.alloc (.cells arr e)).freeze { block:=w.heap.size,off:=arr.size } 1=w.drew.alloc (.cells arr e (arr.size,arr.size+1)):=by
   have:(w.heap.push (.cells arr e)).modify w.heap.size (fun
     |.cells c elem (lo,hi)=>.cells c elem (if lo==hi then (arr.size,arr.size+1) else (min lo arr.size,max hi (arr.size+1)))
     |o=>o)=w.heap.push (.cells arr e (arr.size,arr.size+1)):=by
    apply XN;apply UZ;intro i;rw[QG,QG,XZ,UQ,UQ]
    by_cases hi:i=w.heap.size
    .simp[hi]
    .simp[hi,Ne.symm hi]
   unfold World.freeze World.alloc;rw[QD (by omega)];exact congrArg (λh=>(⟨h,w.drew.tape,w.drew.drawn,w.drew.os,w.drew.output⟩:World)) this
  have yQ:arr=((strOf l n).data.map (λb=>Value.int .u8 (b.toNat:Int))++Array.replicate (cap-(strOf l n).size) (.int .u8 0)):=rfl;simp only[Conv.stringToBytes,Sem.run_bind,CC,Result.andThen_ok,Go.newRow,run_newObj_alloc,Sem.run_pure,markStringish,run_shape];rw[<-yQ,show w.drew.heap.size=w.heap.size from rfl,pC];simp only[run_freeze,xY,Result.andThen_ok,A7]
 .exact .sl (Ip.bW _ _ _ _) (QK _) (by omega) (by show 0+cap * 1<=cap;omega) (λ_=>rfl) dH (λ_=>by show cap=(cap-0) / 1;simp) (λk e=>by cases e)
end
structure tA(S:Sg)(fr:Tr CV)(o:Oper)(r:Nat)(co:CO)(cv:CV):Prop where
 run:∀ {base:Nat} {w0 w:World} {U U':Nat->Option CO} {ι:Ip} {hp:Tr CO} {nx:Nat} {aO:Tr CV} {a:Act},HR S base w0 U ι hp nx w->GR S ι->FR ι aO a.tmps->Alike S.en fr aO o.op.operands.toList->U r=some co->(∀r' o',U' r'=some o'->r'≠r/\U r'=some o')->
  ∃u w' bI,Ex ι bI/\(execOp a.eval o).run S.P w=.ok (.value u) w'/\HR S base w0 U' bI hp nx w'/\VR bI cv u
section
variable {S:Sg} {fr aO:Tr CV} {o:Oper} {r:Nat} {co:CO} {cv:CV}
theorem tA.move(h:tA S fr o r co cv)(ha:Alike S.en fr aO o.op.operands.toList):tA S aO o r co cv :=
 ⟨λh1 h2 h3 h4 h5 h6=>h.run h1 h2 h3 (λx hx=>(ha x hx).trans (h4 x hx)) h5 h6⟩
theorem Agk(hS:eH S){t sz b:Nat}{kd:TK}{zr:List CV}(hT:S.en.T t=some ⟨kd,sz+1,b,zr⟩)(hl:zr.length<=10000000)(ho:o.op=.alloc t):tA S fr o r (.c t (oZ zr 0) (len zr) 0 0 false false) (.p r 0 0) :=
 ⟨λ{base w0 w U U' ι hp nx aO a} h1 h2 h3 h4 h5 h6=>by
  obtain⟨u,w',bI,x,e,q,v⟩:=Aha hS h1 hT hl h5 h6;have he:execOp a.eval o=(do pure (.value (<-Instr.alloc t true (.tuple #[])))):=by simp[execOp,ho]
  exact⟨u,w',bI,x,by rw[he];exact e,q,v⟩⟩
theorem Ako(hS:eH S){s d e l n:Nat}{x:Operand}{n1 b1 n2 b2:Nat}{z1 z2:List CV}(ho:o.op=.convert s d x)(hs:Hk S.en d=some e)(gw:S.en.T s=some ⟨.string,n1,b1,z1⟩)(jC:S.en.T e=some ⟨.int .u8,n2,b2,z2⟩)(hx:ev S.en fr x=.s l n)(hl:l<=1000000000):
  tA S fr o r (.c e (oZ (H2 n l 0) 0) l 0 0 false true) (.sl r 0 0 l 1 0) :=
 ⟨λ{base w0 w U U' ι hp nx aO a} h1 h2 h3 h4 h5 h6=>by
  obtain⟨u,w',bI,q1,q2,q3,q4⟩:=All h1 hl h5 h6;have hX:=Ay h2 h3 x;rw[<-h4 x (by simp[ho,Op.operands]),hx]at hX;obtain⟨hv,_⟩:=hX.fJ;have hd:=Hd hS hs;have cJ:=(hS.T s _ gw).string rfl;have hu:=(hS.T e _ jC).int rfl;have he:execOp a.eval o=(do pure (.value (<-convert s d (a.eval x)))):=by simp[execOp,ho]
  refine⟨u,w',bI,q1,?_,q3,q4⟩;rw[he,<-q2];simp[convert,Ad cJ,Ad hd,Ad hu,hv]⟩
end
inductive mg(S:Sg)(U:Nat->Option CO)(fr:Tr CV)(ops:List Oper)(o:Oper):Option Nat->Prop
 |no (hw:want fr ops o=some false) (hd:∀t,o.dst=some t->aX fr t=.u):mg S U fr ops o none
 |yes {r:Nat} {co:CO} {cv:CV} (hw:want fr ops o=some true) (hl:tA S fr o r co cv) (hu:U r=some co) (hd:∀t,o.dst=some t->aX fr t=cv):mg S U fr ops o (some r)
structure Dr(S:Sg)(ι:Ip)(U:Nat->Option CO)(own:Nat->Option Nat)(ops:Array Oper)(l:List PE)(is:List Nat)(fr:Tr CV)(tmps:Array Value)(dm de:Nat->Bool):Prop where
 sched:Jk ops dm is
 yy:Is ops dm
 j8:Is ops de
 sub:∀i,dm i=true->de i=true
 lt:∀i,de i=true->i<ops.size
 wY:∃(rk:Nat->Nat) (N:Nat),(∀i,de i=true->rk i<N)/\∀i b,de i=true->mb ops i b->rk b<rk i
 key:ops.toList.length<=aH
 pB:Lx S.en ops (B5 S.en ops.toList .e 0) de l
 nB:Cg (Gu ops.toList (B5 S.en ops.toList .e 0)) (B5 S.en ops.toList .e 0)=true
 fl:∀i o,de i=true->dm i=false->ops[i]?=some o->Bq S.en o.op=1\/(Bq S.en o.op=2/\mg S U fr ops.toList o (own i))
 one:∀i i' r,de i=true->dm i=false->de i'=true->dm i'=false->own i=some r->own i'=some r->i=i'
 qD:∀i r,de i=true->dm i=false->own i=some r->∃co,U r=some co
 slot:∀i o t,de i=true->dm i=false->ops[i]?=some o->o.dst=some t->t<tmps.size/\t<aH
 bB:∀t v,fr.get t=some v->(∃i o,de i=true/\dm i=false/\ops[i]?=some o/\o.dst=some t)\/VR ι v (tmps.getD t undef)
def rT(S:Sg):DD where
 d0:=λι U ops l is fr tmps=>∃dm de own e l' tY,l=e :: l'/\is=e.j :: tY/\Bq S.en e.o.op=0/\Dr S ι U own ops l is fr tmps dm de/\ops[e.j]?=some e.o
 d1:=λhp ι U ops l is fr tmps=>∃dm de own,Dr S ι U own ops l is fr tmps dm de/\∀i o,de i=true->dm i=false->ops[i]?=some o->Bq S.en o.op=1->N4 S.en hp fr ops.toList o
section
variable {S:Sg} {base:Nat} {w0 w:World} {bA cs:List Frame} {f0:Nat} {ι bI:Ip} {U:Nat->Option CO} {V:Nat->Nat->Option CO} {n:Nat} {hp:Tr CO} {nx fn:Nat} {fr:Tr CV} {t:TD} {ds:List Nat} {ro:Option Nat} {k:gJ} {f:Frame}
theorem Dr.mono{U:Nat->Option CO}{own:Nat->Option Nat}{ops:Array Oper}{l:List PE}{is:List Nat}{tmps:Array Value}{dm de:Nat->Bool}(x:Ex ι bI)(h:Dr S ι U own ops l is fr tmps dm de):Dr S bI U own ops l is fr tmps dm de :=
 ⟨h.sched,h.yy,h.j8,h.sub,h.lt,h.wY,h.key,h.pB,h.nB,h.fl,h.one,h.qD,h.slot,λt v e=>(h.bB t v e).imp id (·.mono x)⟩
theorem Aow{U:Nat->Option CO}{ops:Array Oper}{l:List PE}{is:List Nat}{tmps:Array Value}(x:Ex ι bI)(h:(rT S).d0 ι U ops l is fr tmps):(rT S).d0 bI U ops l is fr tmps:=by
 obtain⟨dm,de,own,e,l',tY,h1,h2,h3,h,h4⟩:=h;exact⟨dm,de,own,e,l',tY,h1,h2,h3,h.mono x,h4⟩
theorem jo(hS:eH S){id:Nat}{ops:Array Oper}{k':List Item}(hh:HR S base w0 U ι hp nx w)(hu:UV U V)(hg:GR S ι)(h:iI S ((rT S).d1 hp) ι (V n) fn fr (.code (.region id ops true) t) ds ro f)(hf:FR ι fr f.tmps)(hs:Eb S (rT S).d0 ι V bA f0 n fn k cs)(hm:f.mode=.run)(dF:f.todo=.code (.region id ops true) :: k')(ht:gI ι t k'):
  Bb S (rT S) base w0 bA f0 (lone f cs w) ((MU S.en ops).f fn fr t ds ro k hp nx):=by
 unfold MU;cases dS:pB S.en ops.toList with
 |none=>exact .bad
 |some l =>
  obtain⟨p1,p2,p3⟩:=ca dS;have cM:=stepR_region_draw (P:=S.P) (b:=f) (a:=Br f) (k:=k') (cs:=cs) (w:=w) (ops:=ops) (id:=id);rw[<-dF,Gl hm]at cM;refine .head cM (.stay ⟨ι,U,V,n,_,cs,_,rfl,hh.drew,hu,hg,⟨h.nA,h.size,h.kind,h.df,h.ro,.inr (.inr ⟨rfl,ops,l,t,_,k',rfl,rfl,ht,λ_=>false,λ_=>false,λ_=>none,?_,λi o a=>by cases a⟩)⟩,hs⟩);exact⟨Ue hS.mixed ops _,Sf ops,Sf ops,λi a=>(by cases a),λi a=>(by cases a),⟨λ_=>0,1,λi a=>(by cases a),λi b a=>(by cases a)⟩,p3,p1,p2,λi o a=>(by cases a),λi i' r a=>(by cases a),λi r a=>(by cases a),λi o t a=>(by cases a),λt v e=>.inr (hf t v e)⟩
end
section
variable {S:Sg} {ops:Array Oper}
theorem Zi{en:En}(hk:ops.toList.length<=aH){i:Nat}{o:Oper}(hi:ops[i]?=some o):∃a∈B5 en ops.toList .e 0,a.j=i/\a.o=o/\a.kd=Bq en o.op/\∀b,bit a.tm b=true->uQ ops i b:=by
 have A:=Ww en ops;obtain⟨a,ha,hj⟩:=A.get i (Array.getElem?_eq_some_iff.1 hi).1;obtain⟨h1,_,h3,_⟩:=A.mem a ha;rw[hj,hi]at h1;cases h1;refine⟨a,ha,hj,rfl,h3,λb hb=>?_⟩;have:=Wv en (ops:=ops) ops.toList .e 0 (by omega) (λi o h=>by rw[XD,<-QG];exact h) (λk m h=>by cases h) a ha b hb;rw[hj]at this;exact this
theorem Pi{en:En}(hk:ops.toList.length<=aH)(hf:Cg (Gu ops.toList (B5 en ops.toList .e 0)) (B5 en ops.toList .e 0)=true){i y:Nat}{oi oy:Oper}{t:Nat}(hi:ops[i]?=some oi)(hy:ops[y]?=some oy)(aV:y≠i)(BQ:Bq en oy.op≠0)(hd:oy.dst=some t):
  (t∈reads ops.toList oi->uQ ops i y)/\oi.dst≠some t:=by
 obtain⟨a,ha,rfl,rfl,_,a4⟩:=Zi (en:=en) hk hi;obtain⟨b,hb,rfl,rfl,b3,_⟩:=Zi (en:=en) hk hy;obtain⟨h1,h2⟩:=iy hf ha hb aV (by rw[b3];exact BQ) hd;exact⟨λhm=>a4 _ (h1 hm),h2⟩
theorem An8{en:En}(hk:ops.toList.length<=aH)(hf:Cg (Gu ops.toList (B5 en ops.toList .e 0)) (B5 en ops.toList .e 0)=true){i:Nat}{oi:Oper}{t:Nat}(hi:ops[i]?=some oi)(BS:Bq en oi.op≠0)(hd:oi.dst=some t):t ∉ reads ops.toList oi:=by
 obtain⟨a,ha,rfl,rfl,a3,a4⟩:=Zi (en:=en) hk hi;exact Aob hf ha (by rw[a3];exact BS) hd
theorem yb{en:En}(hk:ops.toList.length<=aH)(hf:Cg (Gu ops.toList (B5 en ops.toList .e 0)) (B5 en ops.toList .e 0)=true){i y:Nat}{oi oy:Oper}{t:Nat}(hi:ops[i]?=some oi)(hy:ops[y]?=some oy)(aV:y≠i)(BQ:Bq en oy.op=0)(BS:Bq en oi.op=2)(hd:oy.dst=some t)(hr:t∈reads ops.toList oi):uQ ops i y\/uQ ops y i:=by
 obtain⟨a,ha,rfl,rfl,a3,a4⟩:=Zi (en:=en) hk hi;obtain⟨b,hb,rfl,rfl,b3,b4⟩:=Zi (en:=en) hk hy;exact (Aoa hf ha hb aV (by rw[b3];exact BQ) (by rw[a3];exact BS) hd hr).imp (a4 _) (b4 _)
variable {ι:Ip} {U:Nat->Option CO} {own:Nat->Option Nat} {l:List PE} {is:List Nat} {fr aO:Tr CV} {tmps:Array Value} {dm de:Nat->Bool}
theorem Dr.kd(h:Dr S ι U own ops l is fr tmps dm de){i:Nat}{o:Oper}(h1:de i=true)(h2:dm i=false)(h3:ops[i]?=some o):Bq S.en o.op≠0:=by
 rcases h.fl i o h1 h2 h3 with e|⟨e,_⟩<;>rw[e]<;>decide
theorem Dr.zF(h:Dr S ι U own ops l [] fr tmps dm de):∀i,de i=true->dm i=true:=by
 obtain⟨rk,N,h1,h2⟩:=h.wY;have hn:∀i,¬kO ops dm i:=by cases h.sched;assumption
 have main:∀N i,rk i<N->de i=true->dm i=false->False:=by
  intro N
  induction N with
  |zero=>intro i hi;omega
  |succ N ih =>
   intro i hi fx pw;refine hn i ⟨h.lt i fx,pw,λo ho e he hb=>?_⟩;have hd:mb ops i e.on:=⟨o,ho,e,he,hb,rfl⟩;cases hq:dm e.on
   .exact (ih e.on (by have:=h2 i e.on fx hd;omega) (h.j8 i _ fx hd) hq).elim
   .rfl
 intro i hi;cases hq:dm i
 .exact (main N i (h1 i hi) hi hq).elim
 .rfl
theorem Dr.drop(h:Dr S ι U own ops l is fr tmps dm de):∃aO,FR ι aO tmps/\∀t,(∀i o,de i=true->dm i=false->ops[i]?=some o->o.dst≠some t)->aX fr t=aX aO t:=by
 let ts:List Nat:=(List.range ops.size).filterMap λi=>if de i=true/\dm i=false then (ops[i]?).bind (·.dst) else none
 have vq:∀t,t∈ts↔∃i o,de i=true/\dm i=false/\ops[i]?=some o/\o.dst=some t:=λt=>by
  show t∈List.filterMap _ _↔_;rw[List.mem_filterMap];constructor
  .rintro⟨i,_,hi⟩
   split at hi
   .rename_i hc
    cases ho:ops[i]? with
    |none=>rw[ho]at hi;cases hi
    |some o=>rw[ho]at hi;exact⟨i,o,hc.1,hc.2,ho,hi⟩
   .cases hi
  .rintro⟨i,o,h1,h2,h3,h4⟩
   exact⟨i,List.mem_range.2 (h.lt i h1),by rw[QE ⟨h1,h2⟩,h3];exact h4⟩
 obtain⟨aO,iM⟩:=Tr.yY ts fr (λt ht=>by
  obtain⟨i,o,h1,h2,h3,h4⟩:=(vq t).1 ht;exact (h.slot i o t h1 h2 h3 h4).2)
 refine⟨aO,λt v e=>?_,λt ht=>?_⟩
 .by_cases hm:t∈ts
  .rw[(iM t).1 hm]at e;cases e
  .rw[(iM t).2 hm]at e
   rcases h.bB t v e with hq|hq
   .exact (hm ((vq t).2 hq)).elim
   .exact hq
 .unfold aX
  rw[(iM t).2 λhm=>by
   obtain⟨i,o,h1,h2,h3,h4⟩:=(vq t).1 hm;exact ht i o h1 h2 h3 h4]
theorem Dr.wX(h:Dr S ι U own ops l is fr tmps dm de){i:Nat}{oi:Oper}(hi:ops[i]?=some oi)(hr:kO ops dm i):∀t∈reads ops.toList oi,∀y oy,de y=true->dm y=false->ops[y]?=some oy->oy.dst≠some t:=by
 intro t ht y oy h1 h2 h3 h4;have BQ:=h.kd h1 h2 h3
 by_cases hy:y=i
 .subst hy
  rw[hi]at h3;cases h3;exact An8 h.key h.nB hi BQ h4 ht
 .have:=(Pi h.key h.nB hi h3 hy BQ h4).1 ht
  rw[hr.zk h.yy this]at h2;cases h2
theorem Dr.alike(h:Dr S ι U own ops l is fr tmps dm de){i:Nat}{oi:Oper}(hi:ops[i]?=some oi)(hr:kO ops dm i)(cI:∀t,(∀i o,de i=true->dm i=false->ops[i]?=some o->o.dst≠some t)->aX fr t=aX aO t):
  Alike S.en fr aO oi.op.operands.toList/\∀g wt t,oi.guard=some (g,wt)->Dp ops.toList g=some t->aX fr t=aX aO t :=
 Ji λt ht=>cI t (h.wX hi hr t ht)
end
structure rV(S:Sg)(hp:Tr CO)(ι:Ip)(Un:Nat->Option CO)(fn:Nat)(fr:Tr CV)(ops:Array Oper)(l:List PE)(t:TD)(ds:List Nat)(ro:Option Nat)(f:Frame)(is:List Nat)(k':List Item)(dm de:Nat->Bool)(own:Nat->Option Nat):Prop where
 nA:f.fn=fn
 size:f.tmps.size=S.nt fn
 kind:f.kind=.normal
 df:CX ι ds f.defers
 ro:LS ι ro f.roundOf
 mode:f.mode=.run
 todo:f.todo=.inRegion ops is :: k'
 ES:gI ι t k'
 dr:Dr S ι Un own ops l is fr f.tmps dm de
 again:∀i o,de i=true->dm i=false->ops[i]?=some o->Bq S.en o.op=1->N4 S.en hp fr ops.toList o
def Nh(d:Option Nat)(u:Value)(tm:Array Value):Array Value:=match d with
 |none=>tm
 |some d=>tm.setIfInBounds d u
theorem L7(d:Option Nat)(u:Value)(tm:Array Value):(Nh d u tm).size=tm.size:=by cases d<;>simp[Nh]
theorem Ah7{d:Option Nat}{u:Value}{tm:Array Value}{t:Nat}(h:d≠some t):(Nh d u tm).getD t undef=tm.getD t undef:=by
 cases d with
 |none=>rfl
 |some d =>
  show (tm.setIfInBounds d u).getD t undef=_;rw[QM,XX (λe=>h (by rw[e])),<-QM]
theorem Ah8{u:Value}{tm:Array Value}{t:Nat}(h:t<tm.size):(Nh (some t) u tm).getD t undef=u:=by
 simp[Nh,h]
theorem Mf{f:Frame}{ops:Array Oper}{i:Nat}{is:List Nat}{k':List Item}{o:Oper}{u:Value}(dF:f.todo=.inRegion ops (i :: is) :: k')(ho:ops[i]?=some o):f.finish u={ f with tmps:=Nh o.dst u f.tmps,todo:=.inRegion ops is :: k' }:=by
 cases hd:o.dst with
 |none=>simp[Frame.finish,dF,ho,hd,Nh]
 |some d=>simp[Frame.finish,dF,ho,hd,Nh]
theorem Tw{ι:Ip}{fr:Tr CV}{tmps:Array Value}{ops:Array Oper}{o:Oper}{b:Bool}(hf:FR ι fr tmps)(h:want fr ops.toList o=some b):Region.wanted o (yielded ops tmps)=b:=by
 unfold want at h;cases vD:o.guard with
 |none=>rw[vD]at h;cases h;simp[Region.wanted,vD]
 |some q =>
  obtain⟨g,wt⟩:=q;rw[vD]at h
  replace h:(match Dp ops.toList g with|none=>none|some t=>Fh wt (aX fr t))=some b:=h
  cases pq:Dp ops.toList g with
  |none=>rw[pq]at h;cases h
  |some t =>
   rw[pq]at h
   replace h:Fh wt (aX fr t)=some b:=h
   have hv:=hf.aX t
   generalize hq:aX fr t=q at hv h
   cases q with
   |b s =>
    have hy:=Ahk pq hv.jD;cases h;simp only[Region.wanted,vD,hy];cases wt<;>cases s<;>rfl
   |u =>
    have hy:=Ahj pq hv.mu;cases h;simp[Region.wanted,vD,hy]
   |_=>cases h
section
variable {S:Sg} {base:Nat} {w0 w:World} {bA cs:List Frame} {f0:Nat} {ι bI:Ip} {U Un Un':Nat->Option CO} {V:Nat->Nat->Option CO} {n:Nat} {hp:Tr CO} {nx fn:Nat} {fr aO:Tr CV} {t:TD} {ds:List Nat} {ro:Option Nat} {k:gJ} {f:Frame} {ops:Array Oper} {l:List PE} {i:Nat} {is:List Nat} {k':List Item} {dm de:Nat->Bool} {own:Nat->Option Nat}
theorem rV.JY(h:rV S hp ι Un fn fr ops l t ds ro f is k' dm de own):iI S ((rT S).d1 hp) ι Un fn fr (.rd ops l t) ds ro f :=
 ⟨h.nA,h.size,h.kind,h.df,h.ro,.inr (.inr ⟨h.mode,ops,l,t,is,k',rfl,h.todo,h.ES,dm,de,own,h.dr,h.again⟩)⟩
theorem Hg{g:Nat->Bool}{i j:Nat}(h:j≠i):aL g i j=g j:=by unfold aL;rw[QD h]
theorem Ty{g:Nat->Bool}{i:Nat}:aL g i i=true:=by unfold aL;rw[QE rfl]
theorem Er{g:Nat->Bool}{i j:Nat}(h:aL g i j=false):j≠i/\g j=false:=by
 by_cases he:j=i
 .subst he;rw[Ty]at h;cases h
 .rw[Hg he]at h;exact⟨he,h⟩
theorem rV.adv(h:rV S hp ι Un fn fr ops l t ds ro f (i :: is) k' dm de own){o:Oper}{u:Value}(ho:ops[i]?=some o)(hi:de i=true)(hr:kO ops dm i)(hs:Jk ops (aL dm i) is)(x:Ex ι bI)
  (HG:∀j o',j≠i->de j=true->dm j=false->ops[j]?=some o'->mg S Un fr ops.toList o' (own j)->mg S Un' fr ops.toList o' (own j)) (bU:∀j r,j≠i->de j=true->dm j=false->own j=some r->∃co,Un' r=some co)
  (hv:∀t,o.dst=some t->VR bI (aX fr t) u):rV S hp bI Un' fn fr ops l t ds ro { f with tmps:=Nh o.dst u f.tmps,todo:=.inRegion ops is :: k' } is k' (aL dm i) de own:=by
 refine⟨h.nA,by rw[<-h.size];exact L7 _ _ _,h.kind,h.df.mono x,h.ro.mono x,h.mode,rfl,h.ES.mono x,?_,λj o' a b=>h.again j o' a (Er b).2⟩;have d:=h.dr;refine⟨hs,d.yy.aL hr,d.j8,λj hj=>?_,d.lt,d.wY,d.key,d.pB,d.nB,λj o' a b c=>?_,λj j' r a b a' b'=>d.one j j' r a (Er b).2 a' (Er b').2,λj r a b c=>bU j r (Er b).1 a (Er b).2 c,λj o' t a b c e=>?_,λt v e=>?_⟩
 .by_cases he:j=i
  .rw[he];exact hi
  .rw[Hg he]at hj;exact d.sub j hj
 .obtain⟨b1,b2⟩:=Er b
  rcases d.fl j o' a b2 c with q|⟨q1,q2⟩
  .exact .inl q
  .exact .inr ⟨q1,HG j o' b1 a b2 c q2⟩
 .have:=d.slot j o' t a (Er b).2 c e
  exact⟨by show t<(Nh _ _ _).size;rw[L7];exact this.1,this.2⟩
 .by_cases hd:o.dst=some t
  .right
   have aA:=(d.slot i o t hi hr.2.1 ho hd).1;have:=hv t hd;have hg:aX fr t=v:=by unfold aX;rw[e]
   rw[hg]at this;show VR bI v ((Nh o.dst u f.tmps).getD t undef);rw[hd,Ah8 aA];exact this
  .rcases d.bB t v e with⟨j,o',a,b,c,c2⟩|q
   .left
    have aV:j≠i:=λe=>by
     subst e;rw[ho]at c;cases c;exact hd c2
    exact⟨j,o',a,by rw[Hg aV];exact b,c,c2⟩
   .right
    show VR bI v ((Nh o.dst u f.tmps).getD t undef);rw[Ah7 hd];exact q.mono x
def jx(U:Nat->Option CO)(r:Nat):Nat->Option CO:=λr'=>if r'=r then none else U r'
def ml(V:Nat->Nat->Option CO)(n r:Nat):Nat->Nat->Option CO:=λd r'=>if d=n/\r'=r then none else V d r'
theorem UV.cut{r:Nat}{co:CO}(hu:UV U V)(h:V n r=some co):UV (jx U r) (ml V n r):=by
 have hle:∀d r' o',ml V n r d r'=some o'->V d r'=some o':=λd r' o' e=>by
  unfold ml at e
  split at e
  .cases e
  .exact e
 refine⟨λr' o'=>?_,λd d' r' o1 o2 e1 e2=>hu.2 d d' r' o1 o2 (hle _ _ _ e1) (hle _ _ _ e2)⟩;unfold jx
 split
 .rename_i he
  refine⟨λe=>(by cases e),λ⟨d,hd⟩=>?_⟩;have hn:d=n:=hu.2 d n r' _ _ (hle _ _ _ hd) (by rw[he];exact h);unfold ml at hd;rw[QE ⟨hn,he⟩]at hd;cases hd
 .rename_i he
  rw[hu.1];constructor
  .rintro⟨d,hd⟩
   refine⟨d,?_⟩;unfold ml;rw[QD λe=>he e.2];exact hd
  .rintro⟨d,hd⟩
   exact⟨d,hle _ _ _ hd⟩
def FF(U:Nat->Option CO)(r:Nat)(co:CO):Nat->Option CO:=λr'=>if r'=r then some co else U r'
def Sn(V:Nat->Nat->Option CO)(n r:Nat)(co:CO):Nat->Nat->Option CO:=λd r'=>if d=n/\r'=r then some co else V d r'
theorem UV.put{r:Nat}{co:CO}(hu:UV U V)(h:∀d,V d r=none):UV (FF U r co) (Sn V n r co):=by
 have hle:∀d r' o',Sn V n r co d r'=some o'->(d=n/\r'=r/\o'=co)\/(r'≠r/\V d r'=some o'):=λd r' o' e=>by
  unfold Sn at e
  split at e
  .rename_i he;cases e;exact .inl ⟨he.1,he.2,rfl⟩
  .refine .inr ⟨λhe=>?_,e⟩
   rw[he,h d]at e;cases e
 refine⟨λr' o'=>?_,λd d' r' o1 o2 e1 e2=>?_⟩
 .unfold FF
  split
  .rename_i he
   constructor
   .intro e
    refine⟨n,?_⟩;unfold Sn;rw[QE ⟨rfl,he⟩];exact e
   .rintro⟨d,hd⟩
    rcases hle _ _ _ hd with⟨_,_,q⟩|⟨q,_⟩
    .rw[q]
    .exact (q he).elim
  .rename_i he
   rw[hu.1];constructor
   .rintro⟨d,hd⟩
    refine⟨d,?_⟩;unfold Sn;rw[QD λe=>he e.2];exact hd
   .rintro⟨d,hd⟩
    refine⟨d,?_⟩;rcases hle _ _ _ hd with⟨_,q,_⟩|⟨_,q⟩
    .exact (he q).elim
    .exact q
 .rcases hle _ _ _ e1 with⟨a,b,_⟩|⟨a,b⟩<;>rcases hle _ _ _ e2 with⟨a',b',_⟩|⟨a',b'⟩
  .rw[a,a']
  .exact (a' b).elim
  .exact (a b').elim
  .exact hu.2 d d' r' o1 o2 b b'
theorem yz(hS:eH S)(hh:HR S base w0 U ι hp nx w)(hu:UV U V)(hg:GR S ι)(h:rV S hp ι (V n) fn fr ops l t ds ro f (i :: is) k' dm de own)(hi:de i=true):
  ∃f' w' bI U' V',Go.step S.P (lone f cs w)=.next (lone f' cs w')/\Ex ι bI/\HR S base w0 U' bI hp nx w'/\UV U' V'/\(∀d,d<n->V' d=V d)/\rV S hp bI (V' n) fn fr ops l t ds ro f' is k' (aL dm i) de own:=by
 obtain⟨hr,hs⟩:kO ops dm i/\Jk ops (aL dm i) is:=by
  have:=h.dr.sched;cases this with|cons a b=>exact⟨a,b⟩
 obtain⟨o,ho⟩:∃o,ops[i]?=some o:=⟨_,XP hr.1⟩;have pw:=hr.2.1;obtain⟨aO,hf,cI⟩:=h.dr.drop;obtain⟨jB,kW⟩:=h.dr.alike ho hr cI;have fv:∀c,o.op≠.defer c:=λc e=>h.dr.kd hi pw ho (by rw[e];rfl);have qN:want fr ops.toList o=some false->(∀t,o.dst=some t->aX fr t=.u)->∃f' w' bI U' V',Go.step S.P (lone f cs w)=.next (lone f' cs w')/\Ex ι bI/\HR S base w0 U' bI hp nx w'/\UV U' V'/\(∀d,d<n->V' d=V d)/\rV S hp bI (V' n) fn fr ops l t ds ro f' is k' (aL dm i) de own:=λhw hd=>by
  rw[C2 kW]at hw;have cM:=step_skip (cs:=cs) (w:=w) (P:=S.P) h.mode h.todo ho (Tw hf hw);rw[Mf h.todo ho]at cM;exact⟨_,w,ι,U,V,cM,Ex.refl,hh,hu,λ_ _=>rfl,h.adv ho hi hr hs Ex.refl (λ_ _ _ _ _ _ q=>q) (λj r _ a b c=>h.dr.qD j r a b c) λt ht=>by rw[hd t ht];exact .u⟩
 rcases h.dr.fl i o hi pw ho with hk|⟨hk,rK⟩
 .rcases h.again i o hi pw ho hk with⟨hw,hd⟩|⟨hw,v,hv,hd⟩
  .exact qN hw hd
  .rw[C2 kW]at hw
   rw[Me jB]at hv;obtain⟨u,r1,r2⟩:=An5 (a:=Br f) hS hh.rd hg hf hv;have cM:=Ks (cs:=cs) (w:=w) (w':=w) (P:=S.P) h.mode h.todo ho fv (Tw hf hw) (.inl r1);rw[Mf h.todo ho]at cM;exact⟨_,w,ι,U,V,cM,Ex.refl,hh,hu,λ_ _=>rfl,h.adv ho hi hr hs Ex.refl (λ_ _ _ _ _ _ q=>q) (λj r _ a b c=>h.dr.qD j r a b c) λt ht=>by rw[hd t ht];exact r2⟩
 .generalize hq:own i=q at rK
  cases rK with
  |no hw hd=>exact qN hw hd
  | @yes r co cv hw hl o5 hd =>
   rw[C2 kW]at hw;have hUr:U r=some co:=(hu.1 r co).2 ⟨n,o5⟩;obtain⟨u,w',bI,x,r1,r2,r3⟩:=hl.run (U':=jx U r) (a:=Br f) hh hg hf jB hUr (λr' o' e=>by
    unfold jx at e
    split at e
    .cases e
    .rename_i he;exact⟨he,e⟩)
   have cM:=Ks (cs:=cs) (w:=w) (w':=w') (P:=S.P) h.mode h.todo ho fv (Tw hf hw) (.inl r1);rw[Mf h.todo ho]at cM;have IZ:∀r',r'≠r->ml V n r n r'=V n r':=λr' he=>by unfold ml;rw[QD λe=>he e.2]
   refine⟨_,w',bI,_,ml V n r,cM,x,r2,hu.cut o5,λd hd=>funext λr'=>by unfold ml;rw[QD λe=>by omega],?_⟩;refine h.adv ho hi hr hs x (λj o' hj a b c q=>?_) (λj r' hj a b c=>?_) λt ht=>by rw[hd t ht];exact r3
   .generalize OE:own j=oj at q
    cases q with
    |no hw hd=>exact .no hw hd
    | @yes r' co' cv' iV iA ek OM =>
     have aV:r'≠r:=λe=>hj (h.dr.one j i r a b hi pw (by rw[OE,e]) hq);exact .yes iV iA (by rw[IZ r' aV];exact ek) OM
   .have aV:r'≠r:=λe=>hj (h.dr.one j i r a b hi pw (by rw[c,e]) hq)
    obtain⟨co',e⟩:=h.dr.qD j r' a b c;exact⟨co',by rw[IZ r' aV];exact e⟩
theorem Aa1(hS:eH S):∀(is:List Nat) (f:Frame) (w:World) (ι:Ip) (U:Nat->Option CO) (V:Nat->Nat->Option CO) (dm:Nat->Bool),HR S base w0 U ι hp nx w->UV U V->GR S ι->rV S hp ι (V n) fn fr ops l t ds ro f is k' dm de own->
  ∃f' w' bI U' V' tY jq,Steps S.P (lone f cs w) (lone f' cs w')/\Ex ι bI/\HR S base w0 U' bI hp nx w'/\UV U' V'/\(∀d,d<n->V' d=V d)/\rV S hp bI (V' n) fn fr ops l t ds ro f' tY k' jq de own/\(tY=[]\/∃i rest,tY=i :: rest/\de i=false)
 | [],f,w,ι,U,V,dm,hh,hu,hg,h=>⟨f,w,ι,U,V,[],dm,.refl _ _,Ex.refl,hh,hu,λ_ _=>rfl,h,.inl rfl⟩
 |i :: is,f,w,ι,U,V,dm,hh,hu,hg,h=>by
  cases hi:de i with
  |false=>exact⟨f,w,ι,U,V,_,dm,.refl _ _,Ex.refl,hh,hu,λ_ _=>rfl,h,.inr ⟨i,is,rfl,hi⟩⟩
  |true =>
   obtain⟨f1,w1,tB,U1,V1,a1,a2,a3,a4,a5,a6⟩:=yz hS hh hu hg h hi;obtain⟨f2,w2,ι2,U2,V2,tY,jq,b1,b2,b3,b4,b5,b6,b7⟩:=Aa1 hS is f1 w1 tB U1 V1 (aL dm i) a3 a4 (hg.mono a2) a6;exact⟨f2,w2,ι2,U2,V2,tY,jq,.head a1 b1,a2.trans b2,b3,b4,λd hd=>(b5 d hd).trans (a5 d hd),b6,b7⟩
end
end Go.Cv
