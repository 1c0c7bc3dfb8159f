/- A part of the proof: contracts of functions, or the executor and its soundness. No conditions. -/
import Derived.Test.YtdoogdbjiijifaaGreatDoorE7Pad
namespace Go.Sx
open Go
section
variable {P:Program} {cx:Cx} {σ:Sy} {T:List Nat} {o:Oper} {K:Out->Prop}
theorem He(D:Dn):∀(ls:List Hl) (i:Nat),(cO D ls)[i]?=(ls[i]?).map λl=>match l with
  |.aE ty cs=>.aE ty (loose.aF (norm.aN D cs))
  |.own ty n sz gr f=>.own ty (.a (D.i n)) sz gr f
  |l=>l
 | [],i=>by simp[cO]
 |l :: ls,i=>by
  cases i with
  |zero=>cases l<;>simp[cO,cO.aF]
  |succ i=>cases l<;>simp[cO,He D ls i]
theorem I9(D:Dn):∀(ls:List Hl),(cO D ls).length=ls.length
 | []=>rfl
 |l :: ls=>by cases l<;>simp[cO,I9 D ls]
def SX:Hl->Prop
 |.aE _ cs=>∀c∈cs,Ak c=true
 |.own ..=>True
 |.lZ ..=>True
 |.gone=>True
 |_=>False
theorem Ft:∀ {ls:List Hl},Gr ls=true->∀ {i:Nat} {l:Hl},ls[i]?=some l->SX l
 | [],_,i,l,h=>by simp at h
 |l0 :: ls,hp,i,l,h=>by
  cases i with
  |zero =>
   simp at h;subst h;cases l0<;>simp only[Gr,QR,QB]at hp<;>first|trivial|skip
   exact λc hc=>(Ck _).1 (by simpa[Ak] using hp.1) c hc
  |succ i =>
   simp at h;cases l0<;>simp only[Gr,QR,QB]at hp<;>first|exact Ft hp h|exact Ft hp.2 h
theorem bO.move{E E':Env}{w:World}{i k:Nat}{l:Hl}(h:bO E w i l)(ho:SX l)(hI:E'.I=E.I)(gA:E'.β k=E.β i)(nL:E'.τ k=E.τ i)(GF:E'.ζ k=E.ζ i)(hO:∀b,E.O b=some i->E'.O b=some k):bO E' w k l:=by
 cases l with
 |fresh=>exact ho.elim
 |gone=>trivial
 |aE ty cs =>
  obtain⟨b,C,k1,k2,k3,k4,k5,k6,k7⟩:=h;exact⟨b,C,by rw[gA];exact k1,hO b k2,k3,k4,λj s v p q=>(k5 j s v p q).plain hI (ho s (QF p)),k6,by rw[hI];exact k7⟩
 |tail ty n sz=>exact ho.elim
 |row ty n sz f=>exact ho.elim
 |own ty n sz gr f =>
  obtain⟨v,m,xs,k1,k2,k3,k4,k5,k6,k7⟩:=h;exact⟨v,m,xs,by rw[nL];exact k1,by rw[GF];exact k2,k3,k4,k5,⟨k6.1,by rw[hI];exact k6.2⟩,λb hb=>⟨hO b (k7 b hb).1,by rw[hI];exact (k7 b hb).2⟩⟩
 |lZ T e s =>
  obtain⟨b,p,v,k1,k2,k3,k4,k5,k6,k7,k8⟩:=h;exact⟨b,p,v,by rw[gA];exact k1,hO b k2,k3,k4,k5,k6,by rw[hI];exact k7,λg hg=>⟨hO g (k8 g hg).1,by rw[hI];exact (k8 g hg).2⟩⟩
 |dC F=>exact ho.elim
 |vec ty n g sz f=>exact ho.elim
 |bK c fr s pd=>exact ho.elim
theorem Aca(m m':Nat):∀(cs:List SV),Hp.wW m m' cs=true↔∀c∈cs,Hp m m' c=true
 | []=>by simp[Hp.wW]
 |c :: cs=>by simp[Hp.wW,Aca m m' cs]
theorem Amk(m a:Nat):∀(cs:List SV),bw.NR m a cs=cs.map (bw m a)
 | []=>rfl
 |c :: cs=>by simp[bw.NR,Amk m a cs]
theorem Ajy{m a:Nat}{s:SV}(h1:∀nl n h,s≠.bY nl n h)(h2:∀vs,s≠.tup vs):bw m a s=s:=by
 cases s<;>first|rfl|exact absurd rfl (h1 _ _ _)|exact absurd rfl (h2 _)
theorem Rel.res{E E':Env}{w:World}{m m' a:Nat}{s:SV}{v:Value}(h:Rel E w s v)(hI:E'.I=E.I)(nL:∀k u,m<=k->k<m'->E.τ k=some u->E'.τ (k-m+a)=some u)(hp:Hp m m' s=true):Rel E' w (bw m a s) v:=by
 induction h with
 |ro h =>
  rename_i s v;have:=Ajy (m:=m) (a:=a) (s:=s) (λ_ _ _ e=>by subst e;cases h) (λ_ e=>by subst e;cases h);rw[this];exact .ro (by rw[hI];exact h)
 |bY ht hk =>
  obtain⟨a0,m0,c0,t1,t2⟩:=hk;simp only[Hp,QB,ZM]at hp;exact .bY ht ⟨a0,m0,c0,nL _ _ (XA hp.1) hp.2 t1,t2⟩
 |tup hl _ ih =>
  simp only[bw,Amk];refine .tup (by simp[hl]) λi s v h1 h2=>?_;rw[QP]at h1;cases e:(‹List SV›)[i]? with
  |none=>rw[e]at h1;cases h1
  |some s' =>
   rw[e]at h1;cases h1;simp only[Hp]at hp;exact ih i s' v e h2 ((Aca m m' _).1 hp s' (QF e))
 |agg hl hh _=>exact (Rel.agg hl hh).plain hI hp
 |ptr hb hv=>simp[Hp,Ak]at hp
 |eD hr ht=>simp[Hp,Ak]at hp
 |dM hb hm hv=>simp[Hp,Ak]at hp
 |cU hb hz hv=>simp[Hp,Ak]at hp
 |cK hv ho=>simp[Hp,Ak]at hp
 |bP hb hv=>simp[Hp,Ak]at hp
 |yv hb hv=>simp[Hp,Ak]at hp
 |fB ht hk=>simp[Hp,Ak]at hp
 |jS ht hk=>simp[Hp,Ak]at hp
 |fI hl _=>simp[Hp,Ak]at hp
theorem Lk(hf:Nat->Hl):∀(a b:List Ef),Hz hf (a++b)=Hz (Hz hf a) b
 | [],b=>rfl
 |e :: a,b=>by show Hz (yX hf e) (a++b)=_;rw[Lk];rfl
theorem We:∀(ls:List Hl) (a:Nat) (hf:Nat->Hl) (k:Nat),Hz hf (Eo a ls) k=if a<=k/\k<a+ls.length then (ls[k-a]?).getD .gone else hf k
 | [],a,hf,k=>by
  rw[QD (λh=>by have:=h.1;have h2:k<a+0:=h.2;omega)];rfl
 |l :: ls,a,hf,k=>by
  show Hz (aL hf a l) (Eo (a+1) ls) k=_;rw[We ls (a+1) (aL hf a l) k]
  by_cases e:k=a
  .subst e
   rw[QD (by omega),QE (by simp)];simp[aL]
  .by_cases e2:a+1<=k/\k<a+1+ls.length
   .rw[QE e2,QE (by simp;omega)]
    obtain⟨q,hq⟩:∃q,k-a=q+1:=⟨k-a-1,by omega⟩;rw[hq,show k-(a+1)=q by omega];simp
   .rw[QD e2,QD (by simp;omega)]
    simp[aL,e]
theorem Nn:∀(ls:List Hl) (a i:Nat) (l:Hl),ls[i]?=some l->Ef.put (a+i) l∈Eo a ls
 | [],a,i,l,h=>by simp at h
 |l0 :: ls,a,i,l,h=>by
  cases i with
  |zero=>simp at h;subst h;exact QY ..
  |succ i=>simp at h;rw[show a+(i+1)=a+1+i by omega];exact QX _ (Nn ls (a+1) i l h)
theorem Qz{hf:Nat->Hl}:∀(hs:List Nat) (ls:List Hl),ls.length=hs.length->hs.Nodup->
  (∀k,k ∉ hs->Hz hf (Dv hs ls) k=hf k)/\∀(i k:Nat) (l:Hl),hs[i]?=some k->ls[i]?=some l->Hz hf (Dv hs ls) k=l
 | [],ls,hl,_=>by
  have:ls=[]:=QQ (by simpa using hl);subst this;exact⟨λk _=>rfl,by simp⟩
 |h :: hs,[],hl,_=>by simp at hl
 |h :: hs,l :: ls,hl,hn=>by
  rw[List.nodup_cons]at hn;obtain⟨a,b⟩:=Qz (hf:=aL hf h l) hs ls (by simpa using hl) hn.2;refine⟨λk hk=>?_,λi k l' h1 h2=>?_⟩
  .rw[ZO,not_or]at hk
   show Hz (aL hf h l) (Dv hs ls) k=hf k;rw[a k hk.2];simp[aL,hk.1]
  .show Hz (aL hf h l) (Dv hs ls) k=l'
   cases i with
   |zero =>
    simp at h1 h2;subst h1 h2;rw[a h hn.1];simp[aL]
   |succ i=>simp at h1 h2;exact b i k l' h1 h2
theorem Ia(_hg:True){B:Bs}{N:Nat}{E:Env}{a:Act}{w:World}{ff:Nat->SG}{hf:Nat->Hl}(vX:Ep B cx.gl)(st:St B N E a w ff hf)(hT:Ba (Ac σ.gm T)):
  ∀(xs:List Operand) (ts:List TypeId) (vs:List SV),(∀x∈xs,∀s∈Cw x,ff s=A6 σ s)->I7 cx σ T xs ts=some vs->A1 E w vs (xs.map a.eval):=by
 intro xs
 induction xs with
 |nil=>intro ts vs _ h;simp[I7]at h;subst h;exact .nil
 |cons x xs ih =>
  intro ts vs fH h;cases ts with
  |nil =>
   simp only[I7]at h
   split at h
   .rename_i v us h1 h2
    cases h;exact .cons (Aa h1 vX st (fH x (QY ..)) hT) (ih [] us (λy hy=>fH y (QX _ hy)) h2)
   .cases h
  |cons t ts =>
   simp only[I7]at h
   split at h
   .rename_i v us h1 h2
    cases h;exact .cons (I6 h1 vX st (fH x (QY ..)) hT) (ih ts us (λy hy=>fH y (QX _ hy)) h2)
   .cases h
def Enters(P:Program)(gl:List (Nat×SV))(σ:Sy)(T:List Nat)(o:Oper)(f:FuncId)(vs:List SV):Prop :=
 ∀(B:Bs) (N:Nat) (E:Env) (a:Act) (w:World) (ff:Nat->SG) (hf:Nat->Hl),Ep B gl->St B N E a w ff hf->DI σ ff o->Ba (Ac σ.gm T)->∃us:List Value,A1 E w vs us/\(execOp a.eval o).run P w=.ok (.enter f ⟨us⟩) w
def Dg{α:Type}(hs:List Nat)(M m m':Nat)(F G:Nat->Option α)(k:Nat):Option α :=
 match hs.idxOf? k with
 |some i=>F i
 |none=>if M<=k/\k<M+(m'-m) then F (m+(k-M)) else G k
open Classical in
noncomputable def Ig(hs:List Nat)(M m:Nat)(F G:Nat->Option Nat)(b:Nat):Option Nat :=
 match F b with
 |some i=>if i<m then hs[i]? else some (M+(i-m))
 |none=>if ∃k∈hs,G b=some k then none else G b
theorem Age{f:FuncId}{vs:List SV}(fR:Enters P cx.gl σ T o f vs)
  {as:List SV} {hs:List Nat} {ls:List Hl} (eQ:Fd σ.hp (loose.aF (norm.aN dn vs)) 0=some (as,hs,ls)) (gB:Gr (cO dn ls)=true)
  {r:SV} {aI:List Hl} (rO:Em P cx.gl f as (cO dn ls) r aI) (hr:Hp ls.length aI.length r=true) (lI:Gr aI=true) (hlen:ls.length<=aI.length):
  Local P cx.gl σ T o ⟨bw ls.length (Ag σ.hp) r,Dv hs (takeN ls.length aI)++Eo (Ag σ.hp) (By ls.length aI),hs,[]⟩:=by
 rw[Ax,A5,Af];intro B N E a w ff hf hg st ag bJ hT K' Q hK;have hb:=st.base;obtain⟨n1,n2,n3,n4⟩:=Gp σ.hp _ 0 as hs ls eQ;obtain⟨us,kL,aG⟩:=fR B N E a w ff hf hg st ag hT;have vk:A1 E w (loose.aF (norm.aN dn vs)) us:=by
  rw[Cf,Cl];exact (kL.map _ λs v _ h=>h.norm).map _ λs v _ h=>h.loose
 -- rY zC state
 let Ec:Env:=⟨λi=>(hs[i]?).bind E.β,λi=>(hs[i]?).bind E.τ,λb=>(E.O b).bind λh=>hs.idxOf? h,λ_=>none,λi=>(hs[i]?).bind E.ζ,E.I⟩
 let Bc:Bs:=⟨w,λb=>∃h∈hs,E.O b=some h,E.I,Ec.β,Ec.τ,Ec.ζ,[]⟩
 have py:B8 Bc Ec w:=by
  refine⟨rfl,rfl,rfl,QK _,λ_ _ _=>rfl,λb o h=>⟨h,rfl⟩,hb.eJ,λb o h=>.inl h,λb i h=>?_,⟨λ_ _ h=>h,λ_ _ h=>.inl h,λ_ _ h=>h⟩⟩;have h:(E.O b).bind (λh=>hs.idxOf? h)=some i:=h;cases hO:E.O b with
  |none=>rw[hO]at h;cases h
  |some k =>
   rw[hO]at h;simp only[YD]at h;have hk:k∈hs:=by
    rw[ZZ]at h;obtain⟨aA,he,_⟩:=h;rw[<-he];exact XQ aA
   exact⟨(hb.dG b k hO).1,.inr ⟨k,hk,hO⟩⟩
 have WX:Ep Bc cx.gl:=λg s h=>⟨(hg g s h).1.mono (λb o h=>(hb.I0 b o h).1) (λb o h=>(hb.I0 b o h).2),XR (hg g s h).2.1 hb.size,
  λ⟨k,_,hO⟩=>by
   rcases (hb.dG g k hO).2 with h1|h1
   .exact absurd (hg g s h).2.1 (Nat.not_lt.2 h1)
   .exact (hg g s h).2.2.1 h1,
  (hg g s h).2.2.2.same (hb.old g (hg g s h).2.1 (hg g s h).2.2.1)⟩
 have JJ:Ec.I=E.I:=rfl;have eP:∀(i k:Nat),hs[i]?=some k->hs.idxOf? k=some i:=by
  intro i k hk;rw[ZZ];obtain⟨aA,he⟩:=List.getElem?_eq_some_iff.1 hk;refine⟨aA,by simp[he],λj hj=>?_⟩;have aV:hs[j]≠hs[i]:=List.pairwise_iff_getElem.1 n1 j i (by omega) aA hj;rw[<-he];simpa using aV
 have yF:∀(i k:Nat),hs.idxOf? k=some i->hs[i]?=some k:=by
  intro i k hk;rw[ZZ]at hk;obtain⟨aA,he,_⟩:=hk;rw[QA aA,he]
 have qY:∀k,k ∉ hs->hs.idxOf? k=none:=by
  intro k hk;cases h:hs.idxOf? k with
  |none=>rfl
  |some i=>exact absurd (QF (yF i k h)) hk
 have sP:∀k∈hs,k<σ.hp.length:=by
  intro k hk;obtain⟨i,hi⟩:=List.mem_iff_getElem?.1 hk;obtain⟨l,m1,_⟩:=n3 i k hi;rw[Ah]at m1;exact (List.getElem?_eq_some_iff.1 m1).1
 have oM:∀h,bO Ec w h (Ap (cO dn ls) h):=by
  intro h;simp only[Ap,Ah,He];cases hl:ls[h]? with
  |none =>
   have:hs[h]?=none:=by rw[List.getElem?_eq_none_iff]at hl ⊢;omega
   simp only[UI,ZV];exact⟨by show (hs[h]?).bind E.β=none;rw[this];rfl,by show (hs[h]?).bind E.τ=none;rw[this];rfl,rfl,by show (hs[h]?).bind E.ζ=none;rw[this];rfl⟩
  |some l =>
   have aA:h<hs.length:=by rw[<-n2];exact (List.getElem?_eq_some_iff.1 hl).1
   obtain⟨l',m1,m2,m3⟩:=n3 h hs[h] (QA aA);rw[hl]at m2;cases m2;have hk:=st.heap hs[h];rw[bJ.uT _ (XQ aA),Bx m1]at hk;have nX:SX ((λl=>match l with|.aE ty cs=>Hl.aE ty (loose.aF (norm.aN dn cs))|.own ty n sz gr f=>.own ty (.a (dn.i n)) sz gr f|l=>l) l):=Ft gB (i:=h) (by rw[He,hl];rfl);have HJ:bO E w hs[h] ((λl=>match l with|.aE ty cs=>Hl.aE ty (loose.aF (norm.aN dn cs))|.own ty n sz gr f=>.own ty (.a (dn.i n)) sz gr f|l=>l) l):=by
    cases l with
    |aE ty cs =>
     obtain⟨b,C,k1,k2,k3,k4,k5,k6⟩:=hk.eU;have bQ:A1 E w (loose.aF (norm.aN dn cs)) C.toList:=by
      rw[Cf,Cl];exact (k4.map _ λs v _ h=>h.norm).map _ λs v _ h=>h.loose
     exact⟨b,C,k1,k2,k3,by have:=bQ.1;simpa using this.symm,λi s v p q=>bQ.2 i s v p (by simpa using q),λv hv=>k5 v (by simpa using hv),k6⟩
    |_=>exact hk
   simp only[QO,XB];refine HJ.move nX JJ ?_ ?_ ?_ λb hb=>?_
   .show (hs[h]?).bind E.β=_;rw[QA aA];rfl
   .show (hs[h]?).bind E.τ=_;rw[QA aA];rfl
   .show (hs[h]?).bind E.ζ=_;rw[QA aA];rfl
   .show (E.O b).bind (λh=>hs.idxOf? h)=some h
    rw[hb];exact eP h _ (QA aA)
 have aY:A1 Ec w as us:=n4 E Ec w _ JJ (λi h hi=>by
  refine⟨?_,?_⟩
  .show (hs[0+i]?).bind E.β=E.β h
   rw[XD,hi];rfl
  .show (hs[0+i]?).bind E.τ=E.τ h
   rw[XD,hi];rfl) vk
 have dO:=rO Bc Ec w us rfl (λb o h=>h) (λh hb=>by
  have hb:(hs[h]?).bind E.β≠none\/(hs[h]?).bind E.τ≠none\/(hs[h]?).bind E.ζ≠none:=hb;cases hh:hs[h]? with
  |none=>rw[hh]at hb;simp at hb
  |some k=>rw[I9,n2];exact (List.getElem?_eq_some_iff.1 hh).1) py WX oM aY
 -- rY operation
 unfold Oper.wp;rw[aG];simp only[Oper.upon];refine dO.mono ?_;rintro e w' ⟨v,iS,rfl,x2,x3,x4⟩
 -- back in rY zA state
 obtain⟨M,hM⟩:∃M,M=σ.hp.length:=⟨_,rfl⟩;obtain⟨m,hm⟩:∃m,m=ls.length:=⟨_,rfl⟩;rw[<-hM,<-hm]at hK;rw[<-hm]at hlen hr
 let E':Env:=⟨Dg hs M m aI.length iS.β E.β,Dg hs M m aI.length iS.τ E.τ,Ig hs M m iS.O E.O,E.κ,Dg hs M m aI.length iS.ζ E.ζ,iS.I⟩
 have pI:∀k,M<=k->k<M+(aI.length-m)->hf k=.fresh:=by
  intro k h1 h2;have hl:∃l,(aI.drop m)[k-M]?=some l:=⟨_,QA (by simp;omega)⟩;obtain⟨l,hl⟩:=hl;have dT:=Nn (aI.drop m) M (k-M) l hl;rw[show M+(k-M)=k by omega]at dT;have xX:Ef.put k l∈Eo σ.hp.length (List.drop ls.length aI):=by rw[<-hM,<-hm];exact dT
  have:=bJ.gF _ (List.mem_append.2 (.inr xX));simp only[zY,Ap,Ah]at this;rw[this,QV (by omega)];rfl
 have gX:∀k,M<=k->k<M+(aI.length-m)->E.β k=none/\E.τ k=none/\E.ζ k=none:=by
  intro k h1 h2;have:=st.heap k;rw[pI k h1 h2]at this;exact⟨this.1,this.2.1,this.2.2.2⟩
 have dX:∀ {α:Type} (F G:Nat->Option α) (i k:Nat),hs[i]?=some k->Dg hs M m aI.length F G k=F i:=by
  intro α F G i k hk;simp only[Dg,eP i k hk]
 have gK:∀ {α:Type} (F G:Nat->Option α) (i:Nat),m+i<aI.length->Dg hs M m aI.length F G (M+i)=F (m+i):=by
  intro α F G i hi;have:(M+i) ∉ hs:=λh=>by have:=sP _ h;omega
  simp only[Dg,qY _ this];rw[QE (by omega),ZI]
 have cX:∀ {α:Type} (F G:Nat->Option α) (k:Nat),k ∉ hs->¬(M<=k/\k<M+(aI.length-m))->Dg hs M m aI.length F G k=G k:=by
  intro α F G k h1 h2;simp only[Dg,qY _ h1];rw[QD h2]
 have gY:∀k:Nat,(∃i:Nat,hs[i]?=some k)\/(∃i,m+i<aI.length/\k=M+i)\/(k ∉ hs/\¬(M<=k/\k<M+(aI.length-m))):=by
  intro k
  by_cases h1:k∈hs
  .obtain⟨i,hi⟩:=List.mem_iff_getElem?.1 h1;exact .inl ⟨i,hi⟩
  .by_cases h2:M<=k/\k<M+(aI.length-m)
   .exact .inr (.inl ⟨k-M,by omega,by omega⟩)
   .exact .inr (.inr ⟨h1,h2⟩)
 have jN:Ext E w E' w':=by
  refine⟨λk b hk=>?_,λk u hk=>?_,λ_ _ h=>h,λk n hk=>?_,λb o h=>(x2.I0 b o h).1,λb o h=>(x2.I0 b o h).2⟩
  .show Dg hs M m aI.length iS.β E.β k=some b
   rcases gY k with⟨i,hi⟩|⟨i,hi,rfl⟩|⟨h1,h2⟩
   .rw[dX _ _ i k hi];exact x2.cS.β i b (by show (hs[i]?).bind E.β=some b;rw[hi];exact hk)
   .rw[(gX _ (by omega) (by omega)).1]at hk;cases hk
   .rw[cX _ _ k h1 h2];exact hk
  .show Pw u (Dg hs M m aI.length iS.τ E.τ k)
   rcases gY k with⟨i,hi⟩|⟨i,hi,rfl⟩|⟨h1,h2⟩
   .rw[dX _ _ i k hi];exact x2.cS.τ i u (by show (hs[i]?).bind E.τ=some u;rw[hi];exact hk)
   .rw[(gX _ (by omega) (by omega)).2.1]at hk;cases hk
   .rw[cX _ _ k h1 h2];exact .inl hk
  .show Dg hs M m aI.length iS.ζ E.ζ k=some n
   rcases gY k with⟨i,hi⟩|⟨i,hi,rfl⟩|⟨h1,h2⟩
   .rw[dX _ _ i k hi];exact x2.cS.ζ i n (by show (hs[i]?).bind E.ζ=some n;rw[hi];exact hk)
   .rw[(gX _ (by omega) (by omega)).2.2]at hk;cases hk
   .rw[cX _ _ k h1 h2];exact hk
 have yT:∀b o,b<w.heap.size->(¬ ∃h∈hs,E.O b=some h)->iS.I b o->E.I b o:=λb o aA kN hi=>by
  rcases x2.cE b o hi with h|h|h
  .exact h
  .have:w.heap.size<=b:=h
   omega
  .exact absurd h kN
 have aB:B8 B E' w':=by
  refine⟨x2.os.trans hb.os,x2.tape.trans hb.tape,x2.output.trans hb.output,XO hb.size x2.size,λb aA hX=>?_,λb o hi=>?_,x2.eJ,λb o hi=>?_,λb h hO=>?_,hb.cS.ext jN⟩
  .rw[x2.old b (by have:=hb.size;show b<w.heap.size;omega) ?_]
   .exact hb.old b aA hX
   .rintro⟨k,_,hO⟩
    rcases (hb.dG b k hO).2 with h|h
    .omega
    .exact hX h
  .obtain⟨i1,i2⟩:=hb.I0 b o hi
   exact⟨(x2.I0 b o i1).1,by rw[(x2.I0 b o i1).2];exact i2⟩
  .rcases x2.cE b o hi with h|h|⟨k,_,hO⟩
   .exact hb.cE b o h
   .have:w.heap.size<=b:=h
    have:=hb.size;exact .inr (.inl (by omega))
   .exact .inr (hb.dG b k hO).2
  .have hO:Ig hs M m iS.O E.O b=some h:=hO
   unfold Ig at hO
   split at hO
   .rename_i i hi
    obtain⟨o1,o2⟩:=x2.dG b i hi;refine⟨o1,?_⟩;rcases o2 with o2|⟨k,_,hk⟩
    .have:w.heap.size<=b:=o2
     have:=hb.size;exact .inl (by omega)
    .exact (hb.dG b k hk).2
   .split at hO
    .cases hO
    .obtain⟨o1,o2⟩:=hb.dG b h hO
     exact⟨XR o1 x2.size,o2⟩
 have mX:∀b i:Nat,iS.O b=some i->∀k:Nat,(hs[i]?=some k/\i<m\/m<=i/\k=M+(i-m))->E'.O b=some k:=by
  intro b i hi k hk;show Ig hs M m iS.O E.O b=some k;simp only[Ig,hi];rcases hk with⟨h1,h2⟩|⟨h1,rfl⟩
  .rw[QE h2];exact h1
  .rw[QD (by omega)]
 have n2m:hs.length=m:=by rw[hm,n2]
 obtain⟨f1,f2⟩:=Qz (hf:=hf) hs (aI.take m) (by simp;omega) n1;refine hK v w' E' jN aB (λk=>?_) (x4.res rfl (λk u h1 hk h2=>?_) hr)
 .show bO E' w' k (Hz hf (Dv hs (aI.take m)++Eo M (aI.drop m)) k)
  rw[Lk,We];rcases gY k with⟨i,hi⟩|⟨i,hi,rfl⟩|⟨h1,h2⟩
  .have hkM:=sP k (QF hi)
   have WS:i<hs.length:=(List.getElem?_eq_some_iff.1 hi).1;rw[QD (by omega)];obtain⟨l,hl⟩:∃l,aI[i]?=some l:=⟨_,QA (by omega)⟩;rw[f2 i k l hi (by rw[QL,QE (by omega)];exact hl)];have h3:=x3 i (by omega);have:Ap aI i=l:=by simp[Ap,Ah,hl]
   rw[this]at h3;exact h3.move (Ft lI hl) rfl (dX _ _ i k hi) (dX _ _ i k hi) (dX _ _ i k hi) λb hb=>mX b i hb k (.inl ⟨hi,by omega⟩)
  .rw[QE (by simp;omega)]
   obtain⟨l,hl⟩:∃l,aI[m+i]?=some l:=⟨_,QA hi⟩;rw[ZI,XL,hl];simp only[XB];have h3:=x3 (m+i) hi;have:Ap aI (m+i)=l:=by simp[Ap,Ah,hl]
   rw[this]at h3;exact h3.move (Ft lI hl) rfl (gK _ _ i hi) (gK _ _ i hi) (gK _ _ i hi) λb hb=>mX b (m+i) hb _ (.inr ⟨by omega,by congr 1;omega⟩)
  .rw[QD (by simp;omega),f1 k h1]
   refine bO.keep jN (st.heap k) (cX _ _ k h1 h2) (cX _ _ k h1 h2) rfl (cX _ _ k h1 h2) λb hO=>?_;have kN:¬ ∃h∈hs,E.O b=some h:=by
    rintro⟨k2,aR,vK⟩;rw[hO]at vK;cases vK;exact h1 aR
   refine⟨?_,x2.old b (A4 hb hO) kN,λo hi=>yT b o (A4 hb hO) kN hi⟩;show Ig hs M m iS.O E.O b=some k;have kD:iS.O b=none:=by
    cases hi:iS.O b with
    |none=>rfl
    |some i =>
     rcases (x2.dG b i hi).2 with h|h
     .have h:w.heap.size<=b:=h
      have:=A4 hb hO;omega
     .exact absurd h kN
   simp only[Ig,kD];rw[QD kN];exact hO
 .show Dg hs M m aI.length iS.τ E.τ (k-m+M)=some u
  have:=gK iS.τ E.τ (k-m) (by omega);rw[show k-m+M=M+(k-m) by omega,this,show m+(k-m)=k by omega];exact h2
theorem Qr:∀(cs:List SV),iQ.uA cs=cs.flatMap iQ
 | []=>rfl
 |c :: cs=>by simp[iQ.uA,Qr cs]
theorem K0(ρ:Nat->Nat):∀(cs:List SV),nI.wV ρ cs=cs.map (nI ρ)
 | []=>rfl
 |c :: cs=>by simp[nI.wV,K0 ρ cs]
theorem D4:∀(cs:List SV),Bw.dR cs=true↔∀c∈cs,Bw c=true
 | []=>by simp[Bw.dR]
 |c :: cs=>by simp[Bw.dR,D4 cs]
theorem J1(g:Hl->Hl):∀(ls:List Hl),Xi g ls=ls.map g
 | []=>rfl
 |l :: ls=>by simp[Xi,J1 g ls]
theorem Pc(D:Dn)(hp:List Hl):∀(hs:List Nat),Vv D hp hs=hs.map λh=>match nth hp h with|some l=>oH D l|none=>.gone
 | []=>rfl
 |h :: hs=>by simp only[Vv,Pc D hp hs,UE];cases nth hp h<;>rfl
theorem Hf(t:List Nat):∀(l:List Nat),Wy t l=true↔∀x∈l,x∈t
 | []=>by simp[Wy]
 |x :: l=>by simp[Wy,Hf t l,Ca]
theorem Ht:∀(l:List Nat),Qd l=true↔l.Nodup
 | []=>by simp[Qd]
 |x :: l=>by
  simp only[Qd,QB,XK,List.nodup_cons,Ht l];rw[<-Bool.not_eq_true,Ca]
theorem Gd(n:Nat):∀(l:List Nat),sc n l=true↔∀x∈l,x<n
 | []=>by simp[sc]
 |x :: l=>by simp[sc,Gd n l]
theorem Gk(hs:List Nat):∀(ls:List Hl),Mi hs ls=true↔∀l∈ls,Db l=true/\∀j∈xL l,j∈hs
 | []=>by simp[Mi]
 |l :: ls=>by simp[Mi,Gk hs ls,Hf]
theorem Oq(n:Nat):∀(ls:List Hl),MQ n ls=true↔∀l∈ls,Db l=true/\∀j∈xL l,j<n
 | []=>by simp[MQ]
 |l :: ls=>by simp[MQ,Oq n ls,Gd]
theorem O5{hs:List Nat}(hn:hs.Nodup){i k:Nat}(h:hs[i]?=some k):H4 hs k=i:=by
 induction hs generalizing i with
 |nil=>simp at h
 |cons x l ih =>
  rw[List.nodup_cons]at hn;cases i with
  |zero=>simp at h;subst h;simp[H4]
  |succ i =>
   simp at h;have aV:x≠k:=λe=>hn.1 (by rw[e];exact QF h);have aV:(x==k)=false:=by simpa using aV
   simp[H4,aV,ih hn.2 h]
structure Zj(E:Env)(i:Nat)(E':Env)(k:Nat):Prop where
 β:E'.β k=E.β i
 τ:E'.τ k=E.τ i
 ζ:E'.ζ k=E.ζ i
theorem RO.rn{I:Nat->Nat->Prop}{w:World}{s:SV}{v:Value}(ρ:Nat->Nat)(h:RO I w s v):nI ρ s=s:=by
 induction h with
 | @agg cs vs hl _ ih =>
  simp only[nI,K0,SV.agg.injEq];refine UZ λi=>?_;rw[QP];cases e:cs[i]? with
  |none=>rfl
  |some s =>
   have hi:i<cs.length:=(List.getElem?_eq_some_iff.1 e).1;simp only[QO,Option.some.injEq];exact ih i s _ e (QA (by omega))
 |_=>rfl
theorem Rel.rn{E E':Env}{w:World}{s:SV}{v:Value}(ρ:Nat->Nat)(h:Rel E w s v)(hI:E'.I=E.I)(hr:Bw s=true)(he:∀k∈iQ s,Zj E k E' (ρ k)):Rel E' w (nI ρ s) v:=by
 induction h with
 |ro h=>rw[h.rn];exact .ro (by rw[hI];exact h)
 |ptr hb hv=>exact .ptr (by rw[(he _ (by simp[iQ])).β];exact hb) hv
 |eD eX ht =>
  obtain⟨a,m,c,t1,t2⟩:=ht;exact .eD (by rw[hI];exact eX) ⟨a,m,c,by rw[(he _ (by simp[iQ])).τ];exact t1,t2⟩
 |bY ht hk =>
  obtain⟨a,m,c,t1,t2⟩:=hk;exact .bY ht ⟨a,m,c,by rw[(he _ (by simp[iQ])).τ];exact t1,t2⟩
 |cK hv ho =>
  obtain⟨a,m,c,sz,t1,t2,t3⟩:=ho;exact .cK hv ⟨a,m,c,sz,by rw[(he _ (by simp[iQ])).τ];exact t1,by rw[(he _ (by simp[iQ])).ζ];exact t2,t3⟩
 |bP hb hv=>exact .bP (by rw[(he _ (by simp[iQ])).β];exact hb) hv
 |yv hb hv=>exact .yv (by rw[(he _ (by simp[iQ])).β];exact hb) hv
 |fB ht hk =>
  obtain⟨a,m,c,t1,t2⟩:=hk;exact .fB ht ⟨a,m,c,by rw[(he _ (by simp[iQ])).τ];exact t1,t2⟩
 |jS ht hk =>
  obtain⟨a,m,c,sz,t1,t2,t3⟩:=hk;exact .jS ht ⟨a,m,c,sz,by rw[(he _ (by simp[iQ])).τ];exact t1,by rw[(he _ (by simp[iQ])).ζ];exact t2,t3⟩
 |dM hb hm hv=>simp[Bw]at hr
 |cU hb hz hv=>simp[Bw]at hr
 |agg hl _ ih =>
  simp only[nI,K0];refine .agg (by simp[hl]) λi s v h1 h2=>?_;rw[QP]at h1;obtain⟨s',e,rfl⟩:=Option.map_eq_some_iff.1 h1;have hm:=QF e;exact ih i s' v e h2 ((D4 _).1 (by simpa[Bw] using hr) s' hm) λk hk=>he k (by simp only[iQ,Qr,VE];exact⟨s',hm,hk⟩)
 |tup hl _ ih =>
  simp only[nI,K0];refine .tup (by simp[hl]) λi s v h1 h2=>?_;rw[QP]at h1;obtain⟨s',e,rfl⟩:=Option.map_eq_some_iff.1 h1;have hm:=QF e;exact ih i s' v e h2 ((D4 _).1 (by simpa[Bw] using hr) s' hm) λk hk=>he k (by simp only[iQ,Qr,VE];exact⟨s',hm,hk⟩)
 |fI hl _ ih =>
  simp only[nI,K0];refine .fI (by simp[hl]) λi s v h1 h2=>?_;rw[QP]at h1;obtain⟨s',e,rfl⟩:=Option.map_eq_some_iff.1 h1;have hm:=QF e;exact ih i s' v e h2 ((D4 _).1 (by simpa[Bw] using hr) s' hm) λk hk=>he k (by simp only[iQ,Qr,VE];exact⟨s',hm,hk⟩)
theorem Z8{ρ:Nat->Nat}{s:Nat}{v:SV}:∀ {fr:List (Nat×Option SV)},(s,some v)∈ue ρ fr->∃v',v=nI ρ v'/\(s,some v')∈fr
 | [],h=>by simp[ue]at h
 |(_,some u) :: l,h=>by
  simp only[ue,ZO,Prod.mk.injEq,Option.some.injEq]at h;rcases h with⟨rfl,rfl⟩|h
  .exact⟨u,rfl,QY ..⟩
  .obtain⟨v',e,h⟩:=Z8 h
   exact⟨v',e,QX _ h⟩
 |(_,none) :: l,h=>by
  simp only[ue,ZO,Prod.mk.injEq,reduceCtorEq,and_false,false_or]at h;obtain⟨v',e,h⟩:=Z8 h;exact⟨v',e,QX _ h⟩
theorem Ju{s:Nat}{v:SV}:∀ {fr:List (Nat×Option SV)},I1 fr=true->(s,some v)∈fr->Bw v=true
 | [],_,h=>by simp at h
 |(_,some u) :: l,hr,h=>by
  simp only[I1,QB]at hr;simp only[ZO,Prod.mk.injEq,Option.some.injEq]at h;rcases h with⟨_,rfl⟩|h
  .exact hr.1
  .exact Ju hr.2 h
 |(_,none) :: l,hr,h=>by
  simp only[I1]at hr;simp only[ZO,Prod.mk.injEq,reduceCtorEq,and_false,false_or]at h;exact Ju hr h
theorem Aai{s j:Nat}{v:SV}:∀ {fr:List (Nat×Option SV)},(s,some v)∈fr->j∈iQ v->j∈BK fr
 | [],h,_=>by simp at h
 |(_,some u) :: l,h,hj=>by
  simp only[ZO,Prod.mk.injEq,Option.some.injEq]at h;simp only[BK,YH];rcases h with⟨_,rfl⟩|h
  .exact .inl hj
  .exact .inr (Aai h hj)
 |(_,none) :: l,h,hj=>by
  simp only[ZO,Prod.mk.injEq,reduceCtorEq,and_false,false_or]at h;simp only[BK];exact Aai h hj
theorem bO.rn{E E':Env}{w:World}{i k:Nat}{l:Hl}(ρ:Nat->Nat)(h:bO E w i l)(hr:Db l=true)(hI:E'.I=E.I)(hs:Zj E i E' k)(hO:∀b,E.O b=some i->E'.O b=some k)(he:∀j∈xL l,Zj E j E' (ρ j)):bO E' w k (lT ρ l):=by
 cases l with
 |fresh=>simp[Db]at hr
 |gone=>trivial
 |row ty n sz f=>simp[Db]at hr
 |aE ty cs =>
  obtain⟨b,C,k1,k2,k3,k4,k5,k6,k7⟩:=h;refine⟨b,C,by rw[hs.β];exact k1,hO b k2,k3,by rw[K0,XW];exact k4,λj s v p q=>?_,k6,by rw[hI];exact k7⟩;rw[K0,QP]at p;obtain⟨s',e,rfl⟩:=Option.map_eq_some_iff.1 p;have hm:=QF e;exact (k5 j s' v e q).rn ρ hI ((D4 _).1 (by simpa[Db] using hr) s' hm) λj hj=>he j (by simp only[xL,Qr,VE];exact⟨s',hm,hj⟩)
 |tail ty n sz =>
  obtain⟨v,m,xs,k1,k2,k3,k4,k5⟩:=h;exact⟨v,m,xs,by rw[hs.τ];exact k1,k2,k3,k4,λb hb=>⟨hO b (k5 b hb).1,by rw[hI];exact (k5 b hb).2⟩⟩
 |own ty n sz gr f =>
  obtain⟨v,m,xs,k1,k2,k3,k4,k5,k6,k7⟩:=h;exact⟨v,m,xs,by rw[hs.τ];exact k1,by rw[hs.ζ];exact k2,k3,k4,k5,⟨k6.1,by rw[hI];exact k6.2⟩,λb hb=>⟨hO b (k7 b hb).1,by rw[hI];exact (k7 b hb).2⟩⟩
 |lZ T e s =>
  obtain⟨b,p,v,k1,k2,k3,k4,k5,k6,k7,k8⟩:=h;exact⟨b,p,v,by rw[hs.β];exact k1,hO b k2,k3,k4,k5,k6,by rw[hI];exact k7,λg hg=>⟨hO g (k8 g hg).1,by rw[hI];exact (k8 g hg).2⟩⟩
 |dC F =>
  obtain⟨b,es,clock,k1,k2,k3,k4,k5,k6⟩:=h;exact⟨b,es,clock,by rw[hs.β];exact k1,hO b k2,k3,k4,k5,by rw[hI];exact k6⟩
 |vec ty n g sz f =>
  obtain⟨a,c,m,G,xs,k1,k2,k3,k4,k5,k6,k7⟩:=h;exact⟨a,c,m,G,xs,by rw[hs.τ];exact k1,k2,k3,k4,k5,⟨k6.1,by rw[hI];exact k6.2⟩,λb hb=>⟨hO b (k7 b hb).1,by rw[hI];exact (k7 b hb).2⟩⟩
 |bK c fr st pd =>
  obtain⟨b,rr,k1,k2,k3,k4,k5,k6⟩:=h;refine⟨b,rr,by rw[hs.β];exact k1,hO b k2,k3,k4,λs v hm=>?_,by rw[hI];exact k6⟩;obtain⟨v',rfl,pg⟩:=Z8 hm;exact⟨(k5 s v' pg).1,(k5 s v' pg).2.rn ρ hI (Ju (by simpa[Db] using hr) pg) λj hj=>he j (Aai pg hj)⟩
theorem bO.oH{E:Env}{w:World}{h:Nat}{l:Hl}(hk:bO E w h l):bO E w h (oH dn l):=by
 cases l with
 |aE ty cs =>
  obtain⟨b,C,k1,k2,k3,k4,k5,k6⟩:=hk.eU;have hn:A1 E w (norm.aN dn cs) C.toList:=by
   rw[Cl];exact k4.map _ λs v _ h=>h.norm
  exact⟨b,C,k1,k2,k3,by have:=hn.1;simpa using this.symm,λi s v p q=>hn.2 i s v p (by simpa using q),λv hv=>k5 v (by simpa using hv),k6⟩
 |_=>exact hk
theorem Ny{G:List Value->World->(Ending->World->Prop)->Prop}(Gm:∀us w (R R':Ending->World->Prop),(∀e w',R e w'->R' e w')->G us w R->G us w R'){hp:List Hl}{ae vs:List SV}(vj:vs=loose.aF (norm.aN dn ae))
  {hs:List Nat} {ls:List Hl} (e9:ls=Vv dn hp hs) (n1:hs.Nodup) (eT:∀k∈iQ.uA vs,k∈hs) (aP:Bw.dR vs=true) (sP:∀k∈hs,k<hp.length) (yM:∀l∈ls,Db l=true/\∀j∈xL l,j∈hs)
  {r:SV} {aI:List Hl} (rO:Ap5 G cx.gl (nI.wV (H4 hs) vs) (ls.map (lT (H4 hs))) r aI) (hlen:hs.length<=aI.length) (VW:Bw r=true) (zP:∀k∈iQ r,k<aI.length) (nX:∀l∈aI,Db l=true/\∀j∈xL l,j<aI.length)
  {B:Bs} {E:Env} {w:World} {hf:Nat->Hl} (hg:Ep B cx.gl) (hb:B8 B E w) (cM:∀h,bO E w h (hf h)) (bJ:AQ hp hf ⟨nI (Cb hs hs.length hp.length) r,Dv hs ((aI.take hs.length).map (lT (Cb hs hs.length hp.length)))++Eo hp.length ((aI.drop hs.length).map (lT (Cb hs hs.length hp.length))),hs,[]⟩) {us:List Value} (kL:A1 E w ae us):
  G us w λe w'=>∃v E',e=.returned v/\Ext E w E' w'/\B8 B E' w'/\(∀h,bO E' w' h (Hz hf (Dv hs ((aI.take hs.length).map (lT (Cb hs hs.length hp.length)))++Eo hp.length ((aI.drop hs.length).map (lT (Cb hs hs.length hp.length)))) h))/\Rel E' w' (nI (Cb hs hs.length hp.length) r) v:=by
 have vk:A1 E w vs us:=by
  rw[vj,Cf,Cl];exact (kL.map _ λs v _ h=>h.norm).map _ λs v _ h=>h.loose
 have n2:ls.length=hs.length:=by rw[e9,Pc,XW]
 -- rY zC state
 let Ec:Env:=⟨λi=>(hs[i]?).bind E.β,λi=>(hs[i]?).bind E.τ,λb=>(E.O b).bind λh=>hs.idxOf? h,λ_=>none,λi=>(hs[i]?).bind E.ζ,E.I⟩
 let Bc:Bs:=⟨w,λb=>∃h∈hs,E.O b=some h,E.I,Ec.β,Ec.τ,Ec.ζ,[]⟩
 have py:B8 Bc Ec w:=by
  refine⟨rfl,rfl,rfl,QK _,λ_ _ _=>rfl,λb o h=>⟨h,rfl⟩,hb.eJ,λb o h=>.inl h,λb i h=>?_,⟨λ_ _ h=>h,λ_ _ h=>.inl h,λ_ _ h=>h⟩⟩;have h:(E.O b).bind (λh=>hs.idxOf? h)=some i:=h;cases hO:E.O b with
  |none=>rw[hO]at h;cases h
  |some k =>
   rw[hO]at h;simp only[YD]at h;have hk:k∈hs:=by
    rw[ZZ]at h;obtain⟨aA,he,_⟩:=h;rw[<-he];exact XQ aA
   exact⟨(hb.dG b k hO).1,.inr ⟨k,hk,hO⟩⟩
 have WX:Ep Bc cx.gl:=λg s h=>⟨(hg g s h).1.mono (λb o h=>(hb.I0 b o h).1) (λb o h=>(hb.I0 b o h).2),XR (hg g s h).2.1 hb.size,
  λ⟨k,_,hO⟩=>by
   rcases (hb.dG g k hO).2 with h1|h1
   .exact absurd (hg g s h).2.1 (Nat.not_lt.2 h1)
   .exact (hg g s h).2.2.1 h1,
  (hg g s h).2.2.2.same (hb.old g (hg g s h).2.1 (hg g s h).2.2.1)⟩
 have JJ:Ec.I=E.I:=rfl;have eP:∀(i k:Nat),hs[i]?=some k->hs.idxOf? k=some i:=by
  intro i k hk;rw[ZZ];obtain⟨aA,he⟩:=List.getElem?_eq_some_iff.1 hk;refine⟨aA,by simp[he],λj hj=>?_⟩;have aV:hs[j]≠hs[i]:=List.pairwise_iff_getElem.1 n1 j i (by omega) aA hj;rw[<-he];simpa using aV
 have yF:∀(i k:Nat),hs.idxOf? k=some i->hs[i]?=some k:=by
  intro i k hk;rw[ZZ]at hk;obtain⟨aA,he,_⟩:=hk;rw[QA aA,he]
 have qY:∀k,k ∉ hs->hs.idxOf? k=none:=by
  intro k hk;cases h:hs.idxOf? k with
  |none=>rfl
  |some i=>exact absurd (QF (yF i k h)) hk
 have bN:∀k∈hs,Zj E k Ec (H4 hs k):=by
  intro k hk;obtain⟨i,hi⟩:=List.mem_iff_getElem?.1 hk;rw[O5 n1 hi];exact⟨by show (hs[i]?).bind E.β=_;rw[hi];rfl,by show (hs[i]?).bind E.τ=_;rw[hi];rfl,by show (hs[i]?).bind E.ζ=_;rw[hi];rfl⟩
 have oM:∀h,bO Ec w h (Ap (ls.map (lT (H4 hs))) h):=by
  intro h;simp only[Ap,Ah];rw[QP];cases hl:ls[h]? with
  |none =>
   have:hs[h]?=none:=by rw[List.getElem?_eq_none_iff]at hl ⊢;omega
   simp only[UI,ZV];exact⟨by show (hs[h]?).bind E.β=none;rw[this];rfl,by show (hs[h]?).bind E.τ=none;rw[this];rfl,rfl,by show (hs[h]?).bind E.ζ=none;rw[this];rfl⟩
  |some l =>
   have aA:h<hs.length:=by rw[<-n2];exact (List.getElem?_eq_some_iff.1 hl).1
   have dT:hs[h]∈hs:=XQ aA;obtain⟨c1,c2⟩:=yM l (QF hl);have hk:=cM hs[h];rw[bJ.uT _ dT]at hk;have iX:bO E w hs[h] l:=by
    rw[e9,Pc,QP,QA aA]at hl;simp only[QO,Option.some.injEq]at hl;rw[<-hl];cases hn:nth hp hs[h] with
    |none=>trivial
    |some l0=>rw[Bx hn]at hk;exact hk.oH
   simp only[QO,XB];have cC:=bN _ dT;rw[O5 n1 (QA aA)]at cC;refine iX.rn (H4 hs) c1 JJ cC (λb hb=>?_) λj hj=>bN j (c2 j hj);show (E.O b).bind (λh=>hs.idxOf? h)=some h;rw[hb];exact eP h _ (QA aA)
 have aY:A1 Ec w (nI.wV (H4 hs) vs) us:=by
  rw[K0];exact vk.map _ λs v hm h=>h.rn (H4 hs) JJ ((D4 _).1 aP s hm) λk hk=>bN k (eT k (by rw[Qr,VE];exact⟨s,hm,hk⟩))
 have dO:=rO Bc Ec w us rfl (λb o h=>h) (λh hb=>by
  have hb:(hs[h]?).bind E.β≠none\/(hs[h]?).bind E.τ≠none\/(hs[h]?).bind E.ζ≠none:=hb;cases hh:hs[h]? with
  |none=>rw[hh]at hb;simp at hb
  |some k=>rw[XW,n2];exact (List.getElem?_eq_some_iff.1 hh).1) py WX oM aY
 refine Gm _ _ _ _ ?_ dO;rintro e w' ⟨v,iS,rfl,x2,x3,x4⟩
 -- back in rY zA state
 obtain⟨M,hM⟩:∃M,M=hp.length:=⟨_,rfl⟩;obtain⟨m,hm⟩:∃m,m=hs.length:=⟨_,rfl⟩;rw[<-hM,<-hm];rw[<-hm]at hlen
 let E':Env:=⟨Dg hs M m aI.length iS.β E.β,Dg hs M m aI.length iS.τ E.τ,Ig hs M m iS.O E.O,E.κ,Dg hs M m aI.length iS.ζ E.ζ,iS.I⟩
 have pI:∀k,M<=k->k<M+(aI.length-m)->hf k=.fresh:=by
  intro k h1 h2;have hl:∃l,((aI.drop m).map (lT (Cb hs m M)))[k-M]?=some l:=⟨_,QA (by simp;omega)⟩;obtain⟨l,hl⟩:=hl;have dT:=Nn ((aI.drop m).map (lT (Cb hs m M))) M (k-M) l hl;rw[show M+(k-M)=k by omega]at dT;have xX:Ef.put k l∈Eo hp.length (List.map (lT (Cb hs hs.length hp.length)) (List.drop hs.length aI)):=by rw[<-hM,<-hm];exact dT
  have:=bJ.gF _ (List.mem_append.2 (.inr xX));simp only[zY,Ap,Ah]at this;rw[this,QV (by omega)];rfl
 have gX:∀k,M<=k->k<M+(aI.length-m)->E.β k=none/\E.τ k=none/\E.ζ k=none:=by
  intro k h1 h2;have:=cM k;rw[pI k h1 h2]at this;exact⟨this.1,this.2.1,this.2.2.2⟩
 have dX:∀ {α:Type} (F G:Nat->Option α) (i k:Nat),hs[i]?=some k->Dg hs M m aI.length F G k=F i:=by
  intro α F G i k hk;simp only[Dg,eP i k hk]
 have gK:∀ {α:Type} (F G:Nat->Option α) (i:Nat),m+i<aI.length->Dg hs M m aI.length F G (M+i)=F (m+i):=by
  intro α F G i hi;have:(M+i) ∉ hs:=λh=>by have:=sP _ h;omega
  simp only[Dg,qY _ this];rw[QE (by omega),ZI]
 have cX:∀ {α:Type} (F G:Nat->Option α) (k:Nat),k ∉ hs->¬(M<=k/\k<M+(aI.length-m))->Dg hs M m aI.length F G k=G k:=by
  intro α F G k h1 h2;simp only[Dg,qY _ h1];rw[QD h2]
 have gY:∀k:Nat,(∃i:Nat,hs[i]?=some k)\/(∃i,m+i<aI.length/\k=M+i)\/(k ∉ hs/\¬(M<=k/\k<M+(aI.length-m))):=by
  intro k
  by_cases h1:k∈hs
  .obtain⟨i,hi⟩:=List.mem_iff_getElem?.1 h1;exact .inl ⟨i,hi⟩
  .by_cases h2:M<=k/\k<M+(aI.length-m)
   .exact .inr (.inl ⟨k-M,by omega,by omega⟩)
   .exact .inr (.inr ⟨h1,h2⟩)
 have jN:Ext E w E' w':=by
  refine⟨λk b hk=>?_,λk u hk=>?_,λ_ _ h=>h,λk n hk=>?_,λb o h=>(x2.I0 b o h).1,λb o h=>(x2.I0 b o h).2⟩
  .show Dg hs M m aI.length iS.β E.β k=some b
   rcases gY k with⟨i,hi⟩|⟨i,hi,rfl⟩|⟨h1,h2⟩
   .rw[dX _ _ i k hi];exact x2.cS.β i b (by show (hs[i]?).bind E.β=some b;rw[hi];exact hk)
   .rw[(gX _ (by omega) (by omega)).1]at hk;cases hk
   .rw[cX _ _ k h1 h2];exact hk
  .show Pw u (Dg hs M m aI.length iS.τ E.τ k)
   rcases gY k with⟨i,hi⟩|⟨i,hi,rfl⟩|⟨h1,h2⟩
   .rw[dX _ _ i k hi];exact x2.cS.τ i u (by show (hs[i]?).bind E.τ=some u;rw[hi];exact hk)
   .rw[(gX _ (by omega) (by omega)).2.1]at hk;cases hk
   .rw[cX _ _ k h1 h2];exact .inl hk
  .show Dg hs M m aI.length iS.ζ E.ζ k=some n
   rcases gY k with⟨i,hi⟩|⟨i,hi,rfl⟩|⟨h1,h2⟩
   .rw[dX _ _ i k hi];exact x2.cS.ζ i n (by show (hs[i]?).bind E.ζ=some n;rw[hi];exact hk)
   .rw[(gX _ (by omega) (by omega)).2.2]at hk;cases hk
   .rw[cX _ _ k h1 h2];exact hk
 have yT:∀b o,b<w.heap.size->(¬ ∃h∈hs,E.O b=some h)->iS.I b o->E.I b o:=λb o aA kN hi=>by
  rcases x2.cE b o hi with h|h|h
  .exact h
  .have:w.heap.size<=b:=h
   omega
  .exact absurd h kN
 have aB:B8 B E' w':=by
  refine⟨x2.os.trans hb.os,x2.tape.trans hb.tape,x2.output.trans hb.output,XO hb.size x2.size,λb aA hX=>?_,λb o hi=>?_,x2.eJ,λb o hi=>?_,λb h hO=>?_,hb.cS.ext jN⟩
  .rw[x2.old b (by have:=hb.size;show b<w.heap.size;omega) ?_]
   .exact hb.old b aA hX
   .rintro⟨k,_,hO⟩
    rcases (hb.dG b k hO).2 with h|h
    .omega
    .exact hX h
  .obtain⟨i1,i2⟩:=hb.I0 b o hi
   exact⟨(x2.I0 b o i1).1,by rw[(x2.I0 b o i1).2];exact i2⟩
  .rcases x2.cE b o hi with h|h|⟨k,_,hO⟩
   .exact hb.cE b o h
   .have:w.heap.size<=b:=h
    have:=hb.size;exact .inr (.inl (by omega))
   .exact .inr (hb.dG b k hO).2
  .have hO:Ig hs M m iS.O E.O b=some h:=hO
   unfold Ig at hO
   split at hO
   .rename_i i hi
    obtain⟨o1,o2⟩:=x2.dG b i hi;refine⟨o1,?_⟩;rcases o2 with o2|⟨k,_,hk⟩
    .have:w.heap.size<=b:=o2
     have:=hb.size;exact .inl (by omega)
    .exact (hb.dG b k hk).2
   .split at hO
    .cases hO
    .obtain⟨o1,o2⟩:=hb.dG b h hO
     exact⟨XR o1 x2.size,o2⟩
 have mX:∀b i:Nat,iS.O b=some i->∀k:Nat,(hs[i]?=some k/\i<m\/m<=i/\k=M+(i-m))->E'.O b=some k:=by
  intro b i hi k hk;show Ig hs M m iS.O E.O b=some k;simp only[Ig,hi];rcases hk with⟨h1,h2⟩|⟨h1,rfl⟩
  .rw[QE h2];exact h1
  .rw[QD (by omega)]
 have rD:∀j,j<aI.length->Zj iS j E' (Cb hs m M j):=by
  intro j hj
  by_cases vC:j<m
  .have hk:hs[j]?=some hs[j]:=QA (by omega)
   have e:Cb hs m M j=hs[j]:=by
    unfold Cb;rw[QE (by rw[ZM];exact vC),Ah,hk]
   rw[e];exact⟨dX _ _ j _ hk,dX _ _ j _ hk,dX _ _ j _ hk⟩
  .have e:Cb hs m M j=M+(j-m):=by
    unfold Cb;rw[QD (by rw[ZM];exact vC)]
   have h1:∀ {α:Type} (F G:Nat->Option α),Dg hs M m aI.length F G (M+(j-m))=F j:=by
    intro α F G;have:=gK F G (j-m) (by omega)
    rwa [show m+(j-m)=j by omega]at this
   rw[e];exact⟨h1 _ _,h1 _ _,h1 _ _⟩
 obtain⟨f1,f2⟩:=Qz (hf:=hf) hs ((aI.take m).map (lT (Cb hs m M))) (by simp;omega) n1;refine⟨v,E',rfl,jN,aB,λk=>?_,x4.rn (Cb hs m M) rfl VW λk hk=>rD k (zP k hk)⟩;show bO E' w' k (Hz hf (Dv hs ((aI.take m).map (lT (Cb hs m M)))++Eo M ((aI.drop m).map (lT (Cb hs m M)))) k);rw[Lk,We];rcases gY k with⟨i,hi⟩|⟨i,hi,rfl⟩|⟨h1,h2⟩
 .have hkM:=sP k (QF hi)
  have WS:i<hs.length:=(List.getElem?_eq_some_iff.1 hi).1;rw[QD (by omega)];obtain⟨l,hl⟩:∃l,aI[i]?=some l:=⟨_,QA (by omega)⟩;rw[f2 i k (lT (Cb hs m M) l) hi (by rw[QP,QL,QE (by omega),hl];rfl)];have h3:=x3 i (by omega);have:Ap aI i=l:=by simp[Ap,Ah,hl]
  rw[this]at h3;obtain⟨o1,o2⟩:=nX l (QF hl);have cC:=rD i (by omega);have e:Cb hs m M i=k:=by
   unfold Cb;rw[QE (by rw[ZM];omega),Ah,hi]
  rw[e]at cC;exact h3.rn (Cb hs m M) o1 rfl cC (λb hb=>mX b i hb k (.inl ⟨hi,by omega⟩)) λj hj=>rD j (o2 j hj)
 .rw[QE (by simp;omega)]
  obtain⟨l,hl⟩:∃l,aI[m+i]?=some l:=⟨_,QA hi⟩;rw[ZI,QP,XL,hl];simp only[QO,XB];have h3:=x3 (m+i) hi;have:Ap aI (m+i)=l:=by simp[Ap,Ah,hl]
  rw[this]at h3;obtain⟨o1,o2⟩:=nX l (QF hl);have cC:=rD (m+i) hi;have e:Cb hs m M (m+i)=M+i:=by
   unfold Cb;rw[QD (by rw[ZM];omega),ZI]
  rw[e]at cC;exact h3.rn (Cb hs m M) o1 rfl cC (λb hb=>mX b (m+i) hb _ (.inr ⟨by omega,by congr 1;omega⟩)) λj hj=>rD j (o2 j hj)
 .rw[QD (by simp;omega),f1 k h1]
  refine bO.keep jN (cM k) (cX _ _ k h1 h2) (cX _ _ k h1 h2) rfl (cX _ _ k h1 h2) λb hO=>?_;have kN:¬ ∃h∈hs,E.O b=some h:=by
   rintro⟨k2,aR,vK⟩;rw[hO]at vK;cases vK;exact h1 aR
  refine⟨?_,x2.old b (A4 hb hO) kN,λo hi=>yT b o (A4 hb hO) kN hi⟩;show Ig hs M m iS.O E.O b=some k;have kD:iS.O b=none:=by
   cases hi:iS.O b with
   |none=>rfl
   |some i =>
    rcases (x2.dG b i hi).2 with h|h
    .have h:w.heap.size<=b:=h
     have:=A4 hb hO;omega
    .exact absurd h kN
  simp only[Ig,kD];rw[QD kN];exact hO
theorem Ac9{f:FuncId}{ae vs:List SV}(fR:Enters P cx.gl σ T o f ae)(vj:vs=loose.aF (norm.aN dn ae))
  {hs:List Nat} {ls:List Hl} (e9:ls=Vv dn σ.hp hs) (n1:hs.Nodup) (eT:∀k∈iQ.uA vs,k∈hs) (aP:Bw.dR vs=true) (sP:∀k∈hs,k<σ.hp.length) (yM:∀l∈ls,Db l=true/\∀j∈xL l,j∈hs)
  {r:SV} {aI:List Hl} (rO:Em P cx.gl f (nI.wV (H4 hs) vs) (Xi (lT (H4 hs)) ls) r aI) (hlen:hs.length<=aI.length) (VW:Bw r=true) (zP:∀k∈iQ r,k<aI.length) (nX:∀l∈aI,Db l=true/\∀j∈xL l,j<aI.length):
  Local P cx.gl σ T o ⟨nI (Cb hs hs.length (Ag σ.hp)) r,Dv hs (Xi (lT (Cb hs hs.length (Ag σ.hp))) (takeN hs.length aI))++Eo (Ag σ.hp) (Xi (lT (Cb hs hs.length (Ag σ.hp))) (By hs.length aI)),hs,[]⟩:=by
 rw[Ax,A5,Af,J1,J1];rw[J1]at rO;intro B N E a w ff hf hg st ag bJ hT K' Q hK;obtain⟨us,kL,aG⟩:=fR B N E a w ff hf hg st ag hT;have:=Ny (cx:=cx) (G:=λus w R=>Calls P f ⟨us⟩ w R) (λus w R R' h hc=>hc.mono h) vj e9 n1 eT aP sP yM rO hlen VW zP nX hg st.base st.heap bJ kL;unfold Oper.wp;rw[aG];simp only[Oper.upon];refine Calls.mono this ?_;rintro e w' ⟨v,E',rfl,h1,h2,h3,h4⟩;exact hK v w' E' h1 h2 h3 h4
theorem Ad8{f:FuncId}{vs:List SV}{c:Call}(ho:o.op=.call c)(aQ:c.callee=.value (.func f))(hv:I7 cx σ T c.args.toList c.argTypes.toList=some vs)(eZ:W2 P f):Enters P cx.gl σ T o f vs:=by
 intro B N E a w ff hf hg st ag hT;refine⟨c.args.toList.map a.eval,Ia trivial hg st hT c.args.toList c.argTypes.toList vs (λx hx=>Aj ag (by simp only[ho,Op.operands,Call.operands];simp;exact .inr (by simpa using hx))) hv,?_⟩;obtain⟨fn,body,g1,g2,g3⟩:=eZ;have jO:(⟨c.args.toList.map a.eval⟩:Array Value)=c.args.map a.eval:=by apply XN;simp
 have g4:¬fn.name="runtime.NumGoroutine":=by simpa using g3
 rw[jO];simp[execOp,ho,resolve,aQ,Act.eval,Deferred.ofValue,invoke,callFunc,g1,g2,g4]
theorem Sd{f:FuncId}{vs cs:List SV}{c:Call}{s:Nat}(ho:o.op=.call c)(aQ:c.callee=.value (.tmp s))(hv:I7 cx σ T c.args.toList c.argTypes.toList=some vs)
  (hs:rd cx σ T (.tmp s)=some (.fI f cs)\/cs=[]/\rd cx σ T (.tmp s)=some (.fn f)) (eZ:W2 P f):Enters P cx.gl σ T o f (vs++cs):=by
 intro B N E a w ff hf hg st ag hT;have kL:=Ia trivial hg st hT c.args.toList c.argTypes.toList vs (λx hx=>Aj ag (by simp only[ho,Op.operands,Call.operands];simp;exact .inr (by simpa using hx))) hv;have fH:∀t∈Cw (.tmp s),ff t=A6 σ t:=Aj ag (by simp[ho,Op.operands,Call.operands,aQ]);have nV:∃cv:List Value,a.eval (.tmp s)=.func (.func f) #[] ⟨cv⟩/\A1 E w cs cv:=by
  rcases hs with hs|⟨rfl,hs⟩
  .exact (Aa hs hg st fH hT).pM
  .exact⟨[],(Aa hs hg st fH hT).sW,rfl,by simp⟩
 obtain⟨cv,he,fy⟩:=nV;refine⟨c.args.toList.map a.eval++cv,?_,?_⟩
 .refine⟨by simp[kL.1,fy.1],λi s' v h1 h2=>?_⟩
  have hl:=kL.1
  by_cases aA:i<vs.length
  .rw[QJ aA]at h1
   rw[QJ (by omega)]at h2;exact kL.2 i s' v h1 h2
  .rw[QU (by omega)]at h1
   rw[QU (by omega),<-hl]at h2;exact fy.2 _ s' v h1 h2
 obtain⟨fn,body,g1,g2,g3⟩:=eZ;have jO:(⟨c.args.toList.map a.eval++cv⟩:Array Value)=c.args.map a.eval++(⟨cv⟩:Array Value):=by apply XN;simp
 have g4:¬fn.name="runtime.NumGoroutine":=by simpa using g3
 rw[jO];simp[execOp,ho,resolve,aQ,he,Deferred.ofValue,invoke,callFunc,g1,g2,g4]
theorem Ve{f:FuncId}{fi cs:Array Operand}(ho:o.op=.makeFunc (.func f) fi cs)(iL:fi.toList=[]){vs:List SV}(hv:I7 cx σ T cs.toList []=some vs):Local P cx.gl σ T o ⟨.fI f vs,[],[],[]⟩:=by
 have iL:fi=#[]:=by apply XN;simpa using iL
 subst iL;intro B N E a w ff hf hg st ag _ hT;have hr:=Ia trivial hg st hT cs.toList [] vs (λx hx=>Aj ag (by simp[ho,Op.operands];simpa using hx)) hv;refine Ae st (v:=.func (.func f) #[] (cs.map a.eval)) ?_ rfl ?_
 .simp[execOp,ho,Instr.makeFunc]
 .have:cs.map a.eval=⟨cs.toList.map a.eval⟩:=by apply XN;simp
  rw[this];exact .fI hr.1 hr.2
theorem Hj(hc:Az P cx)(bT:Eh P cx.gl cx.fC){f:FuncId}{vs:List SV}(fR:W2 P f->Enters P cx.gl σ T o f vs)(h:Kt cx σ T f vs K):
  ∃r,K r/\Local P cx.gl σ T o r:=by
 unfold Kt at h
 split at h
 .rename_i sp h1
  have qU:=bT.look h1;have e:V3 (f+1000000)=f:=by
   unfold V3;rw[QD (by rw[ZM];omega),Nat.add_sub_cancel]
  rw[e]at qU;unfold Fl at h;rw[hc.D]at h;obtain⟨DM,qJ⟩:∃x,x=loose.aF (norm.aN dn vs):=⟨_,rfl⟩;simp only[<-qJ]at h;obtain⟨cC,yH⟩:∃x,x=reach σ.hp σ.hp (Lu [] (iQ.uA DM)):=⟨_,rfl⟩;simp only[<-yH]at h;obtain⟨BA,qT⟩:∃x,x=Vv dn σ.hp cC:=⟨_,rfl⟩;simp only[<-qT]at h
  split at h
  .rename_i h3
   simp only[QB]at h3;obtain⟨⟨⟨⟨⟨c1,c2⟩,c3⟩,c4⟩,c5⟩,c6⟩:=h3;obtain⟨eZ,oO⟩:=qU;obtain⟨r,aI,⟨k1,k2⟩,rO⟩:=oO _ _ _ h;simp only[QB]at k1;obtain⟨⟨⟨k3,k4⟩,k5⟩,k6⟩:=k1;have k3:=XA k3;simp only[Af cC,Af aI]at k3 k5 k6 k2;rw[Af]at c4;have:=Ac9 (o:=o) (T:=T) (σ:=σ) (cx:=cx) (fR eZ) qJ qT ((Ht _).1 c1) ((Hf _ _).1 c2) c3 ((Gd _ _).1 c4) ((Gk _ _).1 c5) rO k3 k4 ((Gd _ _).1 k5) ((Oq _ _).1 k6);exact⟨_,k2,this⟩
  .exact h.elim
 .rw[hc.D]at h
  split at h
  .rename_i sp as hs ls h1 h2
   split at h
   .rename_i h3
    simp only[QB]at h3;obtain⟨⟨h3,_⟩,h4⟩:=h3;have qU:=bT.look h1;have e:V3 f=f:=by unfold V3;rw[QE h4]
    rw[e]at qU;obtain⟨eZ,oO⟩:=qU;obtain⟨r,aI,⟨k1,k2,k3,k4⟩,rO⟩:=oO _ _ _ h;have k3:=XA k3;simp only[Af ls,Af aI]at k1 k3 k4;exact⟨_,k4,Age (fR eZ) h2 h3 rO k1 k2 k3⟩
   .exact h.elim
  .exact h.elim
end
section
variable {P:Program} {cx:Cx} {σ:Sy} {T:List Nat} {o:Oper} {K:Out->Prop}
def PS(w:World)(src:Value)(m sz:Nat)(news:List Value):Prop :=
 news.length=m * sz/\(∀v∈news,v.oneCell'=true)/\((src=.slice none 0 0/\m=0)\/∃(a:Addr) (c:Nat),src=.slice (some a) m c/\∀(j:Nat) (u:Value),news[j]?=some u->w.cell? (a.add j)=some u)
theorem Kc{t e ty:TypeId}{ti:TI}(hu:P.underlying t=some (.slice e))(he:Bm P e ti){sz:Nat}(aM:ti.size=sz)(nM:0<sz){w:World}{v:Value}{n:Nat}{xs:List Value}(bU:w.ownsRow 0 e sz v n xs){src:Value}{m:Nat}{news:List Value}(hs:PS w src m sz news)
  (sV:n+m<=maxLen) (hb:(n+m) * ti.bytes<=140737488355328):
  ∃v' w',(Builtin.append_ #[t,t] ty #[v,src]).run P w=.ok v' w'/\w'.ownsRow 0 e sz v' (n+m) (xs++news)/\(v'=.slice none 0 0↔v=.slice none 0 0/\m=0)/\
   ((v'.ownBlock=v.ownBlock/\w.grownBy w' v.ownBlock)\/(v'.ownBlock=some w.heap.size/\w.grownBy w' none))/\(∃a c,v'=.slice a (n+m) c)/\(m=0->v'=v):=by
 obtain⟨i,z,hi,aT,ga,hz,jI,_⟩:=he.info;obtain⟨hl,h1,wa⟩:=hs;have oK:=bU;have shape:∀(v':Value) (w':World) (RU:List Value),w'.ownsRow 0 e sz v' (n+m) RU->∃a c,v'=.slice a (n+m) c:=by
  intro v' w' RU h;rcases h.2 with⟨rfl,e0⟩|⟨g,cap,cur,rfl,_⟩
  .exact⟨none,0,by rw[e0]⟩
  .exact⟨_,_,rfl⟩
 rcases wa with⟨rfl,rfl⟩|⟨a,c,rfl,iY⟩
 .have hn:news=[]:=QQ (by simpa using hl)
  subst hn;refine⟨v,w,?_,by simpa using bU,by simp,.inl ⟨rfl,⟨rfl,rfl,rfl,QK _,λ_ _ _=>rfl⟩⟩,shape v w xs (by simpa using bU),λ_=>rfl⟩;rcases bU.2 with⟨rfl,rfl⟩|⟨g,cap,cur,rfl,hbg,hg,qS,fX,cV,bZ⟩
  .simp[Builtin.append_,run_underlying hu,sizeOf,typeInfo,hi,Builtin.lenOf,Builtin.firstCells]
  .simp[Builtin.append_,run_underlying hu,sizeOf,typeInfo,hi,Builtin.lenOf,Builtin.firstCells,qS,storeCells]
 .have fS:z.cells.size=sz:=by
   have:=(Lz (I:=λ_ _=>False) (w:=w) jI).1;have h2:ti.zero.length=sz:=by
    rw[he.nR,aM]
   simpa[h2] using this.symm
  obtain⟨v',w',hr,r1,r2,r3⟩:=run_append_own (P:=P) w 0 t ty e i z sz ti.bytes hu hi hz (by rw[aT,aM]) ga fS nM v n xs bU a m c news hl iY h1 sV hb (ZD _);refine⟨v',w',hr,r1,r3,?_,shape v' w' _ r1,?_⟩
  case refine_2 =>
   rintro rfl;rcases bU.2 with⟨rfl,rfl⟩|⟨g,cap,cur,rfl,hbg,hg,qS,fX,cV,bZ⟩
   .exact r3.2 ⟨rfl,rfl⟩
   .have cP:=run_append_room (P:=P) w t ty e i hu hi g n cap cur hg a 0 c news (by rw[aT,aM];exact hl) iY h1 (by omega) (by rw[hl,aT,aM,cV];simp only[VF,ZA];exact QH _ qS)
    rw[hr]at cP;simp only[Result.ok.injEq]at cP;rw[cP.1];rfl
  have kE:n+m<=9223372036854775807:=by simpa[maxLen] using sV
  rcases bU.2 with⟨rfl,rfl⟩|⟨g,cap,cur,rfl,hbg,hg,qS,fX,cV,bZ⟩
  .by_cases hm:m=0
   .subst hm
    left
    exact⟨by rw[r3.2 ⟨rfl,rfl⟩],r2⟩
   .right
    have cP:=run_append_nil (P:=P) w t ty e i z hu hi hz a m c news (by rw[aT,aM];exact hl) iY (by omega) (by omega) (by rw[ga];simp only[XD]at hb;omega);rw[hr]at cP;simp only[Result.ok.injEq]at cP;rw[cP.1,cP.2];exact⟨rfl,⟨rfl,rfl,rfl,by simp,λk hk _=>heap_alloc_old w.drew _ hk⟩⟩
  .by_cases fD:n+m<=cap
   .left
    refine⟨?_,r2⟩;have cP:=run_append_room (P:=P) w t ty e i hu hi g n cap cur hg a m c news (by rw[aT,aM];exact hl) iY h1 fD (by rw[hl,aT,aM,cV,<-XJ];exact QH _ fD);rw[hr]at cP;simp only[Result.ok.injEq]at cP;rw[cP.1];rfl
   .right
    have holds:∀j u,xs[j]?=some u->w.cell? ((⟨g,0,none⟩:Addr).add j)=some u:=oK.cells (g:=g) rfl;have cP:=run_append_grow (P:=P) w t ty e i z hu hi hz ⟨g,0,none⟩ n cap xs (by rw[aT,aM];exact oK.1) holds a m c news (by rw[aT,aM];exact hl) iY (by omega) (by omega) (by rw[ga];exact growslice_fits (by omega) hb);rw[hr]at cP;simp only[Result.ok.injEq]at cP;rw[cP.1,cP.2];exact⟨rfl,⟨rfl,rfl,rfl,by simp,λk hk _=>heap_alloc_old w.drew _ hk⟩⟩
theorem I2{E:Env}{w:World}{sz:Nat}{s:SV}{m:ST}{g:Nat->List SV}{v:Value}(h:rowOf sz s=some (m,g))(hr:Rel E w s v):
  ∃(k:Nat) (news:List Value),m.den=(k:Int)/\k<=maxLen/\PS w v k sz news/\(∀i,i<k->(g i).length=sz)/\∀(i j:Nat) (s:SV) (u:Value),i<k->(g i)[j]?=some s->news[i * sz+j]?=some u->RO E.I w s u:=by
 have key:∀(nl:BT),RO E.I w (.sl nl m sz g) v->∃(k:Nat) (news:List Value),m.den=(k:Int)/\k<=maxLen/\PS w v k sz news/\(∀i,i<k->(g i).length=sz)/\∀(i j:Nat) (s:SV) (u:Value),i<k->(g i)[j]?=some s->news[i * sz+j]?=some u->RO E.I w s u:=by
  intro nl eW;rcases eW.aS with⟨rfl,e0,_⟩|⟨a,k,cap,f,rfl,_,e2,e3,OQ,e4,e5,yp,e6,e7⟩
  .exact⟨0,[],by simpa using e0,ZD _,⟨by simp,by simp,.inl ⟨rfl,rfl⟩⟩,by simp,by simp⟩
  .refine⟨k,(List.range (k * sz)).map λq=>f (q / sz) (q % sz),e2,XO e3 OQ,⟨by simp,λu hu=>?_,.inr ⟨a,cap,rfl,λj u hj=>?_⟩⟩,e5,λi j s u hi hs hu=>?_⟩
   .rw[List.mem_map]at hu
    obtain⟨q,hq,rfl⟩:=hu;have hq:q<k * sz:=by simpa using hq
    have aM:0<sz:=by rcases YX sz with h|h;subst h;omega;exact h
    exact yp _ _ ((UX aM).2 hq) (YF _ aM)
   .rw[QP]at hj
    have HY:j<k * sz:=by
     rcases ZS j (k * sz) with h|h
     .exact h
     .rw[QV (by simpa using h)]at hj;cases hj
    have aM:0<sz:=by rcases YX sz with h|h;subst h;omega;exact h
    have hd:=(UX aM).2 HY;have:=(e6 (j / sz) (j % sz) hd (YF _ aM)).1;rw[YI,UU]at this;simp[HY]at hj;subst hj;have qM:=e4 (by rcases YX k with h|h;subst h;omega;exact h);have:a.add j=⟨a.block,a.off+j,none⟩:=by
     obtain⟨b,o,sp⟩:=a;simp only at qM;subst qM;exact add_lit b o j
    rw[this]
    assumption
   .have hsj:j<sz:=by rw[<-e5 i hi];exact (List.getElem?_eq_some_iff.1 hs).1
    have aA:i * sz+j<k * sz:=by
     have:(i+1) * sz<=k * sz:=QH _ hi;rw[XJ]at this;omega
    rw[QP]at hu;simp[aA]at hu;have h1:(i * sz+j) / sz=i:=by rw[YI,Nat.mul_add_div (by omega),Nat.div_eq_of_lt hsj];omega
    rw[h1,VG hsj]at hu;subst hu;exact e7 i j s hi hs
 unfold rowOf at h
 split at h
 .rename_i nl m' cN g'
  split at h
  .rename_i e
   simp only[Option.some.injEq,Prod.mk.injEq]at h;obtain⟨rfl,rfl⟩:=h;have e:cN=sz:=by simpa using e
   subst e;exact key nl hr.aS
  .cases h
 .rename_i nl m' cN g' h0
  split at h
  .rename_i e
   simp only[Option.some.injEq,Prod.mk.injEq]at h;obtain⟨rfl,rfl⟩:=h;have e:cN=sz:=by simpa using e
   subst e;exact key nl hr.kJ.1
  .cases h
 .cases h
theorem Ok{B:Bs}{N:Nat}{E:Env}{a:Act}{w:World}{ff:Nat->SG}{hf:Nat->Hl}(st:St B N E a w ff hf){h:Nat}{e:TypeId}{sz:Nat}{v v':Value}{n m:Nat}{xs news:List Value}{w':World}
  (hold:(hf h=.fresh/\v=.slice none 0 0)\/∃nt,hf h=.tail e nt sz/\E.τ h=some v/\(∀b,v.ownBlock=some b->E.O b=some h/\∀o,n * sz<=o->¬E.I b o))
  (h1:∀u∈xs++news,u.oneCell'=true)
  (bU:w.ownsRow 0 e sz v n xs) (cA:w'.ownsRow 0 e sz v' (n+m) (xs++news)) (dN:(v'.ownBlock=v.ownBlock/\w.grownBy w' v.ownBlock)\/(v'.ownBlock=some w.heap.size/\w.grownBy w' none)) (wc:∃a c,v'=.slice a (n+m) c) (qX:hf h≠.fresh->m=0->v'=v) (nt':ST) (mG:nt'.den=((n+m:Nat):Int)):
  ∃E',Ext E w E' w'/\B8 B E' w'/\(∀k,bO E' w' k (aL hf h (.tail e nt' sz) k))/\E'.τ h=some v'/\(∀b o,v'.ownBlock=some b->o<(n+m) * sz->E'.I b o)/\(∀b o,v'.ownBlock=some b->o<(n+m) * sz->w'.cell? ⟨b,o,none⟩=(xs++news)[o]?):=by
 have hb:=st.base;have eL:∀b,v.ownBlock=some b->E.O b=some h/\(∀o,n * sz<=o->¬E.I b o)/\b<w.heap.size:=by
  intro b cB;rcases hold with⟨_,rfl⟩|⟨_,_,_,h3⟩
  .simp[Value.ownBlock]at cB
  .exact⟨(h3 b cB).1,(h3 b cB).2,A4 hb (h3 b cB).1⟩
 let E':Env:=⟨E.β,aL E.τ h (some v'),λb=>if v'.ownBlock=some b then some h else E.O b,E.κ,E.ζ,λb o=>E.I b o\/(v'.ownBlock=some b/\o<(n+m) * sz)⟩
 have xm:∀b o,v.ownBlock=some b->o<n * sz->w.cell? ⟨b,o,none⟩=xs[o]?:=by
  intro b o cB ho;rcases bU.2 with⟨rfl,_⟩|⟨g,cap,cur,rfl,_,BX,qS,_,cV,bZ⟩
  .simp[Value.ownBlock]at cB
  .simp[Value.ownBlock]at cB
   subst cB;rw[cell_of_row w g o cur e (0,0) BX,<-bZ,QL,QE ho];simp
 have uI:∀b o,v'.ownBlock=some b->o<(n+m) * sz->w'.cell? ⟨b,o,none⟩=(xs++news)[o]?:=by
  intro b o cB ho;rcases cA.2 with⟨rfl,_⟩|⟨g,cap,cur,rfl,_,BX,qS,_,cV,bZ⟩
  .simp[Value.ownBlock]at cB
  .simp[Value.ownBlock]at cB
   subst cB;rw[cell_of_row w' g o cur e (0,0) BX,<-bZ,QL,QE ho];simp
 have fG:w'.os=w.os/\w'.tape=w.tape/\w'.output=w.output/\w.heap.size<=w'.heap.size:=by
  rcases dN with⟨_,hg⟩|⟨_,hg⟩<;>exact⟨hg.os,hg.tape,hg.output,hg.size⟩
 have fN:∀b,b<w.heap.size->v.ownBlock≠some b->w'.heap[b]?=w.heap[b]?:=by
  intro b aA aV;rcases dN with⟨_,hg⟩|⟨_,hg⟩
  .exact hg.block b aA (λe=>aV e.symm)
  .exact hg.block b aA (by simp)
 have hI:∀b o,E.I b o->w'.cell? ⟨b,o,none⟩=w.cell? ⟨b,o,none⟩:=by
  intro b o hi;have aA:=hb.eJ b o hi
  by_cases rQ:v.ownBlock=some b
  .have ho:o<n * sz:=by
    rcases ZS o (n * sz) with h|h
    .exact h
    .exact absurd hi ((eL b rQ).2.1 o h)
   rcases dN with⟨hs,_⟩|⟨_,hg⟩
   .rw[uI b o (by rw[hs];exact rQ) (by rw[XJ];omega),xm b o rQ ho,QJ (by rw[bU.1];exact ho)]
   .simp only[World.cell?]
    rw[hg.block b aA (by simp)]
  .simp only[World.cell?]
   rw[fN b aA rQ]
 have hx:Ext E w E' w':=by
  refine⟨λ_ _ h=>h,λk u hk=>?_,λ_ _ h=>h,λ_ _ h=>h,λb o h=>.inl h,hI⟩;show aL E.τ h (some v') k=some u\/∃a m' c a' og c',u=.slice a m' c/\aL E.τ h (some v') k=some (.slice a' og c')/\m'<og;unfold aL
  by_cases e:k=h
  .subst e
   rw[QE rfl];rcases hold with⟨cI,_⟩|⟨nt,aV,h2,_⟩
   .have:=st.heap k
    rw[cI]at this;rw[this.2.1]at hk;cases hk
   .rw[h2]at hk
    cases hk
    by_cases hm:m=0
    .left;rw[qX (by rw[aV];simp) hm]
    .right
     obtain⟨a',c',rfl⟩:=wc;have:∃a c,v=.slice a n c:=by
      rcases bU.2 with⟨rfl,e0⟩|⟨g,cap,cur,rfl,_⟩
      .exact⟨none,0,by rw[e0]⟩
      .exact⟨_,_,rfl⟩
     obtain⟨a,c,rfl⟩:=this;exact⟨a,n,c,a',n+m,c',rfl,rfl,by omega⟩
  .rw[QD e];exact .inl hk
 have kV:∀b,v'.ownBlock=some b->b<w'.heap.size:=λb cB=>(cA.lt b cB).2;have bV:∀b,v'.ownBlock=some b->B.w0.heap.size<=b\/B.X b:=by
  intro b cB;rcases dN with⟨hs,_⟩|⟨hs,_⟩
  .exact (hb.dG b h (eL b (by rw[<-hs];exact cB)).1).2
  .rw[hs]at cB;cases cB;exact .inl hb.size
 refine⟨E',hx,⟨fG.1.trans hb.os,fG.2.1.trans hb.tape,fG.2.2.1.trans hb.output,XO hb.size fG.2.2.2,λb aA hX=>?_,λb o hi=>?_,λb o hi=>?_,λb o hi=>?_,λb k hO=>?_,hb.cS.ext hx⟩,λk=>?_,by simp[E',aL],λb o cB ho=>.inr ⟨cB,ho⟩,uI⟩
 .have aM:=hb.size
  rw[fN b (by omega) ?_]
  .exact hb.old b aA hX
  .intro rQ
   rcases (hb.dG b h (eL b rQ).1).2 with h|h
   .omega
   .exact hX h
 .obtain⟨i1,i2⟩:=hb.I0 b o hi
  exact⟨.inl i1,by rw[hI b o i1];exact i2⟩
 .rcases hi with hi|⟨cB,_⟩
  .exact XR (hb.eJ b o hi) fG.2.2.2
  .exact kV b cB
 .rcases hi with hi|⟨cB,ho⟩
  .exact hb.cE b o hi
  .exact .inr (bV b cB)
 .have hO:(if v'.ownBlock=some b then some h else E.O b)=some k:=hO
  split at hO
  .rename_i cB
   exact⟨kV b cB,bV b cB⟩
  .obtain⟨o1,o2⟩:=hb.dG b k hO
   exact⟨XR o1 fG.2.2.2,o2⟩
 .by_cases e:k=h
  .subst e
   simp only[aL,QE];refine⟨v',n+m,xs++news,by simp[E',aL],cA,mG,h1,λb cB=>⟨by show (if v'.ownBlock=some b then some k else E.O b)=some k;rw[QE cB],λo ho hi=>?_⟩⟩;rcases hi with hi|⟨_,BO⟩
   .rcases dN with⟨hs,_⟩|⟨hs,_⟩
    .exact (eL b (by rw[<-hs];exact cB)).2.1 o (by rw[XJ]at ho;omega) hi
    .rw[hs]at cB;cases cB
     have:=hb.eJ _ _ hi;omega
   .omega
  .simp only[aL,QD e]
   refine bO.keep hx (st.heap k) rfl (by simp[E',aL,e]) rfl rfl λb hO=>?_;have aA:=A4 hb hO;have aV:v'.ownBlock≠some b:=by
    intro cB;rcases dN with⟨hs,_⟩|⟨hs,_⟩
    .have:=(eL b (by rw[<-hs];exact cB)).1
     rw[hO]at this;exact e (Option.some.inj this)
    .rw[hs]at cB;cases cB;omega
   have HI:v.ownBlock≠some b:=by
    intro cB;have:=(eL b cB).1;rw[hO]at this;exact e (Option.some.inj this)
   refine⟨by show (if v'.ownBlock=some b then some h else E.O b)=some k;rw[QD aV];exact hO,fN b aA HI,λo hi=>?_⟩;rcases hi with hi|⟨cB,_⟩
   .exact hi
   .exact absurd cB aV
end
end Go.Sx
