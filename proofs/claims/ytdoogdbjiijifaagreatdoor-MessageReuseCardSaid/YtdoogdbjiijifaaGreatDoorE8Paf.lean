/- A part of the proof: contracts of functions, or the executor and its soundness. No conditions. -/
import Derived.Test.YtdoogdbjiijifaaGreatDoorE8Pae
namespace Go.Sx
open Go
section
variable {P:Program} {cx:Cx} {σ:Sy} {T:List Nat} {o:Oper} {K:Out->Prop}
theorem Hm(D:Dn):∀(ls:List Hl) (i:Nat),(cN D ls)[i]?=(ls[i]?).map λl=>match l with
  |.aG ty cs=>.aG ty (loose.aH (norm.aM D cs))
  |.own ty n sz gr f=>.own ty (.a (D.i n)) sz gr f
  |l=>l
 | [],i=>by simp[cN]
 |l :: ls,i=>by
  cases i with
  |zero=>cases l<;>simp[cN,cN.aH]
  |succ i=>cases l<;>simp[cN,Hm D ls i]
theorem Jk(D:Dn):∀(ls:List Hl),(cN D ls).length=ls.length
 | []=>rfl
 |l :: ls=>by cases l<;>simp[cN,Jk D ls]
def PU:Hl->Prop
 |.aG _ cs=>∀c∈cs,An c=true
 |.own ..=>True
 |.mN ..=>True
 |.gone=>True
 |_=>False
theorem Gc:∀ {ls:List Hl},G9 ls=true->∀ {i:Nat} {l:Hl},ls[i]?=some l->PU l
 | [],_,i,l,h=>by simp at h
 |l0 :: ls,hp,i,l,h=>by
  cases i with
  |zero =>
   simp at h;subst h;cases l0<;>simp only[G9,XD,QE]at hp<;>first|trivial|skip
   exact λc hc=>(Cv _).1 (by simpa[An] using hp.1) c hc
  |succ i =>
   simp at h;cases l0<;>simp only[G9,XD,QE]at hp<;>first|exact Gc hp h|exact Gc hp.2 h
theorem bQ.move{E E':Env}{w:World}{i k:Nat}{l:Hl}(h:bQ E w i l)(ho:PU l)(hI:E'.I=E.I)(fQ:E'.β k=E.β i)(oA:E'.τ k=E.τ i)(FM:E'.ζ k=E.ζ i)(hO:∀b,E.O b=some i->E'.O b=some k):bQ E' w k l:=by
 cases l with
 |fresh=>exact ho.elim
 |gone=>trivial
 |aG ty cs =>
  obtain⟨b,C,k1,k2,k3,k4,k5,k6,k7⟩:=h;exact⟨b,C,by rw[fQ];exact k1,hO b k2,k3,k4,λj s v p q=>(k5 j s v p q).plain hI (ho s (QK p)),k6,by rw[hI];exact k7⟩
 |tail ty n sz=>exact ho.elim
 |row ty n sz f=>exact ho.elim
 |own ty n sz gr f =>
  obtain⟨v,m,xs,k1,k2,k3,k4,k5,k6,k7⟩:=h;exact⟨v,m,xs,by rw[oA];exact k1,by rw[FM];exact k2,k3,k4,k5,⟨k6.1,by rw[hI];exact k6.2⟩,λb hb=>⟨hO b (k7 b hb).1,by rw[hI];exact (k7 b hb).2⟩⟩
 |mN T e s =>
  obtain⟨b,p,v,k1,k2,k3,k4,k5,k6,k7,k8⟩:=h;exact⟨b,p,v,by rw[fQ];exact k1,hO b k2,k3,k4,k5,k6,by rw[hI];exact k7,λg hg=>⟨hO g (k8 g hg).1,by rw[hI];exact (k8 g hg).2⟩⟩
 |cZ F=>exact ho.elim
 |iF es=>exact ho.elim
 |vec ty n g sz f=>exact ho.elim
 |bO c fr s pd=>exact ho.elim
theorem Aa4(m m':Nat):∀(cs:List SV),H6.zT m m' cs=true↔∀c∈cs,H6 m m' c=true
 | []=>by simp[H6.zT]
 |c :: cs=>by simp[H6.zT,Aa4 m m' cs]
theorem Aky(m a:Nat):∀(cs:List SV),ik.MW m a cs=cs.map (ik m a)
 | []=>rfl
 |c :: cs=>by simp[ik.MW,Aky m a cs]
theorem Ah8{m a:Nat}{s:SV}(h1:∀nl n h,s≠.bV nl n h)(h2:∀vs,s≠.aJ vs):ik m a s=s:=by
 cases s<;>first|rfl|exact absurd rfl (h1 _ _ _)|exact absurd rfl (h2 _)
theorem Rel.res{E E':Env}{w:World}{m m' a:Nat}{s:SV}{v:Value}(h:Rel E w s v)(hI:E'.I=E.I)(oA:∀k u,m<=k->k<m'->E.τ k=some u->E'.τ (k-m+a)=some u)(hp:H6 m m' s=true):Rel E' w (ik m a s) v:=by
 induction h with
 |ro h =>
  rename_i s v;have:=Ah8 (m:=m) (a:=a) (s:=s) (λ_ _ _ e=>by subst e;cases h) (λ_ e=>by subst e;cases h);rw[this];exact .ro (by rw[hI];exact h)
 |bV ht hk =>
  obtain⟨a0,m0,c0,t1,t2⟩:=hk;simp only[H6,QE,ZE]at hp;exact .bV ht ⟨a0,m0,c0,oA _ _ (XJ hp.1) hp.2 t1,t2⟩
 |aJ hl _ ih =>
  simp only[ik,Aky];refine .aJ (by simp[hl]) λi s v h1 h2=>?_;rw[QR]at h1;cases e:(‹List SV›)[i]? with
  |none=>rw[e]at h1;cases h1
  |some s' =>
   rw[e]at h1;cases h1;simp only[H6]at hp;exact ih i s' v e h2 ((Aa4 m m' _).1 hp s' (QK e))
 |agg hl hh _=>exact (Rel.agg hl hh).plain hI hp
 |ptr hb hv=>simp[H6,An]at hp
 |dQ hr ht=>simp[H6,An]at hp
 |dG hb hm hv=>simp[H6,An]at hp
 |cS hb hz hv=>simp[H6,An]at hp
 |cK hv ho=>simp[H6,An]at hp
 |bP hb hv=>simp[H6,An]at hp
 |iZ hb hn hv=>simp[H6,An]at hp
 |yv hb hv=>simp[H6,An]at hp
 |cP ht hk=>simp[H6,An]at hp
 |jP ht hk=>simp[H6,An]at hp
 |eZ hl _=>simp[H6,An]at hp
 |gI hl _=>simp[H6,An]at hp
theorem Lx(hf:Nat->Hl):∀(a b:List Ef),Hy hf (a++b)=Hy (Hy hf a) b
 | [],b=>rfl
 |e :: a,b=>by show Hy (dc hf e) (a++b)=_;rw[Lx];rfl
theorem Vd:∀(ls:List Hl) (a:Nat) (hf:Nat->Hl) (k:Nat),Hy hf (E7 a ls) k=if a<=k/\k<a+ls.length then (ls[k-a]?).getD .gone else hf k
 | [],a,hf,k=>by
  rw[QA (λh=>by have:=h.1;have h2:k<a+0:=h.2;omega)];rfl
 |l :: ls,a,hf,k=>by
  show Hy (aR hf a l) (E7 (a+1) ls) k=_;rw[Vd ls (a+1) (aR hf a l) k]
  by_cases e:k=a
  .subst e
   rw[QA (by omega),QB (by simp)];simp[aR]
  .by_cases e2:a+1<=k/\k<a+1+ls.length
   .rw[QB e2,QB (by simp;omega)]
    obtain⟨q,hq⟩:∃q,k-a=q+1:=⟨k-a-1,by omega⟩;rw[hq,show k-(a+1)=q by omega];simp
   .rw[QA e2,QA (by simp;omega)]
    simp[aR,e]
theorem Nf:∀(ls:List Hl) (a i:Nat) (l:Hl),ls[i]?=some l->Ef.put (a+i) l∈E7 a ls
 | [],a,i,l,h=>by simp at h
 |l0 :: ls,a,i,l,h=>by
  cases i with
  |zero=>simp at h;subst h;exact XA ..
  |succ i=>simp at h;rw[show a+(i+1)=a+1+i by omega];exact XB _ (Nf ls (a+1) i l h)
theorem Qm{hf:Nat->Hl}:∀(hs:List Nat) (ls:List Hl),ls.length=hs.length->hs.Nodup->
  (∀k,k ∉ hs->Hy hf (D8 hs ls) k=hf k)/\∀(i k:Nat) (l:Hl),hs[i]?=some k->ls[i]?=some l->Hy hf (D8 hs ls) k=l
 | [],ls,hl,_=>by
  have:ls=[]:=XN (by simpa using hl);subst this;exact⟨λk _=>rfl,by simp⟩
 |h :: hs,[],hl,_=>by simp at hl
 |h :: hs,l :: ls,hl,hn=>by
  rw[List.nodup_cons]at hn;obtain⟨a,b⟩:=Qm (hf:=aR hf h l) hs ls (by simpa using hl) hn.2;refine⟨λk hk=>?_,λi k l' h1 h2=>?_⟩
  .rw[XS,not_or]at hk
   show Hy (aR hf h l) (D8 hs ls) k=hf k;rw[a k hk.2];simp[aR,hk.1]
  .show Hy (aR hf h l) (D8 hs ls) k=l'
   cases i with
   |zero =>
    simp at h1 h2;subst h1 h2;rw[a h hn.1];simp[aR]
   |succ i=>simp at h1 h2;exact b i k l' h1 h2
theorem D9(_hg:True){B:Bs}{N:Nat}{E:Env}{a:Act}{w:World}{ff:Nat->SG}{hf:Nat->Hl}(ep:Fh B cx.gl)(st:St B N E a w ff hf)(hT:Bh (Ac σ.gm T)):
  ∀(xs:List Operand) (ts:List TypeId) (vs:List SV),(∀x∈xs,∀s∈Ct x,ff s=Bd σ s)->Gt cx σ T xs ts=some vs->A6 E w vs (xs.map a.eval):=by
 intro xs
 induction xs with
 |nil=>intro ts vs _ h;simp[Gt]at h;subst h;exact .nil
 |cons x xs ih =>
  intro ts vs eT h;cases ts with
  |nil =>
   simp only[Gt]at h
   split at h
   .rename_i v us h1 h2
    cases h;exact .cons (Aa h1 ep st (eT x (XA ..)) hT) (ih [] us (λy hy=>eT y (XB _ hy)) h2)
   .cases h
  |cons t ts =>
   simp only[Gt]at h
   split at h
   .rename_i v us h1 h2
    cases h;exact .cons (Jf h1 ep st (eT x (XA ..)) hT) (ih ts us (λy hy=>eT y (XB _ hy)) h2)
   .cases h
def Enters(P:Program)(gl:List (Nat×SV))(σ:Sy)(T:List Nat)(o:Oper)(f:FuncId)(vs:List SV):Prop :=
 ∀(B:Bs) (N:Nat) (E:Env) (a:Act) (w:World) (ff:Nat->SG) (hf:Nat->Hl),Fh B gl->St B N E a w ff hf->DJ σ ff o->Bh (Ac σ.gm T)->∃us:List Value,A6 E w vs us/\(execOp a.eval o).run P w=.ok (.enter f ⟨us⟩) w
def Dp{α:Type}(hs:List Nat)(M m m':Nat)(F G:Nat->Option α)(k:Nat):Option α :=
 match hs.idxOf? k with
 |some i=>F i
 |none=>if M<=k/\k<M+(m'-m) then F (m+(k-M)) else G k
open Classical in
noncomputable def Im(hs:List Nat)(M m:Nat)(F G:Nat->Option Nat)(b:Nat):Option Nat :=
 match F b with
 |some i=>if i<m then hs[i]? else some (M+(i-m))
 |none=>if ∃k∈hs,G b=some k then none else G b
theorem Aeu{f:FuncId}{vs:List SV}(gO:Enters P cx.gl σ T o f vs)
  {as:List SV} {hs:List Nat} {ls:List Hl} (wP:Fu σ.hp (loose.aH (norm.aM dn vs)) 0=some (as,hs,ls)) (gJ:G9 (cN dn ls)=true)
  {r:SV} {aK:List Hl} (sZ:E4 P cx.gl f as (cN dn ls) r aK) (hr:H6 ls.length aK.length r=true) (kA:G9 aK=true) (hlen:ls.length<=aK.length):
  Local P cx.gl σ T o ⟨ik ls.length (Ah σ.hp) r,D8 hs (takeN ls.length aK)++E7 (Ah σ.hp) (C4 ls.length aK),hs,[]⟩:=by
 rw[A8,Bi,Af];intro B N E a w ff hf hg st ag bK hT K' Q hK;have hb:=st.base;obtain⟨n1,n2,n3,n4⟩:=G6 σ.hp _ 0 as hs ls wP;obtain⟨us,jY,aV⟩:=gO B N E a w ff hf hg st ag hT;have wi:A6 E w (loose.aH (norm.aM dn vs)) us:=by
  rw[Ce,Ci];exact (jY.map _ λs v _ h=>h.norm).map _ λs v _ h=>h.loose
 -- qZ dh state
 let Ec:Env:=⟨λi=>(hs[i]?).bind E.β,λi=>(hs[i]?).bind E.τ,λb=>(E.O b).bind λh=>hs.idxOf? h,λ_=>none,λi=>(hs[i]?).bind E.ζ,E.I⟩
 let Bc:Bs:=⟨w,λb=>∃h∈hs,E.O b=some h,E.I,Ec.β,Ec.τ,Ec.ζ,[]⟩
 have NM:Cl Bc Ec w:=by
  refine⟨rfl,rfl,rfl,QH _,λ_ _ _=>rfl,λb o h=>⟨h,rfl⟩,hb.dR,λb o h=>.inl h,λb i h=>?_,⟨λ_ _ h=>h,λ_ _ h=>.inl h,λ_ _ h=>h⟩⟩;have h:(E.O b).bind (λh=>hs.idxOf? h)=some i:=h;cases hO:E.O b with
  |none=>rw[hO]at h;cases h
  |some k =>
   rw[hO]at h;simp only[ZS]at h;have hk:k∈hs:=by
    rw[ZX]at h;obtain⟨aC,he,_⟩:=h;rw[<-he];exact XL aC
   exact⟨(hb.cR b k hO).1,.inr ⟨k,hk,hO⟩⟩
 have VG:Fh Bc cx.gl:=λg s h=>⟨(hg g s h).1.mono (λb o h=>(hb.I0 b o h).1) (λb o h=>(hb.I0 b o h).2),XP (hg g s h).2.1 hb.size,
  λ⟨k,_,hO⟩=>by
   rcases (hb.cR g k hO).2 with h1|h1
   .exact absurd (hg g s h).2.1 (Nat.not_lt.2 h1)
   .exact (hg g s h).2.2.1 h1,
  (hg g s h).2.2.2.same (hb.dZ g (hg g s h).2.1 (hg g s h).2.2.1)⟩
 have IW:Ec.I=E.I:=rfl;have eE:∀(i k:Nat),hs[i]?=some k->hs.idxOf? k=some i:=by
  intro i k hk;rw[ZX];obtain⟨aC,he⟩:=List.getElem?_eq_some_iff.1 hk;refine⟨aC,by simp[he],λj hj=>?_⟩;have aY:hs[j]≠hs[i]:=List.pairwise_iff_getElem.1 n1 j i (by omega) aC hj;rw[<-he];simpa using aY
 have bq:∀(i k:Nat),hs.idxOf? k=some i->hs[i]?=some k:=by
  intro i k hk;rw[ZX]at hk;obtain⟨aC,he,_⟩:=hk;rw[QC aC,he]
 have sG:∀k,k ∉ hs->hs.idxOf? k=none:=by
  intro k hk;cases h:hs.idxOf? k with
  |none=>rfl
  |some i=>exact absurd (QK (bq i k h)) hk
 have uB:∀k∈hs,k<σ.hp.length:=by
  intro k hk;obtain⟨i,hi⟩:=List.mem_iff_getElem?.1 hk;obtain⟨l,m1,_⟩:=n3 i k hi;rw[Aj]at m1;exact (List.getElem?_eq_some_iff.1 m1).1
 have pJ:∀h,bQ Ec w h (Aq (cN dn ls) h):=by
  intro h;simp only[Aq,Aj,Hm];cases hl:ls[h]? with
  |none =>
   have:hs[h]?=none:=by rw[List.getElem?_eq_none_iff]at hl ⊢;omega
   simp only[YY,ZT];exact⟨by show (hs[h]?).bind E.β=none;rw[this];rfl,by show (hs[h]?).bind E.τ=none;rw[this];rfl,rfl,by show (hs[h]?).bind E.ζ=none;rw[this];rfl⟩
  |some l =>
   have aC:h<hs.length:=by rw[<-n2];exact (List.getElem?_eq_some_iff.1 hl).1
   obtain⟨l',m1,m2,m3⟩:=n3 h hs[h] (QC aC);rw[hl]at m2;cases m2;have hk:=st.heap hs[h];rw[bK.tJ _ (XL aC),Bo m1]at hk;have fT:PU ((λl=>match l with|.aG ty cs=>Hl.aG ty (loose.aH (norm.aM dn cs))|.own ty n sz gr f=>.own ty (.a (dn.i n)) sz gr f|l=>l) l):=Gc gJ (i:=h) (by rw[Hm,hl];rfl);have GX:bQ E w hs[h] ((λl=>match l with|.aG ty cs=>Hl.aG ty (loose.aH (norm.aM dn cs))|.own ty n sz gr f=>.own ty (.a (dn.i n)) sz gr f|l=>l) l):=by
    cases l with
    |aG ty cs =>
     obtain⟨b,C,k1,k2,k3,k4,k5,k6⟩:=hk.eC;have cW:A6 E w (loose.aH (norm.aM dn cs)) C.toList:=by
      rw[Ce,Ci];exact (k4.map _ λs v _ h=>h.norm).map _ λs v _ h=>h.loose
     exact⟨b,C,k1,k2,k3,by have:=cW.1;simpa using this.symm,λi s v p q=>cW.2 i s v p (by simpa using q),λv hv=>k5 v (by simpa using hv),k6⟩
    |_=>exact hk
   simp only[QP,XG];refine GX.move fT IW ?_ ?_ ?_ λb hb=>?_
   .show (hs[h]?).bind E.β=_;rw[QC aC];rfl
   .show (hs[h]?).bind E.τ=_;rw[QC aC];rfl
   .show (hs[h]?).bind E.ζ=_;rw[QC aC];rfl
   .show (E.O b).bind (λh=>hs.idxOf? h)=some h
    rw[hb];exact eE h _ (QC aC)
 have bF:A6 Ec w as us:=n4 E Ec w _ IW (λi h hi=>by
  refine⟨?_,?_⟩
  .show (hs[0+i]?).bind E.β=E.β h
   rw[XE,hi];rfl
  .show (hs[0+i]?).bind E.τ=E.τ h
   rw[XE,hi];rfl) wi
 have dW:=sZ Bc Ec w us rfl (λb o h=>h) (λh hb=>by
  have hb:(hs[h]?).bind E.β≠none\/(hs[h]?).bind E.τ≠none\/(hs[h]?).bind E.ζ≠none:=hb;cases hh:hs[h]? with
  |none=>rw[hh]at hb;simp at hb
  |some k=>rw[Jk,n2];exact (List.getElem?_eq_some_iff.1 hh).1) NM VG pJ bF
 -- qZ operation
 unfold Oper.wp;rw[aV];simp only[Oper.upon];refine dW.mono ?_;rintro e w' ⟨v,iV,rfl,x2,x3,x4⟩
 -- back in qZ de state
 obtain⟨M,hM⟩:∃M,M=σ.hp.length:=⟨_,rfl⟩;obtain⟨m,hm⟩:∃m,m=ls.length:=⟨_,rfl⟩;rw[<-hM,<-hm]at hK;rw[<-hm]at hlen hr
 let E':Env:=⟨Dp hs M m aK.length iV.β E.β,Dp hs M m aK.length iV.τ E.τ,Im hs M m iV.O E.O,E.κ,Dp hs M m aK.length iV.ζ E.ζ,iV.I⟩
 have qC:∀k,M<=k->k<M+(aK.length-m)->hf k=.fresh:=by
  intro k h1 h2;have hl:∃l,(aK.drop m)[k-M]?=some l:=⟨_,QC (by simp;omega)⟩;obtain⟨l,hl⟩:=hl;have dP:=Nf (aK.drop m) M (k-M) l hl;rw[show M+(k-M)=k by omega]at dP;have bk:Ef.put k l∈E7 σ.hp.length (List.drop ls.length aK):=by rw[<-hM,<-hm];exact dP
  have:=bK.fK _ (List.mem_append.2 (.inr bk));simp only[dp,Aq,Aj]at this;rw[this,QV (by omega)];rfl
 have gN:∀k,M<=k->k<M+(aK.length-m)->E.β k=none/\E.τ k=none/\E.ζ k=none:=by
  intro k h1 h2;have:=st.heap k;rw[qC k h1 h2]at this;exact⟨this.1,this.2.1,this.2.2.2⟩
 have dM:∀ {α:Type} (F G:Nat->Option α) (i k:Nat),hs[i]?=some k->Dp hs M m aK.length F G k=F i:=by
  intro α F G i k hk;simp only[Dp,eE i k hk]
 have gE:∀ {α:Type} (F G:Nat->Option α) (i:Nat),m+i<aK.length->Dp hs M m aK.length F G (M+i)=F (m+i):=by
  intro α F G i hi;have:(M+i) ∉ hs:=λh=>by have:=uB _ h;omega
  simp only[Dp,sG _ this];rw[QB (by omega),ZK]
 have cV:∀ {α:Type} (F G:Nat->Option α) (k:Nat),k ∉ hs->¬(M<=k/\k<M+(aK.length-m))->Dp hs M m aK.length F G k=G k:=by
  intro α F G k h1 h2;simp only[Dp,sG _ h1];rw[QA h2]
 have gQ:∀k:Nat,(∃i:Nat,hs[i]?=some k)\/(∃i,m+i<aK.length/\k=M+i)\/(k ∉ hs/\¬(M<=k/\k<M+(aK.length-m))):=by
  intro k
  by_cases h1:k∈hs
  .obtain⟨i,hi⟩:=List.mem_iff_getElem?.1 h1;exact .inl ⟨i,hi⟩
  .by_cases h2:M<=k/\k<M+(aK.length-m)
   .exact .inr (.inl ⟨k-M,by omega,by omega⟩)
   .exact .inr (.inr ⟨h1,h2⟩)
 have nP:Ext E w E' w':=by
  refine⟨λk b hk=>?_,λk u hk=>?_,λ_ _ h=>h,λk n hk=>?_,λb o h=>(x2.I0 b o h).1,λb o h=>(x2.I0 b o h).2⟩
  .show Dp hs M m aK.length iV.β E.β k=some b
   rcases gQ k with⟨i,hi⟩|⟨i,hi,rfl⟩|⟨h1,h2⟩
   .rw[dM _ _ i k hi];exact x2.cL.β i b (by show (hs[i]?).bind E.β=some b;rw[hi];exact hk)
   .rw[(gN _ (by omega) (by omega)).1]at hk;cases hk
   .rw[cV _ _ k h1 h2];exact hk
  .show Pm u (Dp hs M m aK.length iV.τ E.τ k)
   rcases gQ k with⟨i,hi⟩|⟨i,hi,rfl⟩|⟨h1,h2⟩
   .rw[dM _ _ i k hi];exact x2.cL.τ i u (by show (hs[i]?).bind E.τ=some u;rw[hi];exact hk)
   .rw[(gN _ (by omega) (by omega)).2.1]at hk;cases hk
   .rw[cV _ _ k h1 h2];exact .inl hk
  .show Dp hs M m aK.length iV.ζ E.ζ k=some n
   rcases gQ k with⟨i,hi⟩|⟨i,hi,rfl⟩|⟨h1,h2⟩
   .rw[dM _ _ i k hi];exact x2.cL.ζ i n (by show (hs[i]?).bind E.ζ=some n;rw[hi];exact hk)
   .rw[(gN _ (by omega) (by omega)).2.2]at hk;cases hk
   .rw[cV _ _ k h1 h2];exact hk
 have cz:∀b o,b<w.heap.size->(¬ ∃h∈hs,E.O b=some h)->iV.I b o->E.I b o:=λb o aC jZ hi=>by
  rcases x2.cC b o hi with h|h|h
  .exact h
  .have:w.heap.size<=b:=h
   omega
  .exact absurd h jZ
 have aA:Cl B E' w':=by
  refine⟨x2.os.trans hb.os,x2.tape.trans hb.tape,x2.output.trans hb.output,XV hb.size x2.size,λb aC hX=>?_,λb o hi=>?_,x2.dR,λb o hi=>?_,λb h hO=>?_,hb.cL.ext nP⟩
  .rw[x2.dZ b (by have:=hb.size;show b<w.heap.size;omega) ?_]
   .exact hb.dZ b aC hX
   .rintro⟨k,_,hO⟩
    rcases (hb.cR b k hO).2 with h|h
    .omega
    .exact hX h
  .obtain⟨i1,i2⟩:=hb.I0 b o hi
   exact⟨(x2.I0 b o i1).1,by rw[(x2.I0 b o i1).2];exact i2⟩
  .rcases x2.cC b o hi with h|h|⟨k,_,hO⟩
   .exact hb.cC b o h
   .have:w.heap.size<=b:=h
    have:=hb.size;exact .inr (.inl (by omega))
   .exact .inr (hb.cR b k hO).2
  .have hO:Im hs M m iV.O E.O b=some h:=hO
   unfold Im at hO
   split at hO
   .rename_i i hi
    obtain⟨o1,o2⟩:=x2.cR b i hi;refine⟨o1,?_⟩;rcases o2 with o2|⟨k,_,hk⟩
    .have:w.heap.size<=b:=o2
     have:=hb.size;exact .inl (by omega)
    .exact (hb.cR b k hk).2
   .split at hO
    .cases hO
    .obtain⟨o1,o2⟩:=hb.cR b h hO
     exact⟨XP o1 x2.size,o2⟩
 have nR:∀b i:Nat,iV.O b=some i->∀k:Nat,(hs[i]?=some k/\i<m\/m<=i/\k=M+(i-m))->E'.O b=some k:=by
  intro b i hi k hk;show Im hs M m iV.O E.O b=some k;simp only[Im,hi];rcases hk with⟨h1,h2⟩|⟨h1,rfl⟩
  .rw[QB h2];exact h1
  .rw[QA (by omega)]
 have n2m:hs.length=m:=by rw[hm,n2]
 obtain⟨f1,f2⟩:=Qm (hf:=hf) hs (aK.take m) (by simp;omega) n1;refine hK v w' E' nP aA (λk=>?_) (x4.res rfl (λk u h1 hk h2=>?_) hr)
 .show bQ E' w' k (Hy hf (D8 hs (aK.take m)++E7 M (aK.drop m)) k)
  rw[Lx,Vd];rcases gQ k with⟨i,hi⟩|⟨i,hi,rfl⟩|⟨h1,h2⟩
  .have hkM:=uB k (QK hi)
   have UX:i<hs.length:=(List.getElem?_eq_some_iff.1 hi).1;rw[QA (by omega)];obtain⟨l,hl⟩:∃l,aK[i]?=some l:=⟨_,QC (by omega)⟩;rw[f2 i k l hi (by rw[QN,QB (by omega)];exact hl)];have h3:=x3 i (by omega);have:Aq aK i=l:=by simp[Aq,Aj,hl]
   rw[this]at h3;exact h3.move (Gc kA hl) rfl (dM _ _ i k hi) (dM _ _ i k hi) (dM _ _ i k hi) λb hb=>nR b i hb k (.inl ⟨hi,by omega⟩)
  .rw[QB (by simp;omega)]
   obtain⟨l,hl⟩:∃l,aK[m+i]?=some l:=⟨_,QC hi⟩;rw[ZK,XF,hl];simp only[XG];have h3:=x3 (m+i) hi;have:Aq aK (m+i)=l:=by simp[Aq,Aj,hl]
   rw[this]at h3;exact h3.move (Gc kA hl) rfl (gE _ _ i hi) (gE _ _ i hi) (gE _ _ i hi) λb hb=>nR b (m+i) hb _ (.inr ⟨by omega,by congr 1;omega⟩)
  .rw[QA (by simp;omega),f1 k h1]
   refine bQ.keep nP (st.heap k) (cV _ _ k h1 h2) (cV _ _ k h1 h2) rfl (cV _ _ k h1 h2) λb hO=>?_;have jZ:¬ ∃h∈hs,E.O b=some h:=by
    rintro⟨k2,aZ,xM⟩;rw[hO]at xM;cases xM;exact h1 aZ
   refine⟨?_,x2.dZ b (A9 hb hO) jZ,λo hi=>cz b o (A9 hb hO) jZ hi⟩;show Im hs M m iV.O E.O b=some k;have bh:iV.O b=none:=by
    cases hi:iV.O b with
    |none=>rfl
    |some i =>
     rcases (x2.cR b i hi).2 with h|h
     .have h:w.heap.size<=b:=h
      have:=A9 hb hO;omega
     .exact absurd h jZ
   simp only[Im,bh];rw[QA jZ];exact hO
 .show Dp hs M m aK.length iV.τ E.τ (k-m+M)=some u
  have:=gE iV.τ E.τ (k-m) (by omega);rw[show k-m+M=M+(k-m) by omega,this,show m+(k-m)=k by omega];exact h2
theorem Nj:∀(cs:List SV),iA.tS cs=cs.flatMap iA
 | []=>rfl
 |c :: cs=>by simp[iA.tS,Nj cs]
theorem Ka(ρ:Nat->Nat):∀(cs:List SV),nE.xQ ρ cs=cs.map (nE ρ)
 | []=>rfl
 |c :: cs=>by simp[nE.xQ,Ka ρ cs]
theorem Du:∀(cs:List SV),Cb.dC cs=true↔∀c∈cs,Cb c=true
 | []=>by simp[Cb.dC]
 |c :: cs=>by simp[Cb.dC,Du cs]
theorem Ke(g:Hl->Hl):∀(ls:List Hl),We g ls=ls.map g
 | []=>rfl
 |l :: ls=>by simp[We,Ke g ls]
theorem O5(D:Dn)(hp:List Hl):∀(hs:List Nat),Ux D hp hs=hs.map λh=>match nth hp h with|some l=>pC D l|none=>.gone
 | []=>rfl
 |h :: hs=>by simp only[Ux,O5 D hp hs,UV];cases nth hp h<;>rfl
theorem Ho(t:List Nat):∀(l:List Nat),Vt t l=true↔∀x∈l,x∈t
 | []=>by simp[Vt]
 |x :: l=>by simp[Vt,Ho t l,D1]
theorem Ht:∀(l:List Nat),P0 l=true↔l.Nodup
 | []=>by simp[P0]
 |x :: l=>by
  simp only[P0,QE,XO,List.nodup_cons,Ht l];rw[<-Bool.not_eq_true,D1]
theorem Gv(n:Nat):∀(l:List Nat),tx n l=true↔∀x∈l,x<n
 | []=>by simp[tx]
 |x :: l=>by simp[tx,Gv n l]
theorem G3(hs:List Nat):∀(ls:List Hl),Mk hs ls=true↔∀l∈ls,Dc l=true/\∀j∈ax l,j∈hs
 | []=>by simp[Mk]
 |l :: ls=>by simp[Mk,G3 hs ls,Ho]
theorem On(n:Nat):∀(ls:List Hl),LU n ls=true↔∀l∈ls,Dc l=true/\∀j∈ax l,j<n
 | []=>by simp[LU]
 |l :: ls=>by simp[LU,On n ls,Gv]
theorem Oz{hs:List Nat}(hn:hs.Nodup){i k:Nat}(h:hs[i]?=some k):H7 hs k=i:=by
 induction hs generalizing i with
 |nil=>simp at h
 |cons x l ih =>
  rw[List.nodup_cons]at hn;cases i with
  |zero=>simp at h;subst h;simp[H7]
  |succ i =>
   simp at h;have aY:x≠k:=λe=>hn.1 (by rw[e];exact QK h);have aY:(x==k)=false:=by simpa using aY
   simp[H7,aY,ih hn.2 h]
structure Yi(E:Env)(i:Nat)(E':Env)(k:Nat):Prop where
 β:E'.β k=E.β i
 τ:E'.τ k=E.τ i
 ζ:E'.ζ k=E.ζ i
theorem RO.rn{I:Nat->Nat->Prop}{w:World}{s:SV}{v:Value}(ρ:Nat->Nat)(h:RO I w s v):nE ρ s=s:=by
 induction h with
 | @agg cs vs hl _ ih =>
  simp only[nE,Ka,SV.agg.injEq];refine List.ext_getElem? λi=>?_;rw[QR];cases e:cs[i]? with
  |none=>rfl
  |some s =>
   have hi:i<cs.length:=(List.getElem?_eq_some_iff.1 e).1;simp only[QP,Option.some.injEq];exact ih i s _ e (QC (by omega))
 |_=>rfl
theorem Rel.rn{E E':Env}{w:World}{s:SV}{v:Value}(ρ:Nat->Nat)(h:Rel E w s v)(hI:E'.I=E.I)(hr:Cb s=true)(he:∀k∈iA s,Yi E k E' (ρ k)):Rel E' w (nE ρ s) v:=by
 induction h with
 |ro h=>rw[h.rn];exact .ro (by rw[hI];exact h)
 |ptr hb hv=>exact .ptr (by rw[(he _ (by simp[iA])).β];exact hb) hv
 |dQ dB ht =>
  obtain⟨a,m,c,t1,t2⟩:=ht;exact .dQ (by rw[hI];exact dB) ⟨a,m,c,by rw[(he _ (by simp[iA])).τ];exact t1,t2⟩
 |bV ht hk =>
  obtain⟨a,m,c,t1,t2⟩:=hk;exact .bV ht ⟨a,m,c,by rw[(he _ (by simp[iA])).τ];exact t1,t2⟩
 |cK hv ho =>
  obtain⟨a,m,c,sz,t1,t2,t3⟩:=ho;exact .cK hv ⟨a,m,c,sz,by rw[(he _ (by simp[iA])).τ];exact t1,by rw[(he _ (by simp[iA])).ζ];exact t2,t3⟩
 |bP hb hv=>exact .bP (by rw[(he _ (by simp[iA])).β];exact hb) hv
 |iZ hb hn hv=>exact .iZ (by rw[(he _ (by simp[iA])).β];exact hb) hn hv
 |yv hb hv=>exact .yv (by rw[(he _ (by simp[iA])).β];exact hb) hv
 |cP ht hk =>
  obtain⟨a,m,c,t1,t2⟩:=hk;exact .cP ht ⟨a,m,c,by rw[(he _ (by simp[iA])).τ];exact t1,t2⟩
 |jP ht hk =>
  obtain⟨a,m,c,sz,t1,t2,t3⟩:=hk;exact .jP ht ⟨a,m,c,sz,by rw[(he _ (by simp[iA])).τ];exact t1,by rw[(he _ (by simp[iA])).ζ];exact t2,t3⟩
 |dG hb hm hv=>simp[Cb]at hr
 |cS hb hz hv=>simp[Cb]at hr
 |agg hl _ ih =>
  simp only[nE,Ka];refine .agg (by simp[hl]) λi s v h1 h2=>?_;rw[QR]at h1;obtain⟨s',e,rfl⟩:=Option.map_eq_some_iff.1 h1;have hm:=QK e;exact ih i s' v e h2 ((Du _).1 (by simpa[Cb] using hr) s' hm) λk hk=>he k (by simp only[iA,Nj,UC];exact⟨s',hm,hk⟩)
 |aJ hl _ ih =>
  simp only[nE,Ka];refine .aJ (by simp[hl]) λi s v h1 h2=>?_;rw[QR]at h1;obtain⟨s',e,rfl⟩:=Option.map_eq_some_iff.1 h1;have hm:=QK e;exact ih i s' v e h2 ((Du _).1 (by simpa[Cb] using hr) s' hm) λk hk=>he k (by simp only[iA,Nj,UC];exact⟨s',hm,hk⟩)
 |eZ hl _ ih =>
  simp only[nE,Ka];refine .eZ (by simp[hl]) λi s v h1 h2=>?_;rw[QR]at h1;obtain⟨s',e,rfl⟩:=Option.map_eq_some_iff.1 h1;have hm:=QK e;exact ih i s' v e h2 ((Du _).1 (by simpa[Cb] using hr) s' hm) λk hk=>he k (by simp only[iA,Nj,UC];exact⟨s',hm,hk⟩)
 |gI hl _ ih =>
  simp only[nE,Ka];refine .gI (by simp[hl]) λi s v h1 h2=>?_;rw[QR]at h1;obtain⟨s',e,rfl⟩:=Option.map_eq_some_iff.1 h1;have hm:=QK e;exact ih i s' v e h2 ((Du _).1 (by simpa[Cb] using hr) s' hm) λk hk=>he k (by simp only[iA,Nj,UC];exact⟨s',hm,hk⟩)
theorem Yz{ρ:Nat->Nat}{s:Nat}{v:SV}:∀ {fr:List (Nat×Option SV)},(s,some v)∈vb ρ fr->∃v',v=nE ρ v'/\(s,some v')∈fr
 | [],h=>by simp[vb]at h
 |(_,some u) :: l,h=>by
  simp only[vb,XS,Prod.mk.injEq,Option.some.injEq]at h;rcases h with⟨rfl,rfl⟩|h
  .exact⟨u,rfl,XA ..⟩
  .obtain⟨v',e,h⟩:=Yz h
   exact⟨v',e,XB _ h⟩
 |(_,none) :: l,h=>by
  simp only[vb,XS,Prod.mk.injEq,reduceCtorEq,and_false,false_or]at h;obtain⟨v',e,h⟩:=Yz h;exact⟨v',e,XB _ h⟩
theorem J9{s:Nat}{v:SV}:∀ {fr:List (Nat×Option SV)},Jc fr=true->(s,some v)∈fr->Cb v=true
 | [],_,h=>by simp at h
 |(_,some u) :: l,hr,h=>by
  simp only[Jc,QE]at hr;simp only[XS,Prod.mk.injEq,Option.some.injEq]at h;rcases h with⟨_,rfl⟩|h
  .exact hr.1
  .exact J9 hr.2 h
 |(_,none) :: l,hr,h=>by
  simp only[Jc]at hr;simp only[XS,Prod.mk.injEq,reduceCtorEq,and_false,false_or]at h;exact J9 hr h
theorem Y9{s j:Nat}{v:SV}:∀ {fr:List (Nat×Option SV)},(s,some v)∈fr->j∈iA v->j∈BW fr
 | [],h,_=>by simp at h
 |(_,some u) :: l,h,hj=>by
  simp only[XS,Prod.mk.injEq,Option.some.injEq]at h;simp only[BW,ZZ];rcases h with⟨_,rfl⟩|h
  .exact .inl hj
  .exact .inr (Y9 h hj)
 |(_,none) :: l,h,hj=>by
  simp only[XS,Prod.mk.injEq,reduceCtorEq,and_false,false_or]at h;simp only[BW];exact Y9 h hj
theorem bQ.rn{E E':Env}{w:World}{i k:Nat}{l:Hl}(ρ:Nat->Nat)(h:bQ E w i l)(hr:Dc l=true)(hI:E'.I=E.I)(hs:Yi E i E' k)(hO:∀b,E.O b=some i->E'.O b=some k)(he:∀j∈ax l,Yi E j E' (ρ j)):bQ E' w k (mA ρ l):=by
 cases l with
 |fresh=>simp[Dc]at hr
 |gone=>trivial
 |row ty n sz f=>simp[Dc]at hr
 |aG ty cs =>
  obtain⟨b,C,k1,k2,k3,k4,k5,k6,k7⟩:=h;refine⟨b,C,by rw[hs.β];exact k1,hO b k2,k3,by rw[Ka,XW];exact k4,λj s v p q=>?_,k6,by rw[hI];exact k7⟩;rw[Ka,QR]at p;obtain⟨s',e,rfl⟩:=Option.map_eq_some_iff.1 p;have hm:=QK e;exact (k5 j s' v e q).rn ρ hI ((Du _).1 (by simpa[Dc] using hr) s' hm) λj hj=>he j (by simp only[ax,Nj,UC];exact⟨s',hm,hj⟩)
 |tail ty n sz =>
  obtain⟨v,m,xs,k1,k2,k3,k4,k5⟩:=h;exact⟨v,m,xs,by rw[hs.τ];exact k1,k2,k3,k4,λb hb=>⟨hO b (k5 b hb).1,by rw[hI];exact (k5 b hb).2⟩⟩
 |own ty n sz gr f =>
  obtain⟨v,m,xs,k1,k2,k3,k4,k5,k6,k7⟩:=h;exact⟨v,m,xs,by rw[hs.τ];exact k1,by rw[hs.ζ];exact k2,k3,k4,k5,⟨k6.1,by rw[hI];exact k6.2⟩,λb hb=>⟨hO b (k7 b hb).1,by rw[hI];exact (k7 b hb).2⟩⟩
 |mN T e s =>
  obtain⟨b,p,v,k1,k2,k3,k4,k5,k6,k7,k8⟩:=h;exact⟨b,p,v,by rw[hs.β];exact k1,hO b k2,k3,k4,k5,k6,by rw[hI];exact k7,λg hg=>⟨hO g (k8 g hg).1,by rw[hI];exact (k8 g hg).2⟩⟩
 |cZ F =>
  obtain⟨b,es,clock,k1,k2,k3,k4,k5,k6⟩:=h;exact⟨b,es,clock,by rw[hs.β];exact k1,hO b k2,k3,k4,k5,by rw[hI];exact k6⟩
 |iF es=>simp[Dc]at hr
 |vec ty n g sz f =>
  obtain⟨a,c,m,G,xs,k1,k2,k3,k4,k5,k6,k7⟩:=h;exact⟨a,c,m,G,xs,by rw[hs.τ];exact k1,k2,k3,k4,k5,⟨k6.1,by rw[hI];exact k6.2⟩,λb hb=>⟨hO b (k7 b hb).1,by rw[hI];exact (k7 b hb).2⟩⟩
 |bO c fr st pd =>
  obtain⟨b,rr,k1,k2,k3,k4,k5,k6⟩:=h;refine⟨b,rr,by rw[hs.β];exact k1,hO b k2,k3,k4,λs v hm=>?_,by rw[hI];exact k6⟩;obtain⟨v',rfl,CA⟩:=Yz hm;exact⟨(k5 s v' CA).1,(k5 s v' CA).2.rn ρ hI (J9 (by simpa[Dc] using hr) CA) λj hj=>he j (Y9 CA hj)⟩
theorem bQ.pC{E:Env}{w:World}{h:Nat}{l:Hl}(hk:bQ E w h l):bQ E w h (pC dn l):=by
 cases l with
 |aG ty cs =>
  obtain⟨b,C,k1,k2,k3,k4,k5,k6⟩:=hk.eC;have hn:A6 E w (norm.aM dn cs) C.toList:=by
   rw[Ci];exact k4.map _ λs v _ h=>h.norm
  exact⟨b,C,k1,k2,k3,by have:=hn.1;simpa using this.symm,λi s v p q=>hn.2 i s v p (by simpa using q),λv hv=>k5 v (by simpa using hv),k6⟩
 |_=>exact hk
theorem Nr{G:List Value->World->(Ending->World->Prop)->Prop}(Gm:∀us w (R R':Ending->World->Prop),(∀e w',R e w'->R' e w')->G us w R->G us w R'){hp:List Hl}{ue vs:List SV}(wh:vs=loose.aH (norm.aM dn ue))
  {hs:List Nat} {ls:List Hl} (kj:ls=Ux dn hp hs) (n1:hs.Nodup) (eR:∀k∈iA.tS vs,k∈hs) (aI:Cb.dC vs=true) (uB:∀k∈hs,k<hp.length) (qS:∀l∈ls,Dc l=true/\∀j∈ax l,j∈hs)
  {r:SV} {aK:List Hl} (sZ:Anj G cx.gl (nE.xQ (H7 hs) vs) (ls.map (mA (H7 hs))) r aK) (hlen:hs.length<=aK.length) (SM:Cb r=true) (tU:∀k∈iA r,k<aK.length) (fT:∀l∈aK,Dc l=true/\∀j∈ax l,j<aK.length)
  {B:Bs} {E:Env} {w:World} {hf:Nat->Hl} (hg:Fh B cx.gl) (hb:Cl B E w) (fE:∀h,bQ E w h (hf h)) (bK:AU hp hf ⟨nE (Cp hs hs.length hp.length) r,D8 hs ((aK.take hs.length).map (mA (Cp hs hs.length hp.length)))++E7 hp.length ((aK.drop hs.length).map (mA (Cp hs hs.length hp.length))),hs,[]⟩) {us:List Value} (jY:A6 E w ue us):
  G us w λe w'=>∃v E',e=.returned v/\Ext E w E' w'/\Cl B E' w'/\(∀h,bQ E' w' h (Hy hf (D8 hs ((aK.take hs.length).map (mA (Cp hs hs.length hp.length)))++E7 hp.length ((aK.drop hs.length).map (mA (Cp hs hs.length hp.length)))) h))/\Rel E' w' (nE (Cp hs hs.length hp.length) r) v:=by
 have wi:A6 E w vs us:=by
  rw[wh,Ce,Ci];exact (jY.map _ λs v _ h=>h.norm).map _ λs v _ h=>h.loose
 have n2:ls.length=hs.length:=by rw[kj,O5,XW]
 -- qZ dh state
 let Ec:Env:=⟨λi=>(hs[i]?).bind E.β,λi=>(hs[i]?).bind E.τ,λb=>(E.O b).bind λh=>hs.idxOf? h,λ_=>none,λi=>(hs[i]?).bind E.ζ,E.I⟩
 let Bc:Bs:=⟨w,λb=>∃h∈hs,E.O b=some h,E.I,Ec.β,Ec.τ,Ec.ζ,[]⟩
 have NM:Cl Bc Ec w:=by
  refine⟨rfl,rfl,rfl,QH _,λ_ _ _=>rfl,λb o h=>⟨h,rfl⟩,hb.dR,λb o h=>.inl h,λb i h=>?_,⟨λ_ _ h=>h,λ_ _ h=>.inl h,λ_ _ h=>h⟩⟩;have h:(E.O b).bind (λh=>hs.idxOf? h)=some i:=h;cases hO:E.O b with
  |none=>rw[hO]at h;cases h
  |some k =>
   rw[hO]at h;simp only[ZS]at h;have hk:k∈hs:=by
    rw[ZX]at h;obtain⟨aC,he,_⟩:=h;rw[<-he];exact XL aC
   exact⟨(hb.cR b k hO).1,.inr ⟨k,hk,hO⟩⟩
 have VG:Fh Bc cx.gl:=λg s h=>⟨(hg g s h).1.mono (λb o h=>(hb.I0 b o h).1) (λb o h=>(hb.I0 b o h).2),XP (hg g s h).2.1 hb.size,
  λ⟨k,_,hO⟩=>by
   rcases (hb.cR g k hO).2 with h1|h1
   .exact absurd (hg g s h).2.1 (Nat.not_lt.2 h1)
   .exact (hg g s h).2.2.1 h1,
  (hg g s h).2.2.2.same (hb.dZ g (hg g s h).2.1 (hg g s h).2.2.1)⟩
 have IW:Ec.I=E.I:=rfl;have eE:∀(i k:Nat),hs[i]?=some k->hs.idxOf? k=some i:=by
  intro i k hk;rw[ZX];obtain⟨aC,he⟩:=List.getElem?_eq_some_iff.1 hk;refine⟨aC,by simp[he],λj hj=>?_⟩;have aY:hs[j]≠hs[i]:=List.pairwise_iff_getElem.1 n1 j i (by omega) aC hj;rw[<-he];simpa using aY
 have bq:∀(i k:Nat),hs.idxOf? k=some i->hs[i]?=some k:=by
  intro i k hk;rw[ZX]at hk;obtain⟨aC,he,_⟩:=hk;rw[QC aC,he]
 have sG:∀k,k ∉ hs->hs.idxOf? k=none:=by
  intro k hk;cases h:hs.idxOf? k with
  |none=>rfl
  |some i=>exact absurd (QK (bq i k h)) hk
 have bZ:∀k∈hs,Yi E k Ec (H7 hs k):=by
  intro k hk;obtain⟨i,hi⟩:=List.mem_iff_getElem?.1 hk;rw[Oz n1 hi];exact⟨by show (hs[i]?).bind E.β=_;rw[hi];rfl,by show (hs[i]?).bind E.τ=_;rw[hi];rfl,by show (hs[i]?).bind E.ζ=_;rw[hi];rfl⟩
 have pJ:∀h,bQ Ec w h (Aq (ls.map (mA (H7 hs))) h):=by
  intro h;simp only[Aq,Aj];rw[QR];cases hl:ls[h]? with
  |none =>
   have:hs[h]?=none:=by rw[List.getElem?_eq_none_iff]at hl ⊢;omega
   simp only[YY,ZT];exact⟨by show (hs[h]?).bind E.β=none;rw[this];rfl,by show (hs[h]?).bind E.τ=none;rw[this];rfl,rfl,by show (hs[h]?).bind E.ζ=none;rw[this];rfl⟩
  |some l =>
   have aC:h<hs.length:=by rw[<-n2];exact (List.getElem?_eq_some_iff.1 hl).1
   have dP:hs[h]∈hs:=XL aC;obtain⟨c1,c2⟩:=qS l (QK hl);have hk:=fE hs[h];rw[bK.tJ _ dP]at hk;have eK:bQ E w hs[h] l:=by
    rw[kj,O5,QR,QC aC]at hl;simp only[QP,Option.some.injEq]at hl;rw[<-hl];cases hn:nth hp hs[h] with
    |none=>trivial
    |some l0=>rw[Bo hn]at hk;exact hk.pC
   simp only[QP,XG];have cA:=bZ _ dP;rw[Oz n1 (QC aC)]at cA;refine eK.rn (H7 hs) c1 IW cA (λb hb=>?_) λj hj=>bZ j (c2 j hj);show (E.O b).bind (λh=>hs.idxOf? h)=some h;rw[hb];exact eE h _ (QC aC)
 have bF:A6 Ec w (nE.xQ (H7 hs) vs) us:=by
  rw[Ka];exact wi.map _ λs v hm h=>h.rn (H7 hs) IW ((Du _).1 aI s hm) λk hk=>bZ k (eR k (by rw[Nj,UC];exact⟨s,hm,hk⟩))
 have dW:=sZ Bc Ec w us rfl (λb o h=>h) (λh hb=>by
  have hb:(hs[h]?).bind E.β≠none\/(hs[h]?).bind E.τ≠none\/(hs[h]?).bind E.ζ≠none:=hb;cases hh:hs[h]? with
  |none=>rw[hh]at hb;simp at hb
  |some k=>rw[XW,n2];exact (List.getElem?_eq_some_iff.1 hh).1) NM VG pJ bF
 refine Gm _ _ _ _ ?_ dW;rintro e w' ⟨v,iV,rfl,x2,x3,x4⟩
 -- back in qZ de state
 obtain⟨M,hM⟩:∃M,M=hp.length:=⟨_,rfl⟩;obtain⟨m,hm⟩:∃m,m=hs.length:=⟨_,rfl⟩;rw[<-hM,<-hm];rw[<-hm]at hlen
 let E':Env:=⟨Dp hs M m aK.length iV.β E.β,Dp hs M m aK.length iV.τ E.τ,Im hs M m iV.O E.O,E.κ,Dp hs M m aK.length iV.ζ E.ζ,iV.I⟩
 have qC:∀k,M<=k->k<M+(aK.length-m)->hf k=.fresh:=by
  intro k h1 h2;have hl:∃l,((aK.drop m).map (mA (Cp hs m M)))[k-M]?=some l:=⟨_,QC (by simp;omega)⟩;obtain⟨l,hl⟩:=hl;have dP:=Nf ((aK.drop m).map (mA (Cp hs m M))) M (k-M) l hl;rw[show M+(k-M)=k by omega]at dP;have bk:Ef.put k l∈E7 hp.length (List.map (mA (Cp hs hs.length hp.length)) (List.drop hs.length aK)):=by rw[<-hM,<-hm];exact dP
  have:=bK.fK _ (List.mem_append.2 (.inr bk));simp only[dp,Aq,Aj]at this;rw[this,QV (by omega)];rfl
 have gN:∀k,M<=k->k<M+(aK.length-m)->E.β k=none/\E.τ k=none/\E.ζ k=none:=by
  intro k h1 h2;have:=fE k;rw[qC k h1 h2]at this;exact⟨this.1,this.2.1,this.2.2.2⟩
 have dM:∀ {α:Type} (F G:Nat->Option α) (i k:Nat),hs[i]?=some k->Dp hs M m aK.length F G k=F i:=by
  intro α F G i k hk;simp only[Dp,eE i k hk]
 have gE:∀ {α:Type} (F G:Nat->Option α) (i:Nat),m+i<aK.length->Dp hs M m aK.length F G (M+i)=F (m+i):=by
  intro α F G i hi;have:(M+i) ∉ hs:=λh=>by have:=uB _ h;omega
  simp only[Dp,sG _ this];rw[QB (by omega),ZK]
 have cV:∀ {α:Type} (F G:Nat->Option α) (k:Nat),k ∉ hs->¬(M<=k/\k<M+(aK.length-m))->Dp hs M m aK.length F G k=G k:=by
  intro α F G k h1 h2;simp only[Dp,sG _ h1];rw[QA h2]
 have gQ:∀k:Nat,(∃i:Nat,hs[i]?=some k)\/(∃i,m+i<aK.length/\k=M+i)\/(k ∉ hs/\¬(M<=k/\k<M+(aK.length-m))):=by
  intro k
  by_cases h1:k∈hs
  .obtain⟨i,hi⟩:=List.mem_iff_getElem?.1 h1;exact .inl ⟨i,hi⟩
  .by_cases h2:M<=k/\k<M+(aK.length-m)
   .exact .inr (.inl ⟨k-M,by omega,by omega⟩)
   .exact .inr (.inr ⟨h1,h2⟩)
 have nP:Ext E w E' w':=by
  refine⟨λk b hk=>?_,λk u hk=>?_,λ_ _ h=>h,λk n hk=>?_,λb o h=>(x2.I0 b o h).1,λb o h=>(x2.I0 b o h).2⟩
  .show Dp hs M m aK.length iV.β E.β k=some b
   rcases gQ k with⟨i,hi⟩|⟨i,hi,rfl⟩|⟨h1,h2⟩
   .rw[dM _ _ i k hi];exact x2.cL.β i b (by show (hs[i]?).bind E.β=some b;rw[hi];exact hk)
   .rw[(gN _ (by omega) (by omega)).1]at hk;cases hk
   .rw[cV _ _ k h1 h2];exact hk
  .show Pm u (Dp hs M m aK.length iV.τ E.τ k)
   rcases gQ k with⟨i,hi⟩|⟨i,hi,rfl⟩|⟨h1,h2⟩
   .rw[dM _ _ i k hi];exact x2.cL.τ i u (by show (hs[i]?).bind E.τ=some u;rw[hi];exact hk)
   .rw[(gN _ (by omega) (by omega)).2.1]at hk;cases hk
   .rw[cV _ _ k h1 h2];exact .inl hk
  .show Dp hs M m aK.length iV.ζ E.ζ k=some n
   rcases gQ k with⟨i,hi⟩|⟨i,hi,rfl⟩|⟨h1,h2⟩
   .rw[dM _ _ i k hi];exact x2.cL.ζ i n (by show (hs[i]?).bind E.ζ=some n;rw[hi];exact hk)
   .rw[(gN _ (by omega) (by omega)).2.2]at hk;cases hk
   .rw[cV _ _ k h1 h2];exact hk
 have cz:∀b o,b<w.heap.size->(¬ ∃h∈hs,E.O b=some h)->iV.I b o->E.I b o:=λb o aC jZ hi=>by
  rcases x2.cC b o hi with h|h|h
  .exact h
  .have:w.heap.size<=b:=h
   omega
  .exact absurd h jZ
 have aA:Cl B E' w':=by
  refine⟨x2.os.trans hb.os,x2.tape.trans hb.tape,x2.output.trans hb.output,XV hb.size x2.size,λb aC hX=>?_,λb o hi=>?_,x2.dR,λb o hi=>?_,λb h hO=>?_,hb.cL.ext nP⟩
  .rw[x2.dZ b (by have:=hb.size;show b<w.heap.size;omega) ?_]
   .exact hb.dZ b aC hX
   .rintro⟨k,_,hO⟩
    rcases (hb.cR b k hO).2 with h|h
    .omega
    .exact hX h
  .obtain⟨i1,i2⟩:=hb.I0 b o hi
   exact⟨(x2.I0 b o i1).1,by rw[(x2.I0 b o i1).2];exact i2⟩
  .rcases x2.cC b o hi with h|h|⟨k,_,hO⟩
   .exact hb.cC b o h
   .have:w.heap.size<=b:=h
    have:=hb.size;exact .inr (.inl (by omega))
   .exact .inr (hb.cR b k hO).2
  .have hO:Im hs M m iV.O E.O b=some h:=hO
   unfold Im at hO
   split at hO
   .rename_i i hi
    obtain⟨o1,o2⟩:=x2.cR b i hi;refine⟨o1,?_⟩;rcases o2 with o2|⟨k,_,hk⟩
    .have:w.heap.size<=b:=o2
     have:=hb.size;exact .inl (by omega)
    .exact (hb.cR b k hk).2
   .split at hO
    .cases hO
    .obtain⟨o1,o2⟩:=hb.cR b h hO
     exact⟨XP o1 x2.size,o2⟩
 have nR:∀b i:Nat,iV.O b=some i->∀k:Nat,(hs[i]?=some k/\i<m\/m<=i/\k=M+(i-m))->E'.O b=some k:=by
  intro b i hi k hk;show Im hs M m iV.O E.O b=some k;simp only[Im,hi];rcases hk with⟨h1,h2⟩|⟨h1,rfl⟩
  .rw[QB h2];exact h1
  .rw[QA (by omega)]
 have sM:∀j,j<aK.length->Yi iV j E' (Cp hs m M j):=by
  intro j hj
  by_cases uC:j<m
  .have hk:hs[j]?=some hs[j]:=QC (by omega)
   have e:Cp hs m M j=hs[j]:=by
    unfold Cp;rw[QB (by rw[ZE];exact uC),Aj,hk]
   rw[e];exact⟨dM _ _ j _ hk,dM _ _ j _ hk,dM _ _ j _ hk⟩
  .have e:Cp hs m M j=M+(j-m):=by
    unfold Cp;rw[QA (by rw[ZE];exact uC)]
   have h1:∀ {α:Type} (F G:Nat->Option α),Dp hs M m aK.length F G (M+(j-m))=F j:=by
    intro α F G;have:=gE F G (j-m) (by omega)
    rwa [show m+(j-m)=j by omega]at this
   rw[e];exact⟨h1 _ _,h1 _ _,h1 _ _⟩
 obtain⟨f1,f2⟩:=Qm (hf:=hf) hs ((aK.take m).map (mA (Cp hs m M))) (by simp;omega) n1;refine⟨v,E',rfl,nP,aA,λk=>?_,x4.rn (Cp hs m M) rfl SM λk hk=>sM k (tU k hk)⟩;show bQ E' w' k (Hy hf (D8 hs ((aK.take m).map (mA (Cp hs m M)))++E7 M ((aK.drop m).map (mA (Cp hs m M)))) k);rw[Lx,Vd];rcases gQ k with⟨i,hi⟩|⟨i,hi,rfl⟩|⟨h1,h2⟩
 .have hkM:=uB k (QK hi)
  have UX:i<hs.length:=(List.getElem?_eq_some_iff.1 hi).1;rw[QA (by omega)];obtain⟨l,hl⟩:∃l,aK[i]?=some l:=⟨_,QC (by omega)⟩;rw[f2 i k (mA (Cp hs m M) l) hi (by rw[QR,QN,QB (by omega),hl];rfl)];have h3:=x3 i (by omega);have:Aq aK i=l:=by simp[Aq,Aj,hl]
  rw[this]at h3;obtain⟨o1,o2⟩:=fT l (QK hl);have cA:=sM i (by omega);have e:Cp hs m M i=k:=by
   unfold Cp;rw[QB (by rw[ZE];omega),Aj,hi]
  rw[e]at cA;exact h3.rn (Cp hs m M) o1 rfl cA (λb hb=>nR b i hb k (.inl ⟨hi,by omega⟩)) λj hj=>sM j (o2 j hj)
 .rw[QB (by simp;omega)]
  obtain⟨l,hl⟩:∃l,aK[m+i]?=some l:=⟨_,QC hi⟩;rw[ZK,QR,XF,hl];simp only[QP,XG];have h3:=x3 (m+i) hi;have:Aq aK (m+i)=l:=by simp[Aq,Aj,hl]
  rw[this]at h3;obtain⟨o1,o2⟩:=fT l (QK hl);have cA:=sM (m+i) hi;have e:Cp hs m M (m+i)=M+i:=by
   unfold Cp;rw[QA (by rw[ZE];omega),ZK]
  rw[e]at cA;exact h3.rn (Cp hs m M) o1 rfl cA (λb hb=>nR b (m+i) hb _ (.inr ⟨by omega,by congr 1;omega⟩)) λj hj=>sM j (o2 j hj)
 .rw[QA (by simp;omega),f1 k h1]
  refine bQ.keep nP (fE k) (cV _ _ k h1 h2) (cV _ _ k h1 h2) rfl (cV _ _ k h1 h2) λb hO=>?_;have jZ:¬ ∃h∈hs,E.O b=some h:=by
   rintro⟨k2,aZ,xM⟩;rw[hO]at xM;cases xM;exact h1 aZ
  refine⟨?_,x2.dZ b (A9 hb hO) jZ,λo hi=>cz b o (A9 hb hO) jZ hi⟩;show Im hs M m iV.O E.O b=some k;have bh:iV.O b=none:=by
   cases hi:iV.O b with
   |none=>rfl
   |some i =>
    rcases (x2.cR b i hi).2 with h|h
    .have h:w.heap.size<=b:=h
     have:=A9 hb hO;omega
    .exact absurd h jZ
  simp only[Im,bh];rw[QA jZ];exact hO
theorem Ab1{f:FuncId}{ue vs:List SV}(gO:Enters P cx.gl σ T o f ue)(wh:vs=loose.aH (norm.aM dn ue))
  {hs:List Nat} {ls:List Hl} (kj:ls=Ux dn σ.hp hs) (n1:hs.Nodup) (eR:∀k∈iA.tS vs,k∈hs) (aI:Cb.dC vs=true) (uB:∀k∈hs,k<σ.hp.length) (qS:∀l∈ls,Dc l=true/\∀j∈ax l,j∈hs)
  {r:SV} {aK:List Hl} (sZ:E4 P cx.gl f (nE.xQ (H7 hs) vs) (We (mA (H7 hs)) ls) r aK) (hlen:hs.length<=aK.length) (SM:Cb r=true) (tU:∀k∈iA r,k<aK.length) (fT:∀l∈aK,Dc l=true/\∀j∈ax l,j<aK.length):
  Local P cx.gl σ T o ⟨nE (Cp hs hs.length (Ah σ.hp)) r,D8 hs (We (mA (Cp hs hs.length (Ah σ.hp))) (takeN hs.length aK))++E7 (Ah σ.hp) (We (mA (Cp hs hs.length (Ah σ.hp))) (C4 hs.length aK)),hs,[]⟩:=by
 rw[A8,Bi,Af,Ke,Ke];rw[Ke]at sZ;intro B N E a w ff hf hg st ag bK hT K' Q hK;obtain⟨us,jY,aV⟩:=gO B N E a w ff hf hg st ag hT;have:=Nr (cx:=cx) (G:=λus w R=>Calls P f ⟨us⟩ w R) (λus w R R' h hc=>hc.mono h) wh kj n1 eR aI uB qS sZ hlen SM tU fT hg st.base st.heap bK jY;unfold Oper.wp;rw[aV];simp only[Oper.upon];refine Calls.mono this ?_;rintro e w' ⟨v,E',rfl,h1,h2,h3,h4⟩;exact hK v w' E' h1 h2 h3 h4
theorem Acw{f:FuncId}{vs:List SV}{c:Call}(ho:o.op=.call c)(aP:c.callee=.value (.func f))(hv:Gt cx σ T c.args.toList c.argTypes.toList=some vs)(dO:Vy P f):Enters P cx.gl σ T o f vs:=by
 intro B N E a w ff hf hg st ag hT;refine⟨c.args.toList.map a.eval,D9 trivial hg st hT c.args.toList c.argTypes.toList vs (λx hx=>Ak ag (by simp only[ho,Op.operands,Call.operands];simp;exact .inr (by simpa using hx))) hv,?_⟩;obtain⟨fn,body,g1,g2,g3⟩:=dO;have gP:(⟨c.args.toList.map a.eval⟩:Array Value)=c.args.map a.eval:=by apply XU;simp
 have g4:¬fn.name="runtime.NumGoroutine":=by simpa using g3
 rw[gP];simp[execOp,ho,resolve,aP,Act.eval,Deferred.ofValue,invoke,callFunc,g1,g2,g4]
theorem Ro{f:FuncId}{vs cs:List SV}{c:Call}{s:Nat}(ho:o.op=.call c)(aP:c.callee=.value (.tmp s))(hv:Gt cx σ T c.args.toList c.argTypes.toList=some vs)
  (hs:rd cx σ T (.tmp s)=some (.eZ f cs)\/cs=[]/\rd cx σ T (.tmp s)=some (.fn f)) (dO:Vy P f):Enters P cx.gl σ T o f (vs++cs):=by
 intro B N E a w ff hf hg st ag hT;have jY:=D9 trivial hg st hT c.args.toList c.argTypes.toList vs (λx hx=>Ak ag (by simp only[ho,Op.operands,Call.operands];simp;exact .inr (by simpa using hx))) hv;have eT:∀t∈Ct (.tmp s),ff t=Bd σ t:=Ak ag (by simp[ho,Op.operands,Call.operands,aP]);have nJ:∃cv:List Value,a.eval (.tmp s)=.func (.func f) #[] ⟨cv⟩/\A6 E w cs cv:=by
  rcases hs with hs|⟨rfl,hs⟩
  .exact (Aa hs hg st eT hT).qI
  .exact⟨[],(Aa hs hg st eT hT).qH,rfl,by simp⟩
 obtain⟨cv,he,cq⟩:=nJ;refine⟨c.args.toList.map a.eval++cv,?_,?_⟩
 .refine⟨by simp[jY.1,cq.1],λi s' v h1 h2=>?_⟩
  have hl:=jY.1
  by_cases aC:i<vs.length
  .rw[QM aC]at h1
   rw[QM (by omega)]at h2;exact jY.2 i s' v h1 h2
  .rw[QO (by omega)]at h1
   rw[QO (by omega),<-hl]at h2;exact cq.2 _ s' v h1 h2
 obtain⟨fn,body,g1,g2,g3⟩:=dO;have gP:(⟨c.args.toList.map a.eval++cv⟩:Array Value)=c.args.map a.eval++(⟨cv⟩:Array Value):=by apply XU;simp
 have g4:¬fn.name="runtime.NumGoroutine":=by simpa using g3
 rw[gP];simp[execOp,ho,resolve,aP,he,Deferred.ofValue,invoke,callFunc,g1,g2,g4]
theorem Afe{f:FuncId}{vs us:List SV}{c:Call}{s:Nat}(ho:o.op=.call c)(aP:c.callee=.value (.tmp s))(hv:Gt cx σ T c.args.toList c.argTypes.toList=some vs)
  (hs:rd cx σ T (.tmp s)=some (.gI f us)) (dO:Vy P f):Enters P cx.gl σ T o f (us++vs):=by
 intro B N E a w ff hf hg st ag hT;have jY:=D9 trivial hg st hT c.args.toList c.argTypes.toList vs (λx hx=>Ak ag (by simp only[ho,Op.operands,Call.operands];simp;exact .inr (by simpa using hx))) hv;have eT:∀t∈Ct (.tmp s),ff t=Bd σ t:=Ak ag (by simp[ho,Op.operands,Call.operands,aP]);obtain⟨cv,he,cq⟩:=(Aa hs hg st eT hT).nw;refine⟨cv++c.args.toList.map a.eval,?_,?_⟩
 .refine⟨by simp[jY.1,cq.1],λi s' v h1 h2=>?_⟩
  have hl:=cq.1
  by_cases aC:i<us.length
  .rw[QM aC]at h1
   rw[QM (by omega)]at h2;exact cq.2 i s' v h1 h2
  .rw[QO (by omega)]at h1
   rw[QO (by omega),<-hl]at h2;exact jY.2 _ s' v h1 h2
 obtain⟨fn,body,g1,g2,g3⟩:=dO;have gP:(⟨cv++c.args.toList.map a.eval⟩:Array Value)=(⟨cv⟩:Array Value)++c.args.map a.eval:=by apply XU;simp
 have g4:¬fn.name="runtime.NumGoroutine":=by simpa using g3
 rw[gP];simp[execOp,ho,resolve,aP,he,Deferred.ofValue,invoke,callFunc,g1,g2,g4]
theorem Uc{f:FuncId}{fi cs:Array Operand}(ho:o.op=.makeFunc (.func f) fi cs)(nO:fi.toList=[]){vs:List SV}(hv:Gt cx σ T cs.toList []=some vs):Local P cx.gl σ T o ⟨.eZ f vs,[],[],[]⟩:=by
 have nO:fi=#[]:=by apply XU;simpa using nO
 subst nO;intro B N E a w ff hf hg st ag _ hT;have hr:=D9 trivial hg st hT cs.toList [] vs (λx hx=>Ak ag (by simp[ho,Op.operands];simpa using hx)) hv;refine Ad st (v:=.func (.func f) #[] (cs.map a.eval)) ?_ rfl ?_
 .simp[execOp,ho,Instr.makeFunc]
 .have:cs.map a.eval=⟨cs.toList.map a.eval⟩:=by apply XU;simp
  rw[this];exact .eZ hr.1 hr.2
theorem Wg{f:FuncId}{fi cs:Array Operand}(ho:o.op=.makeFunc (.func f) fi cs)(cX:Gt cx σ T cs.toList []=some []){us:List SV}(hv:Gt cx σ T fi.toList []=some us):Local P cx.gl σ T o ⟨.gI f us,[],[],[]⟩:=by
 intro B N E a w ff hf hg st ag _ hT;have hc:=D9 trivial hg st hT cs.toList [] [] (λx hx=>Ak ag (by simp[ho,Op.operands];exact .inr (by simpa using hx))) cX;have rk:cs=#[]:=by have:=hc.1;exact Array.eq_empty_of_size_eq_zero (by simpa using this.symm)
 subst rk;have hr:=D9 trivial hg st hT fi.toList [] us (λx hx=>Ak ag (by simp[ho,Op.operands];simpa using hx)) hv;refine Ad st (v:=.func (.func f) (fi.map a.eval) #[]) ?_ rfl ?_
 .simp[execOp,ho,Instr.makeFunc]
 .have:fi.map a.eval=⟨fi.toList.map a.eval⟩:=by apply XU;simp
  rw[this];exact .gI hr.1 hr.2
theorem Fk(hc:Az P cx)(bS:Et P cx.gl cx.eD){f:FuncId}{vs:List SV}(gO:Vy P f->Enters P cx.gl σ T o f vs)(h:I6 cx σ T f vs K):
  ∃r,K r/\Local P cx.gl σ T o r:=by
 unfold I6 at h
 split at h
 .rename_i sp h1
  have sC:=bS.look h1;have e:U0 (f+1000000)=f:=by
   unfold U0;rw[QA (by rw[ZE];omega),Nat.add_sub_cancel]
  rw[e]at sC;unfold F9 at h;rw[hc.D]at h;obtain⟨DM,rX⟩:∃x,x=loose.aH (norm.aM dn vs):=⟨_,rfl⟩;simp only[<-rX]at h;obtain⟨cA,bu⟩:∃x,x=reach σ.hp σ.hp (L9 [] (iA.tS DM)):=⟨_,rfl⟩;simp only[<-bu]at h;obtain⟨BN,sB⟩:∃x,x=Ux dn σ.hp cA:=⟨_,rfl⟩;simp only[<-sB]at h
  split at h
  .rename_i h3
   simp only[QE]at h3;obtain⟨⟨⟨⟨c1,c2⟩,c3⟩,c4⟩,c5⟩:=h3;obtain⟨dO,uE⟩:=sC;obtain⟨r,aK,⟨k1,k2⟩,sZ⟩:=uE _ _ _ h;simp only[QE]at k1;obtain⟨⟨⟨k3,k4⟩,k5⟩,k6⟩:=k1;have k3:=XJ k3;simp only[Af cA,Af aK]at k3 k5 k6 k2;rw[Af]at c4;have:=Ab1 (o:=o) (T:=T) (σ:=σ) (cx:=cx) (gO dO) rX sB ((Ht _).1 c1) ((Ho _ _).1 c2) c3 ((Gv _ _).1 c4) ((G3 _ _).1 c5) sZ k3 k4 ((Gv _ _).1 k5) ((On _ _).1 k6);exact⟨_,k2,this⟩
  .exact h.elim
 .rw[hc.D]at h
  split at h
  .rename_i sp as hs ls h1 h2
   split at h
   .rename_i h3
    simp only[QE]at h3;obtain⟨h3,h4⟩:=h3;have sC:=bS.look h1;have e:U0 f=f:=by unfold U0;rw[QB h4]
    rw[e]at sC;obtain⟨dO,uE⟩:=sC;obtain⟨r,aK,⟨k1,k2,k3,k4⟩,sZ⟩:=uE _ _ _ h;have k3:=XJ k3;simp only[Af ls,Af aK]at k1 k3 k4;exact⟨_,k4,Aeu (gO dO) h2 h3 sZ k1 k2 k3⟩
   .exact h.elim
  .exact h.elim
end
section
variable {P:Program} {cx:Cx} {σ:Sy} {T:List Nat} {o:Oper} {K:Out->Prop}
def OX(w:World)(src:Value)(m sz:Nat)(news:List Value):Prop :=
 news.length=m * sz/\(∀v∈news,v.oneCell'=true)/\((src=.slice none 0 0/\m=0)\/∃(a:Addr) (c:Nat),src=.slice (some a) m c/\∀(j:Nat) (u:Value),news[j]?=some u->w.cell? (a.add j)=some u)
theorem Nz{t e ty:TypeId}{ti:TI}(hu:P.underlying t=some (.slice e))(he:Em P e ti){sz:Nat}(bB:ti.size=sz)(qo:0<sz){w:World}{v:Value}{n:Nat}{xs:List Value}(bW:w.ownsRow 0 e sz v n xs){src:Value}{m:Nat}{news:List Value}(hs:OX w src m sz news)
  (qE:n+m<=maxLen) (hb:(n+m) * ti.bytes<=140737488355328):
  ∃v' w',(Builtin.append_ #[t,t] ty #[v,src]).run P w=.ok v' w'/\w'.ownsRow 0 e sz v' (n+m) (xs++news)/\(v'=.slice none 0 0↔v=.slice none 0 0/\m=0)/\
   ((v'.ownBlock=v.ownBlock/\w.grownBy w' v.ownBlock)\/(v'.ownBlock=some w.heap.size/\w.grownBy w' none))/\(∃a c,v'=.slice a (n+m) c)/\(m=0->v'=v):=by
 obtain⟨i,z,hi,eJ,xY,hz,sQ,_⟩:=he.info;obtain⟨hl,h1,wu⟩:=hs;have lL:=bW;have shape:∀(v':Value) (w':World) (xs':List Value),w'.ownsRow 0 e sz v' (n+m) xs'->∃a c,v'=.slice a (n+m) c:=by
  intro v' w' xs' h;rcases h.2 with⟨rfl,e0⟩|⟨g,cap,cur,rfl,_⟩
  .exact⟨none,0,by rw[e0]⟩
  .exact⟨_,_,rfl⟩
 rcases wu with⟨rfl,rfl⟩|⟨a,c,rfl,jC⟩
 .have hn:news=[]:=XN (by simpa using hl)
  subst hn;refine⟨v,w,?_,by simpa using bW,by simp,.inl ⟨rfl,⟨rfl,rfl,rfl,QH _,λ_ _ _=>rfl⟩⟩,shape v w xs (by simpa using bW),λ_=>rfl⟩;rcases bW.2 with⟨rfl,rfl⟩|⟨g,cap,cur,rfl,WJ,hg,qO,eY,cX,bT⟩
  .simp[Builtin.append_,run_underlying hu,sizeOf,typeInfo,hi,Builtin.lenOf,Builtin.firstCells]
  .simp[Builtin.append_,run_underlying hu,sizeOf,typeInfo,hi,Builtin.lenOf,Builtin.firstCells,qO,storeCells]
 .have eA:z.cells.size=sz:=by
   have:=(Jz (I:=λ_ _=>False) (w:=w) sQ).1;have h2:ti.zero.length=sz:=by
    rw[he.pP,bB]
   simpa[h2] using this.symm
  obtain⟨v',w',hr,r1,r2,r3⟩:=run_append_own (P:=P) w 0 t ty e i z sz ti.bytes hu hi hz (by rw[eJ,bB]) xY eA qo v n xs bW a m c news hl jC h1 qE hb (ZB _);refine⟨v',w',hr,r1,r3,?_,shape v' w' _ r1,?_⟩
  case refine_2 =>
   rintro rfl;rcases bW.2 with⟨rfl,rfl⟩|⟨g,cap,cur,rfl,WJ,hg,qO,eY,cX,bT⟩
   .exact r3.2 ⟨rfl,rfl⟩
   .have cO:=run_append_room (P:=P) w t ty e i hu hi g n cap cur hg a 0 c news (by rw[eJ,bB];exact hl) jC h1 (by omega) (by rw[hl,eJ,bB,cX];simp only[Nat.zero_mul,XY];exact QQ _ qO)
    rw[hr]at cO;simp only[Result.ok.injEq]at cO;rw[cO.1];rfl
  have nM:n+m<=9223372036854775807:=by simpa[maxLen] using qE
  rcases bW.2 with⟨rfl,rfl⟩|⟨g,cap,cur,rfl,WJ,hg,qO,eY,cX,bT⟩
  .by_cases hm:m=0
   .subst hm
    left
    exact⟨by rw[r3.2 ⟨rfl,rfl⟩],r2⟩
   .right
    have cO:=run_append_nil (P:=P) w t ty e i z hu hi hz a m c news (by rw[eJ,bB];exact hl) jC (by omega) (by omega) (by rw[xY];simp only[XE]at hb;omega);rw[hr]at cO;simp only[Result.ok.injEq]at cO;rw[cO.1,cO.2];exact⟨rfl,⟨rfl,rfl,rfl,by simp,λk hk _=>heap_alloc_old w.drew _ hk⟩⟩
  .by_cases iI:n+m<=cap
   .left
    refine⟨?_,r2⟩;have cO:=run_append_room (P:=P) w t ty e i hu hi g n cap cur hg a m c news (by rw[eJ,bB];exact hl) jC h1 iI (by rw[hl,eJ,bB,cX,<-XK];exact QQ _ iI);rw[hr]at cO;simp only[Result.ok.injEq]at cO;rw[cO.1];rfl
   .right
    have holds:∀j u,xs[j]?=some u->w.cell? ((⟨g,0,none⟩:Addr).add j)=some u:=lL.cells (g:=g) rfl;have cO:=run_append_grow (P:=P) w t ty e i z hu hi hz ⟨g,0,none⟩ n cap xs (by rw[eJ,bB];exact lL.1) holds a m c news (by rw[eJ,bB];exact hl) jC (by omega) (by omega) (by rw[xY];exact growslice_fits (by omega) hb);rw[hr]at cO;simp only[Result.ok.injEq]at cO;rw[cO.1,cO.2];exact⟨rfl,⟨rfl,rfl,rfl,by simp,λk hk _=>heap_alloc_old w.drew _ hk⟩⟩
theorem Jd{E:Env}{w:World}{sz:Nat}{s:SV}{m:ST}{g:Nat->List SV}{v:Value}(h:rowOf sz s=some (m,g))(hr:Rel E w s v):
  ∃(k:Nat) (news:List Value),m.den=(k:Int)/\k<=maxLen/\OX w v k sz news/\(∀i,i<k->(g i).length=sz)/\∀(i j:Nat) (s:SV) (u:Value),i<k->(g i)[j]?=some s->news[i * sz+j]?=some u->RO E.I w s u:=by
 have key:∀(nl:BT),RO E.I w (.sl nl m sz g) v->∃(k:Nat) (news:List Value),m.den=(k:Int)/\k<=maxLen/\OX w v k sz news/\(∀i,i<k->(g i).length=sz)/\∀(i j:Nat) (s:SV) (u:Value),i<k->(g i)[j]?=some s->news[i * sz+j]?=some u->RO E.I w s u:=by
  intro nl gY;rcases gY.bE with⟨rfl,e0,_⟩|⟨a,k,cap,f,rfl,_,e2,e3,NR,e4,e5,zf,e6,e7⟩
  .exact⟨0,[],by simpa using e0,ZB _,⟨by simp,by simp,.inl ⟨rfl,rfl⟩⟩,by simp,by simp⟩
  .refine⟨k,(List.range (k * sz)).map λq=>f (q / sz) (q % sz),e2,XV e3 NR,⟨by simp,λu hu=>?_,.inr ⟨a,cap,rfl,λj u hj=>?_⟩⟩,e5,λi j s u hi hs hu=>?_⟩
   .rw[List.mem_map]at hu
    obtain⟨q,hq,rfl⟩:=hu;have hq:q<k * sz:=by simpa using hq
    have bB:0<sz:=by rcases YN sz with h|h;subst h;omega;exact h
    exact zf _ _ ((UH bB).2 hq) (YD _ bB)
   .rw[QR]at hj
    have HZ:j<k * sz:=by
     rcases ZJ j (k * sz) with h|h
     .exact h
     .rw[QV (by simpa using h)]at hj;cases hj
    have bB:0<sz:=by rcases YN sz with h|h;subst h;omega;exact h
    have hd:=(UH bB).2 HZ;have:=(e6 (j / sz) (j % sz) hd (YD _ bB)).1;rw[UR,Nat.div_add_mod]at this;simp[HZ]at hj;subst hj;have rZ:=e4 (by rcases YN k with h|h;subst h;omega;exact h);have:a.add j=⟨a.block,a.off+j,none⟩:=by
     obtain⟨b,o,sp⟩:=a;simp only at rZ;subst rZ;exact add_lit b o j
    rw[this]
    assumption
   .have hsj:j<sz:=by rw[<-e5 i hi];exact (List.getElem?_eq_some_iff.1 hs).1
    have aC:i * sz+j<k * sz:=by
     have:(i+1) * sz<=k * sz:=QQ _ hi;rw[XK]at this;omega
    rw[QR]at hu;simp[aC]at hu;have h1:(i * sz+j) / sz=i:=by rw[UR,Nat.mul_add_div (by omega),Nat.div_eq_of_lt hsj];omega
    rw[h1,Nat.mod_eq_of_lt hsj]at hu;subst hu;exact e7 i j s hi hs
 unfold rowOf at h
 split at h
 .rename_i nl m' cD g'
  split at h
  .rename_i e
   simp only[Option.some.injEq,Prod.mk.injEq]at h;obtain⟨rfl,rfl⟩:=h;have e:cD=sz:=by simpa using e
   subst e;exact key nl hr.bE
  .cases h
 .rename_i nl m' cD g' h0
  split at h
  .rename_i e
   simp only[Option.some.injEq,Prod.mk.injEq]at h;obtain⟨rfl,rfl⟩:=h;have e:cD=sz:=by simpa using e
   subst e;exact key nl hr.kF.1
  .cases h
 .cases h
theorem Ok{B:Bs}{N:Nat}{E:Env}{a:Act}{w:World}{ff:Nat->SG}{hf:Nat->Hl}(st:St B N E a w ff hf){h:Nat}{e:TypeId}{sz:Nat}{v v':Value}{n m:Nat}{xs news:List Value}{w':World}
  (hold:(hf h=.fresh/\v=.slice none 0 0)\/∃nt,hf h=.tail e nt sz/\E.τ h=some v/\(∀b,v.ownBlock=some b->E.O b=some h/\∀o,n * sz<=o->¬E.I b o))
  (h1:∀u∈xs++news,u.oneCell'=true)
  (bW:w.ownsRow 0 e sz v n xs) (cF:w'.ownsRow 0 e sz v' (n+m) (xs++news)) (fW:(v'.ownBlock=v.ownBlock/\w.grownBy w' v.ownBlock)\/(v'.ownBlock=some w.heap.size/\w.grownBy w' none)) (wx:∃a c,v'=.slice a (n+m) c) (sF:hf h≠.fresh->m=0->v'=v) (nt':ST) (mP:nt'.den=((n+m:Nat):Int)):
  ∃E',Ext E w E' w'/\Cl B E' w'/\(∀k,bQ E' w' k (aR hf h (.tail e nt' sz) k))/\E'.τ h=some v'/\(∀b o,v'.ownBlock=some b->o<(n+m) * sz->E'.I b o)/\(∀b o,v'.ownBlock=some b->o<(n+m) * sz->w'.cell? ⟨b,o,none⟩=(xs++news)[o]?):=by
 have hb:=st.base;have dY:∀b,v.ownBlock=some b->E.O b=some h/\(∀o,n * sz<=o->¬E.I b o)/\b<w.heap.size:=by
  intro b bU;rcases hold with⟨_,rfl⟩|⟨_,_,_,h3⟩
  .simp[Value.ownBlock]at bU
  .exact⟨(h3 b bU).1,(h3 b bU).2,A9 hb (h3 b bU).1⟩
 let E':Env:=⟨E.β,aR E.τ h (some v'),λb=>if v'.ownBlock=some b then some h else E.O b,E.κ,E.ζ,λb o=>E.I b o\/(v'.ownBlock=some b/\o<(n+m) * sz)⟩
 have ye:∀b o,v.ownBlock=some b->o<n * sz->w.cell? ⟨b,o,none⟩=xs[o]?:=by
  intro b o bU ho;rcases bW.2 with⟨rfl,_⟩|⟨g,cap,cur,rfl,_,qz,qO,_,cX,bT⟩
  .simp[Value.ownBlock]at bU
  .simp[Value.ownBlock]at bU
   subst bU;rw[cell_of_row w g o cur e (0,0) qz,<-bT,QN,QB ho];simp
 have wO:∀b o,v'.ownBlock=some b->o<(n+m) * sz->w'.cell? ⟨b,o,none⟩=(xs++news)[o]?:=by
  intro b o bU ho;rcases cF.2 with⟨rfl,_⟩|⟨g,cap,cur,rfl,_,qz,qO,_,cX,bT⟩
  .simp[Value.ownBlock]at bU
  .simp[Value.ownBlock]at bU
   subst bU;rw[cell_of_row w' g o cur e (0,0) qz,<-bT,QN,QB ho];simp
 have eW:w'.os=w.os/\w'.tape=w.tape/\w'.output=w.output/\w.heap.size<=w'.heap.size:=by
  rcases fW with⟨_,hg⟩|⟨_,hg⟩<;>exact⟨hg.os,hg.tape,hg.output,hg.size⟩
 have fF:∀b,b<w.heap.size->v.ownBlock≠some b->w'.heap[b]?=w.heap[b]?:=by
  intro b aC aY;rcases fW with⟨_,hg⟩|⟨_,hg⟩
  .exact hg.block b aC (λe=>aY e.symm)
  .exact hg.block b aC (by simp)
 have hI:∀b o,E.I b o->w'.cell? ⟨b,o,none⟩=w.cell? ⟨b,o,none⟩:=by
  intro b o hi;have aC:=hb.dR b o hi
  by_cases tA:v.ownBlock=some b
  .have ho:o<n * sz:=by
    rcases ZJ o (n * sz) with h|h
    .exact h
    .exact absurd hi ((dY b tA).2.1 o h)
   rcases fW with⟨hs,_⟩|⟨_,hg⟩
   .rw[wO b o (by rw[hs];exact tA) (by rw[XK];omega),ye b o tA ho,QM (by rw[bW.1];exact ho)]
   .simp only[World.cell?]
    rw[hg.block b aC (by simp)]
  .simp only[World.cell?]
   rw[fF b aC tA]
 have hx:Ext E w E' w':=by
  refine⟨λ_ _ h=>h,λk u hk=>?_,λ_ _ h=>h,λ_ _ h=>h,λb o h=>.inl h,hI⟩;show aR E.τ h (some v') k=some u\/∃a m' c a' rT c',u=.slice a m' c/\aR E.τ h (some v') k=some (.slice a' rT c')/\m'<rT;unfold aR
  by_cases e:k=h
  .subst e
   rw[QB rfl];rcases hold with⟨cE,_⟩|⟨nt,aY,h2,_⟩
   .have:=st.heap k
    rw[cE]at this;rw[this.2.1]at hk;cases hk
   .rw[h2]at hk
    cases hk
    by_cases hm:m=0
    .left;rw[sF (by rw[aY];simp) hm]
    .right
     obtain⟨a',c',rfl⟩:=wx;have:∃a c,v=.slice a n c:=by
      rcases bW.2 with⟨rfl,e0⟩|⟨g,cap,cur,rfl,_⟩
      .exact⟨none,0,by rw[e0]⟩
      .exact⟨_,_,rfl⟩
     obtain⟨a,c,rfl⟩:=this;exact⟨a,n,c,a',n+m,c',rfl,rfl,by omega⟩
  .rw[QA e];exact .inl hk
 have kV:∀b,v'.ownBlock=some b->b<w'.heap.size:=λb bU=>(cF.lt b bU).2;have mD:∀b,v'.ownBlock=some b->B.w0.heap.size<=b\/B.X b:=by
  intro b bU;rcases fW with⟨hs,_⟩|⟨hs,_⟩
  .exact (hb.cR b h (dY b (by rw[<-hs];exact bU)).1).2
  .rw[hs]at bU;cases bU;exact .inl hb.size
 refine⟨E',hx,⟨eW.1.trans hb.os,eW.2.1.trans hb.tape,eW.2.2.1.trans hb.output,XV hb.size eW.2.2.2,λb aC hX=>?_,λb o hi=>?_,λb o hi=>?_,λb o hi=>?_,λb k hO=>?_,hb.cL.ext hx⟩,λk=>?_,by simp[E',aR],λb o bU ho=>.inr ⟨bU,ho⟩,wO⟩
 .have bB:=hb.size
  rw[fF b (by omega) ?_]
  .exact hb.dZ b aC hX
  .intro tA
   rcases (hb.cR b h (dY b tA).1).2 with h|h
   .omega
   .exact hX h
 .obtain⟨i1,i2⟩:=hb.I0 b o hi
  exact⟨.inl i1,by rw[hI b o i1];exact i2⟩
 .rcases hi with hi|⟨bU,_⟩
  .exact XP (hb.dR b o hi) eW.2.2.2
  .exact kV b bU
 .rcases hi with hi|⟨bU,ho⟩
  .exact hb.cC b o hi
  .exact .inr (mD b bU)
 .have hO:(if v'.ownBlock=some b then some h else E.O b)=some k:=hO
  split at hO
  .rename_i bU
   exact⟨kV b bU,mD b bU⟩
  .obtain⟨o1,o2⟩:=hb.cR b k hO
   exact⟨XP o1 eW.2.2.2,o2⟩
 .by_cases e:k=h
  .subst e
   simp only[aR,QB];refine⟨v',n+m,xs++news,by simp[E',aR],cF,mP,h1,λb bU=>⟨by show (if v'.ownBlock=some b then some k else E.O b)=some k;rw[QB bU],λo ho hi=>?_⟩⟩;rcases hi with hi|⟨_,TA⟩
   .rcases fW with⟨hs,_⟩|⟨hs,_⟩
    .exact (dY b (by rw[<-hs];exact bU)).2.1 o (by rw[XK]at ho;omega) hi
    .rw[hs]at bU;cases bU
     have:=hb.dR _ _ hi;omega
   .omega
  .simp only[aR,QA e]
   refine bQ.keep hx (st.heap k) rfl (by simp[E',aR,e]) rfl rfl λb hO=>?_;have aC:=A9 hb hO;have aY:v'.ownBlock≠some b:=by
    intro bU;rcases fW with⟨hs,_⟩|⟨hs,_⟩
    .have:=(dY b (by rw[<-hs];exact bU)).1
     rw[hO]at this;exact e (Option.some.inj this)
    .rw[hs]at bU;cases bU;omega
   have GU:v.ownBlock≠some b:=by
    intro bU;have:=(dY b bU).1;rw[hO]at this;exact e (Option.some.inj this)
   refine⟨by show (if v'.ownBlock=some b then some h else E.O b)=some k;rw[QA aY];exact hO,fF b aC GU,λo hi=>?_⟩;rcases hi with hi|⟨bU,_⟩
   .exact hi
   .exact absurd bU aY
end
end Go.Sx
