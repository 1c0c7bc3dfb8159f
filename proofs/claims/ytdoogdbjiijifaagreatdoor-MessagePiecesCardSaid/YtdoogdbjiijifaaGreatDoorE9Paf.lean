/- Lemmas of the proof; no conditions. -/
import Derived.Test.YtdoogdbjiijifaaGreatDoorE9Pae
namespace Go.Sx
open Go
section
variable {P:Program} {cx:Cx} {σ:Sy} {T:List Nat} {o:Oper} {K:Out->Prop}
theorem Ht(D:Dn):∀(ls:List Hl) (i:Nat),(cQ D ls)[i]?=(ls[i]?).map λl=>match l with
  |.aF ty cs=>.aF ty (loose.aH (norm.aO D cs))
  |.own ty n sz gr f=>.own ty (.a (D.i n)) sz gr f
  |l=>l
 | [],i=>by simp[cQ]
 |l :: ls,i=>by
  cases i with
  |zero=>cases l<;>simp[cQ,cQ.aH]
  |succ i=>cases l<;>simp[cQ,Ht D ls i]
theorem Ju(D:Dn):∀(ls:List Hl),(cQ D ls).length=ls.length
 | []=>rfl
 |l :: ls=>by cases l<;>simp[cQ,Ju D ls]
def TC:Hl->Prop
 |.aF _ cs=>∀c∈cs,An c=true
 |.own ..=>True
 |.nC ..=>True
 |.gone=>True
 |_=>False
theorem Gg:∀ {ls:List Hl},He ls=true->∀ {i:Nat} {l:Hl},ls[i]?=some l->TC l
 | [],_,i,l,h=>by simp at h
 |l0 :: ls,hp,i,l,h=>by
  cases i with
  |zero =>
   simp at h;subst h;cases l0<;>simp only[He,XE,QE]at hp<;>first|trivial|skip
   exact λc hc=>(C7 _).1 (by simpa[An] using hp.1) c hc
  |succ i =>
   simp at h;cases l0<;>simp only[He,XE,QE]at hp<;>first|exact Gg hp h|exact Gg hp.2 h
theorem bR.move{E E':Env}{w:World}{i k:Nat}{l:Hl}(h:bR E w i l)(ho:TC l)(hI:E'.I=E.I)(fY:E'.β k=E.β i)(oP:E'.τ k=E.τ i)(HA:E'.ζ k=E.ζ i)(hO:∀b,E.O b=some i->E'.O b=some k):bR E' w k l:=by
 cases l with
 |fresh=>exact ho.elim
 |gone=>trivial
 |aF ty cs =>
  obtain⟨b,C,k1,k2,k3,k4,k5,k6,k7⟩:=h;exact⟨b,C,by rw[fY];exact k1,hO b k2,k3,k4,λj s v p q=>(k5 j s v p q).plain hI (ho s (QL p)),k6,by rw[hI];exact k7⟩
 |tail ty n sz=>exact ho.elim
 |row ty n sz f=>exact ho.elim
 |own ty n sz gr f =>
  obtain⟨v,m,xs,k1,k2,k3,k4,k5,k6,k7⟩:=h;exact⟨v,m,xs,by rw[oP];exact k1,by rw[HA];exact k2,k3,k4,k5,⟨k6.1,by rw[hI];exact k6.2⟩,λb hb=>⟨hO b (k7 b hb).1,by rw[hI];exact (k7 b hb).2⟩⟩
 |nC T e s =>
  obtain⟨b,p,v,k1,k2,k3,k4,k5,k6,k7,k8⟩:=h;exact⟨b,p,v,by rw[fY];exact k1,hO b k2,k3,k4,k5,k6,by rw[hI];exact k7,λg hg=>⟨hO g (k8 g hg).1,by rw[hI];exact (k8 g hg).2⟩⟩
 |dB F=>exact ho.elim
 |iP es=>exact ho.elim
 |vec ty n g sz f=>exact ho.elim
 |bO c fr s pd=>exact ho.elim
theorem Abx(m m':Nat):∀(cs:List SV),Ig.bg m m' cs=true↔∀c∈cs,Ig m m' c=true
 | []=>by simp[Ig.bg]
 |c :: cs=>by simp[Ig.bg,Abx m m' cs]
theorem Al5(m a:Nat):∀(cs:List SV),jw.OH m a cs=cs.map (jw m a)
 | []=>rfl
 |c :: cs=>by simp[jw.OH,Al5 m a cs]
theorem Ai8{m a:Nat}{s:SV}(h1:∀nl n h,s≠.bV nl n h)(h2:∀vs,s≠.aI vs):jw m a s=s:=by
 cases s<;>first|rfl|exact absurd rfl (h1 _ _ _)|exact absurd rfl (h2 _)
theorem Rel.res{E E':Env}{w:World}{m m' a:Nat}{s:SV}{v:Value}(h:Rel E w s v)(hI:E'.I=E.I)(oP:∀k u,m<=k->k<m'->E.τ k=some u->E'.τ (k-m+a)=some u)(hp:Ig m m' s=true):Rel E' w (jw m a s) v:=by
 induction h with
 |ro h =>
  rename_i s v;have:=Ai8 (m:=m) (a:=a) (s:=s) (λ_ _ _ e=>by subst e;cases h) (λ_ e=>by subst e;cases h);rw[this];exact .ro (by rw[hI];exact h)
 |bV ht hk =>
  obtain⟨a0,m0,c0,t1,t2⟩:=hk;simp only[Ig,QE,ZG]at hp;exact .bV ht ⟨a0,m0,c0,oP _ _ (XK hp.1) hp.2 t1,t2⟩
 |aI hl _ ih =>
  simp only[jw,Al5];refine .aI (by simp[hl]) λi s v h1 h2=>?_;rw[QS]at h1;cases e:(‹List SV›)[i]? with
  |none=>rw[e]at h1;cases h1
  |some s' =>
   rw[e]at h1;cases h1;simp only[Ig]at hp;exact ih i s' v e h2 ((Abx m m' _).1 hp s' (QL e))
 |agg hl hh _=>exact (Rel.agg hl hh).plain hI hp
 |ptr hb hv=>simp[Ig,An]at hp
 |dO hr ht=>simp[Ig,An]at hp
 |dH hb hm hv=>simp[Ig,An]at hp
 |cT hb hz hv=>simp[Ig,An]at hp
 |cN hv ho=>simp[Ig,An]at hp
 |bQ hb hv=>simp[Ig,An]at hp
 |jI hb hn hv=>simp[Ig,An]at hp
 |yv hb hv=>simp[Ig,An]at hp
 |cR ht hk=>simp[Ig,An]at hp
 |kD ht hk=>simp[Ig,An]at hp
 |fJ hl _=>simp[Ig,An]at hp
 |gS hl _=>simp[Ig,An]at hp
theorem L8(hf:Nat->Hl):∀(a b:List Ef),H8 hf (a++b)=H8 (H8 hf a) b
 | [],b=>rfl
 |e :: a,b=>by show H8 (fg hf e) (a++b)=_;rw[L8];rfl
theorem Vw:∀(ls:List Hl) (a:Nat) (hf:Nat->Hl) (k:Nat),H8 hf (Fd a ls) k=if a<=k/\k<a+ls.length then (ls[k-a]?).getD .gone else hf k
 | [],a,hf,k=>by
  rw[QA (λh=>by have:=h.1;have h2:k<a+0:=h.2;omega)];rfl
 |l :: ls,a,hf,k=>by
  show H8 (aU hf a l) (Fd (a+1) ls) k=_;rw[Vw ls (a+1) (aU hf a l) k]
  by_cases e:k=a
  .subst e
   rw[QA (by omega),QC (by simp)];simp[aU]
  .by_cases e2:a+1<=k/\k<a+1+ls.length
   .rw[QC e2,QC (by simp;omega)]
    obtain⟨q,hq⟩:∃q,k-a=q+1:=⟨k-a-1,by omega⟩;rw[hq,show k-(a+1)=q by omega];simp
   .rw[QA e2,QA (by simp;omega)]
    simp[aU,e]
theorem Nn:∀(ls:List Hl) (a i:Nat) (l:Hl),ls[i]?=some l->Ef.put (a+i) l∈Fd a ls
 | [],a,i,l,h=>by simp at h
 |l0 :: ls,a,i,l,h=>by
  cases i with
  |zero=>simp at h;subst h;exact XB ..
  |succ i=>simp at h;rw[show a+(i+1)=a+1+i by omega];exact XC _ (Nn ls (a+1) i l h)
theorem Qw{hf:Nat->Hl}:∀(hs:List Nat) (ls:List Hl),ls.length=hs.length->hs.Nodup->
  (∀k,k ∉ hs->H8 hf (Ei hs ls) k=hf k)/\∀(i k:Nat) (l:Hl),hs[i]?=some k->ls[i]?=some l->H8 hf (Ei hs ls) k=l
 | [],ls,hl,_=>by
  have:ls=[]:=XH (by simpa using hl);subst this;exact⟨λk _=>rfl,by simp⟩
 |h :: hs,[],hl,_=>by simp at hl
 |h :: hs,l :: ls,hl,hn=>by
  rw[List.nodup_cons]at hn;obtain⟨a,b⟩:=Qw (hf:=aU hf h l) hs ls (by simpa using hl) hn.2;refine⟨λk hk=>?_,λi k l' h1 h2=>?_⟩
  .rw[XT,not_or]at hk
   show H8 (aU hf h l) (Ei hs ls) k=hf k;rw[a k hk.2];simp[aU,hk.1]
  .show H8 (aU hf h l) (Ei hs ls) k=l'
   cases i with
   |zero =>
    simp at h1 h2;subst h1 h2;rw[a h hn.1];simp[aU]
   |succ i=>simp at h1 h2;exact b i k l' h1 h2
theorem Ej(_hg:True){B:Bs}{N:Nat}{E:Env}{a:Act}{w:World}{ff:Nat->SG}{hf:Nat->Hl}(gp:Fm B cx.gl)(st:St B N E a w ff hf)(hT:Bk (Ac σ.gm T)):
  ∀(xs:List Operand) (ts:List TypeId) (vs:List SV),(∀x∈xs,∀s∈C4 x,ff s=Bf σ s)->Gw cx σ T xs ts=some vs->A8 E w vs (xs.map a.eval):=by
 intro xs
 induction xs with
 |nil=>intro ts vs _ h;simp[Gw]at h;subst h;exact .nil
 |cons x xs ih =>
  intro ts vs fC h;cases ts with
  |nil =>
   simp only[Gw]at h
   split at h
   .rename_i v us h1 h2
    cases h;exact .cons (Ab h1 gp st (fC x (XB ..)) hT) (ih [] us (λy hy=>fC y (XC _ hy)) h2)
   .cases h
  |cons t ts =>
   simp only[Gw]at h
   split at h
   .rename_i v us h1 h2
    cases h;exact .cons (Jo h1 gp st (fC x (XB ..)) hT) (ih ts us (λy hy=>fC y (XC _ hy)) h2)
   .cases h
def Enters(P:Program)(gl:List (Nat×SV))(σ:Sy)(T:List Nat)(o:Oper)(f:FuncId)(vs:List SV):Prop :=
 ∀(B:Bs) (N:Nat) (E:Env) (a:Act) (w:World) (ff:Nat->SG) (hf:Nat->Hl),Fm B gl->St B N E a w ff hf->EL σ ff o->Bk (Ac σ.gm T)->∃us:List Value,A8 E w vs us/\(execOp a.eval o).run P w=.ok (.enter f ⟨us⟩) w
def Dw{α:Type}(hs:List Nat)(M m m':Nat)(F G:Nat->Option α)(k:Nat):Option α :=
 match hs.idxOf? k with
 |some i=>F i
 |none=>if M<=k/\k<M+(m'-m) then F (m+(k-M)) else G k
open Classical in
noncomputable def Iy(hs:List Nat)(M m:Nat)(F G:Nat->Option Nat)(b:Nat):Option Nat :=
 match F b with
 |some i=>if i<m then hs[i]? else some (M+(i-m))
 |none=>if ∃k∈hs,G b=some k then none else G b
theorem Afn{f:FuncId}{vs:List SV}(jR:Enters P cx.gl σ T o f vs)
  {as:List SV} {hs:List Nat} {ls:List Hl} (xF:Fy σ.hp (loose.aH (norm.aO dn vs)) 0=some (as,hs,ls)) (gP:He (cQ dn ls)=true)
  {r:SV} {aK:List Hl} (tO:Fb P cx.gl f as (cQ dn ls) r aK) (hr:Ig ls.length aK.length r=true) (kT:He aK=true) (hlen:ls.length<=aK.length):
  Local P cx.gl σ T o ⟨jw ls.length (Ai σ.hp) r,Ei hs (takeN ls.length aK)++Fd (Ai σ.hp) (Db ls.length aK),hs,[]⟩:=by
 rw[Ba,Bl,Ag];intro B N E a w ff hf hg st ag bL hT K' Q hK;have hb:=st.base;obtain⟨n1,n2,n3,n4⟩:=G9 σ.hp _ 0 as hs ls xF;obtain⟨us,kR,aW⟩:=jR B N E a w ff hf hg st ag hT;have x8:A8 E w (loose.aH (norm.aO dn vs)) us:=by
  rw[Ci,Co];exact (kR.map _ λs v _ h=>h.norm).map _ λs v _ h=>h.loose
 -- tH fp state
 let Ec:Env:=⟨λi=>(hs[i]?).bind E.β,λi=>(hs[i]?).bind E.τ,λb=>(E.O b).bind λh=>hs.idxOf? h,λ_=>none,λi=>(hs[i]?).bind E.ζ,E.I⟩
 let Bc:Bs:=⟨w,λb=>∃h∈hs,E.O b=some h,E.I,Ec.β,Ec.τ,Ec.ζ,[]⟩
 have OY:Cr Bc Ec w:=by
  refine⟨rfl,rfl,rfl,QK _,λ_ _ _=>rfl,λb o h=>⟨h,rfl⟩,hb.dP,λb o h=>.inl h,λb i h=>?_,⟨λ_ _ h=>h,λ_ _ h=>.inl h,λ_ _ h=>h⟩⟩;have h:(E.O b).bind (λh=>hs.idxOf? h)=some i:=h;cases hO:E.O b with
  |none=>rw[hO]at h;cases h
  |some k =>
   rw[hO]at h;simp only[ZV]at h;have hk:k∈hs:=by
    rw[YA]at h;obtain⟨aC,he,_⟩:=h;rw[<-he];exact XO aC
   exact⟨(hb.cS b k hO).1,.inr ⟨k,hk,hO⟩⟩
 have hgc:Fm Bc cx.gl:=λg s h=>⟨(hg g s h).1.mono (λb o h=>(hb.I0 b o h).1) (λb o h=>(hb.I0 b o h).2),XQ (hg g s h).2.1 hb.size,
  λ⟨k,_,hO⟩=>by
   rcases (hb.cS g k hO).2 with h1|h1
   .exact absurd (hg g s h).2.1 (Nat.not_lt.2 h1)
   .exact (hg g s h).2.2.1 h1,
  (hg g s h).2.2.2.same (hb.dY g (hg g s h).2.1 (hg g s h).2.2.1)⟩
 have KB:Ec.I=E.I:=rfl;have eH:∀(i k:Nat),hs[i]?=some k->hs.idxOf? k=some i:=by
  intro i k hk;rw[YA];obtain⟨aC,he⟩:=List.getElem?_eq_some_iff.1 hk;refine⟨aC,by simp[he],λj hj=>?_⟩;have bA:hs[j]≠hs[i]:=List.pairwise_iff_getElem.1 n1 j i (by omega) aC hj;rw[<-he];simpa using bA
 have dr:∀(i k:Nat),hs.idxOf? k=some i->hs[i]?=some k:=by
  intro i k hk;rw[YA]at hk;obtain⟨aC,he,_⟩:=hk;rw[QB aC,he]
 have sX:∀k,k ∉ hs->hs.idxOf? k=none:=by
  intro k hk;cases h:hs.idxOf? k with
  |none=>rfl
  |some i=>exact absurd (QL (dr i k h)) hk
 have uR:∀k∈hs,k<σ.hp.length:=by
  intro k hk;obtain⟨i,hi⟩:=List.mem_iff_getElem?.1 hk;obtain⟨l,m1,_⟩:=n3 i k hi;rw[Aj]at m1;exact (List.getElem?_eq_some_iff.1 m1).1
 have pZ:∀h,bR Ec w h (Aq (cQ dn ls) h):=by
  intro h;simp only[Aq,Aj,Ht];cases hl:ls[h]? with
  |none =>
   have:hs[h]?=none:=by rw[List.getElem?_eq_none_iff]at hl ⊢;omega
   simp only[YW,ZW];exact⟨by show (hs[h]?).bind E.β=none;rw[this];rfl,by show (hs[h]?).bind E.τ=none;rw[this];rfl,rfl,by show (hs[h]?).bind E.ζ=none;rw[this];rfl⟩
  |some l =>
   have aC:h<hs.length:=by rw[<-n2];exact (List.getElem?_eq_some_iff.1 hl).1
   obtain⟨l',m1,m2,m3⟩:=n3 h hs[h] (QB aC);rw[hl]at m2;cases m2;have hk:=st.heap hs[h];rw[bL.tX _ (XO aC),Bv m1]at hk;have gE:TC ((λl=>match l with|.aF ty cs=>Hl.aF ty (loose.aH (norm.aO dn cs))|.own ty n sz gr f=>.own ty (.a (dn.i n)) sz gr f|l=>l) l):=Gg gP (i:=h) (by rw[Ht,hl];rfl);have IU:bR E w hs[h] ((λl=>match l with|.aF ty cs=>Hl.aF ty (loose.aH (norm.aO dn cs))|.own ty n sz gr f=>.own ty (.a (dn.i n)) sz gr f|l=>l) l):=by
    cases l with
    |aF ty cs =>
     obtain⟨b,C,k1,k2,k3,k4,k5,k6⟩:=hk.eF;have cX:A8 E w (loose.aH (norm.aO dn cs)) C.toList:=by
      rw[Ci,Co];exact (k4.map _ λs v _ h=>h.norm).map _ λs v _ h=>h.loose
     exact⟨b,C,k1,k2,k3,by have:=cX.1;simpa using this.symm,λi s v p q=>cX.2 i s v p (by simpa using q),λv hv=>k5 v (by simpa using hv),k6⟩
    |_=>exact hk
   simp only[QQ,XD];refine IU.move gE KB ?_ ?_ ?_ λb hb=>?_
   .show (hs[h]?).bind E.β=_;rw[QB aC];rfl
   .show (hs[h]?).bind E.τ=_;rw[QB aC];rfl
   .show (hs[h]?).bind E.ζ=_;rw[QB aC];rfl
   .show (E.O b).bind (λh=>hs.idxOf? h)=some h
    rw[hb];exact eH h _ (QB aC)
 have bG:A8 Ec w as us:=n4 E Ec w _ KB (λi h hi=>by
  refine⟨?_,?_⟩
  .show (hs[0+i]?).bind E.β=E.β h
   rw[XF,hi];rfl
  .show (hs[0+i]?).bind E.τ=E.τ h
   rw[XF,hi];rfl) x8
 have dU:=tO Bc Ec w us rfl (λb o h=>h) (λh hb=>by
  have hb:(hs[h]?).bind E.β≠none\/(hs[h]?).bind E.τ≠none\/(hs[h]?).bind E.ζ≠none:=hb;cases hh:hs[h]? with
  |none=>rw[hh]at hb;simp at hb
  |some k=>rw[Ju,n2];exact (List.getElem?_eq_some_iff.1 hh).1) OY hgc pZ bG
 -- tH operation
 unfold Oper.wp;rw[aW];simp only[Oper.upon];refine dU.mono ?_;rintro e w' ⟨v,jC,rfl,x2,x3,x4⟩
 -- back in tH fm state
 obtain⟨M,hM⟩:∃M,M=σ.hp.length:=⟨_,rfl⟩;obtain⟨m,hm⟩:∃m,m=ls.length:=⟨_,rfl⟩;rw[<-hM,<-hm]at hK;rw[<-hm]at hlen hr
 let E':Env:=⟨Dw hs M m aK.length jC.β E.β,Dw hs M m aK.length jC.τ E.τ,Iy hs M m jC.O E.O,E.κ,Dw hs M m aK.length jC.ζ E.ζ,jC.I⟩
 have qQ:∀k,M<=k->k<M+(aK.length-m)->hf k=.fresh:=by
  intro k h1 h2;have hl:∃l,(aK.drop m)[k-M]?=some l:=⟨_,QB (by simp;omega)⟩;obtain⟨l,hl⟩:=hl;have dN:=Nn (aK.drop m) M (k-M) l hl;rw[show M+(k-M)=k by omega]at dN;have dh:Ef.put k l∈Fd σ.hp.length (List.drop ls.length aK):=by rw[<-hM,<-hm];exact dN
  have:=bL.fR _ (List.mem_append.2 (.inr dh));simp only[fx,Aq,Aj]at this;rw[this,QY (by omega)];rfl
 have gZ:∀k,M<=k->k<M+(aK.length-m)->E.β k=none/\E.τ k=none/\E.ζ k=none:=by
  intro k h1 h2;have:=st.heap k;rw[qQ k h1 h2]at this;exact⟨this.1,this.2.1,this.2.2.2⟩
 have dM:∀ {α:Type} (F G:Nat->Option α) (i k:Nat),hs[i]?=some k->Dw hs M m aK.length F G k=F i:=by
  intro α F G i k hk;simp only[Dw,eH i k hk]
 have gO:∀ {α:Type} (F G:Nat->Option α) (i:Nat),m+i<aK.length->Dw hs M m aK.length F G (M+i)=F (m+i):=by
  intro α F G i hi;have:(M+i) ∉ hs:=λh=>by have:=uR _ h;omega
  simp only[Dw,sX _ this];rw[QC (by omega),ZL]
 have cW:∀ {α:Type} (F G:Nat->Option α) (k:Nat),k ∉ hs->¬(M<=k/\k<M+(aK.length-m))->Dw hs M m aK.length F G k=G k:=by
  intro α F G k h1 h2;simp only[Dw,sX _ h1];rw[QA h2]
 have iB:∀k:Nat,(∃i:Nat,hs[i]?=some k)\/(∃i,m+i<aK.length/\k=M+i)\/(k ∉ hs/\¬(M<=k/\k<M+(aK.length-m))):=by
  intro k
  by_cases h1:k∈hs
  .obtain⟨i,hi⟩:=List.mem_iff_getElem?.1 h1;exact .inl ⟨i,hi⟩
  .by_cases h2:M<=k/\k<M+(aK.length-m)
   .exact .inr (.inl ⟨k-M,by omega,by omega⟩)
   .exact .inr (.inr ⟨h1,h2⟩)
 have oG:Ext E w E' w':=by
  refine⟨λk b hk=>?_,λk u hk=>?_,λ_ _ h=>h,λk n hk=>?_,λb o h=>(x2.I0 b o h).1,λb o h=>(x2.I0 b o h).2⟩
  .show Dw hs M m aK.length jC.β E.β k=some b
   rcases iB k with⟨i,hi⟩|⟨i,hi,rfl⟩|⟨h1,h2⟩
   .rw[dM _ _ i k hi];exact x2.cO.β i b (by show (hs[i]?).bind E.β=some b;rw[hi];exact hk)
   .rw[(gZ _ (by omega) (by omega)).1]at hk;cases hk
   .rw[cW _ _ k h1 h2];exact hk
  .show Pr u (Dw hs M m aK.length jC.τ E.τ k)
   rcases iB k with⟨i,hi⟩|⟨i,hi,rfl⟩|⟨h1,h2⟩
   .rw[dM _ _ i k hi];exact x2.cO.τ i u (by show (hs[i]?).bind E.τ=some u;rw[hi];exact hk)
   .rw[(gZ _ (by omega) (by omega)).2.1]at hk;cases hk
   .rw[cW _ _ k h1 h2];exact .inl hk
  .show Dw hs M m aK.length jC.ζ E.ζ k=some n
   rcases iB k with⟨i,hi⟩|⟨i,hi,rfl⟩|⟨h1,h2⟩
   .rw[dM _ _ i k hi];exact x2.cO.ζ i n (by show (hs[i]?).bind E.ζ=some n;rw[hi];exact hk)
   .rw[(gZ _ (by omega) (by omega)).2.2]at hk;cases hk
   .rw[cW _ _ k h1 h2];exact hk
 have ey:∀b o,b<w.heap.size->(¬ ∃h∈hs,E.O b=some h)->jC.I b o->E.I b o:=λb o aC kS hi=>by
  rcases x2.cE b o hi with h|h|h
  .exact h
  .have:w.heap.size<=b:=h
   omega
  .exact absurd h kS
 have aA:Cr B E' w':=by
  refine⟨x2.os.trans hb.os,x2.tape.trans hb.tape,x2.output.trans hb.output,XP hb.size x2.size,λb aC hX=>?_,λb o hi=>?_,x2.dP,λb o hi=>?_,λb h hO=>?_,hb.cO.ext oG⟩
  .rw[x2.dY b (by have:=hb.size;show b<w.heap.size;omega) ?_]
   .exact hb.dY b aC hX
   .rintro⟨k,_,hO⟩
    rcases (hb.cS b k hO).2 with h|h
    .omega
    .exact hX h
  .obtain⟨i1,i2⟩:=hb.I0 b o hi
   exact⟨(x2.I0 b o i1).1,by rw[(x2.I0 b o i1).2];exact i2⟩
  .rcases x2.cE b o hi with h|h|⟨k,_,hO⟩
   .exact hb.cE b o h
   .have:w.heap.size<=b:=h
    have:=hb.size;exact .inr (.inl (by omega))
   .exact .inr (hb.cS b k hO).2
  .have hO:Iy hs M m jC.O E.O b=some h:=hO
   unfold Iy at hO
   split at hO
   .rename_i i hi
    obtain⟨o1,o2⟩:=x2.cS b i hi;refine⟨o1,?_⟩;rcases o2 with o2|⟨k,_,hk⟩
    .have:w.heap.size<=b:=o2
     have:=hb.size;exact .inl (by omega)
    .exact (hb.cS b k hk).2
   .split at hO
    .cases hO
    .obtain⟨o1,o2⟩:=hb.cS b h hO
     exact⟨XQ o1 x2.size,o2⟩
 have oH:∀b i:Nat,jC.O b=some i->∀k:Nat,(hs[i]?=some k/\i<m\/m<=i/\k=M+(i-m))->E'.O b=some k:=by
  intro b i hi k hk;show Iy hs M m jC.O E.O b=some k;simp only[Iy,hi];rcases hk with⟨h1,h2⟩|⟨h1,rfl⟩
  .rw[QC h2];exact h1
  .rw[QA (by omega)]
 have n2m:hs.length=m:=by rw[hm,n2]
 obtain⟨f1,f2⟩:=Qw (hf:=hf) hs (aK.take m) (by simp;omega) n1;refine hK v w' E' oG aA (λk=>?_) (x4.res rfl (λk u h1 hk h2=>?_) hr)
 .show bR E' w' k (H8 hf (Ei hs (aK.take m)++Fd M (aK.drop m)) k)
  rw[L8,Vw];rcases iB k with⟨i,hi⟩|⟨i,hi,rfl⟩|⟨h1,h2⟩
  .have hkM:=uR k (QL hi)
   have ab2:i<hs.length:=(List.getElem?_eq_some_iff.1 hi).1;rw[QA (by omega)];obtain⟨l,hl⟩:∃l,aK[i]?=some l:=⟨_,QB (by omega)⟩;rw[f2 i k l hi (by rw[QN,QC (by omega)];exact hl)];have h3:=x3 i (by omega);have:Aq aK i=l:=by simp[Aq,Aj,hl]
   rw[this]at h3;exact h3.move (Gg kT hl) rfl (dM _ _ i k hi) (dM _ _ i k hi) (dM _ _ i k hi) λb hb=>oH b i hb k (.inl ⟨hi,by omega⟩)
  .rw[QC (by simp;omega)]
   obtain⟨l,hl⟩:∃l,aK[m+i]?=some l:=⟨_,QB hi⟩;rw[ZL,XG,hl];simp only[XD];have h3:=x3 (m+i) hi;have:Aq aK (m+i)=l:=by simp[Aq,Aj,hl]
   rw[this]at h3;exact h3.move (Gg kT hl) rfl (gO _ _ i hi) (gO _ _ i hi) (gO _ _ i hi) λb hb=>oH b (m+i) hb _ (.inr ⟨by omega,by congr 1;omega⟩)
  .rw[QA (by simp;omega),f1 k h1]
   refine bR.keep oG (st.heap k) (cW _ _ k h1 h2) (cW _ _ k h1 h2) rfl (cW _ _ k h1 h2) λb hO=>?_;have kS:¬ ∃h∈hs,E.O b=some h:=by
    rintro⟨k2,aY,yJ⟩;rw[hO]at yJ;cases yJ;exact h1 aY
   refine⟨?_,x2.dY b (Bd hb hO) kS,λo hi=>ey b o (Bd hb hO) kS hi⟩;show Iy hs M m jC.O E.O b=some k;have dd:jC.O b=none:=by
    cases hi:jC.O b with
    |none=>rfl
    |some i =>
     rcases (x2.cS b i hi).2 with h|h
     .have h:w.heap.size<=b:=h
      have:=Bd hb hO;omega
     .exact absurd h kS
   simp only[Iy,dd];rw[QA kS];exact hO
 .show Dw hs M m aK.length jC.τ E.τ (k-m+M)=some u
  have:=gO jC.τ E.τ (k-m) (by omega);rw[show k-m+M=M+(k-m) by omega,this,show m+(k-m)=k by omega];exact h2
theorem Nr:∀(cs:List SV),iJ.uI cs=cs.flatMap iJ
 | []=>rfl
 |c :: cs=>by simp[iJ.uI,Nr cs]
theorem Ki(ρ:Nat->Nat):∀(cs:List SV),nW.yP ρ cs=cs.map (nW ρ)
 | []=>rfl
 |c :: cs=>by simp[nW.yP,Ki ρ cs]
theorem D2:∀(cs:List SV),Cf.dD cs=true↔∀c∈cs,Cf c=true
 | []=>by simp[Cf.dD]
 |c :: cs=>by simp[Cf.dD,D2 cs]
theorem Km(g:Hl->Hl):∀(ls:List Hl),W0 g ls=ls.map g
 | []=>rfl
 |l :: ls=>by simp[W0,Km g ls]
theorem Pb(D:Dn)(hp:List Hl):∀(hs:List Nat),Vg D hp hs=hs.map λh=>match nth hp h with|some l=>pS D l|none=>.gone
 | []=>rfl
 |h :: hs=>by simp only[Vg,Pb D hp hs,UY];cases nth hp h<;>rfl
theorem Hu(t:List Nat):∀(l:List Nat),Wj t l=true↔∀x∈l,x∈t
 | []=>by simp[Wj]
 |x :: l=>by simp[Wj,Hu t l,D9]
theorem H3:∀(l:List Nat),Qa l=true↔l.Nodup
 | []=>by simp[Qa]
 |x :: l=>by
  simp only[Qa,QE,XL,List.nodup_cons,H3 l];rw[<-Bool.not_eq_true,D9]
theorem Gy(n:Nat):∀(l:List Nat),vb n l=true↔∀x∈l,x<n
 | []=>by simp[vb]
 |x :: l=>by simp[vb,Gy n l]
theorem G8(hs:List Nat):∀(ls:List Hl),Mr hs ls=true↔∀l∈ls,Df l=true/\∀j∈cr l,j∈hs
 | []=>by simp[Mr]
 |l :: ls=>by simp[Mr,G8 hs ls,Hu]
theorem Ow(n:Nat):∀(ls:List Hl),NA n ls=true↔∀l∈ls,Df l=true/\∀j∈cr l,j<n
 | []=>by simp[NA]
 |l :: ls=>by simp[NA,Ow n ls,Gy]
theorem O6{hs:List Nat}(hn:hs.Nodup){i k:Nat}(h:hs[i]?=some k):Ih hs k=i:=by
 induction hs generalizing i with
 |nil=>simp at h
 |cons x l ih =>
  rw[List.nodup_cons]at hn;cases i with
  |zero=>simp at h;subst h;simp[Ih]
  |succ i =>
   simp at h;have bA:x≠k:=λe=>hn.1 (by rw[e];exact QL h);have bA:(x==k)=false:=by simpa using bA
   simp[Ih,bA,ih hn.2 h]
structure Y8(E:Env)(i:Nat)(E':Env)(k:Nat):Prop where
 β:E'.β k=E.β i
 τ:E'.τ k=E.τ i
 ζ:E'.ζ k=E.ζ i
theorem RO.rn{I:Nat->Nat->Prop}{w:World}{s:SV}{v:Value}(ρ:Nat->Nat)(h:RO I w s v):nW ρ s=s:=by
 induction h with
 | @agg cs vs hl _ ih =>
  simp only[nW,Ki,SV.agg.injEq];refine List.ext_getElem? λi=>?_;rw[QS];cases e:cs[i]? with
  |none=>rfl
  |some s =>
   have hi:i<cs.length:=(List.getElem?_eq_some_iff.1 e).1;simp only[QQ,Option.some.injEq];exact ih i s _ e (QB (by omega))
 |_=>rfl
theorem Rel.rn{E E':Env}{w:World}{s:SV}{v:Value}(ρ:Nat->Nat)(h:Rel E w s v)(hI:E'.I=E.I)(hr:Cf s=true)(he:∀k∈iJ s,Y8 E k E' (ρ k)):Rel E' w (nW ρ s) v:=by
 induction h with
 |ro h=>rw[h.rn];exact .ro (by rw[hI];exact h)
 |ptr hb hv=>exact .ptr (by rw[(he _ (by simp[iJ])).β];exact hb) hv
 |dO bP ht =>
  obtain⟨a,m,c,t1,t2⟩:=ht;exact .dO (by rw[hI];exact bP) ⟨a,m,c,by rw[(he _ (by simp[iJ])).τ];exact t1,t2⟩
 |bV ht hk =>
  obtain⟨a,m,c,t1,t2⟩:=hk;exact .bV ht ⟨a,m,c,by rw[(he _ (by simp[iJ])).τ];exact t1,t2⟩
 |cN hv ho =>
  obtain⟨a,m,c,sz,t1,t2,t3⟩:=ho;exact .cN hv ⟨a,m,c,sz,by rw[(he _ (by simp[iJ])).τ];exact t1,by rw[(he _ (by simp[iJ])).ζ];exact t2,t3⟩
 |bQ hb hv=>exact .bQ (by rw[(he _ (by simp[iJ])).β];exact hb) hv
 |jI hb hn hv=>exact .jI (by rw[(he _ (by simp[iJ])).β];exact hb) hn hv
 |yv hb hv=>exact .yv (by rw[(he _ (by simp[iJ])).β];exact hb) hv
 |cR ht hk =>
  obtain⟨a,m,c,t1,t2⟩:=hk;exact .cR ht ⟨a,m,c,by rw[(he _ (by simp[iJ])).τ];exact t1,t2⟩
 |kD ht hk =>
  obtain⟨a,m,c,sz,t1,t2,t3⟩:=hk;exact .kD ht ⟨a,m,c,sz,by rw[(he _ (by simp[iJ])).τ];exact t1,by rw[(he _ (by simp[iJ])).ζ];exact t2,t3⟩
 |dH hb hm hv=>simp[Cf]at hr
 |cT hb hz hv=>simp[Cf]at hr
 |agg hl _ ih =>
  simp only[nW,Ki];refine .agg (by simp[hl]) λi s v h1 h2=>?_;rw[QS]at h1;obtain⟨s',e,rfl⟩:=Option.map_eq_some_iff.1 h1;have hm:=QL e;exact ih i s' v e h2 ((D2 _).1 (by simpa[Cf] using hr) s' hm) λk hk=>he k (by simp only[iJ,Nr,UD];exact⟨s',hm,hk⟩)
 |aI hl _ ih =>
  simp only[nW,Ki];refine .aI (by simp[hl]) λi s v h1 h2=>?_;rw[QS]at h1;obtain⟨s',e,rfl⟩:=Option.map_eq_some_iff.1 h1;have hm:=QL e;exact ih i s' v e h2 ((D2 _).1 (by simpa[Cf] using hr) s' hm) λk hk=>he k (by simp only[iJ,Nr,UD];exact⟨s',hm,hk⟩)
 |fJ hl _ ih =>
  simp only[nW,Ki];refine .fJ (by simp[hl]) λi s v h1 h2=>?_;rw[QS]at h1;obtain⟨s',e,rfl⟩:=Option.map_eq_some_iff.1 h1;have hm:=QL e;exact ih i s' v e h2 ((D2 _).1 (by simpa[Cf] using hr) s' hm) λk hk=>he k (by simp only[iJ,Nr,UD];exact⟨s',hm,hk⟩)
 |gS hl _ ih =>
  simp only[nW,Ki];refine .gS (by simp[hl]) λi s v h1 h2=>?_;rw[QS]at h1;obtain⟨s',e,rfl⟩:=Option.map_eq_some_iff.1 h1;have hm:=QL e;exact ih i s' v e h2 ((D2 _).1 (by simpa[Cf] using hr) s' hm) λk hk=>he k (by simp only[iJ,Nr,UD];exact⟨s',hm,hk⟩)
theorem Zq{ρ:Nat->Nat}{s:Nat}{v:SV}:∀ {fr:List (Nat×Option SV)},(s,some v)∈wo ρ fr->∃v',v=nW ρ v'/\(s,some v')∈fr
 | [],h=>by simp[wo]at h
 |(_,some u) :: l,h=>by
  simp only[wo,XT,Prod.mk.injEq,Option.some.injEq]at h;rcases h with⟨rfl,rfl⟩|h
  .exact⟨u,rfl,XB ..⟩
  .obtain⟨v',e,h⟩:=Zq h
   exact⟨v',e,XC _ h⟩
 |(_,none) :: l,h=>by
  simp only[wo,XT,Prod.mk.injEq,reduceCtorEq,and_false,false_or]at h;obtain⟨v',e,h⟩:=Zq h;exact⟨v',e,XC _ h⟩
theorem Kh{s:Nat}{v:SV}:∀ {fr:List (Nat×Option SV)},Jl fr=true->(s,some v)∈fr->Cf v=true
 | [],_,h=>by simp at h
 |(_,some u) :: l,hr,h=>by
  simp only[Jl,QE]at hr;simp only[XT,Prod.mk.injEq,Option.some.injEq]at h;rcases h with⟨_,rfl⟩|h
  .exact hr.1
  .exact Kh hr.2 h
 |(_,none) :: l,hr,h=>by
  simp only[Jl]at hr;simp only[XT,Prod.mk.injEq,reduceCtorEq,and_false,false_or]at h;exact Kh hr h
theorem Z1{s j:Nat}{v:SV}:∀ {fr:List (Nat×Option SV)},(s,some v)∈fr->j∈iJ v->j∈CS fr
 | [],h,_=>by simp at h
 |(_,some u) :: l,h,hj=>by
  simp only[XT,Prod.mk.injEq,Option.some.injEq]at h;simp only[CS,YB];rcases h with⟨_,rfl⟩|h
  .exact .inl hj
  .exact .inr (Z1 h hj)
 |(_,none) :: l,h,hj=>by
  simp only[XT,Prod.mk.injEq,reduceCtorEq,and_false,false_or]at h;simp only[CS];exact Z1 h hj
theorem bR.rn{E E':Env}{w:World}{i k:Nat}{l:Hl}(ρ:Nat->Nat)(h:bR E w i l)(hr:Df l=true)(hI:E'.I=E.I)(hs:Y8 E i E' k)(hO:∀b,E.O b=some i->E'.O b=some k)(he:∀j∈cr l,Y8 E j E' (ρ j)):bR E' w k (mP ρ l):=by
 cases l with
 |fresh=>simp[Df]at hr
 |gone=>trivial
 |row ty n sz f=>simp[Df]at hr
 |aF ty cs =>
  obtain⟨b,C,k1,k2,k3,k4,k5,k6,k7⟩:=h;refine⟨b,C,by rw[hs.β];exact k1,hO b k2,k3,by rw[Ki,XW];exact k4,λj s v p q=>?_,k6,by rw[hI];exact k7⟩;rw[Ki,QS]at p;obtain⟨s',e,rfl⟩:=Option.map_eq_some_iff.1 p;have hm:=QL e;exact (k5 j s' v e q).rn ρ hI ((D2 _).1 (by simpa[Df] using hr) s' hm) λj hj=>he j (by simp only[cr,Nr,UD];exact⟨s',hm,hj⟩)
 |tail ty n sz =>
  obtain⟨v,m,xs,k1,k2,k3,k4,k5⟩:=h;exact⟨v,m,xs,by rw[hs.τ];exact k1,k2,k3,k4,λb hb=>⟨hO b (k5 b hb).1,by rw[hI];exact (k5 b hb).2⟩⟩
 |own ty n sz gr f =>
  obtain⟨v,m,xs,k1,k2,k3,k4,k5,k6,k7⟩:=h;exact⟨v,m,xs,by rw[hs.τ];exact k1,by rw[hs.ζ];exact k2,k3,k4,k5,⟨k6.1,by rw[hI];exact k6.2⟩,λb hb=>⟨hO b (k7 b hb).1,by rw[hI];exact (k7 b hb).2⟩⟩
 |nC T e s =>
  obtain⟨b,p,v,k1,k2,k3,k4,k5,k6,k7,k8⟩:=h;exact⟨b,p,v,by rw[hs.β];exact k1,hO b k2,k3,k4,k5,k6,by rw[hI];exact k7,λg hg=>⟨hO g (k8 g hg).1,by rw[hI];exact (k8 g hg).2⟩⟩
 |dB F =>
  obtain⟨b,es,clock,k1,k2,k3,k4,k5,k6⟩:=h;exact⟨b,es,clock,by rw[hs.β];exact k1,hO b k2,k3,k4,k5,by rw[hI];exact k6⟩
 |iP es=>simp[Df]at hr
 |vec ty n g sz f =>
  obtain⟨a,c,m,G,xs,k1,k2,k3,k4,k5,k6,k7⟩:=h;exact⟨a,c,m,G,xs,by rw[hs.τ];exact k1,k2,k3,k4,k5,⟨k6.1,by rw[hI];exact k6.2⟩,λb hb=>⟨hO b (k7 b hb).1,by rw[hI];exact (k7 b hb).2⟩⟩
 |bO c fr st pd =>
  obtain⟨b,rr,k1,k2,k3,k4,k5,k6⟩:=h;refine⟨b,rr,by rw[hs.β];exact k1,hO b k2,k3,k4,λs v hm=>?_,by rw[hI];exact k6⟩;obtain⟨v',rfl,CV⟩:=Zq hm;exact⟨(k5 s v' CV).1,(k5 s v' CV).2.rn ρ hI (Kh (by simpa[Df] using hr) CV) λj hj=>he j (Z1 CV hj)⟩
theorem bR.pS{E:Env}{w:World}{h:Nat}{l:Hl}(hk:bR E w h l):bR E w h (pS dn l):=by
 cases l with
 |aF ty cs =>
  obtain⟨b,C,k1,k2,k3,k4,k5,k6⟩:=hk.eF;have hn:A8 E w (norm.aO dn cs) C.toList:=by
   rw[Co];exact k4.map _ λs v _ h=>h.norm
  exact⟨b,C,k1,k2,k3,by have:=hn.1;simpa using this.symm,λi s v p q=>hn.2 i s v p (by simpa using q),λv hv=>k5 v (by simpa using hv),k6⟩
 |_=>exact hk
theorem Nz{G:List Value->World->(Ending->World->Prop)->Prop}(Gm:∀us w (R R':Ending->World->Prop),(∀e w',R e w'->R' e w')->G us w R->G us w R'){hp:List Hl}{vh vs:List SV}(x7:vs=loose.aH (norm.aO dn vh))
  {hs:List Nat} {ls:List Hl} (mv:ls=Vg dn hp hs) (n1:hs.Nodup) (fA:∀k∈iJ.uI vs,k∈hs) (aJ:Cf.dD vs=true) (uR:∀k∈hs,k<hp.length) (qR:∀l∈ls,Df l=true/\∀j∈cr l,j∈hs)
  {r:SV} {aK:List Hl} (tO:Aot G cx.gl (nW.yP (Ih hs) vs) (ls.map (mP (Ih hs))) r aK) (hlen:hs.length<=aK.length) (WB:Cf r=true) (uK:∀k∈iJ r,k<aK.length) (gE:∀l∈aK,Df l=true/\∀j∈cr l,j<aK.length)
  {B:Bs} {E:Env} {w:World} {hf:Nat->Hl} (hg:Fm B cx.gl) (hb:Cr B E w) (eY:∀h,bR E w h (hf h)) (bL:CB hp hf ⟨nW (Cv hs hs.length hp.length) r,Ei hs ((aK.take hs.length).map (mP (Cv hs hs.length hp.length)))++Fd hp.length ((aK.drop hs.length).map (mP (Cv hs hs.length hp.length))),hs,[]⟩) {us:List Value} (kR:A8 E w vh us):
  G us w λe w'=>∃v E',e=.returned v/\Ext E w E' w'/\Cr B E' w'/\(∀h,bR E' w' h (H8 hf (Ei hs ((aK.take hs.length).map (mP (Cv hs hs.length hp.length)))++Fd hp.length ((aK.drop hs.length).map (mP (Cv hs hs.length hp.length)))) h))/\Rel E' w' (nW (Cv hs hs.length hp.length) r) v:=by
 have x8:A8 E w vs us:=by
  rw[x7,Ci,Co];exact (kR.map _ λs v _ h=>h.norm).map _ λs v _ h=>h.loose
 have n2:ls.length=hs.length:=by rw[mv,Pb,XW]
 -- tH fp state
 let Ec:Env:=⟨λi=>(hs[i]?).bind E.β,λi=>(hs[i]?).bind E.τ,λb=>(E.O b).bind λh=>hs.idxOf? h,λ_=>none,λi=>(hs[i]?).bind E.ζ,E.I⟩
 let Bc:Bs:=⟨w,λb=>∃h∈hs,E.O b=some h,E.I,Ec.β,Ec.τ,Ec.ζ,[]⟩
 have OY:Cr Bc Ec w:=by
  refine⟨rfl,rfl,rfl,QK _,λ_ _ _=>rfl,λb o h=>⟨h,rfl⟩,hb.dP,λb o h=>.inl h,λb i h=>?_,⟨λ_ _ h=>h,λ_ _ h=>.inl h,λ_ _ h=>h⟩⟩;have h:(E.O b).bind (λh=>hs.idxOf? h)=some i:=h;cases hO:E.O b with
  |none=>rw[hO]at h;cases h
  |some k =>
   rw[hO]at h;simp only[ZV]at h;have hk:k∈hs:=by
    rw[YA]at h;obtain⟨aC,he,_⟩:=h;rw[<-he];exact XO aC
   exact⟨(hb.cS b k hO).1,.inr ⟨k,hk,hO⟩⟩
 have hgc:Fm Bc cx.gl:=λg s h=>⟨(hg g s h).1.mono (λb o h=>(hb.I0 b o h).1) (λb o h=>(hb.I0 b o h).2),XQ (hg g s h).2.1 hb.size,
  λ⟨k,_,hO⟩=>by
   rcases (hb.cS g k hO).2 with h1|h1
   .exact absurd (hg g s h).2.1 (Nat.not_lt.2 h1)
   .exact (hg g s h).2.2.1 h1,
  (hg g s h).2.2.2.same (hb.dY g (hg g s h).2.1 (hg g s h).2.2.1)⟩
 have KB:Ec.I=E.I:=rfl;have eH:∀(i k:Nat),hs[i]?=some k->hs.idxOf? k=some i:=by
  intro i k hk;rw[YA];obtain⟨aC,he⟩:=List.getElem?_eq_some_iff.1 hk;refine⟨aC,by simp[he],λj hj=>?_⟩;have bA:hs[j]≠hs[i]:=List.pairwise_iff_getElem.1 n1 j i (by omega) aC hj;rw[<-he];simpa using bA
 have dr:∀(i k:Nat),hs.idxOf? k=some i->hs[i]?=some k:=by
  intro i k hk;rw[YA]at hk;obtain⟨aC,he,_⟩:=hk;rw[QB aC,he]
 have sX:∀k,k ∉ hs->hs.idxOf? k=none:=by
  intro k hk;cases h:hs.idxOf? k with
  |none=>rfl
  |some i=>exact absurd (QL (dr i k h)) hk
 have cB:∀k∈hs,Y8 E k Ec (Ih hs k):=by
  intro k hk;obtain⟨i,hi⟩:=List.mem_iff_getElem?.1 hk;rw[O6 n1 hi];exact⟨by show (hs[i]?).bind E.β=_;rw[hi];rfl,by show (hs[i]?).bind E.τ=_;rw[hi];rfl,by show (hs[i]?).bind E.ζ=_;rw[hi];rfl⟩
 have pZ:∀h,bR Ec w h (Aq (ls.map (mP (Ih hs))) h):=by
  intro h;simp only[Aq,Aj];rw[QS];cases hl:ls[h]? with
  |none =>
   have:hs[h]?=none:=by rw[List.getElem?_eq_none_iff]at hl ⊢;omega
   simp only[YW,ZW];exact⟨by show (hs[h]?).bind E.β=none;rw[this];rfl,by show (hs[h]?).bind E.τ=none;rw[this];rfl,rfl,by show (hs[h]?).bind E.ζ=none;rw[this];rfl⟩
  |some l =>
   have aC:h<hs.length:=by rw[<-n2];exact (List.getElem?_eq_some_iff.1 hl).1
   have dN:hs[h]∈hs:=XO aC;obtain⟨c1,c2⟩:=qR l (QL hl);have hk:=eY hs[h];rw[bL.tX _ dN]at hk;have eQ:bR E w hs[h] l:=by
    rw[mv,Pb,QS,QB aC]at hl;simp only[QQ,Option.some.injEq]at hl;rw[<-hl];cases hn:nth hp hs[h] with
    |none=>trivial
    |some l0=>rw[Bv hn]at hk;exact hk.pS
   simp only[QQ,XD];have cC:=cB _ dN;rw[O6 n1 (QB aC)]at cC;refine eQ.rn (Ih hs) c1 KB cC (λb hb=>?_) λj hj=>cB j (c2 j hj);show (E.O b).bind (λh=>hs.idxOf? h)=some h;rw[hb];exact eH h _ (QB aC)
 have bG:A8 Ec w (nW.yP (Ih hs) vs) us:=by
  rw[Ki];exact x8.map _ λs v hm h=>h.rn (Ih hs) KB ((D2 _).1 aJ s hm) λk hk=>cB k (fA k (by rw[Nr,UD];exact⟨s,hm,hk⟩))
 have dU:=tO Bc Ec w us rfl (λb o h=>h) (λh hb=>by
  have hb:(hs[h]?).bind E.β≠none\/(hs[h]?).bind E.τ≠none\/(hs[h]?).bind E.ζ≠none:=hb;cases hh:hs[h]? with
  |none=>rw[hh]at hb;simp at hb
  |some k=>rw[XW,n2];exact (List.getElem?_eq_some_iff.1 hh).1) OY hgc pZ bG
 refine Gm _ _ _ _ ?_ dU;rintro e w' ⟨v,jC,rfl,x2,x3,x4⟩
 -- back in tH fm state
 obtain⟨M,hM⟩:∃M,M=hp.length:=⟨_,rfl⟩;obtain⟨m,hm⟩:∃m,m=hs.length:=⟨_,rfl⟩;rw[<-hM,<-hm];rw[<-hm]at hlen
 let E':Env:=⟨Dw hs M m aK.length jC.β E.β,Dw hs M m aK.length jC.τ E.τ,Iy hs M m jC.O E.O,E.κ,Dw hs M m aK.length jC.ζ E.ζ,jC.I⟩
 have qQ:∀k,M<=k->k<M+(aK.length-m)->hf k=.fresh:=by
  intro k h1 h2;have hl:∃l,((aK.drop m).map (mP (Cv hs m M)))[k-M]?=some l:=⟨_,QB (by simp;omega)⟩;obtain⟨l,hl⟩:=hl;have dN:=Nn ((aK.drop m).map (mP (Cv hs m M))) M (k-M) l hl;rw[show M+(k-M)=k by omega]at dN;have dh:Ef.put k l∈Fd hp.length (List.map (mP (Cv hs hs.length hp.length)) (List.drop hs.length aK)):=by rw[<-hM,<-hm];exact dN
  have:=bL.fR _ (List.mem_append.2 (.inr dh));simp only[fx,Aq,Aj]at this;rw[this,QY (by omega)];rfl
 have gZ:∀k,M<=k->k<M+(aK.length-m)->E.β k=none/\E.τ k=none/\E.ζ k=none:=by
  intro k h1 h2;have:=eY k;rw[qQ k h1 h2]at this;exact⟨this.1,this.2.1,this.2.2.2⟩
 have dM:∀ {α:Type} (F G:Nat->Option α) (i k:Nat),hs[i]?=some k->Dw hs M m aK.length F G k=F i:=by
  intro α F G i k hk;simp only[Dw,eH i k hk]
 have gO:∀ {α:Type} (F G:Nat->Option α) (i:Nat),m+i<aK.length->Dw hs M m aK.length F G (M+i)=F (m+i):=by
  intro α F G i hi;have:(M+i) ∉ hs:=λh=>by have:=uR _ h;omega
  simp only[Dw,sX _ this];rw[QC (by omega),ZL]
 have cW:∀ {α:Type} (F G:Nat->Option α) (k:Nat),k ∉ hs->¬(M<=k/\k<M+(aK.length-m))->Dw hs M m aK.length F G k=G k:=by
  intro α F G k h1 h2;simp only[Dw,sX _ h1];rw[QA h2]
 have iB:∀k:Nat,(∃i:Nat,hs[i]?=some k)\/(∃i,m+i<aK.length/\k=M+i)\/(k ∉ hs/\¬(M<=k/\k<M+(aK.length-m))):=by
  intro k
  by_cases h1:k∈hs
  .obtain⟨i,hi⟩:=List.mem_iff_getElem?.1 h1;exact .inl ⟨i,hi⟩
  .by_cases h2:M<=k/\k<M+(aK.length-m)
   .exact .inr (.inl ⟨k-M,by omega,by omega⟩)
   .exact .inr (.inr ⟨h1,h2⟩)
 have oG:Ext E w E' w':=by
  refine⟨λk b hk=>?_,λk u hk=>?_,λ_ _ h=>h,λk n hk=>?_,λb o h=>(x2.I0 b o h).1,λb o h=>(x2.I0 b o h).2⟩
  .show Dw hs M m aK.length jC.β E.β k=some b
   rcases iB k with⟨i,hi⟩|⟨i,hi,rfl⟩|⟨h1,h2⟩
   .rw[dM _ _ i k hi];exact x2.cO.β i b (by show (hs[i]?).bind E.β=some b;rw[hi];exact hk)
   .rw[(gZ _ (by omega) (by omega)).1]at hk;cases hk
   .rw[cW _ _ k h1 h2];exact hk
  .show Pr u (Dw hs M m aK.length jC.τ E.τ k)
   rcases iB k with⟨i,hi⟩|⟨i,hi,rfl⟩|⟨h1,h2⟩
   .rw[dM _ _ i k hi];exact x2.cO.τ i u (by show (hs[i]?).bind E.τ=some u;rw[hi];exact hk)
   .rw[(gZ _ (by omega) (by omega)).2.1]at hk;cases hk
   .rw[cW _ _ k h1 h2];exact .inl hk
  .show Dw hs M m aK.length jC.ζ E.ζ k=some n
   rcases iB k with⟨i,hi⟩|⟨i,hi,rfl⟩|⟨h1,h2⟩
   .rw[dM _ _ i k hi];exact x2.cO.ζ i n (by show (hs[i]?).bind E.ζ=some n;rw[hi];exact hk)
   .rw[(gZ _ (by omega) (by omega)).2.2]at hk;cases hk
   .rw[cW _ _ k h1 h2];exact hk
 have ey:∀b o,b<w.heap.size->(¬ ∃h∈hs,E.O b=some h)->jC.I b o->E.I b o:=λb o aC kS hi=>by
  rcases x2.cE b o hi with h|h|h
  .exact h
  .have:w.heap.size<=b:=h
   omega
  .exact absurd h kS
 have aA:Cr B E' w':=by
  refine⟨x2.os.trans hb.os,x2.tape.trans hb.tape,x2.output.trans hb.output,XP hb.size x2.size,λb aC hX=>?_,λb o hi=>?_,x2.dP,λb o hi=>?_,λb h hO=>?_,hb.cO.ext oG⟩
  .rw[x2.dY b (by have:=hb.size;show b<w.heap.size;omega) ?_]
   .exact hb.dY b aC hX
   .rintro⟨k,_,hO⟩
    rcases (hb.cS b k hO).2 with h|h
    .omega
    .exact hX h
  .obtain⟨i1,i2⟩:=hb.I0 b o hi
   exact⟨(x2.I0 b o i1).1,by rw[(x2.I0 b o i1).2];exact i2⟩
  .rcases x2.cE b o hi with h|h|⟨k,_,hO⟩
   .exact hb.cE b o h
   .have:w.heap.size<=b:=h
    have:=hb.size;exact .inr (.inl (by omega))
   .exact .inr (hb.cS b k hO).2
  .have hO:Iy hs M m jC.O E.O b=some h:=hO
   unfold Iy at hO
   split at hO
   .rename_i i hi
    obtain⟨o1,o2⟩:=x2.cS b i hi;refine⟨o1,?_⟩;rcases o2 with o2|⟨k,_,hk⟩
    .have:w.heap.size<=b:=o2
     have:=hb.size;exact .inl (by omega)
    .exact (hb.cS b k hk).2
   .split at hO
    .cases hO
    .obtain⟨o1,o2⟩:=hb.cS b h hO
     exact⟨XQ o1 x2.size,o2⟩
 have oH:∀b i:Nat,jC.O b=some i->∀k:Nat,(hs[i]?=some k/\i<m\/m<=i/\k=M+(i-m))->E'.O b=some k:=by
  intro b i hi k hk;show Iy hs M m jC.O E.O b=some k;simp only[Iy,hi];rcases hk with⟨h1,h2⟩|⟨h1,rfl⟩
  .rw[QC h2];exact h1
  .rw[QA (by omega)]
 have tD:∀j,j<aK.length->Y8 jC j E' (Cv hs m M j):=by
  intro j hj
  by_cases uS:j<m
  .have hk:hs[j]?=some hs[j]:=QB (by omega)
   have e:Cv hs m M j=hs[j]:=by
    unfold Cv;rw[QC (by rw[ZG];exact uS),Aj,hk]
   rw[e];exact⟨dM _ _ j _ hk,dM _ _ j _ hk,dM _ _ j _ hk⟩
  .have e:Cv hs m M j=M+(j-m):=by
    unfold Cv;rw[QA (by rw[ZG];exact uS)]
   have h1:∀ {α:Type} (F G:Nat->Option α),Dw hs M m aK.length F G (M+(j-m))=F j:=by
    intro α F G;have:=gO F G (j-m) (by omega)
    rwa [show m+(j-m)=j by omega]at this
   rw[e];exact⟨h1 _ _,h1 _ _,h1 _ _⟩
 obtain⟨f1,f2⟩:=Qw (hf:=hf) hs ((aK.take m).map (mP (Cv hs m M))) (by simp;omega) n1;refine⟨v,E',rfl,oG,aA,λk=>?_,x4.rn (Cv hs m M) rfl WB λk hk=>tD k (uK k hk)⟩;show bR E' w' k (H8 hf (Ei hs ((aK.take m).map (mP (Cv hs m M)))++Fd M ((aK.drop m).map (mP (Cv hs m M)))) k);rw[L8,Vw];rcases iB k with⟨i,hi⟩|⟨i,hi,rfl⟩|⟨h1,h2⟩
 .have hkM:=uR k (QL hi)
  have ab2:i<hs.length:=(List.getElem?_eq_some_iff.1 hi).1;rw[QA (by omega)];obtain⟨l,hl⟩:∃l,aK[i]?=some l:=⟨_,QB (by omega)⟩;rw[f2 i k (mP (Cv hs m M) l) hi (by rw[QS,QN,QC (by omega),hl];rfl)];have h3:=x3 i (by omega);have:Aq aK i=l:=by simp[Aq,Aj,hl]
  rw[this]at h3;obtain⟨o1,o2⟩:=gE l (QL hl);have cC:=tD i (by omega);have e:Cv hs m M i=k:=by
   unfold Cv;rw[QC (by rw[ZG];omega),Aj,hi]
  rw[e]at cC;exact h3.rn (Cv hs m M) o1 rfl cC (λb hb=>oH b i hb k (.inl ⟨hi,by omega⟩)) λj hj=>tD j (o2 j hj)
 .rw[QC (by simp;omega)]
  obtain⟨l,hl⟩:∃l,aK[m+i]?=some l:=⟨_,QB hi⟩;rw[ZL,QS,XG,hl];simp only[QQ,XD];have h3:=x3 (m+i) hi;have:Aq aK (m+i)=l:=by simp[Aq,Aj,hl]
  rw[this]at h3;obtain⟨o1,o2⟩:=gE l (QL hl);have cC:=tD (m+i) hi;have e:Cv hs m M (m+i)=M+i:=by
   unfold Cv;rw[QA (by rw[ZG];omega),ZL]
  rw[e]at cC;exact h3.rn (Cv hs m M) o1 rfl cC (λb hb=>oH b (m+i) hb _ (.inr ⟨by omega,by congr 1;omega⟩)) λj hj=>tD j (o2 j hj)
 .rw[QA (by simp;omega),f1 k h1]
  refine bR.keep oG (eY k) (cW _ _ k h1 h2) (cW _ _ k h1 h2) rfl (cW _ _ k h1 h2) λb hO=>?_;have kS:¬ ∃h∈hs,E.O b=some h:=by
   rintro⟨k2,aY,yJ⟩;rw[hO]at yJ;cases yJ;exact h1 aY
  refine⟨?_,x2.dY b (Bd hb hO) kS,λo hi=>ey b o (Bd hb hO) kS hi⟩;show Iy hs M m jC.O E.O b=some k;have dd:jC.O b=none:=by
   cases hi:jC.O b with
   |none=>rfl
   |some i =>
    rcases (x2.cS b i hi).2 with h|h
    .have h:w.heap.size<=b:=h
     have:=Bd hb hO;omega
    .exact absurd h kS
  simp only[Iy,dd];rw[QA kS];exact hO
theorem Acq{f:FuncId}{vh vs:List SV}(jR:Enters P cx.gl σ T o f vh)(x7:vs=loose.aH (norm.aO dn vh))
  {hs:List Nat} {ls:List Hl} (mv:ls=Vg dn σ.hp hs) (n1:hs.Nodup) (fA:∀k∈iJ.uI vs,k∈hs) (aJ:Cf.dD vs=true) (uR:∀k∈hs,k<σ.hp.length) (qR:∀l∈ls,Df l=true/\∀j∈cr l,j∈hs)
  {r:SV} {aK:List Hl} (tO:Fb P cx.gl f (nW.yP (Ih hs) vs) (W0 (mP (Ih hs)) ls) r aK) (hlen:hs.length<=aK.length) (WB:Cf r=true) (uK:∀k∈iJ r,k<aK.length) (gE:∀l∈aK,Df l=true/\∀j∈cr l,j<aK.length):
  Local P cx.gl σ T o ⟨nW (Cv hs hs.length (Ai σ.hp)) r,Ei hs (W0 (mP (Cv hs hs.length (Ai σ.hp))) (takeN hs.length aK))++Fd (Ai σ.hp) (W0 (mP (Cv hs hs.length (Ai σ.hp))) (Db hs.length aK)),hs,[]⟩:=by
 rw[Ba,Bl,Ag,Km,Km];rw[Km]at tO;intro B N E a w ff hf hg st ag bL hT K' Q hK;obtain⟨us,kR,aW⟩:=jR B N E a w ff hf hg st ag hT;have:=Nz (cx:=cx) (G:=λus w R=>Calls P f ⟨us⟩ w R) (λus w R R' h hc=>hc.mono h) x7 mv n1 fA aJ uR qR tO hlen WB uK gE hg st.base st.heap bL kR;unfold Oper.wp;rw[aW];simp only[Oper.upon];refine Calls.mono this ?_;rintro e w' ⟨v,E',rfl,h1,h2,h3,h4⟩;exact hK v w' E' h1 h2 h3 h4
theorem Adk{f:FuncId}{vs:List SV}{c:Call}(ho:o.op=.call c)(aR:c.callee=.value (.func f))(hv:Gw cx σ T c.args.toList c.argTypes.toList=some vs)(eD:Wp P f):Enters P cx.gl σ T o f vs:=by
 intro B N E a w ff hf hg st ag hT;refine⟨c.args.toList.map a.eval,Ej trivial hg st hT c.args.toList c.argTypes.toList vs (λx hx=>Ak ag (by simp only[ho,Op.operands,Call.operands];simp;exact .inr (by simpa using hx))) hv,?_⟩;obtain⟨fn,body,g1,g2,g3⟩:=eD;have iA:(⟨c.args.toList.map a.eval⟩:Array Value)=c.args.map a.eval:=by apply XV;simp
 have g4:¬fn.name="runtime.NumGoroutine":=by simpa using g3
 rw[iA];simp[execOp,ho,resolve,aR,Act.eval,Deferred.ofValue,invoke,callFunc,g1,g2,g4]
theorem Sd{f:FuncId}{vs cs:List SV}{c:Call}{s:Nat}(ho:o.op=.call c)(aR:c.callee=.value (.tmp s))(hv:Gw cx σ T c.args.toList c.argTypes.toList=some vs)
  (hs:rd cx σ T (.tmp s)=some (.fJ f cs)\/cs=[]/\rd cx σ T (.tmp s)=some (.fn f)) (eD:Wp P f):Enters P cx.gl σ T o f (vs++cs):=by
 intro B N E a w ff hf hg st ag hT;have kR:=Ej trivial hg st hT c.args.toList c.argTypes.toList vs (λx hx=>Ak ag (by simp only[ho,Op.operands,Call.operands];simp;exact .inr (by simpa using hx))) hv;have fC:∀t∈C4 (.tmp s),ff t=Bf σ t:=Ak ag (by simp[ho,Op.operands,Call.operands,aR]);have mR:∃cv:List Value,a.eval (.tmp s)=.func (.func f) #[] ⟨cv⟩/\A8 E w cs cv:=by
  rcases hs with hs|⟨rfl,hs⟩
  .exact (Ab hs hg st fC hT).qX
  .exact⟨[],(Ab hs hg st fC hT).qW,rfl,by simp⟩
 obtain⟨cv,he,uY⟩:=mR;refine⟨c.args.toList.map a.eval++cv,?_,?_⟩
 .refine⟨by simp[kR.1,uY.1],λi s' v h1 h2=>?_⟩
  have hl:=kR.1
  by_cases aC:i<vs.length
  .rw[QM aC]at h1
   rw[QM (by omega)]at h2;exact kR.2 i s' v h1 h2
  .rw[QP (by omega)]at h1
   rw[QP (by omega),<-hl]at h2;exact uY.2 _ s' v h1 h2
 obtain⟨fn,body,g1,g2,g3⟩:=eD;have iA:(⟨c.args.toList.map a.eval++cv⟩:Array Value)=c.args.map a.eval++(⟨cv⟩:Array Value):=by apply XV;simp
 have g4:¬fn.name="runtime.NumGoroutine":=by simpa using g3
 rw[iA];simp[execOp,ho,resolve,aR,he,Deferred.ofValue,invoke,callFunc,g1,g2,g4]
theorem Agb{f:FuncId}{vs us:List SV}{c:Call}{s:Nat}(ho:o.op=.call c)(aR:c.callee=.value (.tmp s))(hv:Gw cx σ T c.args.toList c.argTypes.toList=some vs)
  (hs:rd cx σ T (.tmp s)=some (.gS f us)) (eD:Wp P f):Enters P cx.gl σ T o f (us++vs):=by
 intro B N E a w ff hf hg st ag hT;have kR:=Ej trivial hg st hT c.args.toList c.argTypes.toList vs (λx hx=>Ak ag (by simp only[ho,Op.operands,Call.operands];simp;exact .inr (by simpa using hx))) hv;have fC:∀t∈C4 (.tmp s),ff t=Bf σ t:=Ak ag (by simp[ho,Op.operands,Call.operands,aR]);obtain⟨cv,he,uY⟩:=(Ab hs hg st fC hT).pc;refine⟨cv++c.args.toList.map a.eval,?_,?_⟩
 .refine⟨by simp[kR.1,uY.1],λi s' v h1 h2=>?_⟩
  have hl:=uY.1
  by_cases aC:i<us.length
  .rw[QM aC]at h1
   rw[QM (by omega)]at h2;exact uY.2 i s' v h1 h2
  .rw[QP (by omega)]at h1
   rw[QP (by omega),<-hl]at h2;exact kR.2 _ s' v h1 h2
 obtain⟨fn,body,g1,g2,g3⟩:=eD;have iA:(⟨cv++c.args.toList.map a.eval⟩:Array Value)=(⟨cv⟩:Array Value)++c.args.map a.eval:=by apply XV;simp
 have g4:¬fn.name="runtime.NumGoroutine":=by simpa using g3
 rw[iA];simp[execOp,ho,resolve,aR,he,Deferred.ofValue,invoke,callFunc,g1,g2,g4]
theorem Uv{f:FuncId}{fi cs:Array Operand}(ho:o.op=.makeFunc (.func f) fi cs)(oF:fi.toList=[]){vs:List SV}(hv:Gw cx σ T cs.toList []=some vs):Local P cx.gl σ T o ⟨.fJ f vs,[],[],[]⟩:=by
 have oF:fi=#[]:=by apply XV;simpa using oF
 subst oF;intro B N E a w ff hf hg st ag _ hT;have hr:=Ej trivial hg st hT cs.toList [] vs (λx hx=>Ak ag (by simp[ho,Op.operands];simpa using hx)) hv;refine Ad st (v:=.func (.func f) #[] (cs.map a.eval)) ?_ rfl ?_
 .simp[execOp,ho,Instr.makeFunc]
 .have:cs.map a.eval=⟨cs.toList.map a.eval⟩:=by apply XV;simp
  rw[this];exact .fJ hr.1 hr.2
theorem W2{f:FuncId}{fi cs:Array Operand}(ho:o.op=.makeFunc (.func f) fi cs)(cY:Gw cx σ T cs.toList []=some []){us:List SV}(hv:Gw cx σ T fi.toList []=some us):Local P cx.gl σ T o ⟨.gS f us,[],[],[]⟩:=by
 intro B N E a w ff hf hg st ag _ hT;have hc:=Ej trivial hg st hT cs.toList [] [] (λx hx=>Ak ag (by simp[ho,Op.operands];exact .inr (by simpa using hx))) cY;have tz:cs=#[]:=by have:=hc.1;exact Array.eq_empty_of_size_eq_zero (by simpa using this.symm)
 subst tz;have hr:=Ej trivial hg st hT fi.toList [] us (λx hx=>Ak ag (by simp[ho,Op.operands];simpa using hx)) hv;refine Ad st (v:=.func (.func f) (fi.map a.eval) #[]) ?_ rfl ?_
 .simp[execOp,ho,Instr.makeFunc]
 .have:fi.map a.eval=⟨fi.toList.map a.eval⟩:=by apply XV;simp
  rw[this];exact .gS hr.1 hr.2
theorem Fq(hc:A4 P cx)(bU:E8 P cx.gl cx.eG){f:FuncId}{vs:List SV}(jR:Wp P f->Enters P cx.gl σ T o f vs)(h:Jf cx σ T f vs K):
  ∃r,K r/\Local P cx.gl σ T o r:=by
 unfold Jf at h
 split at h
 .rename_i sp h1
  have sU:=bU.look h1;have e:Vj (f+1000000)=f:=by
   unfold Vj;rw[QA (by rw[ZG];omega),Nat.add_sub_cancel]
  rw[e]at sU;unfold Gd at h;rw[hc.D]at h;obtain⟨EO,sO⟩:∃x,x=loose.aH (norm.aO dn vs):=⟨_,rfl⟩;simp only[<-sO]at h;obtain⟨cC,du⟩:∃x,x=reach σ.hp σ.hp (Mg [] (iJ.uI EO)):=⟨_,rfl⟩;simp only[<-du]at h;obtain⟨CM,sT⟩:∃x,x=Vg dn σ.hp cC:=⟨_,rfl⟩;simp only[<-sT]at h
  split at h
  .rename_i h3
   simp only[QE]at h3;obtain⟨⟨⟨⟨c1,c2⟩,c3⟩,c4⟩,c5⟩:=h3;obtain⟨eD,uT⟩:=sU;obtain⟨r,aK,⟨k1,k2⟩,tO⟩:=uT _ _ _ h;simp only[QE]at k1;obtain⟨⟨⟨k3,k4⟩,k5⟩,k6⟩:=k1;have k3:=XK k3;simp only[Ag cC,Ag aK]at k3 k5 k6 k2;rw[Ag]at c4;have:=Acq (o:=o) (T:=T) (σ:=σ) (cx:=cx) (jR eD) sO sT ((H3 _).1 c1) ((Hu _ _).1 c2) c3 ((Gy _ _).1 c4) ((G8 _ _).1 c5) tO k3 k4 ((Gy _ _).1 k5) ((Ow _ _).1 k6);exact⟨_,k2,this⟩
  .exact h.elim
 .rw[hc.D]at h
  split at h
  .rename_i sp as hs ls h1 h2
   split at h
   .rename_i h3
    simp only[QE]at h3;obtain⟨h3,h4⟩:=h3;have sU:=bU.look h1;have e:Vj f=f:=by unfold Vj;rw[QC h4]
    rw[e]at sU;obtain⟨eD,uT⟩:=sU;obtain⟨r,aK,⟨k1,k2,k3,k4⟩,tO⟩:=uT _ _ _ h;have k3:=XK k3;simp only[Ag ls,Ag aK]at k1 k3 k4;exact⟨_,k4,Afn (jR eD) h2 h3 tO k1 k2 k3⟩
   .exact h.elim
  .exact h.elim
end
section
variable {P:Program} {cx:Cx} {σ:Sy} {T:List Nat} {o:Oper} {K:Out->Prop}
def RN(w:World)(src:Value)(m sz:Nat)(news:List Value):Prop :=
 news.length=m * sz/\(∀v∈news,v.oneCell'=true)/\((src=.slice none 0 0/\m=0)\/∃(a:Addr) (c:Nat),src=.slice (some a) m c/\∀(j:Nat) (u:Value),news[j]?=some u->w.cell? (a.add j)=some u)
theorem N8{t e ty:TypeId}{ti:TI}(hu:P.underlying t=some (.slice e))(he:Ew P e ti){sz:Nat}(bC:ti.size=sz)(uE:0<sz){w:World}{v:Value}{n:Nat}{xs:List Value}(bY:w.ownsRow 0 e sz v n xs){src:Value}{m:Nat}{news:List Value}(hs:RN w src m sz news)
  (qS:n+m<=maxLen) (hb:(n+m) * ti.bytes<=140737488355328):
  ∃v' w',(Builtin.append_ #[t,t] ty #[v,src]).run P w=.ok v' w'/\w'.ownsRow 0 e sz v' (n+m) (xs++news)/\(v'=.slice none 0 0↔v=.slice none 0 0/\m=0)/\
   ((v'.ownBlock=v.ownBlock/\w.grownBy w' v.ownBlock)\/(v'.ownBlock=some w.heap.size/\w.grownBy w' none))/\(∃a c,v'=.slice a (n+m) c)/\(m=0->v'=v):=by
 obtain⟨i,z,hi,eO,yX,hz,tI,_⟩:=he.info;obtain⟨hl,h1,ye⟩:=hs;have mB:=bY;have shape:∀(v':Value) (w':World) (xs':List Value),w'.ownsRow 0 e sz v' (n+m) xs'->∃a c,v'=.slice a (n+m) c:=by
  intro v' w' xs' h;rcases h.2 with⟨rfl,e0⟩|⟨g,cap,cur,rfl,_⟩
  .exact⟨none,0,by rw[e0]⟩
  .exact⟨_,_,rfl⟩
 rcases ye with⟨rfl,rfl⟩|⟨a,c,rfl,jP⟩
 .have hn:news=[]:=XH (by simpa using hl)
  subst hn;refine⟨v,w,?_,by simpa using bY,by simp,.inl ⟨rfl,⟨rfl,rfl,rfl,QK _,λ_ _ _=>rfl⟩⟩,shape v w xs (by simpa using bY),λ_=>rfl⟩;rcases bY.2 with⟨rfl,rfl⟩|⟨g,cap,cur,rfl,hbg,hg,rE,fI,cY,bW⟩
  .simp[Builtin.append_,run_underlying hu,sizeOf,typeInfo,hi,Builtin.lenOf,Builtin.firstCells]
  .simp[Builtin.append_,run_underlying hu,sizeOf,typeInfo,hi,Builtin.lenOf,Builtin.firstCells,rE,storeCells]
 .have dZ:z.cells.size=sz:=by
   have:=(Kb (I:=λ_ _=>False) (w:=w) tI).1;have h2:ti.zero.length=sz:=by
    rw[he.qE,bC]
   simpa[h2] using this.symm
  obtain⟨v',w',hr,r1,r2,r3⟩:=run_append_own (P:=P) w 0 t ty e i z sz ti.bytes hu hi hz (by rw[eO,bC]) yX dZ uE v n xs bY a m c news hl jP h1 qS hb (XX _);refine⟨v',w',hr,r1,r3,?_,shape v' w' _ r1,?_⟩
  case refine_2 =>
   rintro rfl;rcases bY.2 with⟨rfl,rfl⟩|⟨g,cap,cur,rfl,hbg,hg,rE,fI,cY,bW⟩
   .exact r3.2 ⟨rfl,rfl⟩
   .have bZ:=run_append_room (P:=P) w t ty e i hu hi g n cap cur hg a 0 c news (by rw[eO,bC];exact hl) jP h1 (by omega) (by rw[hl,eO,bC,cY];simp only[Nat.zero_mul,ZB];exact QR _ rE)
    rw[hr]at bZ;simp only[Result.ok.injEq]at bZ;rw[bZ.1];rfl
  have oD:n+m<=9223372036854775807:=by simpa[maxLen] using qS
  rcases bY.2 with⟨rfl,rfl⟩|⟨g,cap,cur,rfl,hbg,hg,rE,fI,cY,bW⟩
  .by_cases hm:m=0
   .subst hm
    left
    exact⟨by rw[r3.2 ⟨rfl,rfl⟩],r2⟩
   .right
    have bZ:=run_append_nil (P:=P) w t ty e i z hu hi hz a m c news (by rw[eO,bC];exact hl) jP (by omega) (by omega) (by rw[yX];simp only[XF]at hb;omega);rw[hr]at bZ;simp only[Result.ok.injEq]at bZ;rw[bZ.1,bZ.2];exact⟨rfl,⟨rfl,rfl,rfl,by simp,λk hk _=>heap_alloc_old w.drew _ hk⟩⟩
  .by_cases iS:n+m<=cap
   .left
    refine⟨?_,r2⟩;have bZ:=run_append_room (P:=P) w t ty e i hu hi g n cap cur hg a m c news (by rw[eO,bC];exact hl) jP h1 iS (by rw[hl,eO,bC,cY,<-XM];exact QR _ iS);rw[hr]at bZ;simp only[Result.ok.injEq]at bZ;rw[bZ.1];rfl
   .right
    have holds:∀j u,xs[j]?=some u->w.cell? ((⟨g,0,none⟩:Addr).add j)=some u:=mB.cells (g:=g) rfl;have bZ:=run_append_grow (P:=P) w t ty e i z hu hi hz ⟨g,0,none⟩ n cap xs (by rw[eO,bC];exact mB.1) holds a m c news (by rw[eO,bC];exact hl) jP (by omega) (by omega) (by rw[yX];exact growslice_fits (by omega) hb);rw[hr]at bZ;simp only[Result.ok.injEq]at bZ;rw[bZ.1,bZ.2];exact⟨rfl,⟨rfl,rfl,rfl,by simp,λk hk _=>heap_alloc_old w.drew _ hk⟩⟩
theorem Jm{E:Env}{w:World}{sz:Nat}{s:SV}{m:ST}{g:Nat->List SV}{v:Value}(h:rowOf sz s=some (m,g))(hr:Rel E w s v):
  ∃(k:Nat) (news:List Value),m.den=(k:Int)/\k<=maxLen/\RN w v k sz news/\(∀i,i<k->(g i).length=sz)/\∀(i j:Nat) (s:SV) (u:Value),i<k->(g i)[j]?=some s->news[i * sz+j]?=some u->RO E.I w s u:=by
 have key:∀(nl:BT),RO E.I w (.sl nl m sz g) v->∃(k:Nat) (news:List Value),m.den=(k:Int)/\k<=maxLen/\RN w v k sz news/\(∀i,i<k->(g i).length=sz)/\∀(i j:Nat) (s:SV) (u:Value),i<k->(g i)[j]?=some s->news[i * sz+j]?=some u->RO E.I w s u:=by
  intro nl iF;rcases iF.bF with⟨rfl,e0,_⟩|⟨a,k,cap,f,rfl,_,e2,e3,PC,e4,e5,AJ,e6,e7⟩
  .exact⟨0,[],by simpa using e0,XX _,⟨by simp,by simp,.inl ⟨rfl,rfl⟩⟩,by simp,by simp⟩
  .refine⟨k,(List.range (k * sz)).map λq=>f (q / sz) (q % sz),e2,XP e3 PC,⟨by simp,λu hu=>?_,.inr ⟨a,cap,rfl,λj u hj=>?_⟩⟩,e5,λi j s u hi hs hu=>?_⟩
   .rw[List.mem_map]at hu
    obtain⟨q,hq,rfl⟩:=hu;have hq:q<k * sz:=by simpa using hq
    have bC:0<sz:=by rcases YO sz with h|h;subst h;omega;exact h
    exact AJ _ _ ((UN bC).2 hq) (YD _ bC)
   .rw[QS]at hj
    have JH:j<k * sz:=by
     rcases ZK j (k * sz) with h|h
     .exact h
     .rw[QY (by simpa using h)]at hj;cases hj
    have bC:0<sz:=by rcases YO sz with h|h;subst h;omega;exact h
    have hd:=(UN bC).2 JH;have:=(e6 (j / sz) (j % sz) hd (YD _ bC)).1;rw[UU,Nat.div_add_mod]at this;simp[JH]at hj;subst hj;have sQ:=e4 (by rcases YO k with h|h;subst h;omega;exact h);have:a.add j=⟨a.block,a.off+j,none⟩:=by
     obtain⟨b,o,sp⟩:=a;simp only at sQ;subst sQ;exact add_lit b o j
    rw[this]
    assumption
   .have hsj:j<sz:=by rw[<-e5 i hi];exact (List.getElem?_eq_some_iff.1 hs).1
    have aC:i * sz+j<k * sz:=by
     have:(i+1) * sz<=k * sz:=QR _ hi;rw[XM]at this;omega
    rw[QS]at hu;simp[aC]at hu;have h1:(i * sz+j) / sz=i:=by rw[UU,Nat.mul_add_div (by omega),Nat.div_eq_of_lt hsj];omega
    rw[h1,Nat.mod_eq_of_lt hsj]at hu;subst hu;exact e7 i j s hi hs
 unfold rowOf at h
 split at h
 .rename_i nl m' cH g'
  split at h
  .rename_i e
   simp only[Option.some.injEq,Prod.mk.injEq]at h;obtain⟨rfl,rfl⟩:=h;have e:cH=sz:=by simpa using e
   subst e;exact key nl hr.bF
  .cases h
 .rename_i nl m' cH g' h0
  split at h
  .rename_i e
   simp only[Option.some.injEq,Prod.mk.injEq]at h;obtain⟨rfl,rfl⟩:=h;have e:cH=sz:=by simpa using e
   subst e;exact key nl hr.kX.1
  .cases h
 .cases h
theorem Ot{B:Bs}{N:Nat}{E:Env}{a:Act}{w:World}{ff:Nat->SG}{hf:Nat->Hl}(st:St B N E a w ff hf){h:Nat}{e:TypeId}{sz:Nat}{v v':Value}{n m:Nat}{xs news:List Value}{w':World}
  (hold:(hf h=.fresh/\v=.slice none 0 0)\/∃nt,hf h=.tail e nt sz/\E.τ h=some v/\(∀b,v.ownBlock=some b->E.O b=some h/\∀o,n * sz<=o->¬E.I b o))
  (h1:∀u∈xs++news,u.oneCell'=true)
  (bY:w.ownsRow 0 e sz v n xs) (cJ:w'.ownsRow 0 e sz v' (n+m) (xs++news)) (gG:(v'.ownBlock=v.ownBlock/\w.grownBy w' v.ownBlock)\/(v'.ownBlock=some w.heap.size/\w.grownBy w' none)) (yg:∃a c,v'=.slice a (n+m) c) (sW:hf h≠.fresh->m=0->v'=v) (nt':ST) (nE:nt'.den=((n+m:Nat):Int)):
  ∃E',Ext E w E' w'/\Cr B E' w'/\(∀k,bR E' w' k (aU hf h (.tail e nt' sz) k))/\E'.τ h=some v'/\(∀b o,v'.ownBlock=some b->o<(n+m) * sz->E'.I b o)/\(∀b o,v'.ownBlock=some b->o<(n+m) * sz->w'.cell? ⟨b,o,none⟩=(xs++news)[o]?):=by
 have hb:=st.base;have dW:∀b,v.ownBlock=some b->E.O b=some h/\(∀o,n * sz<=o->¬E.I b o)/\b<w.heap.size:=by
  intro b bX;rcases hold with⟨_,rfl⟩|⟨_,_,_,h3⟩
  .simp[Value.ownBlock]at bX
  .exact⟨(h3 b bX).1,(h3 b bX).2,Bd hb (h3 b bX).1⟩
 let E':Env:=⟨E.β,aU E.τ h (some v'),λb=>if v'.ownBlock=some b then some h else E.O b,E.κ,E.ζ,λb o=>E.I b o\/(v'.ownBlock=some b/\o<(n+m) * sz)⟩
 have zl:∀b o,v.ownBlock=some b->o<n * sz->w.cell? ⟨b,o,none⟩=xs[o]?:=by
  intro b o bX ho;rcases bY.2 with⟨rfl,_⟩|⟨g,cap,cur,rfl,_,tm,rE,_,cY,bW⟩
  .simp[Value.ownBlock]at bX
  .simp[Value.ownBlock]at bX
   subst bX;rw[cell_of_row w g o cur e (0,0) tm,<-bW,QN,QC ho];simp
 have xE:∀b o,v'.ownBlock=some b->o<(n+m) * sz->w'.cell? ⟨b,o,none⟩=(xs++news)[o]?:=by
  intro b o bX ho;rcases cJ.2 with⟨rfl,_⟩|⟨g,cap,cur,rfl,_,tm,rE,_,cY,bW⟩
  .simp[Value.ownBlock]at bX
  .simp[Value.ownBlock]at bX
   subst bX;rw[cell_of_row w' g o cur e (0,0) tm,<-bW,QN,QC ho];simp
 have fE:w'.os=w.os/\w'.tape=w.tape/\w'.output=w.output/\w.heap.size<=w'.heap.size:=by
  rcases gG with⟨_,hg⟩|⟨_,hg⟩<;>exact⟨hg.os,hg.tape,hg.output,hg.size⟩
 have fM:∀b,b<w.heap.size->v.ownBlock≠some b->w'.heap[b]?=w.heap[b]?:=by
  intro b aC bA;rcases gG with⟨_,hg⟩|⟨_,hg⟩
  .exact hg.block b aC (λe=>bA e.symm)
  .exact hg.block b aC (by simp)
 have hI:∀b o,E.I b o->w'.cell? ⟨b,o,none⟩=w.cell? ⟨b,o,none⟩:=by
  intro b o hi;have aC:=hb.dP b o hi
  by_cases tP:v.ownBlock=some b
  .have ho:o<n * sz:=by
    rcases ZK o (n * sz) with h|h
    .exact h
    .exact absurd hi ((dW b tP).2.1 o h)
   rcases gG with⟨hs,_⟩|⟨_,hg⟩
   .rw[xE b o (by rw[hs];exact tP) (by rw[XM];omega),zl b o tP ho,QM (by rw[bY.1];exact ho)]
   .simp only[World.cell?]
    rw[hg.block b aC (by simp)]
  .simp only[World.cell?]
   rw[fM b aC tP]
 have hx:Ext E w E' w':=by
  refine⟨λ_ _ h=>h,λk u hk=>?_,λ_ _ h=>h,λ_ _ h=>h,λb o h=>.inl h,hI⟩;show aU E.τ h (some v') k=some u\/∃a m' c a' sK c',u=.slice a m' c/\aU E.τ h (some v') k=some (.slice a' sK c')/\m'<sK;unfold aU
  by_cases e:k=h
  .subst e
   rw[QC rfl];rcases hold with⟨cI,_⟩|⟨nt,bA,h2,_⟩
   .have:=st.heap k
    rw[cI]at this;rw[this.2.1]at hk;cases hk
   .rw[h2]at hk
    cases hk
    by_cases hm:m=0
    .left;rw[sW (by rw[bA];simp) hm]
    .right
     obtain⟨a',c',rfl⟩:=yg;have:∃a c,v=.slice a n c:=by
      rcases bY.2 with⟨rfl,e0⟩|⟨g,cap,cur,rfl,_⟩
      .exact⟨none,0,by rw[e0]⟩
      .exact⟨_,_,rfl⟩
     obtain⟨a,c,rfl⟩:=this;exact⟨a,n,c,a',n+m,c',rfl,rfl,by omega⟩
  .rw[QA e];exact .inl hk
 have lO:∀b,v'.ownBlock=some b->b<w'.heap.size:=λb bX=>(cJ.lt b bX).2;have mS:∀b,v'.ownBlock=some b->B.w0.heap.size<=b\/B.X b:=by
  intro b bX;rcases gG with⟨hs,_⟩|⟨hs,_⟩
  .exact (hb.cS b h (dW b (by rw[<-hs];exact bX)).1).2
  .rw[hs]at bX;cases bX;exact .inl hb.size
 refine⟨E',hx,⟨fE.1.trans hb.os,fE.2.1.trans hb.tape,fE.2.2.1.trans hb.output,XP hb.size fE.2.2.2,λb aC hX=>?_,λb o hi=>?_,λb o hi=>?_,λb o hi=>?_,λb k hO=>?_,hb.cO.ext hx⟩,λk=>?_,by simp[E',aU],λb o bX ho=>.inr ⟨bX,ho⟩,xE⟩
 .have bC:=hb.size
  rw[fM b (by omega) ?_]
  .exact hb.dY b aC hX
  .intro tP
   rcases (hb.cS b h (dW b tP).1).2 with h|h
   .omega
   .exact hX h
 .obtain⟨i1,i2⟩:=hb.I0 b o hi
  exact⟨.inl i1,by rw[hI b o i1];exact i2⟩
 .rcases hi with hi|⟨bX,_⟩
  .exact XQ (hb.dP b o hi) fE.2.2.2
  .exact lO b bX
 .rcases hi with hi|⟨bX,ho⟩
  .exact hb.cE b o hi
  .exact .inr (mS b bX)
 .have hO:(if v'.ownBlock=some b then some h else E.O b)=some k:=hO
  split at hO
  .rename_i bX
   exact⟨lO b bX,mS b bX⟩
  .obtain⟨o1,o2⟩:=hb.cS b k hO
   exact⟨XQ o1 fE.2.2.2,o2⟩
 .by_cases e:k=h
  .subst e
   simp only[aU,QC];refine⟨v',n+m,xs++news,by simp[E',aU],cJ,nE,h1,λb bX=>⟨by show (if v'.ownBlock=some b then some k else E.O b)=some k;rw[QC bX],λo ho hi=>?_⟩⟩;rcases hi with hi|⟨_,WM⟩
   .rcases gG with⟨hs,_⟩|⟨hs,_⟩
    .exact (dW b (by rw[<-hs];exact bX)).2.1 o (by rw[XM]at ho;omega) hi
    .rw[hs]at bX;cases bX
     have:=hb.dP _ _ hi;omega
   .omega
  .simp only[aU,QA e]
   refine bR.keep hx (st.heap k) rfl (by simp[E',aU,e]) rfl rfl λb hO=>?_;have aC:=Bd hb hO;have bA:v'.ownBlock≠some b:=by
    intro bX;rcases gG with⟨hs,_⟩|⟨hs,_⟩
    .have:=(dW b (by rw[<-hs];exact bX)).1
     rw[hO]at this;exact e (Option.some.inj this)
    .rw[hs]at bX;cases bX;omega
   have IS:v.ownBlock≠some b:=by
    intro bX;have:=(dW b bX).1;rw[hO]at this;exact e (Option.some.inj this)
   refine⟨by show (if v'.ownBlock=some b then some h else E.O b)=some k;rw[QA bA];exact hO,fM b aC IS,λo hi=>?_⟩;rcases hi with hi|⟨bX,_⟩
   .exact hi
   .exact absurd bX bA
end
end Go.Sx
