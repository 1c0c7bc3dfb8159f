/- A part of the proof: contracts of functions, or the executor and its soundness. No conditions. -/
import Derived.CallsIn
import Derived.Test.YtdoogdbjiijifaaGreatDoorE7Pac
namespace Go.Sx
open Go
def W2(P:Program)(f:FuncId):Prop:=∃fn c,P.funcs[f]?=some fn/\fn.body=some c/\(fn.name=="runtime.NumGoroutine")=false
def Em(P:Program)(gl:List (Nat×SV))(f:FuncId)(as:List SV)(ls:List Hl)(r:SV)(aI:List Hl):Prop :=
 ∀(B:Bs) (E:Env) (w:World) (bB:List Value),B.w0=w->(∀b o,E.I b o->B.I0 b o)->(∀h,B.cS h≠none\/B.nF h≠none\/B.nG h≠none->h<ls.length)->B8 B E w->Ep B gl->(∀h,bO E w h (Ap ls h))->A1 E w as bB->
  Calls P f ⟨bB⟩ w λe w'=>∃v E',e=.returned v/\B8 B E' w'/\(∀h,h<aI.length->bO E' w' h (Ap aI h))/\Rel E' w' r v
def Ap5(G:List Value->World->(Ending->World->Prop)->Prop)(gl:List (Nat×SV))(as:List SV)(ls:List Hl)(r:SV)(aI:List Hl):Prop :=
 ∀(B:Bs) (E:Env) (w:World) (bB:List Value),B.w0=w->(∀b o,E.I b o->B.I0 b o)->(∀h,B.cS h≠none\/B.nF h≠none\/B.nG h≠none->h<ls.length)->B8 B E w->Ep B gl->(∀h,bO E w h (Ap ls h))->A1 E w as bB->
  G bB w λe w'=>∃v E',e=.returned v/\B8 B E' w'/\(∀h,h<aI.length->bO E' w' h (Ap aI h))/\Rel E' w' r v
def Fr(ro:Option Nat):Fence:={ Fence.wide with round:=ro }
def YG(P:Program)(bB:List Value)(w:World)(R:Ending->World->Prop):Prop :=
 ∃l args r,bB=.func (.yield l) #[] #[] :: args/\w.heap[l]?=some (.loop r)/\args.length=r.params.size/\
  ∀ro nn,RoundIn (Fr ro) nn P l r.fn ((r.params.zip (⟨args⟩:Array Value)).foldl (λtmps (t,a)=>tmps.setIfInBounds t a) r.tmps) r.assign r.body w R
def LN(P:Program)(gl:List (Nat×SV))(Y:aD):Prop :=
 ∀(as:List SV) (ls:List Hl) (K:SV->List Hl->Prop),Y dn as ls K->∃r aI,K r aI/\Ap5 (YG P) gl as ls r aI
def Aw(P:Program)(gl:List (Nat×SV))(f:FuncId)(sp:aD):Prop :=
 W2 P f/\∀(as:List SV) (ls:List Hl) (K:SV->List Hl->Prop),sp dn as ls K->∃r aI,K r aI/\Em P gl f as ls r aI
def V3(f:Nat):Nat:=if Nat.blt f 1000000 then f else f-1000000
def Eh(P:Program)(gl:List (Nat×SV))(fC:List (Nat×aD)):Prop:=∀x∈fC,Aw P gl (V3 x.1) x.2
structure W0(P:Program)(cx:Cx):Prop where
 its:∀x∈cx.its,∀Y,LN P cx.gl Y->Aw P cx.gl x.1 (x.2 Y)
 yl:∀Y∈cx.yl,LN P cx.gl Y
theorem Eh.look{P:Program}{gl:List (Nat×SV)}:∀ {fC:List (Nat×aD)} {f:Nat} {sp:aD},Eh P gl fC->Sx.look f fC=some sp->Aw P gl (V3 f) sp
 | [],_,_,_,h=>by simp[Sx.look]at h
 |(g,sq) :: fC,f,sp,ht,h=>by
  simp only[Sx.look]at h
  split at h
  .rename_i e
   have e:g=f:=by simpa using e
   subst e;simp only[Option.some.injEq]at h;subst h;exact ht _ (QY ..)
  .exact Eh.look (λx hx=>ht x (QX _ hx)) h
theorem Ck:∀(cs:List SV),Ak.gU cs=true↔∀c∈cs,Ak c=true
 | []=>by simp[Ak.gU]
 |c :: cs=>by simp[Ak.gU,Ck cs]
theorem Rel.plain{E E':Env}{w:World}{s:SV}{v:Value}(h:Rel E w s v)(hI:E'.I=E.I)(hp:Ak s=true):Rel E' w s v:=by
 induction h with
 |ro h=>exact .ro (by rw[hI];exact h)
 |ptr hb hv=>simp[Ak]at hp
 |eD hr ht=>simp[Ak]at hp
 |dM hb hm hv=>simp[Ak]at hp
 |cU hb hz hv=>simp[Ak]at hp
 |bY ht hk=>simp[Ak]at hp
 |cK hv ho=>simp[Ak]at hp
 |bP hb hv=>simp[Ak]at hp
 |yv hb hv=>simp[Ak]at hp
 |fB ht hk=>simp[Ak]at hp
 |jS ht hk=>simp[Ak]at hp
 |agg hl _ ih =>
  refine .agg hl λi s v h1 h2=>ih i s v h1 h2 ?_;simp only[Ak]at hp;exact (Ck _).1 hp s (QF h1)
 |tup hl _ ih =>
  refine .tup hl λi s v h1 h2=>ih i s v h1 h2 ?_;simp only[Ak]at hp;exact (Ck _).1 hp s (QF h1)
 |fI hl _=>simp[Ak]at hp
theorem Cl(D:Dn):∀(cs:List SV),norm.aN D cs=cs.map (norm D)
 | []=>rfl
 |c :: cs=>by simp[norm.aN,Cl D cs]
theorem Cf:∀(cs:List SV),loose.aF cs=cs.map loose
 | []=>rfl
 |c :: cs=>by simp[loose.aF,Cf cs]
theorem RO.norm{I:Nat->Nat->Prop}{w:World}{s:SV}{v:Value}(h:RO I w s v):RO I w (norm dn s) v:=by
 induction h with
 |int h=>exact .int h
 |bool h=>exact .bool h
 |str h=>exact .str h
 |iC=>exact .iC
 |raw h=>exact .raw h
 |fn h=>exact .fn h
 |ifc h=>exact .ifc h
 |slnil h hn=>exact .slnil h hn
 |sl g h hn hc fX hs hl h1 aK aY _=>exact .sl g h hn hc fX hs hl h1 aK aY
 |dB g hs h1 aK aY _=>exact .dB g hs h1 aK aY
 |dP g hs hl h1 aK aY _=>exact .dP g hs hl h1 aK aY
 |agg hl h ih =>
  simp only[Sx.norm,Cl];refine .agg (by simp[hl]) λi s v h1 h2=>?_;rw[QP]at h1;cases e:(‹List SV›)[i]? with
  |none=>rw[e]at h1;cases h1
  |some s'=>rw[e]at h1;cases h1;exact ih i s' v e h2
theorem Rel.norm{E:Env}{w:World}{s:SV}{v:Value}(h:Rel E w s v):Rel E w (norm dn s) v:=by
 induction h with
 |ro h=>exact .ro h.norm
 |ptr hb hv=>exact .ptr hb hv
 |eD hr ht=>exact .eD hr.norm ht
 |dM hb hm hv=>exact .dM hb hm hv
 |cU hb hz hv=>exact .cU hb hz hv
 |bY ht hk=>exact .bY ht hk
 |cK hv ho=>exact .cK hv ho
 |bP hb hv=>exact .bP hb hv
 |yv hb hv=>exact .yv hb hv
 |fB ht hk=>exact .fB ht hk
 |jS ht hk=>exact .jS ht hk
 |agg hl _ ih =>
  simp only[Sx.norm,Cl];refine .agg (by simp[hl]) λi s v h1 h2=>?_;rw[QP]at h1;cases e:(‹List SV›)[i]? with
  |none=>rw[e]at h1;cases h1
  |some s'=>rw[e]at h1;cases h1;exact ih i s' v e h2
 |tup hl _ ih =>
  simp only[Sx.norm,Cl];refine .tup (by simp[hl]) λi s v h1 h2=>?_;rw[QP]at h1;cases e:(‹List SV›)[i]? with
  |none=>rw[e]at h1;cases h1
  |some s'=>rw[e]at h1;cases h1;exact ih i s' v e h2
 |fI hl _ ih =>
  simp only[Sx.norm,Cl];refine .fI (by simp[hl]) λi s v h1 h2=>?_;rw[QP]at h1;cases e:(‹List SV›)[i]? with
  |none=>rw[e]at h1;cases h1
  |some s'=>rw[e]at h1;cases h1;exact ih i s' v e h2
theorem RO.loose{I:Nat->Nat->Prop}{w:World}{s:SV}{v:Value}(h:RO I w s v):RO I w (loose s) v:=by
 induction h with
 |int h=>exact .int h
 |bool h=>exact .bool h
 |str h=>exact .str h
 |iC=>exact .iC
 |raw h=>exact .raw h
 |fn h=>exact .fn h
 |ifc h=>exact .ifc h
 |slnil h hn=>exact .slnil h hn
 |sl g h hn hc fX hs hl h1 aK aY _=>exact .sl g h hn hc fX hs hl h1 aK aY
 |dB g hs h1 aK aY _=>exact .dB g hs h1 aK aY
 |dP g hs hl h1 aK aY _=>exact .dP g hs hl h1 aK aY
 |agg hl h ih =>
  simp only[Sx.loose,Cf];refine .agg (by simp[hl]) λi s v h1 h2=>?_;rw[QP]at h1;cases e:(‹List SV›)[i]? with
  |none=>rw[e]at h1;cases h1
  |some s'=>rw[e]at h1;cases h1;exact ih i s' v e h2
theorem Rel.loose{E:Env}{w:World}{s:SV}{v:Value}(h:Rel E w s v):Rel E w (loose s) v:=by
 induction h with
 |ro h=>exact .ro h.loose
 |ptr hb hv=>exact .ptr hb hv
 |eD hr ht=>exact .ro hr
 |dM hb hm hv=>exact .dM hb hm hv
 |cU hb hz hv=>exact .cU hb hz hv
 |bY ht hk=>exact .bY ht hk
 |cK hv ho=>exact .cK hv ho
 |bP hb hv=>exact .bP hb hv
 |yv hb hv=>exact .yv hb hv
 |fB ht hk=>exact .fB ht hk
 |jS ht hk=>exact .jS ht hk
 |agg hl _ ih =>
  simp only[Sx.loose,Cf];refine .agg (by simp[hl]) λi s v h1 h2=>?_;rw[QP]at h1;cases e:(‹List SV›)[i]? with
  |none=>rw[e]at h1;cases h1
  |some s'=>rw[e]at h1;cases h1;exact ih i s' v e h2
 |tup hl _ ih =>
  simp only[Sx.loose,Cf];refine .tup (by simp[hl]) λi s v h1 h2=>?_;rw[QP]at h1;cases e:(‹List SV›)[i]? with
  |none=>rw[e]at h1;cases h1
  |some s'=>rw[e]at h1;cases h1;exact ih i s' v e h2
 |fI hl _ ih =>
  simp only[Sx.loose,Cf];refine .fI (by simp[hl]) λi s v h1 h2=>?_;rw[QP]at h1;cases e:(‹List SV›)[i]? with
  |none=>rw[e]at h1;cases h1
  |some s'=>rw[e]at h1;cases h1;exact ih i s' v e h2
theorem A1.map{E E':Env}{w:World}{cs:List SV}{vs:List Value}(h:A1 E w cs vs)(g:SV->SV)(hg:∀s v,s∈cs->Rel E w s v->Rel E' w (g s) v):A1 E' w (cs.map g) vs:=by
 refine⟨by simp[h.1],λi s v h1 h2=>?_⟩;rw[QP]at h1;cases e:cs[i]? with
 |none=>rw[e]at h1;cases h1
 |some s'=>rw[e]at h1;cases h1;exact hg s' v (QF e) (h.2 i s' v e h2)
section
variable {P:Program} {cx:Cx} {σ:Sy} {T:List Nat} {o:Oper} {K:Out->Prop}
theorem Aa2(hp:List Hl){v:SV}(hv:∀a b,v≠.ptr a b){vs:List SV}{n:Nat}:Ka hp (v :: vs) n=match Ak v,Ka hp vs n with
  |true,some (as,hs,ls)=>some (v :: as,hs,ls)
  |_,_=>none:=by
 cases v<;>first|rfl|exact absurd rfl (hv _ _)
theorem Lp(hp:List Hl):∀(vs:List SV) (n:Nat) (as:List SV) (hs:List Nat) (ls:List Hl),Ka hp vs n=some (as,hs,ls)->
  hs.Nodup/\ls.length=hs.length/\(∀(i h:Nat),hs[i]?=some h->∃l,nth hp h=some l/\ls[i]?=some l/\(Yc l||ND l)=true)/\
  ∀(E E':Env) (w:World) (us:List Value),E'.I=E.I->(∀(i h:Nat),hs[i]?=some h->E'.β (n+i)=E.β h/\E'.τ (n+i)=E.τ h)->A1 E w vs us->A1 E' w as us
 | [],n,as,hs,ls,h=>by
  simp only[Ka,Option.some.injEq,Prod.mk.injEq]at h;obtain⟨rfl,rfl,rfl⟩:=h;exact⟨List.nodup_nil,rfl,by simp,λE E' w us _ _ hr=>⟨hr.1,by simp⟩⟩
 |v :: vs,n,as,hs,ls,h=>by
  have kQ:∀oC ,Ak v=true->Ka hp vs n=some (oC,hs,ls)->as=v :: oC->hs.Nodup/\ls.length=hs.length/\(∀(i h:Nat),hs[i]?=some h->∃l,nth hp h=some l/\ls[i]?=some l/\(Yc l||ND l)=true)/\
    ∀(E E':Env) (w:World) (us:List Value),E'.I=E.I->(∀(i h:Nat),hs[i]?=some h->E'.β (n+i)=E.β h/\E'.τ (n+i)=E.τ h)->A1 E w (v :: vs) us->A1 E' w as us:=by
   intro oC gB h e;obtain⟨h1,h2,h3,h4⟩:=Lp hp vs n oC hs ls h;refine⟨h1,h2,h3,λE E' w us hI gA hr=>?_⟩
   match us,hr with
   |u :: us,hr =>
    subst e;exact .cons ((hr.2 0 v u rfl rfl).plain hI gB) (h4 E E' w us hI gA ⟨by have:=hr.1;simpa using this,λi s v a b=>hr.2 (i+1) s v a b⟩)
   | [],hr=>exact absurd hr.1 (by simp)
  by_cases hv:∃hd off,v=.ptr hd off
  .obtain⟨hd,off,rfl⟩:=hv
   simp only[Ka]at h
   split at h
   .rename_i l0 oC cJ aI e1 e2
    split at h
    case isFalse=>cases h
    .rename_i hn
     simp only[QB,XK]at hn;obtain⟨HE,hn⟩:=hn;simp only[Option.some.injEq,Prod.mk.injEq]at h;obtain⟨rfl,rfl,rfl⟩:=h;obtain⟨h1,h2,h3,h4⟩:=Lp hp _ (n+1) oC cJ aI e2;have zR:hd ∉ cJ:=λhm=>by rw[(Ca _ _).2 hm]at hn;cases hn
     refine⟨List.nodup_cons.2 ⟨zR,h1⟩,by simp[h2],λi k hk=>?_,λE E' w us hI gA hr=>?_⟩
     .cases i with
      |zero=>simp at hk;subst hk;exact⟨l0,e1,rfl,by simp[HE]⟩
      |succ i=>simp at hk;simpa using h3 i k hk
     .match us,hr with
      |u :: us,hr =>
       obtain⟨b,hb,hu⟩:=(hr.2 0 _ u rfl rfl).dW;refine .cons (.ptr ?_ hu) (h4 E E' w us hI (λi k hk=>?_) ⟨by have:=hr.1;simpa using this,λi s v a b=>hr.2 (i+1) s v a b⟩)
       .have:=(gA 0 hd rfl).1
        simp only[ZA]at this;rw[this];exact hb
       .have:=gA (i+1) k (by simpa using hk)
        rw[show n+1+i=n+(i+1) by omega];exact this
      | [],hr=>exact absurd hr.1 (by simp)
   .cases h
  .rw[Aa2 hp (λa b e=>hv ⟨a,b,e⟩)]at h
   split at h
   .rename_i oC cJ aI e1 e2
    simp only[Option.some.injEq,Prod.mk.injEq]at h;obtain⟨rfl,rfl,rfl⟩:=h;exact kQ oC e1 e2 rfl
   .cases h
theorem Wt:∀ {l t:List Nat},PX l t=true->∀x∈l,x ∉ t
 | [],_,_,x,hx=>by simp at hx
 |y :: l,t,h,x,hx=>by
  simp only[PX,QB,XK]at h;rcases List.mem_cons.1 hx with rfl|hx
  .exact λhm=>by rw[(Ca _ _).2 hm]at h;exact absurd h.1 (by simp)
  .exact Wt h.2 x hx
theorem Aa9(hp:List Hl){v:SV}(hv:∀a b,v≠.ptr a b)(hc:∀f cs,v≠.fI f cs)(ho:∀a b c,v≠.bY a b c){vs:List SV}{n:Nat}:Fd hp (v :: vs) n=match Ak v,Fd hp vs n with
  |true,some (as,hs,ls)=>some (v :: as,hs,ls)
  |_,_=>none:=by
 cases v<;>first|rfl|exact absurd rfl (hv _ _)|exact absurd rfl (hc _ _)|exact absurd rfl (ho _ _ _)
theorem Gp(hp:List Hl):∀(vs:List SV) (n:Nat) (as:List SV) (hs:List Nat) (ls:List Hl),Fd hp vs n=some (as,hs,ls)->
  hs.Nodup/\ls.length=hs.length/\(∀(i h:Nat),hs[i]?=some h->∃l,nth hp h=some l/\ls[i]?=some l/\(Yc l||ND l)=true)/\
  ∀(E E':Env) (w:World) (us:List Value),E'.I=E.I->(∀(i h:Nat),hs[i]?=some h->E'.β (n+i)=E.β h/\E'.τ (n+i)=E.τ h)->A1 E w vs us->A1 E' w as us
 | [],n,as,hs,ls,h=>by
  simp only[Fd,Option.some.injEq,Prod.mk.injEq]at h;obtain⟨rfl,rfl,rfl⟩:=h;exact⟨List.nodup_nil,rfl,by simp,λE E' w us _ _ hr=>⟨hr.1,by simp⟩⟩
 |v :: vs,n,as,hs,ls,h=>by
  have kQ:∀oC ,Ak v=true->Fd hp vs n=some (oC,hs,ls)->as=v :: oC->hs.Nodup/\ls.length=hs.length/\(∀(i h:Nat),hs[i]?=some h->∃l,nth hp h=some l/\ls[i]?=some l/\(Yc l||ND l)=true)/\
    ∀(E E':Env) (w:World) (us:List Value),E'.I=E.I->(∀(i h:Nat),hs[i]?=some h->E'.β (n+i)=E.β h/\E'.τ (n+i)=E.τ h)->A1 E w (v :: vs) us->A1 E' w as us:=by
   intro oC gB h e;obtain⟨h1,h2,h3,h4⟩:=Gp hp vs n oC hs ls h;refine⟨h1,h2,h3,λE E' w us hI gA hr=>?_⟩
   match us,hr with
   |u :: us,hr =>
    subst e;exact .cons ((hr.2 0 v u rfl rfl).plain hI gB) (h4 E E' w us hI gA ⟨by have:=hr.1;simpa using this,λi s v a b=>hr.2 (i+1) s v a b⟩)
   | [],hr=>exact absurd hr.1 (by simp)
  by_cases hv:∃hd off,v=.ptr hd off
  .obtain⟨hd,off,rfl⟩:=hv
   simp only[Fd]at h
   split at h
   .rename_i l0 oC cJ aI e1 e2
    split at h
    case isFalse=>cases h
    .rename_i hn
     simp only[QB,XK]at hn;obtain⟨HE,hn⟩:=hn;simp only[Option.some.injEq,Prod.mk.injEq]at h;obtain⟨rfl,rfl,rfl⟩:=h;obtain⟨h1,h2,h3,h4⟩:=Gp hp _ (n+1) oC cJ aI e2;have zR:hd ∉ cJ:=λhm=>by rw[(Ca _ _).2 hm]at hn;cases hn
     refine⟨List.nodup_cons.2 ⟨zR,h1⟩,by simp[h2],λi k hk=>?_,λE E' w us hI gA hr=>?_⟩
     .cases i with
      |zero=>simp at hk;subst hk;exact⟨l0,e1,rfl,by simp[HE]⟩
      |succ i=>simp at hk;simpa using h3 i k hk
     .match us,hr with
      |u :: us,hr =>
       obtain⟨b,hb,hu⟩:=(hr.2 0 _ u rfl rfl).dW;refine .cons (.ptr ?_ hu) (h4 E E' w us hI (λi k hk=>?_) ⟨by have:=hr.1;simpa using this,λi s v a b=>hr.2 (i+1) s v a b⟩)
       .have:=(gA 0 hd rfl).1
        simp only[ZA]at this;rw[this];exact hb
       .have:=gA (i+1) k (by simpa using hk)
        rw[show n+1+i=n+(i+1) by omega];exact this
      | [],hr=>exact absurd hr.1 (by simp)
   .cases h
  .by_cases hc:∃f cs,v=.fI f cs
   .obtain⟨f,cs,rfl⟩:=hc
    simp only[Fd]at h
    split at h
    .rename_i as1 cC BA e1
     split at h
     .rename_i oC cJ aI e2
      split at h
      .rename_i JC
       simp only[Option.some.injEq,Prod.mk.injEq]at h;obtain⟨rfl,rfl,rfl⟩:=h;rw[Af]at e2;obtain⟨c1,c2,c3,c4⟩:=Lp hp cs n as1 cC BA e1;obtain⟨h1,h2,h3,h4⟩:=Gp hp _ (n+cC.length) oC cJ aI e2;refine⟨List.nodup_append.2 ⟨c1,h1,λa ha b hb e=>Wt JC a ha (e ▸ hb)⟩,by simp[h2,c2],λi k hk=>?_,λE E' w us hI gA hr=>?_⟩
       .by_cases aA:i<cC.length
        .rw[QJ aA]at hk
         rw[QJ (by omega)];exact c3 i k hk
        .rw[QU (by omega)]at hk
         rw[QU (by omega),c2];exact h3 _ k hk
       .match us,hr with
        |u :: us,hr =>
         obtain⟨cv,rfl,fy⟩:=(hr.2 0 _ u rfl rfl).pM;have IY:=c4 E E' w cv hI (λi k hk=>gA i k (by rw[QJ (List.getElem?_eq_some_iff.1 hk).1];exact hk)) fy;refine .cons (.fI IY.1 IY.2) (h4 E E' w us hI (λi k hk=>?_) ⟨by have:=hr.1;simpa using this,λi s v a b=>hr.2 (i+1) s v a b⟩);have:=gA (cC.length+i) k (by rw[QU (by omega)];simpa using hk);rw[show n+cC.length+i=n+(cC.length+i) by omega];exact this
        | [],hr=>exact absurd hr.1 (by simp)
      .cases h
     .cases h
    .cases h
   by_cases ho:∃nl m hd,v=.bY nl m hd
   .obtain⟨nl,m,hd,rfl⟩:=ho
    simp only[Fd]at h
    split at h
    .rename_i l0 oC cJ aI e1 e2
     split at h
     case isFalse=>cases h
     .rename_i hn
      simp only[QB,XK]at hn;obtain⟨HE,hn⟩:=hn;simp only[Option.some.injEq,Prod.mk.injEq]at h;obtain⟨rfl,rfl,rfl⟩:=h;obtain⟨h1,h2,h3,h4⟩:=Gp hp _ (n+1) oC cJ aI e2;have zR:hd ∉ cJ:=λhm=>by rw[(Ca _ _).2 hm]at hn;cases hn
      refine⟨List.nodup_cons.2 ⟨zR,h1⟩,by simp[h2],λi k hk=>?_,λE E' w us hI gA hr=>?_⟩
      .cases i with
       |zero=>simp at hk;subst hk;exact⟨l0,e1,rfl,by simp[HE]⟩
       |succ i=>simp at hk;simpa using h3 i k hk
      .match us,hr with
       |u :: us,hr =>
        obtain⟨ht,a0,m0,c0,t1,t2⟩:=(hr.2 0 _ u rfl rfl).iO;refine .cons (.bY ht ⟨a0,m0,c0,?_,t2⟩) (h4 E E' w us hI (λi k hk=>?_) ⟨by have:=hr.1;simpa using this,λi s v a b=>hr.2 (i+1) s v a b⟩)
        .have:=(gA 0 hd rfl).2
         simp only[ZA]at this;rw[this];exact t1
        .have:=gA (i+1) k (by simpa using hk)
         rw[show n+1+i=n+(i+1) by omega];exact this
       | [],hr=>exact absurd hr.1 (by simp)
    .cases h
   rw[Aa9 hp (λa b e=>hv ⟨a,b,e⟩) (λf cs e=>hc ⟨f,cs,e⟩) (λa b c e=>ho ⟨a,b,c,e⟩)]at h
   split at h
   .rename_i oC cJ aI e1 e2
    simp only[Option.some.injEq,Prod.mk.injEq]at h;obtain⟨rfl,rfl,rfl⟩:=h;exact kQ oC e1 e2 rfl
   .cases h
end
end Go.Sx
