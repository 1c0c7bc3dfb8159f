/- Lemmas of the proof; no conditions. -/
import Derived.Test.YtdoogdbjiijifaaGreatDoorE9Pad
namespace Go.Sx
open Go
def Wp(P:Program)(f:FuncId):Prop:=∃fn c,P.funcs[f]?=some fn/\fn.body=some c/\(fn.name=="runtime.NumGoroutine")=false
def Fb(P:Program)(gl:List (Nat×SV))(f:FuncId)(as:List SV)(ls:List Hl)(r:SV)(aK:List Hl):Prop :=
 ∀(B:Bs) (E:Env) (w:World) (aX:List Value),B.w0=w->(∀b o,E.I b o->B.I0 b o)->(∀h,B.cO h≠none\/B.oN h≠none\/B.oO h≠none->h<ls.length)->Cr B E w->Fm B gl->(∀h,bR E w h (Aq ls h))->A8 E w as aX->
  Calls P f ⟨aX⟩ w λe w'=>∃v E',e=.returned v/\Cr B E' w'/\(∀h,h<aK.length->bR E' w' h (Aq aK h))/\Rel E' w' r v
def Aot(G:List Value->World->(Ending->World->Prop)->Prop)(gl:List (Nat×SV))(as:List SV)(ls:List Hl)(r:SV)(aK:List Hl):Prop :=
 ∀(B:Bs) (E:Env) (w:World) (aX:List Value),B.w0=w->(∀b o,E.I b o->B.I0 b o)->(∀h,B.cO h≠none\/B.oN h≠none\/B.oO h≠none->h<ls.length)->Cr B E w->Fm B gl->(∀h,bR E w h (Aq ls h))->A8 E w as aX->
  G aX w λe w'=>∃v E',e=.returned v/\Cr B E' w'/\(∀h,h<aK.length->bR E' w' h (Aq aK h))/\Rel E' w' r v
def Fr(ro:Option Nat):Fence:={ Fence.wide with round:=ro }
def YG(P:Program)(aX:List Value)(w:World)(R:Ending->World->Prop):Prop :=
 ∃l args r,aX=.func (.yield l) #[] #[] :: args/\w.heap[l]?=some (.loop r)/\args.length=r.params.size/\
  ∀ro nn,RoundIn (Fr ro) nn P l r.fn ((r.params.zip (⟨args⟩:Array Value)).foldl (λtmps (t,a)=>tmps.setIfInBounds t a) r.tmps) r.assign r.body w R
def DS(P:Program)(gl:List (Nat×SV))(Y:aB):Prop :=
 ∀(as:List SV) (ls:List Hl) (K:SV->List Hl->Prop),Y dn as ls K->∃r aK,K r aK/\Aot (YG P) gl as ls r aK
def Ap(P:Program)(gl:List (Nat×SV))(f:FuncId)(sp:aB):Prop :=
 Wp P f/\∀(as:List SV) (ls:List Hl) (K:SV->List Hl->Prop),sp dn as ls K->∃r aK,K r aK/\Fb P gl f as ls r aK
def Vj(f:Nat):Nat:=if Nat.blt f 1000000 then f else f-1000000
def E8(P:Program)(gl:List (Nat×SV))(eG:List (Nat×aB)):Prop:=∀x∈eG,Ap P gl (Vj x.1) x.2
structure Wn(P:Program)(cx:Cx):Prop where
 its:∀x∈cx.its,∀Y,DS P cx.gl Y->Ap P cx.gl x.1 (x.2 Y)
 yl:∀Y∈cx.yl,DS P cx.gl Y
theorem E8.look{P:Program}{gl:List (Nat×SV)}:∀ {eG:List (Nat×aB)} {f:Nat} {sp:aB},E8 P gl eG->Sx.look f eG=some sp->Ap P gl (Vj f) sp
 | [],_,_,_,h=>by simp[Sx.look]at h
 |(g,sq) :: eG,f,sp,ht,h=>by
  simp only[Sx.look]at h
  split at h
  .rename_i e
   have e:g=f:=by simpa using e
   subst e;simp only[Option.some.injEq]at h;subst h;exact ht _ (XB ..)
  .exact E8.look (λx hx=>ht x (XC _ hx)) h
theorem C7:∀(cs:List SV),An.gX cs=true↔∀c∈cs,An c=true
 | []=>by simp[An.gX]
 |c :: cs=>by simp[An.gX,C7 cs]
theorem Rel.plain{E E':Env}{w:World}{s:SV}{v:Value}(h:Rel E w s v)(hI:E'.I=E.I)(hp:An s=true):Rel E' w s v:=by
 induction h with
 |ro h=>exact .ro (by rw[hI];exact h)
 |ptr hb hv=>simp[An]at hp
 |dO hr ht=>simp[An]at hp
 |dH hb hm hv=>simp[An]at hp
 |cT hb hz hv=>simp[An]at hp
 |bV ht hk=>simp[An]at hp
 |cN hv ho=>simp[An]at hp
 |bQ hb hv=>simp[An]at hp
 |jI hb hn hv=>simp[An]at hp
 |yv hb hv=>simp[An]at hp
 |cR ht hk=>simp[An]at hp
 |kD ht hk=>simp[An]at hp
 |agg hl _ ih =>
  refine .agg hl λi s v h1 h2=>ih i s v h1 h2 ?_;simp only[An]at hp;exact (C7 _).1 hp s (QL h1)
 |aI hl _ ih =>
  refine .aI hl λi s v h1 h2=>ih i s v h1 h2 ?_;simp only[An]at hp;exact (C7 _).1 hp s (QL h1)
 |fJ hl _=>simp[An]at hp
 |gS hl _=>simp[An]at hp
theorem Co(D:Dn):∀(cs:List SV),norm.aO D cs=cs.map (norm D)
 | []=>rfl
 |c :: cs=>by simp[norm.aO,Co D cs]
theorem Ci:∀(cs:List SV),loose.aH cs=cs.map loose
 | []=>rfl
 |c :: cs=>by simp[loose.aH,Ci cs]
theorem RO.norm{I:Nat->Nat->Prop}{w:World}{s:SV}{v:Value}(h:RO I w s v):RO I w (norm dn s) v:=by
 induction h with
 |int h=>exact .int h
 |bool h=>exact .bool h
 |str h=>exact .str h
 |eX=>exact .eX
 |raw h=>exact .raw h
 |fn h=>exact .fn h
 |sL h=>exact .sL h
 |slnil h hn=>exact .slnil h hn
 |sl g h hn hc fI hs hl h1 aP bG _=>exact .sl g h hn hc fI hs hl h1 aP bG
 |dK g hs h1 aP bG _=>exact .dK g hs h1 aP bG
 |dR g hs hl h1 aP bG _=>exact .dR g hs hl h1 aP bG
 |agg hl h ih =>
  simp only[Sx.norm,Co];refine .agg (by simp[hl]) λi s v h1 h2=>?_;rw[QS]at h1;cases e:(‹List SV›)[i]? with
  |none=>rw[e]at h1;cases h1
  |some s'=>rw[e]at h1;cases h1;exact ih i s' v e h2
theorem Rel.norm{E:Env}{w:World}{s:SV}{v:Value}(h:Rel E w s v):Rel E w (norm dn s) v:=by
 induction h with
 |ro h=>exact .ro h.norm
 |ptr hb hv=>exact .ptr hb hv
 |dO hr ht=>exact .dO hr.norm ht
 |dH hb hm hv=>exact .dH hb hm hv
 |cT hb hz hv=>exact .cT hb hz hv
 |bV ht hk=>exact .bV ht hk
 |cN hv ho=>exact .cN hv ho
 |bQ hb hv=>exact .bQ hb hv
 |jI hb hn hv=>exact .jI hb hn hv
 |yv hb hv=>exact .yv hb hv
 |cR ht hk=>exact .cR ht hk
 |kD ht hk=>exact .kD ht hk
 |agg hl _ ih =>
  simp only[Sx.norm,Co];refine .agg (by simp[hl]) λi s v h1 h2=>?_;rw[QS]at h1;cases e:(‹List SV›)[i]? with
  |none=>rw[e]at h1;cases h1
  |some s'=>rw[e]at h1;cases h1;exact ih i s' v e h2
 |aI hl _ ih =>
  simp only[Sx.norm,Co];refine .aI (by simp[hl]) λi s v h1 h2=>?_;rw[QS]at h1;cases e:(‹List SV›)[i]? with
  |none=>rw[e]at h1;cases h1
  |some s'=>rw[e]at h1;cases h1;exact ih i s' v e h2
 |fJ hl _ ih =>
  simp only[Sx.norm,Co];refine .fJ (by simp[hl]) λi s v h1 h2=>?_;rw[QS]at h1;cases e:(‹List SV›)[i]? with
  |none=>rw[e]at h1;cases h1
  |some s'=>rw[e]at h1;cases h1;exact ih i s' v e h2
 |gS hl _ ih =>
  simp only[Sx.norm,Co];refine .gS (by simp[hl]) λi s v h1 h2=>?_;rw[QS]at h1;cases e:(‹List SV›)[i]? with
  |none=>rw[e]at h1;cases h1
  |some s'=>rw[e]at h1;cases h1;exact ih i s' v e h2
theorem RO.loose{I:Nat->Nat->Prop}{w:World}{s:SV}{v:Value}(h:RO I w s v):RO I w (loose s) v:=by
 induction h with
 |int h=>exact .int h
 |bool h=>exact .bool h
 |str h=>exact .str h
 |eX=>exact .eX
 |raw h=>exact .raw h
 |fn h=>exact .fn h
 |sL h=>exact .sL h
 |slnil h hn=>exact .slnil h hn
 |sl g h hn hc fI hs hl h1 aP bG _=>exact .sl g h hn hc fI hs hl h1 aP bG
 |dK g hs h1 aP bG _=>exact .dK g hs h1 aP bG
 |dR g hs hl h1 aP bG _=>exact .dR g hs hl h1 aP bG
 |agg hl h ih =>
  simp only[Sx.loose,Ci];refine .agg (by simp[hl]) λi s v h1 h2=>?_;rw[QS]at h1;cases e:(‹List SV›)[i]? with
  |none=>rw[e]at h1;cases h1
  |some s'=>rw[e]at h1;cases h1;exact ih i s' v e h2
theorem Rel.loose{E:Env}{w:World}{s:SV}{v:Value}(h:Rel E w s v):Rel E w (loose s) v:=by
 induction h with
 |ro h=>exact .ro h.loose
 |ptr hb hv=>exact .ptr hb hv
 |dO hr ht=>exact .ro hr
 |dH hb hm hv=>exact .dH hb hm hv
 |cT hb hz hv=>exact .cT hb hz hv
 |bV ht hk=>exact .bV ht hk
 |cN hv ho=>exact .cN hv ho
 |bQ hb hv=>exact .bQ hb hv
 |jI hb hn hv=>exact .jI hb hn hv
 |yv hb hv=>exact .yv hb hv
 |cR ht hk=>exact .cR ht hk
 |kD ht hk=>exact .kD ht hk
 |agg hl _ ih =>
  simp only[Sx.loose,Ci];refine .agg (by simp[hl]) λi s v h1 h2=>?_;rw[QS]at h1;cases e:(‹List SV›)[i]? with
  |none=>rw[e]at h1;cases h1
  |some s'=>rw[e]at h1;cases h1;exact ih i s' v e h2
 |aI hl _ ih =>
  simp only[Sx.loose,Ci];refine .aI (by simp[hl]) λi s v h1 h2=>?_;rw[QS]at h1;cases e:(‹List SV›)[i]? with
  |none=>rw[e]at h1;cases h1
  |some s'=>rw[e]at h1;cases h1;exact ih i s' v e h2
 |fJ hl _ ih =>
  simp only[Sx.loose,Ci];refine .fJ (by simp[hl]) λi s v h1 h2=>?_;rw[QS]at h1;cases e:(‹List SV›)[i]? with
  |none=>rw[e]at h1;cases h1
  |some s'=>rw[e]at h1;cases h1;exact ih i s' v e h2
 |gS hl _ ih =>
  simp only[Sx.loose,Ci];refine .gS (by simp[hl]) λi s v h1 h2=>?_;rw[QS]at h1;cases e:(‹List SV›)[i]? with
  |none=>rw[e]at h1;cases h1
  |some s'=>rw[e]at h1;cases h1;exact ih i s' v e h2
theorem A8.map{E E':Env}{w:World}{cs:List SV}{vs:List Value}(h:A8 E w cs vs)(g:SV->SV)(hg:∀s v,s∈cs->Rel E w s v->Rel E' w (g s) v):A8 E' w (cs.map g) vs:=by
 refine⟨by simp[h.1],λi s v h1 h2=>?_⟩;rw[QS]at h1;cases e:cs[i]? with
 |none=>rw[e]at h1;cases h1
 |some s'=>rw[e]at h1;cases h1;exact hg s' v (QL e) (h.2 i s' v e h2)
section
variable {P:Program} {cx:Cx} {σ:Sy} {T:List Nat} {o:Oper} {K:Out->Prop}
theorem Aam(hp:List Hl){v:SV}(hv:∀a b,v≠.ptr a b){vs:List SV}{n:Nat}:Kx hp (v :: vs) n=match An v,Kx hp vs n with
  |true,some (as,hs,ls)=>some (v :: as,hs,ls)
  |_,_=>none:=by
 cases v<;>first|rfl|exact absurd rfl (hv _ _)
theorem Mb(hp:List Hl):∀(vs:List SV) (n:Nat) (as:List SV) (hs:List Nat) (ls:List Hl),Kx hp vs n=some (as,hs,ls)->
  hs.Nodup/\ls.length=hs.length/\(∀(i h:Nat),hs[i]?=some h->∃l,nth hp h=some l/\ls[i]?=some l/\(Xz l||OB l)=true)/\
  ∀(E E':Env) (w:World) (us:List Value),E'.I=E.I->(∀(i h:Nat),hs[i]?=some h->E'.β (n+i)=E.β h/\E'.τ (n+i)=E.τ h)->A8 E w vs us->A8 E' w as us
 | [],n,as,hs,ls,h=>by
  simp only[Kx,Option.some.injEq,Prod.mk.injEq]at h;obtain⟨rfl,rfl,rfl⟩:=h;exact⟨List.nodup_nil,rfl,by simp,λE E' w us _ _ hr=>⟨hr.1,by simp⟩⟩
 |v :: vs,n,as,hs,ls,h=>by
  have lN:∀pJ ,An v=true->Kx hp vs n=some (pJ,hs,ls)->as=v :: pJ->hs.Nodup/\ls.length=hs.length/\(∀(i h:Nat),hs[i]?=some h->∃l,nth hp h=some l/\ls[i]?=some l/\(Xz l||OB l)=true)/\
    ∀(E E':Env) (w:World) (us:List Value),E'.I=E.I->(∀(i h:Nat),hs[i]?=some h->E'.β (n+i)=E.β h/\E'.τ (n+i)=E.τ h)->A8 E w (v :: vs) us->A8 E' w as us:=by
   intro pJ gP h e;obtain⟨h1,h2,h3,h4⟩:=Mb hp vs n pJ hs ls h;refine⟨h1,h2,h3,λE E' w us hI fY hr=>?_⟩
   match us,hr with
   |u :: us,hr =>
    subst e;exact .cons ((hr.2 0 v u rfl rfl).plain hI gP) (h4 E E' w us hI fY ⟨by have:=hr.1;simpa using this,λi s v a b=>hr.2 (i+1) s v a b⟩)
   | [],hr=>exact absurd hr.1 (by simp)
  by_cases hv:∃hd off,v=.ptr hd off
  .obtain⟨hd,off,rfl⟩:=hv
   simp only[Kx]at h
   split at h
   .rename_i l0 pJ cD aK e1 e2
    split at h
    case isFalse=>cases h
    .rename_i hn
     simp only[QE,XL]at hn;obtain⟨IP,hn⟩:=hn;simp only[Option.some.injEq,Prod.mk.injEq]at h;obtain⟨rfl,rfl,rfl⟩:=h;obtain⟨h1,h2,h3,h4⟩:=Mb hp _ (n+1) pJ cD aK e2;have yD:hd ∉ cD:=λhm=>by rw[(D9 _ _).2 hm]at hn;cases hn
     refine⟨List.nodup_cons.2 ⟨yD,h1⟩,by simp[h2],λi k hk=>?_,λE E' w us hI fY hr=>?_⟩
     .cases i with
      |zero=>simp at hk;subst hk;exact⟨l0,e1,rfl,by simp[IP]⟩
      |succ i=>simp at hk;simpa using h3 i k hk
     .match us,hr with
      |u :: us,hr =>
       obtain⟨b,hb,hu⟩:=(hr.2 0 _ u rfl rfl).dL;refine .cons (.ptr ?_ hu) (h4 E E' w us hI (λi k hk=>?_) ⟨by have:=hr.1;simpa using this,λi s v a b=>hr.2 (i+1) s v a b⟩)
       .have:=(fY 0 hd rfl).1
        simp only[ZB]at this;rw[this];exact hb
       .have:=fY (i+1) k (by simpa using hk)
        rw[show n+1+i=n+(i+1) by omega];exact this
      | [],hr=>exact absurd hr.1 (by simp)
   .cases h
  .rw[Aam hp (λa b e=>hv ⟨a,b,e⟩)]at h
   split at h
   .rename_i pJ cD aK e1 e2
    simp only[Option.some.injEq,Prod.mk.injEq]at h;obtain⟨rfl,rfl,rfl⟩:=h;exact lN pJ e1 e2 rfl
   .cases h
theorem Wg:∀ {l t:List Nat},RZ l t=true->∀x∈l,x ∉ t
 | [],_,_,x,hx=>by simp at hx
 |y :: l,t,h,x,hx=>by
  simp only[RZ,QE,XL]at h;rcases List.mem_cons.1 hx with rfl|hx
  .exact λhm=>by rw[(D9 _ _).2 hm]at h;exact absurd h.1 (by simp)
  .exact Wg h.2 x hx
theorem Aaq(hp:List Hl){v:SV}(hv:∀a b,v≠.ptr a b)(hc:∀f cs,v≠.fJ f cs)(ho:∀a b c,v≠.bV a b c){vs:List SV}{n:Nat}:Fy hp (v :: vs) n=match An v,Fy hp vs n with
  |true,some (as,hs,ls)=>some (v :: as,hs,ls)
  |_,_=>none:=by
 cases v<;>first|rfl|exact absurd rfl (hv _ _)|exact absurd rfl (hc _ _)|exact absurd rfl (ho _ _ _)
theorem G9(hp:List Hl):∀(vs:List SV) (n:Nat) (as:List SV) (hs:List Nat) (ls:List Hl),Fy hp vs n=some (as,hs,ls)->
  hs.Nodup/\ls.length=hs.length/\(∀(i h:Nat),hs[i]?=some h->∃l,nth hp h=some l/\ls[i]?=some l/\(Xz l||OB l)=true)/\
  ∀(E E':Env) (w:World) (us:List Value),E'.I=E.I->(∀(i h:Nat),hs[i]?=some h->E'.β (n+i)=E.β h/\E'.τ (n+i)=E.τ h)->A8 E w vs us->A8 E' w as us
 | [],n,as,hs,ls,h=>by
  simp only[Fy,Option.some.injEq,Prod.mk.injEq]at h;obtain⟨rfl,rfl,rfl⟩:=h;exact⟨List.nodup_nil,rfl,by simp,λE E' w us _ _ hr=>⟨hr.1,by simp⟩⟩
 |v :: vs,n,as,hs,ls,h=>by
  have lN:∀pJ ,An v=true->Fy hp vs n=some (pJ,hs,ls)->as=v :: pJ->hs.Nodup/\ls.length=hs.length/\(∀(i h:Nat),hs[i]?=some h->∃l,nth hp h=some l/\ls[i]?=some l/\(Xz l||OB l)=true)/\
    ∀(E E':Env) (w:World) (us:List Value),E'.I=E.I->(∀(i h:Nat),hs[i]?=some h->E'.β (n+i)=E.β h/\E'.τ (n+i)=E.τ h)->A8 E w (v :: vs) us->A8 E' w as us:=by
   intro pJ gP h e;obtain⟨h1,h2,h3,h4⟩:=G9 hp vs n pJ hs ls h;refine⟨h1,h2,h3,λE E' w us hI fY hr=>?_⟩
   match us,hr with
   |u :: us,hr =>
    subst e;exact .cons ((hr.2 0 v u rfl rfl).plain hI gP) (h4 E E' w us hI fY ⟨by have:=hr.1;simpa using this,λi s v a b=>hr.2 (i+1) s v a b⟩)
   | [],hr=>exact absurd hr.1 (by simp)
  by_cases hv:∃hd off,v=.ptr hd off
  .obtain⟨hd,off,rfl⟩:=hv
   simp only[Fy]at h
   split at h
   .rename_i l0 pJ cD aK e1 e2
    split at h
    case isFalse=>cases h
    .rename_i hn
     simp only[QE,XL]at hn;obtain⟨IP,hn⟩:=hn;simp only[Option.some.injEq,Prod.mk.injEq]at h;obtain⟨rfl,rfl,rfl⟩:=h;obtain⟨h1,h2,h3,h4⟩:=G9 hp _ (n+1) pJ cD aK e2;have yD:hd ∉ cD:=λhm=>by rw[(D9 _ _).2 hm]at hn;cases hn
     refine⟨List.nodup_cons.2 ⟨yD,h1⟩,by simp[h2],λi k hk=>?_,λE E' w us hI fY hr=>?_⟩
     .cases i with
      |zero=>simp at hk;subst hk;exact⟨l0,e1,rfl,by simp[IP]⟩
      |succ i=>simp at hk;simpa using h3 i k hk
     .match us,hr with
      |u :: us,hr =>
       obtain⟨b,hb,hu⟩:=(hr.2 0 _ u rfl rfl).dL;refine .cons (.ptr ?_ hu) (h4 E E' w us hI (λi k hk=>?_) ⟨by have:=hr.1;simpa using this,λi s v a b=>hr.2 (i+1) s v a b⟩)
       .have:=(fY 0 hd rfl).1
        simp only[ZB]at this;rw[this];exact hb
       .have:=fY (i+1) k (by simpa using hk)
        rw[show n+1+i=n+(i+1) by omega];exact this
      | [],hr=>exact absurd hr.1 (by simp)
   .cases h
  .by_cases hc:∃f cs,v=.fJ f cs
   .obtain⟨f,cs,rfl⟩:=hc
    simp only[Fy]at h
    split at h
    .rename_i as1 cC CM e1
     split at h
     .rename_i pJ cD aK e2
      split at h
      .rename_i hap
       simp only[Option.some.injEq,Prod.mk.injEq]at h;obtain⟨rfl,rfl,rfl⟩:=h;rw[Ag]at e2;obtain⟨c1,c2,c3,c4⟩:=Mb hp cs n as1 cC CM e1;obtain⟨h1,h2,h3,h4⟩:=G9 hp _ (n+cC.length) pJ cD aK e2;refine⟨List.nodup_append.2 ⟨c1,h1,λa ha b hb e=>Wg hap a ha (e ▸ hb)⟩,by simp[h2,c2],λi k hk=>?_,λE E' w us hI fY hr=>?_⟩
       .by_cases aC:i<cC.length
        .rw[QM aC]at hk
         rw[QM (by omega)];exact c3 i k hk
        .rw[QP (by omega)]at hk
         rw[QP (by omega),c2];exact h3 _ k hk
       .match us,hr with
        |u :: us,hr =>
         obtain⟨cv,rfl,uY⟩:=(hr.2 0 _ u rfl rfl).qX;have JP:=c4 E E' w cv hI (λi k hk=>fY i k (by rw[QM (List.getElem?_eq_some_iff.1 hk).1];exact hk)) uY;refine .cons (.fJ JP.1 JP.2) (h4 E E' w us hI (λi k hk=>?_) ⟨by have:=hr.1;simpa using this,λi s v a b=>hr.2 (i+1) s v a b⟩);have:=fY (cC.length+i) k (by rw[QP (by omega)];simpa using hk);rw[show n+cC.length+i=n+(cC.length+i) by omega];exact this
        | [],hr=>exact absurd hr.1 (by simp)
      .cases h
     .cases h
    .cases h
   by_cases ho:∃nl m hd,v=.bV nl m hd
   .obtain⟨nl,m,hd,rfl⟩:=ho
    simp only[Fy]at h
    split at h
    .rename_i l0 pJ cD aK e1 e2
     split at h
     case isFalse=>cases h
     .rename_i hn
      simp only[QE,XL]at hn;obtain⟨IP,hn⟩:=hn;simp only[Option.some.injEq,Prod.mk.injEq]at h;obtain⟨rfl,rfl,rfl⟩:=h;obtain⟨h1,h2,h3,h4⟩:=G9 hp _ (n+1) pJ cD aK e2;have yD:hd ∉ cD:=λhm=>by rw[(D9 _ _).2 hm]at hn;cases hn
      refine⟨List.nodup_cons.2 ⟨yD,h1⟩,by simp[h2],λi k hk=>?_,λE E' w us hI fY hr=>?_⟩
      .cases i with
       |zero=>simp at hk;subst hk;exact⟨l0,e1,rfl,by simp[IP]⟩
       |succ i=>simp at hk;simpa using h3 i k hk
      .match us,hr with
       |u :: us,hr =>
        obtain⟨ht,a0,m0,c0,t1,t2⟩:=(hr.2 0 _ u rfl rfl).iY;refine .cons (.bV ht ⟨a0,m0,c0,?_,t2⟩) (h4 E E' w us hI (λi k hk=>?_) ⟨by have:=hr.1;simpa using this,λi s v a b=>hr.2 (i+1) s v a b⟩)
        .have:=(fY 0 hd rfl).2
         simp only[ZB]at this;rw[this];exact t1
        .have:=fY (i+1) k (by simpa using hk)
         rw[show n+1+i=n+(i+1) by omega];exact this
       | [],hr=>exact absurd hr.1 (by simp)
    .cases h
   rw[Aaq hp (λa b e=>hv ⟨a,b,e⟩) (λf cs e=>hc ⟨f,cs,e⟩) (λa b c e=>ho ⟨a,b,c,e⟩)]at h
   split at h
   .rename_i pJ cD aK e1 e2
    simp only[Option.some.injEq,Prod.mk.injEq]at h;obtain⟨rfl,rfl,rfl⟩:=h;exact lN pJ e1 e2 rfl
   .cases h
end
end Go.Sx
