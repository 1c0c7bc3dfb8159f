/- A part of the proof: contracts of functions, or the executor and its soundness. No conditions. -/
import Derived.CallsIn
import Derived.Test.YtdoogdbjiijifaaGreatDoorE8Pad
namespace Go.Sx
open Go
def Vy(P:Program)(f:FuncId):Prop:=∃fn c,P.funcs[f]?=some fn/\fn.body=some c/\(fn.name=="runtime.NumGoroutine")=false
def E4(P:Program)(gl:List (Nat×SV))(f:FuncId)(as:List SV)(ls:List Hl)(r:SV)(aK:List Hl):Prop :=
 ∀(B:Bs) (E:Env) (w:World) (aX:List Value),B.w0=w->(∀b o,E.I b o->B.I0 b o)->(∀h,B.cL h≠none\/B.nX h≠none\/B.nY h≠none->h<ls.length)->Cl B E w->Fh B gl->(∀h,bQ E w h (Aq ls h))->A6 E w as aX->
  Calls P f ⟨aX⟩ w λe w'=>∃v E',e=.returned v/\Cl B E' w'/\(∀h,h<aK.length->bQ E' w' h (Aq aK h))/\Rel E' w' r v
def Anj(G:List Value->World->(Ending->World->Prop)->Prop)(gl:List (Nat×SV))(as:List SV)(ls:List Hl)(r:SV)(aK:List Hl):Prop :=
 ∀(B:Bs) (E:Env) (w:World) (aX:List Value),B.w0=w->(∀b o,E.I b o->B.I0 b o)->(∀h,B.cL h≠none\/B.nX h≠none\/B.nY h≠none->h<ls.length)->Cl B E w->Fh B gl->(∀h,bQ E w h (Aq ls h))->A6 E w as aX->
  G aX w λe w'=>∃v E',e=.returned v/\Cl B E' w'/\(∀h,h<aK.length->bQ E' w' h (Aq aK h))/\Rel E' w' r v
def Fr(ro:Option Nat):Fence:={ Fence.wide with round:=ro }
def YG(P:Program)(aX:List Value)(w:World)(R:Ending->World->Prop):Prop :=
 ∃l args r,aX=.func (.yield l) #[] #[] :: args/\w.heap[l]?=some (.loop r)/\args.length=r.params.size/\
  ∀ro nn,RoundIn (Fr ro) nn P l r.fn ((r.params.zip (⟨args⟩:Array Value)).foldl (λtmps (t,a)=>tmps.setIfInBounds t a) r.tmps) r.assign r.body w R
def CW(P:Program)(gl:List (Nat×SV))(Y:aB):Prop :=
 ∀(as:List SV) (ls:List Hl) (K:SV->List Hl->Prop),Y dn as ls K->∃r aK,K r aK/\Anj (YG P) gl as ls r aK
def Ap(P:Program)(gl:List (Nat×SV))(f:FuncId)(sp:aB):Prop :=
 Vy P f/\∀(as:List SV) (ls:List Hl) (K:SV->List Hl->Prop),sp dn as ls K->∃r aK,K r aK/\E4 P gl f as ls r aK
def U0(f:Nat):Nat:=if Nat.blt f 1000000 then f else f-1000000
def Et(P:Program)(gl:List (Nat×SV))(eD:List (Nat×aB)):Prop:=∀x∈eD,Ap P gl (U0 x.1) x.2
structure Vw(P:Program)(cx:Cx):Prop where
 its:∀x∈cx.its,∀Y,CW P cx.gl Y->Ap P cx.gl x.1 (x.2 Y)
 yl:∀Y∈cx.yl,CW P cx.gl Y
theorem Et.look{P:Program}{gl:List (Nat×SV)}:∀ {eD:List (Nat×aB)} {f:Nat} {sp:aB},Et P gl eD->Sx.look f eD=some sp->Ap P gl (U0 f) sp
 | [],_,_,_,h=>by simp[Sx.look]at h
 |(g,sq) :: eD,f,sp,ht,h=>by
  simp only[Sx.look]at h
  split at h
  .rename_i e
   have e:g=f:=by simpa using e
   subst e;simp only[Option.some.injEq]at h;subst h;exact ht _ (XA ..)
  .exact Et.look (λx hx=>ht x (XB _ hx)) h
theorem Cv:∀(cs:List SV),An.gL cs=true↔∀c∈cs,An c=true
 | []=>by simp[An.gL]
 |c :: cs=>by simp[An.gL,Cv cs]
theorem Rel.plain{E E':Env}{w:World}{s:SV}{v:Value}(h:Rel E w s v)(hI:E'.I=E.I)(hp:An s=true):Rel E' w s v:=by
 induction h with
 |ro h=>exact .ro (by rw[hI];exact h)
 |ptr hb hv=>simp[An]at hp
 |dQ hr ht=>simp[An]at hp
 |dG hb hm hv=>simp[An]at hp
 |cS hb hz hv=>simp[An]at hp
 |bV ht hk=>simp[An]at hp
 |cK hv ho=>simp[An]at hp
 |bP hb hv=>simp[An]at hp
 |iZ hb hn hv=>simp[An]at hp
 |yv hb hv=>simp[An]at hp
 |cP ht hk=>simp[An]at hp
 |jP ht hk=>simp[An]at hp
 |agg hl _ ih =>
  refine .agg hl λi s v h1 h2=>ih i s v h1 h2 ?_;simp only[An]at hp;exact (Cv _).1 hp s (QK h1)
 |aJ hl _ ih =>
  refine .aJ hl λi s v h1 h2=>ih i s v h1 h2 ?_;simp only[An]at hp;exact (Cv _).1 hp s (QK h1)
 |eZ hl _=>simp[An]at hp
 |gI hl _=>simp[An]at hp
theorem Ci(D:Dn):∀(cs:List SV),norm.aM D cs=cs.map (norm D)
 | []=>rfl
 |c :: cs=>by simp[norm.aM,Ci D cs]
theorem Ce:∀(cs:List SV),loose.aH cs=cs.map loose
 | []=>rfl
 |c :: cs=>by simp[loose.aH,Ce cs]
theorem RO.norm{I:Nat->Nat->Prop}{w:World}{s:SV}{v:Value}(h:RO I w s v):RO I w (norm dn s) v:=by
 induction h with
 |int h=>exact .int h
 |bool h=>exact .bool h
 |str h=>exact .str h
 |fC=>exact .fC
 |raw h=>exact .raw h
 |fn h=>exact .fn h
 |rU h=>exact .rU h
 |slnil h hn=>exact .slnil h hn
 |sl g h hn hc eY hs hl h1 aN bF _=>exact .sl g h hn hc eY hs hl h1 aN bF
 |dK g hs h1 aN bF _=>exact .dK g hs h1 aN bF
 |dT g hs hl h1 aN bF _=>exact .dT g hs hl h1 aN bF
 |agg hl h ih =>
  simp only[Sx.norm,Ci];refine .agg (by simp[hl]) λi s v h1 h2=>?_;rw[QR]at h1;cases e:(‹List SV›)[i]? with
  |none=>rw[e]at h1;cases h1
  |some s'=>rw[e]at h1;cases h1;exact ih i s' v e h2
theorem Rel.norm{E:Env}{w:World}{s:SV}{v:Value}(h:Rel E w s v):Rel E w (norm dn s) v:=by
 induction h with
 |ro h=>exact .ro h.norm
 |ptr hb hv=>exact .ptr hb hv
 |dQ hr ht=>exact .dQ hr.norm ht
 |dG hb hm hv=>exact .dG hb hm hv
 |cS hb hz hv=>exact .cS hb hz hv
 |bV ht hk=>exact .bV ht hk
 |cK hv ho=>exact .cK hv ho
 |bP hb hv=>exact .bP hb hv
 |iZ hb hn hv=>exact .iZ hb hn hv
 |yv hb hv=>exact .yv hb hv
 |cP ht hk=>exact .cP ht hk
 |jP ht hk=>exact .jP ht hk
 |agg hl _ ih =>
  simp only[Sx.norm,Ci];refine .agg (by simp[hl]) λi s v h1 h2=>?_;rw[QR]at h1;cases e:(‹List SV›)[i]? with
  |none=>rw[e]at h1;cases h1
  |some s'=>rw[e]at h1;cases h1;exact ih i s' v e h2
 |aJ hl _ ih =>
  simp only[Sx.norm,Ci];refine .aJ (by simp[hl]) λi s v h1 h2=>?_;rw[QR]at h1;cases e:(‹List SV›)[i]? with
  |none=>rw[e]at h1;cases h1
  |some s'=>rw[e]at h1;cases h1;exact ih i s' v e h2
 |eZ hl _ ih =>
  simp only[Sx.norm,Ci];refine .eZ (by simp[hl]) λi s v h1 h2=>?_;rw[QR]at h1;cases e:(‹List SV›)[i]? with
  |none=>rw[e]at h1;cases h1
  |some s'=>rw[e]at h1;cases h1;exact ih i s' v e h2
 |gI hl _ ih =>
  simp only[Sx.norm,Ci];refine .gI (by simp[hl]) λi s v h1 h2=>?_;rw[QR]at h1;cases e:(‹List SV›)[i]? with
  |none=>rw[e]at h1;cases h1
  |some s'=>rw[e]at h1;cases h1;exact ih i s' v e h2
theorem RO.loose{I:Nat->Nat->Prop}{w:World}{s:SV}{v:Value}(h:RO I w s v):RO I w (loose s) v:=by
 induction h with
 |int h=>exact .int h
 |bool h=>exact .bool h
 |str h=>exact .str h
 |fC=>exact .fC
 |raw h=>exact .raw h
 |fn h=>exact .fn h
 |rU h=>exact .rU h
 |slnil h hn=>exact .slnil h hn
 |sl g h hn hc eY hs hl h1 aN bF _=>exact .sl g h hn hc eY hs hl h1 aN bF
 |dK g hs h1 aN bF _=>exact .dK g hs h1 aN bF
 |dT g hs hl h1 aN bF _=>exact .dT g hs hl h1 aN bF
 |agg hl h ih =>
  simp only[Sx.loose,Ce];refine .agg (by simp[hl]) λi s v h1 h2=>?_;rw[QR]at h1;cases e:(‹List SV›)[i]? with
  |none=>rw[e]at h1;cases h1
  |some s'=>rw[e]at h1;cases h1;exact ih i s' v e h2
theorem Rel.loose{E:Env}{w:World}{s:SV}{v:Value}(h:Rel E w s v):Rel E w (loose s) v:=by
 induction h with
 |ro h=>exact .ro h.loose
 |ptr hb hv=>exact .ptr hb hv
 |dQ hr ht=>exact .ro hr
 |dG hb hm hv=>exact .dG hb hm hv
 |cS hb hz hv=>exact .cS hb hz hv
 |bV ht hk=>exact .bV ht hk
 |cK hv ho=>exact .cK hv ho
 |bP hb hv=>exact .bP hb hv
 |iZ hb hn hv=>exact .iZ hb hn hv
 |yv hb hv=>exact .yv hb hv
 |cP ht hk=>exact .cP ht hk
 |jP ht hk=>exact .jP ht hk
 |agg hl _ ih =>
  simp only[Sx.loose,Ce];refine .agg (by simp[hl]) λi s v h1 h2=>?_;rw[QR]at h1;cases e:(‹List SV›)[i]? with
  |none=>rw[e]at h1;cases h1
  |some s'=>rw[e]at h1;cases h1;exact ih i s' v e h2
 |aJ hl _ ih =>
  simp only[Sx.loose,Ce];refine .aJ (by simp[hl]) λi s v h1 h2=>?_;rw[QR]at h1;cases e:(‹List SV›)[i]? with
  |none=>rw[e]at h1;cases h1
  |some s'=>rw[e]at h1;cases h1;exact ih i s' v e h2
 |eZ hl _ ih =>
  simp only[Sx.loose,Ce];refine .eZ (by simp[hl]) λi s v h1 h2=>?_;rw[QR]at h1;cases e:(‹List SV›)[i]? with
  |none=>rw[e]at h1;cases h1
  |some s'=>rw[e]at h1;cases h1;exact ih i s' v e h2
 |gI hl _ ih =>
  simp only[Sx.loose,Ce];refine .gI (by simp[hl]) λi s v h1 h2=>?_;rw[QR]at h1;cases e:(‹List SV›)[i]? with
  |none=>rw[e]at h1;cases h1
  |some s'=>rw[e]at h1;cases h1;exact ih i s' v e h2
theorem A6.map{E E':Env}{w:World}{cs:List SV}{vs:List Value}(h:A6 E w cs vs)(g:SV->SV)(hg:∀s v,s∈cs->Rel E w s v->Rel E' w (g s) v):A6 E' w (cs.map g) vs:=by
 refine⟨by simp[h.1],λi s v h1 h2=>?_⟩;rw[QR]at h1;cases e:cs[i]? with
 |none=>rw[e]at h1;cases h1
 |some s'=>rw[e]at h1;cases h1;exact hg s' v (QK e) (h.2 i s' v e h2)
section
variable {P:Program} {cx:Cx} {σ:Sy} {T:List Nat} {o:Oper} {K:Out->Prop}
theorem Zt(hp:List Hl){v:SV}(hv:∀a b,v≠.ptr a b){vs:List SV}{n:Nat}:Kp hp (v :: vs) n=match An v,Kp hp vs n with
  |true,some (as,hs,ls)=>some (v :: as,hs,ls)
  |_,_=>none:=by
 cases v<;>first|rfl|exact absurd rfl (hv _ _)
theorem L5(hp:List Hl):∀(vs:List SV) (n:Nat) (as:List SV) (hs:List Nat) (ls:List Hl),Kp hp vs n=some (as,hs,ls)->
  hs.Nodup/\ls.length=hs.length/\(∀(i h:Nat),hs[i]?=some h->∃l,nth hp h=some l/\ls[i]?=some l/\(Xd l||MN l)=true)/\
  ∀(E E':Env) (w:World) (us:List Value),E'.I=E.I->(∀(i h:Nat),hs[i]?=some h->E'.β (n+i)=E.β h/\E'.τ (n+i)=E.τ h)->A6 E w vs us->A6 E' w as us
 | [],n,as,hs,ls,h=>by
  simp only[Kp,Option.some.injEq,Prod.mk.injEq]at h;obtain⟨rfl,rfl,rfl⟩:=h;exact⟨List.nodup_nil,rfl,by simp,λE E' w us _ _ hr=>⟨hr.1,by simp⟩⟩
 |v :: vs,n,as,hs,ls,h=>by
  have kS:∀oS ,An v=true->Kp hp vs n=some (oS,hs,ls)->as=v :: oS->hs.Nodup/\ls.length=hs.length/\(∀(i h:Nat),hs[i]?=some h->∃l,nth hp h=some l/\ls[i]?=some l/\(Xd l||MN l)=true)/\
    ∀(E E':Env) (w:World) (us:List Value),E'.I=E.I->(∀(i h:Nat),hs[i]?=some h->E'.β (n+i)=E.β h/\E'.τ (n+i)=E.τ h)->A6 E w (v :: vs) us->A6 E' w as us:=by
   intro oS gJ h e;obtain⟨h1,h2,h3,h4⟩:=L5 hp vs n oS hs ls h;refine⟨h1,h2,h3,λE E' w us hI fQ hr=>?_⟩
   match us,hr with
   |u :: us,hr =>
    subst e;exact .cons ((hr.2 0 v u rfl rfl).plain hI gJ) (h4 E E' w us hI fQ ⟨by have:=hr.1;simpa using this,λi s v a b=>hr.2 (i+1) s v a b⟩)
   | [],hr=>exact absurd hr.1 (by simp)
  by_cases hv:∃hd off,v=.ptr hd off
  .obtain⟨hd,off,rfl⟩:=hv
   simp only[Kp]at h
   split at h
   .rename_i l0 oS cB aK e1 e2
    split at h
    case isFalse=>cases h
    .rename_i hn
     simp only[QE,XO]at hn;obtain⟨GO,hn⟩:=hn;simp only[Option.some.injEq,Prod.mk.injEq]at h;obtain⟨rfl,rfl,rfl⟩:=h;obtain⟨h1,h2,h3,h4⟩:=L5 hp _ (n+1) oS cB aK e2;have tZ:hd ∉ cB:=λhm=>by rw[(D1 _ _).2 hm]at hn;cases hn
     refine⟨List.nodup_cons.2 ⟨tZ,h1⟩,by simp[h2],λi k hk=>?_,λE E' w us hI fQ hr=>?_⟩
     .cases i with
      |zero=>simp at hk;subst hk;exact⟨l0,e1,rfl,by simp[GO]⟩
      |succ i=>simp at hk;simpa using h3 i k hk
     .match us,hr with
      |u :: us,hr =>
       obtain⟨b,hb,hu⟩:=(hr.2 0 _ u rfl rfl).dL;refine .cons (.ptr ?_ hu) (h4 E E' w us hI (λi k hk=>?_) ⟨by have:=hr.1;simpa using this,λi s v a b=>hr.2 (i+1) s v a b⟩)
       .have:=(fQ 0 hd rfl).1
        simp only[XY]at this;rw[this];exact hb
       .have:=fQ (i+1) k (by simpa using hk)
        rw[show n+1+i=n+(i+1) by omega];exact this
      | [],hr=>exact absurd hr.1 (by simp)
   .cases h
  .rw[Zt hp (λa b e=>hv ⟨a,b,e⟩)]at h
   split at h
   .rename_i oS cB aK e1 e2
    simp only[Option.some.injEq,Prod.mk.injEq]at h;obtain⟨rfl,rfl,rfl⟩:=h;exact kS oS e1 e2 rfl
   .cases h
theorem Vq:∀ {l t:List Nat},Zz l t=true->∀x∈l,x ∉ t
 | [],_,_,x,hx=>by simp at hx
 |y :: l,t,h,x,hx=>by
  simp only[Zz,QE,XO]at h;rcases List.mem_cons.1 hx with rfl|hx
  .exact λhm=>by rw[(D1 _ _).2 hm]at h;exact absurd h.1 (by simp)
  .exact Vq h.2 x hx
theorem Zx(hp:List Hl){v:SV}(hv:∀a b,v≠.ptr a b)(hc:∀f cs,v≠.eZ f cs)(ho:∀a b c,v≠.bV a b c){vs:List SV}{n:Nat}:Fu hp (v :: vs) n=match An v,Fu hp vs n with
  |true,some (as,hs,ls)=>some (v :: as,hs,ls)
  |_,_=>none:=by
 cases v<;>first|rfl|exact absurd rfl (hv _ _)|exact absurd rfl (hc _ _)|exact absurd rfl (ho _ _ _)
theorem G6(hp:List Hl):∀(vs:List SV) (n:Nat) (as:List SV) (hs:List Nat) (ls:List Hl),Fu hp vs n=some (as,hs,ls)->
  hs.Nodup/\ls.length=hs.length/\(∀(i h:Nat),hs[i]?=some h->∃l,nth hp h=some l/\ls[i]?=some l/\(Xd l||MN l)=true)/\
  ∀(E E':Env) (w:World) (us:List Value),E'.I=E.I->(∀(i h:Nat),hs[i]?=some h->E'.β (n+i)=E.β h/\E'.τ (n+i)=E.τ h)->A6 E w vs us->A6 E' w as us
 | [],n,as,hs,ls,h=>by
  simp only[Fu,Option.some.injEq,Prod.mk.injEq]at h;obtain⟨rfl,rfl,rfl⟩:=h;exact⟨List.nodup_nil,rfl,by simp,λE E' w us _ _ hr=>⟨hr.1,by simp⟩⟩
 |v :: vs,n,as,hs,ls,h=>by
  have kS:∀oS ,An v=true->Fu hp vs n=some (oS,hs,ls)->as=v :: oS->hs.Nodup/\ls.length=hs.length/\(∀(i h:Nat),hs[i]?=some h->∃l,nth hp h=some l/\ls[i]?=some l/\(Xd l||MN l)=true)/\
    ∀(E E':Env) (w:World) (us:List Value),E'.I=E.I->(∀(i h:Nat),hs[i]?=some h->E'.β (n+i)=E.β h/\E'.τ (n+i)=E.τ h)->A6 E w (v :: vs) us->A6 E' w as us:=by
   intro oS gJ h e;obtain⟨h1,h2,h3,h4⟩:=G6 hp vs n oS hs ls h;refine⟨h1,h2,h3,λE E' w us hI fQ hr=>?_⟩
   match us,hr with
   |u :: us,hr =>
    subst e;exact .cons ((hr.2 0 v u rfl rfl).plain hI gJ) (h4 E E' w us hI fQ ⟨by have:=hr.1;simpa using this,λi s v a b=>hr.2 (i+1) s v a b⟩)
   | [],hr=>exact absurd hr.1 (by simp)
  by_cases hv:∃hd off,v=.ptr hd off
  .obtain⟨hd,off,rfl⟩:=hv
   simp only[Fu]at h
   split at h
   .rename_i l0 oS cB aK e1 e2
    split at h
    case isFalse=>cases h
    .rename_i hn
     simp only[QE,XO]at hn;obtain⟨GO,hn⟩:=hn;simp only[Option.some.injEq,Prod.mk.injEq]at h;obtain⟨rfl,rfl,rfl⟩:=h;obtain⟨h1,h2,h3,h4⟩:=G6 hp _ (n+1) oS cB aK e2;have tZ:hd ∉ cB:=λhm=>by rw[(D1 _ _).2 hm]at hn;cases hn
     refine⟨List.nodup_cons.2 ⟨tZ,h1⟩,by simp[h2],λi k hk=>?_,λE E' w us hI fQ hr=>?_⟩
     .cases i with
      |zero=>simp at hk;subst hk;exact⟨l0,e1,rfl,by simp[GO]⟩
      |succ i=>simp at hk;simpa using h3 i k hk
     .match us,hr with
      |u :: us,hr =>
       obtain⟨b,hb,hu⟩:=(hr.2 0 _ u rfl rfl).dL;refine .cons (.ptr ?_ hu) (h4 E E' w us hI (λi k hk=>?_) ⟨by have:=hr.1;simpa using this,λi s v a b=>hr.2 (i+1) s v a b⟩)
       .have:=(fQ 0 hd rfl).1
        simp only[XY]at this;rw[this];exact hb
       .have:=fQ (i+1) k (by simpa using hk)
        rw[show n+1+i=n+(i+1) by omega];exact this
      | [],hr=>exact absurd hr.1 (by simp)
   .cases h
  .by_cases hc:∃f cs,v=.eZ f cs
   .obtain⟨f,cs,rfl⟩:=hc
    simp only[Fu]at h
    split at h
    .rename_i as1 cA BN e1
     split at h
     .rename_i oS cB aK e2
      split at h
      .rename_i hap
       simp only[Option.some.injEq,Prod.mk.injEq]at h;obtain⟨rfl,rfl,rfl⟩:=h;rw[Af]at e2;obtain⟨c1,c2,c3,c4⟩:=L5 hp cs n as1 cA BN e1;obtain⟨h1,h2,h3,h4⟩:=G6 hp _ (n+cA.length) oS cB aK e2;refine⟨List.nodup_append.2 ⟨c1,h1,λa ha b hb e=>Vq hap a ha (e ▸ hb)⟩,by simp[h2,c2],λi k hk=>?_,λE E' w us hI fQ hr=>?_⟩
       .by_cases aC:i<cA.length
        .rw[QM aC]at hk
         rw[QM (by omega)];exact c3 i k hk
        .rw[QO (by omega)]at hk
         rw[QO (by omega),c2];exact h3 _ k hk
       .match us,hr with
        |u :: us,hr =>
         obtain⟨cv,rfl,cq⟩:=(hr.2 0 _ u rfl rfl).qI;have II:=c4 E E' w cv hI (λi k hk=>fQ i k (by rw[QM (List.getElem?_eq_some_iff.1 hk).1];exact hk)) cq;refine .cons (.eZ II.1 II.2) (h4 E E' w us hI (λi k hk=>?_) ⟨by have:=hr.1;simpa using this,λi s v a b=>hr.2 (i+1) s v a b⟩);have:=fQ (cA.length+i) k (by rw[QO (by omega)];simpa using hk);rw[show n+cA.length+i=n+(cA.length+i) by omega];exact this
        | [],hr=>exact absurd hr.1 (by simp)
      .cases h
     .cases h
    .cases h
   by_cases ho:∃nl m hd,v=.bV nl m hd
   .obtain⟨nl,m,hd,rfl⟩:=ho
    simp only[Fu]at h
    split at h
    .rename_i l0 oS cB aK e1 e2
     split at h
     case isFalse=>cases h
     .rename_i hn
      simp only[QE,XO]at hn;obtain⟨GO,hn⟩:=hn;simp only[Option.some.injEq,Prod.mk.injEq]at h;obtain⟨rfl,rfl,rfl⟩:=h;obtain⟨h1,h2,h3,h4⟩:=G6 hp _ (n+1) oS cB aK e2;have tZ:hd ∉ cB:=λhm=>by rw[(D1 _ _).2 hm]at hn;cases hn
      refine⟨List.nodup_cons.2 ⟨tZ,h1⟩,by simp[h2],λi k hk=>?_,λE E' w us hI fQ hr=>?_⟩
      .cases i with
       |zero=>simp at hk;subst hk;exact⟨l0,e1,rfl,by simp[GO]⟩
       |succ i=>simp at hk;simpa using h3 i k hk
      .match us,hr with
       |u :: us,hr =>
        obtain⟨ht,a0,m0,c0,t1,t2⟩:=(hr.2 0 _ u rfl rfl).iO;refine .cons (.bV ht ⟨a0,m0,c0,?_,t2⟩) (h4 E E' w us hI (λi k hk=>?_) ⟨by have:=hr.1;simpa using this,λi s v a b=>hr.2 (i+1) s v a b⟩)
        .have:=(fQ 0 hd rfl).2
         simp only[XY]at this;rw[this];exact t1
        .have:=fQ (i+1) k (by simpa using hk)
         rw[show n+1+i=n+(i+1) by omega];exact this
       | [],hr=>exact absurd hr.1 (by simp)
    .cases h
   rw[Zx hp (λa b e=>hv ⟨a,b,e⟩) (λf cs e=>hc ⟨f,cs,e⟩) (λa b c e=>ho ⟨a,b,c,e⟩)]at h
   split at h
   .rename_i oS cB aK e1 e2
    simp only[Option.some.injEq,Prod.mk.injEq]at h;obtain⟨rfl,rfl,rfl⟩:=h;exact kS oS e1 e2 rfl
   .cases h
end
end Go.Sx
