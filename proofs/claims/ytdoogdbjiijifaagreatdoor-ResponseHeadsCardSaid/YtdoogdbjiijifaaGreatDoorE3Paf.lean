/- Part of the proofs of the statements about responses and messages (layers 9 and 10): a symbolic executor over the code, that it is sound, and contracts of functions; it has no conditions of its own. -/
import Derived.CallsIn
import Derived.Test.YtdoogdbjiijifaaGreatDoorE3Pae
namespace Go.Sx
open Go
def Vg(P:Program)(f:FuncId):Prop:=∃fn c,P.funcs[f]?=some fn/\fn.body=some c/\(fn.name=="runtime.NumGoroutine")=false
def Fh(P:Program)(gl:List (Nat×SV))(f:FuncId)(as:List SV)(ls:List Hl)(r:SV)(ls':List Hl):Prop :=
 ∀(B:Bs) (E:Env) (w:World) (vals:List Value),B.w0=w->(∀b o,E.I b o->B.I0 b o)->(∀h,B.β0 h≠none\/B.τ0 h≠none\/B.ζ0 h≠none->h<ls.length)->Ci B E w->E6 B gl->(∀h,HOk E w h (Aq ls h))->A2 E w as vals->
  Calls P f ⟨vals⟩ w λe w'=>∃v E',e=.returned v/\Ci B E' w'/\(∀h,h<ls'.length->HOk E' w' h (Aq ls' h))/\Rel E' w' r v
def Anb(G:List Value->World->(Ending->World->Prop)->Prop)(gl:List (Nat×SV))(as:List SV)(ls:List Hl)(r:SV)(ls':List Hl):Prop :=
 ∀(B:Bs) (E:Env) (w:World) (vals:List Value),B.w0=w->(∀b o,E.I b o->B.I0 b o)->(∀h,B.β0 h≠none\/B.τ0 h≠none\/B.ζ0 h≠none->h<ls.length)->Ci B E w->E6 B gl->(∀h,HOk E w h (Aq ls h))->A2 E w as vals->
  G vals w λe w'=>∃v E',e=.returned v/\Ci B E' w'/\(∀h,h<ls'.length->HOk E' w' h (Aq ls' h))/\Rel E' w' r v
def Fr(ro:Option Nat):Fence:={ Fence.wide with round:=ro }
def YG(P:Program)(vals:List Value)(w:World)(R:Ending->World->Prop):Prop :=
 ∃l args r,vals=.func (.yield l) #[] #[] :: args/\w.heap[l]?=some (.loop r)/\args.length=r.params.size/\
  ∀ro nn,RoundIn (Fr ro) nn P l r.fn ((r.params.zip (⟨args⟩:Array Value)).foldl (λtmps (t,a)=>tmps.setIfInBounds t a) r.tmps) r.assign r.body w R
def YOk(P:Program)(gl:List (Nat×SV))(Y:FSpec):Prop :=
 ∀(as:List SV) (ls:List Hl) (K:SV->List Hl->Prop),Y dn as ls K->∃r ls',K r ls'/\Anb (YG P) gl as ls r ls'
def Ay(P:Program)(gl:List (Nat×SV))(f:FuncId)(sp:FSpec):Prop :=
 Vg P f/\∀(as:List SV) (ls:List Hl) (K:SV->List Hl->Prop),sp dn as ls K->∃r ls',K r ls'/\Fh P gl f as ls r ls'
def Uq(f:Nat):Nat:=if Nat.blt f 1000000 then f else f-1000000
def Em(P:Program)(gl:List (Nat×SV))(tab:List (Nat×FSpec)):Prop:=∀x∈tab,Ay P gl (Uq x.1) x.2
structure Ve(P:Program)(cx:Cx):Prop where
 its:∀x∈cx.its,∀Y,YOk P cx.gl Y->Ay P cx.gl x.1 (x.2 Y)
 yl:∀Y∈cx.yl,YOk P cx.gl Y
theorem Em.look{P:Program}{gl:List (Nat×SV)}:∀ {tab:List (Nat×FSpec)} {f:Nat} {sp:FSpec},Em P gl tab->Sx.look f tab=some sp->Ay P gl (Uq f) sp
 | [],_,_,_,h=>by simp[Sx.look]at h
 |(g,sq) :: tab,f,sp,ht,h=>by
  simp only[Sx.look]at h
  split at h
  ·rename_i e
   have e:g=f:=by simpa using e
   subst e;simp only[Option.some.injEq]at h;subst h;exact ht _ (List.mem_cons_self ..)
  ·exact Em.look (λx hx=>ht x (List.mem_cons_of_mem _ hx)) h
theorem Cw:∀(cs:List SV),Al.plainL cs=true↔∀c∈cs,Al c=true
 | []=>by simp[Al.plainL]
 |c :: cs=>by simp[Al.plainL,Cw cs]
theorem Rel.plain{E E':Env}{w:World}{s:SV}{v:Value}(h:Rel E w s v)(hI:E'.I=E.I)(hp:Al s=true):Rel E' w s v:=by
 induction h with
 |ro h=>exact .ro (by rw[hI];exact h)
 |ptr hb hv=>simp[Al]at hp
 |gsl hr ht=>simp[Al]at hp
 |mrow hb hm hv=>simp[Al]at hp
 |mptr hb hz hv=>simp[Al]at hp
 |osl ht hk=>simp[Al]at hp
 |optr hv ho=>simp[Al]at hp
 |mapv hb hv=>simp[Al]at hp
 |bsl hb hn hv=>simp[Al]at hp
 |yv hb hv=>simp[Al]at hp
 |vsl ht hk=>simp[Al]at hp
 |tsl ht hk=>simp[Al]at hp
 |agg hl _ ih =>
  refine .agg hl λi s v h1 h2=>ih i s v h1 h2 ?_;simp only[Al]at hp;exact (Cw _).1 hp s (List.mem_of_getElem? h1)
 |tup hl _ ih =>
  refine .tup hl λi s v h1 h2=>ih i s v h1 h2 ?_;simp only[Al]at hp;exact (Cw _).1 hp s (List.mem_of_getElem? h1)
 |clo hl _=>simp[Al]at hp
 |bnd hl _=>simp[Al]at hp
theorem Cl(D:Dn):∀(cs:List SV),norm.normL D cs=cs.map (norm D)
 | []=>rfl
 |c :: cs=>by simp[norm.normL,Cl D cs]
theorem Cd:∀(cs:List SV),loose.looseL cs=cs.map loose
 | []=>rfl
 |c :: cs=>by simp[loose.looseL,Cd cs]
theorem RO.norm{I:Nat->Nat->Prop}{w:World}{s:SV}{v:Value}(h:RO I w s v):RO I w (norm dn s) v:=by
 induction h with
 |int h=>exact .int h
 |bool h=>exact .bool h
 |str h=>exact .str h
 |nilp=>exact .nilp
 |raw h=>exact .raw h
 |fn h=>exact .fn h
 |ifc h=>exact .ifc h
 |slnil h hn=>exact .slnil h hn
 |sl g h hn hc hcm hs hl h1 hcell hrel _=>exact .sl g h hn hc hcm hs hl h1 hcell hrel
 |rptr g hs h1 hcell hrel _=>exact .rptr g hs h1 hcell hrel
 |rarr g hs hl h1 hcell hrel _=>exact .rarr g hs hl h1 hcell hrel
 |agg hl h ih =>
  simp only[Sx.norm,Cl];refine .agg (by simp[hl]) λi s v h1 h2=>?_;rw[List.getElem?_map]at h1;cases e:(‹List SV›)[i]? with
  |none=>rw[e]at h1;cases h1
  |some s'=>rw[e]at h1;cases h1;exact ih i s' v e h2
theorem Rel.norm{E:Env}{w:World}{s:SV}{v:Value}(h:Rel E w s v):Rel E w (norm dn s) v:=by
 induction h with
 |ro h=>exact .ro h.norm
 |ptr hb hv=>exact .ptr hb hv
 |gsl hr ht=>exact .gsl hr.norm ht
 |mrow hb hm hv=>exact .mrow hb hm hv
 |mptr hb hz hv=>exact .mptr hb hz hv
 |osl ht hk=>exact .osl ht hk
 |optr hv ho=>exact .optr hv ho
 |mapv hb hv=>exact .mapv hb hv
 |bsl hb hn hv=>exact .bsl hb hn hv
 |yv hb hv=>exact .yv hb hv
 |vsl ht hk=>exact .vsl ht hk
 |tsl ht hk=>exact .tsl ht hk
 |agg hl _ ih =>
  simp only[Sx.norm,Cl];refine .agg (by simp[hl]) λi s v h1 h2=>?_;rw[List.getElem?_map]at h1;cases e:(‹List SV›)[i]? with
  |none=>rw[e]at h1;cases h1
  |some s'=>rw[e]at h1;cases h1;exact ih i s' v e h2
 |tup hl _ ih =>
  simp only[Sx.norm,Cl];refine .tup (by simp[hl]) λi s v h1 h2=>?_;rw[List.getElem?_map]at h1;cases e:(‹List SV›)[i]? with
  |none=>rw[e]at h1;cases h1
  |some s'=>rw[e]at h1;cases h1;exact ih i s' v e h2
 |clo hl _ ih =>
  simp only[Sx.norm,Cl];refine .clo (by simp[hl]) λi s v h1 h2=>?_;rw[List.getElem?_map]at h1;cases e:(‹List SV›)[i]? with
  |none=>rw[e]at h1;cases h1
  |some s'=>rw[e]at h1;cases h1;exact ih i s' v e h2
 |bnd hl _ ih =>
  simp only[Sx.norm,Cl];refine .bnd (by simp[hl]) λi s v h1 h2=>?_;rw[List.getElem?_map]at h1;cases e:(‹List SV›)[i]? with
  |none=>rw[e]at h1;cases h1
  |some s'=>rw[e]at h1;cases h1;exact ih i s' v e h2
theorem RO.loose{I:Nat->Nat->Prop}{w:World}{s:SV}{v:Value}(h:RO I w s v):RO I w (loose s) v:=by
 induction h with
 |int h=>exact .int h
 |bool h=>exact .bool h
 |str h=>exact .str h
 |nilp=>exact .nilp
 |raw h=>exact .raw h
 |fn h=>exact .fn h
 |ifc h=>exact .ifc h
 |slnil h hn=>exact .slnil h hn
 |sl g h hn hc hcm hs hl h1 hcell hrel _=>exact .sl g h hn hc hcm hs hl h1 hcell hrel
 |rptr g hs h1 hcell hrel _=>exact .rptr g hs h1 hcell hrel
 |rarr g hs hl h1 hcell hrel _=>exact .rarr g hs hl h1 hcell hrel
 |agg hl h ih =>
  simp only[Sx.loose,Cd];refine .agg (by simp[hl]) λi s v h1 h2=>?_;rw[List.getElem?_map]at h1;cases e:(‹List SV›)[i]? with
  |none=>rw[e]at h1;cases h1
  |some s'=>rw[e]at h1;cases h1;exact ih i s' v e h2
theorem Rel.loose{E:Env}{w:World}{s:SV}{v:Value}(h:Rel E w s v):Rel E w (loose s) v:=by
 induction h with
 |ro h=>exact .ro h.loose
 |ptr hb hv=>exact .ptr hb hv
 |gsl hr ht=>exact .ro hr
 |mrow hb hm hv=>exact .mrow hb hm hv
 |mptr hb hz hv=>exact .mptr hb hz hv
 |osl ht hk=>exact .osl ht hk
 |optr hv ho=>exact .optr hv ho
 |mapv hb hv=>exact .mapv hb hv
 |bsl hb hn hv=>exact .bsl hb hn hv
 |yv hb hv=>exact .yv hb hv
 |vsl ht hk=>exact .vsl ht hk
 |tsl ht hk=>exact .tsl ht hk
 |agg hl _ ih =>
  simp only[Sx.loose,Cd];refine .agg (by simp[hl]) λi s v h1 h2=>?_;rw[List.getElem?_map]at h1;cases e:(‹List SV›)[i]? with
  |none=>rw[e]at h1;cases h1
  |some s'=>rw[e]at h1;cases h1;exact ih i s' v e h2
 |tup hl _ ih =>
  simp only[Sx.loose,Cd];refine .tup (by simp[hl]) λi s v h1 h2=>?_;rw[List.getElem?_map]at h1;cases e:(‹List SV›)[i]? with
  |none=>rw[e]at h1;cases h1
  |some s'=>rw[e]at h1;cases h1;exact ih i s' v e h2
 |clo hl _ ih =>
  simp only[Sx.loose,Cd];refine .clo (by simp[hl]) λi s v h1 h2=>?_;rw[List.getElem?_map]at h1;cases e:(‹List SV›)[i]? with
  |none=>rw[e]at h1;cases h1
  |some s'=>rw[e]at h1;cases h1;exact ih i s' v e h2
 |bnd hl _ ih =>
  simp only[Sx.loose,Cd];refine .bnd (by simp[hl]) λi s v h1 h2=>?_;rw[List.getElem?_map]at h1;cases e:(‹List SV›)[i]? with
  |none=>rw[e]at h1;cases h1
  |some s'=>rw[e]at h1;cases h1;exact ih i s' v e h2
theorem A2.map{E E':Env}{w:World}{cs:List SV}{vs:List Value}(h:A2 E w cs vs)(g:SV->SV)(hg:∀s v,s∈cs->Rel E w s v->Rel E' w (g s) v):A2 E' w (cs.map g) vs:=by
 refine⟨by simp[h.1],λi s v h1 h2=>?_⟩;rw[List.getElem?_map]at h1;cases e:cs[i]? with
 |none=>rw[e]at h1;cases h1
 |some s'=>rw[e]at h1;cases h1;exact hg s' v (List.mem_of_getElem? e) (h.2 i s' v e h2)
section
variable {P:Program} {cx:Cx} {σ:Sy} {T:List Nat} {o:Oper} {K:Out->Prop}
theorem Zc(hp:List Hl){v:SV}(hv:∀a b,v≠.ptr a b){vs:List SV}{n:Nat}:Kd hp (v :: vs) n=match Al v,Kd hp vs n with
  |true,some (as,hs,ls)=>some (v :: as,hs,ls)
  |_,_=>none:=by
 cases v<;>first|rfl|exact absurd rfl (hv _ _)
theorem Lo(hp:List Hl):∀(vs:List SV) (n:Nat) (as:List SV) (hs:List Nat) (ls:List Hl),Kd hp vs n=some (as,hs,ls)->
  hs.Nodup/\ls.length=hs.length/\(∀(i h:Nat),hs[i]?=some h->∃l,nth hp h=some l/\ls[i]?=some l/\(Wu l||Aai l)=true)/\
  ∀(E E':Env) (w:World) (us:List Value),E'.I=E.I->(∀(i h:Nat),hs[i]?=some h->E'.β (n+i)=E.β h/\E'.τ (n+i)=E.τ h)->A2 E w vs us->A2 E' w as us
 | [],n,as,hs,ls,h=>by
  simp only[Kd,Option.some.injEq,Prod.mk.injEq]at h;obtain⟨rfl,rfl,rfl⟩:=h;exact⟨List.nodup_nil,rfl,by simp,λE E' w us _ _ hr=>⟨hr.1,by simp⟩⟩
 |v :: vs,n,as,hs,ls,h=>by
  have plainCase:∀as' ,Al v=true->Kd hp vs n=some (as',hs,ls)->as=v :: as'->hs.Nodup/\ls.length=hs.length/\(∀(i h:Nat),hs[i]?=some h->∃l,nth hp h=some l/\ls[i]?=some l/\(Wu l||Aai l)=true)/\
    ∀(E E':Env) (w:World) (us:List Value),E'.I=E.I->(∀(i h:Nat),hs[i]?=some h->E'.β (n+i)=E.β h/\E'.τ (n+i)=E.τ h)->A2 E w (v :: vs) us->A2 E' w as us:=by
   intro as' hpl h e;obtain⟨h1,h2,h3,h4⟩:=Lo hp vs n as' hs ls h;refine⟨h1,h2,h3,λE E' w us hI hβ hr=>?_⟩
   match us,hr with
   |u :: us,hr =>
    subst e;exact .cons ((hr.2 0 v u rfl rfl).plain hI hpl) (h4 E E' w us hI hβ ⟨by have:=hr.1;simpa using this,λi s v a b=>hr.2 (i+1) s v a b⟩)
   | [],hr=>exact absurd hr.1 (by simp)
  by_cases hv:∃hd off,v=.ptr hd off
  ·obtain⟨hd,off,rfl⟩:=hv
   simp only[Kd]at h
   split at h
   ·rename_i l0 as' hs' ls' e1 e2
    split at h
    case isFalse=>cases h
    ·rename_i hn
     simp only[Bool.and_eq_true,Bool.not_eq_true']at hn;obtain⟨hpp,hn⟩:=hn;simp only[Option.some.injEq,Prod.mk.injEq]at h;obtain⟨rfl,rfl,rfl⟩:=h;obtain⟨h1,h2,h3,h4⟩:=Lo hp _ (n+1) as' hs' ls' e2;have hnm:hd ∉ hs':=λhm=>by rw[(Dv _ _).2 hm]at hn;cases hn
     refine⟨List.nodup_cons.2 ⟨hnm,h1⟩,by simp[h2],λi k hk=>?_,λE E' w us hI hβ hr=>?_⟩
     ·cases i with
      |zero=>simp at hk;subst hk;exact⟨l0,e1,rfl,by simp[hpp]⟩
      |succ i=>simp at hk;simpa using h3 i k hk
     ·match us,hr with
      |u :: us,hr =>
       obtain⟨b,hb,hu⟩:=(hr.2 0 _ u rfl rfl).ptr_inv;refine .cons (.ptr ?_ hu) (h4 E E' w us hI (λi k hk=>?_) ⟨by have:=hr.1;simpa using this,λi s v a b=>hr.2 (i+1) s v a b⟩)
       ·have:=(hβ 0 hd rfl).1
        simp only[Nat.add_zero]at this;rw[this];exact hb
       ·have:=hβ (i+1) k (by simpa using hk)
        rw[show n+1+i=n+(i+1) by omega];exact this
      | [],hr=>exact absurd hr.1 (by simp)
   ·cases h
  ·rw[Zc hp (λa b e=>hv ⟨a,b,e⟩)]at h
   split at h
   ·rename_i as' hs' ls' e1 e2
    simp only[Option.some.injEq,Prod.mk.injEq]at h;obtain⟨rfl,rfl,rfl⟩:=h;exact plainCase as' e1 e2 rfl
   ·cases h
theorem U6:∀ {l t:List Nat},Zi l t=true->∀x∈l,x ∉ t
 | [],_,_,x,hx=>by simp at hx
 |y :: l,t,h,x,hx=>by
  simp only[Zi,Bool.and_eq_true,Bool.not_eq_true']at h;rcases List.mem_cons.1 hx with rfl|hx
  ·exact λhm=>by rw[(Dv _ _).2 hm]at h;exact absurd h.1 (by simp)
  ·exact U6 h.2 x hx
theorem Zg(hp:List Hl){v:SV}(hv:∀a b,v≠.ptr a b)(hc:∀f cs,v≠.clo f cs)(ho:∀a b c,v≠.osl a b c){vs:List SV}{n:Nat}:Fg hp (v :: vs) n=match Al v,Fg hp vs n with
  |true,some (as,hs,ls)=>some (v :: as,hs,ls)
  |_,_=>none:=by
 cases v<;>first|rfl|exact absurd rfl (hv _ _)|exact absurd rfl (hc _ _)|exact absurd rfl (ho _ _ _)
theorem Ge(hp:List Hl):∀(vs:List SV) (n:Nat) (as:List SV) (hs:List Nat) (ls:List Hl),Fg hp vs n=some (as,hs,ls)->
  hs.Nodup/\ls.length=hs.length/\(∀(i h:Nat),hs[i]?=some h->∃l,nth hp h=some l/\ls[i]?=some l/\(Wu l||Aai l)=true)/\
  ∀(E E':Env) (w:World) (us:List Value),E'.I=E.I->(∀(i h:Nat),hs[i]?=some h->E'.β (n+i)=E.β h/\E'.τ (n+i)=E.τ h)->A2 E w vs us->A2 E' w as us
 | [],n,as,hs,ls,h=>by
  simp only[Fg,Option.some.injEq,Prod.mk.injEq]at h;obtain⟨rfl,rfl,rfl⟩:=h;exact⟨List.nodup_nil,rfl,by simp,λE E' w us _ _ hr=>⟨hr.1,by simp⟩⟩
 |v :: vs,n,as,hs,ls,h=>by
  have plainCase:∀as' ,Al v=true->Fg hp vs n=some (as',hs,ls)->as=v :: as'->hs.Nodup/\ls.length=hs.length/\(∀(i h:Nat),hs[i]?=some h->∃l,nth hp h=some l/\ls[i]?=some l/\(Wu l||Aai l)=true)/\
    ∀(E E':Env) (w:World) (us:List Value),E'.I=E.I->(∀(i h:Nat),hs[i]?=some h->E'.β (n+i)=E.β h/\E'.τ (n+i)=E.τ h)->A2 E w (v :: vs) us->A2 E' w as us:=by
   intro as' hpl h e;obtain⟨h1,h2,h3,h4⟩:=Ge hp vs n as' hs ls h;refine⟨h1,h2,h3,λE E' w us hI hβ hr=>?_⟩
   match us,hr with
   |u :: us,hr =>
    subst e;exact .cons ((hr.2 0 v u rfl rfl).plain hI hpl) (h4 E E' w us hI hβ ⟨by have:=hr.1;simpa using this,λi s v a b=>hr.2 (i+1) s v a b⟩)
   | [],hr=>exact absurd hr.1 (by simp)
  by_cases hv:∃hd off,v=.ptr hd off
  ·obtain⟨hd,off,rfl⟩:=hv
   simp only[Fg]at h
   split at h
   ·rename_i l0 as' hs' ls' e1 e2
    split at h
    case isFalse=>cases h
    ·rename_i hn
     simp only[Bool.and_eq_true,Bool.not_eq_true']at hn;obtain⟨hpp,hn⟩:=hn;simp only[Option.some.injEq,Prod.mk.injEq]at h;obtain⟨rfl,rfl,rfl⟩:=h;obtain⟨h1,h2,h3,h4⟩:=Ge hp _ (n+1) as' hs' ls' e2;have hnm:hd ∉ hs':=λhm=>by rw[(Dv _ _).2 hm]at hn;cases hn
     refine⟨List.nodup_cons.2 ⟨hnm,h1⟩,by simp[h2],λi k hk=>?_,λE E' w us hI hβ hr=>?_⟩
     ·cases i with
      |zero=>simp at hk;subst hk;exact⟨l0,e1,rfl,by simp[hpp]⟩
      |succ i=>simp at hk;simpa using h3 i k hk
     ·match us,hr with
      |u :: us,hr =>
       obtain⟨b,hb,hu⟩:=(hr.2 0 _ u rfl rfl).ptr_inv;refine .cons (.ptr ?_ hu) (h4 E E' w us hI (λi k hk=>?_) ⟨by have:=hr.1;simpa using this,λi s v a b=>hr.2 (i+1) s v a b⟩)
       ·have:=(hβ 0 hd rfl).1
        simp only[Nat.add_zero]at this;rw[this];exact hb
       ·have:=hβ (i+1) k (by simpa using hk)
        rw[show n+1+i=n+(i+1) by omega];exact this
      | [],hr=>exact absurd hr.1 (by simp)
   ·cases h
  ·by_cases hc:∃f cs,v=.clo f cs
   ·obtain⟨f,cs,rfl⟩:=hc
    simp only[Fg]at h
    split at h
    ·rename_i as1 hs1 ls1 e1
     split at h
     ·rename_i as' hs' ls' e2
      split at h
      ·rename_i hap
       simp only[Option.some.injEq,Prod.mk.injEq]at h;obtain⟨rfl,rfl,rfl⟩:=h;rw[Ae]at e2;obtain⟨c1,c2,c3,c4⟩:=Lo hp cs n as1 hs1 ls1 e1;obtain⟨h1,h2,h3,h4⟩:=Ge hp _ (n+hs1.length) as' hs' ls' e2;refine⟨List.nodup_append.2 ⟨c1,h1,λa ha b hb e=>U6 hap a ha (e ▸ hb)⟩,by simp[h2,c2],λi k hk=>?_,λE E' w us hI hβ hr=>?_⟩
       ·by_cases hlt:i<hs1.length
        ·rw[List.getElem?_append_left hlt]at hk
         rw[List.getElem?_append_left (by omega)];exact c3 i k hk
        ·rw[List.getElem?_append_right (by omega)]at hk
         rw[List.getElem?_append_right (by omega),c2];exact h3 _ k hk
       ·match us,hr with
        |u :: us,hr =>
         obtain⟨cv,rfl,hcv⟩:=(hr.2 0 _ u rfl rfl).clo_inv;have hcv':=c4 E E' w cv hI (λi k hk=>hβ i k (by rw[List.getElem?_append_left (List.getElem?_eq_some_iff.1 hk).1];exact hk)) hcv;refine .cons (.clo hcv'.1 hcv'.2) (h4 E E' w us hI (λi k hk=>?_) ⟨by have:=hr.1;simpa using this,λi s v a b=>hr.2 (i+1) s v a b⟩);have:=hβ (hs1.length+i) k (by rw[List.getElem?_append_right (by omega)];simpa using hk);rw[show n+hs1.length+i=n+(hs1.length+i) by omega];exact this
        | [],hr=>exact absurd hr.1 (by simp)
      ·cases h
     ·cases h
    ·cases h
   by_cases ho:∃nl m hd,v=.osl nl m hd
   ·obtain⟨nl,m,hd,rfl⟩:=ho
    simp only[Fg]at h
    split at h
    ·rename_i l0 as' hs' ls' e1 e2
     split at h
     case isFalse=>cases h
     ·rename_i hn
      simp only[Bool.and_eq_true,Bool.not_eq_true']at hn;obtain⟨hpp,hn⟩:=hn;simp only[Option.some.injEq,Prod.mk.injEq]at h;obtain⟨rfl,rfl,rfl⟩:=h;obtain⟨h1,h2,h3,h4⟩:=Ge hp _ (n+1) as' hs' ls' e2;have hnm:hd ∉ hs':=λhm=>by rw[(Dv _ _).2 hm]at hn;cases hn
      refine⟨List.nodup_cons.2 ⟨hnm,h1⟩,by simp[h2],λi k hk=>?_,λE E' w us hI hβ hr=>?_⟩
      ·cases i with
       |zero=>simp at hk;subst hk;exact⟨l0,e1,rfl,by simp[hpp]⟩
       |succ i=>simp at hk;simpa using h3 i k hk
      ·match us,hr with
       |u :: us,hr =>
        obtain⟨ht,a0,m0,c0,t1,t2⟩:=(hr.2 0 _ u rfl rfl).osl_inv;refine .cons (.osl ht ⟨a0,m0,c0,?_,t2⟩) (h4 E E' w us hI (λi k hk=>?_) ⟨by have:=hr.1;simpa using this,λi s v a b=>hr.2 (i+1) s v a b⟩)
        ·have:=(hβ 0 hd rfl).2
         simp only[Nat.add_zero]at this;rw[this];exact t1
        ·have:=hβ (i+1) k (by simpa using hk)
         rw[show n+1+i=n+(i+1) by omega];exact this
       | [],hr=>exact absurd hr.1 (by simp)
    ·cases h
   rw[Zg hp (λa b e=>hv ⟨a,b,e⟩) (λf cs e=>hc ⟨f,cs,e⟩) (λa b c e=>ho ⟨a,b,c,e⟩)]at h
   split at h
   ·rename_i as' hs' ls' e1 e2
    simp only[Option.some.injEq,Prod.mk.injEq]at h;obtain⟨rfl,rfl,rfl⟩:=h;exact plainCase as' e1 e2 rfl
   ·cases h
end
end Go.Sx
