/- Part of the proofs of the statements about responses and messages (layers 9 and 10): a symbolic executor over the code, that it is sound, and contracts of functions; it has no conditions of its own. -/
import Derived.CallsIn
import Derived.Test.YtdoogdbjiijifaaGreatDoorE4Pae
namespace Go.Sx
open Go
def Uj (P : Program) (f : FuncId) : Prop:=∃ fn c,P.funcs[f]? = some fn/\fn.body = some c/\(fn.name == "runtime.NumGoroutine") = false
def Gp (P : Program) (gl : List (Nat×SV)) (f : FuncId) (as : List SV) (ls : List Hl) (r : SV) (ls' : List Hl) : Prop :=
 ∀ (B : Bs) (E : Env) (w : World) (vals : List Value),B.w0 = w->(∀ b o,E.I b o->B.I0 b o)->(∀ h,B.β0 h≠none\/B.τ0 h≠none\/B.ζ0 h≠none->h < ls.length)->B8 B E w->Em B gl->(∀ h,HOk E w h (Ao ls h))->Az E w as vals->
  Calls P f ⟨vals⟩ w fun e w'=>∃ v E',e = .returned v/\B8 B E' w'/\(∀ h,h < ls'.length->HOk E' w' h (Ao ls' h))/\Rel E' w' r v
def Ak1 (G : List Value->World->(Ending->World->Prop)->Prop) (gl : List (Nat×SV)) (as : List SV) (ls : List Hl) (r : SV) (ls' : List Hl) : Prop :=
 ∀ (B : Bs) (E : Env) (w : World) (vals : List Value),B.w0 = w->(∀ b o,E.I b o->B.I0 b o)->(∀ h,B.β0 h≠none\/B.τ0 h≠none\/B.ζ0 h≠none->h < ls.length)->B8 B E w->Em B gl->(∀ h,HOk E w h (Ao ls h))->Az E w as vals->
  G vals w fun e w'=>∃ v E',e = .returned v/\B8 B E' w'/\(∀ h,h < ls'.length->HOk E' w' h (Ao ls' h))/\Rel E' w' r v
def Fr (ro : Option Nat) : Fence:={ Fence.wide with round:=ro }
def YG (P : Program) (vals : List Value) (w : World) (R : Ending->World->Prop) : Prop :=
 ∃ l args r,vals = .func (.yield l) #[] #[] :: args/\w.heap[l]? = some (.loop r)/\args.length = r.params.size/\
  ∀ ro nn,RoundIn (Fr ro) nn P l r.fn ((r.params.zip (⟨args⟩ : Array Value)).foldl (fun tmps (t,a)=>tmps.setIfInBounds t a) r.tmps) r.assign r.body w R
def YOk (P : Program) (gl : List (Nat×SV)) (Y : FSpec) : Prop :=
 ∀ (as : List SV) (ls : List Hl) (K : SV->List Hl->Prop),Y dn as ls K->∃ r ls',K r ls'/\Ak1 (YG P) gl as ls r ls'
def A2 (P : Program) (gl : List (Nat×SV)) (f : FuncId) (sp : FSpec) : Prop :=
 Uj P f/\∀ (as : List SV) (ls : List Hl) (K : SV->List Hl->Prop),sp dn as ls K->∃ r ls',K r ls'/\Gp P gl f as ls r ls'
def Ts (f : Nat) : Nat:=if Nat.blt f 1000000 then f else f - 1000000
def D9 (P : Program) (gl : List (Nat×SV)) (tab : List (Nat×FSpec)) : Prop:=∀ x∈tab,A2 P gl (Ts x.1) x.2
structure Uh (P : Program) (cx : Cx) : Prop where
 its : ∀ x∈cx.its,∀ Y,YOk P cx.gl Y->A2 P cx.gl x.1 (x.2 Y)
 yl : ∀ Y∈cx.yl,YOk P cx.gl Y
theorem D9.look {P : Program} {gl : List (Nat×SV)} : ∀ {tab : List (Nat×FSpec)} {f : Nat} {sp : FSpec},D9 P gl tab->Sx.look f tab = some sp->A2 P gl (Ts f) sp
 | [],_,_,_,h=>by simp [Sx.look] at h
 | (g,sq) :: tab,f,sp,ht,h=>by
  simp only [Sx.look] at h
  split at h
  ·rename_i e
   have e : g = f:=by simpa using e
   subst e
   simp only [Option.some.injEq] at h
   subst h
   exact ht _ (List.mem_cons_self ..)
  ·exact D9.look (fun x hx=>ht x (List.mem_cons_of_mem _ hx)) h
theorem Cn : ∀ (cs : List SV),Ak.plainL cs = true↔∀ c∈cs,Ak c = true
 | []=>by simp [Ak.plainL]
 | c :: cs=>by simp [Ak.plainL,Cn cs]
theorem Rel.plain {E E' : Env} {w : World} {s : SV} {v : Value} (h : Rel E w s v) (hI : E'.I = E.I) (hp : Ak s = true) : Rel E' w s v:=by
 induction h with
 | ro h=>exact .ro (by rw [hI]; exact h)
 | ptr hb hv=>simp [Ak] at hp
 | gsl hr ht=>simp [Ak] at hp
 | mrow hb hm hv=>simp [Ak] at hp
 | mptr hb hz hv=>simp [Ak] at hp
 | osl ht hk=>simp [Ak] at hp
 | optr hv ho=>simp [Ak] at hp
 | mapv hb hv=>simp [Ak] at hp
 | bsl hb hn hv=>simp [Ak] at hp
 | yv hb hv=>simp [Ak] at hp
 | vsl ht hk=>simp [Ak] at hp
 | tsl ht hk=>simp [Ak] at hp
 | agg hl _ ih =>
  refine .agg hl fun i s v h1 h2=>ih i s v h1 h2 ?_
  simp only [Ak] at hp
  exact (Cn _).1 hp s (List.mem_of_getElem? h1)
 | tup hl _ ih =>
  refine .tup hl fun i s v h1 h2=>ih i s v h1 h2 ?_
  simp only [Ak] at hp
  exact (Cn _).1 hp s (List.mem_of_getElem? h1)
 | clo hl _=>simp [Ak] at hp
 | bnd hl _=>simp [Ak] at hp
theorem Ca (D : Dn) : ∀ (cs : List SV),norm.normL D cs = cs.map (norm D)
 | []=>rfl
 | c :: cs=>by simp [norm.normL,Ca D cs]
theorem B5 : ∀ (cs : List SV),loose.looseL cs = cs.map loose
 | []=>rfl
 | c :: cs=>by simp [loose.looseL,B5 cs]
theorem RO.norm {I : Nat->Nat->Prop} {w : World} {s : SV} {v : Value} (h : RO I w s v) : RO I w (norm dn s) v:=by
 induction h with
 | int h=>exact .int h
 | bool h=>exact .bool h
 | str h=>exact .str h
 | nilp=>exact .nilp
 | raw h=>exact .raw h
 | fn h=>exact .fn h
 | ifc h=>exact .ifc h
 | slnil h hn=>exact .slnil h hn
 | sl g h hn hc hcm hs hl h1 hcell hrel _=>exact .sl g h hn hc hcm hs hl h1 hcell hrel
 | rptr g hs h1 hcell hrel _=>exact .rptr g hs h1 hcell hrel
 | rarr g hs hl h1 hcell hrel _=>exact .rarr g hs hl h1 hcell hrel
 | agg hl h ih =>
  simp only [Sx.norm,Ca]
  refine .agg (by simp [hl]) fun i s v h1 h2=>?_
  rw [List.getElem?_map] at h1
  cases e : (‹List SV›)[i]? with
  | none=>rw [e] at h1; cases h1
  | some s'=>rw [e] at h1; cases h1; exact ih i s' v e h2
theorem Rel.norm {E : Env} {w : World} {s : SV} {v : Value} (h : Rel E w s v) : Rel E w (norm dn s) v:=by
 induction h with
 | ro h=>exact .ro h.norm
 | ptr hb hv=>exact .ptr hb hv
 | gsl hr ht=>exact .gsl hr.norm ht
 | mrow hb hm hv=>exact .mrow hb hm hv
 | mptr hb hz hv=>exact .mptr hb hz hv
 | osl ht hk=>exact .osl ht hk
 | optr hv ho=>exact .optr hv ho
 | mapv hb hv=>exact .mapv hb hv
 | bsl hb hn hv=>exact .bsl hb hn hv
 | yv hb hv=>exact .yv hb hv
 | vsl ht hk=>exact .vsl ht hk
 | tsl ht hk=>exact .tsl ht hk
 | agg hl _ ih =>
  simp only [Sx.norm,Ca]
  refine .agg (by simp [hl]) fun i s v h1 h2=>?_
  rw [List.getElem?_map] at h1
  cases e : (‹List SV›)[i]? with
  | none=>rw [e] at h1; cases h1
  | some s'=>rw [e] at h1; cases h1; exact ih i s' v e h2
 | tup hl _ ih =>
  simp only [Sx.norm,Ca]
  refine .tup (by simp [hl]) fun i s v h1 h2=>?_
  rw [List.getElem?_map] at h1
  cases e : (‹List SV›)[i]? with
  | none=>rw [e] at h1; cases h1
  | some s'=>rw [e] at h1; cases h1; exact ih i s' v e h2
 | clo hl _ ih =>
  simp only [Sx.norm,Ca]
  refine .clo (by simp [hl]) fun i s v h1 h2=>?_
  rw [List.getElem?_map] at h1
  cases e : (‹List SV›)[i]? with
  | none=>rw [e] at h1; cases h1
  | some s'=>rw [e] at h1; cases h1; exact ih i s' v e h2
 | bnd hl _ ih =>
  simp only [Sx.norm,Ca]
  refine .bnd (by simp [hl]) fun i s v h1 h2=>?_
  rw [List.getElem?_map] at h1
  cases e : (‹List SV›)[i]? with
  | none=>rw [e] at h1; cases h1
  | some s'=>rw [e] at h1; cases h1; exact ih i s' v e h2
theorem RO.loose {I : Nat->Nat->Prop} {w : World} {s : SV} {v : Value} (h : RO I w s v) : RO I w (loose s) v:=by
 induction h with
 | int h=>exact .int h
 | bool h=>exact .bool h
 | str h=>exact .str h
 | nilp=>exact .nilp
 | raw h=>exact .raw h
 | fn h=>exact .fn h
 | ifc h=>exact .ifc h
 | slnil h hn=>exact .slnil h hn
 | sl g h hn hc hcm hs hl h1 hcell hrel _=>exact .sl g h hn hc hcm hs hl h1 hcell hrel
 | rptr g hs h1 hcell hrel _=>exact .rptr g hs h1 hcell hrel
 | rarr g hs hl h1 hcell hrel _=>exact .rarr g hs hl h1 hcell hrel
 | agg hl h ih =>
  simp only [Sx.loose,B5]
  refine .agg (by simp [hl]) fun i s v h1 h2=>?_
  rw [List.getElem?_map] at h1
  cases e : (‹List SV›)[i]? with
  | none=>rw [e] at h1; cases h1
  | some s'=>rw [e] at h1; cases h1; exact ih i s' v e h2
theorem Rel.loose {E : Env} {w : World} {s : SV} {v : Value} (h : Rel E w s v) : Rel E w (loose s) v:=by
 induction h with
 | ro h=>exact .ro h.loose
 | ptr hb hv=>exact .ptr hb hv
 | gsl hr ht=>exact .ro hr
 | mrow hb hm hv=>exact .mrow hb hm hv
 | mptr hb hz hv=>exact .mptr hb hz hv
 | osl ht hk=>exact .osl ht hk
 | optr hv ho=>exact .optr hv ho
 | mapv hb hv=>exact .mapv hb hv
 | bsl hb hn hv=>exact .bsl hb hn hv
 | yv hb hv=>exact .yv hb hv
 | vsl ht hk=>exact .vsl ht hk
 | tsl ht hk=>exact .tsl ht hk
 | agg hl _ ih =>
  simp only [Sx.loose,B5]
  refine .agg (by simp [hl]) fun i s v h1 h2=>?_
  rw [List.getElem?_map] at h1
  cases e : (‹List SV›)[i]? with
  | none=>rw [e] at h1; cases h1
  | some s'=>rw [e] at h1; cases h1; exact ih i s' v e h2
 | tup hl _ ih =>
  simp only [Sx.loose,B5]
  refine .tup (by simp [hl]) fun i s v h1 h2=>?_
  rw [List.getElem?_map] at h1
  cases e : (‹List SV›)[i]? with
  | none=>rw [e] at h1; cases h1
  | some s'=>rw [e] at h1; cases h1; exact ih i s' v e h2
 | clo hl _ ih =>
  simp only [Sx.loose,B5]
  refine .clo (by simp [hl]) fun i s v h1 h2=>?_
  rw [List.getElem?_map] at h1
  cases e : (‹List SV›)[i]? with
  | none=>rw [e] at h1; cases h1
  | some s'=>rw [e] at h1; cases h1; exact ih i s' v e h2
 | bnd hl _ ih =>
  simp only [Sx.loose,B5]
  refine .bnd (by simp [hl]) fun i s v h1 h2=>?_
  rw [List.getElem?_map] at h1
  cases e : (‹List SV›)[i]? with
  | none=>rw [e] at h1; cases h1
  | some s'=>rw [e] at h1; cases h1; exact ih i s' v e h2
theorem Az.map {E E' : Env} {w : World} {cs : List SV} {vs : List Value} (h : Az E w cs vs) (g : SV->SV) (hg : ∀ s v,s∈cs->Rel E w s v->Rel E' w (g s) v) : Az E' w (cs.map g) vs:=by
 refine ⟨by simp [h.1],fun i s v h1 h2=>?_⟩
 rw [List.getElem?_map] at h1
 cases e : cs[i]? with
 | none=>rw [e] at h1; cases h1
 | some s'=>rw [e] at h1; cases h1; exact hg s' v (List.mem_of_getElem? e) (h.2 i s' v e h2)
section
variable {P : Program} {cx : Cx} {σ : Sy} {T : List Nat} {o : Oper} {K : Out->Prop}
theorem X4 (hp : List Hl) {v : SV} (hv : ∀ a b,v≠.ptr a b) {vs : List SV} {n : Nat} : Jl hp (v :: vs) n = match Ak v,Jl hp vs n with
  | true,some (as,hs,ls)=>some (v :: as,hs,ls)
  | _,_=>none:=by
 cases v<;>first | rfl | exact absurd rfl (hv _ _)
theorem Kx (hp : List Hl) : ∀ (vs : List SV) (n : Nat) (as : List SV) (hs : List Nat) (ls : List Hl),Jl hp vs n = some (as,hs,ls)->
  hs.Nodup/\ls.length = hs.length/\(∀ (i h : Nat),hs[i]? = some h->∃ l,nth hp h = some l/\ls[i]? = some l/\(Vp l || Ze l) = true)/\
  ∀ (E E' : Env) (w : World) (us : List Value),E'.I = E.I->(∀ (i h : Nat),hs[i]? = some h->E'.β (n + i) = E.β h/\E'.τ (n + i) = E.τ h)->Az E w vs us->Az E' w as us
 | [],n,as,hs,ls,h=>by
  simp only [Jl,Option.some.injEq,Prod.mk.injEq] at h
  obtain ⟨rfl,rfl,rfl⟩:=h
  exact ⟨List.nodup_nil,rfl,by simp,fun E E' w us _ _ hr=>⟨hr.1,by simp⟩⟩
 | v :: vs,n,as,hs,ls,h=>by
  have plainCase : ∀ as' ,Ak v = true->Jl hp vs n = some (as',hs,ls)->as = v :: as'->hs.Nodup/\ls.length = hs.length/\(∀ (i h : Nat),hs[i]? = some h->∃ l,nth hp h = some l/\ls[i]? = some l/\(Vp l || Ze l) = true)/\
    ∀ (E E' : Env) (w : World) (us : List Value),E'.I = E.I->(∀ (i h : Nat),hs[i]? = some h->E'.β (n + i) = E.β h/\E'.τ (n + i) = E.τ h)->Az E w (v :: vs) us->Az E' w as us:=by
   intro as' hpl h e
   obtain ⟨h1,h2,h3,h4⟩:=Kx hp vs n as' hs ls h
   refine ⟨h1,h2,h3,fun E E' w us hI hβ hr=>?_⟩
   match us,hr with
   | u :: us,hr =>
    subst e
    exact .cons ((hr.2 0 v u rfl rfl).plain hI hpl) (h4 E E' w us hI hβ ⟨by have:=hr.1; simpa using this,fun i s v a b=>hr.2 (i + 1) s v a b⟩)
   | [],hr=>exact absurd hr.1 (by simp)
  by_cases hv : ∃ hd off,v = .ptr hd off
  ·obtain ⟨hd,off,rfl⟩:=hv
   simp only [Jl] at h
   split at h
   ·rename_i l0 as' hs' ls' e1 e2
    split at h
    case isFalse=>cases h
    ·rename_i hn
     simp only [Bool.and_eq_true,Bool.not_eq_true'] at hn
     obtain ⟨hpp,hn⟩:=hn
     simp only [Option.some.injEq,Prod.mk.injEq] at h
     obtain ⟨rfl,rfl,rfl⟩:=h
     obtain ⟨h1,h2,h3,h4⟩:=Kx hp _ (n + 1) as' hs' ls' e2
     have hnm : hd ∉ hs':=fun hm=>by rw [(Dj _ _).2 hm] at hn; cases hn
     refine ⟨List.nodup_cons.2 ⟨hnm,h1⟩,by simp [h2],fun i k hk=>?_,fun E E' w us hI hβ hr=>?_⟩
     ·cases i with
      | zero=>simp at hk; subst hk; exact ⟨l0,e1,rfl,by simp [hpp]⟩
      | succ i=>simp at hk; simpa using h3 i k hk
     ·match us,hr with
      | u :: us,hr =>
       obtain ⟨b,hb,hu⟩:=(hr.2 0 _ u rfl rfl).ptr_inv
       refine .cons (.ptr ?_ hu) (h4 E E' w us hI (fun i k hk=>?_) ⟨by have:=hr.1; simpa using this,fun i s v a b=>hr.2 (i + 1) s v a b⟩)
       ·have:=(hβ 0 hd rfl).1
        simp only [Nat.add_zero] at this
        rw [this]; exact hb
       ·have:=hβ (i + 1) k (by simpa using hk)
        rw [show n + 1 + i = n + (i + 1) by omega]; exact this
      | [],hr=>exact absurd hr.1 (by simp)
   ·cases h
  ·rw [X4 hp (fun a b e=>hv ⟨a,b,e⟩)] at h
   split at h
   ·rename_i as' hs' ls' e1 e2
    simp only [Option.some.injEq,Prod.mk.injEq] at h
    obtain ⟨rfl,rfl,rfl⟩:=h
    exact plainCase as' e1 e2 rfl
   ·cases h
theorem Ua : ∀ {l t : List Nat},X9 l t = true->∀ x∈l,x ∉ t
 | [],_,_,x,hx=>by simp at hx
 | y :: l,t,h,x,hx=>by
  simp only [X9,Bool.and_eq_true,Bool.not_eq_true'] at h
  rcases List.mem_cons.1 hx with rfl | hx
  ·exact fun hm=>by rw [(Dj _ _).2 hm] at h; exact absurd h.1 (by simp)
  ·exact Ua h.2 x hx
theorem X7 (hp : List Hl) {v : SV} (hv : ∀ a b,v≠.ptr a b) (hc : ∀ f cs,v≠.clo f cs) (ho : ∀ a b c,v≠.osl a b c) {vs : List SV} {n : Nat} : Ey hp (v :: vs) n = match Ak v,Ey hp vs n with
  | true,some (as,hs,ls)=>some (v :: as,hs,ls)
  | _,_=>none:=by
 cases v<;>first | rfl | exact absurd rfl (hv _ _) | exact absurd rfl (hc _ _) | exact absurd rfl (ho _ _ _)
theorem F3 (hp : List Hl) : ∀ (vs : List SV) (n : Nat) (as : List SV) (hs : List Nat) (ls : List Hl),Ey hp vs n = some (as,hs,ls)->
  hs.Nodup/\ls.length = hs.length/\(∀ (i h : Nat),hs[i]? = some h->∃ l,nth hp h = some l/\ls[i]? = some l/\(Vp l || Ze l) = true)/\
  ∀ (E E' : Env) (w : World) (us : List Value),E'.I = E.I->(∀ (i h : Nat),hs[i]? = some h->E'.β (n + i) = E.β h/\E'.τ (n + i) = E.τ h)->Az E w vs us->Az E' w as us
 | [],n,as,hs,ls,h=>by
  simp only [Ey,Option.some.injEq,Prod.mk.injEq] at h
  obtain ⟨rfl,rfl,rfl⟩:=h
  exact ⟨List.nodup_nil,rfl,by simp,fun E E' w us _ _ hr=>⟨hr.1,by simp⟩⟩
 | v :: vs,n,as,hs,ls,h=>by
  have plainCase : ∀ as' ,Ak v = true->Ey hp vs n = some (as',hs,ls)->as = v :: as'->hs.Nodup/\ls.length = hs.length/\(∀ (i h : Nat),hs[i]? = some h->∃ l,nth hp h = some l/\ls[i]? = some l/\(Vp l || Ze l) = true)/\
    ∀ (E E' : Env) (w : World) (us : List Value),E'.I = E.I->(∀ (i h : Nat),hs[i]? = some h->E'.β (n + i) = E.β h/\E'.τ (n + i) = E.τ h)->Az E w (v :: vs) us->Az E' w as us:=by
   intro as' hpl h e
   obtain ⟨h1,h2,h3,h4⟩:=F3 hp vs n as' hs ls h
   refine ⟨h1,h2,h3,fun E E' w us hI hβ hr=>?_⟩
   match us,hr with
   | u :: us,hr =>
    subst e
    exact .cons ((hr.2 0 v u rfl rfl).plain hI hpl) (h4 E E' w us hI hβ ⟨by have:=hr.1; simpa using this,fun i s v a b=>hr.2 (i + 1) s v a b⟩)
   | [],hr=>exact absurd hr.1 (by simp)
  by_cases hv : ∃ hd off,v = .ptr hd off
  ·obtain ⟨hd,off,rfl⟩:=hv
   simp only [Ey] at h
   split at h
   ·rename_i l0 as' hs' ls' e1 e2
    split at h
    case isFalse=>cases h
    ·rename_i hn
     simp only [Bool.and_eq_true,Bool.not_eq_true'] at hn
     obtain ⟨hpp,hn⟩:=hn
     simp only [Option.some.injEq,Prod.mk.injEq] at h
     obtain ⟨rfl,rfl,rfl⟩:=h
     obtain ⟨h1,h2,h3,h4⟩:=F3 hp _ (n + 1) as' hs' ls' e2
     have hnm : hd ∉ hs':=fun hm=>by rw [(Dj _ _).2 hm] at hn; cases hn
     refine ⟨List.nodup_cons.2 ⟨hnm,h1⟩,by simp [h2],fun i k hk=>?_,fun E E' w us hI hβ hr=>?_⟩
     ·cases i with
      | zero=>simp at hk; subst hk; exact ⟨l0,e1,rfl,by simp [hpp]⟩
      | succ i=>simp at hk; simpa using h3 i k hk
     ·match us,hr with
      | u :: us,hr =>
       obtain ⟨b,hb,hu⟩:=(hr.2 0 _ u rfl rfl).ptr_inv
       refine .cons (.ptr ?_ hu) (h4 E E' w us hI (fun i k hk=>?_) ⟨by have:=hr.1; simpa using this,fun i s v a b=>hr.2 (i + 1) s v a b⟩)
       ·have:=(hβ 0 hd rfl).1
        simp only [Nat.add_zero] at this
        rw [this]; exact hb
       ·have:=hβ (i + 1) k (by simpa using hk)
        rw [show n + 1 + i = n + (i + 1) by omega]; exact this
      | [],hr=>exact absurd hr.1 (by simp)
   ·cases h
  ·by_cases hc : ∃ f cs,v = .clo f cs
   ·obtain ⟨f,cs,rfl⟩:=hc
    simp only [Ey] at h
    split at h
    ·rename_i as1 hs1 ls1 e1
     split at h
     ·rename_i as' hs' ls' e2
      split at h
      ·rename_i hap
       simp only [Option.some.injEq,Prod.mk.injEq] at h
       obtain ⟨rfl,rfl,rfl⟩:=h
       rw [Ad] at e2
       obtain ⟨c1,c2,c3,c4⟩:=Kx hp cs n as1 hs1 ls1 e1
       obtain ⟨h1,h2,h3,h4⟩:=F3 hp _ (n + hs1.length) as' hs' ls' e2
       refine ⟨List.nodup_append.2 ⟨c1,h1,fun a ha b hb e=>Ua hap a ha (e ▸ hb)⟩,by simp [h2,c2],fun i k hk=>?_,fun E E' w us hI hβ hr=>?_⟩
       ·by_cases hlt : i < hs1.length
        ·rw [List.getElem?_append_left hlt] at hk
         rw [List.getElem?_append_left (by omega)]
         exact c3 i k hk
        ·rw [List.getElem?_append_right (by omega)] at hk
         rw [List.getElem?_append_right (by omega),c2]
         exact h3 _ k hk
       ·match us,hr with
        | u :: us,hr =>
         obtain ⟨cv,rfl,hcv⟩:=(hr.2 0 _ u rfl rfl).clo_inv
         have hcv':=c4 E E' w cv hI (fun i k hk=>hβ i k (by rw [List.getElem?_append_left (List.getElem?_eq_some_iff.1 hk).1]; exact hk)) hcv
         refine .cons (.clo hcv'.1 hcv'.2) (h4 E E' w us hI (fun i k hk=>?_) ⟨by have:=hr.1; simpa using this,fun i s v a b=>hr.2 (i + 1) s v a b⟩)
         have:=hβ (hs1.length + i) k (by rw [List.getElem?_append_right (by omega)]; simpa using hk)
         rw [show n + hs1.length + i = n + (hs1.length + i) by omega]; exact this
        | [],hr=>exact absurd hr.1 (by simp)
      ·cases h
     ·cases h
    ·cases h
   by_cases ho : ∃ nl m hd,v = .osl nl m hd
   ·obtain ⟨nl,m,hd,rfl⟩:=ho
    simp only [Ey] at h
    split at h
    ·rename_i l0 as' hs' ls' e1 e2
     split at h
     case isFalse=>cases h
     ·rename_i hn
      simp only [Bool.and_eq_true,Bool.not_eq_true'] at hn
      obtain ⟨hpp,hn⟩:=hn
      simp only [Option.some.injEq,Prod.mk.injEq] at h
      obtain ⟨rfl,rfl,rfl⟩:=h
      obtain ⟨h1,h2,h3,h4⟩:=F3 hp _ (n + 1) as' hs' ls' e2
      have hnm : hd ∉ hs':=fun hm=>by rw [(Dj _ _).2 hm] at hn; cases hn
      refine ⟨List.nodup_cons.2 ⟨hnm,h1⟩,by simp [h2],fun i k hk=>?_,fun E E' w us hI hβ hr=>?_⟩
      ·cases i with
       | zero=>simp at hk; subst hk; exact ⟨l0,e1,rfl,by simp [hpp]⟩
       | succ i=>simp at hk; simpa using h3 i k hk
      ·match us,hr with
       | u :: us,hr =>
        obtain ⟨ht,a0,m0,c0,t1,t2⟩:=(hr.2 0 _ u rfl rfl).osl_inv
        refine .cons (.osl ht ⟨a0,m0,c0,?_,t2⟩) (h4 E E' w us hI (fun i k hk=>?_) ⟨by have:=hr.1; simpa using this,fun i s v a b=>hr.2 (i + 1) s v a b⟩)
        ·have:=(hβ 0 hd rfl).2
         simp only [Nat.add_zero] at this
         rw [this]; exact t1
        ·have:=hβ (i + 1) k (by simpa using hk)
         rw [show n + 1 + i = n + (i + 1) by omega]; exact this
       | [],hr=>exact absurd hr.1 (by simp)
    ·cases h
   rw [X7 hp (fun a b e=>hv ⟨a,b,e⟩) (fun f cs e=>hc ⟨f,cs,e⟩) (fun a b c e=>ho ⟨a,b,c,e⟩)] at h
   split at h
   ·rename_i as' hs' ls' e1 e2
    simp only [Option.some.injEq,Prod.mk.injEq] at h
    obtain ⟨rfl,rfl,rfl⟩:=h
    exact plainCase as' e1 e2 rfl
   ·cases h
end
end Go.Sx
