/- Lemmas of the proof; no conditions. -/
import Derived.Test.YtdoogdbjiijifaaGreatDoorE9Pan
namespace Go.Sx
open Go
theorem aM.refl(s:SV):aM s s:=λ_ _ _ h=>h
theorem cL.refl(ls:List Hl):cL ls ls:=λ_ _ _ h=>h
section
variable {P:Program} {cx:Cx}
def Ue(tmps:Array Value):ResultVar->Sem Value
 |.tmp t=>pure (tmps.getD t undef)
 |.cell ad t=>do loadVar t (<-asAddr (tmps.getD ad undef))
theorem Uc(fn:Func)(tmps:Array Value):results fn tmps=(do let vs<-fn.results.mapM (Ue tmps);pure (if h:vs.size=1 then vs[0] else .tuple vs)):=by
 unfold results;congr 1
theorem Io(hc:A4 P cx){B:Bs}{N:Nat}(hg:Fm B cx.gl){E:Env}{a:Act}{w:World}{σ:Sy}(hs:bS B N E a w σ):∀(rs:List ResultVar) (vs:List SV),Jn cx σ rs=some vs->
  ∃us,(rs.mapM (Ue a.tmps)).run P w=.ok us w/\A8 E w vs us
 | [],vs,h=>by simp[Jn]at h;subst h;exact⟨[],rfl,.nil⟩
 |.tmp t :: rs,vs,h=>by
  simp only[Jn]at h
  split at h
  .rename_i v CF hv kR
   cases h;obtain⟨us,h1,h2⟩:=Io hc hg hs rs CF kR;have hr:=Ab hv hg hs.st (λ_ _=>rfl) trivial;exact⟨a.tmps.getD t undef :: us,by simp only[List.mapM_cons,Ue,Sem.run_bind,Sem.run_pure,Result.andThen_ok,h1],.cons hr h2⟩
  .cases h
 |.cell ad t :: rs,vs,h=>by
  simp only[Jn]at h
  split at h
  .rename_i hd off n CF hv hn kR
   split at h
   .rename_i ty cs hh
    split at h
    .rename_i hb
     split at h
     .rename_i v hp
      cases h;rw[Ag]at hb;have hle:=XK hb;rw[Ba,Bl]at hp;obtain⟨us,h1,h2⟩:=Io hc hg hs rs CF kR;obtain⟨b,fY,hx⟩:=(Ab hv hg hs.st (λ_ _=>rfl) trivial).dL;have hk:=hs.st.heap hd;rw[Bv hh]at hk;obtain⟨b',C,k1,_,k3,k4,_,_⟩:=hk.eF;obtain rfl:b=b':=Option.some.inj (fY.symm.trans k1);obtain⟨ti,kZ,bC⟩:=bI hn;have cU:=Aa8 (off:=off) (n:=n) k4 rfl (λ_ _ _=>rfl);obtain⟨p1,p2⟩:=Gx hp cU;have hlen:((C.toList.drop off).take n).length=n:=by rw[<-cU.1];simp;omega
      have aW:=Ge (hc.ti kZ) (w:=w) (b:=b) (off:=off) (vs:=(C.toList.drop off).take n) (λj v hj=>by
       rw[QN]at hj
       split at hj
       .rw[XG]at hj
        rw[cell_of_row w b (off+j) C ty (0,0) k3];simpa using hj
       .cases hj) (by rw[hlen,bC]) (dG kZ) p1
      have hx:a.tmps.getD ad undef=.pointer (some ⟨b,off,none⟩):=hx;have hl:(loadVar t ⟨b,off,none⟩).run P w=.ok (if cK cx t then .agg ⟨(C.toList.drop off).take n⟩ else ((C.toList.drop off).take n).headD undef) w:=by
       simpa only[Instr.loadAt,Instr.sureAddr,Sem.run_bind,Sem.run_pure,Result.andThen_ok] using aW
      refine⟨_ :: us,?_,.cons p2 h2⟩;have aJ:(Ue a.tmps (.cell ad t)).run P w=.ok (if cK cx t then .agg ⟨(C.toList.drop off).take n⟩ else ((C.toList.drop off).take n).headD undef) w:=by
       simp only[Ue,hx,asAddr,Sem.run_bind,Sem.run_pure,Result.andThen_ok,hl]
      simp only[List.mapM_cons,Sem.run_bind,aJ,Result.andThen_ok,h1,Sem.run_pure]
     .cases h
    .cases h
   .cases h
  .cases h
theorem bR.cQ{E:Env}{w:World}{hp:List Hl}{h:Nat}(hk:bR E w h (Aq hp h)):bR E w h (Aq (cQ dn hp) h):=by
 simp only[Aq,Aj,Ht]at hk ⊢;cases hl:hp[h]? with
 |none=>rw[hl]at hk;exact hk
 |some l =>
  rw[hl]at hk;cases l with
  |aF ty cs =>
   simp only[QQ,XD]at hk ⊢;obtain⟨b,C,k1,k2,k3,k4,k5,k6⟩:=hk.eF;have hn:A8 E w (loose.aH (norm.aO dn cs)) C.toList:=by
    rw[Ci,Co];exact (k4.map _ λs v _ h=>h.norm).map _ λs v _ h=>h.loose
   exact⟨b,C,k1,k2,k3,by have:=hn.1;simpa using this.symm,λi s v p q=>hn.2 i s v p (by simpa using q),λv hv=>k5 v (by simpa using hv),k6⟩
  |_=>exact hk
theorem Ko(ntmps:Nat)(args:List SV)(s:Nat)(g:G)(h:Ax (Ep ntmps args) s=some g):∃v,args[s]?=some v/\g=⟨[],none,none,v⟩:=by
 rw[Eh]at h;unfold Ep at h
 by_cases aC:s<args.length
 .rw[QM (by simpa using aC)]at h
  simp[aC]at h;exact⟨args[s],by simp[aC],h.symm⟩
 .rw[QP (by simp;omega)]at h
  rw[List.getElem?_replicate]at h
  split at h<;>simp at h
theorem P9{E E':Env}{w:World}{h k:Nat}(hI:E'.I=E.I)(oP:E'.τ k=E.τ h):∀ {vs:List SV} {us:List Value},Uh h vs=true->A8 E w vs us->A8 E' w (Ri h k vs) us
 | [],us,_,hr=>⟨hr.1,by simp[Ri]⟩
 |v :: vs,[],_,hr=>absurd hr.1 (by simp)
 |v :: vs,u :: us,ho,hr=>by
  have yS:A8 E w vs us:=⟨by have:=hr.1;simpa using this,λi s v a b=>hr.2 (i+1) s v a b⟩;have zb:=hr.2 0 v u rfl rfl
  by_cases hv:∃nl n h',v=.bV nl n h'
  .obtain⟨nl,n,h',rfl⟩:=hv
   simp only[Uh,QE,QO]at ho;obtain⟨rfl,ho⟩:=ho;obtain⟨ht,a,m,c,t1,t2⟩:=zb.iY;exact .cons (.bV ht ⟨a,m,c,by rw[oP];exact t1,t2⟩) (P9 hI oP ho yS)
  .have h1:Uh h (v :: vs)=(An v&&Uh h vs):=by
    cases v<;>first|rfl|exact absurd ⟨_,_,_,rfl⟩ hv
   have h2:Ri h k (v :: vs)=v :: Ri h k vs:=by
    cases v<;>first|rfl|exact absurd ⟨_,_,_,rfl⟩ hv
   rw[h1,QE]at ho;rw[h2];exact .cons (zb.plain hI ho.1) (P9 hI oP ho.2 yS)
theorem Qu(hc:A4 P cx){B:Bs}{N:Nat}(hg:Fm B cx.gl){E':Env}{a':Act}{w':World}{aL:Sy}(cD:bS B N E' a' w' aL){fn:Func}{m:Nat}(dT:∀h,B.cO h≠none\/B.oN h≠none\/B.oO h≠none->h<m){r:SV}{aK:List Hl}(hk:match Jn cx aL fn.results.toList with
    |some vs=>DY cx m vs aL λr' dS=>Fin r' r dS aK
    |none=>False):∃v,(results fn a'.tmps).run P w'=.ok v w'/\∃vJ E',Ending.returned v=.returned vJ/\Cr B E' w'/\(∀h,h<aK.length->bR E' w' h (Aq aK h))/\Rel E' w' r vJ:=by
 split at hk
 .rename_i vs kR
  obtain⟨us,u1,u2⟩:=Io hc hg cD fn.results.toList vs kR;have aA:=cD.st.base;have pC:(results fn a'.tmps).run P w'=.ok (if h:(⟨us⟩:Array Value).size=1 then (⟨us⟩:Array Value)[0] else .tuple ⟨us⟩) w':=by
   rw[Uc,Array.mapM_eq_mapM_toList];simp only[Sem.run_bind,Sem.run_map,u1,Result.andThen_ok,Sem.run_pure]
  unfold DY at hk;rw[hc.D]at hk
  split at hk
  .obtain⟨k1,k2,k3⟩:=hk
   refine⟨_,pC,_,E',rfl,aA,λh aC=>?_,?_⟩
   .refine k2 h E' w' ?_
    refine bR.cQ ?_;have:=cD.st.heap h;have eS:h<m:=by
     rw[Ju,Ba,QW]at k3;omega
    simp only[Aq,Aj,Ba]at this ⊢;rw[QN,QC eS];exact this
   .exact k1 E' w' _ (P8 u2).norm.loose
  .rename_i h _
   split at hk
   .rename_i ty n sz gr f dE hh
    simp only[QE]at dE;obtain⟨⟨c1,c2⟩,c3⟩:=dE;have c1:=XK c1;obtain⟨k1,k2,k3⟩:=hk;have hm:m<=aL.hp.length:=by
     rw[Aj]at hh;have:=(List.getElem?_eq_some_iff.1 hh).1;omega
    let O2:Nat->Option Nat:=λb=>(E'.O b).bind λj=>if j<m then some j else if j=h then some m else none
    let E2:Env:=⟨λk=>if k<m then E'.β k else if k=m then E'.β h else none,λk=>if k<m then E'.τ k else if k=m then E'.τ h else none,O2,λk=>if k<m then E'.κ k else none,λk=>if k<m then E'.ζ k else if k=m then E'.ζ h else none,E'.I⟩
    have vA:Cr B E2 w':=by
     refine⟨aA.os,aA.tape,aA.output,aA.size,aA.dY,aA.I0,aA.dP,aA.cE,λb j hO=>?_,⟨λk b hk=>?_,λk v hk=>?_,λk z hk=>?_⟩⟩
     .have hO:(E'.O b).bind (λj=>if j<m then some j else if j=h then some m else none)=some j:=hO
      cases ob:E'.O b with
      |none=>rw[ob]at hO;cases hO
      |some q=>exact aA.cS b q ob
     .show (if k<m then E'.β k else if k=m then E'.β h else none)=some b
      rw[QC (dT k (.inl (by rw[hk];simp)))];exact aA.cO.β k b hk
     .show Pr v (if k<m then E'.τ k else if k=m then E'.τ h else none)
      rw[QC (dT k (.inr (.inl (by rw[hk];simp))))];exact aA.cO.τ k v hk
     .show (if k<m then E'.ζ k else if k=m then E'.ζ h else none)=some z
      rw[QC (dT k (.inr (.inr (by rw[hk];simp))))];exact aA.cO.ζ k z hk
    have hO1:∀b k,k<m->E'.O b=some k->O2 b=some k:=λb k hk hb=>by simp[O2,hb,hk]
    have yJ:∀b,E'.O b=some h->O2 b=some m:=λb hb=>by
     simp only[O2,hb,ZV];rw[QA (by omega)];simp
    refine⟨_,pC,_,E2,rfl,vA,λk aC=>?_,?_⟩
    .refine k2 k E2 w' ?_
     have hlen:(cQ dn (takeN m aL.hp++[.own ty n sz gr f])).length=m+1:=by
      rw[Ju,Ba,QF,QW,UJ hm];rfl
     rw[hlen]at k3;have yS:(takeN m aL.hp).length=m:=by rw[Ba,QW,UJ hm]
     have bD:=cD.st.heap
     by_cases y6:k<m
     .have h1:Aq (cQ dn (takeN m aL.hp++[.own ty n sz gr f])) k=Aq (cQ dn (takeN m aL.hp)) k:=by
       simp only[Aq,Aj,Ht];rw[QM (by omega)]
      rw[h1];have h2:bR E' w' k (Aq (cQ dn (takeN m aL.hp)) k):=by
       refine bR.cQ ?_;have:=bD k;simp only[Aq,Aj,Ba]at this ⊢;rw[QN,QC y6];exact this
      obtain⟨l,hl⟩:∃l,(cQ dn (takeN m aL.hp))[k]?=some l:=⟨_,QB (by rw[Ju];omega)⟩;have hle:Aq (cQ dn (takeN m aL.hp)) k=l:=by simp only[Aq,Aj,hl,XD]
      rw[hle]at h2 ⊢;exact h2.move (Gg c3 hl) rfl (QC y6) (QC y6) (QC y6) λb hb=>hO1 b k y6 hb
     .obtain rfl:k=m:=by omega
      have h1:Aq (cQ dn (takeN k aL.hp++[.own ty n sz gr f])) k=.own ty (.a (dn.i n)) sz gr f:=by
       simp only[Aq,Aj,Ht];rw[QP (by omega),yS,UH];rfl
      rw[h1];have h2:=bD h;rw[Bv hh]at h2;have h3:bR E' w' h (.own ty (.a (dn.i n)) sz gr f):=h2;refine h3.move trivial rfl ?_ ?_ ?_ yJ
      .show (if k<k then E'.β k else if k=k then E'.β h else none)=E'.β h
       rw[QA (by omega),QC rfl]
      .show (if k<k then E'.τ k else if k=k then E'.τ h else none)=E'.τ h
       rw[QA (by omega),QC rfl]
      .show (if k<k then E'.ζ k else if k=k then E'.ζ h else none)=E'.ζ h
       rw[QA (by omega),QC rfl]
    .have TV:E2.τ m=E'.τ h:=by
      show (if m<m then E'.τ m else if m=m then E'.τ h else none)=E'.τ h;rw[QA (by omega),QC rfl]
     have bG:A8 E2 w' (Ri h m vs) us:=P9 (E:=E') (E':=E2) rfl TV c2 u2;exact k1 E2 w' _ (P8 bG).norm.loose
   .exact hk.elim
 .exact hk.elim
theorem Vr(hc:A4 P cx){B:Bs}{N:Nat}(hg:Fm B cx.gl){E':Env}{a':Act}{w':World}{aL:Sy}(cD:bS B N E' a' w' aL){fn:Func}{m:Nat}(dT:∀h,B.cO h≠none\/B.oN h≠none\/B.oO h≠none->h<m){r:SV}{aK:List Hl}(hk:match Jn cx aL fn.results.toList with
    |some vs=>MY cx m vs aL λr' dS=>Fin r' r dS aK
    |none=>False):∃v,(results fn a'.tmps).run P w'=.ok v w'/\∃vJ E',Ending.returned v=.returned vJ/\Cr B E' w'/\(∀h,h<aK.length->bR E' w' h (Aq aK h))/\Rel E' w' r vJ:=by
 split at hk
 .rename_i vs kR
  obtain⟨us,u1,u2⟩:=Io hc hg cD fn.results.toList vs kR;have aA:=cD.st.base;have pC:(results fn a'.tmps).run P w'=.ok (if h:(⟨us⟩:Array Value).size=1 then (⟨us⟩:Array Value)[0] else .tuple ⟨us⟩) w':=by
   rw[Uc,Array.mapM_eq_mapM_toList];simp only[Sem.run_bind,Sem.run_map,u1,Result.andThen_ok,Sem.run_pure]
  obtain⟨E2,q1,q2,q3⟩:=Yw hc cD dT u2 hk;exact⟨_,pC,_,E2,rfl,q1,q2,q3⟩
 .exact hk.elim
theorem Lh{B:Bs}{E:Env}{w:World}{aX:List Value}{fn:Func}{as:List SV}{ls:List Hl}(eh:B.dl=[])(dT:∀h,B.cO h≠none\/B.oN h≠none\/B.oO h≠none->h<ls.length)(hb:Cr B E w)(hh:∀h,bR E w h (Aq ls h))(hr:A8 E w as aX):
  bS B (Ep fn.ntmps as).length E { tmps:=(⟨aX⟩:Array Value)++Array.replicate (fn.ntmps-(⟨aX⟩:Array Value).size) undef,defers:=[] } w ⟨Ep fn.ntmps as,ls,[]⟩:=by
 refine⟨⟨hb,hh,λs=>?_,?_,by rw[eh];rfl⟩,rfl,⟨λs g hs i hi=>?_,λs g i hs hi=>?_,λs g i hs hi=>?_⟩,dT⟩
 .simp only[Bf]
  cases hs:Ax (Ep fn.ntmps as) s with
  |none=>trivial
  |some g =>
   obtain⟨v,hv,rfl⟩:=Ko _ _ _ _ hs;have aC:s<as.length:=(List.getElem?_eq_some_iff.1 hv).1;have eS:s<aX.length:=by rw[<-hr.1];exact aC
   have bM:((⟨aX⟩:Array Value)++Array.replicate (fn.ntmps-(⟨aX⟩:Array Value).size) undef).getD s undef=aX[s]:=by
    rw[XI,Array.getElem?_append_left (by simpa using eS)];simp[eS]
   refine⟨by simp;omega,λ_=>?_,λh=>absurd trivial h⟩;rw[bM];exact hr.2 s v _ hv (QB eS)
 .simp[Ep,Ag,hr.1]
 .obtain⟨v,_,rfl⟩:=Ko _ _ _ _ hs;simp at hi
 .obtain⟨v,_,rfl⟩:=Ko _ _ _ _ hs;simp at hi
 .obtain⟨v,_,rfl⟩:=Ko _ _ _ _ hs;simp at hi
def shut:List Nat->World->World
 | [],w=>w
 |r :: rs,w=>shut rs (w.putObj r (.deferred none))
theorem Hk{F:Fence}{n:Nat}{fn:Func}{tmps:Array Value}{R:Ending->World->Prop}:∀(dl:List Nat) (w:World),dl.Nodup->(∀r∈dl,w.heap[r]?=some (.deferred (some [])))->
  (∃v,(results fn tmps).run P (shut dl w)=.ok v (shut dl w)/\R (.returned v) (shut dl w))->LeavesInM F n P fn tmps R (dl.map Us) .returning w
 | [],w,_,_,h=>h
 |r :: rs,w,hn,hd,h=>by
  obtain⟨n1,n2⟩:=List.nodup_cons.1 hn;refine⟨by simp,.inl ⟨r,_,rfl,run_takeDeferred (hd r (XB ..)),Hk rs _ n2 (λk hk=>?_) h⟩⟩;rw[World.putObj_heap_other (λ(e:k=r)=>n1 (by rw[<-e];exact hk))];exact hd k (XC _ hk)
theorem j0{B:Bs}{N:Nat}{E:Env}{a:Act}{w:World}{ff:Nat->SG}{hf:Nat->Hl}(st:St B N E a w ff hf){r:Nat}{x:Option (List Deferred)}(hr:B.w0.heap.size<=r)(hO:∀k,E.O r≠some k)(hd:w.heap[r]?=some (.deferred x))(y:Option (List Deferred)):St B N E a (w.putObj r (.deferred y)) ff hf:=by
 have hb:=st.base;have aC:r<w.heap.size:=(Array.getElem?_eq_some_iff.1 hd).1;have aP:∀b o,(w.putObj r (.deferred y)).cell? ⟨b,o,none⟩=w.cell? ⟨b,o,none⟩:=by
  intro b o;simp only[World.cell?]
  by_cases e:b=r
  .subst e;rw[World.putObj_heap_same aC,hd]
  .rw[World.putObj_heap_other e]
 have hx:Ext E w E (w.putObj r (.deferred y)):=⟨λ_ _ h=>h,λ_ _ h=>.inl h,λ_ _ h=>h,λ_ _ h=>h,λ_ _ h=>h,λb o _=>aP b o⟩;refine st.step hx ⟨hb.os,hb.tape,hb.output,?_,?_,?_,?_,hb.cE,?_,hb.cO⟩ λk=>?_
 .rw[World.putObj_size];exact hb.size
 .intro b aC hX;rw[World.putObj_heap_other (by omega)];exact hb.dY b aC hX
 .intro b o hi
  obtain⟨i1,i2⟩:=hb.I0 b o hi;exact⟨i1,by rw[aP];exact i2⟩
 .intro b o hi;rw[World.putObj_size];exact hb.dP b o hi
 .intro b k hO;rw[World.putObj_size];exact hb.cS b k hO
 .refine bR.keep hx (st.heap k) rfl rfl rfl rfl λb gH=>⟨gH,?_,λ_ h=>h⟩
  exact World.putObj_heap_other (λe=>hO k (by rw[<-e];exact gH))
theorem Abg{B:Bs}{N:Nat}{E:Env}{a:Act}{ff:Nat->SG}{hf:Nat->Hl}:∀(dl:List Nat) (w:World),dl.Nodup->St B N E a w ff hf->(∀r∈dl,B.w0.heap.size<=r/\(∀k,E.O r≠some k)/\w.heap[r]?=some (.deferred (some [])))->St B N E a (shut dl w) ff hf
 | [],_,_,st,_=>st
 |r :: rs,w,hn,st,h=>by
  obtain⟨n1,n2⟩:=List.nodup_cons.1 hn;obtain⟨h1,h2,h3⟩:=h r (XB ..);refine Abg rs _ n2 (j0 st h1 h2 h3 none) λk hk=>?_;obtain⟨k1,k2,k3⟩:=h k (XC _ hk);exact⟨k1,k2,by rw[World.putObj_heap_other (λ(e:k=r)=>n1 (by rw[<-e];exact hk))];exact k3⟩
theorem bS.shut{B B1:Bs}{N:Nat}{E:Env}{a:Act}{w:World}{σ:Sy}(hr:oY B B1)(h0:B.dl=[])(hs:bS B1 N E a w σ):
  B1.dl.Nodup/\(∀r∈B1.dl,w.heap[r]?=some (.deferred (some [])))/\bS B N E { a with defers:=[] } (Sx.shut B1.dl w) σ:=by
 have hm:Agr B1:=hr.marks ⟨by rw[h0];exact List.nodup_nil,by rw[h0];simp⟩;have hb:=hs.st.base;have hd:∀r∈B1.dl,B.w0.heap.size<=r/\(∀k,E.O r≠some k)/\w.heap[r]?=some (.deferred (some [])):=by
  intro r CT;obtain⟨m1,m2,m3⟩:=hm.cG r CT;refine⟨?_,λk hk=>?_,(hb.dY r m1 m2).trans m3⟩
  .rcases hr.new r CT with h|h
   .rw[h0]at h;cases h
   .exact h
  .rcases (hb.cS r k hk).2 with h|h
   .omega
   .exact m2 h
 have eY:St B N E { a with defers:=[] } w (Bf σ) (Aq σ.hp):=⟨hr.base hb,hs.st.heap,hs.st.slot,hs.st.size,by rw[h0];rfl⟩;refine⟨hm.nodup,λr CT=>(hd r CT).2.2,Abg B1.dl w hm.nodup eY hd,hs.len,hs.wf,λk hk=>hs.ge k ?_⟩;rw[hr.cO,hr.oN,hr.oO];exact hk
def Bs.bare(B:Bs):Bs:={ B with dl:=[] }
theorem Cr.bare{B:Bs}{E:Env}{w:World}(h:Cr B E w):Cr B.bare E w:=⟨h.os,h.tape,h.output,h.size,h.dY,h.I0,h.dP,h.cE,h.cS,⟨h.cO.β,h.cO.τ,h.cO.ζ⟩⟩
theorem Cr.tV{B:Bs}{E:Env}{w:World}(h:Cr B.bare E w):Cr B E w:=⟨h.os,h.tape,h.output,h.size,h.dY,h.I0,h.dP,h.cE,h.cS,⟨h.cO.β,h.cO.τ,h.cO.ζ⟩⟩
theorem S5(hd:Rd P)(hc:A4 P cx)(bU:E8 P cx.gl cx.eG)(fT:Wn P cx){f:FuncId}{fn:Func}(hf:P.funcs[f]?=some fn){as:List SV}{ls:List Hl}{r:SV}{aK:List Hl}
  (h:body cx fn as ls λr' dS=>Fin r' r dS aK):Fb P cx.gl f as ls r aK:=by
 intro B E w aX oA KC dT hb hg hh hr;unfold body at h
 split at h
 .rename_i c gQ
  refine callsIn_wide.1 (callsIn_of_wp_marks (F:=Fence.wide) (n:=0) hf gQ trivial ?_);refine wpIn_mono (F:=Fence.wide) (B5 hd hc bU fT c _ _ h none 0 (.inl rfl) B.bare hg E _ w (Lh (B:=B.bare) rfl dT hb.bare hh hr)) λe a' w' hq=>?_;obtain⟨B1,E',aL,bP,cD,hk⟩:=hq;obtain⟨m1,m2,m3⟩:=cD.shut bP rfl;rw[<-Ag ls]at dT;have done:(∃v,(results fn a'.tmps).run P (shut B1.dl w')=.ok v (shut B1.dl w')/\∃vJ E',Ending.returned v=.returned vJ/\Cr B.bare E' (shut B1.dl w')/\(∀h,h<aK.length->bR E' (shut B1.dl w') h (Aq aK h))/\Rel E' (shut B1.dl w') r vJ)->LeavesInM Fence.wide 0 P fn a'.tmps (λe w'=>∃v E',e=.returned v/\Cr B E' w'/\(∀h,h<aK.length->bR E' w' h (Aq aK h))/\Rel E' w' r v) a'.defers .returning w':=by
   rintro⟨v,q1,v1,E2,q2,q3,q4,q5⟩;rw[cD.st.defers];exact Hk B1.dl w' m1 m2 ⟨v,q1,v1,E2,q2,q3.tV,q4,q5⟩
  cases e with
  |normal=>exact done (Qu (B:=B.bare) hc hg m3 dT hk)
  |ret=>exact done (Qu (B:=B.bare) hc hg m3 dT hk)
  |exit i=>exact hk.elim
  |goto l=>exact hk.elim
  |panic c=>exact hk.elim
  |outgrown=>exact hk.elim
 .exact h.elim
theorem J8(hd:Rd P)(hc:A4 P cx)(bU:E8 P cx.gl cx.eG)(fT:Wn P cx){f:FuncId}{fn:Func}(hf:P.funcs[f]?=some fn){as:List SV}{ls:List Hl}{r:SV}{aK:List Hl}
  (h:PY cx fn as ls λr' dS=>Fin r' r dS aK):Fb P cx.gl f as ls r aK:=by
 intro B E w aX oA KC dT hb hg hh hr;unfold PY at h
 split at h
 .rename_i c gQ
  refine callsIn_wide.1 (callsIn_of_wp_marks (F:=Fence.wide) (n:=0) hf gQ trivial ?_);refine wpIn_mono (F:=Fence.wide) (B5 hd hc bU fT c _ _ h none 0 (.inl rfl) B.bare hg E _ w (Lh (B:=B.bare) rfl dT hb.bare hh hr)) λe a' w' hq=>?_;obtain⟨B1,E',aL,bP,cD,hk⟩:=hq;obtain⟨m1,m2,m3⟩:=cD.shut bP rfl;rw[<-Ag ls]at dT;have done:(∃v,(results fn a'.tmps).run P (shut B1.dl w')=.ok v (shut B1.dl w')/\∃vJ E',Ending.returned v=.returned vJ/\Cr B.bare E' (shut B1.dl w')/\(∀h,h<aK.length->bR E' (shut B1.dl w') h (Aq aK h))/\Rel E' (shut B1.dl w') r vJ)->LeavesInM Fence.wide 0 P fn a'.tmps (λe w'=>∃v E',e=.returned v/\Cr B E' w'/\(∀h,h<aK.length->bR E' w' h (Aq aK h))/\Rel E' w' r v) a'.defers .returning w':=by
   rintro⟨v,q1,v1,E2,q2,q3,q4,q5⟩;rw[cD.st.defers];exact Hk B1.dl w' m1 m2 ⟨v,q1,v1,E2,q2,q3.tV,q4,q5⟩
  cases e with
  |normal=>exact done (Vr (B:=B.bare) hc hg m3 dT hk)
  |ret=>exact done (Vr (B:=B.bare) hc hg m3 dT hk)
  |exit i=>exact hk.elim
  |goto l=>exact hk.elim
  |panic c=>exact hk.elim
  |outgrown=>exact hk.elim
 .exact h.elim
theorem Ain{c rest:Code}{Q:Exit->Act->World->Prop}{a:Act}{w:World}(l:Nat)(hf:findLabel c l=some rest)(R:Nat->Act->World->Prop)
  (first:c.wp P (Exit.jump l (λa w=>∃n,R n a w) Q) a w)
  (pass:∀n a w,R n a w->rest.wp P (Exit.jump l (λa' w'=>∃n',n'<n/\R n' a' w') Q) a w):(Code.scope c).wp P Q a w:=by
 classical
 let μ:Act->World->Nat:=λa w=>if h:∃n,R n a w then Classical.choose (Gl h) else 0
 have GY:∀a w,(∃n,R n a w)->R (μ a w) a w/\∀m,R m a w->μ a w<=m:=by
  intro a w h;have:μ a w=Classical.choose (Gl h):=by simp only[μ];rw[dif_pos h]
  rw[this];exact Classical.choose_spec (Gl h)
 refine wp_scope_jumps l (λa w=>∃n,R n a w) μ hf first λa w hI=>?_
 obtain⟨h1,h2⟩:=GY a w hI;refine wp_mono (pass _ a w h1) λe a' w' hq=>?_;cases e with
 |goto l' =>
  obtain⟨rfl,n',aC,hr⟩:=hq;exact⟨rfl,⟨n',hr⟩,Nat.lt_of_le_of_lt ((GY a' w' ⟨n',hr⟩).2 n' hr) aC⟩
 |_=>exact hq
theorem Q7(hd:Rd P)(hc:A4 P cx)(bU:E8 P cx.gl cx.eG)(fT:Wn P cx){f:FuncId}{fn:Func}(hf:P.funcs[f]?=some fn){l:Nat}{pre c rest:Code}(gQ:fn.body=some (.seq pre (.scope c)))(hl:findLabel c l=some rest){as:List SV}{ls:List Hl}{r:SV}{aK:List Hl}
  (h:uu cx fn pre c l rest as ls λr' dS=>Fin r' r dS aK):Fb P cx.gl f as ls r aK:=by
 intro B E w aX oA KC dT hb hg hh hr;obtain⟨keep,J,h1,h2⟩:=h;rw[hc.D]at h1 h2;have xD:=dT;rw[<-Ag ls]at xD;have hcw:(Code.seq pre (.scope c)).wp P (bodyPostM Fence.wide 0 P fn (λe w'=>∃v E',e=.returned v/\Cr B E' w'/\(∀h,h<aK.length->bR E' w' h (Aq aK h))/\Rel E' w' r v)) { tmps:=(⟨aX⟩:Array Value)++Array.replicate (fn.ntmps-(⟨aX⟩:Array Value).size) undef,defers:=[] } w:=?_
 .exact callsIn_wide.1 (callsIn_of_wp_marks (F:=Fence.wide) (n:=0) hf gQ trivial (wpIn_wide.2 hcw))
 have done:∀ {B1:Bs} {E':Env} {a':Act} {w':World} {aL:Sy},oY B.bare B1->bS B1 (Ep fn.ntmps as).length E' a' w' aL->(match Jn cx aL fn.results.toList with
    |some vs=>DY cx (Ai ls) vs aL λr' dS=>Fin r' r dS aK
    |none=>False)->LeavesInM Fence.wide 0 P fn a'.tmps (λe w'=>∃v E',e=.returned v/\Cr B E' w'/\(∀h,h<aK.length->bR E' w' h (Aq aK h))/\Rel E' w' r v) a'.defers .returning w':=by
  intro B1 E' a' w' aL bP cD hk;obtain⟨m1,m2,m3⟩:=cD.shut bP rfl;obtain⟨v,q1,v1,E2,q2,q3,q4,q5⟩:=Qu (B:=B.bare) hc hg m3 xD hk;rw[cD.st.defers];exact Hk B1.dl w' m1 m2 ⟨v,q1,v1,E2,q2,q3.tV,q4,q5⟩
 refine wp_seq (wp_mono (Aah hd hc bU fT (B:=B.bare) hg pre _ _ h1 E _ w (Lh (B:=B.bare) rfl dT hb.bare hh hr)) λe0 a0 w0 WG=>?_);obtain⟨B0,E0,σ0,qM,jO,fD⟩:=WG;cases e0 with
 |ret=>exact fD.elim
 |exit i=>exact fD.elim
 |goto l=>exact fD.elim
 |panic c=>exact fD.elim
 |outgrown=>exact fD.elim
 |normal =>
 have h1:=fD;refine Ain l hl (λm a w=>∃B1 vs hp E,oY B.bare B1/\J m vs hp/\bS B1 (Ep fn.ntmps as).length E a w ⟨Oy (Ld keep vs) (blank (Ep fn.ntmps as)),hp,[]⟩) ?_ ?_
 .refine wp_mono (Aah hd hc bU fT (qM.gl hg) c _ _ h1 E0 _ w0 jO) λe a' w' hq=>?_
  obtain⟨B1,E',aL,bP,cD,hk⟩:=hq;have bP:=qM.trans bP;cases e with
  |normal=>exact done bP cD hk
  |ret=>exact done bP cD hk
  |exit i=>exact hk.elim
  |goto l' =>
   obtain⟨rfl,gH,m2,xG⟩:=hk;exact⟨rfl,m2,_,_,_,_,bP,xG,cD.head rfl gH (bP.PE xD)⟩
  |panic c=>exact hk.elim
  |outgrown=>exact hk.elim
 .rintro m a1 w1 ⟨B1,vs,hp,E1,bP,hJ,cC⟩
  refine wp_mono (Aah hd hc bU fT (bP.gl hg) rest _ _ (h2 m vs hp hJ) E1 a1 w1 cC) λe a' w' hq=>?_;obtain⟨B2,E',aL,bZ,cD,hk⟩:=hq;have bZ:=bP.trans bZ;cases e with
  |normal=>exact done bZ cD hk
  |ret=>exact done bZ cD hk
  |exit i=>exact hk.elim
  |goto l' =>
   obtain⟨rfl,gH,m2,aC,xG⟩:=hk;exact⟨rfl,m2,aC,_,_,_,_,bZ,xG,cD.head rfl gH (bZ.PE xD)⟩
  |panic c=>exact hk.elim
  |outgrown=>exact hk.elim
end
abbrev Rec:=Option (Sy×List Nat×Out)
abbrev X:=(Nat->SG)×(Nat->Hl)
def Hh(N:Nat)(f:Nat->SG)(d:Option Nat)(g:SG):Nat->SG:=λs=>if d=some s/\s<N then g else f s
def Fo(h:Nat):Ef->Hl->Hl
 |.set h' off vs,x=>if h'=h then (match x with|.aF ty cs=>.aF ty (Dd cs off vs)|x=>x) else x
 |.put h' hl,x=>if h'=h then hl else x
def Dt(h:Nat):List Ef->Hl->Hl
 | [],x=>x
 |e :: es,x=>Dt h es (Fo h e x)
theorem AI(hf:Nat->Hl)(e:Ef)(h:Nat):fg hf e h=Fo h e (hf h):=by
 cases e with
 |set h' off vs =>
  simp only[fg,Fo]
  by_cases e:h'=h
  .subst e
   rw[QC rfl];cases hx:hf h'<;>simp[aU,hx]
  .rw[QA e]
   cases hx:hf h'<;>simp[aU,Ne.symm e]
 |put h' hl =>
  simp only[fg,Fo,aU]
  by_cases e:h'=h
  .subst e;simp
  .rw[QA e,QA (λh=>e h.symm)]
theorem Ah4(h:Nat):∀(es:List Ef) (hf:Nat->Hl),H8 hf es h=Dt h es (hf h)
 | [],_=>rfl
 |e :: es,hf=>by
  show H8 (fg hf e) es h=Dt h es (Fo h e (hf h));rw[Ah4 h es,AI]
def Eg(N:Nat)(gm:List BT)(o:Oper)(rec:Rec)(x:X):X :=
 match rec with
 |none=>(Hh N x.1 o.dst none,x.2)
 |some (_,T,r)=>(Hh N x.1 o.dst (some (Ac gm T,r.v)),H8 x.2 r.fR)
def Em(N:Nat)(gm:List BT)(S:Nat->Bool):List (Oper×Rec)->Nat->X->X
 | [],_,x=>x
 |p :: l,i,x=>Em N gm S l (i+1) (if S i then Eg N gm p.1 p.2 x else x)
def Cs(N:Nat)(gm:List BT):List (Oper×Rec)->X->X
 | [],x=>x
 |p :: l,x=>Cs N gm l (Eg N gm p.1 p.2 x)
theorem Yp{N:Nat}{gm:List BT}{S:Nat->Bool}:∀(L:List (Oper×Rec)) (k:Nat) (x:X),(∀j,j<L.length->S (k+j)=true)->Em N gm S L k x=Cs N gm L x
 | [],_,_,_=>rfl
 |p :: L,k,x,h=>by
  have h0:=h 0 (by simp);simp only[ZB]at h0;simp only[Em,Cs,h0,if_true];exact Yp L (k+1) _ λj hj=>by have:=h (j+1) (by simpa using hj);rwa [show k+1+j=k+(j+1) by omega]
theorem Kr{N:Nat}{gm:List BT}{S:Nat->Bool}:∀(L:List (Oper×Rec)) (k:Nat) (x:X),(∀j,j<L.length->S (k+j)=false)->Em N gm S L k x=x
 | [],_,_,_=>rfl
 |p :: L,k,x,h=>by
  have h0:=h 0 (by simp);simp only[ZB]at h0;simp only[Em,h0,XE,if_false];exact Kr L (k+1) _ λj hj=>by have:=h (j+1) (by simpa using hj);rwa [show k+1+j=k+(j+1) by omega]
theorem Nt{N:Nat}{gm:List BT}:∀(L:List (Oper×Rec)) (i k:Nat) (x:X),Em N gm (λj=>decide (j<k+i)) L k x=Cs N gm (L.take i) x
 | [],i,k,x=>by simp[Em,Cs]
 |p :: L,0,k,x=>by
  simp only[List.take_zero,Cs];exact Kr _ _ _ λj _=>by simp
 |p :: L,i+1,k,x=>by
  simp only[Em,YE,Cs];rw[QC (by simp)];have:=Nt (N:=N) (gm:=gm) L i (k+1) (Eg N gm p.1 p.2 x);rw[<-this];congr 1
  funext j;congr 1;exact propext (by omega)
def Aop(P:Program)(gl:List (Nat×SV))(all:List Oper)(o:Oper)(gm:List BT)(σ:Sy):Rec->Prop
 |none=>guardOf all σ o.guard=some none
 |some (dQ,T,r)=>guardOf all σ o.guard=some (some (dQ,T))/\Wo P gl dQ T o r/\Jr dQ.hp r.fR=true/\((T=[]\/r.fR=[]\/Bk (Ac dQ.gm T))/\∀c,o.op≠.defer c)/\Ac gm T=Ac dQ.gm T
theorem Sg{gm y:List BT}:∀ {T:List Nat},(∀i∈T,i<gm.length)->Ac (gm++y) T=Ac gm T
 | [],_=>rfl
 |i :: T,h=>by
  have h1:=Sg (gm:=gm) (y:=y) (T:=T) λj hj=>h j (XC _ hj);have h2:nth (gm++y) i=nth gm i:=by rw[Aj,Aj,QM (h i (XB ..))]
  simp only[Ac,ZX,h2]at *;rw[h1]
theorem Yv(σ:Sy)(d:Option Nat)(g:Option G)(hp:List Hl):Bf ⟨cP σ.fr d g,hp,σ.gm⟩=Hh σ.fr.length (Bf σ) d (g.map λg=>(Ac σ.gm g.tg,g.v)):=by
 funext s;cases d with
 |none=>simp[cP,Hh,Bf]
 |some k =>
  simp only[cP,Hh,Bf,B9]
  by_cases e:s=k/\k<σ.fr.length
  .obtain⟨rfl,h⟩:=e;simp[h]
  .rw[QA e,QA (λh=>e ⟨(Option.some.inj h.1).symm,by rw[Option.some.inj h.1];exact h.2⟩)]
theorem Alt{P:Program}{gl:List (Nat×SV)}{ops:Array Oper}{os:List Oper}{σ aL:Sy}{rs:List Rec}(h:qc P gl ops.toList os σ rs aL):tS σ->∀N,σ.fr.length=N->
  rs.length=os.length/\tS aL/\aL.fr.length=N/\σ.hp.length<=aL.hp.length/\(∃y,aL.gm=σ.gm++y)/\(Bf aL,Aq aL.hp)=Cs N aL.gm (os.zip rs) (Bf σ,Aq σ.hp)/\
  ∀(i:Nat) (o:Oper) (rec:Rec),os[i]?=some o->rs[i]?=some rec->∃qD,tS qD/\qD.fr.length=N/\(Bf qD,Aq qD.hp)=Cs N aL.gm ((os.zip rs).take i) (Bf σ,Aq σ.hp)/\Aop P gl ops.toList o aL.gm qD rec:=by
 induction h with
 |nil σ=>intro wf N hN;exact⟨rfl,wf,hN,QK _,⟨[],by simp⟩,rfl,by simp⟩
 | @skip o os σ aL rs hg h ih =>
  intro wf N hN;obtain⟨h1,h2,h3,h4,⟨y,h5⟩,h6,h7⟩:=ih (wf.cP o.dst none (by simp) σ.hp) N (by rw[Lz];exact hN);have hx:Eg N aL.gm o none (Bf σ,Aq σ.hp)=(Bf ⟨cP σ.fr o.dst none,σ.hp,σ.gm⟩,Aq σ.hp):=by
   simp only[Eg];rw[Yv,hN];rfl
  refine⟨by simp[h1],h2,h3,h4,⟨y,h5⟩,?_,λi o' rec hi hr=>?_⟩
  .simp only[YN,Cs]
   rw[hx];exact h6
  .cases i with
   |zero =>
    simp at hi hr;subst hi hr;exact⟨σ,wf,hN,rfl,hg⟩
   |succ i =>
    simp at hi hr;obtain⟨qD,w1,w2,w3,w4⟩:=h7 i o' rec hi hr;refine⟨qD,w1,w2,?_,w4⟩;simp only[YN,YE,Cs];rw[hx];exact w3
 | @step o os σ dQ aL T r rs hg hl he iI h ih =>
  intro wf N hN;obtain⟨w1,w2,w3,w4,w5,⟨z,w6⟩,_,_⟩:=Hm (ops:=ops) rfl hg wf;obtain⟨h1,h2,h3,h4,⟨y,h5⟩,h6,h7⟩:=ih (w1.cP o.dst (some ⟨T,none,none,r.v⟩) (by rintro g' ⟨⟩;exact⟨w5,rfl,rfl⟩) _) N (by rw[Lz,w4];exact hN);have hT:Ac aL.gm T=Ac dQ.gm T:=by rw[h5];exact Sg w5
  have hx:Eg N aL.gm o (some (dQ,T,r)) (Bf σ,Aq σ.hp)=(Bf ⟨cP dQ.fr o.dst (some ⟨T,none,none,r.v⟩),L7 dQ.hp r.fR,dQ.gm⟩,Aq (L7 dQ.hp r.fR)):=by
   simp only[Eg];rw[Yv,J0 _ _ he,w4,hN,w2,w3,hT];rfl
  refine⟨by simp[h1],h2,h3,XP (by rw[<-w3];exact O5 _ _) h4,⟨z++y,by rw[h5,w6,ZJ]⟩,?_,λi o' rec hi hr=>?_⟩
  .simp only[YN,Cs]
   rw[hx];exact h6
  .cases i with
   |zero =>
    simp at hi hr;subst hi hr;exact⟨σ,wf,hN,rfl,hg,hl,he,iI,hT⟩
   |succ i =>
    simp at hi hr;obtain⟨qD,q1,q2,q3,q4⟩:=h7 i o' rec hi hr;refine⟨qD,q1,q2,?_,q4⟩;simp only[YN,YE,Cs];rw[hx];exact q3
theorem Y6{N:Nat}{gm:List BT}{o:Oper}{rec:Rec}{x:X}{s:Nat}(h:o.dst≠some s):(Eg N gm o rec x).1 s=x.1 s:=by
 cases rec with
 |none=>simp[Eg,Hh,h]
 |some p=>obtain⟨σ,T,r⟩:=p;simp[Eg,Hh,h]
theorem Po{N:Nat}{gm:List BT}{o:Oper}{rec:Rec}{x y:X}{s:Nat}(h:x.1 s=y.1 s):(Eg N gm o rec x).1 s=(Eg N gm o rec y).1 s:=by
 cases rec with
 |none=>simp only[Eg,Hh];split<;>simp[h]
 |some p=>obtain⟨σ,T,r⟩:=p;simp only[Eg,Hh];split<;>simp[h]
theorem Kq{N:Nat}{gm:List BT}{S S':Nat->Bool}{s:Nat}:∀(L:List (Oper×Rec)) (k:Nat) (x y:X),x.1 s=y.1 s->(∀(j:Nat) (p:Oper×Rec),L[j]?=some p->p.1.dst=some s->S (k+j)=S' (k+j))->
  (Em N gm S L k x).1 s=(Em N gm S' L k y).1 s
 | [],_,_,_,h,_=>h
 |p :: L,k,x,y,h,hS=>by
  simp only[Em];refine Kq L (k+1) _ _ ?_ λj q hq hd=>by have:=hS (j+1) q (by simpa using hq) hd;rwa [show k+(j+1)=k+1+j by omega]at this
  by_cases hd:p.1.dst=some s
  .have:=hS 0 p rfl hd
   simp only[ZB]at this;rw[this]
   split
   .exact Po h
   .exact h
  .have a1:(if S k then Eg N gm p.1 p.2 x else x).1 s=x.1 s:=by split;exact Y6 hd;rfl
   have a2:(if S' k then Eg N gm p.1 p.2 y else y).1 s=y.1 s:=by split;exact Y6 hd;rfl
   rw[a1,a2,h]
def L6:Rec->List Ef
 |none=>[]
 |some (_,_,r)=>r.fR
theorem Y7{N:Nat}{gm:List BT}{o:Oper}{rec:Rec}{x:X}{h:Nat}:(Eg N gm o rec x).2 h=Dt h (L6 rec) (x.2 h):=by
 cases rec with
 |none=>rfl
 |some p=>obtain⟨σ,T,r⟩:=p;exact Ah4 h r.fR x.2
def Fl(h:Nat)(S:Nat->Bool):List (Oper×Rec)->Nat->Hl->Hl
 | [],_,x=>x
 |p :: l,i,x=>Fl h S l (i+1) (if S i then Dt h (L6 p.2) x else x)
theorem H7{N:Nat}{gm:List BT}{S:Nat->Bool}{h:Nat}:∀(L:List (Oper×Rec)) (k:Nat) (x:X),(Em N gm S L k x).2 h=Fl h S L k (x.2 h)
 | [],_,_=>rfl
 |p :: L,k,x=>by
  simp only[Em,Fl];rw[H7 L];congr 1
  split
  .exact Y7
  .rfl
theorem Wh{x:Nat×Option (Nat×Nat)}:∀ {l:List (Nat×Option (Nat×Nat))},pk x l=false->∀y∈l,C9 x y=false
 | [],_,y,hy=>by cases hy
 |z :: l,h,y,hy=>by
  simp only[pk,QU]at h;rcases List.mem_cons.1 hy with rfl|hy
  .exact h.1
  .exact Wh h.2 y hy
theorem Fv{t:List (Nat×Option (Nat×Nat))}:∀ {l:List (Nat×Option (Nat×Nat))},Qb l t=false->∀x∈l,∀y∈t,C9 x y=false
 | [],_,x,hx,_,_=>by cases hx
 |z :: l,h,x,hx,y,hy=>by
  simp only[Qb,QU]at h;rcases List.mem_cons.1 hx with rfl|hx
  .exact Wh h.1 y hy
  .exact Fv h.2 x hx y hy
theorem Rl(x y:Nat×Option (Nat×Nat)):C9 x y=C9 y x:=by
 obtain⟨h,a⟩:=x;obtain⟨k,b⟩:=y;simp only[C9];have e:(h==k)=(k==h):=BEq.comm;rw[e];congr 1;cases a with
 |none=>cases b<;>rfl
 |some a=>cases b with
  |none=>rfl
  |some b=>simp[Bool.and_comm]
def same(x y:Hl)(U:Nat->Prop):Prop:=x=y\/∃ty cs dI,x=.aF ty cs/\y=.aF ty dI/\dI.length=cs.length/\∀j,U j->dI[j]?=cs[j]?
theorem Pa{α:Type}:∀(vs l:List α) (off i:Nat),(i<off\/off+vs.length<=i)->(Dd l off vs)[i]?=l[i]?
 | [],_,_,_,_=>rfl
 |v :: vs,l,off,i,h=>by
  simp only[QH]at h;rw[Dd,Pa vs _ (off+1) i (by omega),Av,XU (by omega)]
theorem M8{α:Type}:∀(vs l l':List α) (off i:Nat),l'.length=l.length->l'[i]?=l[i]?->(Dd l' off vs)[i]?=(Dd l off vs)[i]?
 | [],_,_,_,_,_,h=>h
 |v :: vs,l,l',off,i,hl,h=>by
  rw[Dd,Dd];refine M8 vs _ _ (off+1) i (by simp[Av,hl]) ?_;rw[Av,Av,ZF,ZF,hl,h]
theorem Xs{h:Nat}{U:Nat->Prop}:∀(es:List Ef) {x y:Hl},same x y U->same (Dt h es x) (Dt h es y) U
 | [],_,_,hs=>hs
 |e :: es,x,y,hs=>by
  refine Xs es ?_;rcases hs with rfl|⟨ty,cs,dI,rfl,rfl,hl,hU⟩
  .exact .inl rfl
  .cases e with
   |set h' off vs =>
    simp only[Fo]
    split
    .exact .inr ⟨ty,_,_,rfl,rfl,by rw[Dg,Dg,hl],λj hj=>M8 vs _ _ off j hl (hU j hj)⟩
    .exact .inr ⟨ty,cs,dI,rfl,rfl,hl,hU⟩
   |put h' mV =>
    simp only[Fo]
    split
    .exact .inl rfl
    .exact .inr ⟨ty,cs,dI,rfl,rfl,hl,hU⟩
theorem Ni{x y z:Hl}{U:Nat->Prop}(h1:same x y U)(h2:same y z U):same x z U:=by
 rcases h1 with rfl|⟨ty,cs,dI,rfl,rfl,hl,hU⟩
 .exact h2
 .rcases h2 with rfl|⟨ty2,cs2,cs3,e,rfl,iU,hU2⟩
  .exact .inr ⟨ty,cs,dI,rfl,rfl,hl,hU⟩
  .cases e
   exact .inr ⟨ty,cs,cs3,rfl,rfl,by rw[iU,hl],λj hj=>by rw[hU2 j hj,hU j hj]⟩
theorem Ai0{x y:Hl}{U:Nat->Prop}(h1:same x y U):same y x U:=by
 rcases h1 with rfl|⟨ty,cs,dI,rfl,rfl,hl,hU⟩
 .exact .inl rfl
 .exact .inr ⟨ty,dI,cs,rfl,rfl,hl.symm,λj hj=>(hU j hj).symm⟩
def xt(ρ:Nat×Option (Nat×Nat))(j:Nat):Prop:=match ρ.2 with
 |none=>True
 |some (off,n)=>off<=j/\j<off+n
theorem Nj{ρ:Nat×Option (Nat×Nat)}:∀(es:List Ef) (x:Hl),(∀y∈iH es,C9 y ρ=false)->same x (Dt ρ.1 es x) (xt ρ)/\(ρ.2=none->Dt ρ.1 es x=x)
 | [],x,_=>⟨.inl rfl,λ_=>rfl⟩
 |e :: es,x,h=>by
  have head:same x (Fo ρ.1 e x) (xt ρ)/\(ρ.2=none->Fo ρ.1 e x=x):=by
   obtain⟨hh,a⟩:=ρ;cases e with
   |set h' off vs =>
    have hm:=h (h',some (off,Ai vs)) (by simp[iH]);simp only[Fo]
    by_cases e:h'=hh
    .subst e
     rw[QC rfl];cases x<;>try exact⟨.inl rfl,λ_=>rfl⟩
     rename_i ty cs;cases a with
     |none=>simp[C9]at hm
     |some a =>
      obtain⟨o2,n2⟩:=a;simp only[C9,beq_self_eq_true,US,Ag,ZA]at hm;refine⟨.inr ⟨ty,cs,_,rfl,rfl,Dg _ _ _,λj hj=>Pa _ _ _ _ ?_⟩,λh=>by cases h⟩;simp only[xt]at hj;rcases hm with hm|hm
      .have:¬off<o2+n2:=by intro aC;rw[(ZG ▸ aC:Nat.blt _ _=true)]at hm;cases hm
       omega
      .have:¬o2<off+vs.length:=by intro aC;rw[(ZG ▸ aC:Nat.blt _ _=true)]at hm;cases hm
       omega
    .rw[QA e];exact⟨.inl rfl,λ_=>rfl⟩
   |put h' hl =>
    have hm:=h (h',none) (by simp[iH]);simp only[Fo]
    by_cases e:h'=hh
    .subst e;simp[C9]at hm
    .rw[QA e];exact⟨.inl rfl,λ_=>rfl⟩
  have yS:∀y∈iH es,C9 y ρ=false:=λy hy=>h y (by cases e<;>simp[iH,hy]);obtain⟨t1,t2⟩:=Nj es (Fo ρ.1 e x) yS;exact⟨Ni head.1 t1,λhn=>by show Dt ρ.1 es (Fo ρ.1 e x)=x;rw[t2 hn,head.2 hn]⟩
theorem R5{ρ:Nat×Option (Nat×Nat)}{S S':Nat->Bool}:∀(L:List (Oper×Rec)) (k:Nat) (x y:Hl),same x y (xt ρ)->(ρ.2=none->x=y)->(∀(j:Nat) (p:Oper×Rec),L[j]?=some p->S (k+j)≠S' (k+j)->∀z∈iH (L6 p.2),C9 z ρ=false)->
  same (Fl ρ.1 S L k x) (Fl ρ.1 S' L k y) (xt ρ)/\(ρ.2=none->Fl ρ.1 S L k x=Fl ρ.1 S' L k y)
 | [],_,_,_,h,hn,_=>⟨h,hn⟩
 |p :: L,k,x,y,h,hn,hS=>by
  simp only[Fl];have uL:=λ(x' y':Hl) (hs:same x' y' (xt ρ)) (he:ρ.2=none->x'=y')=>R5 (ρ:=ρ) (S:=S) (S':=S') L (k+1) x' y' hs he λj q hq hd=>hS (j+1) q (by simpa using hq) (by rwa [show k+(j+1)=k+1+j by omega]);have h0:=hS 0 p rfl;simp only[ZB]at h0;cases n9:S k<;>cases JY:S' k
  .exact uL x y h hn
  .obtain⟨a1,a2⟩:=Nj (ρ:=ρ) (L6 p.2) y (h0 (by rw[n9,JY];decide))
   exact uL x _ (Ni h a1) (λe=>by rw[QC rfl,a2 e];exact hn e)
  .obtain⟨a1,a2⟩:=Nj (ρ:=ρ) (L6 p.2) x (h0 (by rw[n9,JY];decide))
   exact uL _ y (Ni (Ai0 a1) h) (λe=>by rw[QC rfl,a2 e];exact hn e)
  .exact uL _ _ (Xs _ h) (λe=>by rw[hn e])
theorem Xx{α:Type}:∀(vs l:List α) (off i:Nat) (v:α),(i<off\/off+vs.length<=i)->Dd (Ay l i v) off vs=Ay (Dd l off vs) i v
 | [],_,_,_,_,_=>rfl
 |u :: vs,l,off,i,v,h=>by
  simp only[QH]at h;rw[Dd,Dd,<-Xx vs _ (off+1) i v (by omega)];congr 1;rw[Av,Av,Av,Av,List.set_comm _ _ (by omega)]
theorem Xy{α:Type}:∀(us vs l:List α) (o1 o2:Nat),(o1+us.length<=o2\/o2+vs.length<=o1\/us=[]\/vs=[])->Dd (Dd l o1 us) o2 vs=Dd (Dd l o2 vs) o1 us
 | [],vs,l,o1,o2,_=>rfl
 |u :: us,[],l,o1,o2,_=>rfl
 |u :: us,v :: vs,l,o1,o2,h=>by
  have h:o1+(us.length+1)<=o2\/o2+(vs.length+1)<=o1:=by
   rcases h with h|h|h|h
   .exact .inl h
   .exact .inr h
   .cases h
   .cases h
  rw[show Dd l o1 (u :: us)=Dd (Ay l o1 u) (o1+1) us from rfl,Xy us (v :: vs) (Ay l o1 u) (o1+1) o2 (by simp only[QH];omega)];rw[Xx (v :: vs) l o2 o1 u (by simp only[QH];omega)];rfl
theorem Akg{h:Nat}{e e':Ef}{y y':Nat×Option (Nat×Nat)}(hy:iH [e]=[y])(bw:iH [e']=[y'])(hm:C9 y y'=false)(x:Hl):Fo h e (Fo h e' x)=Fo h e' (Fo h e x):=by
 cases e with
 |set h1 o1 us =>
  cases e' with
  |set h2 o2 vs =>
   simp only[Fo]
   by_cases e1:h1=h<;>by_cases e2:h2=h<;>simp only[e1,e2,if_true,if_false]
   subst e1;cases x<;>try rfl
   simp only[iH,List.cons.injEq,and_true]at hy bw;subst hy bw;subst e2;simp only[C9,beq_self_eq_true,US,ZA,Ag]at hm;refine congrArg (Hl.aF _) (Xy us vs _ o1 o2 ?_).symm;rcases hm with hm|hm
   .have:¬o1<o2+vs.length:=by intro aC;rw[(ZG ▸ aC:Nat.blt _ _=true)]at hm;cases hm
    exact .inr (.inl (by omega))
   .have:¬o2<o1+us.length:=by intro aC;rw[(ZG ▸ aC:Nat.blt _ _=true)]at hm;cases hm
    exact .inl (by omega)
  |put h2 hl =>
   simp only[Fo]
   by_cases e1:h1=h<;>by_cases e2:h2=h<;>simp only[e1,e2,if_true,if_false]
   simp only[iH,List.cons.injEq,and_true]at hy bw;subst hy bw;simp[C9,e1,e2]at hm
 |put h1 hl =>
  cases e' with
  |set h2 o2 vs =>
   simp only[Fo]
   by_cases e1:h1=h<;>by_cases e2:h2=h<;>simp only[e1,e2,if_true,if_false]
   simp only[iH,List.cons.injEq,and_true]at hy bw;subst hy bw;simp[C9,e1,e2]at hm
  |put h2 iU =>
   simp only[Fo]
   by_cases e1:h1=h<;>by_cases e2:h2=h<;>simp only[e1,e2,if_true,if_false]
   simp only[iH,List.cons.injEq,and_true]at hy bw;subst hy bw;simp[C9,e1,e2]at hm
theorem Ah5(e:Ef):∃y,iH [e]=[y]:=by cases e<;>exact⟨_,rfl⟩
theorem Adn(e:Ef)(es:List Ef){y:Nat×Option (Nat×Nat)}(hy:iH [e]=[y]):iH (e :: es)=y :: iH es:=by
 cases e<;>simp only[iH,List.cons.injEq,and_true]at hy ⊢<;>exact hy
theorem Adm{h:Nat}{e:Ef}{y:Nat×Option (Nat×Nat)}(hy:iH [e]=[y]):∀(es:List Ef) (x:Hl),(∀z∈iH es,C9 y z=false)->Dt h es (Fo h e x)=Fo h e (Dt h es x)
 | [],_,_=>rfl
 |e' :: es,x,hm=>by
  obtain⟨y',bw⟩:=Ah5 e';rw[Adn e' es bw]at hm;show Dt h es (Fo h e' (Fo h e x))=Fo h e (Dt h es (Fo h e' x));rw[<-Adm hy es (Fo h e' x) λz hz=>hm z (XC _ hz)];rw[Akg hy bw (hm y' (XB ..))]
theorem Vx{h:Nat}:∀(es tG:List Ef) (x:Hl),(∀y∈iH es,∀z∈iH tG,C9 y z=false)->Dt h tG (Dt h es x)=Dt h es (Dt h tG x)
 | [],_,_,_=>rfl
 |e :: es,tG,x,hm=>by
  obtain⟨y,hy⟩:=Ah5 e;rw[Adn e es hy]at hm;show Dt h tG (Dt h es (Fo h e x))=Dt h es (Fo h e (Dt h tG x));rw[Vx es tG _ λy hy=>hm y (XC _ hy)];rw[Adm hy tG x (hm y (XB ..))]
theorem Vi{h:Nat}{S:Nat->Bool}{es:List Ef}:∀(L:List (Oper×Rec)) (k:Nat) (x:Hl),(∀(j:Nat) (p:Oper×Rec),L[j]?=some p->S (k+j)=true->∀y∈iH es,∀z∈iH (L6 p.2),C9 y z=false)->
  Fl h S L k (Dt h es x)=Dt h es (Fl h S L k x)
 | [],_,_,_=>rfl
 |p :: L,k,x,hm=>by
  simp only[Fl];have uL:=λx=>Vi (h:=h) (S:=S) (es:=es) L (k+1) x λj q hq hd=>hm (j+1) q (by simpa using hq) (by rwa [show k+(j+1)=k+1+j by omega]);cases n9:S k with
  |false=>exact uL x
  |true =>
   simp only[if_true];rw[Vx es (L6 p.2) x (hm 0 p rfl (by simpa using n9)),uL]
theorem Pf{h:Nat}{S S':Nat->Bool}:∀(L:List (Oper×Rec)) (i k:Nat) (x:Hl) (p:Oper×Rec),L[i]?=some p->S (k+i)=false->S' (k+i)=true->(∀j,j≠k+i->S' j=S j)->
  (∀(j:Nat) (q:Oper×Rec),i<j->L[j]?=some q->S (k+j)=true->∀y∈iH (L6 p.2),∀z∈iH (L6 q.2),C9 y z=false)->
  Fl h S' L k x=Dt h (L6 p.2) (Fl h S L k x)
 | [],i,_,_,_,h,_,_,_,_=>by simp at h
 |q :: L,0,k,x,p,hp,h1,h2,hS,hm=>by
  simp at hp;subst hp;simp only[ZB]at h1 h2;simp only[Fl,h1,h2,if_true,XE,if_false];have e:Fl h S' L (k+1) (Dt h (L6 q.2) x)=Fl h S L (k+1) (Dt h (L6 q.2) x):=by
   have:∀(L:List (Oper×Rec)) (m:Nat) (x:Hl),k<m->Fl h S' L m x=Fl h S L m x:=by
    intro L
    induction L with
    |nil=>intro m x _;rfl
    |cons r L ih=>intro m x aC;simp only[Fl];rw[hS m (by omega)];exact ih _ _ (by omega)
   exact this L (k+1) _ (by omega)
  rw[e];exact Vi L (k+1) x λj r hr hd=>hm (j+1) r (by omega) (by simpa using hr) (by rwa [show k+(j+1)=k+1+j by omega])
 |q :: L,i+1,k,x,p,hp,h1,h2,hS,hm=>by
  simp only[Fl];rw[hS k (by omega)];exact Pf L i (k+1) _ p (by simpa using hp) (by rwa [show k+1+i=k+(i+1) by omega]) (by rwa [show k+1+i=k+(i+1) by omega]) (λj hj=>hS j (by omega))
   λj r hj hr hd=>hm (j+1) r (by omega) (by simpa using hr) (by rwa [show k+(j+1)=k+1+j by omega])
theorem Uq{n:Nat}:∀ {es:List Edge},n∈Dk es->∃e∈es,Region.binds .any e=true/\e.on=n
 | [],h=>by simp[Dk]at h
 |e :: es,h=>by
  simp only[Dk,YB]at h;rcases h with h|h
  .refine⟨e,XB ..,?_⟩
   cases hg:e.ground<;>simp only[hg,YQ,List.not_mem_nil]at h<;>exact⟨by simp[Region.binds,hg],h.symm⟩
  .obtain⟨e',h1,h2⟩:=Uq h
   exact⟨e',XC _ h1,h2⟩
theorem Vy{e:Edge}:∀ {es:List Edge},e∈es->Region.binds .any e=true->e.on∈Dk es
 | [],h,_=>by cases h
 |e' :: es,h,hb=>by
  simp only[Dk,YB];rcases List.mem_cons.1 h with rfl|h
  .left
   cases hg:e.ground<;>simp[Region.binds,hg]at hb ⊢
  .exact .inr (Vy h hb)
theorem Uo{x:Nat}:∀ {l t:List Nat},x∈Aei l t->x∈l\/x∈t
 | [],_,h=>.inr h
 |y :: l,t,h=>by
  rcases Uo (l:=l) h with h|h
  .exact .inl (XC _ h)
  .unfold MS at h
   split at h
   .exact .inr h
   .rcases List.mem_cons.1 h with rfl|h
    .exact .inl (XB ..)
    .exact .inr h
theorem Amx{x y:Nat}{l:List Nat}(h:x∈MS y l):x=y\/x∈l:=by
 unfold MS at h
 split at h
 .exact .inr h
 .exact List.mem_cons.1 h
theorem Ur{acc:List (List Nat)}{x:Nat}:∀ {l:List Nat},x∈Q9 acc l->∃i∈l,x=i\/x∈(nth acc i).getD []
 | [],h=>by simp[Q9]at h
 |i :: l,h=>by
  simp only[Q9]at h;rcases Uo h with h|h
  .exact⟨i,XB ..,Amx h⟩
  .obtain⟨j,h1,h2⟩:=Ur h
   exact⟨j,XC _ h1,h2⟩
theorem Ut{n:Nat}:∀ {l:List Nat},Zr n l=true->∀x∈l,x<n
 | [],_,x,h=>by cases h
 |y :: l,h,x,hx=>by
  simp only[Zr,QE,ZG]at h;rcases List.mem_cons.1 hx with rfl|hx
  .exact h.1
  .exact Ut h.2 x hx
theorem L9:∀ {os:List Oper} {k:Nat},Ho os k=true->∀ {j:Nat} {o:Oper},os[j]?=some o->∀x∈Dk o.after.toList,x<k+j
 | [],_,_,j,o,h=>by simp at h
 |o0 :: os,k,hk,j,o,h=>by
  simp only[Ho,QE]at hk;cases j with
  |zero=>simp at h;subst h;exact Ut hk.1
  |succ j =>
   simp at h;intro x hx;have:=L9 hk.2 h x hx;omega
theorem V9{S:Nat->Prop}{all:List Oper}(tw:∀(k:Nat) (o:Oper),all[k]?=some o->S k->∀x∈Dk o.after.toList,S x)(gE:Ho all 0=true):
  ∀(os:List Oper) (acc:List (List Nat)),(∀(j:Nat) (o:Oper),os[j]?=some o->all[acc.length+j]?=some o)->
   (∀(j:Nat) (o:Oper) (l:List Nat),all[j]?=some o->acc[j]?=some l->(∀x∈Dk o.after.toList,S x)->∀x∈l,S x)->
   ∀(j:Nat) (o:Oper) (l:List Nat),all[j]?=some o->(Ix os acc)[j]?=some l->(∀x∈Dk o.after.toList,S x)->∀x∈l,S x
 | [],acc,_,ny=>λj o l ho hl=>ny j o l ho hl
 |o0 :: os,acc,oW,ny=>by
  have h0:=oW 0 o0 rfl;simp only[ZB]at h0;refine V9 tw gE os (acc++[Q9 acc (Dk o0.after.toList)]) (λj o h=>?_) (λj o l ho hl he x hx=>?_)
  .have:=oW (j+1) o (by simpa using h)
   simp only[QF,List.length_singleton]
   rwa [show acc.length+1+j=acc.length+(j+1) by omega]
  .by_cases hj:j<acc.length
   .rw[QM hj]at hl
    exact ny j o l ho hl he x hx
   .have hje:j=acc.length:=by
     have:=(List.getElem?_eq_some_iff.1 hl).1;simp at this;omega
    subst hje;rw[h0]at ho;cases ho;simp at hl;subst hl;obtain⟨i,hi,hx⟩:=Ur hx;have oa:=he i hi;rcases hx with rfl|hx
    .exact oa
    .have aC:i<acc.length:=by have:=L9 gE h0 i hi;omega
     have hai:all[i]?=some (all[i]'(by have:=(List.getElem?_eq_some_iff.1 h0).1;omega)):=QB _;rw[Aj,QB aC]at hx;exact ny i _ _ hai (QB aC) (tw i _ hai oa) x hx
theorem Na{all:List Oper}{bs:List (List Nat)}{i:Nat}{o:Oper}{f:FP}:∀ {os:List Oper} {fs:List FP} {j:Nat},Mv all bs i o f os fs j=true->∀ {m:Nat} {o':Oper} {f':FP},os[m]?=some o'->fs[m]?=some f'->
  NI all o f o' f'=false\/i∈(nth bs (j+m)).getD []
 | [],_,_,_,m,o',f',h,_=>by simp at h
 |_ :: _,[],_,_,m,o',f',_,h=>by simp at h
 |o1 :: os,f1 :: fs,j,h,m,o',f',h1,h2=>by
  simp only[Mv,QE,XS,XL,D9]at h;cases m with
  |zero=>simp at h1 h2;subst h1 h2;exact h.1
  |succ m =>
   simp at h1 h2;have:=Na h.2 h1 h2
   rwa [show j+1+m=j+(m+1) by omega]at this
theorem Qo{all:List Oper}{bs:List (List Nat)}:∀ {os:List Oper} {fs:List FP} {k:Nat},indep all bs os fs k=true->∀ {i j:Nat} {o o':Oper} {f f':FP},i<j->os[i]?=some o->os[j]?=some o'->fs[i]?=some f->fs[j]?=some f'->
  NI all o f o' f'=false\/(k+i)∈(nth bs (k+j)).getD []
 | [],_,_,_,i,j,o,o',f,f',_,h,_,_,_=>by simp at h
 |_ :: _,[],_,_,i,j,o,o',f,f',_,_,_,h,_=>by simp at h
 |o1 :: os,f1 :: fs,k,h,i,j,o,o',f,f',OR,h1,h2,h3,h4=>by
  simp only[indep,QE]at h;obtain⟨m,rfl⟩:∃m,j=m+1:=⟨j-1,by omega⟩;simp at h2 h4;cases i with
  |zero =>
   simp at h1 h3;subst h1 h3;have:=Na h.1 h2 h4;simpa[show k+1+m=k+(m+1) by omega] using this
  |succ i =>
   simp at h1 h3;have:=Qo h.2 (i:=i) (j:=m) (by omega) h1 h2 h3 h4
   rwa [show k+1+i=k+(i+1) by omega,show k+1+m=k+(m+1) by omega]at this
theorem Up{s:Nat}:∀ {xs:List Operand},s∈xs.flatMap C4->s∈Zg xs
 | [],h=>by simp at h
 |x :: xs,h=>by
  simp only[List.flatMap_cons,YB]at h;simp only[Zg,YB];rcases h with h|h
  .left
   cases x with
   |tmp _=>simpa[C4,Aml] using h
   |_=>simp[C4]at h
  .exact .inr (Up h)
theorem Fw{t:List Nat}:∀ {l:List Nat},Qc l t=false->∀x∈l,x ∉ t
 | [],_,x,h=>by cases h
 |y :: l,h,x,hx=>by
  simp only[Qc,QU]at h;rcases List.mem_cons.1 hx with rfl|hx
  .intro hm;rw[(D9 _ _).2 hm]at h;cases h.1
  .exact Fw h.2 x hx
theorem Xc{all:List Oper}{o:Oper}{j:Nat}{want:Bool}{s:Nat}(hg:o.guard=some (j,want))(h:(nth all j).bind (·.dst)=some s):s∈Qs all o.guard:=by
 rw[hg];simp only[Qs];cases hj:nth all j with
 |none=>rw[hj]at h;cases h
 |some oj =>
  rw[hj]at h;simp only[ZV]at h;simp[h]
section
variable {P:Program} {ops:Array Oper} {gl:List (Nat×SV)} {B:Bs} {N:Nat} {σ aL:Sy} {rs:List Rec}
structure Ctx(P:Program)(ops:Array Oper)(gl:List (Nat×SV))(N:Nat)(σ aL:Sy)(rs:List Rec):Prop where
 len:rs.length=ops.size
 step:∀(i:Nat) (o:Oper) (rec:Rec),ops[i]?=some o->rs[i]?=some rec->∃qD,tS qD/\qD.fr.length=N/\(Bf qD,Aq qD.hp)=Cs N aL.gm ((ops.toList.zip rs).take i) (Bf σ,Aq σ.hp)/\Aop P gl ops.toList o aL.gm qD rec
 um:Ho ops.toList 0=true
 ind:indep ops.toList (Ix ops.toList []) ops.toList (rs.map tQ) 0=true
def xS(N:Nat)(ops:Array Oper)(σ aL:Sy)(rs:List Rec)(S:Nat->Bool):X:=Em N aL.gm S (ops.toList.zip rs) 0 (Bf σ,Aq σ.hp)
structure Down(ops:Array Oper)(S:Nat->Bool):Prop where
 down:∀(k:Nat) (o:Oper),ops[k]?=some o->S k=true->∀x∈Dk o.after.toList,S x=true
theorem Ad6(h:Ctx P ops gl N σ aL rs){S:Nat->Bool}(hd:Down ops S){j:Nat}{o:Oper}(ho:ops[j]?=some o)(he:∀x∈Dk o.after.toList,S x=true){i:Nat}(hi:i∈(nth (Ix ops.toList []) j).getD []):S i=true:=by
 rw[Aj]at hi;cases hl:(Ix ops.toList [])[j]? with
 |none=>rw[hl]at hi;simp at hi
 |some l =>
  rw[hl]at hi;refine V9 (S:=λi=>S i=true) (all:=ops.toList) (λk o ho hs=>hd.down k o (by rw[<-QZ];exact ho) hs) h.um ops.toList [] (by simp) (by simp) j o l (by rw[QZ];exact ho) hl he i hi
theorem Z7(rec:Rec):(tQ rec).wr=iH (L6 rec):=by
 cases rec with
 |none=>rfl
 |some p=>obtain⟨a,b,c⟩:=p;rfl
theorem Pp(h:Ctx P ops gl N σ aL rs){S:Nat->Bool}(hd:Down ops S){i:Nat}{o:Oper}{rec:Rec}(ho:ops[i]?=some o)(hr:rs[i]?=some rec)(hi:S i=false)(he:∀x∈Dk o.after.toList,S x=true)
  {k:Nat} {p:Oper×Rec} (hk:(ops.toList.zip rs)[k]?=some p) (qB:S k≠decide (k<i)):
  (∀s,p.1.dst=some s->s ∉ looks ops.toList o)/\(∀z∈iH (L6 p.2),∀y∈CK (tQ rec),C9 z y=false)/\(∀z∈iH (L6 p.2),∀y∈iH (L6 rec),C9 z y=false)/\(k≠i->∀s,p.1.dst=some s->o.dst≠some s)/\k≠i:=by
 have hki:k≠i:=by rintro rfl;apply qB;rw[hi];simp
 rw[List.getElem?_zip_eq_some]at hk;obtain⟨fH,aY⟩:=hk;have JF:ops[k]?=some p.1:=by rw[<-QZ];exact fH
 by_cases aC:k<i
 .have n9:S k=false:=by
   cases hs:S k with
   |false=>rfl
   |true=>exact absurd (by rw[hs];simp[aC]) qB
  rcases Qo h.ind aC fH (by rw[QZ];exact ho) (by rw[QS,aY];rfl) (by rw[QS,hr];rfl) with hc|hc
  .simp only[NI,QU]at hc
   obtain⟨⟨⟨⟨⟨c1,c2⟩,c3⟩,c4⟩,c5⟩,c6⟩:=hc;rw[Z7]at c4 c5;rw[Z7]at c5;exact⟨λs hs=>Fw c1 s (by simp[hs,Wy]),λz hz y hy=>Fv c4 z hz y hy,λz hz y hy=>Fv c5 z hz y hy,λ_ s hs e=>Fw c2 s (by simp[hs,Wy]) (by simp[e,Wy]),hki⟩
  .simp only[XF]at hc
   rw[Ad6 h hd ho he hc]at n9;cases n9
 .have CX:i<k:=by omega
  have n9:S k=true:=by
   cases hs:S k with
   |true=>rfl
   |false=>exact absurd (by rw[hs];simp[aC]) qB
  rcases Qo h.ind CX (by rw[QZ];exact ho) fH (by rw[QS,hr];rfl) (by rw[QS,aY];rfl) with hc|hc
  .simp only[NI,QU]at hc
   obtain⟨⟨⟨⟨⟨c1,c2⟩,c3⟩,c4⟩,c5⟩,c6⟩:=hc;rw[Z7]at c4 c5;rw[Z7]at c5 c6;refine⟨λs hs=>Fw c3 s (by simp[hs,Wy]),λz hz y hy=>Fv c6 z hz y hy,λz hz y hy=>by rw[Rl];exact Fv c5 y hy z hz,λ_ s hs e=>Fw c2 s (by simp[e,Wy]) (by simp[hs,Wy]),hki⟩
  .simp only[XF]at hc
   have:=Ad6 h hd JF (hd.down k _ JF n9) hc;rw[this]at hi;cases hi
theorem ib(h:Ctx P ops gl N σ aL rs){S:Nat->Bool}(hd:Down ops S){i:Nat}{o:Oper}{rec:Rec}(ho:ops[i]?=some o)(hr:rs[i]?=some rec)(hi:S i=false)(he:∀x∈Dk o.after.toList,S x=true){s:Nat}(hs:s∈looks ops.toList o):
  (xS N ops σ aL rs S).1 s=(Cs N aL.gm ((ops.toList.zip rs).take i) (Bf σ,Aq σ.hp)).1 s:=by
 rw[<-Nt (ops.toList.zip rs) i 0];refine Kq _ 0 _ _ rfl λk p hk ac7=>?_;simp only[XF]
 by_cases e:S k=decide (k<i)
 .exact e
 .exact absurd hs ((Pp h hd ho hr hi he hk e).1 s ac7)
theorem S7(h:Ctx P ops gl N σ aL rs){S:Nat->Bool}(hd:Down ops S){i:Nat}{o:Oper}{rec:Rec}(ho:ops[i]?=some o)(hr:rs[i]?=some rec)(hi:S i=false)(he:∀x∈Dk o.after.toList,S x=true){ρ:Nat×Option (Nat×Nat)}
  (GX:ρ∈CK (tQ rec)\/ρ∈iH (L6 rec)):same ((xS N ops σ aL rs S).2 ρ.1) ((Cs N aL.gm ((ops.toList.zip rs).take i) (Bf σ,Aq σ.hp)).2 ρ.1) (xt ρ)/\
   (ρ.2=none->(xS N ops σ aL rs S).2 ρ.1=(Cs N aL.gm ((ops.toList.zip rs).take i) (Bf σ,Aq σ.hp)).2 ρ.1):=by
 rw[<-Nt (ops.toList.zip rs) i 0,xS,H7,H7];refine R5 _ 0 _ _ (.inl rfl) (λ_=>rfl) λk p hk qB z hz=>?_;simp only[XF]at qB;obtain⟨_,a2,a3,_⟩:=Pp h hd ho hr hi he hk qB;rcases GX with GX|GX
 .exact a2 z hz ρ GX
 .exact a3 z hz ρ GX
theorem Aim(h:Ctx P ops gl N σ aL rs){S S':Nat->Bool}(hd:Down ops S){i:Nat}{o:Oper}{rec:Rec}(ho:ops[i]?=some o)(hr:rs[i]?=some rec)(hi:S i=false)(he:∀x∈Dk o.after.toList,S x=true)(xB:S' i=true)(hS:∀j,j≠i->S' j=S j):
  xS N ops σ aL rs S'=Eg N aL.gm o rec (xS N ops σ aL rs S):=by
 have aC:i<rs.length:=(List.getElem?_eq_some_iff.1 hr).1;have hp:(ops.toList.zip rs)[i]?=some (o,rec):=by rw[List.getElem?_zip_eq_some];exact⟨by rw[QZ];exact ho,hr⟩
 apply YJ
 .funext s
  by_cases uX:o.dst=some s/\s<N
  .-- tH slot that it writes
   have key:∀(L:List (Oper×Rec)) (i k:Nat) (x:X),L[i]?=some (o,rec)->S' (k+i)=true->(∀(j:Nat) (q:Oper×Rec),i<j->L[j]?=some q->q.1.dst=some s->S' (k+j)=false)->(Em N aL.gm S' L k x).1 s=(Eg N aL.gm o rec x).1 s:=by
    intro L
    induction L with
    |nil=>intro i k x h;simp at h
    |cons q L ih =>
     intro i k x hL h1 h2;cases i with
     |zero =>
      simp at hL;subst hL;simp only[ZB]at h1;simp only[Em,h1,if_true];have:(Em N aL.gm S' L (k+1) (Eg N aL.gm o rec x)).1 s=(Em N aL.gm (λ_=>false) L (k+1) (Eg N aL.gm o rec x)).1 s :=
       Kq L (k+1) _ _ rfl λj q hq JN=>by have:=h2 (j+1) q (by omega) (by simpa using hq) JN;rwa [show k+(j+1)=k+1+j by omega]at this
      rw[this,Kr L (k+1) _ λ_ _=>rfl]
     |succ i =>
      simp only[Em];rw[ih i (k+1) _ (by simpa using hL) (by rwa [show k+1+i=k+(i+1) by omega]) λj q hj hq JN=>by have:=h2 (j+1) q (by omega) (by simpa using hq) JN;rwa [show k+(j+1)=k+1+j by omega]at this];cases rec with
      |none=>simp[Eg,Hh,uX.1,uX.2]
      |some p=>obtain⟨a,b,c⟩:=p;simp[Eg,Hh,uX.1,uX.2]
   have:=key (ops.toList.zip rs) i 0 (Bf σ,Aq σ.hp) hp (by simpa using xB) λj q hj hq JN=>by
    simp only[XF];rw[hS j (by omega)];cases hs:S j with
    |false=>rfl
    |true =>
     obtain⟨_,_,_,a4,_⟩:=Pp h hd ho hr hi he hq (by rw[hs];simp;omega);exact absurd uX.1 (a4 (by omega) s JN)
   rw[xS,this];cases rec with
   |none=>simp[Eg,Hh,uX.1,uX.2]
   |some p=>obtain⟨a,b,c⟩:=p;simp[Eg,Hh,uX.1,uX.2]
  .have e1:(Eg N aL.gm o rec (xS N ops σ aL rs S)).1 s=(xS N ops σ aL rs S).1 s:=by
    cases rec with
    |none=>simp only[Eg,Hh,QA uX]
    |some p=>obtain⟨a,b,c⟩:=p;simp only[Eg,Hh,QA uX]
   rw[e1]
   -- a slot that it a30 not write
   have key:∀(L:List (Oper×Rec)) (i k:Nat) (x y:X),x.1 s=y.1 s->L[i]?=some (o,rec)->(∀j,j≠k+i->S' j=S j)->(Em N aL.gm S' L k x).1 s=(Em N aL.gm S L k y).1 s:=by
    intro L
    induction L with
    |nil=>intro i k x y _ h;simp at h
    |cons q L ih =>
     intro i k x y TX hL h2;have nw:∀z:X,q=(o,rec)->(Eg N aL.gm q.1 q.2 z).1 s=z.1 s:=by
      rintro z rfl;cases rec with
      |none=>simp only[Eg,Hh,QA uX]
      |some p=>obtain⟨a,b,c⟩:=p;simp only[Eg,Hh,QA uX]
     cases i with
     |zero =>
      simp at hL;simp only[Em];refine Kq L (k+1) _ _ ?_ λj q' _ _=>h2 _ (by omega);have a1:(if S' k then Eg N aL.gm q.1 q.2 x else x).1 s=x.1 s:=by split;exact nw x hL;rfl
      have a2:(if S k then Eg N aL.gm q.1 q.2 y else y).1 s=y.1 s:=by split;exact nw y hL;rfl
      rw[a1,a2,TX]
     |succ i =>
      simp only[Em];rw[h2 k (by omega)];refine ih i (k+1) _ _ ?_ (by simpa using hL) λj hj=>h2 j (by omega)
      split
      .exact Po TX
      .exact TX
   exact key _ i 0 _ _ rfl hp (by simpa using hS)
 .funext k
  rw[Y7,xS,xS,H7,H7];refine Pf _ i 0 _ (o,rec) hp (by simpa using hi) (by simpa using xB) (by simpa using hS) λj q hj hq hs y hy z hz=>?_;simp only[XF]at hs;obtain⟨_,_,a3,_⟩:=Pp h hd ho hr hi he hq (by rw[hs];simp;omega);rw[Rl];exact a3 z hz y hy
end
end Go.Sx
