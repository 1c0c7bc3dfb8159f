/- A part of the proof: contracts of functions, or the executor and its soundness. No conditions. -/
import Derived.ScopeJumps
import Derived.Test.YtdoogdbjiijifaaGreatDoorE7Pal
namespace Go.Sx
open Go
theorem fE.refl(s:SV):fE s s:=λ_ _ _ h=>h
theorem vT.refl(ls:List Hl):vT ls ls:=λ_ _ _ h=>h
section
variable {P:Program} {cx:Cx}
def Im(tmps:Array Value):ResultVar->Sem Value
 |.tmp t=>pure (tmps.getD t undef)
 |.cell ad t=>do loadVar t (<-asAddr (tmps.getD ad undef))
theorem Jw(fn:Func)(tmps:Array Value):results fn tmps=(do let vs<-fn.results.mapM (Im tmps);pure (if h:vs.size=1 then vs[0] else .tuple vs)):=by
 unfold results;congr 1
theorem H8(hc:Az P cx){B:Bs}{N:Nat}(hg:Ep B cx.gl){E:Env}{a:Act}{w:World}{σ:Sy}(hs:bX B N E a w σ):∀(rs:List ResultVar) (vs:List SV),I3 cx σ rs=some vs->
  ∃us,(rs.mapM (Im a.tmps)).run P w=.ok us w/\A1 E w vs us
 | [],vs,h=>by simp[I3]at h;subst h;exact⟨[],rfl,.nil⟩
 |.tmp t :: rs,vs,h=>by
  simp only[I3]at h
  split at h
  .rename_i v af hv kL
   cases h;obtain⟨us,h1,h2⟩:=H8 hc hg hs rs af kL;have hr:=Aa hv hg hs.st (λ_ _=>rfl) trivial;exact⟨a.tmps.getD t undef :: us,by simp only[VM,Im,Sem.run_bind,Sem.run_pure,Result.andThen_ok,h1],.cons hr h2⟩
  .cases h
 |.cell ad t :: rs,vs,h=>by
  simp only[I3]at h
  split at h
  .rename_i hd off n af hv hn kL
   split at h
   .rename_i ty cs hh
    split at h
    .rename_i hb
     split at h
     .rename_i v hp
      cases h;rw[Af]at hb;have hle:=XA hb;rw[Ax,A5]at hp;obtain⟨us,h1,h2⟩:=H8 hc hg hs rs af kL;obtain⟨b,gA,hx⟩:=(Aa hv hg hs.st (λ_ _=>rfl) trivial).dW;have hk:=hs.st.heap hd;rw[Bx hh]at hk;obtain⟨b',C,k1,_,k3,k4,_,_⟩:=hk.eU;obtain rfl:b=b':=Option.some.inj (gA.symm.trans k1);obtain⟨ti,cY,aM⟩:=bF hn;have jJ:=Abt (off:=off) (n:=n) k4 rfl (λ_ _ _=>rfl);obtain⟨p1,p2⟩:=Gb hp jJ;have hlen:((C.toList.drop off).take n).length=n:=by rw[<-jJ.1];simp;omega
      have aG:=Fm (hc.ti cY) (w:=w) (b:=b) (off:=off) (vs:=(C.toList.drop off).take n) (λj v hj=>by
       rw[QL]at hj
       split at hj
       .rw[XL]at hj
        rw[cell_of_row w b (off+j) C ty (0,0) k3];simpa using hj
       .cases hj) (by rw[hlen,aM]) (dJ cY) p1
      have hx:a.tmps.getD ad undef=.pointer (some ⟨b,off,none⟩):=hx;have hl:(loadVar t ⟨b,off,none⟩).run P w=.ok (if cG cx t then .agg ⟨(C.toList.drop off).take n⟩ else ((C.toList.drop off).take n).headD undef) w:=by
       simpa only[Instr.loadAt,Instr.sureAddr,Sem.run_bind,Sem.run_pure,Result.andThen_ok] using aG
      refine⟨_ :: us,?_,.cons p2 h2⟩;have aP:(Im a.tmps (.cell ad t)).run P w=.ok (if cG cx t then .agg ⟨(C.toList.drop off).take n⟩ else ((C.toList.drop off).take n).headD undef) w:=by
       simp only[Im,hx,asAddr,Sem.run_bind,Sem.run_pure,Result.andThen_ok,hl]
      simp only[VM,Sem.run_bind,aP,Result.andThen_ok,h1,Sem.run_pure]
     .cases h
    .cases h
   .cases h
  .cases h
theorem bO.cO{E:Env}{w:World}{hp:List Hl}{h:Nat}(hk:bO E w h (Ap hp h)):bO E w h (Ap (cO dn hp) h):=by
 simp only[Ap,Ah,He]at hk ⊢;cases hl:hp[h]? with
 |none=>rw[hl]at hk;exact hk
 |some l =>
  rw[hl]at hk;cases l with
  |aE ty cs =>
   simp only[QO,XB]at hk ⊢;obtain⟨b,C,k1,k2,k3,k4,k5,k6⟩:=hk.eU;have hn:A1 E w (loose.aF (norm.aN dn cs)) C.toList:=by
    rw[Cf,Cl];exact (k4.map _ λs v _ h=>h.norm).map _ λs v _ h=>h.loose
   exact⟨b,C,k1,k2,k3,by have:=hn.1;simpa using this.symm,λi s v p q=>hn.2 i s v p (by simpa using q),λv hv=>k5 v (by simpa using hv),k6⟩
  |_=>exact hk
theorem J3(ntmps:Nat)(args:List SV)(s:Nat)(g:G)(h:Au (D1 ntmps args) s=some g):∃v,args[s]?=some v/\g=⟨[],none,none,v⟩:=by
 rw[D5]at h;unfold D1 at h
 by_cases aA:s<args.length
 .rw[QJ (by simpa using aA)]at h
  simp[aA]at h;exact⟨args[s],by simp[aA],h.symm⟩
 .rw[QU (by simp;omega)]at h
  rw[List.getElem?_replicate]at h
  split at h<;>simp at h
theorem Qb{E E':Env}{w:World}{h k:Nat}(hI:E'.I=E.I)(nL:E'.τ k=E.τ h):∀ {vs:List SV} {us:List Value},Uy h vs=true->A1 E w vs us->A1 E' w (Ro h k vs) us
 | [],us,_,hr=>⟨hr.1,by simp[Ro]⟩
 |v :: vs,[],_,hr=>absurd hr.1 (by simp)
 |v :: vs,u :: us,ho,hr=>by
  have o6:A1 E w vs us:=⟨by have:=hr.1;simpa using this,λi s v a b=>hr.2 (i+1) s v a b⟩;have OJ:=hr.2 0 v u rfl rfl
  by_cases hv:∃nl n h',v=.bY nl n h'
  .obtain⟨nl,n,h',rfl⟩:=hv
   simp only[Uy,QB,XI]at ho;obtain⟨rfl,ho⟩:=ho;obtain⟨ht,a,m,c,t1,t2⟩:=OJ.iO;exact .cons (.bY ht ⟨a,m,c,by rw[nL];exact t1,t2⟩) (Qb hI nL ho o6)
  .have h1:Uy h (v :: vs)=(Ak v&&Uy h vs):=by
    cases v<;>first|rfl|exact absurd ⟨_,_,_,rfl⟩ hv
   have h2:Ro h k (v :: vs)=v :: Ro h k vs:=by
    cases v<;>first|rfl|exact absurd ⟨_,_,_,rfl⟩ hv
   rw[h1,QB]at ho;rw[h2];exact .cons (OJ.plain hI ho.1) (Qb hI nL ho.2 o6)
theorem Qw(hc:Az P cx){B:Bs}{N:Nat}(hg:Ep B cx.gl){E':Env}{a':Act}{w':World}{aJ:Sy}(cJ:bX B N E' a' w' aJ){fn:Func}{m:Nat}(eM:∀h,B.cS h≠none\/B.nF h≠none\/B.nG h≠none->h<m){r:SV}{aI:List Hl}(hk:match I3 cx aJ fn.results.toList with
    |some vs=>DC cx m vs aJ λr' eG=>Fin r' r eG aI
    |none=>False):∃v,(results fn a'.tmps).run P w'=.ok v w'/\∃tC E',Ending.returned v=.returned tC/\B8 B E' w'/\(∀h,h<aI.length->bO E' w' h (Ap aI h))/\Rel E' w' r tC:=by
 split at hk
 .rename_i vs kL
  obtain⟨us,u1,u2⟩:=H8 hc hg cJ fn.results.toList vs kL;have aB:=cJ.st.base;have kU:(results fn a'.tmps).run P w'=.ok (if h:(⟨us⟩:Array Value).size=1 then (⟨us⟩:Array Value)[0] else .tuple ⟨us⟩) w':=by
   rw[Jw,Array.mapM_eq_mapM_toList];simp only[Sem.run_bind,Sem.run_map,u1,Result.andThen_ok,Sem.run_pure]
  unfold DC at hk;rw[hc.D]at hk
  split at hk
  .obtain⟨k1,k2,k3⟩:=hk
   refine⟨_,kU,_,E',rfl,aB,λh aA=>?_,?_⟩
   .refine k2 h E' w' ?_
    refine bO.cO ?_;have:=cJ.st.heap h;have eC:h<m:=by
     rw[I9,Ax,ZF]at k3;omega
    simp only[Ap,Ah,Ax]at this ⊢;rw[QL,QE eC];exact this
   .exact k1 E' w' _ (P9 u2).norm.loose
  .rename_i h _
   split at hk
   .rename_i ty n sz gr f dZ hh
    simp only[QB]at dZ;obtain⟨⟨c1,c2⟩,c3⟩:=dZ;have c1:=XA c1;obtain⟨k1,k2,k3⟩:=hk;have hm:m<=aJ.hp.length:=by
     rw[Ah]at hh;have:=(List.getElem?_eq_some_iff.1 hh).1;omega
    let O2:Nat->Option Nat:=λb=>(E'.O b).bind λj=>if j<m then some j else if j=h then some m else none
    let E2:Env:=⟨λk=>if k<m then E'.β k else if k=m then E'.β h else none,λk=>if k<m then E'.τ k else if k=m then E'.τ h else none,O2,λk=>if k<m then E'.κ k else none,λk=>if k<m then E'.ζ k else if k=m then E'.ζ h else none,E'.I⟩
    have sT:B8 B E2 w':=by
     refine⟨aB.os,aB.tape,aB.output,aB.size,aB.old,aB.I0,aB.eJ,aB.cE,λb j hO=>?_,⟨λk b hk=>?_,λk v hk=>?_,λk z hk=>?_⟩⟩
     .have hO:(E'.O b).bind (λj=>if j<m then some j else if j=h then some m else none)=some j:=hO
      cases ia:E'.O b with
      |none=>rw[ia]at hO;cases hO
      |some q=>exact aB.dG b q ia
     .show (if k<m then E'.β k else if k=m then E'.β h else none)=some b
      rw[QE (eM k (.inl (by rw[hk];simp)))];exact aB.cS.β k b hk
     .show Pw v (if k<m then E'.τ k else if k=m then E'.τ h else none)
      rw[QE (eM k (.inr (.inl (by rw[hk];simp))))];exact aB.cS.τ k v hk
     .show (if k<m then E'.ζ k else if k=m then E'.ζ h else none)=some z
      rw[QE (eM k (.inr (.inr (by rw[hk];simp))))];exact aB.cS.ζ k z hk
    have hO1:∀b k,k<m->E'.O b=some k->O2 b=some k:=λb k hk hb=>by simp[O2,hb,hk]
    have vK:∀b,E'.O b=some h->O2 b=some m:=λb hb=>by
     simp only[O2,hb,YD];rw[QD (by omega)];simp
    refine⟨_,kU,_,E2,rfl,sT,λk aA=>?_,?_⟩
    .refine k2 k E2 w' ?_
     have hlen:(cO dn (takeN m aJ.hp++[.own ty n sz gr f])).length=m+1:=by
      rw[I9,Ax,QW,ZF,Nat.min_eq_left hm];rfl
     rw[hlen]at k3;have o6:(takeN m aJ.hp).length=m:=by rw[Ax,ZF,Nat.min_eq_left hm]
     have bD:=cJ.st.heap
     by_cases w7:k<m
     .have h1:Ap (cO dn (takeN m aJ.hp++[.own ty n sz gr f])) k=Ap (cO dn (takeN m aJ.hp)) k:=by
       simp only[Ap,Ah,He];rw[QJ (by omega)]
      rw[h1];have h2:bO E' w' k (Ap (cO dn (takeN m aJ.hp)) k):=by
       refine bO.cO ?_;have:=bD k;simp only[Ap,Ah,Ax]at this ⊢;rw[QL,QE w7];exact this
      obtain⟨l,hl⟩:∃l,(cO dn (takeN m aJ.hp))[k]?=some l:=⟨_,QA (by rw[I9];omega)⟩;have hle:Ap (cO dn (takeN m aJ.hp)) k=l:=by simp only[Ap,Ah,hl,XB]
      rw[hle]at h2 ⊢;exact h2.move (Ft c3 hl) rfl (QE w7) (QE w7) (QE w7) λb hb=>hO1 b k w7 hb
     .obtain rfl:k=m:=by omega
      have h1:Ap (cO dn (takeN k aJ.hp++[.own ty n sz gr f])) k=.own ty (.a (dn.i n)) sz gr f:=by
       simp only[Ap,Ah,He];rw[QU (by omega),o6,UC];rfl
      rw[h1];have h2:=bD h;rw[Bx hh]at h2;have h3:bO E' w' h (.own ty (.a (dn.i n)) sz gr f):=h2;refine h3.move trivial rfl ?_ ?_ ?_ vK
      .show (if k<k then E'.β k else if k=k then E'.β h else none)=E'.β h
       rw[QD (by omega),QE rfl]
      .show (if k<k then E'.τ k else if k=k then E'.τ h else none)=E'.τ h
       rw[QD (by omega),QE rfl]
      .show (if k<k then E'.ζ k else if k=k then E'.ζ h else none)=E'.ζ h
       rw[QD (by omega),QE rfl]
    .have TM:E2.τ m=E'.τ h:=by
      show (if m<m then E'.τ m else if m=m then E'.τ h else none)=E'.τ h;rw[QD (by omega),QE rfl]
     have aY:A1 E2 w' (Ro h m vs) us:=Qb (E:=E') (E':=E2) rfl TM c2 u2;exact k1 E2 w' _ (P9 aY).norm.loose
   .exact hk.elim
 .exact hk.elim
theorem Wc(hc:Az P cx){B:Bs}{N:Nat}(hg:Ep B cx.gl){E':Env}{a':Act}{w':World}{aJ:Sy}(cJ:bX B N E' a' w' aJ){fn:Func}{m:Nat}(eM:∀h,B.cS h≠none\/B.nF h≠none\/B.nG h≠none->h<m){r:SV}{aI:List Hl}(hk:match I3 cx aJ fn.results.toList with
    |some vs=>MJ cx m vs aJ λr' eG=>Fin r' r eG aI
    |none=>False):∃v,(results fn a'.tmps).run P w'=.ok v w'/\∃tC E',Ending.returned v=.returned tC/\B8 B E' w'/\(∀h,h<aI.length->bO E' w' h (Ap aI h))/\Rel E' w' r tC:=by
 split at hk
 .rename_i vs kL
  obtain⟨us,u1,u2⟩:=H8 hc hg cJ fn.results.toList vs kL;have aB:=cJ.st.base;have kU:(results fn a'.tmps).run P w'=.ok (if h:(⟨us⟩:Array Value).size=1 then (⟨us⟩:Array Value)[0] else .tuple ⟨us⟩) w':=by
   rw[Jw,Array.mapM_eq_mapM_toList];simp only[Sem.run_bind,Sem.run_map,u1,Result.andThen_ok,Sem.run_pure]
  obtain⟨E2,q1,q2,q3⟩:=Y7 hc cJ eM u2 hk;exact⟨_,kU,_,E2,rfl,q1,q2,q3⟩
 .exact hk.elim
theorem Ku{B:Bs}{E:Env}{w:World}{bB:List Value}{fn:Func}{as:List SV}{ls:List Hl}(hdl:B.dl=[])(eM:∀h,B.cS h≠none\/B.nF h≠none\/B.nG h≠none->h<ls.length)(hb:B8 B E w)(hh:∀h,bO E w h (Ap ls h))(hr:A1 E w as bB):
  bX B (D1 fn.ntmps as).length E { tmps:=(⟨bB⟩:Array Value)++Array.replicate (fn.ntmps-(⟨bB⟩:Array Value).size) undef,defers:=[] } w ⟨D1 fn.ntmps as,ls,[]⟩:=by
 refine⟨⟨hb,hh,λs=>?_,?_,by rw[hdl];rfl⟩,rfl,⟨λs g hs i hi=>?_,λs g i hs hi=>?_,λs g i hs hi=>?_⟩,eM⟩
 .simp only[A6]
  cases hs:Au (D1 fn.ntmps as) s with
  |none=>trivial
  |some g =>
   obtain⟨v,hv,rfl⟩:=J3 _ _ _ _ hs;have aA:s<as.length:=(List.getElem?_eq_some_iff.1 hv).1;have eC:s<bB.length:=by rw[<-hr.1];exact aA
   have aU:((⟨bB⟩:Array Value)++Array.replicate (fn.ntmps-(⟨bB⟩:Array Value).size) undef).getD s undef=bB[s]:=by
    rw[QM,YB (by simpa using eC)];simp[eC]
   refine⟨by simp;omega,λ_=>?_,λh=>absurd trivial h⟩;rw[aU];exact hr.2 s v _ hv (QA eC)
 .simp[D1,Af,hr.1]
 .obtain⟨v,_,rfl⟩:=J3 _ _ _ _ hs;simp at hi
 .obtain⟨v,_,rfl⟩:=J3 _ _ _ _ hs;simp at hi
 .obtain⟨v,_,rfl⟩:=J3 _ _ _ _ hs;simp at hi
def shut:List Nat->World->World
 | [],w=>w
 |r :: rs,w=>shut rs (w.putObj r (.deferred none))
theorem G5{F:Fence}{n:Nat}{fn:Func}{tmps:Array Value}{R:Ending->World->Prop}:∀(dl:List Nat) (w:World),dl.Nodup->(∀r∈dl,w.heap[r]?=some (.deferred (some [])))->
  (∃v,(results fn tmps).run P (shut dl w)=.ok v (shut dl w)/\R (.returned v) (shut dl w))->LeavesInM F n P fn tmps R (dl.map Va) .returning w
 | [],w,_,_,h=>h
 |r :: rs,w,hn,hd,h=>by
  obtain⟨n1,n2⟩:=List.nodup_cons.1 hn;refine⟨by simp,.inl ⟨r,_,rfl,run_takeDeferred (hd r (QY ..)),G5 rs _ n2 (λk hk=>?_) h⟩⟩;rw[World.putObj_heap_other (λ(e:k=r)=>n1 (by rw[<-e];exact hk))];exact hd k (QX _ hk)
theorem b8{B:Bs}{N:Nat}{E:Env}{a:Act}{w:World}{ff:Nat->SG}{hf:Nat->Hl}(st:St B N E a w ff hf){r:Nat}{x:Option (List Deferred)}(hr:B.w0.heap.size<=r)(hO:∀k,E.O r≠some k)(hd:w.heap[r]?=some (.deferred x))(y:Option (List Deferred)):St B N E a (w.putObj r (.deferred y)) ff hf:=by
 have hb:=st.base;have aA:r<w.heap.size:=(Array.getElem?_eq_some_iff.1 hd).1;have aK:∀b o,(w.putObj r (.deferred y)).cell? ⟨b,o,none⟩=w.cell? ⟨b,o,none⟩:=by
  intro b o;simp only[World.cell?]
  by_cases e:b=r
  .subst e;rw[World.putObj_heap_same aA,hd]
  .rw[World.putObj_heap_other e]
 have hx:Ext E w E (w.putObj r (.deferred y)):=⟨λ_ _ h=>h,λ_ _ h=>.inl h,λ_ _ h=>h,λ_ _ h=>h,λ_ _ h=>h,λb o _=>aK b o⟩;refine st.step hx ⟨hb.os,hb.tape,hb.output,?_,?_,?_,?_,hb.cE,?_,hb.cS⟩ λk=>?_
 .rw[World.putObj_size];exact hb.size
 .intro b aA hX;rw[World.putObj_heap_other (by omega)];exact hb.old b aA hX
 .intro b o hi
  obtain⟨i1,i2⟩:=hb.I0 b o hi;exact⟨i1,by rw[aK];exact i2⟩
 .intro b o hi;rw[World.putObj_size];exact hb.eJ b o hi
 .intro b k hO;rw[World.putObj_size];exact hb.dG b k hO
 .refine bO.keep hx (st.heap k) rfl rfl rfl rfl λb eA=>⟨eA,?_,λ_ h=>h⟩
  exact World.putObj_heap_other (λe=>hO k (by rw[<-e];exact eA))
theorem Ab0{B:Bs}{N:Nat}{E:Env}{a:Act}{ff:Nat->SG}{hf:Nat->Hl}:∀(dl:List Nat) (w:World),dl.Nodup->St B N E a w ff hf->(∀r∈dl,B.w0.heap.size<=r/\(∀k,E.O r≠some k)/\w.heap[r]?=some (.deferred (some [])))->St B N E a (shut dl w) ff hf
 | [],_,_,st,_=>st
 |r :: rs,w,hn,st,h=>by
  obtain⟨n1,n2⟩:=List.nodup_cons.1 hn;obtain⟨h1,h2,h3⟩:=h r (QY ..);refine Ab0 rs _ n2 (b8 st h1 h2 h3 none) λk hk=>?_;obtain⟨k1,k2,k3⟩:=h k (QX _ hk);exact⟨k1,k2,by rw[World.putObj_heap_other (λ(e:k=r)=>n1 (by rw[<-e];exact hk))];exact k3⟩
theorem bX.shut{B B1:Bs}{N:Nat}{E:Env}{a:Act}{w:World}{σ:Sy}(hr:nQ B B1)(h0:B.dl=[])(hs:bX B1 N E a w σ):
  B1.dl.Nodup/\(∀r∈B1.dl,w.heap[r]?=some (.deferred (some [])))/\bX B N E { a with defers:=[] } (Sx.shut B1.dl w) σ:=by
 have hm:Ahg B1:=hr.marks ⟨by rw[h0];exact List.nodup_nil,by rw[h0];simp⟩;have hb:=hs.st.base;have hd:∀r∈B1.dl,B.w0.heap.size<=r/\(∀k,E.O r≠some k)/\w.heap[r]?=some (.deferred (some [])):=by
  intro r pD;obtain⟨m1,m2,m3⟩:=hm.aZ r pD;refine⟨?_,λk hk=>?_,(hb.old r m1 m2).trans m3⟩
  .rcases hr.new r pD with h|h
   .rw[h0]at h;cases h
   .exact h
  .rcases (hb.dG r k hk).2 with h|h
   .omega
   .exact m2 h
 have cM:St B N E { a with defers:=[] } w (A6 σ) (Ap σ.hp):=⟨hr.base hb,hs.st.heap,hs.st.slot,hs.st.size,by rw[h0];rfl⟩;refine⟨hm.nodup,λr pD=>(hd r pD).2.2,Ab0 B1.dl w hm.nodup cM hd,hs.len,hs.wf,λk hk=>hs.ge k ?_⟩;rw[hr.cS,hr.nF,hr.nG];exact hk
def Bs.bare(B:Bs):Bs:={ B with dl:=[] }
theorem B8.bare{B:Bs}{E:Env}{w:World}(h:B8 B E w):B8 B.bare E w:=⟨h.os,h.tape,h.output,h.size,h.old,h.I0,h.eJ,h.cE,h.dG,⟨h.cS.β,h.cS.τ,h.cS.ζ⟩⟩
theorem B8.rW{B:Bs}{E:Env}{w:World}(h:B8 B.bare E w):B8 B E w:=⟨h.os,h.tape,h.output,h.size,h.old,h.I0,h.eJ,h.cE,h.dG,⟨h.cS.β,h.cS.τ,h.cS.ζ⟩⟩
theorem Ta(hd:Re P)(hc:Az P cx)(bT:Eh P cx.gl cx.fC)(gH:W0 P cx){f:FuncId}{fn:Func}(hf:P.funcs[f]?=some fn){as:List SV}{ls:List Hl}{r:SV}{aI:List Hl}
  (h:body cx fn as ls λr' eG=>Fin r' r eG aI):Em P cx.gl f as ls r aI:=by
 intro B E w bB xG JK eM hb hg hh hr;unfold body at h
 split at h
 .rename_i c fY
  refine callsIn_wide.1 (callsIn_of_wp_marks (F:=Fence.wide) (n:=0) hf fY trivial ?_);refine wpIn_mono (F:=Fence.wide) (Bk hd hc bT gH c _ _ h none 0 (.inl rfl) B.bare hg E _ w (Ku (B:=B.bare) rfl eM hb.bare hh hr)) λe a' w' hq=>?_;obtain⟨B1,E',aJ,eX,cJ,hk⟩:=hq;obtain⟨m1,m2,m3⟩:=cJ.shut eX rfl;rw[<-Af ls]at eM;have done:(∃v,(results fn a'.tmps).run P (shut B1.dl w')=.ok v (shut B1.dl w')/\∃tC E',Ending.returned v=.returned tC/\B8 B.bare E' (shut B1.dl w')/\(∀h,h<aI.length->bO E' (shut B1.dl w') h (Ap aI h))/\Rel E' (shut B1.dl w') r tC)->LeavesInM Fence.wide 0 P fn a'.tmps (λe w'=>∃v E',e=.returned v/\B8 B E' w'/\(∀h,h<aI.length->bO E' w' h (Ap aI h))/\Rel E' w' r v) a'.defers .returning w':=by
   rintro⟨v,q1,v1,E2,q2,q3,q4,q5⟩;rw[cJ.st.defers];exact G5 B1.dl w' m1 m2 ⟨v,q1,v1,E2,q2,q3.rW,q4,q5⟩
  cases e with
  |normal=>exact done (Qw (B:=B.bare) hc hg m3 eM hk)
  |ret=>exact done (Qw (B:=B.bare) hc hg m3 eM hk)
  |exit i=>exact hk.elim
  |goto l=>exact hk.elim
  |panic c=>exact hk.elim
  |outgrown=>exact hk.elim
 .exact h.elim
theorem Jf(hd:Re P)(hc:Az P cx)(bT:Eh P cx.gl cx.fC)(gH:W0 P cx){f:FuncId}{fn:Func}(hf:P.funcs[f]?=some fn){as:List SV}{ls:List Hl}{r:SV}{aI:List Hl}
  (h:PO cx fn as ls λr' eG=>Fin r' r eG aI):Em P cx.gl f as ls r aI:=by
 intro B E w bB xG JK eM hb hg hh hr;unfold PO at h
 split at h
 .rename_i c fY
  refine callsIn_wide.1 (callsIn_of_wp_marks (F:=Fence.wide) (n:=0) hf fY trivial ?_);refine wpIn_mono (F:=Fence.wide) (Bk hd hc bT gH c _ _ h none 0 (.inl rfl) B.bare hg E _ w (Ku (B:=B.bare) rfl eM hb.bare hh hr)) λe a' w' hq=>?_;obtain⟨B1,E',aJ,eX,cJ,hk⟩:=hq;obtain⟨m1,m2,m3⟩:=cJ.shut eX rfl;rw[<-Af ls]at eM;have done:(∃v,(results fn a'.tmps).run P (shut B1.dl w')=.ok v (shut B1.dl w')/\∃tC E',Ending.returned v=.returned tC/\B8 B.bare E' (shut B1.dl w')/\(∀h,h<aI.length->bO E' (shut B1.dl w') h (Ap aI h))/\Rel E' (shut B1.dl w') r tC)->LeavesInM Fence.wide 0 P fn a'.tmps (λe w'=>∃v E',e=.returned v/\B8 B E' w'/\(∀h,h<aI.length->bO E' w' h (Ap aI h))/\Rel E' w' r v) a'.defers .returning w':=by
   rintro⟨v,q1,v1,E2,q2,q3,q4,q5⟩;rw[cJ.st.defers];exact G5 B1.dl w' m1 m2 ⟨v,q1,v1,E2,q2,q3.rW,q4,q5⟩
  cases e with
  |normal=>exact done (Wc (B:=B.bare) hc hg m3 eM hk)
  |ret=>exact done (Wc (B:=B.bare) hc hg m3 eM hk)
  |exit i=>exact hk.elim
  |goto l=>exact hk.elim
  |panic c=>exact hk.elim
  |outgrown=>exact hk.elim
 .exact h.elim
theorem Ajd{c rest:Code}{Q:Exit->Act->World->Prop}{a:Act}{w:World}(l:Nat)(hf:findLabel c l=some rest)(R:Nat->Act->World->Prop)
  (first:c.wp P (Exit.jump l (λa w=>∃n,R n a w) Q) a w)
  (pass:∀n a w,R n a w->rest.wp P (Exit.jump l (λa' w'=>∃n',n'<n/\R n' a' w') Q) a w):(Code.scope c).wp P Q a w:=by
 classical
 let μ:Act->World->Nat:=λa w=>if h:∃n,R n a w then Classical.choose (Fx h) else 0
 have GC:∀a w,(∃n,R n a w)->R (μ a w) a w/\∀m,R m a w->μ a w<=m:=by
  intro a w h;have:μ a w=Classical.choose (Fx h):=by simp only[μ];rw[dif_pos h]
  rw[this];exact Classical.choose_spec (Fx h)
 refine wp_scope_jumps l (λa w=>∃n,R n a w) μ hf first λa w hI=>?_
 obtain⟨h1,h2⟩:=GC a w hI;refine wp_mono (pass _ a w h1) λe a' w' hq=>?_;cases e with
 |goto l' =>
  obtain⟨rfl,n',aA,hr⟩:=hq;exact⟨rfl,⟨n',hr⟩,Nat.lt_of_le_of_lt ((GC a' w' ⟨n',hr⟩).2 n' hr) aA⟩
 |_=>exact hq
theorem Q1(hd:Re P)(hc:Az P cx)(bT:Eh P cx.gl cx.fC)(gH:W0 P cx){f:FuncId}{fn:Func}(hf:P.funcs[f]?=some fn){l:Nat}{pre c rest:Code}(fY:fn.body=some (.seq pre (.scope c)))(hl:findLabel c l=some rest){as:List SV}{ls:List Hl}{r:SV}{aI:List Hl}
  (h:ra cx fn pre c l rest as ls λr' eG=>Fin r' r eG aI):Em P cx.gl f as ls r aI:=by
 intro B E w bB xG JK eM hb hg hh hr;obtain⟨keep,J,h1,h2⟩:=h;rw[hc.D]at h1 h2;have uH:=eM;rw[<-Af ls]at uH;have hcw:(Code.seq pre (.scope c)).wp P (bodyPostM Fence.wide 0 P fn (λe w'=>∃v E',e=.returned v/\B8 B E' w'/\(∀h,h<aI.length->bO E' w' h (Ap aI h))/\Rel E' w' r v)) { tmps:=(⟨bB⟩:Array Value)++Array.replicate (fn.ntmps-(⟨bB⟩:Array Value).size) undef,defers:=[] } w:=?_
 .exact callsIn_wide.1 (callsIn_of_wp_marks (F:=Fence.wide) (n:=0) hf fY trivial (wpIn_wide.2 hcw))
 have done:∀ {B1:Bs} {E':Env} {a':Act} {w':World} {aJ:Sy},nQ B.bare B1->bX B1 (D1 fn.ntmps as).length E' a' w' aJ->(match I3 cx aJ fn.results.toList with
    |some vs=>DC cx (Ag ls) vs aJ λr' eG=>Fin r' r eG aI
    |none=>False)->LeavesInM Fence.wide 0 P fn a'.tmps (λe w'=>∃v E',e=.returned v/\B8 B E' w'/\(∀h,h<aI.length->bO E' w' h (Ap aI h))/\Rel E' w' r v) a'.defers .returning w':=by
  intro B1 E' a' w' aJ eX cJ hk;obtain⟨m1,m2,m3⟩:=cJ.shut eX rfl;obtain⟨v,q1,v1,E2,q2,q3,q4,q5⟩:=Qw (B:=B.bare) hc hg m3 uH hk;rw[cJ.st.defers];exact G5 B1.dl w' m1 m2 ⟨v,q1,v1,E2,q2,q3.rW,q4,q5⟩
 refine wp_seq (wp_mono (Aav hd hc bT gH (B:=B.bare) hg pre _ _ h1 E _ w (Ku (B:=B.bare) rfl eM hb.bare hh hr)) λe0 a0 w0 VX=>?_);obtain⟨B0,E0,σ0,wj,xM,lW⟩:=VX;cases e0 with
 |ret=>exact lW.elim
 |exit i=>exact lW.elim
 |goto l=>exact lW.elim
 |panic c=>exact lW.elim
 |outgrown=>exact lW.elim
 |normal =>
 have h1:=lW;refine Ajd l hl (λm a w=>∃B1 vs hp E,nQ B.bare B1/\J m vs hp/\bX B1 (D1 fn.ntmps as).length E a w ⟨Ou (Kq keep vs) (blank (D1 fn.ntmps as)),hp,[]⟩) ?_ ?_
 .refine wp_mono (Aav hd hc bT gH (wj.gl hg) c _ _ h1 E0 _ w0 xM) λe a' w' hq=>?_
  obtain⟨B1,E',aJ,eX,cJ,hk⟩:=hq;have eX:=wj.trans eX;cases e with
  |normal=>exact done eX cJ hk
  |ret=>exact done eX cJ hk
  |exit i=>exact hk.elim
  |goto l' =>
   obtain⟨rfl,eA,m2,zU⟩:=hk;exact⟨rfl,m2,_,_,_,_,eX,zU,cJ.head rfl eA (eX.oB uH)⟩
  |panic c=>exact hk.elim
  |outgrown=>exact hk.elim
 .rintro m a1 w1 ⟨B1,vs,hp,E1,eX,hJ,cC⟩
  refine wp_mono (Aav hd hc bT gH (eX.gl hg) rest _ _ (h2 m vs hp hJ) E1 a1 w1 cC) λe a' w' hq=>?_;obtain⟨B2,E',aJ,cP,cJ,hk⟩:=hq;have cP:=eX.trans cP;cases e with
  |normal=>exact done cP cJ hk
  |ret=>exact done cP cJ hk
  |exit i=>exact hk.elim
  |goto l' =>
   obtain⟨rfl,eA,m2,aA,zU⟩:=hk;exact⟨rfl,m2,aA,_,_,_,_,cP,zU,cJ.head rfl eA (cP.oB uH)⟩
  |panic c=>exact hk.elim
  |outgrown=>exact hk.elim
end
abbrev Rec:=Option (Sy×List Nat×Out)
abbrev X:=(Nat->SG)×(Nat->Hl)
def G3(N:Nat)(f:Nat->SG)(d:Option Nat)(g:SG):Nat->SG:=λs=>if d=some s/\s<N then g else f s
def Ev(h:Nat):Ef->Hl->Hl
 |.set h' off vs,x=>if h'=h then (match x with|.aE ty cs=>.aE ty (B9 cs off vs)|x=>x) else x
 |.put h' hl,x=>if h'=h then hl else x
def De(h:Nat):List Ef->Hl->Hl
 | [],x=>x
 |e :: es,x=>De h es (Ev h e x)
theorem yo(hf:Nat->Hl)(e:Ef)(h:Nat):yX hf e h=Ev h e (hf h):=by
 cases e with
 |set h' off vs =>
  simp only[yX,Ev]
  by_cases e:h'=h
  .subst e
   rw[QE rfl];cases hx:hf h'<;>simp[aL,hx]
  .rw[QD e]
   cases hx:hf h'<;>simp[aL,Ne.symm e]
 |put h' hl =>
  simp only[yX,Ev,aL]
  by_cases e:h'=h
  .subst e;simp
  .rw[QD e,QD (λh=>e h.symm)]
theorem Air(h:Nat):∀(es:List Ef) (hf:Nat->Hl),Hz hf es h=De h es (hf h)
 | [],_=>rfl
 |e :: es,hf=>by
  show Hz (yX hf e) es h=De h es (Ev h e (hf h));rw[Air h es,yo]
def C8(N:Nat)(gm:List BT)(o:Oper)(rec:Rec)(x:X):X :=
 match rec with
 |none=>(G3 N x.1 o.dst none,x.2)
 |some (_,T,r)=>(G3 N x.1 o.dst (some (Ac gm T,r.v)),Hz x.2 r.gF)
def Dy(N:Nat)(gm:List BT)(S:Nat->Bool):List (Oper×Rec)->Nat->X->X
 | [],_,x=>x
 |p :: l,i,x=>Dy N gm S l (i+1) (if S i then C8 N gm p.1 p.2 x else x)
def B4(N:Nat)(gm:List BT):List (Oper×Rec)->X->X
 | [],x=>x
 |p :: l,x=>B4 N gm l (C8 N gm p.1 p.2 x)
theorem Yy{N:Nat}{gm:List BT}{S:Nat->Bool}:∀(L:List (Oper×Rec)) (k:Nat) (x:X),(∀j,j<L.length->S (k+j)=true)->Dy N gm S L k x=B4 N gm L x
 | [],_,_,_=>rfl
 |p :: L,k,x,h=>by
  have h0:=h 0 (by simp);simp only[ZA]at h0;simp only[Dy,B4,h0,if_true];exact Yy L (k+1) _ λj hj=>by have:=h (j+1) (by simpa using hj);rwa [show k+1+j=k+(j+1) by omega]
theorem J6{N:Nat}{gm:List BT}{S:Nat->Bool}:∀(L:List (Oper×Rec)) (k:Nat) (x:X),(∀j,j<L.length->S (k+j)=false)->Dy N gm S L k x=x
 | [],_,_,_=>rfl
 |p :: L,k,x,h=>by
  have h0:=h 0 (by simp);simp only[ZA]at h0;simp only[Dy,h0,QR,if_false];exact J6 L (k+1) _ λj hj=>by have:=h (j+1) (by simpa using hj);rwa [show k+1+j=k+(j+1) by omega]
theorem Ns{N:Nat}{gm:List BT}:∀(L:List (Oper×Rec)) (i k:Nat) (x:X),Dy N gm (λj=>decide (j<k+i)) L k x=B4 N gm (L.take i) x
 | [],i,k,x=>by simp[Dy,B4]
 |p :: L,0,k,x=>by
  simp only[List.take_zero,B4];exact J6 _ _ _ λj _=>by simp
 |p :: L,i+1,k,x=>by
  simp only[Dy,UB,B4];rw[QE (by simp)];have:=Ns (N:=N) (gm:=gm) L i (k+1) (C8 N gm p.1 p.2 x);rw[<-this];congr 1
  funext j;congr 1;exact propext (by omega)
def Ap2(P:Program)(gl:List (Nat×SV))(all:List Oper)(o:Oper)(gm:List BT)(σ:Sy):Rec->Prop
 |none=>guardOf all σ o.guard=some none
 |some (eI,T,r)=>guardOf all σ o.guard=some (some (eI,T))/\W1 P gl eI T o r/\Kj eI.hp r.gF=true/\((T=[]\/r.gF=[]\/Ba (Ac eI.gm T))/\∀c,o.op≠.defer c)/\Ac gm T=Ac eI.gm T
theorem Se{gm y:List BT}:∀ {T:List Nat},(∀i∈T,i<gm.length)->Ac (gm++y) T=Ac gm T
 | [],_=>rfl
 |i :: T,h=>by
  have h1:=Se (gm:=gm) (y:=y) (T:=T) λj hj=>h j (QX _ hj);have h2:nth (gm++y) i=nth gm i:=by rw[Ah,Ah,QJ (h i (QY ..))]
  simp only[Ac,YE,h2]at *;rw[h1]
theorem Y4(σ:Sy)(d:Option Nat)(g:Option G)(hp:List Hl):A6 ⟨dA σ.fr d g,hp,σ.gm⟩=G3 σ.fr.length (A6 σ) d (g.map λg=>(Ac σ.gm g.tg,g.v)):=by
 funext s;cases d with
 |none=>simp[dA,G3,A6]
 |some k =>
  simp only[dA,G3,A6,Bo]
  by_cases e:s=k/\k<σ.fr.length
  .obtain⟨rfl,h⟩:=e;simp[h]
  .rw[QD e,QD (λh=>e ⟨(Option.some.inj h.1).symm,by rw[Option.some.inj h.1];exact h.2⟩)]
theorem Amh{P:Program}{gl:List (Nat×SV)}{ops:Array Oper}{os:List Oper}{σ aJ:Sy}{rs:List Rec}(h:mh P gl ops.toList os σ rs aJ):rU σ->∀N,σ.fr.length=N->
  rs.length=os.length/\rU aJ/\aJ.fr.length=N/\σ.hp.length<=aJ.hp.length/\(∃y,aJ.gm=σ.gm++y)/\(A6 aJ,Ap aJ.hp)=B4 N aJ.gm (os.zip rs) (A6 σ,Ap σ.hp)/\
  ∀(i:Nat) (o:Oper) (rec:Rec),os[i]?=some o->rs[i]?=some rec->∃oX,rU oX/\oX.fr.length=N/\(A6 oX,Ap oX.hp)=B4 N aJ.gm ((os.zip rs).take i) (A6 σ,Ap σ.hp)/\Ap2 P gl ops.toList o aJ.gm oX rec:=by
 induction h with
 |nil σ=>intro wf N hN;exact⟨rfl,wf,hN,QK _,⟨[],by simp⟩,rfl,by simp⟩
 | @skip o os σ aJ rs hg h ih =>
  intro wf N hN;obtain⟨h1,h2,h3,h4,⟨y,h5⟩,h6,h7⟩:=ih (wf.dA o.dst none (by simp) σ.hp) N (by rw[La];exact hN);have hx:C8 N aJ.gm o none (A6 σ,Ap σ.hp)=(A6 ⟨dA σ.fr o.dst none,σ.hp,σ.gm⟩,Ap σ.hp):=by
   simp only[C8];rw[Y4,hN];rfl
  refine⟨by simp[h1],h2,h3,h4,⟨y,h5⟩,?_,λi o' rec hi hr=>?_⟩
  .simp only[UG,B4]
   rw[hx];exact h6
  .cases i with
   |zero =>
    simp at hi hr;subst hi hr;exact⟨σ,wf,hN,rfl,hg⟩
   |succ i =>
    simp at hi hr;obtain⟨oX,w1,w2,w3,w4⟩:=h7 i o' rec hi hr;refine⟨oX,w1,w2,?_,w4⟩;simp only[UG,UB,B4];rw[hx];exact w3
 | @step o os σ eI aJ T r rs hg hl he iT h ih =>
  intro wf N hN;obtain⟨w1,w2,w3,w4,w5,⟨z,w6⟩,_,_⟩:=G6 (ops:=ops) rfl hg wf;obtain⟨h1,h2,h3,h4,⟨y,h5⟩,h6,h7⟩:=ih (w1.dA o.dst (some ⟨T,none,none,r.v⟩) (by rintro g' ⟨⟩;exact⟨w5,rfl,rfl⟩) _) N (by rw[La,w4];exact hN);have hT:Ac aJ.gm T=Ac eI.gm T:=by rw[h5];exact Se w5
  have hx:C8 N aJ.gm o (some (eI,T,r)) (A6 σ,Ap σ.hp)=(A6 ⟨dA eI.fr o.dst (some ⟨T,none,none,r.v⟩),Mp eI.hp r.gF,eI.gm⟩,Ap (Mp eI.hp r.gF)):=by
   simp only[C8];rw[Y4,Jb _ _ he,w4,hN,w2,w3,hT];rfl
  refine⟨by simp[h1],h2,h3,XO (by rw[<-w3];exact O1 _ _) h4,⟨z++y,by rw[h5,w6,ZE]⟩,?_,λi o' rec hi hr=>?_⟩
  .simp only[UG,B4]
   rw[hx];exact h6
  .cases i with
   |zero =>
    simp at hi hr;subst hi hr;exact⟨σ,wf,hN,rfl,hg,hl,he,iT,hT⟩
   |succ i =>
    simp at hi hr;obtain⟨oX,q1,q2,q3,q4⟩:=h7 i o' rec hi hr;refine⟨oX,q1,q2,?_,q4⟩;simp only[UG,UB,B4];rw[hx];exact q3
theorem Ze{N:Nat}{gm:List BT}{o:Oper}{rec:Rec}{x:X}{s:Nat}(h:o.dst≠some s):(C8 N gm o rec x).1 s=x.1 s:=by
 cases rec with
 |none=>simp[C8,G3,h]
 |some p=>obtain⟨σ,T,r⟩:=p;simp[C8,G3,h]
theorem Pr{N:Nat}{gm:List BT}{o:Oper}{rec:Rec}{x y:X}{s:Nat}(h:x.1 s=y.1 s):(C8 N gm o rec x).1 s=(C8 N gm o rec y).1 s:=by
 cases rec with
 |none=>simp only[C8,G3];split<;>simp[h]
 |some p=>obtain⟨σ,T,r⟩:=p;simp only[C8,G3];split<;>simp[h]
theorem J5{N:Nat}{gm:List BT}{S S':Nat->Bool}{s:Nat}:∀(L:List (Oper×Rec)) (k:Nat) (x y:X),x.1 s=y.1 s->(∀(j:Nat) (p:Oper×Rec),L[j]?=some p->p.1.dst=some s->S (k+j)=S' (k+j))->
  (Dy N gm S L k x).1 s=(Dy N gm S' L k y).1 s
 | [],_,_,_,h,_=>h
 |p :: L,k,x,y,h,hS=>by
  simp only[Dy];refine J5 L (k+1) _ _ ?_ λj q hq hd=>by have:=hS (j+1) q (by simpa using hq) hd;rwa [show k+(j+1)=k+1+j by omega]at this
  by_cases hd:p.1.dst=some s
  .have:=hS 0 p rfl hd
   simp only[ZA]at this;rw[this]
   split
   .exact Pr h
   .exact h
  .have a1:(if S k then C8 N gm p.1 p.2 x else x).1 s=x.1 s:=by split;exact Ze hd;rfl
   have a2:(if S' k then C8 N gm p.1 p.2 y else y).1 s=y.1 s:=by split;exact Ze hd;rfl
   rw[a1,a2,h]
def Lj:Rec->List Ef
 |none=>[]
 |some (_,_,r)=>r.gF
theorem Zf{N:Nat}{gm:List BT}{o:Oper}{rec:Rec}{x:X}{h:Nat}:(C8 N gm o rec x).2 h=De h (Lj rec) (x.2 h):=by
 cases rec with
 |none=>rfl
 |some p=>obtain⟨σ,T,r⟩:=p;exact Air h r.gF x.2
def Et(h:Nat)(S:Nat->Bool):List (Oper×Rec)->Nat->Hl->Hl
 | [],_,x=>x
 |p :: l,i,x=>Et h S l (i+1) (if S i then De h (Lj p.2) x else x)
theorem Hx{N:Nat}{gm:List BT}{S:Nat->Bool}{h:Nat}:∀(L:List (Oper×Rec)) (k:Nat) (x:X),(Dy N gm S L k x).2 h=Et h S L k (x.2 h)
 | [],_,_=>rfl
 |p :: L,k,x=>by
  simp only[Dy,Et];rw[Hx L];congr 1
  split
  .exact Zf
  .rfl
theorem Wu{x:Nat×Option (Nat×Nat)}:∀ {l:List (Nat×Option (Nat×Nat))},lu x l=false->∀y∈l,Cm x y=false
 | [],_,y,hy=>by cases hy
 |z :: l,h,y,hy=>by
  simp only[lu,XU]at h;rcases List.mem_cons.1 hy with rfl|hy
  .exact h.1
  .exact Wu h.2 y hy
theorem E7{t:List (Nat×Option (Nat×Nat))}:∀ {l:List (Nat×Option (Nat×Nat))},Qe l t=false->∀x∈l,∀y∈t,Cm x y=false
 | [],_,x,hx,_,_=>by cases hx
 |z :: l,h,x,hx,y,hy=>by
  simp only[Qe,XU]at h;rcases List.mem_cons.1 hx with rfl|hx
  .exact Wu h.1 y hy
  .exact E7 h.2 x hx y hy
theorem Ru(x y:Nat×Option (Nat×Nat)):Cm x y=Cm y x:=by
 obtain⟨h,a⟩:=x;obtain⟨k,b⟩:=y;simp only[Cm];have e:(h==k)=(k==h):=BEq.comm;rw[e];congr 1;cases a with
 |none=>cases b<;>rfl
 |some a=>cases b with
  |none=>rfl
  |some b=>simp[Bool.and_comm]
def same(x y:Hl)(U:Nat->Prop):Prop:=x=y\/∃ty cs dK,x=.aE ty cs/\y=.aE ty dK/\dK.length=cs.length/\∀j,U j->dK[j]?=cs[j]?
theorem Pb{α:Type}:∀(vs l:List α) (off i:Nat),(i<off\/off+vs.length<=i)->(B9 l off vs)[i]?=l[i]?
 | [],_,_,_,_=>rfl
 |v :: vs,l,off,i,h=>by
  simp only[QT]at h;rw[B9,Pb vs _ (off+1) i (by omega),Ar,ZG (by omega)]
theorem Mz{α:Type}:∀(vs l l':List α) (off i:Nat),l'.length=l.length->l'[i]?=l[i]?->(B9 l' off vs)[i]?=(B9 l off vs)[i]?
 | [],_,_,_,_,_,h=>h
 |v :: vs,l,l',off,i,hl,h=>by
  rw[B9,B9];refine Mz vs _ _ (off+1) i (by simp[Ar,hl]) ?_;rw[Ar,Ar,ZK,ZK,hl,h]
theorem X4{h:Nat}{U:Nat->Prop}:∀(es:List Ef) {x y:Hl},same x y U->same (De h es x) (De h es y) U
 | [],_,_,hs=>hs
 |e :: es,x,y,hs=>by
  refine X4 es ?_;rcases hs with rfl|⟨ty,cs,dK,rfl,rfl,hl,hU⟩
  .exact .inl rfl
  .cases e with
   |set h' off vs =>
    simp only[Ev]
    split
    .exact .inr ⟨ty,_,_,rfl,rfl,by rw[Dd,Dd,hl],λj hj=>Mz vs _ _ off j hl (hU j hj)⟩
    .exact .inr ⟨ty,cs,dK,rfl,rfl,hl,hU⟩
   |put h' iA =>
    simp only[Ev]
    split
    .exact .inl rfl
    .exact .inr ⟨ty,cs,dK,rfl,rfl,hl,hU⟩
theorem M9{x y z:Hl}{U:Nat->Prop}(h1:same x y U)(h2:same y z U):same x z U:=by
 rcases h1 with rfl|⟨ty,cs,dK,rfl,rfl,hl,hU⟩
 .exact h2
 .rcases h2 with rfl|⟨ty2,jy,cs3,e,rfl,gW,hU2⟩
  .exact .inr ⟨ty,cs,dK,rfl,rfl,hl,hU⟩
  .cases e
   exact .inr ⟨ty,cs,cs3,rfl,rfl,by rw[gW,hl],λj hj=>by rw[hU2 j hj,hU j hj]⟩
theorem Ajq{x y:Hl}{U:Nat->Prop}(h1:same x y U):same y x U:=by
 rcases h1 with rfl|⟨ty,cs,dK,rfl,rfl,hl,hU⟩
 .exact .inl rfl
 .exact .inr ⟨ty,dK,cs,rfl,rfl,hl.symm,λj hj=>(hU j hj).symm⟩
def va(ρ:Nat×Option (Nat×Nat))(j:Nat):Prop:=match ρ.2 with
 |none=>True
 |some (off,n)=>off<=j/\j<off+n
theorem Na{ρ:Nat×Option (Nat×Nat)}:∀(es:List Ef) (x:Hl),(∀y∈iG es,Cm y ρ=false)->same x (De ρ.1 es x) (va ρ)/\(ρ.2=none->De ρ.1 es x=x)
 | [],x,_=>⟨.inl rfl,λ_=>rfl⟩
 |e :: es,x,h=>by
  have head:same x (Ev ρ.1 e x) (va ρ)/\(ρ.2=none->Ev ρ.1 e x=x):=by
   obtain⟨hh,a⟩:=ρ;cases e with
   |set h' off vs =>
    have hm:=h (h',some (off,Ag vs)) (by simp[iG]);simp only[Ev]
    by_cases e:h'=hh
    .subst e
     rw[QE rfl];cases x<;>try exact⟨.inl rfl,λ_=>rfl⟩
     rename_i ty cs;cases a with
     |none=>simp[Cm]at hm
     |some a =>
      obtain⟨o2,n2⟩:=a;simp only[Cm,beq_self_eq_true,VK,Af,YV]at hm;refine⟨.inr ⟨ty,cs,_,rfl,rfl,Dd _ _ _,λj hj=>Pb _ _ _ _ ?_⟩,λh=>by cases h⟩;simp only[va]at hj;rcases hm with hm|hm
      .have:¬off<o2+n2:=by intro aA;rw[(ZM ▸ aA:Nat.blt _ _=true)]at hm;cases hm
       omega
      .have:¬o2<off+vs.length:=by intro aA;rw[(ZM ▸ aA:Nat.blt _ _=true)]at hm;cases hm
       omega
    .rw[QD e];exact⟨.inl rfl,λ_=>rfl⟩
   |put h' hl =>
    have hm:=h (h',none) (by simp[iG]);simp only[Ev]
    by_cases e:h'=hh
    .subst e;simp[Cm]at hm
    .rw[QD e];exact⟨.inl rfl,λ_=>rfl⟩
  have o6:∀y∈iG es,Cm y ρ=false:=λy hy=>h y (by cases e<;>simp[iG,hy]);obtain⟨t1,t2⟩:=Na es (Ev ρ.1 e x) o6;exact⟨M9 head.1 t1,λhn=>by show De ρ.1 es (Ev ρ.1 e x)=x;rw[t2 hn,head.2 hn]⟩
theorem R5{ρ:Nat×Option (Nat×Nat)}{S S':Nat->Bool}:∀(L:List (Oper×Rec)) (k:Nat) (x y:Hl),same x y (va ρ)->(ρ.2=none->x=y)->(∀(j:Nat) (p:Oper×Rec),L[j]?=some p->S (k+j)≠S' (k+j)->∀z∈iG (Lj p.2),Cm z ρ=false)->
  same (Et ρ.1 S L k x) (Et ρ.1 S' L k y) (va ρ)/\(ρ.2=none->Et ρ.1 S L k x=Et ρ.1 S' L k y)
 | [],_,_,_,h,hn,_=>⟨h,hn⟩
 |p :: L,k,x,y,h,hn,hS=>by
  simp only[Et];have sJ:=λ(x' y':Hl) (hs:same x' y' (va ρ)) (he:ρ.2=none->x'=y')=>R5 (ρ:=ρ) (S:=S) (S':=S') L (k+1) x' y' hs he λj q hq hd=>hS (j+1) q (by simpa using hq) (by rwa [show k+(j+1)=k+1+j by omega]);have h0:=hS 0 p rfl;simp only[ZA]at h0;cases gx:S k<;>cases JE:S' k
  .exact sJ x y h hn
  .obtain⟨a1,a2⟩:=Na (ρ:=ρ) (Lj p.2) y (h0 (by rw[gx,JE];decide))
   exact sJ x _ (M9 h a1) (λe=>by rw[QE rfl,a2 e];exact hn e)
  .obtain⟨a1,a2⟩:=Na (ρ:=ρ) (Lj p.2) x (h0 (by rw[gx,JE];decide))
   exact sJ _ y (M9 (Ajq a1) h) (λe=>by rw[QE rfl,a2 e];exact hn e)
  .exact sJ _ _ (X4 _ h) (λe=>by rw[hn e])
theorem X9{α:Type}:∀(vs l:List α) (off i:Nat) (v:α),(i<off\/off+vs.length<=i)->B9 (A0 l i v) off vs=A0 (B9 l off vs) i v
 | [],_,_,_,_,_=>rfl
 |u :: vs,l,off,i,v,h=>by
  simp only[QT]at h;rw[B9,B9,<-X9 vs _ (off+1) i v (by omega)];congr 1;rw[Ar,Ar,Ar,Ar,List.set_comm _ _ (by omega)]
theorem Ya{α:Type}:∀(us vs l:List α) (o1 o2:Nat),(o1+us.length<=o2\/o2+vs.length<=o1\/us=[]\/vs=[])->B9 (B9 l o1 us) o2 vs=B9 (B9 l o2 vs) o1 us
 | [],vs,l,o1,o2,_=>rfl
 |u :: us,[],l,o1,o2,_=>rfl
 |u :: us,v :: vs,l,o1,o2,h=>by
  have h:o1+(us.length+1)<=o2\/o2+(vs.length+1)<=o1:=by
   rcases h with h|h|h|h
   .exact .inl h
   .exact .inr h
   .cases h
   .cases h
  rw[show B9 l o1 (u :: us)=B9 (A0 l o1 u) (o1+1) us from rfl,Ya us (v :: vs) (A0 l o1 u) (o1+1) o2 (by simp only[QT];omega)];rw[X9 (v :: vs) l o2 o1 u (by simp only[QT];omega)];rfl
theorem Alb{h:Nat}{e e':Ef}{y y':Nat×Option (Nat×Nat)}(hy:iG [e]=[y])(xF:iG [e']=[y'])(hm:Cm y y'=false)(x:Hl):Ev h e (Ev h e' x)=Ev h e' (Ev h e x):=by
 cases e with
 |set h1 o1 us =>
  cases e' with
  |set h2 o2 vs =>
   simp only[Ev]
   by_cases e1:h1=h<;>by_cases e2:h2=h<;>simp only[e1,e2,if_true,if_false]
   subst e1;cases x<;>try rfl
   simp only[iG,List.cons.injEq,and_true]at hy xF;subst hy xF;subst e2;simp only[Cm,beq_self_eq_true,VK,YV,Af]at hm;refine congrArg (Hl.aE _) (Ya us vs _ o1 o2 ?_).symm;rcases hm with hm|hm
   .have:¬o1<o2+vs.length:=by intro aA;rw[(ZM ▸ aA:Nat.blt _ _=true)]at hm;cases hm
    exact .inr (.inl (by omega))
   .have:¬o2<o1+us.length:=by intro aA;rw[(ZM ▸ aA:Nat.blt _ _=true)]at hm;cases hm
    exact .inl (by omega)
  |put h2 hl =>
   simp only[Ev]
   by_cases e1:h1=h<;>by_cases e2:h2=h<;>simp only[e1,e2,if_true,if_false]
   simp only[iG,List.cons.injEq,and_true]at hy xF;subst hy xF;simp[Cm,e1,e2]at hm
 |put h1 hl =>
  cases e' with
  |set h2 o2 vs =>
   simp only[Ev]
   by_cases e1:h1=h<;>by_cases e2:h2=h<;>simp only[e1,e2,if_true,if_false]
   simp only[iG,List.cons.injEq,and_true]at hy xF;subst hy xF;simp[Cm,e1,e2]at hm
  |put h2 gW =>
   simp only[Ev]
   by_cases e1:h1=h<;>by_cases e2:h2=h<;>simp only[e1,e2,if_true,if_false]
   simp only[iG,List.cons.injEq,and_true]at hy xF;subst hy xF;simp[Cm,e1,e2]at hm
theorem Ais(e:Ef):∃y,iG [e]=[y]:=by cases e<;>exact⟨_,rfl⟩
theorem Aec(e:Ef)(es:List Ef){y:Nat×Option (Nat×Nat)}(hy:iG [e]=[y]):iG (e :: es)=y :: iG es:=by
 cases e<;>simp only[iG,List.cons.injEq,and_true]at hy ⊢<;>exact hy
theorem Aeb{h:Nat}{e:Ef}{y:Nat×Option (Nat×Nat)}(hy:iG [e]=[y]):∀(es:List Ef) (x:Hl),(∀z∈iG es,Cm y z=false)->De h es (Ev h e x)=Ev h e (De h es x)
 | [],_,_=>rfl
 |e' :: es,x,hm=>by
  obtain⟨y',xF⟩:=Ais e';rw[Aec e' es xF]at hm;show De h es (Ev h e' (Ev h e x))=Ev h e (De h es (Ev h e' x));rw[<-Aeb hy es (Ev h e' x) λz hz=>hm z (QX _ hz)];rw[Alb hy xF (hm y' (QY ..))]
theorem Wf{h:Nat}:∀(es lM:List Ef) (x:Hl),(∀y∈iG es,∀z∈iG lM,Cm y z=false)->De h lM (De h es x)=De h es (De h lM x)
 | [],_,_,_=>rfl
 |e :: es,lM,x,hm=>by
  obtain⟨y,hy⟩:=Ais e;rw[Aec e es hy]at hm;show De h lM (De h es (Ev h e x))=De h es (Ev h e (De h lM x));rw[Wf es lM _ λy hy=>hm y (QX _ hy)];rw[Aeb hy lM x (hm y (QY ..))]
theorem Vz{h:Nat}{S:Nat->Bool}{es:List Ef}:∀(L:List (Oper×Rec)) (k:Nat) (x:Hl),(∀(j:Nat) (p:Oper×Rec),L[j]?=some p->S (k+j)=true->∀y∈iG es,∀z∈iG (Lj p.2),Cm y z=false)->
  Et h S L k (De h es x)=De h es (Et h S L k x)
 | [],_,_,_=>rfl
 |p :: L,k,x,hm=>by
  simp only[Et];have sJ:=λx=>Vz (h:=h) (S:=S) (es:=es) L (k+1) x λj q hq hd=>hm (j+1) q (by simpa using hq) (by rwa [show k+(j+1)=k+1+j by omega]);cases gx:S k with
  |false=>exact sJ x
  |true =>
   simp only[if_true];rw[Wf es (Lj p.2) x (hm 0 p rfl (by simpa using gx)),sJ]
theorem Ph{h:Nat}{S S':Nat->Bool}:∀(L:List (Oper×Rec)) (i k:Nat) (x:Hl) (p:Oper×Rec),L[i]?=some p->S (k+i)=false->S' (k+i)=true->(∀j,j≠k+i->S' j=S j)->
  (∀(j:Nat) (q:Oper×Rec),i<j->L[j]?=some q->S (k+j)=true->∀y∈iG (Lj p.2),∀z∈iG (Lj q.2),Cm y z=false)->
  Et h S' L k x=De h (Lj p.2) (Et h S L k x)
 | [],i,_,_,_,h,_,_,_,_=>by simp at h
 |q :: L,0,k,x,p,hp,h1,h2,hS,hm=>by
  simp at hp;subst hp;simp only[ZA]at h1 h2;simp only[Et,h1,h2,if_true,QR,if_false];have e:Et h S' L (k+1) (De h (Lj q.2) x)=Et h S L (k+1) (De h (Lj q.2) x):=by
   have:∀(L:List (Oper×Rec)) (m:Nat) (x:Hl),k<m->Et h S' L m x=Et h S L m x:=by
    intro L
    induction L with
    |nil=>intro m x _;rfl
    |cons r L ih=>intro m x aA;simp only[Et];rw[hS m (by omega)];exact ih _ _ (by omega)
   exact this L (k+1) _ (by omega)
  rw[e];exact Vz L (k+1) x λj r hr hd=>hm (j+1) r (by omega) (by simpa using hr) (by rwa [show k+(j+1)=k+1+j by omega])
 |q :: L,i+1,k,x,p,hp,h1,h2,hS,hm=>by
  simp only[Et];rw[hS k (by omega)];exact Ph L i (k+1) _ p (by simpa using hp) (by rwa [show k+1+i=k+(i+1) by omega]) (by rwa [show k+1+i=k+(i+1) by omega]) (λj hj=>hS j (by omega))
   λj r hj hr hd=>hm (j+1) r (by omega) (by simpa using hr) (by rwa [show k+(j+1)=k+1+j by omega])
theorem U8{n:Nat}:∀ {es:List Edge},n∈C5 es->∃e∈es,Region.binds .any e=true/\e.on=n
 | [],h=>by simp[C5]at h
 |e :: es,h=>by
  simp only[C5,YH]at h;rcases h with h|h
  .refine⟨e,QY ..,?_⟩
   cases hg:e.ground<;>simp only[hg,UH,List.not_mem_nil]at h<;>exact⟨by simp[Region.binds,hg],h.symm⟩
  .obtain⟨e',h1,h2⟩:=U8 h
   exact⟨e',QX _ h1,h2⟩
theorem Wg{e:Edge}:∀ {es:List Edge},e∈es->Region.binds .any e=true->e.on∈C5 es
 | [],h,_=>by cases h
 |e' :: es,h,hb=>by
  simp only[C5,YH];rcases List.mem_cons.1 h with rfl|h
  .left
   cases hg:e.ground<;>simp[Region.binds,hg]at hb ⊢
  .exact .inr (Wg h hb)
theorem U5{x:Nat}:∀ {l t:List Nat},x∈Afc l t->x∈l\/x∈t
 | [],_,h=>.inr h
 |y :: l,t,h=>by
  rcases U5 (l:=l) h with h|h
  .exact .inl (QX _ h)
  .unfold MI at h
   split at h
   .exact .inr h
   .rcases List.mem_cons.1 h with rfl|h
    .exact .inl (QY ..)
    .exact .inr h
theorem Am9{x y:Nat}{l:List Nat}(h:x∈MI y l):x=y\/x∈l:=by
 unfold MI at h
 split at h
 .exact .inr h
 .exact List.mem_cons.1 h
theorem U9{acc:List (List Nat)}{x:Nat}:∀ {l:List Nat},x∈Q9 acc l->∃i∈l,x=i\/x∈(nth acc i).getD []
 | [],h=>by simp[Q9]at h
 |i :: l,h=>by
  simp only[Q9]at h;rcases U5 h with h|h
  .exact⟨i,QY ..,Am9 h⟩
  .obtain⟨j,h1,h2⟩:=U9 h
   exact⟨j,QX _ h1,h2⟩
theorem Vb{n:Nat}:∀ {l:List Nat},RM n l=true->∀x∈l,x<n
 | [],_,x,h=>by cases h
 |y :: l,h,x,hx=>by
  simp only[RM,QB,ZM]at h;rcases List.mem_cons.1 hx with rfl|hx
  .exact h.1
  .exact Vb h.2 x hx
theorem Ll:∀ {os:List Oper} {k:Nat},G7 os k=true->∀ {j:Nat} {o:Oper},os[j]?=some o->∀x∈C5 o.after.toList,x<k+j
 | [],_,_,j,o,h=>by simp at h
 |o0 :: os,k,hk,j,o,h=>by
  simp only[G7,QB]at hk;cases j with
  |zero=>simp at h;subst h;exact Vb hk.1
  |succ j =>
   simp at h;intro x hx;have:=Ll hk.2 h x hx;omega
theorem Wq{S:Nat->Prop}{all:List Oper}(pr:∀(k:Nat) (o:Oper),all[k]?=some o->S k->∀x∈C5 o.after.toList,S x)(nX:G7 all 0=true):
  ∀(os:List Oper) (acc:List (List Nat)),(∀(j:Nat) (o:Oper),os[j]?=some o->all[acc.length+j]?=some o)->
   (∀(j:Nat) (o:Oper) (l:List Nat),all[j]?=some o->acc[j]?=some l->(∀x∈C5 o.after.toList,S x)->∀x∈l,S x)->
   ∀(j:Nat) (o:Oper) (l:List Nat),all[j]?=some o->(If os acc)[j]?=some l->(∀x∈C5 o.after.toList,S x)->∀x∈l,S x
 | [],acc,_,gq=>λj o l ho hl=>gq j o l ho hl
 |o0 :: os,acc,jB,gq=>by
  have h0:=jB 0 o0 rfl;simp only[ZA]at h0;refine Wq pr nX os (acc++[Q9 acc (C5 o0.after.toList)]) (λj o h=>?_) (λj o l ho hl he x hx=>?_)
  .have:=jB (j+1) o (by simpa using h)
   simp only[QW,YW]
   rwa [show acc.length+1+j=acc.length+(j+1) by omega]
  .by_cases hj:j<acc.length
   .rw[QJ hj]at hl
    exact gq j o l ho hl he x hx
   .have hje:j=acc.length:=by
     have:=(List.getElem?_eq_some_iff.1 hl).1;simp at this;omega
    subst hje;rw[h0]at ho;cases ho;simp at hl;subst hl;obtain⟨i,hi,hx⟩:=U9 hx;have gy:=he i hi;rcases hx with rfl|hx
    .exact gy
    .have aA:i<acc.length:=by have:=Ll nX h0 i hi;omega
     have hai:all[i]?=some (all[i]'(by have:=(List.getElem?_eq_some_iff.1 h0).1;omega)):=QA _;rw[Ah,QA aA]at hx;exact gq i _ _ hai (QA aA) (pr i _ hai gy) x hx
theorem M6{all:List Oper}{bs:List (List Nat)}{i:Nat}{o:Oper}{f:FP}:∀ {os:List Oper} {fs:List FP} {j:Nat},Mk all bs i o f os fs j=true->∀ {m:Nat} {o':Oper} {f':FP},os[m]?=some o'->fs[m]?=some f'->
  MR all o f o' f'=false\/i∈(nth bs (j+m)).getD []
 | [],_,_,_,m,o',f',h,_=>by simp at h
 |_ :: _,[],_,_,m,o',f',_,h=>by simp at h
 |o1 :: os,f1 :: fs,j,h,m,o',f',h1,h2=>by
  simp only[Mk,QB,ZB,XK,Ca]at h;cases m with
  |zero=>simp at h1 h2;subst h1 h2;exact h.1
  |succ m =>
   simp at h1 h2;have:=M6 h.2 h1 h2
   rwa [show j+1+m=j+(m+1) by omega]at this
theorem Qq{all:List Oper}{bs:List (List Nat)}:∀ {os:List Oper} {fs:List FP} {k:Nat},indep all bs os fs k=true->∀ {i j:Nat} {o o':Oper} {f f':FP},i<j->os[i]?=some o->os[j]?=some o'->fs[i]?=some f->fs[j]?=some f'->
  MR all o f o' f'=false\/(k+i)∈(nth bs (k+j)).getD []
 | [],_,_,_,i,j,o,o',f,f',_,h,_,_,_=>by simp at h
 |_ :: _,[],_,_,i,j,o,o',f,f',_,_,_,h,_=>by simp at h
 |o1 :: os,f1 :: fs,k,h,i,j,o,o',f,f',IE,h1,h2,h3,h4=>by
  simp only[indep,QB]at h;obtain⟨m,rfl⟩:∃m,j=m+1:=⟨j-1,by omega⟩;simp at h2 h4;cases i with
  |zero =>
   simp at h1 h3;subst h1 h3;have:=M6 h.1 h2 h4;simpa[show k+1+m=k+(m+1) by omega] using this
  |succ i =>
   simp at h1 h3;have:=Qq h.2 (i:=i) (j:=m) (by omega) h1 h2 h3 h4
   rwa [show k+1+i=k+(i+1) by omega,show k+1+m=k+(m+1) by omega]at this
theorem U7{s:Nat}:∀ {xs:List Operand},s∈xs.flatMap Cw->s∈Zr xs
 | [],h=>by simp at h
 |x :: xs,h=>by
  simp only[List.flatMap_cons,YH]at h;simp only[Zr,YH];rcases h with h|h
  .left
   cases x with
   |tmp _=>simpa[Cw,Am0] using h
   |_=>simp[Cw]at h
  .exact .inr (U7 h)
theorem E8{t:List Nat}:∀ {l:List Nat},Qf l t=false->∀x∈l,x ∉ t
 | [],_,x,h=>by cases h
 |y :: l,h,x,hx=>by
  simp only[Qf,XU]at h;rcases List.mem_cons.1 hx with rfl|hx
  .intro hm;rw[(Ca _ _).2 hm]at h;cases h.1
  .exact E8 h.2 x hx
theorem Xq{all:List Oper}{o:Oper}{j:Nat}{want:Bool}{s:Nat}(hg:o.guard=some (j,want))(h:(nth all j).bind (·.dst)=some s):s∈Qu all o.guard:=by
 rw[hg];simp only[Qu];cases hj:nth all j with
 |none=>rw[hj]at h;cases h
 |some oj =>
  rw[hj]at h;simp only[YD]at h;simp[h]
section
variable {P:Program} {ops:Array Oper} {gl:List (Nat×SV)} {B:Bs} {N:Nat} {σ aJ:Sy} {rs:List Rec}
structure Ctx(P:Program)(ops:Array Oper)(gl:List (Nat×SV))(N:Nat)(σ aJ:Sy)(rs:List Rec):Prop where
 len:rs.length=ops.size
 step:∀(i:Nat) (o:Oper) (rec:Rec),ops[i]?=some o->rs[i]?=some rec->∃oX,rU oX/\oX.fr.length=N/\(A6 oX,Ap oX.hp)=B4 N aJ.gm ((ops.toList.zip rs).take i) (A6 σ,Ap σ.hp)/\Ap2 P gl ops.toList o aJ.gm oX rec
 qy:G7 ops.toList 0=true
 ind:indep ops.toList (If ops.toList []) ops.toList (rs.map uL) 0=true
def xS(N:Nat)(ops:Array Oper)(σ aJ:Sy)(rs:List Rec)(S:Nat->Bool):X:=Dy N aJ.gm S (ops.toList.zip rs) 0 (A6 σ,Ap σ.hp)
structure Down(ops:Array Oper)(S:Nat->Bool):Prop where
 down:∀(k:Nat) (o:Oper),ops[k]?=some o->S k=true->∀x∈C5 o.after.toList,S x=true
theorem Aey(h:Ctx P ops gl N σ aJ rs){S:Nat->Bool}(hd:Down ops S){j:Nat}{o:Oper}(ho:ops[j]?=some o)(he:∀x∈C5 o.after.toList,S x=true){i:Nat}(hi:i∈(nth (If ops.toList []) j).getD []):S i=true:=by
 rw[Ah]at hi;cases hl:(If ops.toList [])[j]? with
 |none=>rw[hl]at hi;simp at hi
 |some l =>
  rw[hl]at hi;refine Wq (S:=λi=>S i=true) (all:=ops.toList) (λk o ho hs=>hd.down k o (by rw[<-QG];exact ho) hs) h.qy ops.toList [] (by simp) (by simp) j o l (by rw[QG];exact ho) hl he i hi
theorem RH(rec:Rec):(uL rec).wr=iG (Lj rec):=by
 cases rec with
 |none=>rfl
 |some p=>obtain⟨a,b,c⟩:=p;rfl
theorem Ps(h:Ctx P ops gl N σ aJ rs){S:Nat->Bool}(hd:Down ops S){i:Nat}{o:Oper}{rec:Rec}(ho:ops[i]?=some o)(hr:rs[i]?=some rec)(hi:S i=false)(he:∀x∈C5 o.after.toList,S x=true)
  {k:Nat} {p:Oper×Rec} (hk:(ops.toList.zip rs)[k]?=some p) (oQ:S k≠decide (k<i)):
  (∀s,p.1.dst=some s->s ∉ looks ops.toList o)/\(∀z∈iG (Lj p.2),∀y∈AY (uL rec),Cm z y=false)/\(∀z∈iG (Lj p.2),∀y∈iG (Lj rec),Cm z y=false)/\(k≠i->∀s,p.1.dst=some s->o.dst≠some s)/\k≠i:=by
 have BS:k≠i:=by rintro rfl;apply oQ;rw[hi];simp
 rw[List.getElem?_zip_eq_some]at hk;obtain⟨jW,aR⟩:=hk;have HW:ops[k]?=some p.1:=by rw[<-QG];exact jW
 by_cases aA:k<i
 .have gx:S k=false:=by
   cases hs:S k with
   |false=>rfl
   |true=>exact absurd (by rw[hs];simp[aA]) oQ
  rcases Qq h.ind aA jW (by rw[QG];exact ho) (by rw[QP,aR];rfl) (by rw[QP,hr];rfl) with hc|hc
  .simp only[MR,XU]at hc
   obtain⟨⟨⟨⟨⟨c1,c2⟩,c3⟩,c4⟩,c5⟩,c6⟩:=hc;rw[RH]at c4 c5;rw[RH]at c5;exact⟨λs hs=>E8 c1 s (by simp[hs,Xf]),λz hz y hy=>E7 c4 z hz y hy,λz hz y hy=>E7 c5 z hz y hy,λ_ s hs e=>E8 c2 s (by simp[hs,Xf]) (by simp[e,Xf]),BS⟩
  .simp only[XD]at hc
   rw[Aey h hd ho he hc]at gx;cases gx
 .have BW:i<k:=by omega
  have gx:S k=true:=by
   cases hs:S k with
   |true=>rfl
   |false=>exact absurd (by rw[hs];simp[aA]) oQ
  rcases Qq h.ind BW (by rw[QG];exact ho) jW (by rw[QP,hr];rfl) (by rw[QP,aR];rfl) with hc|hc
  .simp only[MR,XU]at hc
   obtain⟨⟨⟨⟨⟨c1,c2⟩,c3⟩,c4⟩,c5⟩,c6⟩:=hc;rw[RH]at c4 c5;rw[RH]at c5 c6;refine⟨λs hs=>E8 c3 s (by simp[hs,Xf]),λz hz y hy=>E7 c6 z hz y hy,λz hz y hy=>by rw[Ru];exact E7 c5 y hy z hz,λ_ s hs e=>E8 c2 s (by simp[e,Xf]) (by simp[hs,Xf]),BS⟩
  .simp only[XD]at hc
   have:=Aey h hd HW (hd.down k _ HW gx) hc;rw[this]at hi;cases hi
theorem zZ(h:Ctx P ops gl N σ aJ rs){S:Nat->Bool}(hd:Down ops S){i:Nat}{o:Oper}{rec:Rec}(ho:ops[i]?=some o)(hr:rs[i]?=some rec)(hi:S i=false)(he:∀x∈C5 o.after.toList,S x=true){s:Nat}(hs:s∈looks ops.toList o):
  (xS N ops σ aJ rs S).1 s=(B4 N aJ.gm ((ops.toList.zip rs).take i) (A6 σ,Ap σ.hp)).1 s:=by
 rw[<-Ns (ops.toList.zip rs) i 0];refine J5 _ 0 _ _ rfl λk p hk xi=>?_;simp only[XD]
 by_cases e:S k=decide (k<i)
 .exact e
 .exact absurd hs ((Ps h hd ho hr hi he hk e).1 s xi)
theorem Tb(h:Ctx P ops gl N σ aJ rs){S:Nat->Bool}(hd:Down ops S){i:Nat}{o:Oper}{rec:Rec}(ho:ops[i]?=some o)(hr:rs[i]?=some rec)(hi:S i=false)(he:∀x∈C5 o.after.toList,S x=true){ρ:Nat×Option (Nat×Nat)}
  (GB:ρ∈AY (uL rec)\/ρ∈iG (Lj rec)):same ((xS N ops σ aJ rs S).2 ρ.1) ((B4 N aJ.gm ((ops.toList.zip rs).take i) (A6 σ,Ap σ.hp)).2 ρ.1) (va ρ)/\
   (ρ.2=none->(xS N ops σ aJ rs S).2 ρ.1=(B4 N aJ.gm ((ops.toList.zip rs).take i) (A6 σ,Ap σ.hp)).2 ρ.1):=by
 rw[<-Ns (ops.toList.zip rs) i 0,xS,Hx,Hx];refine R5 _ 0 _ _ (.inl rfl) (λ_=>rfl) λk p hk oQ z hz=>?_;simp only[XD]at oQ;obtain⟨_,a2,a3,_⟩:=Ps h hd ho hr hi he hk oQ;rcases GB with GB|GB
 .exact a2 z hz ρ GB
 .exact a3 z hz ρ GB
theorem Ajc(h:Ctx P ops gl N σ aJ rs){S S':Nat->Bool}(hd:Down ops S){i:Nat}{o:Oper}{rec:Rec}(ho:ops[i]?=some o)(hr:rs[i]?=some rec)(hi:S i=false)(he:∀x∈C5 o.after.toList,S x=true)(vW:S' i=true)(hS:∀j,j≠i->S' j=S j):
  xS N ops σ aJ rs S'=C8 N aJ.gm o rec (xS N ops σ aJ rs S):=by
 have aA:i<rs.length:=(List.getElem?_eq_some_iff.1 hr).1;have hp:(ops.toList.zip rs)[i]?=some (o,rec):=by rw[List.getElem?_zip_eq_some];exact⟨by rw[QG];exact ho,hr⟩
 apply Prod.ext
 .funext s
  by_cases mV:o.dst=some s/\s<N
  .-- rY slot tl it writes
   have key:∀(L:List (Oper×Rec)) (i k:Nat) (x:X),L[i]?=some (o,rec)->S' (k+i)=true->(∀(j:Nat) (q:Oper×Rec),i<j->L[j]?=some q->q.1.dst=some s->S' (k+j)=false)->(Dy N aJ.gm S' L k x).1 s=(C8 N aJ.gm o rec x).1 s:=by
    intro L
    induction L with
    |nil=>intro i k x h;simp at h
    |cons q L ih =>
     intro i k x hL h1 h2;cases i with
     |zero =>
      simp at hL;subst hL;simp only[ZA]at h1;simp only[Dy,h1,if_true];have:(Dy N aJ.gm S' L (k+1) (C8 N aJ.gm o rec x)).1 s=(Dy N aJ.gm (λ_=>false) L (k+1) (C8 N aJ.gm o rec x)).1 s :=
       J5 L (k+1) _ _ rfl λj q hq IV=>by have:=h2 (j+1) q (by omega) (by simpa using hq) IV;rwa [show k+(j+1)=k+1+j by omega]at this
      rw[this,J6 L (k+1) _ λ_ _=>rfl]
     |succ i =>
      simp only[Dy];rw[ih i (k+1) _ (by simpa using hL) (by rwa [show k+1+i=k+(i+1) by omega]) λj q hj hq IV=>by have:=h2 (j+1) q (by omega) (by simpa using hq) IV;rwa [show k+(j+1)=k+1+j by omega]at this];cases rec with
      |none=>simp[C8,G3,mV.1,mV.2]
      |some p=>obtain⟨a,b,c⟩:=p;simp[C8,G3,mV.1,mV.2]
   have:=key (ops.toList.zip rs) i 0 (A6 σ,Ap σ.hp) hp (by simpa using vW) λj q hj hq IV=>by
    simp only[XD];rw[hS j (by omega)];cases hs:S j with
    |false=>rfl
    |true =>
     obtain⟨_,_,_,a4,_⟩:=Ps h hd ho hr hi he hq (by rw[hs];simp;omega);exact absurd mV.1 (a4 (by omega) s IV)
   rw[xS,this];cases rec with
   |none=>simp[C8,G3,mV.1,mV.2]
   |some p=>obtain⟨a,b,c⟩:=p;simp[C8,G3,mV.1,mV.2]
  .have e1:(C8 N aJ.gm o rec (xS N ops σ aJ rs S)).1 s=(xS N ops σ aJ rs S).1 s:=by
    cases rec with
    |none=>simp only[C8,G3,QD mV]
    |some p=>obtain⟨a,b,c⟩:=p;simp only[C8,G3,QD mV]
   rw[e1]
   -- a slot tl it aU4 not write
   have key:∀(L:List (Oper×Rec)) (i k:Nat) (x y:X),x.1 s=y.1 s->L[i]?=some (o,rec)->(∀j,j≠k+i->S' j=S j)->(Dy N aJ.gm S' L k x).1 s=(Dy N aJ.gm S L k y).1 s:=by
    intro L
    induction L with
    |nil=>intro i k x y _ h;simp at h
    |cons q L ih =>
     intro i k x y GK hL h2;have gn:∀z:X,q=(o,rec)->(C8 N aJ.gm q.1 q.2 z).1 s=z.1 s:=by
      rintro z rfl;cases rec with
      |none=>simp only[C8,G3,QD mV]
      |some p=>obtain⟨a,b,c⟩:=p;simp only[C8,G3,QD mV]
     cases i with
     |zero =>
      simp at hL;simp only[Dy];refine J5 L (k+1) _ _ ?_ λj q' _ _=>h2 _ (by omega);have a1:(if S' k then C8 N aJ.gm q.1 q.2 x else x).1 s=x.1 s:=by split;exact gn x hL;rfl
      have a2:(if S k then C8 N aJ.gm q.1 q.2 y else y).1 s=y.1 s:=by split;exact gn y hL;rfl
      rw[a1,a2,GK]
     |succ i =>
      simp only[Dy];rw[h2 k (by omega)];refine ih i (k+1) _ _ ?_ (by simpa using hL) λj hj=>h2 j (by omega)
      split
      .exact Pr GK
      .exact GK
   exact key _ i 0 _ _ rfl hp (by simpa using hS)
 .funext k
  rw[Zf,xS,xS,Hx,Hx];refine Ph _ i 0 _ (o,rec) hp (by simpa using hi) (by simpa using vW) (by simpa using hS) λj q hj hq hs y hy z hz=>?_;simp only[XD]at hs;obtain⟨_,_,a3,_⟩:=Ps h hd ho hr hi he hq (by rw[hs];simp;omega);rw[Ru];exact a3 z hz y hy
end
end Go.Sx
