/- A part of the proof: contracts of functions, or the executor and its soundness. No conditions. -/
import Derived.ScopeJumps
import Derived.Test.YtdoogdbjiijifaaGreatDoorE8Pan
namespace Go.Sx
open Go
theorem aO.refl(s:SV):aO s s:=λ_ _ _ h=>h
theorem cI.refl(ls:List Hl):cI ls ls:=λ_ _ _ h=>h
section
variable {P:Program} {cx:Cx}
def Tw(tmps:Array Value):ResultVar->Sem Value
 |.tmp t=>pure (tmps.getD t undef)
 |.cell ad t=>do loadVar t (<-asAddr (tmps.getD ad undef))
theorem Tu(fn:Func)(tmps:Array Value):results fn tmps=(do let vs<-fn.results.mapM (Tw tmps);pure (if h:vs.size=1 then vs[0] else .tuple vs)):=by
 unfold results;congr 1
theorem If(hc:Az P cx){B:Bs}{N:Nat}(hg:Fh B cx.gl){E:Env}{a:Act}{w:World}{σ:Sy}(hs:bR B N E a w σ):∀(rs:List ResultVar) (vs:List SV),Je cx σ rs=some vs->
  ∃us,(rs.mapM (Tw a.tmps)).run P w=.ok us w/\A6 E w vs us
 | [],vs,h=>by simp[Je]at h;subst h;exact⟨[],rfl,.nil⟩
 |.tmp t :: rs,vs,h=>by
  simp only[Je]at h
  split at h
  .rename_i v BD hv jY
   cases h;obtain⟨us,h1,h2⟩:=If hc hg hs rs BD jY;have hr:=Aa hv hg hs.st (λ_ _=>rfl) trivial;exact⟨a.tmps.getD t undef :: us,by simp only[List.mapM_cons,Tw,Sem.run_bind,Sem.run_pure,Result.andThen_ok,h1],.cons hr h2⟩
  .cases h
 |.cell ad t :: rs,vs,h=>by
  simp only[Je]at h
  split at h
  .rename_i hd off n BD hv hn jY
   split at h
   .rename_i ty cs hh
    split at h
    .rename_i hb
     split at h
     .rename_i v hp
      cases h;rw[Af]at hb;have hle:=XJ hb;rw[A8,Bi]at hp;obtain⟨us,h1,h2⟩:=If hc hg hs rs BD jY;obtain⟨b,fQ,hx⟩:=(Aa hv hg hs.st (λ_ _=>rfl) trivial).dL;have hk:=hs.st.heap hd;rw[Bo hh]at hk;obtain⟨b',C,k1,_,k3,k4,_,_⟩:=hk.eC;obtain rfl:b=b':=Option.some.inj (fQ.symm.trans k1);obtain⟨ti,kH,bB⟩:=bH hn;have cT:=Aah (off:=off) (n:=n) k4 rfl (λ_ _ _=>rfl);obtain⟨p1,p2⟩:=Gu hp cT;have hlen:((C.toList.drop off).take n).length=n:=by rw[<-cT.1];simp;omega
      have aV:=Ga (hc.ti kH) (w:=w) (b:=b) (off:=off) (vs:=(C.toList.drop off).take n) (λj v hj=>by
       rw[QN]at hj
       split at hj
       .rw[XF]at hj
        rw[cell_of_row w b (off+j) C ty (0,0) k3];simpa using hj
       .cases hj) (by rw[hlen,bB]) (dF kH) p1
      have hx:a.tmps.getD ad undef=.pointer (some ⟨b,off,none⟩):=hx;have hl:(loadVar t ⟨b,off,none⟩).run P w=.ok (if cH cx t then .agg ⟨(C.toList.drop off).take n⟩ else ((C.toList.drop off).take n).headD undef) w:=by
       simpa only[Instr.loadAt,Instr.sureAddr,Sem.run_bind,Sem.run_pure,Result.andThen_ok] using aV
      refine⟨_ :: us,?_,.cons p2 h2⟩;have aI:(Tw a.tmps (.cell ad t)).run P w=.ok (if cH cx t then .agg ⟨(C.toList.drop off).take n⟩ else ((C.toList.drop off).take n).headD undef) w:=by
       simp only[Tw,hx,asAddr,Sem.run_bind,Sem.run_pure,Result.andThen_ok,hl]
      simp only[List.mapM_cons,Sem.run_bind,aI,Result.andThen_ok,h1,Sem.run_pure]
     .cases h
    .cases h
   .cases h
  .cases h
theorem bQ.cN{E:Env}{w:World}{hp:List Hl}{h:Nat}(hk:bQ E w h (Aq hp h)):bQ E w h (Aq (cN dn hp) h):=by
 simp only[Aq,Aj,Hm]at hk ⊢;cases hl:hp[h]? with
 |none=>rw[hl]at hk;exact hk
 |some l =>
  rw[hl]at hk;cases l with
  |aG ty cs =>
   simp only[QP,XG]at hk ⊢;obtain⟨b,C,k1,k2,k3,k4,k5,k6⟩:=hk.eC;have hn:A6 E w (loose.aH (norm.aM dn cs)) C.toList:=by
    rw[Ce,Ci];exact (k4.map _ λs v _ h=>h.norm).map _ λs v _ h=>h.loose
   exact⟨b,C,k1,k2,k3,by have:=hn.1;simpa using this.symm,λi s v p q=>hn.2 i s v p (by simpa using q),λv hv=>k5 v (by simpa using hv),k6⟩
  |_=>exact hk
theorem Kf(ntmps:Nat)(args:List SV)(s:Nat)(g:G)(h:Au (Eh ntmps args) s=some g):∃v,args[s]?=some v/\g=⟨[],none,none,v⟩:=by
 rw[D7]at h;unfold Eh at h
 by_cases aC:s<args.length
 .rw[QM (by simpa using aC)]at h
  simp[aC]at h;exact⟨args[s],by simp[aC],h.symm⟩
 .rw[QO (by simp;omega)]at h
  rw[List.getElem?_replicate]at h
  split at h<;>simp at h
theorem Pz{E E':Env}{w:World}{h k:Nat}(hI:E'.I=E.I)(oA:E'.τ k=E.τ h):∀ {vs:List SV} {us:List Value},Tz h vs=true->A6 E w vs us->A6 E' w (Q5 h k vs) us
 | [],us,_,hr=>⟨hr.1,by simp[Q5]⟩
 |v :: vs,[],_,hr=>absurd hr.1 (by simp)
 |v :: vs,u :: us,ho,hr=>by
  have xR:A6 E w vs us:=⟨by have:=hr.1;simpa using this,λi s v a b=>hr.2 (i+1) s v a b⟩;have xy:=hr.2 0 v u rfl rfl
  by_cases hv:∃nl n h',v=.bV nl n h'
  .obtain⟨nl,n,h',rfl⟩:=hv
   simp only[Tz,QE,QS]at ho;obtain⟨rfl,ho⟩:=ho;obtain⟨ht,a,m,c,t1,t2⟩:=xy.iO;exact .cons (.bV ht ⟨a,m,c,by rw[oA];exact t1,t2⟩) (Pz hI oA ho xR)
  .have h1:Tz h (v :: vs)=(An v&&Tz h vs):=by
    cases v<;>first|rfl|exact absurd ⟨_,_,_,rfl⟩ hv
   have h2:Q5 h k (v :: vs)=v :: Q5 h k vs:=by
    cases v<;>first|rfl|exact absurd ⟨_,_,_,rfl⟩ hv
   rw[h1,QE]at ho;rw[h2];exact .cons (xy.plain hI ho.1) (Pz hI oA ho.2 xR)
theorem Qk(hc:Az P cx){B:Bs}{N:Nat}(hg:Fh B cx.gl){E':Env}{a':Act}{w':World}{aL:Sy}(cB:bR B N E' a' w' aL){fn:Func}{m:Nat}(dV:∀h,B.cL h≠none\/B.nX h≠none\/B.nY h≠none->h<m){r:SV}{aK:List Hl}(hk:match Je cx aL fn.results.toList with
    |some vs=>DC cx m vs aL λr' dU=>Fin r' r dU aK
    |none=>False):∃v,(results fn a'.tmps).run P w'=.ok v w'/\∃uV E',Ending.returned v=.returned uV/\Cl B E' w'/\(∀h,h<aK.length->bQ E' w' h (Aq aK h))/\Rel E' w' r uV:=by
 split at hk
 .rename_i vs jY
  obtain⟨us,u1,u2⟩:=If hc hg cB fn.results.toList vs jY;have aA:=cB.st.base;have oK:(results fn a'.tmps).run P w'=.ok (if h:(⟨us⟩:Array Value).size=1 then (⟨us⟩:Array Value)[0] else .tuple ⟨us⟩) w':=by
   rw[Tu,Array.mapM_eq_mapM_toList];simp only[Sem.run_bind,Sem.run_map,u1,Result.andThen_ok,Sem.run_pure]
  unfold DC at hk;rw[hc.D]at hk
  split at hk
  .obtain⟨k1,k2,k3⟩:=hk
   refine⟨_,oK,_,E',rfl,aA,λh aC=>?_,?_⟩
   .refine k2 h E' w' ?_
    refine bQ.cN ?_;have:=cB.st.heap h;have eL:h<m:=by
     rw[Jk,A8,QZ]at k3;omega
    simp only[Aq,Aj,A8]at this ⊢;rw[QN,QB eL];exact this
   .exact k1 E' w' _ (Py u2).norm.loose
  .rename_i h _
   split at hk
   .rename_i ty n sz gr f dD hh
    simp only[QE]at dD;obtain⟨⟨c1,c2⟩,c3⟩:=dD;have c1:=XJ c1;obtain⟨k1,k2,k3⟩:=hk;have hm:m<=aL.hp.length:=by
     rw[Aj]at hh;have:=(List.getElem?_eq_some_iff.1 hh).1;omega
    let O2:Nat->Option Nat:=λb=>(E'.O b).bind λj=>if j<m then some j else if j=h then some m else none
    let E2:Env:=⟨λk=>if k<m then E'.β k else if k=m then E'.β h else none,λk=>if k<m then E'.τ k else if k=m then E'.τ h else none,O2,λk=>if k<m then E'.κ k else none,λk=>if k<m then E'.ζ k else if k=m then E'.ζ h else none,E'.I⟩
    have uK:Cl B E2 w':=by
     refine⟨aA.os,aA.tape,aA.output,aA.size,aA.dZ,aA.I0,aA.dR,aA.cC,λb j hO=>?_,⟨λk b hk=>?_,λk v hk=>?_,λk z hk=>?_⟩⟩
     .have hO:(E'.O b).bind (λj=>if j<m then some j else if j=h then some m else none)=some j:=hO
      cases ma:E'.O b with
      |none=>rw[ma]at hO;cases hO
      |some q=>exact aA.cR b q ma
     .show (if k<m then E'.β k else if k=m then E'.β h else none)=some b
      rw[QB (dV k (.inl (by rw[hk];simp)))];exact aA.cL.β k b hk
     .show Pm v (if k<m then E'.τ k else if k=m then E'.τ h else none)
      rw[QB (dV k (.inr (.inl (by rw[hk];simp))))];exact aA.cL.τ k v hk
     .show (if k<m then E'.ζ k else if k=m then E'.ζ h else none)=some z
      rw[QB (dV k (.inr (.inr (by rw[hk];simp))))];exact aA.cL.ζ k z hk
    have WO:∀b k,k<m->E'.O b=some k->O2 b=some k:=λb k hk hb=>by simp[O2,hb,hk]
    have xM:∀b,E'.O b=some h->O2 b=some m:=λb hb=>by
     simp only[O2,hb,ZS];rw[QA (by omega)];simp
    refine⟨_,oK,_,E2,rfl,uK,λk aC=>?_,?_⟩
    .refine k2 k E2 w' ?_
     have hlen:(cN dn (takeN m aL.hp++[.own ty n sz gr f])).length=m+1:=by
      rw[Jk,A8,QF,QZ,UQ hm];rfl
     rw[hlen]at k3;have xR:(takeN m aL.hp).length=m:=by rw[A8,QZ,UQ hm]
     have bC:=cB.st.heap
     by_cases xq:k<m
     .have h1:Aq (cN dn (takeN m aL.hp++[.own ty n sz gr f])) k=Aq (cN dn (takeN m aL.hp)) k:=by
       simp only[Aq,Aj,Hm];rw[QM (by omega)]
      rw[h1];have h2:bQ E' w' k (Aq (cN dn (takeN m aL.hp)) k):=by
       refine bQ.cN ?_;have:=bC k;simp only[Aq,Aj,A8]at this ⊢;rw[QN,QB xq];exact this
      obtain⟨l,hl⟩:∃l,(cN dn (takeN m aL.hp))[k]?=some l:=⟨_,QC (by rw[Jk];omega)⟩;have hle:Aq (cN dn (takeN m aL.hp)) k=l:=by simp only[Aq,Aj,hl,XG]
      rw[hle]at h2 ⊢;exact h2.move (Gc c3 hl) rfl (QB xq) (QB xq) (QB xq) λb hb=>WO b k xq hb
     .obtain rfl:k=m:=by omega
      have h1:Aq (cN dn (takeN k aL.hp++[.own ty n sz gr f])) k=.own ty (.a (dn.i n)) sz gr f:=by
       simp only[Aq,Aj,Hm];rw[QO (by omega),xR,UE];rfl
      rw[h1];have h2:=bC h;rw[Bo hh]at h2;have h3:bQ E' w' h (.own ty (.a (dn.i n)) sz gr f):=h2;refine h3.move trivial rfl ?_ ?_ ?_ xM
      .show (if k<k then E'.β k else if k=k then E'.β h else none)=E'.β h
       rw[QA (by omega),QB rfl]
      .show (if k<k then E'.τ k else if k=k then E'.τ h else none)=E'.τ h
       rw[QA (by omega),QB rfl]
      .show (if k<k then E'.ζ k else if k=k then E'.ζ h else none)=E'.ζ h
       rw[QA (by omega),QB rfl]
    .have RN:E2.τ m=E'.τ h:=by
      show (if m<m then E'.τ m else if m=m then E'.τ h else none)=E'.τ h;rw[QA (by omega),QB rfl]
     have bF:A6 E2 w' (Q5 h m vs) us:=Pz (E:=E') (E':=E2) rfl RN c2 u2;exact k1 E2 w' _ (Py bF).norm.loose
   .exact hk.elim
 .exact hk.elim
theorem U8(hc:Az P cx){B:Bs}{N:Nat}(hg:Fh B cx.gl){E':Env}{a':Act}{w':World}{aL:Sy}(cB:bR B N E' a' w' aL){fn:Func}{m:Nat}(dV:∀h,B.cL h≠none\/B.nX h≠none\/B.nY h≠none->h<m){r:SV}{aK:List Hl}(hk:match Je cx aL fn.results.toList with
    |some vs=>LN cx m vs aL λr' dU=>Fin r' r dU aK
    |none=>False):∃v,(results fn a'.tmps).run P w'=.ok v w'/\∃uV E',Ending.returned v=.returned uV/\Cl B E' w'/\(∀h,h<aK.length->bQ E' w' h (Aq aK h))/\Rel E' w' r uV:=by
 split at hk
 .rename_i vs jY
  obtain⟨us,u1,u2⟩:=If hc hg cB fn.results.toList vs jY;have aA:=cB.st.base;have oK:(results fn a'.tmps).run P w'=.ok (if h:(⟨us⟩:Array Value).size=1 then (⟨us⟩:Array Value)[0] else .tuple ⟨us⟩) w':=by
   rw[Tu,Array.mapM_eq_mapM_toList];simp only[Sem.run_bind,Sem.run_map,u1,Result.andThen_ok,Sem.run_pure]
  obtain⟨E2,q1,q2,q3⟩:=X4 hc cB dV u2 hk;exact⟨_,oK,_,E2,rfl,q1,q2,q3⟩
 .exact hk.elim
theorem K9{B:Bs}{E:Env}{w:World}{aX:List Value}{fn:Func}{as:List SV}{ls:List Hl}(cm:B.dl=[])(dV:∀h,B.cL h≠none\/B.nX h≠none\/B.nY h≠none->h<ls.length)(hb:Cl B E w)(hh:∀h,bQ E w h (Aq ls h))(hr:A6 E w as aX):
  bR B (Eh fn.ntmps as).length E { tmps:=(⟨aX⟩:Array Value)++Array.replicate (fn.ntmps-(⟨aX⟩:Array Value).size) undef,defers:=[] } w ⟨Eh fn.ntmps as,ls,[]⟩:=by
 refine⟨⟨hb,hh,λs=>?_,?_,by rw[cm];rfl⟩,rfl,⟨λs g hs i hi=>?_,λs g i hs hi=>?_,λs g i hs hi=>?_⟩,dV⟩
 .simp only[Bd]
  cases hs:Au (Eh fn.ntmps as) s with
  |none=>trivial
  |some g =>
   obtain⟨v,hv,rfl⟩:=Kf _ _ _ _ hs;have aC:s<as.length:=(List.getElem?_eq_some_iff.1 hv).1;have eL:s<aX.length:=by rw[<-hr.1];exact aC
   have bL:((⟨aX⟩:Array Value)++Array.replicate (fn.ntmps-(⟨aX⟩:Array Value).size) undef).getD s undef=aX[s]:=by
    rw[XH,Array.getElem?_append_left (by simpa using eL)];simp[eL]
   refine⟨by simp;omega,λ_=>?_,λh=>absurd trivial h⟩;rw[bL];exact hr.2 s v _ hv (QC eL)
 .simp[Eh,Af,hr.1]
 .obtain⟨v,_,rfl⟩:=Kf _ _ _ _ hs;simp at hi
 .obtain⟨v,_,rfl⟩:=Kf _ _ _ _ hs;simp at hi
 .obtain⟨v,_,rfl⟩:=Kf _ _ _ _ hs;simp at hi
def shut:List Nat->World->World
 | [],w=>w
 |r :: rs,w=>shut rs (w.putObj r (.deferred none))
theorem Hf{F:Fence}{n:Nat}{fn:Func}{tmps:Array Value}{R:Ending->World->Prop}:∀(dl:List Nat) (w:World),dl.Nodup->(∀r∈dl,w.heap[r]?=some (.deferred (some [])))->
  (∃v,(results fn tmps).run P (shut dl w)=.ok v (shut dl w)/\R (.returned v) (shut dl w))->LeavesInM F n P fn tmps R (dl.map T9) .returning w
 | [],w,_,_,h=>h
 |r :: rs,w,hn,hd,h=>by
  obtain⟨n1,n2⟩:=List.nodup_cons.1 hn;refine⟨by simp,.inl ⟨r,_,rfl,run_takeDeferred (hd r (XA ..)),Hf rs _ n2 (λk hk=>?_) h⟩⟩;rw[World.putObj_heap_other (λ(e:k=r)=>n1 (by rw[<-e];exact hk))];exact hd k (XB _ hk)
theorem iv{B:Bs}{N:Nat}{E:Env}{a:Act}{w:World}{ff:Nat->SG}{hf:Nat->Hl}(st:St B N E a w ff hf){r:Nat}{x:Option (List Deferred)}(hr:B.w0.heap.size<=r)(hO:∀k,E.O r≠some k)(hd:w.heap[r]?=some (.deferred x))(y:Option (List Deferred)):St B N E a (w.putObj r (.deferred y)) ff hf:=by
 have hb:=st.base;have aC:r<w.heap.size:=(Array.getElem?_eq_some_iff.1 hd).1;have aN:∀b o,(w.putObj r (.deferred y)).cell? ⟨b,o,none⟩=w.cell? ⟨b,o,none⟩:=by
  intro b o;simp only[World.cell?]
  by_cases e:b=r
  .subst e;rw[World.putObj_heap_same aC,hd]
  .rw[World.putObj_heap_other e]
 have hx:Ext E w E (w.putObj r (.deferred y)):=⟨λ_ _ h=>h,λ_ _ h=>.inl h,λ_ _ h=>h,λ_ _ h=>h,λ_ _ h=>h,λb o _=>aN b o⟩;refine st.step hx ⟨hb.os,hb.tape,hb.output,?_,?_,?_,?_,hb.cC,?_,hb.cL⟩ λk=>?_
 .rw[World.putObj_size];exact hb.size
 .intro b aC hX;rw[World.putObj_heap_other (by omega)];exact hb.dZ b aC hX
 .intro b o hi
  obtain⟨i1,i2⟩:=hb.I0 b o hi;exact⟨i1,by rw[aN];exact i2⟩
 .intro b o hi;rw[World.putObj_size];exact hb.dR b o hi
 .intro b k hO;rw[World.putObj_size];exact hb.cR b k hO
 .refine bQ.keep hx (st.heap k) rfl rfl rfl rfl λb fX=>⟨fX,?_,λ_ h=>h⟩
  exact World.putObj_heap_other (λe=>hO k (by rw[<-e];exact fX))
theorem Aap{B:Bs}{N:Nat}{E:Env}{a:Act}{ff:Nat->SG}{hf:Nat->Hl}:∀(dl:List Nat) (w:World),dl.Nodup->St B N E a w ff hf->(∀r∈dl,B.w0.heap.size<=r/\(∀k,E.O r≠some k)/\w.heap[r]?=some (.deferred (some [])))->St B N E a (shut dl w) ff hf
 | [],_,_,st,_=>st
 |r :: rs,w,hn,st,h=>by
  obtain⟨n1,n2⟩:=List.nodup_cons.1 hn;obtain⟨h1,h2,h3⟩:=h r (XA ..);refine Aap rs _ n2 (iv st h1 h2 h3 none) λk hk=>?_;obtain⟨k1,k2,k3⟩:=h k (XB _ hk);exact⟨k1,k2,by rw[World.putObj_heap_other (λ(e:k=r)=>n1 (by rw[<-e];exact hk))];exact k3⟩
theorem bR.shut{B B1:Bs}{N:Nat}{E:Env}{a:Act}{w:World}{σ:Sy}(hr:oG B B1)(h0:B.dl=[])(hs:bR B1 N E a w σ):
  B1.dl.Nodup/\(∀r∈B1.dl,w.heap[r]?=some (.deferred (some [])))/\bR B N E { a with defers:=[] } (Sx.shut B1.dl w) σ:=by
 have hm:Afs B1:=hr.marks ⟨by rw[h0];exact List.nodup_nil,by rw[h0];simp⟩;have hb:=hs.st.base;have hd:∀r∈B1.dl,B.w0.heap.size<=r/\(∀k,E.O r≠some k)/\w.heap[r]?=some (.deferred (some [])):=by
  intro r BX;obtain⟨m1,m2,m3⟩:=hm.bY r BX;refine⟨?_,λk hk=>?_,(hb.dZ r m1 m2).trans m3⟩
  .rcases hr.new r BX with h|h
   .rw[h0]at h;cases h
   .exact h
  .rcases (hb.cR r k hk).2 with h|h
   .omega
   .exact m2 h
 have fE:St B N E { a with defers:=[] } w (Bd σ) (Aq σ.hp):=⟨hr.base hb,hs.st.heap,hs.st.slot,hs.st.size,by rw[h0];rfl⟩;refine⟨hm.nodup,λr BX=>(hd r BX).2.2,Aap B1.dl w hm.nodup fE hd,hs.len,hs.wf,λk hk=>hs.ge k ?_⟩;rw[hr.cL,hr.nX,hr.nY];exact hk
def Bs.bare(B:Bs):Bs:={ B with dl:=[] }
theorem Cl.bare{B:Bs}{E:Env}{w:World}(h:Cl B E w):Cl B.bare E w:=⟨h.os,h.tape,h.output,h.size,h.dZ,h.I0,h.dR,h.cC,h.cR,⟨h.cL.β,h.cL.τ,h.cL.ζ⟩⟩
theorem Cl.tH{B:Bs}{E:Env}{w:World}(h:Cl B.bare E w):Cl B E w:=⟨h.os,h.tape,h.output,h.size,h.dZ,h.I0,h.dR,h.cC,h.cR,⟨h.cL.β,h.cL.τ,h.cL.ζ⟩⟩
theorem Sn(hd:Qz P)(hc:Az P cx)(bS:Et P cx.gl cx.eD)(fM:Vw P cx){f:FuncId}{fn:Func}(hf:P.funcs[f]?=some fn){as:List SV}{ls:List Hl}{r:SV}{aK:List Hl}
  (h:body cx fn as ls λr' dU=>Fin r' r dU aK):E4 P cx.gl f as ls r aK:=by
 intro B E w aX nI IX dV hb hg hh hr;unfold body at h
 split at h
 .rename_i c gG
  refine callsIn_wide.1 (callsIn_of_wp_marks (F:=Fence.wide) (n:=0) hf gG trivial ?_);refine wpIn_mono (F:=Fence.wide) (By hd hc bS fM c _ _ h none 0 (.inl rfl) B.bare hg E _ w (K9 (B:=B.bare) rfl dV hb.bare hh hr)) λe a' w' hq=>?_;obtain⟨B1,E',aL,dB,cB,hk⟩:=hq;obtain⟨m1,m2,m3⟩:=cB.shut dB rfl;rw[<-Af ls]at dV;have done:(∃v,(results fn a'.tmps).run P (shut B1.dl w')=.ok v (shut B1.dl w')/\∃uV E',Ending.returned v=.returned uV/\Cl B.bare E' (shut B1.dl w')/\(∀h,h<aK.length->bQ E' (shut B1.dl w') h (Aq aK h))/\Rel E' (shut B1.dl w') r uV)->LeavesInM Fence.wide 0 P fn a'.tmps (λe w'=>∃v E',e=.returned v/\Cl B E' w'/\(∀h,h<aK.length->bQ E' w' h (Aq aK h))/\Rel E' w' r v) a'.defers .returning w':=by
   rintro⟨v,q1,v1,E2,q2,q3,q4,q5⟩;rw[cB.st.defers];exact Hf B1.dl w' m1 m2 ⟨v,q1,v1,E2,q2,q3.tH,q4,q5⟩
  cases e with
  |normal=>exact done (Qk (B:=B.bare) hc hg m3 dV hk)
  |ret=>exact done (Qk (B:=B.bare) hc hg m3 dV hk)
  |exit i=>exact hk.elim
  |goto l=>exact hk.elim
  |panic c=>exact hk.elim
  |outgrown=>exact hk.elim
 .exact h.elim
theorem Ju(hd:Qz P)(hc:Az P cx)(bS:Et P cx.gl cx.eD)(fM:Vw P cx){f:FuncId}{fn:Func}(hf:P.funcs[f]?=some fn){as:List SV}{ls:List Hl}{r:SV}{aK:List Hl}
  (h:OI cx fn as ls λr' dU=>Fin r' r dU aK):E4 P cx.gl f as ls r aK:=by
 intro B E w aX nI IX dV hb hg hh hr;unfold OI at h
 split at h
 .rename_i c gG
  refine callsIn_wide.1 (callsIn_of_wp_marks (F:=Fence.wide) (n:=0) hf gG trivial ?_);refine wpIn_mono (F:=Fence.wide) (By hd hc bS fM c _ _ h none 0 (.inl rfl) B.bare hg E _ w (K9 (B:=B.bare) rfl dV hb.bare hh hr)) λe a' w' hq=>?_;obtain⟨B1,E',aL,dB,cB,hk⟩:=hq;obtain⟨m1,m2,m3⟩:=cB.shut dB rfl;rw[<-Af ls]at dV;have done:(∃v,(results fn a'.tmps).run P (shut B1.dl w')=.ok v (shut B1.dl w')/\∃uV E',Ending.returned v=.returned uV/\Cl B.bare E' (shut B1.dl w')/\(∀h,h<aK.length->bQ E' (shut B1.dl w') h (Aq aK h))/\Rel E' (shut B1.dl w') r uV)->LeavesInM Fence.wide 0 P fn a'.tmps (λe w'=>∃v E',e=.returned v/\Cl B E' w'/\(∀h,h<aK.length->bQ E' w' h (Aq aK h))/\Rel E' w' r v) a'.defers .returning w':=by
   rintro⟨v,q1,v1,E2,q2,q3,q4,q5⟩;rw[cB.st.defers];exact Hf B1.dl w' m1 m2 ⟨v,q1,v1,E2,q2,q3.tH,q4,q5⟩
  cases e with
  |normal=>exact done (U8 (B:=B.bare) hc hg m3 dV hk)
  |ret=>exact done (U8 (B:=B.bare) hc hg m3 dV hk)
  |exit i=>exact hk.elim
  |goto l=>exact hk.elim
  |panic c=>exact hk.elim
  |outgrown=>exact hk.elim
 .exact h.elim
theorem Ahm{c rest:Code}{Q:Exit->Act->World->Prop}{a:Act}{w:World}(l:Nat)(hf:findLabel c l=some rest)(R:Nat->Act->World->Prop)
  (first:c.wp P (Exit.jump l (λa w=>∃n,R n a w) Q) a w)
  (pass:∀n a w,R n a w->rest.wp P (Exit.jump l (λa' w'=>∃n',n'<n/\R n' a' w') Q) a w):(Code.scope c).wp P Q a w:=by
 classical
 let μ:Act->World->Nat:=λa w=>if h:∃n,R n a w then Classical.choose (Gf h) else 0
 have FK:∀a w,(∃n,R n a w)->R (μ a w) a w/\∀m,R m a w->μ a w<=m:=by
  intro a w h;have:μ a w=Classical.choose (Gf h):=by simp only[μ];rw[dif_pos h]
  rw[this];exact Classical.choose_spec (Gf h)
 refine wp_scope_jumps l (λa w=>∃n,R n a w) μ hf first λa w hI=>?_
 obtain⟨h1,h2⟩:=FK a w hI;refine wp_mono (pass _ a w h1) λe a' w' hq=>?_;cases e with
 |goto l' =>
  obtain⟨rfl,n',aC,hr⟩:=hq;exact⟨rfl,⟨n',hr⟩,Nat.lt_of_le_of_lt ((FK a' w' ⟨n',hr⟩).2 n' hr) aC⟩
 |_=>exact hq
theorem Qt(hd:Qz P)(hc:Az P cx)(bS:Et P cx.gl cx.eD)(fM:Vw P cx){f:FuncId}{fn:Func}(hf:P.funcs[f]?=some fn){l:Nat}{pre c rest:Code}(gG:fn.body=some (.seq pre (.scope c)))(hl:findLabel c l=some rest){as:List SV}{ls:List Hl}{r:SV}{aK:List Hl}
  (h:sk cx fn pre c l rest as ls λr' dU=>Fin r' r dU aK):E4 P cx.gl f as ls r aK:=by
 intro B E w aX nI IX dV hb hg hh hr;obtain⟨keep,J,h1,h2⟩:=h;rw[hc.D]at h1 h2;have wN:=dV;rw[<-Af ls]at wN;have hcw:(Code.seq pre (.scope c)).wp P (bodyPostM Fence.wide 0 P fn (λe w'=>∃v E',e=.returned v/\Cl B E' w'/\(∀h,h<aK.length->bQ E' w' h (Aq aK h))/\Rel E' w' r v)) { tmps:=(⟨aX⟩:Array Value)++Array.replicate (fn.ntmps-(⟨aX⟩:Array Value).size) undef,defers:=[] } w:=?_
 .exact callsIn_wide.1 (callsIn_of_wp_marks (F:=Fence.wide) (n:=0) hf gG trivial (wpIn_wide.2 hcw))
 have done:∀ {B1:Bs} {E':Env} {a':Act} {w':World} {aL:Sy},oG B.bare B1->bR B1 (Eh fn.ntmps as).length E' a' w' aL->(match Je cx aL fn.results.toList with
    |some vs=>DC cx (Ah ls) vs aL λr' dU=>Fin r' r dU aK
    |none=>False)->LeavesInM Fence.wide 0 P fn a'.tmps (λe w'=>∃v E',e=.returned v/\Cl B E' w'/\(∀h,h<aK.length->bQ E' w' h (Aq aK h))/\Rel E' w' r v) a'.defers .returning w':=by
  intro B1 E' a' w' aL dB cB hk;obtain⟨m1,m2,m3⟩:=cB.shut dB rfl;obtain⟨v,q1,v1,E2,q2,q3,q4,q5⟩:=Qk (B:=B.bare) hc hg m3 wN hk;rw[cB.st.defers];exact Hf B1.dl w' m1 m2 ⟨v,q1,v1,E2,q2,q3.tH,q4,q5⟩
 refine wp_seq (wp_mono (Zp hd hc bS fM (B:=B.bare) hg pre _ _ h1 E _ w (K9 (B:=B.bare) rfl dV hb.bare hh hr)) λe0 a0 w0 SR=>?_);obtain⟨B0,E0,σ0,oM,kU,fG⟩:=SR;cases e0 with
 |ret=>exact fG.elim
 |exit i=>exact fG.elim
 |goto l=>exact fG.elim
 |panic c=>exact fG.elim
 |outgrown=>exact fG.elim
 |normal =>
 have h1:=fG;refine Ahm l hl (λm a w=>∃B1 vs hp E,oG B.bare B1/\J m vs hp/\bR B1 (Eh fn.ntmps as).length E a w ⟨Oo (K5 keep vs) (blank (Eh fn.ntmps as)),hp,[]⟩) ?_ ?_
 .refine wp_mono (Zp hd hc bS fM (oM.gl hg) c _ _ h1 E0 _ w0 kU) λe a' w' hq=>?_
  obtain⟨B1,E',aL,dB,cB,hk⟩:=hq;have dB:=oM.trans dB;cases e with
  |normal=>exact done dB cB hk
  |ret=>exact done dB cB hk
  |exit i=>exact hk.elim
  |goto l' =>
   obtain⟨rfl,fX,m2,wQ⟩:=hk;exact⟨rfl,m2,_,_,_,_,dB,wQ,cB.head rfl fX (dB.NS wN)⟩
  |panic c=>exact hk.elim
  |outgrown=>exact hk.elim
 .rintro m a1 w1 ⟨B1,vs,hp,E1,dB,hJ,cA⟩
  refine wp_mono (Zp hd hc bS fM (dB.gl hg) rest _ _ (h2 m vs hp hJ) E1 a1 w1 cA) λe a' w' hq=>?_;obtain⟨B2,E',aL,cO,cB,hk⟩:=hq;have cO:=dB.trans cO;cases e with
  |normal=>exact done cO cB hk
  |ret=>exact done cO cB hk
  |exit i=>exact hk.elim
  |goto l' =>
   obtain⟨rfl,fX,m2,aC,wQ⟩:=hk;exact⟨rfl,m2,aC,_,_,_,_,cO,wQ,cB.head rfl fX (cO.NS wN)⟩
  |panic c=>exact hk.elim
  |outgrown=>exact hk.elim
end
abbrev Rec:=Option (Sy×List Nat×Out)
abbrev X:=(Nat->SG)×(Nat->Hl)
def Hc(N:Nat)(f:Nat->SG)(d:Option Nat)(g:SG):Nat->SG:=λs=>if d=some s/\s<N then g else f s
def Fi(h:Nat):Ef->Hl->Hl
 |.set h' off vs,x=>if h'=h then (match x with|.aG ty cs=>.aG ty (C9 cs off vs)|x=>x) else x
 |.put h' hl,x=>if h'=h then hl else x
def Dm(h:Nat):List Ef->Hl->Hl
 | [],x=>x
 |e :: es,x=>Dm h es (Fi h e x)
theorem zd(hf:Nat->Hl)(e:Ef)(h:Nat):dc hf e h=Fi h e (hf h):=by
 cases e with
 |set h' off vs =>
  simp only[dc,Fi]
  by_cases e:h'=h
  .subst e
   rw[QB rfl];cases hx:hf h'<;>simp[aR,hx]
  .rw[QA e]
   cases hx:hf h'<;>simp[aR,Ne.symm e]
 |put h' hl =>
  simp only[dc,Fi,aR]
  by_cases e:h'=h
  .subst e;simp
  .rw[QA e,QA (λh=>e h.symm)]
theorem Ag5(h:Nat):∀(es:List Ef) (hf:Nat->Hl),Hy hf es h=Dm h es (hf h)
 | [],_=>rfl
 |e :: es,hf=>by
  show Hy (dc hf e) es h=Dm h es (Fi h e (hf h));rw[Ag5 h es,zd]
def D6(N:Nat)(gm:List BT)(o:Oper)(rec:Rec)(x:X):X :=
 match rec with
 |none=>(Hc N x.1 o.dst none,x.2)
 |some (_,T,r)=>(Hc N x.1 o.dst (some (Ac gm T,r.v)),Hy x.2 r.fK)
def Ed(N:Nat)(gm:List BT)(S:Nat->Bool):List (Oper×Rec)->Nat->X->X
 | [],_,x=>x
 |p :: l,i,x=>Ed N gm S l (i+1) (if S i then D6 N gm p.1 p.2 x else x)
def Cm(N:Nat)(gm:List BT):List (Oper×Rec)->X->X
 | [],x=>x
 |p :: l,x=>Cm N gm l (D6 N gm p.1 p.2 x)
theorem Xx{N:Nat}{gm:List BT}{S:Nat->Bool}:∀(L:List (Oper×Rec)) (k:Nat) (x:X),(∀j,j<L.length->S (k+j)=true)->Ed N gm S L k x=Cm N gm L x
 | [],_,_,_=>rfl
 |p :: L,k,x,h=>by
  have h0:=h 0 (by simp);simp only[XY]at h0;simp only[Ed,Cm,h0,if_true];exact Xx L (k+1) _ λj hj=>by have:=h (j+1) (by simpa using hj);rwa [show k+1+j=k+(j+1) by omega]
theorem Kj{N:Nat}{gm:List BT}{S:Nat->Bool}:∀(L:List (Oper×Rec)) (k:Nat) (x:X),(∀j,j<L.length->S (k+j)=false)->Ed N gm S L k x=x
 | [],_,_,_=>rfl
 |p :: L,k,x,h=>by
  have h0:=h 0 (by simp);simp only[XY]at h0;simp only[Ed,h0,XD,if_false];exact Kj L (k+1) _ λj hj=>by have:=h (j+1) (by simpa using hj);rwa [show k+1+j=k+(j+1) by omega]
theorem Nl{N:Nat}{gm:List BT}:∀(L:List (Oper×Rec)) (i k:Nat) (x:X),Ed N gm (λj=>decide (j<k+i)) L k x=Cm N gm (L.take i) x
 | [],i,k,x=>by simp[Ed,Cm]
 |p :: L,0,k,x=>by
  simp only[List.take_zero,Cm];exact Kj _ _ _ λj _=>by simp
 |p :: L,i+1,k,x=>by
  simp only[Ed,YE,Cm];rw[QB (by simp)];have:=Nl (N:=N) (gm:=gm) L i (k+1) (D6 N gm p.1 p.2 x);rw[<-this];congr 1
  funext j;congr 1;exact propext (by omega)
def Anf(P:Program)(gl:List (Nat×SV))(all:List Oper)(o:Oper)(gm:List BT)(σ:Sy):Rec->Prop
 |none=>guardOf all σ o.guard=some none
 |some (dS,T,r)=>guardOf all σ o.guard=some (some (dS,T))/\Vx P gl dS T o r/\Jh dS.hp r.fK=true/\((T=[]\/r.fK=[]\/Bh (Ac dS.gm T))/\∀c,o.op≠.defer c)/\Ac gm T=Ac dS.gm T
theorem Rt{gm y:List BT}:∀ {T:List Nat},(∀i∈T,i<gm.length)->Ac (gm++y) T=Ac gm T
 | [],_=>rfl
 |i :: T,h=>by
  have h1:=Rt (gm:=gm) (y:=y) (T:=T) λj hj=>h j (XB _ hj);have h2:nth (gm++y) i=nth gm i:=by rw[Aj,Aj,QM (h i (XA ..))]
  simp only[Ac,ZU,h2]at *;rw[h1]
theorem X3(σ:Sy)(d:Option Nat)(g:Option G)(hp:List Hl):Bd ⟨cM σ.fr d g,hp,σ.gm⟩=Hc σ.fr.length (Bd σ) d (g.map λg=>(Ac σ.gm g.tg,g.v)):=by
 funext s;cases d with
 |none=>simp[cM,Hc,Bd]
 |some k =>
  simp only[cM,Hc,Bd,B5]
  by_cases e:s=k/\k<σ.fr.length
  .obtain⟨rfl,h⟩:=e;simp[h]
  .rw[QA e,QA (λh=>e ⟨(Option.some.inj h.1).symm,by rw[Option.some.inj h.1];exact h.2⟩)]
theorem Akm{P:Program}{gl:List (Nat×SV)}{ops:Array Oper}{os:List Oper}{σ aL:Sy}{rs:List Rec}(h:Z3 P gl ops.toList os σ rs aL):tF σ->∀N,σ.fr.length=N->
  rs.length=os.length/\tF aL/\aL.fr.length=N/\σ.hp.length<=aL.hp.length/\(∃y,aL.gm=σ.gm++y)/\(Bd aL,Aq aL.hp)=Cm N aL.gm (os.zip rs) (Bd σ,Aq σ.hp)/\
  ∀(i:Nat) (o:Oper) (rec:Rec),os[i]?=some o->rs[i]?=some rec->∃pO,tF pO/\pO.fr.length=N/\(Bd pO,Aq pO.hp)=Cm N aL.gm ((os.zip rs).take i) (Bd σ,Aq σ.hp)/\Anf P gl ops.toList o aL.gm pO rec:=by
 induction h with
 |nil σ=>intro wf N hN;exact⟨rfl,wf,hN,QH _,⟨[],by simp⟩,rfl,by simp⟩
 | @skip o os σ aL rs hg h ih =>
  intro wf N hN;obtain⟨h1,h2,h3,h4,⟨y,h5⟩,h6,h7⟩:=ih (wf.cM o.dst none (by simp) σ.hp) N (by rw[Lr];exact hN);have hx:D6 N aL.gm o none (Bd σ,Aq σ.hp)=(Bd ⟨cM σ.fr o.dst none,σ.hp,σ.gm⟩,Aq σ.hp):=by
   simp only[D6];rw[X3,hN];rfl
  refine⟨by simp[h1],h2,h3,h4,⟨y,h5⟩,?_,λi o' rec hi hr=>?_⟩
  .simp only[YM,Cm]
   rw[hx];exact h6
  .cases i with
   |zero =>
    simp at hi hr;subst hi hr;exact⟨σ,wf,hN,rfl,hg⟩
   |succ i =>
    simp at hi hr;obtain⟨pO,w1,w2,w3,w4⟩:=h7 i o' rec hi hr;refine⟨pO,w1,w2,?_,w4⟩;simp only[YM,YE,Cm];rw[hx];exact w3
 | @step o os σ dS aL T r rs hg hl he kJ h ih =>
  intro wf N hN;obtain⟨w1,w2,w3,w4,w5,⟨z,w6⟩,_,_⟩:=Hg (ops:=ops) rfl hg wf;obtain⟨h1,h2,h3,h4,⟨y,h5⟩,h6,h7⟩:=ih (w1.cM o.dst (some ⟨T,none,none,r.v⟩) (by rintro g' ⟨⟩;exact⟨w5,rfl,rfl⟩) _) N (by rw[Lr,w4];exact hN);have hT:Ac aL.gm T=Ac dS.gm T:=by rw[h5];exact Rt w5
  have hx:D6 N aL.gm o (some (dS,T,r)) (Bd σ,Aq σ.hp)=(Bd ⟨cM dS.fr o.dst (some ⟨T,none,none,r.v⟩),Lw dS.hp r.fK,dS.gm⟩,Aq (Lw dS.hp r.fK)):=by
   simp only[D6];rw[X3,Jo _ _ he,w4,hN,w2,w3,hT];rfl
  refine⟨by simp[h1],h2,h3,XV (by rw[<-w3];exact Oy _ _) h4,⟨z++y,by rw[h5,w6,ZH]⟩,?_,λi o' rec hi hr=>?_⟩
  .simp only[YM,Cm]
   rw[hx];exact h6
  .cases i with
   |zero =>
    simp at hi hr;subst hi hr;exact⟨σ,wf,hN,rfl,hg,hl,he,kJ,hT⟩
   |succ i =>
    simp at hi hr;obtain⟨pO,q1,q2,q3,q4⟩:=h7 i o' rec hi hr;refine⟨pO,q1,q2,?_,q4⟩;simp only[YM,YE,Cm];rw[hx];exact q3
theorem Yg{N:Nat}{gm:List BT}{o:Oper}{rec:Rec}{x:X}{s:Nat}(h:o.dst≠some s):(D6 N gm o rec x).1 s=x.1 s:=by
 cases rec with
 |none=>simp[D6,Hc,h]
 |some p=>obtain⟨σ,T,r⟩:=p;simp[D6,Hc,h]
theorem Pj{N:Nat}{gm:List BT}{o:Oper}{rec:Rec}{x y:X}{s:Nat}(h:x.1 s=y.1 s):(D6 N gm o rec x).1 s=(D6 N gm o rec y).1 s:=by
 cases rec with
 |none=>simp only[D6,Hc];split<;>simp[h]
 |some p=>obtain⟨σ,T,r⟩:=p;simp only[D6,Hc];split<;>simp[h]
theorem Ki{N:Nat}{gm:List BT}{S S':Nat->Bool}{s:Nat}:∀(L:List (Oper×Rec)) (k:Nat) (x y:X),x.1 s=y.1 s->(∀(j:Nat) (p:Oper×Rec),L[j]?=some p->p.1.dst=some s->S (k+j)=S' (k+j))->
  (Ed N gm S L k x).1 s=(Ed N gm S' L k y).1 s
 | [],_,_,_,h,_=>h
 |p :: L,k,x,y,h,hS=>by
  simp only[Ed];refine Ki L (k+1) _ _ ?_ λj q hq hd=>by have:=hS (j+1) q (by simpa using hq) hd;rwa [show k+(j+1)=k+1+j by omega]at this
  by_cases hd:p.1.dst=some s
  .have:=hS 0 p rfl hd
   simp only[XY]at this;rw[this]
   split
   .exact Pj h
   .exact h
  .have a1:(if S k then D6 N gm p.1 p.2 x else x).1 s=x.1 s:=by split;exact Yg hd;rfl
   have a2:(if S' k then D6 N gm p.1 p.2 y else y).1 s=y.1 s:=by split;exact Yg hd;rfl
   rw[a1,a2,h]
def Lv:Rec->List Ef
 |none=>[]
 |some (_,_,r)=>r.fK
theorem Yh{N:Nat}{gm:List BT}{o:Oper}{rec:Rec}{x:X}{h:Nat}:(D6 N gm o rec x).2 h=Dm h (Lv rec) (x.2 h):=by
 cases rec with
 |none=>rfl
 |some p=>obtain⟨σ,T,r⟩:=p;exact Ag5 h r.fK x.2
def Fg(h:Nat)(S:Nat->Bool):List (Oper×Rec)->Nat->Hl->Hl
 | [],_,x=>x
 |p :: l,i,x=>Fg h S l (i+1) (if S i then Dm h (Lv p.2) x else x)
theorem Hx{N:Nat}{gm:List BT}{S:Nat->Bool}{h:Nat}:∀(L:List (Oper×Rec)) (k:Nat) (x:X),(Ed N gm S L k x).2 h=Fg h S L k (x.2 h)
 | [],_,_=>rfl
 |p :: L,k,x=>by
  simp only[Ed,Fg];rw[Hx L];congr 1
  split
  .exact Yh
  .rfl
theorem Vr{x:Nat×Option (Nat×Nat)}:∀ {l:List (Nat×Option (Nat×Nat))},od x l=false->∀y∈l,Cy x y=false
 | [],_,y,hy=>by cases hy
 |z :: l,h,y,hy=>by
  simp only[od,XC]at h;rcases List.mem_cons.1 hy with rfl|hy
  .exact h.1
  .exact Vr h.2 y hy
theorem Fp{t:List (Nat×Option (Nat×Nat))}:∀ {l:List (Nat×Option (Nat×Nat))},P1 l t=false->∀x∈l,∀y∈t,Cy x y=false
 | [],_,x,hx,_,_=>by cases hx
 |z :: l,h,x,hx,y,hy=>by
  simp only[P1,XC]at h;rcases List.mem_cons.1 hx with rfl|hx
  .exact Vr h.1 y hy
  .exact Fp h.2 x hx y hy
theorem Q8(x y:Nat×Option (Nat×Nat)):Cy x y=Cy y x:=by
 obtain⟨h,a⟩:=x;obtain⟨k,b⟩:=y;simp only[Cy];have e:(h==k)=(k==h):=BEq.comm;rw[e];congr 1;cases a with
 |none=>cases b<;>rfl
 |some a=>cases b with
  |none=>rfl
  |some b=>simp[Bool.and_comm]
def same(x y:Hl)(U:Nat->Prop):Prop:=x=y\/∃ty cs dH,x=.aG ty cs/\y=.aG ty dH/\dH.length=cs.length/\∀j,U j->dH[j]?=cs[j]?
theorem O4{α:Type}:∀(vs l:List α) (off i:Nat),(i<off\/off+vs.length<=i)->(C9 l off vs)[i]?=l[i]?
 | [],_,_,_,_=>rfl
 |v :: vs,l,off,i,h=>by
  simp only[QG]at h;rw[C9,O4 vs _ (off+1) i (by omega),As,XT (by omega)]
theorem M0{α:Type}:∀(vs l l':List α) (off i:Nat),l'.length=l.length->l'[i]?=l[i]?->(C9 l' off vs)[i]?=(C9 l off vs)[i]?
 | [],_,_,_,_,_,h=>h
 |v :: vs,l,l',off,i,hl,h=>by
  rw[C9,C9];refine M0 vs _ _ (off+1) i (by simp[As,hl]) ?_;rw[As,As,ZD,ZD,hl,h]
theorem W7{h:Nat}{U:Nat->Prop}:∀(es:List Ef) {x y:Hl},same x y U->same (Dm h es x) (Dm h es y) U
 | [],_,_,hs=>hs
 |e :: es,x,y,hs=>by
  refine W7 es ?_;rcases hs with rfl|⟨ty,cs,dH,rfl,rfl,hl,hU⟩
  .exact .inl rfl
  .cases e with
   |set h' off vs =>
    simp only[Fi]
    split
    .exact .inr ⟨ty,_,_,rfl,rfl,by rw[Dd,Dd,hl],λj hj=>M0 vs _ _ off j hl (hU j hj)⟩
    .exact .inr ⟨ty,cs,dH,rfl,rfl,hl,hU⟩
   |put h' mG =>
    simp only[Fi]
    split
    .exact .inl rfl
    .exact .inr ⟨ty,cs,dH,rfl,rfl,hl,hU⟩
theorem M9{x y z:Hl}{U:Nat->Prop}(h1:same x y U)(h2:same y z U):same x z U:=by
 rcases h1 with rfl|⟨ty,cs,dH,rfl,rfl,hl,hU⟩
 .exact h2
 .rcases h2 with rfl|⟨ty2,cs2,cs3,e,rfl,iJ,hU2⟩
  .exact .inr ⟨ty,cs,dH,rfl,rfl,hl,hU⟩
  .cases e
   exact .inr ⟨ty,cs,cs3,rfl,rfl,by rw[iJ,hl],λj hj=>by rw[hU2 j hj,hU j hj]⟩
theorem Ah0{x y:Hl}{U:Nat->Prop}(h1:same x y U):same y x U:=by
 rcases h1 with rfl|⟨ty,cs,dH,rfl,rfl,hl,hU⟩
 .exact .inl rfl
 .exact .inr ⟨ty,dH,cs,rfl,rfl,hl.symm,λj hj=>(hU j hj).symm⟩
def v8(ρ:Nat×Option (Nat×Nat))(j:Nat):Prop:=match ρ.2 with
 |none=>True
 |some (off,n)=>off<=j/\j<off+n
theorem Na{ρ:Nat×Option (Nat×Nat)}:∀(es:List Ef) (x:Hl),(∀y∈gZ es,Cy y ρ=false)->same x (Dm ρ.1 es x) (v8 ρ)/\(ρ.2=none->Dm ρ.1 es x=x)
 | [],x,_=>⟨.inl rfl,λ_=>rfl⟩
 |e :: es,x,h=>by
  have head:same x (Fi ρ.1 e x) (v8 ρ)/\(ρ.2=none->Fi ρ.1 e x=x):=by
   obtain⟨hh,a⟩:=ρ;cases e with
   |set h' off vs =>
    have hm:=h (h',some (off,Ah vs)) (by simp[gZ]);simp only[Fi]
    by_cases e:h'=hh
    .subst e
     rw[QB rfl];cases x<;>try exact⟨.inl rfl,λ_=>rfl⟩
     rename_i ty cs;cases a with
     |none=>simp[Cy]at hm
     |some a =>
      obtain⟨o2,n2⟩:=a;simp only[Cy,beq_self_eq_true,UG,Af,ZI]at hm;refine⟨.inr ⟨ty,cs,_,rfl,rfl,Dd _ _ _,λj hj=>O4 _ _ _ _ ?_⟩,λh=>by cases h⟩;simp only[v8]at hj;rcases hm with hm|hm
      .have:¬off<o2+n2:=by intro aC;rw[(ZE ▸ aC:Nat.blt _ _=true)]at hm;cases hm
       omega
      .have:¬o2<off+vs.length:=by intro aC;rw[(ZE ▸ aC:Nat.blt _ _=true)]at hm;cases hm
       omega
    .rw[QA e];exact⟨.inl rfl,λ_=>rfl⟩
   |put h' hl =>
    have hm:=h (h',none) (by simp[gZ]);simp only[Fi]
    by_cases e:h'=hh
    .subst e;simp[Cy]at hm
    .rw[QA e];exact⟨.inl rfl,λ_=>rfl⟩
  have xR:∀y∈gZ es,Cy y ρ=false:=λy hy=>h y (by cases e<;>simp[gZ,hy]);obtain⟨t1,t2⟩:=Na es (Fi ρ.1 e x) xR;exact⟨M9 head.1 t1,λhn=>by show Dm ρ.1 es (Fi ρ.1 e x)=x;rw[t2 hn,head.2 hn]⟩
theorem Rj{ρ:Nat×Option (Nat×Nat)}{S S':Nat->Bool}:∀(L:List (Oper×Rec)) (k:Nat) (x y:Hl),same x y (v8 ρ)->(ρ.2=none->x=y)->(∀(j:Nat) (p:Oper×Rec),L[j]?=some p->S (k+j)≠S' (k+j)->∀z∈gZ (Lv p.2),Cy z ρ=false)->
  same (Fg ρ.1 S L k x) (Fg ρ.1 S' L k y) (v8 ρ)/\(ρ.2=none->Fg ρ.1 S L k x=Fg ρ.1 S' L k y)
 | [],_,_,_,h,hn,_=>⟨h,hn⟩
 |p :: L,k,x,y,h,hn,hS=>by
  simp only[Fg];have tV:=λ(x' y':Hl) (hs:same x' y' (v8 ρ)) (he:ρ.2=none->x'=y')=>Rj (ρ:=ρ) (S:=S) (S':=S') L (k+1) x' y' hs he λj q hq hd=>hS (j+1) q (by simpa using hq) (by rwa [show k+(j+1)=k+1+j by omega]);have h0:=hS 0 p rfl;simp only[XY]at h0;cases l8:S k<;>cases IT:S' k
  .exact tV x y h hn
  .obtain⟨a1,a2⟩:=Na (ρ:=ρ) (Lv p.2) y (h0 (by rw[l8,IT];decide))
   exact tV x _ (M9 h a1) (λe=>by rw[QB rfl,a2 e];exact hn e)
  .obtain⟨a1,a2⟩:=Na (ρ:=ρ) (Lv p.2) x (h0 (by rw[l8,IT];decide))
   exact tV _ y (M9 (Ah0 a1) h) (λe=>by rw[QB rfl,a2 e];exact hn e)
  .exact tV _ _ (W7 _ h) (λe=>by rw[hn e])
theorem Xb{α:Type}:∀(vs l:List α) (off i:Nat) (v:α),(i<off\/off+vs.length<=i)->C9 (Ax l i v) off vs=Ax (C9 l off vs) i v
 | [],_,_,_,_,_=>rfl
 |u :: vs,l,off,i,v,h=>by
  simp only[QG]at h;rw[C9,C9,<-Xb vs _ (off+1) i v (by omega)];congr 1;rw[As,As,As,As,List.set_comm _ _ (by omega)]
theorem Xc{α:Type}:∀(us vs l:List α) (o1 o2:Nat),(o1+us.length<=o2\/o2+vs.length<=o1\/us=[]\/vs=[])->C9 (C9 l o1 us) o2 vs=C9 (C9 l o2 vs) o1 us
 | [],vs,l,o1,o2,_=>rfl
 |u :: us,[],l,o1,o2,_=>rfl
 |u :: us,v :: vs,l,o1,o2,h=>by
  have h:o1+(us.length+1)<=o2\/o2+(vs.length+1)<=o1:=by
   rcases h with h|h|h|h
   .exact .inl h
   .exact .inr h
   .cases h
   .cases h
  rw[show C9 l o1 (u :: us)=C9 (Ax l o1 u) (o1+1) us from rfl,Xc us (v :: vs) (Ax l o1 u) (o1+1) o2 (by simp only[QG];omega)];rw[Xb (v :: vs) l o2 o1 u (by simp only[QG];omega)];rfl
theorem Aje{h:Nat}{e e':Ef}{y y':Nat×Option (Nat×Nat)}(hy:gZ [e]=[y])(zZ:gZ [e']=[y'])(hm:Cy y y'=false)(x:Hl):Fi h e (Fi h e' x)=Fi h e' (Fi h e x):=by
 cases e with
 |set h1 o1 us =>
  cases e' with
  |set h2 o2 vs =>
   simp only[Fi]
   by_cases e1:h1=h<;>by_cases e2:h2=h<;>simp only[e1,e2,if_true,if_false]
   subst e1;cases x<;>try rfl
   simp only[gZ,List.cons.injEq,and_true]at hy zZ;subst hy zZ;subst e2;simp only[Cy,beq_self_eq_true,UG,ZI,Af]at hm;refine congrArg (Hl.aG _) (Xc us vs _ o1 o2 ?_).symm;rcases hm with hm|hm
   .have:¬o1<o2+vs.length:=by intro aC;rw[(ZE ▸ aC:Nat.blt _ _=true)]at hm;cases hm
    exact .inr (.inl (by omega))
   .have:¬o2<o1+us.length:=by intro aC;rw[(ZE ▸ aC:Nat.blt _ _=true)]at hm;cases hm
    exact .inl (by omega)
  |put h2 hl =>
   simp only[Fi]
   by_cases e1:h1=h<;>by_cases e2:h2=h<;>simp only[e1,e2,if_true,if_false]
   simp only[gZ,List.cons.injEq,and_true]at hy zZ;subst hy zZ;simp[Cy,e1,e2]at hm
 |put h1 hl =>
  cases e' with
  |set h2 o2 vs =>
   simp only[Fi]
   by_cases e1:h1=h<;>by_cases e2:h2=h<;>simp only[e1,e2,if_true,if_false]
   simp only[gZ,List.cons.injEq,and_true]at hy zZ;subst hy zZ;simp[Cy,e1,e2]at hm
  |put h2 iJ =>
   simp only[Fi]
   by_cases e1:h1=h<;>by_cases e2:h2=h<;>simp only[e1,e2,if_true,if_false]
   simp only[gZ,List.cons.injEq,and_true]at hy zZ;subst hy zZ;simp[Cy,e1,e2]at hm
theorem Ag6(e:Ef):∃y,gZ [e]=[y]:=by cases e<;>exact⟨_,rfl⟩
theorem Acz(e:Ef)(es:List Ef){y:Nat×Option (Nat×Nat)}(hy:gZ [e]=[y]):gZ (e :: es)=y :: gZ es:=by
 cases e<;>simp only[gZ,List.cons.injEq,and_true]at hy ⊢<;>exact hy
theorem Acy{h:Nat}{e:Ef}{y:Nat×Option (Nat×Nat)}(hy:gZ [e]=[y]):∀(es:List Ef) (x:Hl),(∀z∈gZ es,Cy y z=false)->Dm h es (Fi h e x)=Fi h e (Dm h es x)
 | [],_,_=>rfl
 |e' :: es,x,hm=>by
  obtain⟨y',zZ⟩:=Ag6 e';rw[Acz e' es zZ]at hm;show Dm h es (Fi h e' (Fi h e x))=Fi h e (Dm h es (Fi h e' x));rw[<-Acy hy es (Fi h e' x) λz hz=>hm z (XB _ hz)];rw[Aje hy zZ (hm y' (XA ..))]
theorem Ve{h:Nat}:∀(es sP:List Ef) (x:Hl),(∀y∈gZ es,∀z∈gZ sP,Cy y z=false)->Dm h sP (Dm h es x)=Dm h es (Dm h sP x)
 | [],_,_,_=>rfl
 |e :: es,sP,x,hm=>by
  obtain⟨y,hy⟩:=Ag6 e;rw[Acz e es hy]at hm;show Dm h sP (Dm h es (Fi h e x))=Dm h es (Fi h e (Dm h sP x));rw[Ve es sP _ λy hy=>hm y (XB _ hy)];rw[Acy hy sP x (hm y (XA ..))]
theorem Uz{h:Nat}{S:Nat->Bool}{es:List Ef}:∀(L:List (Oper×Rec)) (k:Nat) (x:Hl),(∀(j:Nat) (p:Oper×Rec),L[j]?=some p->S (k+j)=true->∀y∈gZ es,∀z∈gZ (Lv p.2),Cy y z=false)->
  Fg h S L k (Dm h es x)=Dm h es (Fg h S L k x)
 | [],_,_,_=>rfl
 |p :: L,k,x,hm=>by
  simp only[Fg];have tV:=λx=>Uz (h:=h) (S:=S) (es:=es) L (k+1) x λj q hq hd=>hm (j+1) q (by simpa using hq) (by rwa [show k+(j+1)=k+1+j by omega]);cases l8:S k with
  |false=>exact tV x
  |true =>
   simp only[if_true];rw[Ve es (Lv p.2) x (hm 0 p rfl (by simpa using l8)),tV]
theorem O9{h:Nat}{S S':Nat->Bool}:∀(L:List (Oper×Rec)) (i k:Nat) (x:Hl) (p:Oper×Rec),L[i]?=some p->S (k+i)=false->S' (k+i)=true->(∀j,j≠k+i->S' j=S j)->
  (∀(j:Nat) (q:Oper×Rec),i<j->L[j]?=some q->S (k+j)=true->∀y∈gZ (Lv p.2),∀z∈gZ (Lv q.2),Cy y z=false)->
  Fg h S' L k x=Dm h (Lv p.2) (Fg h S L k x)
 | [],i,_,_,_,h,_,_,_,_=>by simp at h
 |q :: L,0,k,x,p,hp,h1,h2,hS,hm=>by
  simp at hp;subst hp;simp only[XY]at h1 h2;simp only[Fg,h1,h2,if_true,XD,if_false];have e:Fg h S' L (k+1) (Dm h (Lv q.2) x)=Fg h S L (k+1) (Dm h (Lv q.2) x):=by
   have:∀(L:List (Oper×Rec)) (m:Nat) (x:Hl),k<m->Fg h S' L m x=Fg h S L m x:=by
    intro L
    induction L with
    |nil=>intro m x _;rfl
    |cons r L ih=>intro m x aC;simp only[Fg];rw[hS m (by omega)];exact ih _ _ (by omega)
   exact this L (k+1) _ (by omega)
  rw[e];exact Uz L (k+1) x λj r hr hd=>hm (j+1) r (by omega) (by simpa using hr) (by rwa [show k+(j+1)=k+1+j by omega])
 |q :: L,i+1,k,x,p,hp,h1,h2,hS,hm=>by
  simp only[Fg];rw[hS k (by omega)];exact O9 L i (k+1) _ p (by simpa using hp) (by rwa [show k+1+i=k+(i+1) by omega]) (by rwa [show k+1+i=k+(i+1) by omega]) (λj hj=>hS j (by omega))
   λj r hj hr hd=>hm (j+1) r (by omega) (by simpa using hr) (by rwa [show k+(j+1)=k+1+j by omega])
theorem T7{n:Nat}:∀ {es:List Edge},n∈Dh es->∃e∈es,Region.binds .any e=true/\e.on=n
 | [],h=>by simp[Dh]at h
 |e :: es,h=>by
  simp only[Dh,ZZ]at h;rcases h with h|h
  .refine⟨e,XA ..,?_⟩
   cases hg:e.ground<;>simp only[hg,YP,List.not_mem_nil]at h<;>exact⟨by simp[Region.binds,hg],h.symm⟩
  .obtain⟨e',h1,h2⟩:=T7 h
   exact⟨e',XB _ h1,h2⟩
theorem Vf{e:Edge}:∀ {es:List Edge},e∈es->Region.binds .any e=true->e.on∈Dh es
 | [],h,_=>by cases h
 |e' :: es,h,hb=>by
  simp only[Dh,ZZ];rcases List.mem_cons.1 h with rfl|h
  .left
   cases hg:e.ground<;>simp[Region.binds,hg]at hb ⊢
  .exact .inr (Vf h hb)
theorem T5{x:Nat}:∀ {l t:List Nat},x∈Ads l t->x∈l\/x∈t
 | [],_,h=>.inr h
 |y :: l,t,h=>by
  rcases T5 (l:=l) h with h|h
  .exact .inl (XB _ h)
  .unfold LL at h
   split at h
   .exact .inr h
   .rcases List.mem_cons.1 h with rfl|h
    .exact .inl (XA ..)
    .exact .inr h
theorem Alq{x y:Nat}{l:List Nat}(h:x∈LL y l):x=y\/x∈l:=by
 unfold LL at h
 split at h
 .exact .inr h
 .exact List.mem_cons.1 h
theorem T8{acc:List (List Nat)}{x:Nat}:∀ {l:List Nat},x∈Qv acc l->∃i∈l,x=i\/x∈(nth acc i).getD []
 | [],h=>by simp[Qv]at h
 |i :: l,h=>by
  simp only[Qv]at h;rcases T5 h with h|h
  .exact⟨i,XA ..,Alq h⟩
  .obtain⟨j,h1,h2⟩:=T8 h
   exact⟨j,XB _ h1,h2⟩
theorem Ua{n:Nat}:∀ {l:List Nat},Y0 n l=true->∀x∈l,x<n
 | [],_,x,h=>by cases h
 |y :: l,h,x,hx=>by
  simp only[Y0,QE,ZE]at h;rcases List.mem_cons.1 hx with rfl|hx
  .exact h.1
  .exact Ua h.2 x hx
theorem Ly:∀ {os:List Oper} {k:Nat},Hh os k=true->∀ {j:Nat} {o:Oper},os[j]?=some o->∀x∈Dh o.after.toList,x<k+j
 | [],_,_,j,o,h=>by simp at h
 |o0 :: os,k,hk,j,o,h=>by
  simp only[Hh,QE]at hk;cases j with
  |zero=>simp at h;subst h;exact Ua hk.1
  |succ j =>
   simp at h;intro x hx;have:=Ly hk.2 h x hx;omega
theorem Vl{S:Nat->Prop}{all:List Oper}(ri:∀(k:Nat) (o:Oper),all[k]?=some o->S k->∀x∈Dh o.after.toList,S x)(fT:Hh all 0=true):
  ∀(os:List Oper) (acc:List (List Nat)),(∀(j:Nat) (o:Oper),os[j]?=some o->all[acc.length+j]?=some o)->
   (∀(j:Nat) (o:Oper) (l:List Nat),all[j]?=some o->acc[j]?=some l->(∀x∈Dh o.after.toList,S x)->∀x∈l,S x)->
   ∀(j:Nat) (o:Oper) (l:List Nat),all[j]?=some o->(Il os acc)[j]?=some l->(∀x∈Dh o.after.toList,S x)->∀x∈l,S x
 | [],acc,_,lz=>λj o l ho hl=>lz j o l ho hl
 |o0 :: os,acc,tB,lz=>by
  have h0:=tB 0 o0 rfl;simp only[XY]at h0;refine Vl ri fT os (acc++[Qv acc (Dh o0.after.toList)]) (λj o h=>?_) (λj o l ho hl he x hx=>?_)
  .have:=tB (j+1) o (by simpa using h)
   simp only[QF,List.length_singleton]
   rwa [show acc.length+1+j=acc.length+(j+1) by omega]
  .by_cases hj:j<acc.length
   .rw[QM hj]at hl
    exact lz j o l ho hl he x hx
   .have hje:j=acc.length:=by
     have:=(List.getElem?_eq_some_iff.1 hl).1;simp at this;omega
    subst hje;rw[h0]at ho;cases ho;simp at hl;subst hl;obtain⟨i,hi,hx⟩:=T8 hx;have l9:=he i hi;rcases hx with rfl|hx
    .exact l9
    .have aC:i<acc.length:=by have:=Ly fT h0 i hi;omega
     have hai:all[i]?=some (all[i]'(by have:=(List.getElem?_eq_some_iff.1 h0).1;omega)):=QC _;rw[Aj,QC aC]at hx;exact lz i _ _ hai (QC aC) (ri i _ hai l9) x hx
theorem M3{all:List Oper}{bs:List (List Nat)}{i:Nat}{o:Oper}{f:FP}:∀ {os:List Oper} {fs:List FP} {j:Nat},Mm all bs i o f os fs j=true->∀ {m:Nat} {o':Oper} {f':FP},os[m]?=some o'->fs[m]?=some f'->
  MI all o f o' f'=false\/i∈(nth bs (j+m)).getD []
 | [],_,_,_,m,o',f',h,_=>by simp at h
 |_ :: _,[],_,_,m,o',f',_,h=>by simp at h
 |o1 :: os,f1 :: fs,j,h,m,o',f',h1,h2=>by
  simp only[Mm,QE,XR,XO,D1]at h;cases m with
  |zero=>simp at h1 h2;subst h1 h2;exact h.1
  |succ m =>
   simp at h1 h2;have:=M3 h.2 h1 h2
   rwa [show j+1+m=j+(m+1) by omega]at this
theorem Qe{all:List Oper}{bs:List (List Nat)}:∀ {os:List Oper} {fs:List FP} {k:Nat},indep all bs os fs k=true->∀ {i j:Nat} {o o':Oper} {f f':FP},i<j->os[i]?=some o->os[j]?=some o'->fs[i]?=some f->fs[j]?=some f'->
  MI all o f o' f'=false\/(k+i)∈(nth bs (k+j)).getD []
 | [],_,_,_,i,j,o,o',f,f',_,h,_,_,_=>by simp at h
 |_ :: _,[],_,_,i,j,o,o',f,f',_,_,_,h,_=>by simp at h
 |o1 :: os,f1 :: fs,k,h,i,j,o,o',f,f',hij,h1,h2,h3,h4=>by
  simp only[indep,QE]at h;obtain⟨m,rfl⟩:∃m,j=m+1:=⟨j-1,by omega⟩;simp at h2 h4;cases i with
  |zero =>
   simp at h1 h3;subst h1 h3;have:=M3 h.1 h2 h4;simpa[show k+1+m=k+(m+1) by omega] using this
  |succ i =>
   simp at h1 h3;have:=Qe h.2 (i:=i) (j:=m) (by omega) h1 h2 h3 h4
   rwa [show k+1+i=k+(i+1) by omega,show k+1+m=k+(m+1) by omega]at this
theorem T6{s:Nat}:∀ {xs:List Operand},s∈xs.flatMap Ct->s∈Yp xs
 | [],h=>by simp at h
 |x :: xs,h=>by
  simp only[List.flatMap_cons,ZZ]at h;simp only[Yp,ZZ];rcases h with h|h
  .left
   cases x with
   |tmp _=>simpa[Ct,Ale] using h
   |_=>simp[Ct]at h
  .exact .inr (T6 h)
theorem Fq{t:List Nat}:∀ {l:List Nat},P2 l t=false->∀x∈l,x ∉ t
 | [],_,x,h=>by cases h
 |y :: l,h,x,hx=>by
  simp only[P2,XC]at h;rcases List.mem_cons.1 hx with rfl|hx
  .intro hm;rw[(D1 _ _).2 hm]at h;cases h.1
  .exact Fq h.2 x hx
theorem Wq{all:List Oper}{o:Oper}{j:Nat}{want:Bool}{s:Nat}(hg:o.guard=some (j,want))(h:(nth all j).bind (·.dst)=some s):s∈Qi all o.guard:=by
 rw[hg];simp only[Qi];cases hj:nth all j with
 |none=>rw[hj]at h;cases h
 |some oj =>
  rw[hj]at h;simp only[ZS]at h;simp[h]
section
variable {P:Program} {ops:Array Oper} {gl:List (Nat×SV)} {B:Bs} {N:Nat} {σ aL:Sy} {rs:List Rec}
structure Ctx(P:Program)(ops:Array Oper)(gl:List (Nat×SV))(N:Nat)(σ aL:Sy)(rs:List Rec):Prop where
 len:rs.length=ops.size
 step:∀(i:Nat) (o:Oper) (rec:Rec),ops[i]?=some o->rs[i]?=some rec->∃pO,tF pO/\pO.fr.length=N/\(Bd pO,Aq pO.hp)=Cm N aL.gm ((ops.toList.zip rs).take i) (Bd σ,Aq σ.hp)/\Anf P gl ops.toList o aL.gm pO rec
 sf:Hh ops.toList 0=true
 ind:indep ops.toList (Il ops.toList []) ops.toList (rs.map tC) 0=true
def xS(N:Nat)(ops:Array Oper)(σ aL:Sy)(rs:List Rec)(S:Nat->Bool):X:=Ed N aL.gm S (ops.toList.zip rs) 0 (Bd σ,Aq σ.hp)
structure Down(ops:Array Oper)(S:Nat->Bool):Prop where
 down:∀(k:Nat) (o:Oper),ops[k]?=some o->S k=true->∀x∈Dh o.after.toList,S x=true
theorem Adg(h:Ctx P ops gl N σ aL rs){S:Nat->Bool}(hd:Down ops S){j:Nat}{o:Oper}(ho:ops[j]?=some o)(he:∀x∈Dh o.after.toList,S x=true){i:Nat}(hi:i∈(nth (Il ops.toList []) j).getD []):S i=true:=by
 rw[Aj]at hi;cases hl:(Il ops.toList [])[j]? with
 |none=>rw[hl]at hi;simp at hi
 |some l =>
  rw[hl]at hi;refine Vl (S:=λi=>S i=true) (all:=ops.toList) (λk o ho hs=>hd.down k o (by rw[<-QX];exact ho) hs) h.sf ops.toList [] (by simp) (by simp) j o l (by rw[QX];exact ho) hl he i hi
theorem Zf(rec:Rec):(tC rec).wr=gZ (Lv rec):=by
 cases rec with
 |none=>rfl
 |some p=>obtain⟨a,b,c⟩:=p;rfl
theorem Pk(h:Ctx P ops gl N σ aL rs){S:Nat->Bool}(hd:Down ops S){i:Nat}{o:Oper}{rec:Rec}(ho:ops[i]?=some o)(hr:rs[i]?=some rec)(hi:S i=false)(he:∀x∈Dh o.after.toList,S x=true)
  {k:Nat} {p:Oper×Rec} (hk:(ops.toList.zip rs)[k]?=some p) (pM:S k≠decide (k<i)):
  (∀s,p.1.dst=some s->s ∉ looks ops.toList o)/\(∀z∈gZ (Lv p.2),∀y∈BI (tC rec),Cy z y=false)/\(∀z∈gZ (Lv p.2),∀y∈gZ (Lv rec),Cy z y=false)/\(k≠i->∀s,p.1.dst=some s->o.dst≠some s)/\k≠i:=by
 have hki:k≠i:=by rintro rfl;apply pM;rw[hi];simp
 rw[List.getElem?_zip_eq_some]at hk;obtain⟨fJ,aZ⟩:=hk;have HX:ops[k]?=some p.1:=by rw[<-QX];exact fJ
 by_cases aC:k<i
 .have l8:S k=false:=by
   cases hs:S k with
   |false=>rfl
   |true=>exact absurd (by rw[hs];simp[aC]) pM
  rcases Qe h.ind aC fJ (by rw[QX];exact ho) (by rw[QR,aZ];rfl) (by rw[QR,hr];rfl) with hc|hc
  .simp only[MI,XC]at hc
   obtain⟨⟨⟨⟨⟨c1,c2⟩,c3⟩,c4⟩,c5⟩,c6⟩:=hc;rw[Zf]at c4 c5;rw[Zf]at c5;exact⟨λs hs=>Fq c1 s (by simp[hs,Wc]),λz hz y hy=>Fp c4 z hz y hy,λz hz y hy=>Fp c5 z hz y hy,λ_ s hs e=>Fq c2 s (by simp[hs,Wc]) (by simp[e,Wc]),hki⟩
  .simp only[XE]at hc
   rw[Adg h hd ho he hc]at l8;cases l8
 .have CC:i<k:=by omega
  have l8:S k=true:=by
   cases hs:S k with
   |true=>rfl
   |false=>exact absurd (by rw[hs];simp[aC]) pM
  rcases Qe h.ind CC (by rw[QX];exact ho) fJ (by rw[QR,hr];rfl) (by rw[QR,aZ];rfl) with hc|hc
  .simp only[MI,XC]at hc
   obtain⟨⟨⟨⟨⟨c1,c2⟩,c3⟩,c4⟩,c5⟩,c6⟩:=hc;rw[Zf]at c4 c5;rw[Zf]at c5 c6;refine⟨λs hs=>Fq c3 s (by simp[hs,Wc]),λz hz y hy=>Fp c6 z hz y hy,λz hz y hy=>by rw[Q8];exact Fp c5 y hy z hz,λ_ s hs e=>Fq c2 s (by simp[e,Wc]) (by simp[hs,Wc]),hki⟩
  .simp only[XE]at hc
   have:=Adg h hd HX (hd.down k _ HX l8) hc;rw[this]at hi;cases hi
theorem fg(h:Ctx P ops gl N σ aL rs){S:Nat->Bool}(hd:Down ops S){i:Nat}{o:Oper}{rec:Rec}(ho:ops[i]?=some o)(hr:rs[i]?=some rec)(hi:S i=false)(he:∀x∈Dh o.after.toList,S x=true){s:Nat}(hs:s∈looks ops.toList o):
  (xS N ops σ aL rs S).1 s=(Cm N aL.gm ((ops.toList.zip rs).take i) (Bd σ,Aq σ.hp)).1 s:=by
 rw[<-Nl (ops.toList.zip rs) i 0];refine Ki _ 0 _ _ rfl λk p hk VZ=>?_;simp only[XE]
 by_cases e:S k=decide (k<i)
 .exact e
 .exact absurd hs ((Pk h hd ho hr hi he hk e).1 s VZ)
theorem Sp(h:Ctx P ops gl N σ aL rs){S:Nat->Bool}(hd:Down ops S){i:Nat}{o:Oper}{rec:Rec}(ho:ops[i]?=some o)(hr:rs[i]?=some rec)(hi:S i=false)(he:∀x∈Dh o.after.toList,S x=true){ρ:Nat×Option (Nat×Nat)}
  (FJ:ρ∈BI (tC rec)\/ρ∈gZ (Lv rec)):same ((xS N ops σ aL rs S).2 ρ.1) ((Cm N aL.gm ((ops.toList.zip rs).take i) (Bd σ,Aq σ.hp)).2 ρ.1) (v8 ρ)/\
   (ρ.2=none->(xS N ops σ aL rs S).2 ρ.1=(Cm N aL.gm ((ops.toList.zip rs).take i) (Bd σ,Aq σ.hp)).2 ρ.1):=by
 rw[<-Nl (ops.toList.zip rs) i 0,xS,Hx,Hx];refine Rj _ 0 _ _ (.inl rfl) (λ_=>rfl) λk p hk pM z hz=>?_;simp only[XE]at pM;obtain⟨_,a2,a3,_⟩:=Pk h hd ho hr hi he hk pM;rcases FJ with FJ|FJ
 .exact a2 z hz ρ FJ
 .exact a3 z hz ρ FJ
theorem Ahl(h:Ctx P ops gl N σ aL rs){S S':Nat->Bool}(hd:Down ops S){i:Nat}{o:Oper}{rec:Rec}(ho:ops[i]?=some o)(hr:rs[i]?=some rec)(hi:S i=false)(he:∀x∈Dh o.after.toList,S x=true)(wK:S' i=true)(hS:∀j,j≠i->S' j=S j):
  xS N ops σ aL rs S'=D6 N aL.gm o rec (xS N ops σ aL rs S):=by
 have aC:i<rs.length:=(List.getElem?_eq_some_iff.1 hr).1;have hp:(ops.toList.zip rs)[i]?=some (o,rec):=by rw[List.getElem?_zip_eq_some];exact⟨by rw[QX];exact ho,hr⟩
 apply YF
 .funext s
  by_cases uI:o.dst=some s/\s<N
  .-- qZ slot that it writes
   have key:∀(L:List (Oper×Rec)) (i k:Nat) (x:X),L[i]?=some (o,rec)->S' (k+i)=true->(∀(j:Nat) (q:Oper×Rec),i<j->L[j]?=some q->q.1.dst=some s->S' (k+j)=false)->(Ed N aL.gm S' L k x).1 s=(D6 N aL.gm o rec x).1 s:=by
    intro L
    induction L with
    |nil=>intro i k x h;simp at h
    |cons q L ih =>
     intro i k x hL h1 h2;cases i with
     |zero =>
      simp at hL;subst hL;simp only[XY]at h1;simp only[Ed,h1,if_true];have:(Ed N aL.gm S' L (k+1) (D6 N aL.gm o rec x)).1 s=(Ed N aL.gm (λ_=>false) L (k+1) (D6 N aL.gm o rec x)).1 s :=
       Ki L (k+1) _ _ rfl λj q hq IG=>by have:=h2 (j+1) q (by omega) (by simpa using hq) IG;rwa [show k+(j+1)=k+1+j by omega]at this
      rw[this,Kj L (k+1) _ λ_ _=>rfl]
     |succ i =>
      simp only[Ed];rw[ih i (k+1) _ (by simpa using hL) (by rwa [show k+1+i=k+(i+1) by omega]) λj q hj hq IG=>by have:=h2 (j+1) q (by omega) (by simpa using hq) IG;rwa [show k+(j+1)=k+1+j by omega]at this];cases rec with
      |none=>simp[D6,Hc,uI.1,uI.2]
      |some p=>obtain⟨a,b,c⟩:=p;simp[D6,Hc,uI.1,uI.2]
   have:=key (ops.toList.zip rs) i 0 (Bd σ,Aq σ.hp) hp (by simpa using wK) λj q hj hq IG=>by
    simp only[XE];rw[hS j (by omega)];cases hs:S j with
    |false=>rfl
    |true =>
     obtain⟨_,_,_,a4,_⟩:=Pk h hd ho hr hi he hq (by rw[hs];simp;omega);exact absurd uI.1 (a4 (by omega) s IG)
   rw[xS,this];cases rec with
   |none=>simp[D6,Hc,uI.1,uI.2]
   |some p=>obtain⟨a,b,c⟩:=p;simp[D6,Hc,uI.1,uI.2]
  .have e1:(D6 N aL.gm o rec (xS N ops σ aL rs S)).1 s=(xS N ops σ aL rs S).1 s:=by
    cases rec with
    |none=>simp only[D6,Hc,QA uI]
    |some p=>obtain⟨a,b,c⟩:=p;simp only[D6,Hc,QA uI]
   rw[e1]
   -- a slot that it aS8 not write
   have key:∀(L:List (Oper×Rec)) (i k:Nat) (x y:X),x.1 s=y.1 s->L[i]?=some (o,rec)->(∀j,j≠k+i->S' j=S j)->(Ed N aL.gm S' L k x).1 s=(Ed N aL.gm S L k y).1 s:=by
    intro L
    induction L with
    |nil=>intro i k x y _ h;simp at h
    |cons q L ih =>
     intro i k x y RQ hL h2;have ly:∀z:X,q=(o,rec)->(D6 N aL.gm q.1 q.2 z).1 s=z.1 s:=by
      rintro z rfl;cases rec with
      |none=>simp only[D6,Hc,QA uI]
      |some p=>obtain⟨a,b,c⟩:=p;simp only[D6,Hc,QA uI]
     cases i with
     |zero =>
      simp at hL;simp only[Ed];refine Ki L (k+1) _ _ ?_ λj q' _ _=>h2 _ (by omega);have a1:(if S' k then D6 N aL.gm q.1 q.2 x else x).1 s=x.1 s:=by split;exact ly x hL;rfl
      have a2:(if S k then D6 N aL.gm q.1 q.2 y else y).1 s=y.1 s:=by split;exact ly y hL;rfl
      rw[a1,a2,RQ]
     |succ i =>
      simp only[Ed];rw[h2 k (by omega)];refine ih i (k+1) _ _ ?_ (by simpa using hL) λj hj=>h2 j (by omega)
      split
      .exact Pj RQ
      .exact RQ
   exact key _ i 0 _ _ rfl hp (by simpa using hS)
 .funext k
  rw[Yh,xS,xS,Hx,Hx];refine O9 _ i 0 _ (o,rec) hp (by simpa using hi) (by simpa using wK) (by simpa using hS) λj q hj hq hs y hy z hz=>?_;simp only[XE]at hs;obtain⟨_,_,a3,_⟩:=Pk h hd ho hr hi he hq (by rw[hs];simp;omega);rw[Q8];exact a3 z hz y hy
end
end Go.Sx
