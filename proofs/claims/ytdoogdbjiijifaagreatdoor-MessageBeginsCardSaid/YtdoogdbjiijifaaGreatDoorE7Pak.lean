/- A part of the proof: contracts of functions, or the executor and its soundness. No conditions. -/
import Derived.Test.YtdoogdbjiijifaaGreatDoorE7Paj
namespace Go.Sx
open Go
theorem Iu(h:Nat)(x:SV):∀(cs:List SV),fZ.mI h x cs=cs.map (fZ h x)
 | []=>rfl
 |c :: cs=>by simp[fZ.mI,Iu h x cs]
theorem RO.fZ{I:Nat->Nat->Prop}{w:World}{h:Nat}{x s:SV}{v:Value}(hr:RO I w s v):RO I w (fZ h x s) v:=by
 induction hr with
 |int h=>exact .int h
 |bool h=>exact .bool h
 |str h=>exact .str h
 |iC=>exact .iC
 |raw h=>exact .raw h
 |fn h=>exact .fn h
 |ifc h=>exact .ifc h
 |slnil h hn=>exact .slnil h hn
 |sl g h hn hc fX hs hl h1 aK aY=>exact .sl g h hn hc fX hs hl h1 aK aY
 |dB g hs h1 aK aY=>exact .dB g hs h1 aK aY
 |dP g hs hl h1 aK aY=>exact .dP g hs hl h1 aK aY
 |agg hl _ ih =>
  simp only[Sx.fZ,Iu];refine .agg (by simpa using hl) λi s v a b=>?_;rw[QP]at a;obtain⟨s0,h0,rfl⟩:=Option.map_eq_some_iff.1 a;exact ih i s0 v h0 b
theorem Rel.fZ{E E':Env}{w:World}{h:Nat}{x s:SV}{v:Value}(hx:Ext E w E' w)(hm:∀v,Rel E w (.dM h) v->Rel E' w x v)(hr:Rel E w s v):Rel E' w (fZ h x s) v:=by
 induction hr with
 |ro h=>exact .ro (h.mono hx.I hx.cell).fZ
 |ptr hb hv=>exact Rel.mono hx (.ptr hb hv)
 |eD hr ht=>exact Rel.mono hx (.eD hr ht)
 |dM hb hk hv =>
  simp only[Sx.fZ]
  split
  .rename_i e
   have e:=beq_iff_eq.1 e;subst e;exact hm _ (.dM hb hk hv)
  .exact Rel.mono hx (.dM hb hk hv)
 |cU hb hz hv=>exact Rel.mono hx (.cU hb hz hv)
 |bY ht hk=>exact Rel.mono hx (.bY ht hk)
 |cK hv ho=>exact Rel.mono hx (.cK hv ho)
 |bP hb hv=>exact Rel.mono hx (.bP hb hv)
 |yv hb hv=>exact Rel.mono hx (.yv hb hv)
 |fB ht hk=>exact Rel.mono hx (.fB ht hk)
 |jS ht hk=>exact Rel.mono hx (.jS ht hk)
 |agg hl _ ih =>
  simp only[Sx.fZ,Iu];refine .agg (by simpa using hl) λi s v a b=>?_;rw[QP]at a;obtain⟨s0,h0,rfl⟩:=Option.map_eq_some_iff.1 a;exact ih i s0 v h0 b
 |tup hl _ ih =>
  simp only[Sx.fZ,Iu];refine .tup (by simpa using hl) λi s v a b=>?_;rw[QP]at a;obtain⟨s0,h0,rfl⟩:=Option.map_eq_some_iff.1 a;exact ih i s0 v h0 b
 |fI hl _ ih =>
  simp only[Sx.fZ,Iu];refine .fI (by simpa using hl) λi s v a b=>?_;rw[QP]at a;obtain⟨s0,h0,rfl⟩:=Option.map_eq_some_iff.1 a;exact ih i s0 v h0 b
theorem Es(h:Nat)(x:SV):∀(fr:List (Option G)) (s:Nat),Au (Ew h x fr) s=(Au fr s).map λg=>⟨g.tg,g.gt,g.gf,fZ h x g.v⟩
 | [],s=>by simp[Ew,Au]
 |some g :: fr,0=>rfl
 |none :: fr,0=>rfl
 |some g :: fr,s+1=>by simp only[Ew,Au];exact Es h x fr s
 |none :: fr,s+1=>by simp only[Ew,Au];exact Es h x fr s
theorem Np(h:Nat)(x:SV):∀(fr:List (Option G)),(Ew h x fr).length=fr.length
 | []=>rfl
 |some g :: fr=>by simp[Ew,Np h x fr]
 |none :: fr=>by simp[Ew,Np h x fr]
def Al3(h:Nat)(x:SV):Hl->Hl
 |.aE ty cs=>.aE ty (cs.map (fZ h x))
 |l=>l
theorem T4(h:Nat)(x:SV):∀(hp:List Hl),NH h x hp=hp.map (Al3 h x)
 | []=>rfl
 |l :: hp=>by cases l<;>simp[NH,Al3,Iu,T4 h x hp]
theorem bX.freeze{cx:Cx}{B:Bs}{N:Nat}{E:Env}{a:Act}{w:World}{σ aJ:Sy}{s:Nat}(hs:bX B N E a w σ)(h:ghost cx σ (.freeze s)=some aJ):∃E',bX B N E' a w aJ:=by
 simp only[ghost]at h
 split at h
 .rename_i gt gf hd bR
  split at h
  .rename_i ty n sz f hh
   cases h;have hk:=hs.st.heap hd;rw[Bx hh]at hk;obtain⟨b,C,m,k1,k2,k3,k4,k5,k6,k7,⟨r1,r2,r3,r4⟩,k9⟩:=hk;have aB:=hs.st.base
   let E':Env:=⟨E.β,E.τ,E.O,E.κ,E.ζ,λb' o=>E.I b' o\/(b'=b/\o<m * sz)⟩
   have hx:Ext E w E' w:=⟨λ_ _ h=>h,λ_ _ h=>.inl h,λ_ _ h=>h,λ_ _ h=>h,λ_ _ h=>.inl h,λ_ _ _=>rfl⟩;have aK:∀o,w.cell? ⟨b,o,none⟩=C[o]?:=λo=>cell_of_row w b o C ty (0,0) k5;have hm:∀v,Rel E w (.dM hd) v->Rel E' w (.sl (.l false) n sz f) v:=by
    intro v hv;obtain⟨b',m',e1,e2,rfl⟩:=hv.jZ;obtain rfl:b=b':=Option.some.inj (k1.symm.trans e1);obtain rfl:m=m':=Option.some.inj (k2.symm.trans e2);have eP:∀i j,i<m->j<sz->i * sz+j<m * sz:=by
     intro i j hi hj;have:(i+1) * sz<=m * sz:=QH _ hi;rw[XJ]at this;omega
    have hC:∀i j,i<m->j<sz->C[i * sz+j]?=some (C.getD (i * sz+j) undef):=by
     intro i j hi hj;have:=eP i j hi hj;rw[<-r1]at this;rw[QM,XP this];rfl
    refine .ro (.sl (λi j=>C.getD (i * sz+j) undef) rfl k6 (QK _) k7 (λ_=>rfl) r2 (λi j hi hj=>r4 _ (YT (hC i j hi hj))) (λi j hi hj=>⟨?_,?_⟩) (λi j s hi hs=>?_))
    .simp only[XD];rw[aK,hC i j hi hj]
    .simp only[XD];exact .inr ⟨rfl,eP i j hi hj⟩
    .have hj:j<sz:=by rw[<-r2 i hi];exact (List.getElem?_eq_some_iff.1 hs).1
     exact (r3 i j s _ hi hs (hC i j hi hj)).mono hx.I hx.cell
   refine⟨E',⟨⟨⟨aB.os,aB.tape,aB.output,aB.size,aB.old,λb' o hi=>?_,λb' o hi=>?_,λb' o hi=>?_,aB.dG,aB.cS.ext hx⟩,λk=>?_,λq=>?_,hs.st.size,hs.st.defers⟩,by show (Ew _ _ _).length=N;rw[Np];exact hs.len,⟨λq g hq i hi=>?_,λq g i hq hi=>?_,λq g i hq hi=>?_⟩,λk hk=>?_⟩⟩
   .obtain⟨i1,i2⟩:=aB.I0 b' o hi;exact⟨.inl i1,i2⟩
   .rcases hi with hi|⟨rfl,_⟩
    .exact aB.eJ b' o hi
    .exact A4 aB k4
   .rcases hi with hi|⟨rfl,_⟩
    .exact aB.cE b' o hi
    .exact .inr (aB.dG b' hd k4).2
   .simp only[Ap,Ah,Ar,T4]
    by_cases e:k=hd
    .subst e
     rw[ZK];simp only[QE]
     split
     .trivial
     .have:k<σ.hp.length:=by rw[Ah]at hh;exact (List.getElem?_eq_some_iff.1 hh).1
      rename_i qP;exact absurd (by simpa using this) qP
    .rw[ZG (λh=>e h.symm),QP]
     have bD:=hs.st.heap k;simp only[Ap,Ah]at bD;have hO:∀b',E.O b'=some k->E'.O b'=some k/\w.heap[b']?=w.heap[b']?/\∀o,E'.I b' o->E.I b' o:=by
      intro b' hO;refine⟨hO,rfl,λo hi=>?_⟩;rcases hi with hi|⟨rfl,_⟩
      .exact hi
      .rw[k4]at hO;exact absurd (Option.some.inj hO).symm e
     cases hl:σ.hp[k]? with
     |none =>
      rw[hl]at bD;exact bO.keep hx bD rfl rfl rfl rfl hO
     |some l =>
      rw[hl]at bD;simp only[QO,XB]at bD ⊢;cases l with
      |aE lN cs =>
       obtain⟨b',C',q1,q2,q3,q4,q5,q6⟩:=bD.eU;have hn:A1 E' w (cs.map (fZ hd (.sl (.l false) n sz f))) C'.toList:=q4.map _ λs v _ h=>h.fZ hx hm;exact⟨b',C',q1,q2,q3,by have:=hn.1;simpa using this.symm,λi s v p q=>hn.2 i s v p (by simpa using q),λv hv=>q5 v (by simpa using hv),λo hi=>q6 o ((hO b' q2).2.2 o hi)⟩
      |_=>exact bO.keep hx bD rfl rfl rfl rfl hO
   .simp only[A6,Es]
    have bM:=hs.st.slot q;simp only[A6]at bM;cases hg:Au σ.fr q with
    |none=>trivial
    |some g =>
     rw[hg]at bM;simp only[QO,Bf]at bM ⊢;exact⟨bM.1,λhc=>(bM.2.1 hc).fZ hx hm,bM.2.2⟩
   .have hq:Au (Ew hd (.sl (.l false) n sz f) σ.fr) q=some g:=hq
    rw[Es]at hq;obtain⟨g0,h0,rfl⟩:=Option.map_eq_some_iff.1 hq;exact hs.wf.tg q g0 h0 i hi
   .have hq:Au (Ew hd (.sl (.l false) n sz f) σ.fr) q=some g:=hq
    rw[Es]at hq;obtain⟨g0,h0,rfl⟩:=Option.map_eq_some_iff.1 hq;obtain⟨c,c1,c2⟩:=hs.wf.gt q g0 i h0 hi;exact⟨c,by simp only[c1];rfl,c2⟩
   .have hq:Au (Ew hd (.sl (.l false) n sz f) σ.fr) q=some g:=hq
    rw[Es]at hq;obtain⟨g0,h0,rfl⟩:=Option.map_eq_some_iff.1 hq;obtain⟨c,c1,c2⟩:=hs.wf.gf q g0 i h0 hi;exact⟨c,by simp only[c1];rfl,c2⟩
   .simp only[Ar,T4,XS,XW]
    exact hs.ge k hk
  .cases h
 .cases h
theorem bX.attach{cx:Cx}{B:Bs}{N:Nat}{E:Env}{a:Act}{w:World}{σ aJ:Sy}{s:Nat}{e:TypeId}(hs:bX B N E a w σ)(h:ghost cx σ (.attach s e)=some aJ):∃E',bX B N E' a w aJ:=by
 simp only[ghost]at h
 split at h
 .rename_i gt gf sz f bR
  split at h
  .split at h
   .cases h
    have aB:=hs.st.base;have cI:bO E w (Ag σ.hp) .fresh:=by
     have:=hs.st.heap (Ag σ.hp);simpa only[Ap,Ah,Af,QV (QK _),ZV] using this
    obtain⟨f1,f2,f3,f4⟩:=cI
    let E':Env:=⟨E.β,aL E.τ (Ag σ.hp) (some (.slice none 0 0)),E.O,E.κ,E.ζ,E.I⟩
    have hx:Ext E w E' w:=by
     refine⟨λ_ _ h=>h,λk v hk=>.inl ?_,λ_ _ h=>h,λ_ _ h=>h,λ_ _ h=>h,λ_ _ _=>rfl⟩;show aL E.τ (Ag σ.hp) (some (.slice none 0 0)) k=some v;unfold aL
     by_cases e:k=Ag σ.hp
     .subst e;rw[f2]at hk;cases hk
     .rw[QD e];exact hk
    have aA:s<σ.fr.length:=by
     rcases ZS s σ.fr.length with h|h
     .exact h
     .rw[D5,QV h]at bR;cases bR
    let g0:G:=⟨[],none,none,.eD (.l true) (.l 0) sz f (Ag σ.hp)⟩
    have aU:∀k,Au (A0 σ.fr s (some g0)) k=if k=s then some g0 else Au σ.fr k:=λk=>by
     rw[Bo]
     by_cases e:k=s
     .rw[QE ⟨e,aA⟩,QE e]
     .rw[QD (λh=>e h.1),QD e]
    refine⟨E',⟨⟨⟨aB.os,aB.tape,aB.output,aB.size,aB.old,aB.I0,aB.eJ,aB.cE,aB.dG,aB.cS.ext hx⟩,λk=>?_,λq=>?_,hs.st.size,hs.st.defers⟩,by show (A0 σ.fr s _).length=N;rw[Ar,XS];exact hs.len,⟨λq g hq i hi=>?_,λq g i hq hi=>?_,λq g i hq hi=>?_⟩,λk hk=>?_⟩⟩
    .have bD:=hs.st.heap k
     simp only[Ap,Ah]at bD ⊢;rcases UL k σ.hp.length with h|h|h
     .rw[QJ h]
      exact bO.keep hx bD rfl (by simp[E',aL,Af,UJ h]) rfl rfl λb hO=>⟨hO,rfl,λ_ h=>h⟩
     .subst h
      rw[QU (QK _)];simp only[UC,ZL,XB];exact⟨.slice none 0 0,0,[],by simp[E',aL,Af],World.ownsRow_nil w 0 _ sz,rfl,by simp,λb hb=>by simp[Value.ownBlock]at hb⟩
     .rw[QV (by simp;omega)]
      rw[QV (by omega)]at bD;exact bO.keep hx bD rfl (by simp[E',aL,Af,VO h]) rfl rfl λb hO=>⟨hO,rfl,λ_ h=>h⟩
    .have bM:=hs.st.slot q
     show Bf E' w a q ((Au (A0 σ.fr s (some g0)) q).map λg=>(Ac σ.gm g.tg,g.v));rw[aU];simp only[A6]at bM
     by_cases e:q=s
     .subst e
      rw[QE rfl];rw[bR]at bM;simp only[QO,Bf,Ac,ZN,Ba,g0]at bM ⊢;refine⟨bM.1,λ_=>?_,λh=>absurd trivial h⟩;have hr:=(bM.2.1 trivial).aS;have wk:=hr.mono hx.I hx.cell;rcases hr.aS with⟨e1,_,_⟩|⟨_,_,_,_,_,e1,_⟩
      .rw[e1]at wk ⊢
       exact .eD wk ⟨none,0,0,by simp[E',aL],by simp[ST.den],λ_=>rfl⟩
      .simp[BT.den]at e1
     .rw[QD e]
      cases hg:Au σ.fr q with
      |none=>trivial
      |some g =>
       rw[hg]at bM;simp only[QO,Bf]at bM ⊢;exact⟨bM.1,λhc=>(bM.2.1 hc).mono hx,bM.2.2⟩
    .have hq:Au (A0 σ.fr s (some g0)) q=some g:=hq
     rw[aU]at hq
     split at hq
     .cases hq;cases hi
     .exact hs.wf.tg q g hq i hi
    .have hq:Au (A0 σ.fr s (some g0)) q=some g:=hq
     rw[aU]at hq
     split at hq
     .cases hq;cases hi
     .exact hs.wf.gt q g i hq hi
    .have hq:Au (A0 σ.fr s (some g0)) q=some g:=hq
     rw[aU]at hq
     split at hq
     .cases hq;cases hi
     .exact hs.wf.gf q g i hq hi
    .have:=hs.ge k hk
     simp only[QW];omega
   .cases h
  .cases h
 .cases h
theorem bX.own{cx:Cx}{B:Bs}{N:Nat}{E:Env}{a:Act}{w:World}{σ aJ:Sy}{s:Nat}{e:TypeId}(hs:bX B N E a w σ)(h:ghost cx σ (.own s e)=some aJ):∃E',bX B N E' a w aJ:=by
 simp only[ghost]at h
 split at h
 .rename_i gt gf sz f bR
  split at h
  .split at h
   .cases h
    have aB:=hs.st.base;have cI:bO E w (Ag σ.hp) .fresh:=by
     have:=hs.st.heap (Ag σ.hp);simpa only[Ap,Ah,Af,QV (QK _),ZV] using this
    obtain⟨f1,f2,f3,f4⟩:=cI
    let E':Env:=⟨E.β,aL E.τ (Ag σ.hp) (some (.slice none 0 0)),E.O,E.κ,aL E.ζ (Ag σ.hp) (some sz),E.I⟩
    have hx:Ext E w E' w:=by
     refine⟨λ_ _ h=>h,λk v hk=>.inl ?_,λ_ _ h=>h,λk z hk=>?_,λ_ _ h=>h,λ_ _ _=>rfl⟩
     .show aL E.τ (Ag σ.hp) (some (.slice none 0 0)) k=some v
      unfold aL
      by_cases e:k=Ag σ.hp
      .subst e;rw[f2]at hk;cases hk
      .rw[QD e];exact hk
     .show aL E.ζ (Ag σ.hp) (some sz) k=some z
      unfold aL
      by_cases e:k=Ag σ.hp
      .subst e;rw[f4]at hk;cases hk
      .rw[QD e];exact hk
    have aA:s<σ.fr.length:=by
     rcases ZS s σ.fr.length with h|h
     .exact h
     .rw[D5,QV h]at bR;cases bR
    let g0:G:=⟨[],none,none,.bY (.l true) (.l 0) (Ag σ.hp)⟩
    have aU:∀k,Au (A0 σ.fr s (some g0)) k=if k=s then some g0 else Au σ.fr k:=λk=>by
     rw[Bo]
     by_cases e:k=s
     .rw[QE ⟨e,aA⟩,QE e]
     .rw[QD (λh=>e h.1),QD e]
    refine⟨E',⟨⟨⟨aB.os,aB.tape,aB.output,aB.size,aB.old,aB.I0,aB.eJ,aB.cE,aB.dG,aB.cS.ext hx⟩,λk=>?_,λq=>?_,hs.st.size,hs.st.defers⟩,by show (A0 σ.fr s _).length=N;rw[Ar,XS];exact hs.len,⟨λq g hq i hi=>?_,λq g i hq hi=>?_,λq g i hq hi=>?_⟩,λk hk=>?_⟩⟩
    .have bD:=hs.st.heap k
     simp only[Ap,Ah]at bD ⊢;rcases UL k σ.hp.length with h|h|h
     .rw[QJ h]
      exact bO.keep hx bD rfl (by simp[E',aL,Af,UJ h]) rfl (by simp[E',aL,Af,UJ h]) λb hO=>⟨hO,rfl,λ_ h=>h⟩
     .subst h
      rw[QU (QK _)];simp only[UC,ZL,XB];exact⟨.slice none 0 0,0,[],by simp[E',aL,Af],by simp[E',aL,Af],⟨by simp,.inl ⟨rfl,rfl⟩⟩,rfl,by simp,⟨by intro i hi;omega,by intro i j s u hi;omega⟩,λb hb=>by simp[Value.ownBlock]at hb⟩
     .rw[QV (by simp;omega)]
      rw[QV (by omega)]at bD;exact bO.keep hx bD rfl (by simp[E',aL,Af,VO h]) rfl (by simp[E',aL,Af,VO h]) λb hO=>⟨hO,rfl,λ_ h=>h⟩
    .have bM:=hs.st.slot q
     show Bf E' w a q ((Au (A0 σ.fr s (some g0)) q).map λg=>(Ac σ.gm g.tg,g.v));rw[aU];simp only[A6]at bM
     by_cases e:q=s
     .subst e
      rw[QE rfl];rw[bR]at bM;simp only[QO,Bf,Ac,ZN,Ba,g0]at bM ⊢;refine⟨bM.1,λ_=>?_,λh=>absurd trivial h⟩;have hr:=(bM.2.1 trivial).aS;rcases hr.aS with⟨e1,_,_⟩|⟨_,_,_,_,_,e1,_⟩
      .rw[e1]
       exact .bY ⟨none,0,0,rfl,rfl,by simp[BT.den]⟩ ⟨none,0,0,by simp[E',aL],by simp[ST.den],λ_=>rfl⟩
      .simp[BT.den]at e1
     .rw[QD e]
      cases hg:Au σ.fr q with
      |none=>trivial
      |some g =>
       rw[hg]at bM;simp only[QO,Bf]at bM ⊢;exact⟨bM.1,λhc=>(bM.2.1 hc).mono hx,bM.2.2⟩
    .have hq:Au (A0 σ.fr s (some g0)) q=some g:=hq
     rw[aU]at hq
     split at hq
     .cases hq;cases hi
     .exact hs.wf.tg q g hq i hi
    .have hq:Au (A0 σ.fr s (some g0)) q=some g:=hq
     rw[aU]at hq
     split at hq
     .cases hq;cases hi
     .exact hs.wf.gt q g i hq hi
    .have hq:Au (A0 σ.fr s (some g0)) q=some g:=hq
     rw[aU]at hq
     split at hq
     .cases hq;cases hi
     .exact hs.wf.gf q g i hq hi
    .have:=hs.ge k hk
     simp only[QW];omega
   .cases h
  .cases h
 .cases h
variable {E:Env}{w:World}{nl:BT}{n:ST}{ty:TypeId}{sz N s hd:Nat}{f f2:Nat->List SV}{v:Value}{B:Bs}{a:Act}{σ:Sy}
theorem uh{h:Nat}{n0:ST}{gr:Bool}{u:Value}{m:Nat}{xs:List Value}(hr:Rel E w (.bY nl n h) u)(nL:E.τ h=some v)(bU:Cu w gr ty sz v m xs)(jL:n0.den=(m:Int))(he:n.den=n0.den)
  (h1:∀u∈xs,u.oneCell'=true) (aP:Gx E w f m sz xs):RO (λb o=>E.I b o\/(v.ownBlock=some b/\o<m * sz)) w (.sl nl n sz f) u:=by
 obtain⟨hu,iX⟩:=Ib hr nL bU jL he;subst hu;have hn:n.den=(m:Int):=by rw[he,jL]
 rcases bU.2 with⟨e0,e1⟩|⟨b,cap,cur,fr,e0,nO,cI,pQ,fX,cV,bZ⟩
 .rw[e0]
  exact .slnil (iX.2 e0) (by rw[hn,e1];rfl)
 .have eP:∀i j,i<m->j<sz->i * sz+j<m * sz:=by
   intro i j hi hj;have:(i+1) * sz<=m * sz:=QH _ hi;rw[XJ]at this;omega
  have kB:∀i j,i<m->j<sz->xs[i * sz+j]?=some (xs.getD (i * sz+j) undef):=by
   intro i j hi hj;have:=eP i j hi hj;rw[<-bU.1]at this;rw[QC,QA this];rfl
  rw[e0];refine .sl (λi j=>xs.getD (i * sz+j) undef) ?_ hn pQ fX (λ_=>rfl) aP.1 (λi j hi hj=>h1 _ (QF (kB i j hi hj))) (λi j hi hj=>⟨?_,?_⟩) (λi j s hi hs=>?_)
  .cases hb:nl.den with
   |false=>rfl
   |true=>rw[iX.1 hb]at e0;simp at e0
  .simp only[XD]
   rw[cell_of_row w b _ cur ty fr nO,<-kB i j hi hj,<-bZ,QL,QE (eP i j hi hj)];simp
  .simp only[XD]
   exact .inr ⟨rfl,eP i j hi hj⟩
  .have hj:j<sz:=by rw[<-aP.1 i hi];exact (List.getElem?_eq_some_iff.1 hs).1
   exact (aP.2 i j s _ hi hs (kB i j hi hj)).mono (λb o h=>.inl h) (λ_ _ _=>rfl)
theorem bX.vec{cx:Cx}{B:Bs}{N:Nat}{E:Env}{a:Act}{w:World}{σ aJ:Sy}{s:Nat}{e:TypeId}(hs:bX B N E a w σ)(h:ghost cx σ (.vec s e)=some aJ):∃E',bX B N E' a w aJ:=by
 simp only[ghost]at h
 split at h
 .rename_i gt gf sz f bR
  split at h
  .split at h
   .cases h
    have aB:=hs.st.base;have cI:bO E w (Ag σ.hp) .fresh:=by
     have:=hs.st.heap (Ag σ.hp);simpa only[Ap,Ah,Af,QV (QK _),ZV] using this
    obtain⟨f1,f2,f3,f4⟩:=cI
    let E':Env:=⟨E.β,aL E.τ (Ag σ.hp) (some (.slice none 0 0)),E.O,E.κ,E.ζ,E.I⟩
    have hx:Ext E w E' w:=by
     refine⟨λ_ _ h=>h,λk v hk=>.inl ?_,λ_ _ h=>h,λ_ _ h=>h,λ_ _ h=>h,λ_ _ _=>rfl⟩;show aL E.τ (Ag σ.hp) (some (.slice none 0 0)) k=some v;unfold aL
     by_cases e:k=Ag σ.hp
     .subst e;rw[f2]at hk;cases hk
     .rw[QD e];exact hk
    have aA:s<σ.fr.length:=by
     rcases ZS s σ.fr.length with h|h
     .exact h
     .rw[D5,QV h]at bR;cases bR
    let g0:G:=⟨[],none,none,.fB (.l true) (.l 0) (.l 0) (Ag σ.hp)⟩
    have aU:∀k,Au (A0 σ.fr s (some g0)) k=if k=s then some g0 else Au σ.fr k:=λk=>by
     rw[Bo]
     by_cases e:k=s
     .rw[QE ⟨e,aA⟩,QE e]
     .rw[QD (λh=>e h.1),QD e]
    refine⟨E',⟨⟨⟨aB.os,aB.tape,aB.output,aB.size,aB.old,aB.I0,aB.eJ,aB.cE,aB.dG,aB.cS.ext hx⟩,λk=>?_,λq=>?_,hs.st.size,hs.st.defers⟩,by show (A0 σ.fr s _).length=N;rw[Ar,XS];exact hs.len,⟨λq g hq i hi=>?_,λq g i hq hi=>?_,λq g i hq hi=>?_⟩,λk hk=>?_⟩⟩
    .have bD:=hs.st.heap k
     simp only[Ap,Ah]at bD ⊢;rcases UL k σ.hp.length with h|h|h
     .rw[QJ h]
      exact bO.keep hx bD rfl (by simp[E',aL,Af,UJ h]) rfl rfl λb hO=>⟨hO,rfl,λ_ h=>h⟩
     .subst h
      rw[QU (QK _)];simp only[UC,ZL,XB];exact⟨none,0,0,0,[],by simp[E',aL,Af],⟨by simp,.inl ⟨rfl,rfl⟩⟩,rfl,rfl,by simp,⟨by intro i hi;omega,by intro i j s u hi;omega⟩,λb hb=>by simp[Value.ownBlock]at hb⟩
     .rw[QV (by simp;omega)]
      rw[QV (by omega)]at bD;exact bO.keep hx bD rfl (by simp[E',aL,Af,VO h]) rfl rfl λb hO=>⟨hO,rfl,λ_ h=>h⟩
    .have bM:=hs.st.slot q
     show Bf E' w a q ((Au (A0 σ.fr s (some g0)) q).map λg=>(Ac σ.gm g.tg,g.v));rw[aU];simp only[A6]at bM
     by_cases e:q=s
     .subst e
      rw[QE rfl];rw[bR]at bM;simp only[QO,Bf,Ac,ZN,Ba,g0]at bM ⊢;refine⟨bM.1,λ_=>?_,λh=>absurd trivial h⟩;have hr:=(bM.2.1 trivial).aS;rcases hr.aS with⟨e1,_,_⟩|⟨_,_,_,_,_,e1,_⟩
      .rw[e1]
       exact .fB ⟨none,0,0,rfl,rfl,by simp[BT.den]⟩ ⟨none,0,0,by simp[E',aL],by simp[ST.den],λ_=>⟨0,rfl,rfl⟩⟩
      .simp[BT.den]at e1
     .rw[QD e]
      cases hg:Au σ.fr q with
      |none=>trivial
      |some g =>
       rw[hg]at bM;simp only[QO,Bf]at bM ⊢;exact⟨bM.1,λhc=>(bM.2.1 hc).mono hx,bM.2.2⟩
    .have hq:Au (A0 σ.fr s (some g0)) q=some g:=hq
     rw[aU]at hq
     split at hq
     .cases hq;cases hi
     .exact hs.wf.tg q g hq i hi
    .have hq:Au (A0 σ.fr s (some g0)) q=some g:=hq
     rw[aU]at hq
     split at hq
     .cases hq;cases hi
     .exact hs.wf.gt q g i hq hi
    .have hq:Au (A0 σ.fr s (some g0)) q=some g:=hq
     rw[aU]at hq
     split at hq
     .cases hq;cases hi
     .exact hs.wf.gf q g i hq hi
    .have:=hs.ge k hk
     simp only[QW];omega
   .cases h
  .cases h
 .cases h
theorem bX.jE{cx:Cx}{B:Bs}{N:Nat}{E:Env}{a:Act}{w:World}{σ aJ:Sy}{s:Nat}(hD:cx.D=dn)(hs:bX B N E a w σ)(hp:Nr cx σ (.jE s))(h:ghost cx σ (.jE s)=some aJ):∃E',bX B N E' a w aJ:=by
 simp only[ghost]at h;simp only[Nr]at hp
 split at h
 .rename_i gt gf nl n gv hd bR
  rw[bR]at hp;simp only at hp
  split at h
  .rename_i ty n0 g1 sz f hh
   rw[hh]at hp;simp only at hp;rw[hD]at hp;have hp:n.den=n0.den/\gv.den=g1.den:=⟨hp.1.h,hp.2.h⟩;cases h;have aB:=hs.st.base;have hk:=hs.st.heap hd;rw[Bx hh]at hk;obtain⟨a0,c0,m,Gn,xs,k1,k2,k3,kg,k4,k5,k6⟩:=hk;obtain⟨v,hv⟩:∃v,v=Value.slice a0 m c0:=⟨_,rfl⟩;rw[<-hv]at k2 k6
   let E':Env:=⟨E.β,E.τ,E.O,E.κ,E.ζ,λb o=>E.I b o\/(v.ownBlock=some b/\o<m * sz)⟩
   have hx:Ext E w E' w:=⟨λ_ _ h=>h,λ_ _ h=>.inl h,λ_ _ h=>h,λ_ _ h=>h,λ_ _ h=>.inl h,λ_ _ _=>rfl⟩;have aA:s<σ.fr.length:=by
    rcases ZS s σ.fr.length with h|h
    .exact h
    .rw[D5,QV h]at bR;cases bR
   let g0:G:=⟨[],none,none,.sl nl n sz f⟩
   have aU:∀k,Au (A0 σ.fr s (some g0)) k=if k=s then some g0 else Au σ.fr k:=λk=>by
    rw[Bo]
    by_cases e:k=s
    .rw[QE ⟨e,aA⟩,QE e]
    .rw[QD (λh=>e h.1),QD e]
   refine⟨E',⟨⟨⟨aB.os,aB.tape,aB.output,aB.size,aB.old,λb' o hi=>?_,λb' o hi=>?_,λb' o hi=>?_,aB.dG,aB.cS.ext hx⟩,λk=>?_,λq=>?_,hs.st.size,hs.st.defers⟩,by show (A0 σ.fr s _).length=N;rw[Ar,XS];exact hs.len,⟨λq g hq i hi=>?_,λq g i hq hi=>?_,λq g i hq hi=>?_⟩,λk hk=>?_⟩⟩
   .obtain⟨i1,i2⟩:=aB.I0 b' o hi;exact⟨.inl i1,i2⟩
   .rcases hi with hi|⟨hb,_⟩
    .exact aB.eJ b' o hi
    .exact A4 aB (k6 b' hb).1
   .rcases hi with hi|⟨hb,_⟩
    .exact aB.cE b' o hi
    .exact .inr (aB.dG b' hd (k6 b' hb).1).2
   .simp only[Ap,Ah,Ar]
    by_cases e:k=hd
    .subst e
     rw[ZK];simp only[QE]
     split
     .trivial
     .have:k<σ.hp.length:=by rw[Ah]at hh;exact (List.getElem?_eq_some_iff.1 hh).1
      rename_i qP;exact absurd (by simpa using this) qP
    .rw[ZG (λh=>e h.symm)]
     have bD:=hs.st.heap k;simp only[Ap,Ah]at bD;refine bO.keep hx bD rfl rfl rfl rfl λb' hO=>⟨hO,rfl,λo hi=>?_⟩;rcases hi with hi|⟨hb,_⟩
     .exact hi
     .rw[(k6 b' hb).1]at hO;exact absurd (Option.some.inj hO).symm e
   .have bM:=hs.st.slot q
    show Bf E' w a q ((Au (A0 σ.fr s (some g0)) q).map λg=>(Ac σ.gm g.tg,g.v));rw[aU];simp only[A6]at bM
    by_cases e:q=s
    .subst e
     rw[QE rfl];rw[bR]at bM;simp only[QO,Bf,Ac,ZN,Ba,g0]at bM ⊢;exact⟨bM.1,λ_=>.ro (by
      obtain⟨hu,iX⟩:=Tc (bM.2.1 trivial) k1 (by rw[<-hv];exact k2) (by rw[hp.1,k3]) kg hp.2;rw[<-hv]at hu iX;exact Afu hu iX k2 (by rw[hp.1,k3]) k4 k5),λh=>absurd trivial h⟩
    .rw[QD e]
     cases hg:Au σ.fr q with
     |none=>trivial
     |some g =>
      rw[hg]at bM;simp only[QO,Bf]at bM ⊢;exact⟨bM.1,λhc=>(bM.2.1 hc).mono hx,bM.2.2⟩
   .have hq:Au (A0 σ.fr s (some g0)) q=some g:=hq
    rw[aU]at hq
    split at hq
    .cases hq;cases hi
    .exact hs.wf.tg q g hq i hi
   .have hq:Au (A0 σ.fr s (some g0)) q=some g:=hq
    rw[aU]at hq
    split at hq
    .cases hq;cases hi
    .exact hs.wf.gt q g i hq hi
   .have hq:Au (A0 σ.fr s (some g0)) q=some g:=hq
    rw[aU]at hq
    split at hq
    .cases hq;cases hi
    .exact hs.wf.gf q g i hq hi
   .simp only[Ar,XS]
    exact hs.ge k hk
  .cases h
 .cases h
theorem bX.share{cx:Cx}{B:Bs}{N:Nat}{E:Env}{a:Act}{w:World}{σ aJ:Sy}{s:Nat}(hD:cx.D=dn)(hs:bX B N E a w σ)(hp:Nr cx σ (.share s))(h:ghost cx σ (.share s)=some aJ):∃E',bX B N E' a w aJ:=by
 simp only[ghost]at h;simp only[Nr]at hp
 split at h
 .rename_i gt gf nl n hd bR
  rw[bR]at hp;simp only at hp
  split at h
  .rename_i ty n0 sz gr f hh
   rw[hh]at hp;simp only at hp;rw[hD]at hp;have hp:n.den=n0.den:=hp.h;cases h;have aB:=hs.st.base;have hk:=hs.st.heap hd;rw[Bx hh]at hk;obtain⟨v,m,xs,k1,kz,k2,k3,k4,k5,k6⟩:=hk
   let E':Env:=⟨E.β,E.τ,E.O,E.κ,E.ζ,λb o=>E.I b o\/(v.ownBlock=some b/\o<m * sz)⟩
   have hx:Ext E w E' w:=⟨λ_ _ h=>h,λ_ _ h=>.inl h,λ_ _ h=>h,λ_ _ h=>h,λ_ _ h=>.inl h,λ_ _ _=>rfl⟩;have aA:s<σ.fr.length:=by
    rcases ZS s σ.fr.length with h|h
    .exact h
    .rw[D5,QV h]at bR;cases bR
   let g0:G:=⟨[],none,none,.sl nl n sz f⟩
   have aU:∀k,Au (A0 σ.fr s (some g0)) k=if k=s then some g0 else Au σ.fr k:=λk=>by
    rw[Bo]
    by_cases e:k=s
    .rw[QE ⟨e,aA⟩,QE e]
    .rw[QD (λh=>e h.1),QD e]
   refine⟨E',⟨⟨⟨aB.os,aB.tape,aB.output,aB.size,aB.old,λb' o hi=>?_,λb' o hi=>?_,λb' o hi=>?_,aB.dG,aB.cS.ext hx⟩,λk=>?_,λq=>?_,hs.st.size,hs.st.defers⟩,by show (A0 σ.fr s _).length=N;rw[Ar,XS];exact hs.len,⟨λq g hq i hi=>?_,λq g i hq hi=>?_,λq g i hq hi=>?_⟩,λk hk=>?_⟩⟩
   .obtain⟨i1,i2⟩:=aB.I0 b' o hi;exact⟨.inl i1,i2⟩
   .rcases hi with hi|⟨hb,_⟩
    .exact aB.eJ b' o hi
    .exact A4 aB (k6 b' hb).1
   .rcases hi with hi|⟨hb,_⟩
    .exact aB.cE b' o hi
    .exact .inr (aB.dG b' hd (k6 b' hb).1).2
   .simp only[Ap,Ah,Ar]
    by_cases e:k=hd
    .subst e
     rw[ZK];simp only[QE]
     split
     .trivial
     .have:k<σ.hp.length:=by rw[Ah]at hh;exact (List.getElem?_eq_some_iff.1 hh).1
      rename_i qP;exact absurd (by simpa using this) qP
    .rw[ZG (λh=>e h.symm)]
     have bD:=hs.st.heap k;simp only[Ap,Ah]at bD;refine bO.keep hx bD rfl rfl rfl rfl λb' hO=>⟨hO,rfl,λo hi=>?_⟩;rcases hi with hi|⟨hb,_⟩
     .exact hi
     .rw[(k6 b' hb).1]at hO;exact absurd (Option.some.inj hO).symm e
   .have bM:=hs.st.slot q
    show Bf E' w a q ((Au (A0 σ.fr s (some g0)) q).map λg=>(Ac σ.gm g.tg,g.v));rw[aU];simp only[A6]at bM
    by_cases e:q=s
    .subst e
     rw[QE rfl];rw[bR]at bM;simp only[QO,Bf,Ac,ZN,Ba,g0]at bM ⊢;exact⟨bM.1,λ_=>.ro (uh (bM.2.1 trivial) k1 k2 k3 hp k4 k5),λh=>absurd trivial h⟩
    .rw[QD e]
     cases hg:Au σ.fr q with
     |none=>trivial
     |some g =>
      rw[hg]at bM;simp only[QO,Bf]at bM ⊢;exact⟨bM.1,λhc=>(bM.2.1 hc).mono hx,bM.2.2⟩
   .have hq:Au (A0 σ.fr s (some g0)) q=some g:=hq
    rw[aU]at hq
    split at hq
    .cases hq;cases hi
    .exact hs.wf.tg q g hq i hi
   .have hq:Au (A0 σ.fr s (some g0)) q=some g:=hq
    rw[aU]at hq
    split at hq
    .cases hq;cases hi
    .exact hs.wf.gt q g i hq hi
   .have hq:Au (A0 σ.fr s (some g0)) q=some g:=hq
    rw[aU]at hq
    split at hq
    .cases hq;cases hi
    .exact hs.wf.gf q g i hq hi
   .simp only[Ar,XS]
    exact hs.ge k hk
  .cases h
 .cases h
theorem bX.lZ{cx:Cx}{B:Bs}{N:Nat}{E:Env}{a:Act}{w:World}{σ aJ:Sy}{s e:Nat}(hs:bX B N E a w σ)(h:ghost cx σ (.lZ s e)=some aJ):∃E',bX B N E' a w aJ:=by
 simp only[ghost]at h
 split at h
 .rename_i gt gf hd bR
  split at h
  .rename_i T f hh
   cases h;have aB:=hs.st.base;have hk:=hs.st.heap hd;rw[Bx hh]at hk;obtain⟨b,C,k1,k2,k3,k4,k5,k6⟩:=hk.eU;refine⟨E,⟨⟨aB,λk=>?_,hs.st.slot,hs.st.size,hs.st.defers⟩,hs.len,⟨hs.wf.tg,hs.wf.gt,hs.wf.gf⟩,λk hk=>?_⟩⟩
   .simp only[Ap,Ah,Ar]
    by_cases e:k=hd
    .subst e
     have aA:k<σ.hp.length:=by rw[Ah]at hh;exact (List.getElem?_eq_some_iff.1 hh).1
     rw[YO aA];simp only[XB]
     match hC:C.toList,k4 with
     | [p,v],k4 =>
      have hp:p=.pointer none:=by
       have:=k4.2 0 .iC p rfl rfl;cases this with
       |ro h=>cases h;rfl
      have hv:v=.slice none 0 0:=by
       have:=(k4.2 1 _ v rfl rfl).aS;rcases this.aS with⟨e1,_⟩|⟨_,_,_,_,_,e1,_⟩
       .exact e1
       .simp[BT.den]at e1
      subst hp hv;have hCe:C=#[.pointer none,.slice none 0 0]:=by apply XN;rw[hC]
      exact⟨b,.pointer none,.slice none 0 0,k1,k2,.inl rfl,by rw[k3,hCe],World.ownsRow_nil w 0 _ 1,by simp[Value.ownBlock],k6,by simp[Value.ownBlock]⟩
     | [],k4=>exact absurd k4.1 (by simp)
     | [_],k4=>exact absurd k4.1 (by simp)
     |_ :: _ :: _ :: _,k4=>exact absurd k4.1 (by simp)
    .rw[ZG (λh=>e h.symm)]
     have bD:=hs.st.heap k;simp only[Ap,Ah]at bD;exact bD
   .simp only[Ar,XS]
    exact hs.ge k hk
  .cases h
 .cases h
theorem bX.hold{cx:Cx}{B:Bs}{N:Nat}{E:Env}{a:Act}{w:World}{σ aJ:Sy}{s k0 e:Nat}(hs:bX B N E a w σ)(h:ghost cx σ (.hold s k0 e)=some aJ):∃E',bX B N E' a w aJ:=by
 simp only[ghost]at h
 split at h
 .rename_i gt gf hd bR
  split at h
  .rename_i T cs hh
   split at h
   .rename_i sz f cN cV aM
    split at h
    .cases h
     have aB:=hs.st.base;have cI:bO E w (Ag σ.hp) .fresh:=by
      have:=hs.st.heap (Ag σ.hp);simpa only[Ap,Ah,Af,QV (QK _),ZV] using this
     obtain⟨f1,f2,f3,f4⟩:=cI
     let E':Env:=⟨E.β,aL E.τ (Ag σ.hp) (some (.slice none 0 0)),E.O,E.κ,E.ζ,E.I⟩
     have hx:Ext E w E' w:=by
      refine⟨λ_ _ h=>h,λk v hk=>.inl ?_,λ_ _ h=>h,λ_ _ h=>h,λ_ _ h=>h,λ_ _ _=>rfl⟩;show aL E.τ (Ag σ.hp) (some (.slice none 0 0)) k=some v;unfold aL
      by_cases e:k=Ag σ.hp
      .subst e;rw[f2]at hk;cases hk
      .rw[QD e];exact hk
     have aA:hd<σ.hp.length:=by rw[Ah]at hh;exact (List.getElem?_eq_some_iff.1 hh).1
     have hk:=hs.st.heap hd;rw[Bx hh]at hk;obtain⟨b,C,k1,k2,k3,k4,k5,k7,k8⟩:=hk;refine⟨E',⟨⟨⟨aB.os,aB.tape,aB.output,aB.size,aB.old,aB.I0,aB.eJ,aB.cE,aB.dG,aB.cS.ext hx⟩,λk=>?_,λq=>?_,hs.st.size,hs.st.defers⟩,hs.len,⟨hs.wf.tg,hs.wf.gt,hs.wf.gf⟩,λk hk=>?_⟩⟩
     .have bD:=hs.st.heap k
      simp only[Ap,Ah,Ar]at bD ⊢;rcases UL k σ.hp.length with h|h|h
      .rw[QJ (by simpa using h)]
       by_cases e:k=hd
       .subst e
        rw[YO aA];simp only[XB];refine⟨b,C,k1,k2,k3,by rw[XS];exact k4,λi s' v a c=>?_,k7,k8⟩;rw[ZK]at a;rw[Ah]at cV
        split at a
        .rename_i fj
         split at a
         .cases a
          subst fj;have hr:=(k5 k0 _ v cV c).aS;have wk:=hr.mono hx.I hx.cell;rcases hr.aS with⟨e1,_,_⟩|⟨_,_,_,_,_,e1,_⟩
          .rw[e1]at wk ⊢
           exact .eD wk ⟨none,0,0,by simp[E',aL],by simp[ST.den],λ_=>rfl⟩
          .simp[BT.den]at e1
         .cases a
        .exact (k5 i s' v a c).mono hx
       .rw[ZG (λh=>e h.symm)]
        exact bO.keep hx bD rfl (by simp[E',aL,Af,UJ h]) rfl rfl λb hO=>⟨hO,rfl,λ_ h=>h⟩
      .subst h
       rw[QU (by simp)];simp only[XS,UC,ZL,XB];exact⟨.slice none 0 0,0,[],by simp[E',aL,Af],World.ownsRow_nil w 0 _ sz,rfl,by simp,λb hb=>by simp[Value.ownBlock]at hb⟩
      .rw[QV (by simp;omega)]
       rw[QV (by omega)]at bD;exact bO.keep hx bD rfl (by simp[E',aL,Af,VO h]) rfl rfl λb hO=>⟨hO,rfl,λ_ h=>h⟩
     .have bM:=hs.st.slot q
      simp only[A6]at bM ⊢;cases hg:Au σ.fr q with
      |none=>trivial
      |some g =>
       rw[hg]at bM;simp only[QO,Bf]at bM ⊢;exact⟨bM.1,λhc=>(bM.2.1 hc).mono hx,bM.2.2⟩
     .have:=hs.ge k hk
      simp only[QW,Ar,XS];omega
    .cases h
   .cases h
  .cases h
 .cases h
theorem bX.wC{cx:Cx}{B:Bs}{N:Nat}{E:Env}{a:Act}{w:World}{σ aJ:Sy}{s k0 e:Nat}(hs:bX B N E a w σ)(h:ghost cx σ (.wC s k0 e)=some aJ):∃E',bX B N E' a w aJ:=by
 simp only[ghost]at h
 split at h
 .rename_i gt gf hd bR
  split at h
  .rename_i T cs hh
   split at h
   .rename_i sz f cN cV aM
    split at h
    .cases h
     have aB:=hs.st.base;have cI:bO E w (Ag σ.hp) .fresh:=by
      have:=hs.st.heap (Ag σ.hp);simpa only[Ap,Ah,Af,QV (QK _),ZV] using this
     obtain⟨f1,f2,f3,f4⟩:=cI
     let E':Env:=⟨E.β,aL E.τ (Ag σ.hp) (some (.slice none 0 0)),E.O,E.κ,E.ζ,E.I⟩
     have hx:Ext E w E' w:=by
      refine⟨λ_ _ h=>h,λk v hk=>.inl ?_,λ_ _ h=>h,λ_ _ h=>h,λ_ _ h=>h,λ_ _ _=>rfl⟩;show aL E.τ (Ag σ.hp) (some (.slice none 0 0)) k=some v;unfold aL
      by_cases e:k=Ag σ.hp
      .subst e;rw[f2]at hk;cases hk
      .rw[QD e];exact hk
     have aA:hd<σ.hp.length:=by rw[Ah]at hh;exact (List.getElem?_eq_some_iff.1 hh).1
     have hk:=hs.st.heap hd;rw[Bx hh]at hk;obtain⟨b,C,k1,k2,k3,k4,k5,k7,k8⟩:=hk;refine⟨E',⟨⟨⟨aB.os,aB.tape,aB.output,aB.size,aB.old,aB.I0,aB.eJ,aB.cE,aB.dG,aB.cS.ext hx⟩,λk=>?_,λq=>?_,hs.st.size,hs.st.defers⟩,hs.len,⟨hs.wf.tg,hs.wf.gt,hs.wf.gf⟩,λk hk=>?_⟩⟩
     .have bD:=hs.st.heap k
      simp only[Ap,Ah,Ar]at bD ⊢;rcases UL k σ.hp.length with h|h|h
      .rw[QJ (by simpa using h)]
       by_cases e:k=hd
       .subst e
        rw[YO aA];simp only[XB];refine⟨b,C,k1,k2,k3,by rw[XS];exact k4,λi s' v a c=>?_,k7,k8⟩;rw[ZK]at a;rw[Ah]at cV
        split at a
        .rename_i fj
         split at a
         .cases a
          subst fj;have hr:=(k5 k0 _ v cV c).aS;rcases hr.aS with⟨e1,_,_⟩|⟨_,_,_,_,_,e1,_⟩
          .rw[e1]
           exact .fB ⟨none,0,0,rfl,rfl,by simp[BT.den]⟩ ⟨none,0,0,by simp[E',aL],by simp[ST.den],λ_=>⟨0,rfl,rfl⟩⟩
          .simp[BT.den]at e1
         .cases a
        .exact (k5 i s' v a c).mono hx
       .rw[ZG (λh=>e h.symm)]
        exact bO.keep hx bD rfl (by simp[E',aL,Af,UJ h]) rfl rfl λb hO=>⟨hO,rfl,λ_ h=>h⟩
      .subst h
       rw[QU (by simp)];simp only[XS,UC,ZL,XB];exact⟨none,0,0,0,[],by simp[E',aL,Af],⟨by simp,.inl ⟨rfl,rfl⟩⟩,rfl,rfl,by simp,⟨by intro i hi;omega,by intro i j s u hi;omega⟩,λb hb=>by simp[Value.ownBlock]at hb⟩
      .rw[QV (by simp;omega)]
       rw[QV (by omega)]at bD;exact bO.keep hx bD rfl (by simp[E',aL,Af,VO h]) rfl rfl λb hO=>⟨hO,rfl,λ_ h=>h⟩
     .have bM:=hs.st.slot q
      simp only[A6]at bM ⊢;cases hg:Au σ.fr q with
      |none=>trivial
      |some g =>
       rw[hg]at bM;simp only[QO,Bf]at bM ⊢;exact⟨bM.1,λhc=>(bM.2.1 hc).mono hx,bM.2.2⟩
     .have:=hs.ge k hk
      simp only[QW,Ar,XS];omega
    .cases h
   .cases h
  .cases h
 .cases h
theorem bX.gS{cx:Cx}{B:Bs}{N:Nat}{E:Env}{a:Act}{w:World}{σ aJ:Sy}{s k0:Nat}(hD:cx.D=dn)(hs:bX B N E a w σ)(hp:Nr cx σ (.gS s k0))(h:ghost cx σ (.gS s k0)=some aJ):∃E',bX B N E' a w aJ:=by
 simp only[ghost]at h;simp only[Nr]at hp
 split at h
 .rename_i gt gf hb bR
  rw[bR]at hp;simp only at hp
  split at h
  .rename_i T cs yJ
   rw[yJ]at hp;simp only at hp
   split at h
   .rename_i nl n g0 hd cV
    rw[cV]at hp;simp only at hp
    split at h
    .rename_i ty n0 g1 sz f hh
     rw[hh]at hp;simp only at hp;cases h;rw[hD]at hp;have hp:n.den=n0.den/\g0.den=g1.den:=⟨hp.1.h,hp.2.h⟩;have aB:=hs.st.base;have aV:hb≠hd:=by rintro rfl;rw[yJ]at hh;cases hh
     have hk:=hs.st.heap hd;rw[Bx hh]at hk;obtain⟨a0,c0,m,G,xs,k1,k2,k3,kg,k4,k5,k6⟩:=hk;obtain⟨v,hv⟩:∃v,v=Value.slice a0 m c0:=⟨_,rfl⟩;rw[<-hv]at k2 k6
     let E':Env:=⟨E.β,E.τ,E.O,E.κ,E.ζ,λb o=>E.I b o\/(v.ownBlock=some b/\o<m * sz)⟩
     have hx:Ext E w E' w:=⟨λ_ _ h=>h,λ_ _ h=>.inl h,λ_ _ h=>h,λ_ _ h=>h,λ_ _ h=>.inl h,λ_ _ _=>rfl⟩;have hlb:hb<σ.hp.length:=by rw[Ah]at yJ;exact (List.getElem?_eq_some_iff.1 yJ).1
     have uD:hd<σ.hp.length:=by rw[Ah]at hh;exact (List.getElem?_eq_some_iff.1 hh).1
     have jV:=hs.st.heap hb;rw[Bx yJ]at jV;obtain⟨b,C,q1,q2,q3,q4,q5,q6,q7⟩:=jV;refine⟨E',⟨⟨⟨aB.os,aB.tape,aB.output,aB.size,aB.old,λb' o hi=>?_,λb' o hi=>?_,λb' o hi=>?_,aB.dG,aB.cS.ext hx⟩,λk=>?_,λq=>?_,hs.st.size,hs.st.defers⟩,hs.len,⟨hs.wf.tg,hs.wf.gt,hs.wf.gf⟩,λk hk=>?_⟩⟩
     .obtain⟨i1,i2⟩:=aB.I0 b' o hi;exact⟨.inl i1,i2⟩
     .rcases hi with hi|⟨hb,_⟩
      .exact aB.eJ b' o hi
      .exact A4 aB (k6 b' hb).1
     .rcases hi with hi|⟨hb,_⟩
      .exact aB.cE b' o hi
      .exact .inr (aB.dG b' hd (k6 b' hb).1).2
     .simp only[Ap,Ah,Ar]
      by_cases e:k=hd
      .subst e
       rw[YO (by simpa using uD)]
       trivial
      .rw[ZG (λh=>e h.symm)]
       by_cases e2:k=hb
       .subst e2
        rw[YO hlb];simp only[XB];refine⟨b,C,q1,q2,q3,by rw[XS];exact q4,λi s' u a c=>?_,q6,λo hi=>?_⟩
        .rw[ZK]at a
         rw[Ah]at cV
         split at a
         .rename_i fj
          split at a
          .cases a
           subst fj;obtain⟨hu,iX⟩:=Tc (q5 k0 _ u cV c) k1 (by rw[<-hv];exact k2) (by rw[hp.1,k3]) kg hp.2;rw[<-hv]at hu iX;exact .ro (Afu hu iX k2 (by rw[hp.1,k3]) k4 k5)
          .cases a
         .exact (q5 i s' u a c).mono hx
        .rcases hi with hi|⟨cB,_⟩
         .exact q7 o hi
         .have:=(k6 b cB).1
          rw[q2]at this;exact e (Option.some.inj this)
       .rw[ZG (λh=>e2 h.symm)]
        have bD:=hs.st.heap k;simp only[Ap,Ah]at bD;refine bO.keep hx bD rfl rfl rfl rfl λb' hO=>⟨hO,rfl,λo hi=>?_⟩;rcases hi with hi|⟨hb,_⟩
        .exact hi
        .rw[(k6 b' hb).1]at hO;exact absurd (Option.some.inj hO).symm e
     .have bM:=hs.st.slot q
      simp only[A6]at bM ⊢;cases hg:Au σ.fr q with
      |none=>trivial
      |some g =>
       rw[hg]at bM;simp only[QO,Bf]at bM ⊢;exact⟨bM.1,λhc=>(bM.2.1 hc).mono hx,bM.2.2⟩
     .simp only[Ar,XS]
      exact hs.ge k hk
    .cases h
   .cases h
  .cases h
 .cases h
theorem RO.row{I:Nat->Nat->Prop}(h:RO I w (.sl nl n sz f) v)(e:∀i:Nat,(i:Int)<n.den->f2 i=f i):RO I w (.sl nl n sz f2) v:=by
 generalize hs:SV.sl nl n sz f=s at h
 cases h with
 |slnil h hn=>cases hs;exact .slnil h hn
 |sl g h hn hc fX cJ hl h1 aK aY =>
  cases hs;exact .sl g h hn hc fX cJ (λi hi=>by rw[e i (by rw[hn];exact Int.ofNat_lt.2 hi)];exact hl i hi) h1 aK (λi j s hi hf=>aY i j s hi (by rw[<-e i (by rw[hn];exact Int.ofNat_lt.2 hi)];exact hf))
 |_=>cases hs
theorem bX.rX(hs:bX B N E a w σ)(h:Al2 σ s=some (nl,n,sz,f))(he:ri n.den f2 f):
  bX B N E a w ⟨A0 σ.fr s (some ⟨[],none,none,.sl nl n sz f2⟩),σ.hp,σ.gm⟩:=by
 have key:∃g,Au σ.fr s=some g/\g.tg=[]/\∀v,Rel E w g.v v->Rel E w (.sl nl n sz f2) v:=by
  unfold Al2 at h
  split at h
  .rename_i gt gf nK n' cN f' hg
   cases h;refine⟨_,hg,rfl,λv hv=>?_⟩;cases hv with
   |ro hr=>exact .ro (hr.row he.h)
  .rename_i gt gf nK n' cN f' hd hg
   cases h;refine⟨_,hg,rfl,λv hv=>?_⟩;cases hv with
   |ro hr=>cases hr
   |eD hr ht=>exact .ro (hr.row he.h)
  .cases h
 obtain⟨g,bR,htg,aY⟩:=key;have aA:s<σ.fr.length:=by
  rcases ZS s σ.fr.length with h|h
  .exact h
  .rw[D5,QV h]at bR;cases bR
 let g0:G:=⟨[],none,none,.sl nl n sz f2⟩
 have aU:∀k,Au (A0 σ.fr s (some g0)) k=if k=s then some g0 else Au σ.fr k:=λk=>by
  rw[Bo]
  by_cases e:k=s
  .rw[QE ⟨e,aA⟩,QE e]
  .rw[QD (λh=>e h.1),QD e]
 refine⟨⟨hs.st.base,hs.st.heap,λq=>?_,hs.st.size,hs.st.defers⟩,by show (A0 σ.fr s _).length=N;rw[Ar,XS];exact hs.len,⟨λq g hq i hi=>?_,λq g i hq hi=>?_,λq g i hq hi=>?_⟩,hs.ge⟩
 .have bM:=hs.st.slot q
  show Bf E w a q ((Au (A0 σ.fr s (some g0)) q).map λg=>(Ac σ.gm g.tg,g.v));rw[aU];simp only[A6]at bM
  by_cases e:q=s
  .subst e
   rw[QE rfl];rw[bR]at bM;simp only[QO,Bf,htg,Ac,ZN,Ba,g0]at bM ⊢;exact⟨bM.1,λ_=>aY _ (bM.2.1 trivial),λh=>absurd trivial h⟩
  .rw[QD e]
   exact bM
 .have hq:Au (A0 σ.fr s (some g0)) q=some g:=hq
  rw[aU]at hq
  split at hq
  .cases hq;cases hi
  .exact hs.wf.tg q g hq i hi
 .have hq:Au (A0 σ.fr s (some g0)) q=some g:=hq
  rw[aU]at hq
  split at hq
  .cases hq;cases hi
  .exact hs.wf.gt q g i hq hi
 .have hq:Au (A0 σ.fr s (some g0)) q=some g:=hq
  rw[aU]at hq
  split at hq
  .cases hq;cases hi
  .exact hs.wf.gf q g i hq hi
theorem bX.JX{cx:Cx}{n:Nat}{rows:List (List SV)}(hs:bX B N E a w σ)(h:An2 cx σ s=some (n,sz,rows,hd))(hf:Zk f rows):∃E',bX B N E' a w ⟨A0 σ.fr s (some ⟨[],none,none,.dP n sz f⟩),A0 σ.hp hd .gone,σ.gm⟩:=by
 unfold An2 at h
 split at h
 .rename_i gt gf h0 bR
  split at h
  .rename_i T cs hh
   split at h
   .split at h
    .split at h
     .rename_i hb
      simp only[Option.some.injEq,Prod.mk.injEq]at h;obtain⟨rfl,rfl,rfl,rfl⟩:=h;rename_i n e _ _ _ _ _ sz _;simp only[QB,XI,Af]at hb;obtain⟨hlen,gB⟩:=hb;rw[Ck]at gB;have aB:=hs.st.base;have hk:=hs.st.heap h0;rw[Bx hh]at hk;obtain⟨b,C,k1,k2,k3,k4,k5,k6,k7⟩:=hk;have aP:∀i,i<n->f i=(cs.drop (i * sz)).take sz:=by
       intro i hi;have:(chunks sz n cs)[i]?=some (takeN sz (By (i * sz) cs)):=Q0 n i cs hi;rw[hf.h i _ this,Ax,A5]
      let E':Env:=⟨E.β,E.τ,E.O,E.κ,E.ζ,λb' o=>E.I b' o\/(b'=b/\o<C.size)⟩
      have hx:Ext E w E' w:=⟨λ_ _ h=>h,λ_ _ h=>.inl h,λ_ _ h=>h,λ_ _ h=>h,λ_ _ h=>.inl h,λ_ _ _=>rfl⟩;have aA:s<σ.fr.length:=by
       rcases ZS s σ.fr.length with h|h
       .exact h
       .rw[D5,QV h]at bR;cases bR
      let g0:G:=⟨[],none,none,.dP n sz f⟩
      have aU:∀k,Au (A0 σ.fr s (some g0)) k=if k=s then some g0 else Au σ.fr k:=λk=>by
       rw[Bo]
       by_cases e:k=s
       .rw[QE ⟨e,aA⟩,QE e]
       .rw[QD (λh=>e h.1),QD e]
      have eP:∀i j,i<n->j<sz->i * sz+j<C.size:=by
       intro i j hi hj;have:(i+1) * sz<=n * sz:=QH _ hi;rw[XJ]at this;omega
      have hC:∀i j,i<n->j<sz->C[i * sz+j]?=some (C.getD (i * sz+j) undef):=by
       intro i j hi hj;have:=eP i j hi hj;rw[QM,XP this];rfl
      have aK:∀o,w.cell? ⟨b,o,none⟩=C[o]?:=λo=>cell_of_row w b o C T (0,0) k3;have eW:RO E'.I w (.dP n sz f) (.pointer (some ⟨b,0,none⟩)):=by
       refine .dP (λi j=>C.getD (i * sz+j) undef) rfl (λi hi=>?_) (λi j hi hj=>k6 _ (YT (hC i j hi hj))) (λi j hi hj=>⟨?_,?_⟩) (λi j q hi hq=>?_)
       .rw[aP i hi]
        have:(i+1) * sz<=n * sz:=QH _ hi;rw[XJ]at this;simp;omega
       .simp only[XD];rw[aK,hC i j hi hj]
       .simp only[XD];exact .inr ⟨rfl,eP i j hi hj⟩
       .rw[aP i hi,QL]at hq
        split at hq
        .rename_i hj
         rw[XL]at hq;have hv:=hC i j hi hj;exact ((k5 _ _ _ hq hv).fK (gB _ (QF hq)) (k6 _ (YT hv))).mono hx.I hx.cell
        .cases hq
      refine⟨E',⟨⟨⟨aB.os,aB.tape,aB.output,aB.size,aB.old,λb' o hi=>?_,λb' o hi=>?_,λb' o hi=>?_,aB.dG,aB.cS.ext hx⟩,λk=>?_,λq=>?_,hs.st.size,hs.st.defers⟩,by show (A0 σ.fr s _).length=N;rw[Ar,XS];exact hs.len,⟨λq g hq i hi=>?_,λq g i hq hi=>?_,λq g i hq hi=>?_⟩,λk hk=>?_⟩⟩
      .obtain⟨i1,i2⟩:=aB.I0 b' o hi;exact⟨.inl i1,i2⟩
      .rcases hi with hi|⟨rfl,_⟩
       .exact aB.eJ b' o hi
       .exact A4 aB k2
      .rcases hi with hi|⟨rfl,_⟩
       .exact aB.cE b' o hi
       .exact .inr (aB.dG b' h0 k2).2
      .simp only[Ap,Ah,Ar]
       by_cases e:k=h0
       .subst e
        rw[ZK];simp only[QE]
        split
        .trivial
        .have:k<σ.hp.length:=by rw[Ah]at hh;exact (List.getElem?_eq_some_iff.1 hh).1
         rename_i qP;exact absurd (by simpa using this) qP
       .rw[ZG (λh=>e h.symm)]
        have bD:=hs.st.heap k;simp only[Ap,Ah]at bD;refine bO.keep hx bD rfl rfl rfl rfl λb' hO=>⟨hO,rfl,λo hi=>?_⟩;rcases hi with hi|⟨rfl,_⟩
        .exact hi
        .rw[k2]at hO;exact absurd (Option.some.inj hO).symm e
      .have bM:=hs.st.slot q
       show Bf E' w a q ((Au (A0 σ.fr s (some g0)) q).map λg=>(Ac σ.gm g.tg,g.v));rw[aU];simp only[A6]at bM
       by_cases e:q=s
       .subst e
        rw[QE rfl];rw[bR]at bM;simp only[QO,Bf,Ac,ZN,Ba,g0]at bM ⊢;refine⟨bM.1,λ_=>?_,λh=>absurd trivial h⟩;obtain⟨b',e1,e2⟩:=(bM.2.1 trivial).dW;obtain rfl:b=b':=Option.some.inj (k1.symm.trans e1);rw[e2];exact .ro eW
       .rw[QD e]
        cases hg:Au σ.fr q with
        |none=>trivial
        |some g =>
         rw[hg]at bM;simp only[QO,Bf]at bM ⊢;exact⟨bM.1,λhc=>(bM.2.1 hc).mono hx,bM.2.2⟩
      .have hq:Au (A0 σ.fr s (some g0)) q=some g:=hq
       rw[aU]at hq
       split at hq
       .cases hq;cases hi
       .exact hs.wf.tg q g hq i hi
      .have hq:Au (A0 σ.fr s (some g0)) q=some g:=hq
       rw[aU]at hq
       split at hq
       .cases hq;cases hi
       .exact hs.wf.gt q g i hq hi
      .have hq:Au (A0 σ.fr s (some g0)) q=some g:=hq
       rw[aU]at hq
       split at hq
       .cases hq;cases hi
       .exact hs.wf.gf q g i hq hi
      .simp only[Ar,XS]
       exact hs.ge k hk
     .cases h
    .cases h
   .cases h
  .cases h
 .cases h
theorem bX.oD{cs:List SV}(hs:bX B N E a w σ)(h:Zm σ s=some (ty,n,sz,f,hd))(hf:Flat f n.den sz cs):bX B N E a w ⟨σ.fr,A0 σ.hp hd (.aE ty cs),σ.gm⟩:=by
 unfold Zm at h
 split at h
 .rename_i gt gf h0 bR
  split at h
  .rename_i ty n sz f hh
   simp only[Option.some.injEq,Prod.mk.injEq]at h;obtain⟨rfl,rfl,rfl,rfl,rfl⟩:=h;have hk:=hs.st.heap h0;rw[Bx hh]at hk;obtain⟨b,C,m,k1,k2,k3,k4,k5,k6,k7,⟨r1,r2,r3,r4⟩,k9⟩:=hk;have hlen:cs.length=m * sz:=by
    have:=hf.len;rw[k6]at this
    exact_mod_cast this
   refine⟨⟨hs.st.base,λk=>?_,hs.st.slot,hs.st.size,hs.st.defers⟩,hs.len,⟨hs.wf.tg,hs.wf.gt,hs.wf.gf⟩,λk hk=>?_⟩
   .simp only[Ap,Ah,Ar]
    by_cases e:k=h0
    .subst e
     have aA:k<σ.hp.length:=by rw[Ah]at hh;exact (List.getElem?_eq_some_iff.1 hh).1
     rw[ZK];simp only[QE,aA,XB];refine⟨b,C,k1,k4,k5,by rw[r1,hlen],λi s v p q=>?_,r4,k9⟩;have hi:i<m * sz:=by rw[<-hlen];exact (List.getElem?_eq_some_iff.1 p).1
     have aM:0<sz:=by
      rcases YX sz with h|h
      .rw[h]at hi;simp at hi
      .exact h
     have hq:i / sz<m:=by rw[UX aM];exact hi
     have hr:=YF i aM;have aP:=hf.h (i / sz) (by rw[k6];exact_mod_cast hq);have e1:(f (i / sz))[i % sz]?=some s:=by
      rw[aP,QL,QE hr,XL];have:i / sz * sz+i % sz=i:=by rw[YI];exact UU i sz
      rw[this];exact p
     have e2:C[i / sz * sz+i % sz]?=some v:=by
      have:i / sz * sz+i % sz=i:=by rw[YI];exact UU i sz
      rw[this];exact q
     exact .ro (r3 _ _ _ _ hq e1 e2)
    .rw[ZG (λh=>e h.symm)]
     have bD:=hs.st.heap k;simp only[Ap,Ah]at bD;exact bD
   .simp only[Ar,XS]
    exact hs.ge k hk
  .cases h
 .cases h
theorem bX.bC{cx:Cx}(hD:cx.D=dn){B:Bs}{N:Nat}{a:Act}{w:World}{K:Sy->Prop}:∀(l:List Gh) {E:Env} {σ:Sy},bX B N E a w σ->Sx.bC cx l σ K->∃E' aJ,bX B N E' a w aJ/\K aJ
 | [],E,σ,hs,h=>⟨E,σ,hs,h⟩
 |g :: l,E,σ,hs,h=>by
  cases g with
  |rX s =>
   simp only[Sx.bC]at h
   split at h
   .rename_i nl n sz f ht
    obtain⟨f2,he,h⟩:=h;rw[hD]at he;exact bX.bC hD l (hs.rX ht he) h
   .exact h.elim
  |oD s =>
   simp only[Sx.bC]at h
   split at h
   .rename_i ty n sz f h0 ht
    obtain⟨cs,hf,h⟩:=h;rw[hD]at hf;exact bX.bC hD l (hs.oD ht hf) h
   .exact h.elim
  |JX s =>
   simp only[Sx.bC]at h
   split at h
   .rename_i n sz rows h0 ht
    obtain⟨f,hf,h⟩:=h;obtain⟨E1,cC⟩:=hs.JX ht hf;exact bX.bC hD l cC h
   .exact h.elim
  |freeze s =>
   simp only[Sx.bC]at h;obtain⟨hp,h⟩:=h
   split at h
   .rename_i eI h1
    obtain⟨E1,cC⟩:=hs.freeze h1;exact bX.bC hD l cC h
   .exact h.elim
  |attach s e =>
   simp only[Sx.bC]at h;obtain⟨hp,h⟩:=h
   split at h
   .rename_i eI h1
    obtain⟨E1,cC⟩:=hs.attach h1;exact bX.bC hD l cC h
   .exact h.elim
  |hold s k e =>
   simp only[Sx.bC]at h;obtain⟨hp,h⟩:=h
   split at h
   .rename_i eI h1
    obtain⟨E1,cC⟩:=hs.hold h1;exact bX.bC hD l cC h
   .exact h.elim
  |own s e =>
   simp only[Sx.bC]at h;obtain⟨hp,h⟩:=h
   split at h
   .rename_i eI h1
    obtain⟨E1,cC⟩:=hs.own h1;exact bX.bC hD l cC h
   .exact h.elim
  |share s =>
   simp only[Sx.bC]at h;obtain⟨hp,h⟩:=h
   split at h
   .rename_i eI h1
    obtain⟨E1,cC⟩:=hs.share hD hp h1;exact bX.bC hD l cC h
   .exact h.elim
  |lZ s e =>
   simp only[Sx.bC]at h;obtain⟨hp,h⟩:=h
   split at h
   .rename_i eI h1
    obtain⟨E1,cC⟩:=hs.lZ h1;exact bX.bC hD l cC h
   .exact h.elim
  |vec s e =>
   simp only[Sx.bC]at h;obtain⟨hp,h⟩:=h
   split at h
   .rename_i eI h1
    obtain⟨E1,cC⟩:=hs.vec h1;exact bX.bC hD l cC h
   .exact h.elim
  |wC s k e =>
   simp only[Sx.bC]at h;obtain⟨hp,h⟩:=h
   split at h
   .rename_i eI h1
    obtain⟨E1,cC⟩:=hs.wC h1;exact bX.bC hD l cC h
   .exact h.elim
  |jE s =>
   simp only[Sx.bC]at h;obtain⟨hp,h⟩:=h
   split at h
   .rename_i eI h1
    obtain⟨E1,cC⟩:=bX.jE hD hs hp h1;exact bX.bC hD l cC h
   .exact h.elim
  |gS s k =>
   simp only[Sx.bC]at h;obtain⟨hp,h⟩:=h
   split at h
   .rename_i eI h1
    obtain⟨E1,cC⟩:=bX.gS hD hs hp h1;exact bX.bC hD l cC h
   .exact h.elim
theorem bX.gD{cx:Cx}(hD:cx.D=dn){B:Bs}{N:Nat}{E:Env}{a:Act}{w:World}{id:Nat}{σ:Sy}{K:Sy->Prop}(hs:bX B N E a w σ)(h:Sx.gD cx id σ K):∃E' aJ,bX B N E' a w aJ/\K aJ:=by
 unfold Sx.gD at h
 split at h
 .exact⟨E,σ,hs,h⟩
 .exact hs.bC hD _ h
end Go.Sx
