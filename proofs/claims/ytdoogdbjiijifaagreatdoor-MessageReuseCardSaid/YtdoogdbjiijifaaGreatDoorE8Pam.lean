/- A part of the proof: contracts of functions, or the executor and its soundness. No conditions. -/
import Derived.Test.YtdoogdbjiijifaaGreatDoorE8Pal
namespace Go.Sx
open Go
theorem Hp(h:Nat)(x:SV):∀(cs:List SV),fL.lJ h x cs=cs.map (fL h x)
 | []=>rfl
 |c :: cs=>by simp[fL.lJ,Hp h x cs]
theorem RO.fL{I:Nat->Nat->Prop}{w:World}{h:Nat}{x s:SV}{v:Value}(hr:RO I w s v):RO I w (fL h x s) v:=by
 induction hr with
 |int h=>exact .int h
 |bool h=>exact .bool h
 |str h=>exact .str h
 |fC=>exact .fC
 |raw h=>exact .raw h
 |fn h=>exact .fn h
 |rU h=>exact .rU h
 |slnil h hn=>exact .slnil h hn
 |sl g h hn hc eY hs hl h1 aN bF=>exact .sl g h hn hc eY hs hl h1 aN bF
 |dK g hs h1 aN bF=>exact .dK g hs h1 aN bF
 |dT g hs hl h1 aN bF=>exact .dT g hs hl h1 aN bF
 |agg hl _ ih =>
  simp only[Sx.fL,Hp];refine .agg (by simpa using hl) λi s v a b=>?_;rw[QR]at a;obtain⟨s0,h0,rfl⟩:=Option.map_eq_some_iff.1 a;exact ih i s0 v h0 b
theorem Rel.fL{E E':Env}{w:World}{h:Nat}{x s:SV}{v:Value}(hx:Ext E w E' w)(hm:∀v,Rel E w (.dG h) v->Rel E' w x v)(hr:Rel E w s v):Rel E' w (fL h x s) v:=by
 induction hr with
 |ro h=>exact .ro (h.mono hx.I hx.cell).fL
 |ptr hb hv=>exact Rel.mono hx (.ptr hb hv)
 |dQ hr ht=>exact Rel.mono hx (.dQ hr ht)
 |dG hb hk hv =>
  simp only[Sx.fL]
  split
  .rename_i e
   have e:=beq_iff_eq.1 e;subst e;exact hm _ (.dG hb hk hv)
  .exact Rel.mono hx (.dG hb hk hv)
 |cS hb hz hv=>exact Rel.mono hx (.cS hb hz hv)
 |bV ht hk=>exact Rel.mono hx (.bV ht hk)
 |cK hv ho=>exact Rel.mono hx (.cK hv ho)
 |bP hb hv=>exact Rel.mono hx (.bP hb hv)
 |iZ hb hn hv=>exact Rel.mono hx (.iZ hb hn hv)
 |yv hb hv=>exact Rel.mono hx (.yv hb hv)
 |cP ht hk=>exact Rel.mono hx (.cP ht hk)
 |jP ht hk=>exact Rel.mono hx (.jP ht hk)
 |agg hl _ ih =>
  simp only[Sx.fL,Hp];refine .agg (by simpa using hl) λi s v a b=>?_;rw[QR]at a;obtain⟨s0,h0,rfl⟩:=Option.map_eq_some_iff.1 a;exact ih i s0 v h0 b
 |aJ hl _ ih =>
  simp only[Sx.fL,Hp];refine .aJ (by simpa using hl) λi s v a b=>?_;rw[QR]at a;obtain⟨s0,h0,rfl⟩:=Option.map_eq_some_iff.1 a;exact ih i s0 v h0 b
 |eZ hl _ ih =>
  simp only[Sx.fL,Hp];refine .eZ (by simpa using hl) λi s v a b=>?_;rw[QR]at a;obtain⟨s0,h0,rfl⟩:=Option.map_eq_some_iff.1 a;exact ih i s0 v h0 b
 |gI hl _ ih =>
  simp only[Sx.fL,Hp];refine .gI (by simpa using hl) λi s v a b=>?_;rw[QR]at a;obtain⟨s0,h0,rfl⟩:=Option.map_eq_some_iff.1 a;exact ih i s0 v h0 b
theorem Ff(h:Nat)(x:SV):∀(fr:List (Option G)) (s:Nat),Au (Fj h x fr) s=(Au fr s).map λg=>⟨g.tg,g.gt,g.gf,fL h x g.v⟩
 | [],s=>by simp[Fj,Au]
 |some g :: fr,0=>rfl
 |none :: fr,0=>rfl
 |some g :: fr,s+1=>by simp only[Fj,Au];exact Ff h x fr s
 |none :: fr,s+1=>by simp only[Fj,Au];exact Ff h x fr s
theorem Ni(h:Nat)(x:SV):∀(fr:List (Option G)),(Fj h x fr).length=fr.length
 | []=>rfl
 |some g :: fr=>by simp[Fj,Ni h x fr]
 |none :: fr=>by simp[Fj,Ni h x fr]
def Aj5(h:Nat)(x:SV):Hl->Hl
 |.aG ty cs=>.aG ty (cs.map (fL h x))
 |l=>l
theorem Tc(h:Nat)(x:SV):∀(hp:List Hl),MQ h x hp=hp.map (Aj5 h x)
 | []=>rfl
 |l :: hp=>by cases l<;>simp[MQ,Aj5,Hp,Tc h x hp]
theorem bR.freeze{cx:Cx}{B:Bs}{N:Nat}{E:Env}{a:Act}{w:World}{σ aL:Sy}{s:Nat}(hs:bR B N E a w σ)(h:ghost cx σ (.freeze s)=some aL):∃E',bR B N E' a w aL:=by
 simp only[ghost]at h
 split at h
 .rename_i gt gf hd bJ
  split at h
  .rename_i ty n sz f hh
   cases h;have hk:=hs.st.heap hd;rw[Bo hh]at hk;obtain⟨b,C,m,k1,k2,k3,k4,k5,k6,k7,⟨r1,r2,r3,r4⟩,k9⟩:=hk;have aA:=hs.st.base
   let E':Env:=⟨E.β,E.τ,E.O,E.κ,E.ζ,λb' o=>E.I b' o\/(b'=b/\o<m * sz)⟩
   have hx:Ext E w E' w:=⟨λ_ _ h=>h,λ_ _ h=>.inl h,λ_ _ h=>h,λ_ _ h=>h,λ_ _ h=>.inl h,λ_ _ _=>rfl⟩;have aN:∀o,w.cell? ⟨b,o,none⟩=C[o]?:=λo=>cell_of_row w b o C ty (0,0) k5;have hm:∀v,Rel E w (.dG hd) v->Rel E' w (.sl (.l false) n sz f) v:=by
    intro v hv;obtain⟨b',m',e1,e2,rfl⟩:=hv.jV;obtain rfl:b=b':=Option.some.inj (k1.symm.trans e1);obtain rfl:m=m':=Option.some.inj (k2.symm.trans e2);have eE:∀i j,i<m->j<sz->i * sz+j<m * sz:=by
     intro i j hi hj;have:(i+1) * sz<=m * sz:=QQ _ hi;rw[XK]at this;omega
    have hC:∀i j,i<m->j<sz->C[i * sz+j]?=some (C.getD (i * sz+j) undef):=by
     intro i j hi hj;have:=eE i j hi hj;rw[<-r1]at this;rw[XH,ZR this];rfl
    refine .ro (.sl (λi j=>C.getD (i * sz+j) undef) rfl k6 (QH _) k7 (λ_=>rfl) r2 (λi j hi hj=>r4 _ (YJ (hC i j hi hj))) (λi j hi hj=>⟨?_,?_⟩) (λi j s hi hs=>?_))
    .simp only[XE];rw[aN,hC i j hi hj]
    .simp only[XE];exact .inr ⟨rfl,eE i j hi hj⟩
    .have hj:j<sz:=by rw[<-r2 i hi];exact (List.getElem?_eq_some_iff.1 hs).1
     exact (r3 i j s _ hi hs (hC i j hi hj)).mono hx.I hx.cell
   refine⟨E',⟨⟨⟨aA.os,aA.tape,aA.output,aA.size,aA.dZ,λb' o hi=>?_,λb' o hi=>?_,λb' o hi=>?_,aA.cR,aA.cL.ext hx⟩,λk=>?_,λq=>?_,hs.st.size,hs.st.defers⟩,by show (Fj _ _ _).length=N;rw[Ni];exact hs.len,⟨λq g hq i hi=>?_,λq g i hq hi=>?_,λq g i hq hi=>?_⟩,λk hk=>?_⟩⟩
   .obtain⟨i1,i2⟩:=aA.I0 b' o hi;exact⟨.inl i1,i2⟩
   .rcases hi with hi|⟨rfl,_⟩
    .exact aA.dR b' o hi
    .exact A9 aA k4
   .rcases hi with hi|⟨rfl,_⟩
    .exact aA.cC b' o hi
    .exact .inr (aA.cR b' hd k4).2
   .simp only[Aq,Aj,As,Tc]
    by_cases e:k=hd
    .subst e
     rw[ZD];simp only[QB]
     split
     .trivial
     .have:k<σ.hp.length:=by rw[Aj]at hh;exact (List.getElem?_eq_some_iff.1 hh).1
      rename_i xh;exact absurd (by simpa using this) xh
    .rw[XT (λh=>e h.symm),QR]
     have bC:=hs.st.heap k;simp only[Aq,Aj]at bC;have hO:∀b',E.O b'=some k->E'.O b'=some k/\w.heap[b']?=w.heap[b']?/\∀o,E'.I b' o->E.I b' o:=by
      intro b' hO;refine⟨hO,rfl,λo hi=>?_⟩;rcases hi with hi|⟨rfl,_⟩
      .exact hi
      .rw[k4]at hO;exact absurd (Option.some.inj hO).symm e
     cases hl:σ.hp[k]? with
     |none =>
      rw[hl]at bC;exact bQ.keep hx bC rfl rfl rfl rfl hO
     |some l =>
      rw[hl]at bC;simp only[QP,XG]at bC ⊢;cases l with
      |aG ty' cs =>
       obtain⟨b',C',q1,q2,q3,q4,q5,q6⟩:=bC.eC;have hn:A6 E' w (cs.map (fL hd (.sl (.l false) n sz f))) C'.toList:=q4.map _ λs v _ h=>h.fL hx hm;exact⟨b',C',q1,q2,q3,by have:=hn.1;simpa using this.symm,λi s v p q=>hn.2 i s v p (by simpa using q),λv hv=>q5 v (by simpa using hv),λo hi=>q6 o ((hO b' q2).2.2 o hi)⟩
      |_=>exact bQ.keep hx bC rfl rfl rfl rfl hO
   .simp only[Bd,Ff]
    have bD:=hs.st.slot q;simp only[Bd]at bD;cases hg:Au σ.fr q with
    |none=>trivial
    |some g =>
     rw[hg]at bD;simp only[QP,Bk]at bD ⊢;exact⟨bD.1,λhc=>(bD.2.1 hc).fL hx hm,bD.2.2⟩
   .have hq:Au (Fj hd (.sl (.l false) n sz f) σ.fr) q=some g:=hq
    rw[Ff]at hq;obtain⟨g0,h0,rfl⟩:=Option.map_eq_some_iff.1 hq;exact hs.wf.tg q g0 h0 i hi
   .have hq:Au (Fj hd (.sl (.l false) n sz f) σ.fr) q=some g:=hq
    rw[Ff]at hq;obtain⟨g0,h0,rfl⟩:=Option.map_eq_some_iff.1 hq;obtain⟨c,c1,c2⟩:=hs.wf.gt q g0 i h0 hi;exact⟨c,by simp only[c1];rfl,c2⟩
   .have hq:Au (Fj hd (.sl (.l false) n sz f) σ.fr) q=some g:=hq
    rw[Ff]at hq;obtain⟨g0,h0,rfl⟩:=Option.map_eq_some_iff.1 hq;obtain⟨c,c1,c2⟩:=hs.wf.gf q g0 i h0 hi;exact⟨c,by simp only[c1];rfl,c2⟩
   .simp only[As,Tc,XM,XW]
    exact hs.ge k hk
  .cases h
 .cases h
theorem bR.attach{cx:Cx}{B:Bs}{N:Nat}{E:Env}{a:Act}{w:World}{σ aL:Sy}{s:Nat}{e:TypeId}(hs:bR B N E a w σ)(h:ghost cx σ (.attach s e)=some aL):∃E',bR B N E' a w aL:=by
 simp only[ghost]at h
 split at h
 .rename_i gt gf sz f bJ
  split at h
  .split at h
   .cases h
    have aA:=hs.st.base;have cE:bQ E w (Ah σ.hp) .fresh:=by
     have:=hs.st.heap (Ah σ.hp);simpa only[Aq,Aj,Af,QV (QH _),ZT] using this
    obtain⟨f1,f2,f3,f4⟩:=cE
    let E':Env:=⟨E.β,aR E.τ (Ah σ.hp) (some (.slice none 0 0)),E.O,E.κ,E.ζ,E.I⟩
    have hx:Ext E w E' w:=by
     refine⟨λ_ _ h=>h,λk v hk=>.inl ?_,λ_ _ h=>h,λ_ _ h=>h,λ_ _ h=>h,λ_ _ _=>rfl⟩;show aR E.τ (Ah σ.hp) (some (.slice none 0 0)) k=some v;unfold aR
     by_cases e:k=Ah σ.hp
     .subst e;rw[f2]at hk;cases hk
     .rw[QA e];exact hk
    have aC:s<σ.fr.length:=by
     rcases ZJ s σ.fr.length with h|h
     .exact h
     .rw[D7,QV h]at bJ;cases bJ
    let g0:G:=⟨[],none,none,.dQ (.l true) (.l 0) sz f (Ah σ.hp)⟩
    have bL:∀k,Au (Ax σ.fr s (some g0)) k=if k=s then some g0 else Au σ.fr k:=λk=>by
     rw[B5]
     by_cases e:k=s
     .rw[QB ⟨e,aC⟩,QB e]
     .rw[QA (λh=>e h.1),QA e]
    refine⟨E',⟨⟨⟨aA.os,aA.tape,aA.output,aA.size,aA.dZ,aA.I0,aA.dR,aA.cC,aA.cR,aA.cL.ext hx⟩,λk=>?_,λq=>?_,hs.st.size,hs.st.defers⟩,by show (Ax σ.fr s _).length=N;rw[As,XM];exact hs.len,⟨λq g hq i hi=>?_,λq g i hq hi=>?_,λq g i hq hi=>?_⟩,λk hk=>?_⟩⟩
    .have bC:=hs.st.heap k
     simp only[Aq,Aj]at bC ⊢;rcases UJ k σ.hp.length with h|h|h
     .rw[QM h]
      exact bQ.keep hx bC rfl (by simp[E',aR,Af,UA h]) rfl rfl λb hO=>⟨hO,rfl,λ_ h=>h⟩
     .subst h
      rw[QO (QH _)];simp only[UE,YS,XG];exact⟨.slice none 0 0,0,[],by simp[E',aR,Af],World.ownsRow_nil w 0 _ sz,rfl,by simp,λb hb=>by simp[Value.ownBlock]at hb⟩
     .rw[QV (by simp;omega)]
      rw[QV (by omega)]at bC;exact bQ.keep hx bC rfl (by simp[E',aR,Af,UU h]) rfl rfl λb hO=>⟨hO,rfl,λ_ h=>h⟩
    .have bD:=hs.st.slot q
     show Bk E' w a q ((Au (Ax σ.fr s (some g0)) q).map λg=>(Ac σ.gm g.tg,g.v));rw[bL];simp only[Bd]at bD
     by_cases e:q=s
     .subst e
      rw[QB rfl];rw[bJ]at bD;simp only[QP,Bk,Ac,XZ,Bh,g0]at bD ⊢;refine⟨bD.1,λ_=>?_,λh=>absurd trivial h⟩;have hr:=(bD.2.1 trivial).bE;have xa:=hr.mono hx.I hx.cell;rcases hr.bE with⟨e1,_,_⟩|⟨_,_,_,_,_,e1,_⟩
      .rw[e1]at xa ⊢
       exact .dQ xa ⟨none,0,0,by simp[E',aR],by simp[ST.den],λ_=>rfl⟩
      .simp[BT.den]at e1
     .rw[QA e]
      cases hg:Au σ.fr q with
      |none=>trivial
      |some g =>
       rw[hg]at bD;simp only[QP,Bk]at bD ⊢;exact⟨bD.1,λhc=>(bD.2.1 hc).mono hx,bD.2.2⟩
    .have hq:Au (Ax σ.fr s (some g0)) q=some g:=hq
     rw[bL]at hq
     split at hq
     .cases hq;cases hi
     .exact hs.wf.tg q g hq i hi
    .have hq:Au (Ax σ.fr s (some g0)) q=some g:=hq
     rw[bL]at hq
     split at hq
     .cases hq;cases hi
     .exact hs.wf.gt q g i hq hi
    .have hq:Au (Ax σ.fr s (some g0)) q=some g:=hq
     rw[bL]at hq
     split at hq
     .cases hq;cases hi
     .exact hs.wf.gf q g i hq hi
    .have:=hs.ge k hk
     simp only[QF];omega
   .cases h
  .cases h
 .cases h
theorem bR.own{cx:Cx}{B:Bs}{N:Nat}{E:Env}{a:Act}{w:World}{σ aL:Sy}{s:Nat}{e:TypeId}(hs:bR B N E a w σ)(h:ghost cx σ (.own s e)=some aL):∃E',bR B N E' a w aL:=by
 simp only[ghost]at h
 split at h
 .rename_i gt gf sz f bJ
  split at h
  .split at h
   .cases h
    have aA:=hs.st.base;have cE:bQ E w (Ah σ.hp) .fresh:=by
     have:=hs.st.heap (Ah σ.hp);simpa only[Aq,Aj,Af,QV (QH _),ZT] using this
    obtain⟨f1,f2,f3,f4⟩:=cE
    let E':Env:=⟨E.β,aR E.τ (Ah σ.hp) (some (.slice none 0 0)),E.O,E.κ,aR E.ζ (Ah σ.hp) (some sz),E.I⟩
    have hx:Ext E w E' w:=by
     refine⟨λ_ _ h=>h,λk v hk=>.inl ?_,λ_ _ h=>h,λk z hk=>?_,λ_ _ h=>h,λ_ _ _=>rfl⟩
     .show aR E.τ (Ah σ.hp) (some (.slice none 0 0)) k=some v
      unfold aR
      by_cases e:k=Ah σ.hp
      .subst e;rw[f2]at hk;cases hk
      .rw[QA e];exact hk
     .show aR E.ζ (Ah σ.hp) (some sz) k=some z
      unfold aR
      by_cases e:k=Ah σ.hp
      .subst e;rw[f4]at hk;cases hk
      .rw[QA e];exact hk
    have aC:s<σ.fr.length:=by
     rcases ZJ s σ.fr.length with h|h
     .exact h
     .rw[D7,QV h]at bJ;cases bJ
    let g0:G:=⟨[],none,none,.bV (.l true) (.l 0) (Ah σ.hp)⟩
    have bL:∀k,Au (Ax σ.fr s (some g0)) k=if k=s then some g0 else Au σ.fr k:=λk=>by
     rw[B5]
     by_cases e:k=s
     .rw[QB ⟨e,aC⟩,QB e]
     .rw[QA (λh=>e h.1),QA e]
    refine⟨E',⟨⟨⟨aA.os,aA.tape,aA.output,aA.size,aA.dZ,aA.I0,aA.dR,aA.cC,aA.cR,aA.cL.ext hx⟩,λk=>?_,λq=>?_,hs.st.size,hs.st.defers⟩,by show (Ax σ.fr s _).length=N;rw[As,XM];exact hs.len,⟨λq g hq i hi=>?_,λq g i hq hi=>?_,λq g i hq hi=>?_⟩,λk hk=>?_⟩⟩
    .have bC:=hs.st.heap k
     simp only[Aq,Aj]at bC ⊢;rcases UJ k σ.hp.length with h|h|h
     .rw[QM h]
      exact bQ.keep hx bC rfl (by simp[E',aR,Af,UA h]) rfl (by simp[E',aR,Af,UA h]) λb hO=>⟨hO,rfl,λ_ h=>h⟩
     .subst h
      rw[QO (QH _)];simp only[UE,YS,XG];exact⟨.slice none 0 0,0,[],by simp[E',aR,Af],by simp[E',aR,Af],⟨by simp,.inl ⟨rfl,rfl⟩⟩,rfl,by simp,⟨by intro i hi;omega,by intro i j s u hi;omega⟩,λb hb=>by simp[Value.ownBlock]at hb⟩
     .rw[QV (by simp;omega)]
      rw[QV (by omega)]at bC;exact bQ.keep hx bC rfl (by simp[E',aR,Af,UU h]) rfl (by simp[E',aR,Af,UU h]) λb hO=>⟨hO,rfl,λ_ h=>h⟩
    .have bD:=hs.st.slot q
     show Bk E' w a q ((Au (Ax σ.fr s (some g0)) q).map λg=>(Ac σ.gm g.tg,g.v));rw[bL];simp only[Bd]at bD
     by_cases e:q=s
     .subst e
      rw[QB rfl];rw[bJ]at bD;simp only[QP,Bk,Ac,XZ,Bh,g0]at bD ⊢;refine⟨bD.1,λ_=>?_,λh=>absurd trivial h⟩;have hr:=(bD.2.1 trivial).bE;rcases hr.bE with⟨e1,_,_⟩|⟨_,_,_,_,_,e1,_⟩
      .rw[e1]
       exact .bV ⟨none,0,0,rfl,rfl,by simp[BT.den]⟩ ⟨none,0,0,by simp[E',aR],by simp[ST.den],λ_=>rfl⟩
      .simp[BT.den]at e1
     .rw[QA e]
      cases hg:Au σ.fr q with
      |none=>trivial
      |some g =>
       rw[hg]at bD;simp only[QP,Bk]at bD ⊢;exact⟨bD.1,λhc=>(bD.2.1 hc).mono hx,bD.2.2⟩
    .have hq:Au (Ax σ.fr s (some g0)) q=some g:=hq
     rw[bL]at hq
     split at hq
     .cases hq;cases hi
     .exact hs.wf.tg q g hq i hi
    .have hq:Au (Ax σ.fr s (some g0)) q=some g:=hq
     rw[bL]at hq
     split at hq
     .cases hq;cases hi
     .exact hs.wf.gt q g i hq hi
    .have hq:Au (Ax σ.fr s (some g0)) q=some g:=hq
     rw[bL]at hq
     split at hq
     .cases hq;cases hi
     .exact hs.wf.gf q g i hq hi
    .have:=hs.ge k hk
     simp only[QF];omega
   .cases h
  .cases h
 .cases h
variable {E:Env}{h sz m N s hd k0 hb:Nat}{nl:BT}{n n0 g:ST}{ty T e:TypeId}{gr:Bool}{f f2:Nat->List SV}{v:Value}{xs:List Value}{B:Bs}{a:Act}{σ:Sy}{cs:List SV}{g':Int}
theorem vf{w:World}{u:Value}(hr:Rel E w (.bV nl n h) u)(oA:E.τ h=some v)(bW:Co w gr ty sz v m xs)(oB:n0.den=(m:Int))(he:n.den=n0.den)
  (h1:∀u∈xs,u.oneCell'=true) (aI:Fx E w f m sz xs):RO (λb o=>E.I b o\/(v.ownBlock=some b/\o<m * sz)) w (.sl nl n sz f) u:=by
 obtain⟨hu,eK⟩:=Gl hr oA bW oB he;subst hu;have hn:n.den=(m:Int):=by rw[he,oB]
 rcases bW.2 with⟨e0,e1⟩|⟨b,cap,cur,fr,e0,fU,cE,sU,eY,cX,bT⟩
 .rw[e0]
  exact .slnil (eK.2 e0) (by rw[hn,e1];rfl)
 .have eE:∀i j,i<m->j<sz->i * sz+j<m * sz:=by
   intro i j hi hj;have:(i+1) * sz<=m * sz:=QQ _ hi;rw[XK]at this;omega
  have nH:∀i j,i<m->j<sz->xs[i * sz+j]?=some (xs.getD (i * sz+j) undef):=by
   intro i j hi hj;have:=eE i j hi hj;rw[<-bW.1]at this;rw[QD,QC this];rfl
  rw[e0];refine .sl (λi j=>xs.getD (i * sz+j) undef) ?_ hn sU eY (λ_=>rfl) aI.1 (λi j hi hj=>h1 _ (QK (nH i j hi hj))) (λi j hi hj=>⟨?_,?_⟩) (λi j s hi hs=>?_)
  .cases hb:nl.den with
   |false=>rfl
   |true=>rw[eK.1 hb]at e0;simp at e0
  .simp only[XE]
   rw[cell_of_row w b _ cur ty fr fU,<-nH i j hi hj,<-bT,QN,QB (eE i j hi hj)];simp
  .simp only[XE]
   exact .inr ⟨rfl,eE i j hi hj⟩
  .have hj:j<sz:=by rw[<-aI.1 i hi];exact (List.getElem?_eq_some_iff.1 hs).1
   exact (aI.2 i j s _ hi hs (nH i j hi hj)).mono (λb o h=>.inl h) (λ_ _ _=>rfl)
theorem bR.vec{cx:Cx}{B:Bs}{N:Nat}{E:Env}{a:Act}{w:World}{σ aL:Sy}{s:Nat}{e:TypeId}(hs:bR B N E a w σ)(h:ghost cx σ (.vec s e)=some aL):∃E',bR B N E' a w aL:=by
 simp only[ghost]at h
 split at h
 .rename_i gt gf sz f bJ
  split at h
  .split at h
   .cases h
    have aA:=hs.st.base;have cE:bQ E w (Ah σ.hp) .fresh:=by
     have:=hs.st.heap (Ah σ.hp);simpa only[Aq,Aj,Af,QV (QH _),ZT] using this
    obtain⟨f1,f2,f3,f4⟩:=cE
    let E':Env:=⟨E.β,aR E.τ (Ah σ.hp) (some (.slice none 0 0)),E.O,E.κ,E.ζ,E.I⟩
    have hx:Ext E w E' w:=by
     refine⟨λ_ _ h=>h,λk v hk=>.inl ?_,λ_ _ h=>h,λ_ _ h=>h,λ_ _ h=>h,λ_ _ _=>rfl⟩;show aR E.τ (Ah σ.hp) (some (.slice none 0 0)) k=some v;unfold aR
     by_cases e:k=Ah σ.hp
     .subst e;rw[f2]at hk;cases hk
     .rw[QA e];exact hk
    have aC:s<σ.fr.length:=by
     rcases ZJ s σ.fr.length with h|h
     .exact h
     .rw[D7,QV h]at bJ;cases bJ
    let g0:G:=⟨[],none,none,.cP (.l true) (.l 0) (.l 0) (Ah σ.hp)⟩
    have bL:∀k,Au (Ax σ.fr s (some g0)) k=if k=s then some g0 else Au σ.fr k:=λk=>by
     rw[B5]
     by_cases e:k=s
     .rw[QB ⟨e,aC⟩,QB e]
     .rw[QA (λh=>e h.1),QA e]
    refine⟨E',⟨⟨⟨aA.os,aA.tape,aA.output,aA.size,aA.dZ,aA.I0,aA.dR,aA.cC,aA.cR,aA.cL.ext hx⟩,λk=>?_,λq=>?_,hs.st.size,hs.st.defers⟩,by show (Ax σ.fr s _).length=N;rw[As,XM];exact hs.len,⟨λq g hq i hi=>?_,λq g i hq hi=>?_,λq g i hq hi=>?_⟩,λk hk=>?_⟩⟩
    .have bC:=hs.st.heap k
     simp only[Aq,Aj]at bC ⊢;rcases UJ k σ.hp.length with h|h|h
     .rw[QM h]
      exact bQ.keep hx bC rfl (by simp[E',aR,Af,UA h]) rfl rfl λb hO=>⟨hO,rfl,λ_ h=>h⟩
     .subst h
      rw[QO (QH _)];simp only[UE,YS,XG];exact⟨none,0,0,0,[],by simp[E',aR,Af],⟨by simp,.inl ⟨rfl,rfl⟩⟩,rfl,rfl,by simp,⟨by intro i hi;omega,by intro i j s u hi;omega⟩,λb hb=>by simp[Value.ownBlock]at hb⟩
     .rw[QV (by simp;omega)]
      rw[QV (by omega)]at bC;exact bQ.keep hx bC rfl (by simp[E',aR,Af,UU h]) rfl rfl λb hO=>⟨hO,rfl,λ_ h=>h⟩
    .have bD:=hs.st.slot q
     show Bk E' w a q ((Au (Ax σ.fr s (some g0)) q).map λg=>(Ac σ.gm g.tg,g.v));rw[bL];simp only[Bd]at bD
     by_cases e:q=s
     .subst e
      rw[QB rfl];rw[bJ]at bD;simp only[QP,Bk,Ac,XZ,Bh,g0]at bD ⊢;refine⟨bD.1,λ_=>?_,λh=>absurd trivial h⟩;have hr:=(bD.2.1 trivial).bE;rcases hr.bE with⟨e1,_,_⟩|⟨_,_,_,_,_,e1,_⟩
      .rw[e1]
       exact .cP ⟨none,0,0,rfl,rfl,by simp[BT.den]⟩ ⟨none,0,0,by simp[E',aR],by simp[ST.den],λ_=>⟨0,rfl,rfl⟩⟩
      .simp[BT.den]at e1
     .rw[QA e]
      cases hg:Au σ.fr q with
      |none=>trivial
      |some g =>
       rw[hg]at bD;simp only[QP,Bk]at bD ⊢;exact⟨bD.1,λhc=>(bD.2.1 hc).mono hx,bD.2.2⟩
    .have hq:Au (Ax σ.fr s (some g0)) q=some g:=hq
     rw[bL]at hq
     split at hq
     .cases hq;cases hi
     .exact hs.wf.tg q g hq i hi
    .have hq:Au (Ax σ.fr s (some g0)) q=some g:=hq
     rw[bL]at hq
     split at hq
     .cases hq;cases hi
     .exact hs.wf.gt q g i hq hi
    .have hq:Au (Ax σ.fr s (some g0)) q=some g:=hq
     rw[bL]at hq
     split at hq
     .cases hq;cases hi
     .exact hs.wf.gf q g i hq hi
    .have:=hs.ge k hk
     simp only[QF];omega
   .cases h
  .cases h
 .cases h
theorem bR.jF{cx:Cx}{B:Bs}{N:Nat}{E:Env}{a:Act}{w:World}{σ aL:Sy}{s:Nat}(hD:cx.D=dn)(hs:bR B N E a w σ)(hp:Nk cx σ (.jF s))(h:ghost cx σ (.jF s)=some aL):∃E',bR B N E' a w aL:=by
 simp only[ghost]at h;simp only[Nk]at hp
 split at h
 .rename_i gt gf nl n gv hd bJ
  rw[bJ]at hp;simp only at hp
  split at h
  .rename_i ty n0 g1 sz f hh
   rw[hh]at hp;simp only at hp;rw[hD]at hp;have hp:n.den=n0.den/\gv.den=g1.den:=⟨hp.1.h,hp.2.h⟩;cases h;have aA:=hs.st.base;have hk:=hs.st.heap hd;rw[Bo hh]at hk;obtain⟨a0,c0,m,Gn,xs,k1,k2,k3,kg,k4,k5,k6⟩:=hk;obtain⟨v,hv⟩:∃v,v=Value.slice a0 m c0:=⟨_,rfl⟩;rw[<-hv]at k2 k6
   let E':Env:=⟨E.β,E.τ,E.O,E.κ,E.ζ,λb o=>E.I b o\/(v.ownBlock=some b/\o<m * sz)⟩
   have hx:Ext E w E' w:=⟨λ_ _ h=>h,λ_ _ h=>.inl h,λ_ _ h=>h,λ_ _ h=>h,λ_ _ h=>.inl h,λ_ _ _=>rfl⟩;have aC:s<σ.fr.length:=by
    rcases ZJ s σ.fr.length with h|h
    .exact h
    .rw[D7,QV h]at bJ;cases bJ
   let g0:G:=⟨[],none,none,.sl nl n sz f⟩
   have bL:∀k,Au (Ax σ.fr s (some g0)) k=if k=s then some g0 else Au σ.fr k:=λk=>by
    rw[B5]
    by_cases e:k=s
    .rw[QB ⟨e,aC⟩,QB e]
    .rw[QA (λh=>e h.1),QA e]
   refine⟨E',⟨⟨⟨aA.os,aA.tape,aA.output,aA.size,aA.dZ,λb' o hi=>?_,λb' o hi=>?_,λb' o hi=>?_,aA.cR,aA.cL.ext hx⟩,λk=>?_,λq=>?_,hs.st.size,hs.st.defers⟩,by show (Ax σ.fr s _).length=N;rw[As,XM];exact hs.len,⟨λq g hq i hi=>?_,λq g i hq hi=>?_,λq g i hq hi=>?_⟩,λk hk=>?_⟩⟩
   .obtain⟨i1,i2⟩:=aA.I0 b' o hi;exact⟨.inl i1,i2⟩
   .rcases hi with hi|⟨hb,_⟩
    .exact aA.dR b' o hi
    .exact A9 aA (k6 b' hb).1
   .rcases hi with hi|⟨hb,_⟩
    .exact aA.cC b' o hi
    .exact .inr (aA.cR b' hd (k6 b' hb).1).2
   .simp only[Aq,Aj,As]
    by_cases e:k=hd
    .subst e
     rw[ZD];simp only[QB]
     split
     .trivial
     .have:k<σ.hp.length:=by rw[Aj]at hh;exact (List.getElem?_eq_some_iff.1 hh).1
      rename_i xh;exact absurd (by simpa using this) xh
    .rw[XT (λh=>e h.symm)]
     have bC:=hs.st.heap k;simp only[Aq,Aj]at bC;refine bQ.keep hx bC rfl rfl rfl rfl λb' hO=>⟨hO,rfl,λo hi=>?_⟩;rcases hi with hi|⟨hb,_⟩
     .exact hi
     .rw[(k6 b' hb).1]at hO;exact absurd (Option.some.inj hO).symm e
   .have bD:=hs.st.slot q
    show Bk E' w a q ((Au (Ax σ.fr s (some g0)) q).map λg=>(Ac σ.gm g.tg,g.v));rw[bL];simp only[Bd]at bD
    by_cases e:q=s
    .subst e
     rw[QB rfl];rw[bJ]at bD;simp only[QP,Bk,Ac,XZ,Bh,g0]at bD ⊢;exact⟨bD.1,λ_=>.ro (by
      obtain⟨hu,eK⟩:=Mb (bD.2.1 trivial) k1 (by rw[<-hv];exact k2) (by rw[hp.1,k3]) kg hp.2;rw[<-hv]at hu eK;exact Yr hu eK k2 (by rw[hp.1,k3]) k4 k5),λh=>absurd trivial h⟩
    .rw[QA e]
     cases hg:Au σ.fr q with
     |none=>trivial
     |some g =>
      rw[hg]at bD;simp only[QP,Bk]at bD ⊢;exact⟨bD.1,λhc=>(bD.2.1 hc).mono hx,bD.2.2⟩
   .have hq:Au (Ax σ.fr s (some g0)) q=some g:=hq
    rw[bL]at hq
    split at hq
    .cases hq;cases hi
    .exact hs.wf.tg q g hq i hi
   .have hq:Au (Ax σ.fr s (some g0)) q=some g:=hq
    rw[bL]at hq
    split at hq
    .cases hq;cases hi
    .exact hs.wf.gt q g i hq hi
   .have hq:Au (Ax σ.fr s (some g0)) q=some g:=hq
    rw[bL]at hq
    split at hq
    .cases hq;cases hi
    .exact hs.wf.gf q g i hq hi
   .simp only[As,XM]
    exact hs.ge k hk
  .cases h
 .cases h
theorem bR.share{cx:Cx}{B:Bs}{N:Nat}{E:Env}{a:Act}{w:World}{σ aL:Sy}{s:Nat}(hD:cx.D=dn)(hs:bR B N E a w σ)(hp:Nk cx σ (.share s))(h:ghost cx σ (.share s)=some aL):∃E',bR B N E' a w aL:=by
 simp only[ghost]at h;simp only[Nk]at hp
 split at h
 .rename_i gt gf nl n hd bJ
  rw[bJ]at hp;simp only at hp
  split at h
  .rename_i ty n0 sz gr f hh
   rw[hh]at hp;simp only at hp;rw[hD]at hp;have hp:n.den=n0.den:=hp.h;cases h;have aA:=hs.st.base;have hk:=hs.st.heap hd;rw[Bo hh]at hk;obtain⟨v,m,xs,k1,kz,k2,k3,k4,k5,k6⟩:=hk
   let E':Env:=⟨E.β,E.τ,E.O,E.κ,E.ζ,λb o=>E.I b o\/(v.ownBlock=some b/\o<m * sz)⟩
   have hx:Ext E w E' w:=⟨λ_ _ h=>h,λ_ _ h=>.inl h,λ_ _ h=>h,λ_ _ h=>h,λ_ _ h=>.inl h,λ_ _ _=>rfl⟩;have aC:s<σ.fr.length:=by
    rcases ZJ s σ.fr.length with h|h
    .exact h
    .rw[D7,QV h]at bJ;cases bJ
   let g0:G:=⟨[],none,none,.sl nl n sz f⟩
   have bL:∀k,Au (Ax σ.fr s (some g0)) k=if k=s then some g0 else Au σ.fr k:=λk=>by
    rw[B5]
    by_cases e:k=s
    .rw[QB ⟨e,aC⟩,QB e]
    .rw[QA (λh=>e h.1),QA e]
   refine⟨E',⟨⟨⟨aA.os,aA.tape,aA.output,aA.size,aA.dZ,λb' o hi=>?_,λb' o hi=>?_,λb' o hi=>?_,aA.cR,aA.cL.ext hx⟩,λk=>?_,λq=>?_,hs.st.size,hs.st.defers⟩,by show (Ax σ.fr s _).length=N;rw[As,XM];exact hs.len,⟨λq g hq i hi=>?_,λq g i hq hi=>?_,λq g i hq hi=>?_⟩,λk hk=>?_⟩⟩
   .obtain⟨i1,i2⟩:=aA.I0 b' o hi;exact⟨.inl i1,i2⟩
   .rcases hi with hi|⟨hb,_⟩
    .exact aA.dR b' o hi
    .exact A9 aA (k6 b' hb).1
   .rcases hi with hi|⟨hb,_⟩
    .exact aA.cC b' o hi
    .exact .inr (aA.cR b' hd (k6 b' hb).1).2
   .simp only[Aq,Aj,As]
    by_cases e:k=hd
    .subst e
     rw[ZD];simp only[QB]
     split
     .trivial
     .have:k<σ.hp.length:=by rw[Aj]at hh;exact (List.getElem?_eq_some_iff.1 hh).1
      rename_i xh;exact absurd (by simpa using this) xh
    .rw[XT (λh=>e h.symm)]
     have bC:=hs.st.heap k;simp only[Aq,Aj]at bC;refine bQ.keep hx bC rfl rfl rfl rfl λb' hO=>⟨hO,rfl,λo hi=>?_⟩;rcases hi with hi|⟨hb,_⟩
     .exact hi
     .rw[(k6 b' hb).1]at hO;exact absurd (Option.some.inj hO).symm e
   .have bD:=hs.st.slot q
    show Bk E' w a q ((Au (Ax σ.fr s (some g0)) q).map λg=>(Ac σ.gm g.tg,g.v));rw[bL];simp only[Bd]at bD
    by_cases e:q=s
    .subst e
     rw[QB rfl];rw[bJ]at bD;simp only[QP,Bk,Ac,XZ,Bh,g0]at bD ⊢;exact⟨bD.1,λ_=>.ro (vf (bD.2.1 trivial) k1 k2 k3 hp k4 k5),λh=>absurd trivial h⟩
    .rw[QA e]
     cases hg:Au σ.fr q with
     |none=>trivial
     |some g =>
      rw[hg]at bD;simp only[QP,Bk]at bD ⊢;exact⟨bD.1,λhc=>(bD.2.1 hc).mono hx,bD.2.2⟩
   .have hq:Au (Ax σ.fr s (some g0)) q=some g:=hq
    rw[bL]at hq
    split at hq
    .cases hq;cases hi
    .exact hs.wf.tg q g hq i hi
   .have hq:Au (Ax σ.fr s (some g0)) q=some g:=hq
    rw[bL]at hq
    split at hq
    .cases hq;cases hi
    .exact hs.wf.gt q g i hq hi
   .have hq:Au (Ax σ.fr s (some g0)) q=some g:=hq
    rw[bL]at hq
    split at hq
    .cases hq;cases hi
    .exact hs.wf.gf q g i hq hi
   .simp only[As,XM]
    exact hs.ge k hk
  .cases h
 .cases h
theorem bR.mN{cx:Cx}{B:Bs}{N:Nat}{E:Env}{a:Act}{w:World}{σ aL:Sy}{s e:Nat}(hs:bR B N E a w σ)(h:ghost cx σ (.mN s e)=some aL):∃E',bR B N E' a w aL:=by
 simp only[ghost]at h
 split at h
 .rename_i gt gf hd bJ
  split at h
  .rename_i T f hh
   cases h;have aA:=hs.st.base;have hk:=hs.st.heap hd;rw[Bo hh]at hk;obtain⟨b,C,k1,k2,k3,k4,k5,k6⟩:=hk.eC;refine⟨E,⟨⟨aA,λk=>?_,hs.st.slot,hs.st.size,hs.st.defers⟩,hs.len,⟨hs.wf.tg,hs.wf.gt,hs.wf.gf⟩,λk hk=>?_⟩⟩
   .simp only[Aq,Aj,As]
    by_cases e:k=hd
    .subst e
     have aC:k<σ.hp.length:=by rw[Aj]at hh;exact (List.getElem?_eq_some_iff.1 hh).1
     rw[ZF aC];simp only[XG]
     match hC:C.toList,k4 with
     | [p,v],k4 =>
      have hp:p=.pointer none:=by
       have:=k4.2 0 .fC p rfl rfl;cases this with
       |ro h=>cases h;rfl
      have hv:v=.slice none 0 0:=by
       have:=(k4.2 1 _ v rfl rfl).bE;rcases this.bE with⟨e1,_⟩|⟨_,_,_,_,_,e1,_⟩
       .exact e1
       .simp[BT.den]at e1
      subst hp hv;have hCe:C=#[.pointer none,.slice none 0 0]:=by apply XU;rw[hC]
      exact⟨b,.pointer none,.slice none 0 0,k1,k2,.inl rfl,by rw[k3,hCe],World.ownsRow_nil w 0 _ 1,by simp[Value.ownBlock],k6,by simp[Value.ownBlock]⟩
     | [],k4=>exact absurd k4.1 (by simp)
     | [_],k4=>exact absurd k4.1 (by simp)
     |_ :: _ :: _ :: _,k4=>exact absurd k4.1 (by simp)
    .rw[XT (λh=>e h.symm)]
     have bC:=hs.st.heap k;simp only[Aq,Aj]at bC;exact bC
   .simp only[As,XM]
    exact hs.ge k hk
  .cases h
 .cases h
theorem bR.hold{cx:Cx}{B:Bs}{N:Nat}{E:Env}{a:Act}{w:World}{σ aL:Sy}{s k0 e:Nat}(hs:bR B N E a w σ)(h:ghost cx σ (.hold s k0 e)=some aL):∃E',bR B N E' a w aL:=by
 simp only[ghost]at h
 split at h
 .rename_i gt gf hd bJ
  split at h
  .rename_i T cs hh
   split at h
   .rename_i sz f cD cX bB
    split at h
    .cases h
     have aA:=hs.st.base;have cE:bQ E w (Ah σ.hp) .fresh:=by
      have:=hs.st.heap (Ah σ.hp);simpa only[Aq,Aj,Af,QV (QH _),ZT] using this
     obtain⟨f1,f2,f3,f4⟩:=cE
     let E':Env:=⟨E.β,aR E.τ (Ah σ.hp) (some (.slice none 0 0)),E.O,E.κ,E.ζ,E.I⟩
     have hx:Ext E w E' w:=by
      refine⟨λ_ _ h=>h,λk v hk=>.inl ?_,λ_ _ h=>h,λ_ _ h=>h,λ_ _ h=>h,λ_ _ _=>rfl⟩;show aR E.τ (Ah σ.hp) (some (.slice none 0 0)) k=some v;unfold aR
      by_cases e:k=Ah σ.hp
      .subst e;rw[f2]at hk;cases hk
      .rw[QA e];exact hk
     have aC:hd<σ.hp.length:=by rw[Aj]at hh;exact (List.getElem?_eq_some_iff.1 hh).1
     have hk:=hs.st.heap hd;rw[Bo hh]at hk;obtain⟨b,C,k1,k2,k3,k4,k5,k7,k8⟩:=hk;refine⟨E',⟨⟨⟨aA.os,aA.tape,aA.output,aA.size,aA.dZ,aA.I0,aA.dR,aA.cC,aA.cR,aA.cL.ext hx⟩,λk=>?_,λq=>?_,hs.st.size,hs.st.defers⟩,hs.len,⟨hs.wf.tg,hs.wf.gt,hs.wf.gf⟩,λk hk=>?_⟩⟩
     .have bC:=hs.st.heap k
      simp only[Aq,Aj,As]at bC ⊢;rcases UJ k σ.hp.length with h|h|h
      .rw[QM (by simpa using h)]
       by_cases e:k=hd
       .subst e
        rw[ZF aC];simp only[XG];refine⟨b,C,k1,k2,k3,by rw[XM];exact k4,λi s' v a c=>?_,k7,k8⟩;rw[ZD]at a;rw[Aj]at cX
        split at a
        .rename_i xJ
         split at a
         .cases a
          subst xJ;have hr:=(k5 k0 _ v cX c).bE;have xa:=hr.mono hx.I hx.cell;rcases hr.bE with⟨e1,_,_⟩|⟨_,_,_,_,_,e1,_⟩
          .rw[e1]at xa ⊢
           exact .dQ xa ⟨none,0,0,by simp[E',aR],by simp[ST.den],λ_=>rfl⟩
          .simp[BT.den]at e1
         .cases a
        .exact (k5 i s' v a c).mono hx
       .rw[XT (λh=>e h.symm)]
        exact bQ.keep hx bC rfl (by simp[E',aR,Af,UA h]) rfl rfl λb hO=>⟨hO,rfl,λ_ h=>h⟩
      .subst h
       rw[QO (by simp)];simp only[XM,UE,YS,XG];exact⟨.slice none 0 0,0,[],by simp[E',aR,Af],World.ownsRow_nil w 0 _ sz,rfl,by simp,λb hb=>by simp[Value.ownBlock]at hb⟩
      .rw[QV (by simp;omega)]
       rw[QV (by omega)]at bC;exact bQ.keep hx bC rfl (by simp[E',aR,Af,UU h]) rfl rfl λb hO=>⟨hO,rfl,λ_ h=>h⟩
     .have bD:=hs.st.slot q
      simp only[Bd]at bD ⊢;cases hg:Au σ.fr q with
      |none=>trivial
      |some g =>
       rw[hg]at bD;simp only[QP,Bk]at bD ⊢;exact⟨bD.1,λhc=>(bD.2.1 hc).mono hx,bD.2.2⟩
     .have:=hs.ge k hk
      simp only[QF,As,XM];omega
    .cases h
   .cases h
  .cases h
 .cases h
theorem bR.qY{cx:Cx}{B:Bs}{N:Nat}{E:Env}{a:Act}{w:World}{σ aL:Sy}{s k0 e:Nat}(hs:bR B N E a w σ)(h:ghost cx σ (.qY s k0 e)=some aL):∃E',bR B N E' a w aL:=by
 simp only[ghost]at h
 split at h
 .rename_i gt gf hd bJ
  split at h
  .rename_i T cs hh
   split at h
   .rename_i sz f cD cX bB
    split at h
    .cases h
     have aA:=hs.st.base;have cE:bQ E w (Ah σ.hp) .fresh:=by
      have:=hs.st.heap (Ah σ.hp);simpa only[Aq,Aj,Af,QV (QH _),ZT] using this
     obtain⟨f1,f2,f3,f4⟩:=cE
     let E':Env:=⟨E.β,aR E.τ (Ah σ.hp) (some (.slice none 0 0)),E.O,E.κ,E.ζ,E.I⟩
     have hx:Ext E w E' w:=by
      refine⟨λ_ _ h=>h,λk v hk=>.inl ?_,λ_ _ h=>h,λ_ _ h=>h,λ_ _ h=>h,λ_ _ _=>rfl⟩;show aR E.τ (Ah σ.hp) (some (.slice none 0 0)) k=some v;unfold aR
      by_cases e:k=Ah σ.hp
      .subst e;rw[f2]at hk;cases hk
      .rw[QA e];exact hk
     have aC:hd<σ.hp.length:=by rw[Aj]at hh;exact (List.getElem?_eq_some_iff.1 hh).1
     have hk:=hs.st.heap hd;rw[Bo hh]at hk;obtain⟨b,C,k1,k2,k3,k4,k5,k7,k8⟩:=hk;refine⟨E',⟨⟨⟨aA.os,aA.tape,aA.output,aA.size,aA.dZ,aA.I0,aA.dR,aA.cC,aA.cR,aA.cL.ext hx⟩,λk=>?_,λq=>?_,hs.st.size,hs.st.defers⟩,hs.len,⟨hs.wf.tg,hs.wf.gt,hs.wf.gf⟩,λk hk=>?_⟩⟩
     .have bC:=hs.st.heap k
      simp only[Aq,Aj,As]at bC ⊢;rcases UJ k σ.hp.length with h|h|h
      .rw[QM (by simpa using h)]
       by_cases e:k=hd
       .subst e
        rw[ZF aC];simp only[XG];refine⟨b,C,k1,k2,k3,by rw[XM];exact k4,λi s' v a c=>?_,k7,k8⟩;rw[ZD]at a;rw[Aj]at cX
        split at a
        .rename_i xJ
         split at a
         .cases a
          subst xJ;have hr:=(k5 k0 _ v cX c).bE;rcases hr.bE with⟨e1,_,_⟩|⟨_,_,_,_,_,e1,_⟩
          .rw[e1]
           exact .cP ⟨none,0,0,rfl,rfl,by simp[BT.den]⟩ ⟨none,0,0,by simp[E',aR],by simp[ST.den],λ_=>⟨0,rfl,rfl⟩⟩
          .simp[BT.den]at e1
         .cases a
        .exact (k5 i s' v a c).mono hx
       .rw[XT (λh=>e h.symm)]
        exact bQ.keep hx bC rfl (by simp[E',aR,Af,UA h]) rfl rfl λb hO=>⟨hO,rfl,λ_ h=>h⟩
      .subst h
       rw[QO (by simp)];simp only[XM,UE,YS,XG];exact⟨none,0,0,0,[],by simp[E',aR,Af],⟨by simp,.inl ⟨rfl,rfl⟩⟩,rfl,rfl,by simp,⟨by intro i hi;omega,by intro i j s u hi;omega⟩,λb hb=>by simp[Value.ownBlock]at hb⟩
      .rw[QV (by simp;omega)]
       rw[QV (by omega)]at bC;exact bQ.keep hx bC rfl (by simp[E',aR,Af,UU h]) rfl rfl λb hO=>⟨hO,rfl,λ_ h=>h⟩
     .have bD:=hs.st.slot q
      simp only[Bd]at bD ⊢;cases hg:Au σ.fr q with
      |none=>trivial
      |some g =>
       rw[hg]at bD;simp only[QP,Bk]at bD ⊢;exact⟨bD.1,λhc=>(bD.2.1 hc).mono hx,bD.2.2⟩
     .have:=hs.ge k hk
      simp only[QF,As,XM];omega
    .cases h
   .cases h
  .cases h
 .cases h
theorem bR.fP{cx:Cx}{B:Bs}{N:Nat}{E:Env}{a:Act}{w:World}{σ aL:Sy}{s k0:Nat}(hD:cx.D=dn)(hs:bR B N E a w σ)(hp:Nk cx σ (.fP s k0))(h:ghost cx σ (.fP s k0)=some aL):∃E',bR B N E' a w aL:=by
 simp only[ghost]at h;simp only[Nk]at hp
 split at h
 .rename_i gt gf hb bJ
  rw[bJ]at hp;simp only at hp
  split at h
  .rename_i T cs sW
   rw[sW]at hp;simp only at hp
   split at h
   .rename_i nl n g0 hd cX
    rw[cX]at hp;simp only at hp
    split at h
    .rename_i ty n0 g1 sz f hh
     rw[hh]at hp;simp only at hp;cases h;rw[hD]at hp;have hp:n.den=n0.den/\g0.den=g1.den:=⟨hp.1.h,hp.2.h⟩;have aA:=hs.st.base;have aY:hb≠hd:=by rintro rfl;rw[sW]at hh;cases hh
     have hk:=hs.st.heap hd;rw[Bo hh]at hk;obtain⟨a0,c0,m,G,xs,k1,k2,k3,kg,k4,k5,k6⟩:=hk;obtain⟨v,hv⟩:∃v,v=Value.slice a0 m c0:=⟨_,rfl⟩;rw[<-hv]at k2 k6
     let E':Env:=⟨E.β,E.τ,E.O,E.κ,E.ζ,λb o=>E.I b o\/(v.ownBlock=some b/\o<m * sz)⟩
     have hx:Ext E w E' w:=⟨λ_ _ h=>h,λ_ _ h=>.inl h,λ_ _ h=>h,λ_ _ h=>h,λ_ _ h=>.inl h,λ_ _ _=>rfl⟩;have HI:hb<σ.hp.length:=by rw[Aj]at sW;exact (List.getElem?_eq_some_iff.1 sW).1
     have pI:hd<σ.hp.length:=by rw[Aj]at hh;exact (List.getElem?_eq_some_iff.1 hh).1
     have kY:=hs.st.heap hb;rw[Bo sW]at kY;obtain⟨b,C,q1,q2,q3,q4,q5,q6,q7⟩:=kY;refine⟨E',⟨⟨⟨aA.os,aA.tape,aA.output,aA.size,aA.dZ,λb' o hi=>?_,λb' o hi=>?_,λb' o hi=>?_,aA.cR,aA.cL.ext hx⟩,λk=>?_,λq=>?_,hs.st.size,hs.st.defers⟩,hs.len,⟨hs.wf.tg,hs.wf.gt,hs.wf.gf⟩,λk hk=>?_⟩⟩
     .obtain⟨i1,i2⟩:=aA.I0 b' o hi;exact⟨.inl i1,i2⟩
     .rcases hi with hi|⟨hb,_⟩
      .exact aA.dR b' o hi
      .exact A9 aA (k6 b' hb).1
     .rcases hi with hi|⟨hb,_⟩
      .exact aA.cC b' o hi
      .exact .inr (aA.cR b' hd (k6 b' hb).1).2
     .simp only[Aq,Aj,As]
      by_cases e:k=hd
      .subst e
       rw[ZF (by simpa using pI)]
       trivial
      .rw[XT (λh=>e h.symm)]
       by_cases e2:k=hb
       .subst e2
        rw[ZF HI];simp only[XG];refine⟨b,C,q1,q2,q3,by rw[XM];exact q4,λi s' u a c=>?_,q6,λo hi=>?_⟩
        .rw[ZD]at a
         rw[Aj]at cX
         split at a
         .rename_i xJ
          split at a
          .cases a
           subst xJ;obtain⟨hu,eK⟩:=Mb (q5 k0 _ u cX c) k1 (by rw[<-hv];exact k2) (by rw[hp.1,k3]) kg hp.2;rw[<-hv]at hu eK;exact .ro (Yr hu eK k2 (by rw[hp.1,k3]) k4 k5)
          .cases a
         .exact (q5 i s' u a c).mono hx
        .rcases hi with hi|⟨bU,_⟩
         .exact q7 o hi
         .have:=(k6 b bU).1
          rw[q2]at this;exact e (Option.some.inj this)
       .rw[XT (λh=>e2 h.symm)]
        have bC:=hs.st.heap k;simp only[Aq,Aj]at bC;refine bQ.keep hx bC rfl rfl rfl rfl λb' hO=>⟨hO,rfl,λo hi=>?_⟩;rcases hi with hi|⟨hb,_⟩
        .exact hi
        .rw[(k6 b' hb).1]at hO;exact absurd (Option.some.inj hO).symm e
     .have bD:=hs.st.slot q
      simp only[Bd]at bD ⊢;cases hg:Au σ.fr q with
      |none=>trivial
      |some g =>
       rw[hg]at bD;simp only[QP,Bk]at bD ⊢;exact⟨bD.1,λhc=>(bD.2.1 hc).mono hx,bD.2.2⟩
     .simp only[As,XM]
      exact hs.ge k hk
    .cases h
   .cases h
  .cases h
 .cases h
theorem RO.row{I:Nat->Nat->Prop}{w:World}(h:RO I w (.sl nl n sz f) v)(e:∀i:Nat,(i:Int)<n.den->f2 i=f i):RO I w (.sl nl n sz f2) v:=by
 generalize hs:SV.sl nl n sz f=s at h
 cases h with
 |slnil h hn=>cases hs;exact .slnil h hn
 |sl g h hn hc eY cB hl h1 aN bF =>
  cases hs;exact .sl g h hn hc eY cB (λi hi=>by rw[e i (by rw[hn];exact Int.ofNat_lt.2 hi)];exact hl i hi) h1 aN (λi j s hi hf=>bF i j s hi (by rw[<-e i (by rw[hn];exact Int.ofNat_lt.2 hi)];exact hf))
 |_=>cases hs
theorem bR.fw{w:World}(hs:bR B N E a w σ)(h:Aj4 σ s=some (nl,n,sz,f))(he:tc n.den f2 f):
  bR B N E a w ⟨Ax σ.fr s (some ⟨[],none,none,.sl nl n sz f2⟩),σ.hp,σ.gm⟩:=by
 have key:∃g,Au σ.fr s=some g/\g.tg=[]/\∀v,Rel E w g.v v->Rel E w (.sl nl n sz f2) v:=by
  unfold Aj4 at h
  split at h
  .rename_i gt gf dJ n' cD f' hg
   cases h;refine⟨_,hg,rfl,λv hv=>?_⟩;cases hv with
   |ro hr=>exact .ro (hr.row he.h)
  .rename_i gt gf dJ n' cD f' hd hg
   cases h;refine⟨_,hg,rfl,λv hv=>?_⟩;cases hv with
   |ro hr=>cases hr
   |dQ hr ht=>exact .ro (hr.row he.h)
  .cases h
 obtain⟨g,bJ,SF,bF⟩:=key;have aC:s<σ.fr.length:=by
  rcases ZJ s σ.fr.length with h|h
  .exact h
  .rw[D7,QV h]at bJ;cases bJ
 let g0:G:=⟨[],none,none,.sl nl n sz f2⟩
 have bL:∀k,Au (Ax σ.fr s (some g0)) k=if k=s then some g0 else Au σ.fr k:=λk=>by
  rw[B5]
  by_cases e:k=s
  .rw[QB ⟨e,aC⟩,QB e]
  .rw[QA (λh=>e h.1),QA e]
 refine⟨⟨hs.st.base,hs.st.heap,λq=>?_,hs.st.size,hs.st.defers⟩,by show (Ax σ.fr s _).length=N;rw[As,XM];exact hs.len,⟨λq g hq i hi=>?_,λq g i hq hi=>?_,λq g i hq hi=>?_⟩,hs.ge⟩
 .have bD:=hs.st.slot q
  show Bk E w a q ((Au (Ax σ.fr s (some g0)) q).map λg=>(Ac σ.gm g.tg,g.v));rw[bL];simp only[Bd]at bD
  by_cases e:q=s
  .subst e
   rw[QB rfl];rw[bJ]at bD;simp only[QP,Bk,SF,Ac,XZ,Bh,g0]at bD ⊢;exact⟨bD.1,λ_=>bF _ (bD.2.1 trivial),λh=>absurd trivial h⟩
  .rw[QA e]
   exact bD
 .have hq:Au (Ax σ.fr s (some g0)) q=some g:=hq
  rw[bL]at hq
  split at hq
  .cases hq;cases hi
  .exact hs.wf.tg q g hq i hi
 .have hq:Au (Ax σ.fr s (some g0)) q=some g:=hq
  rw[bL]at hq
  split at hq
  .cases hq;cases hi
  .exact hs.wf.gt q g i hq hi
 .have hq:Au (Ax σ.fr s (some g0)) q=some g:=hq
  rw[bL]at hq
  split at hq
  .cases hq;cases hi
  .exact hs.wf.gf q g i hq hi
theorem bR.JD{cx:Cx}{w:World}{n:Nat}{rows:List (List SV)}(hs:bR B N E a w σ)(h:Amf cx σ s=some (n,sz,rows,hd))(hf:Rx f rows):∃E',bR B N E' a w ⟨Ax σ.fr s (some ⟨[],none,none,.dT n sz f⟩),Ax σ.hp hd .gone,σ.gm⟩:=by
 unfold Amf at h
 split at h
 .rename_i gt gf h0 bJ
  split at h
  .rename_i T cs hh
   split at h
   .split at h
    .split at h
     .rename_i hb
      simp only[Option.some.injEq,Prod.mk.injEq]at h;obtain⟨rfl,rfl,rfl,rfl⟩:=h;rename_i n e _ _ _ _ _ sz _;simp only[QE,QS,Af]at hb;obtain⟨hlen,gJ⟩:=hb;rw[Cv]at gJ;have aA:=hs.st.base;have hk:=hs.st.heap h0;rw[Bo hh]at hk;obtain⟨b,C,k1,k2,k3,k4,k5,k6,k7⟩:=hk;have aI:∀i,i<n->f i=(cs.drop (i * sz)).take sz:=by
       intro i hi;have:(chunks sz n cs)[i]?=some (takeN sz (C4 (i * sz) cs)):=Qq n i cs hi;rw[hf.h i _ this,A8,Bi]
      let E':Env:=⟨E.β,E.τ,E.O,E.κ,E.ζ,λb' o=>E.I b' o\/(b'=b/\o<C.size)⟩
      have hx:Ext E w E' w:=⟨λ_ _ h=>h,λ_ _ h=>.inl h,λ_ _ h=>h,λ_ _ h=>h,λ_ _ h=>.inl h,λ_ _ _=>rfl⟩;have aC:s<σ.fr.length:=by
       rcases ZJ s σ.fr.length with h|h
       .exact h
       .rw[D7,QV h]at bJ;cases bJ
      let g0:G:=⟨[],none,none,.dT n sz f⟩
      have bL:∀k,Au (Ax σ.fr s (some g0)) k=if k=s then some g0 else Au σ.fr k:=λk=>by
       rw[B5]
       by_cases e:k=s
       .rw[QB ⟨e,aC⟩,QB e]
       .rw[QA (λh=>e h.1),QA e]
      have eE:∀i j,i<n->j<sz->i * sz+j<C.size:=by
       intro i j hi hj;have:(i+1) * sz<=n * sz:=QQ _ hi;rw[XK]at this;omega
      have hC:∀i j,i<n->j<sz->C[i * sz+j]?=some (C.getD (i * sz+j) undef):=by
       intro i j hi hj;have:=eE i j hi hj;rw[XH,ZR this];rfl
      have aN:∀o,w.cell? ⟨b,o,none⟩=C[o]?:=λo=>cell_of_row w b o C T (0,0) k3;have gY:RO E'.I w (.dT n sz f) (.pointer (some ⟨b,0,none⟩)):=by
       refine .dT (λi j=>C.getD (i * sz+j) undef) rfl (λi hi=>?_) (λi j hi hj=>k6 _ (YJ (hC i j hi hj))) (λi j hi hj=>⟨?_,?_⟩) (λi j q hi hq=>?_)
       .rw[aI i hi]
        have:(i+1) * sz<=n * sz:=QQ _ hi;rw[XK]at this;simp;omega
       .simp only[XE];rw[aN,hC i j hi hj]
       .simp only[XE];exact .inr ⟨rfl,eE i j hi hj⟩
       .rw[aI i hi,QN]at hq
        split at hq
        .rename_i hj
         rw[XF]at hq;have hv:=hC i j hi hj;exact ((k5 _ _ _ hq hv).fB (gJ _ (QK hq)) (k6 _ (YJ hv))).mono hx.I hx.cell
        .cases hq
      refine⟨E',⟨⟨⟨aA.os,aA.tape,aA.output,aA.size,aA.dZ,λb' o hi=>?_,λb' o hi=>?_,λb' o hi=>?_,aA.cR,aA.cL.ext hx⟩,λk=>?_,λq=>?_,hs.st.size,hs.st.defers⟩,by show (Ax σ.fr s _).length=N;rw[As,XM];exact hs.len,⟨λq g hq i hi=>?_,λq g i hq hi=>?_,λq g i hq hi=>?_⟩,λk hk=>?_⟩⟩
      .obtain⟨i1,i2⟩:=aA.I0 b' o hi;exact⟨.inl i1,i2⟩
      .rcases hi with hi|⟨rfl,_⟩
       .exact aA.dR b' o hi
       .exact A9 aA k2
      .rcases hi with hi|⟨rfl,_⟩
       .exact aA.cC b' o hi
       .exact .inr (aA.cR b' h0 k2).2
      .simp only[Aq,Aj,As]
       by_cases e:k=h0
       .subst e
        rw[ZD];simp only[QB]
        split
        .trivial
        .have:k<σ.hp.length:=by rw[Aj]at hh;exact (List.getElem?_eq_some_iff.1 hh).1
         rename_i xh;exact absurd (by simpa using this) xh
       .rw[XT (λh=>e h.symm)]
        have bC:=hs.st.heap k;simp only[Aq,Aj]at bC;refine bQ.keep hx bC rfl rfl rfl rfl λb' hO=>⟨hO,rfl,λo hi=>?_⟩;rcases hi with hi|⟨rfl,_⟩
        .exact hi
        .rw[k2]at hO;exact absurd (Option.some.inj hO).symm e
      .have bD:=hs.st.slot q
       show Bk E' w a q ((Au (Ax σ.fr s (some g0)) q).map λg=>(Ac σ.gm g.tg,g.v));rw[bL];simp only[Bd]at bD
       by_cases e:q=s
       .subst e
        rw[QB rfl];rw[bJ]at bD;simp only[QP,Bk,Ac,XZ,Bh,g0]at bD ⊢;refine⟨bD.1,λ_=>?_,λh=>absurd trivial h⟩;obtain⟨b',e1,e2⟩:=(bD.2.1 trivial).dL;obtain rfl:b=b':=Option.some.inj (k1.symm.trans e1);rw[e2];exact .ro gY
       .rw[QA e]
        cases hg:Au σ.fr q with
        |none=>trivial
        |some g =>
         rw[hg]at bD;simp only[QP,Bk]at bD ⊢;exact⟨bD.1,λhc=>(bD.2.1 hc).mono hx,bD.2.2⟩
      .have hq:Au (Ax σ.fr s (some g0)) q=some g:=hq
       rw[bL]at hq
       split at hq
       .cases hq;cases hi
       .exact hs.wf.tg q g hq i hi
      .have hq:Au (Ax σ.fr s (some g0)) q=some g:=hq
       rw[bL]at hq
       split at hq
       .cases hq;cases hi
       .exact hs.wf.gt q g i hq hi
      .have hq:Au (Ax σ.fr s (some g0)) q=some g:=hq
       rw[bL]at hq
       split at hq
       .cases hq;cases hi
       .exact hs.wf.gf q g i hq hi
      .simp only[As,XM]
       exact hs.ge k hk
     .cases h
    .cases h
   .cases h
  .cases h
 .cases h
theorem bR.oU{w:World}(hs:bR B N E a w σ)(h:Yk σ s=some (ty,n,sz,f,hd))(hf:Flat f n.den sz cs):bR B N E a w ⟨σ.fr,Ax σ.hp hd (.aG ty cs),σ.gm⟩:=by
 unfold Yk at h
 split at h
 .rename_i gt gf h0 bJ
  split at h
  .rename_i ty n sz f hh
   simp only[Option.some.injEq,Prod.mk.injEq]at h;obtain⟨rfl,rfl,rfl,rfl,rfl⟩:=h;have hk:=hs.st.heap h0;rw[Bo hh]at hk;obtain⟨b,C,m,k1,k2,k3,k4,k5,k6,k7,⟨r1,r2,r3,r4⟩,k9⟩:=hk;have hlen:cs.length=m * sz:=by
    have:=hf.len;rw[k6]at this
    exact_mod_cast this
   refine⟨⟨hs.st.base,λk=>?_,hs.st.slot,hs.st.size,hs.st.defers⟩,hs.len,⟨hs.wf.tg,hs.wf.gt,hs.wf.gf⟩,λk hk=>?_⟩
   .simp only[Aq,Aj,As]
    by_cases e:k=h0
    .subst e
     have aC:k<σ.hp.length:=by rw[Aj]at hh;exact (List.getElem?_eq_some_iff.1 hh).1
     rw[ZD];simp only[QB,aC,XG];refine⟨b,C,k1,k4,k5,by rw[r1,hlen],λi s v p q=>?_,r4,k9⟩;have hi:i<m * sz:=by rw[<-hlen];exact (List.getElem?_eq_some_iff.1 p).1
     have bB:0<sz:=by
      rcases YN sz with h|h
      .rw[h]at hi;simp at hi
      .exact h
     have hq:i / sz<m:=by rw[UH bB];exact hi
     have hr:=YD i bB;have aI:=hf.h (i / sz) (by rw[k6];exact_mod_cast hq);have e1:(f (i / sz))[i % sz]?=some s:=by
      rw[aI,QN,QB hr,XF];have:i / sz * sz+i % sz=i:=by rw[UR];exact Nat.div_add_mod i sz
      rw[this];exact p
     have e2:C[i / sz * sz+i % sz]?=some v:=by
      have:i / sz * sz+i % sz=i:=by rw[UR];exact Nat.div_add_mod i sz
      rw[this];exact q
     exact .ro (r3 _ _ _ _ hq e1 e2)
    .rw[XT (λh=>e h.symm)]
     have bC:=hs.st.heap k;simp only[Aq,Aj]at bC;exact bC
   .simp only[As,XM]
    exact hs.ge k hk
  .cases h
 .cases h
theorem bR.pk{w:World}{x:SV}(hs:bR B N E a w σ)(key:∃g,Au σ.fr s=some g/\g.tg=[]/\∀v,Rel E w g.v v->Rel E w x v):
  bR B N E a w ⟨Ax σ.fr s (some ⟨[],none,none,x⟩),σ.hp,σ.gm⟩:=by
 obtain⟨g,bJ,SF,bF⟩:=key;have aC:s<σ.fr.length:=by
  rcases ZJ s σ.fr.length with h|h
  .exact h
  .rw[D7,QV h]at bJ;cases bJ
 let g0:G:=⟨[],none,none,x⟩
 have bL:∀k,Au (Ax σ.fr s (some g0)) k=if k=s then some g0 else Au σ.fr k:=λk=>by
  rw[B5]
  by_cases e:k=s
  .rw[QB ⟨e,aC⟩,QB e]
  .rw[QA (λh=>e h.1),QA e]
 refine⟨⟨hs.st.base,hs.st.heap,λq=>?_,hs.st.size,hs.st.defers⟩,by show (Ax σ.fr s _).length=N;rw[As,XM];exact hs.len,⟨λq g hq i hi=>?_,λq g i hq hi=>?_,λq g i hq hi=>?_⟩,hs.ge⟩
 .have bD:=hs.st.slot q
  show Bk E w a q ((Au (Ax σ.fr s (some g0)) q).map λg=>(Ac σ.gm g.tg,g.v));rw[bL];simp only[Bd]at bD
  by_cases e:q=s
  .subst e
   rw[QB rfl];rw[bJ]at bD;simp only[QP,Bk,SF,Ac,XZ,Bh,g0]at bD ⊢;exact⟨bD.1,λ_=>bF _ (bD.2.1 trivial),λh=>absurd trivial h⟩
  .rw[QA e]
   exact bD
 .have hq:Au (Ax σ.fr s (some g0)) q=some g:=hq
  rw[bL]at hq
  split at hq
  .cases hq;cases hi
  .exact hs.wf.tg q g hq i hi
 .have hq:Au (Ax σ.fr s (some g0)) q=some g:=hq
  rw[bL]at hq
  split at hq
  .cases hq;cases hi
  .exact hs.wf.gt q g i hq hi
 .have hq:Au (Ax σ.fr s (some g0)) q=some g:=hq
  rw[bL]at hq
  split at hq
  .cases hq;cases hi
  .exact hs.wf.gf q g i hq hi
theorem bR.xO{w:World}{c:BT}{b:Bool}(hs:bR B N E a w σ)(h:Afm σ s=some c)(hb:BIs c.den b):
  bR B N E a w ⟨Ax σ.fr s (some ⟨[],none,none,.bool (.l b)⟩),σ.hp,σ.gm⟩:=by
 refine hs.pk ?_;unfold Afm at h
 split at h
 .rename_i gt gf c' hg
  cases h;exact⟨_,hg,rfl,λv hv=>by rw[hv.bI];exact .ro (.bool (by simp only[BT.den];exact hb.h.symm))⟩
 .cases h
theorem bR.zV{w:World}{k:IntKind}{c:ST}{n:Int}(hs:bR B N E a w σ)(h:Aez σ s=some (k,c))(hb:IIs c.den n):
  bR B N E a w ⟨Ax σ.fr s (some ⟨[],none,none,.int k (.l n)⟩),σ.hp,σ.gm⟩:=by
 refine hs.pk ?_;unfold Aez at h
 split at h
 .rename_i gt gf k' c' hg
  cases h;exact⟨_,hg,rfl,λv hv=>by rw[hv.aQ];exact .ro (.int (by simp only[ST.den];exact hb.h.symm))⟩
 .cases h
theorem bR.oI{w:World}(hs:bR B N E a w σ)(hv:Ado σ s k0 h=some (hb,T,cs,e,g,sz,f))(hg:OF g' g.den):
  ∃E',bR B N E' a w ⟨σ.fr,Ax (Ax σ.hp hb (.aG T (Ax cs k0 (.cP (.l true) (.l 0) (.a g') h)))) h (.vec e (.l 0) (.a g') sz f),σ.gm⟩:=by
 unfold Ado at hv
 split at hv
 .rename_i gt gf oE bJ
  split at hv
  .rename_i T' dH e' n0 g1 sz1 f1 sW hh
   split at hv
   .rename_i cD f' cX
    split at hv
    .cases hv
     have aA:=hs.st.base;have aY:hb≠h:=by rintro rfl;rw[sW]at hh;cases hh
     have hk:=hs.st.heap h;rw[Bo hh]at hk;obtain⟨a0,c0,m,G,xs,k1,k2,k3,kg,k4,k5,k6⟩:=hk;have VJ:g'=((G+1:Nat):Int):=by have:=hg.h;omega
     let E':Env:=⟨E.β,aR E.τ h (some (.slice none (G+1) 0)),E.O,E.κ,E.ζ,E.I⟩
     have hx:Ext E w E' w:=by
      refine⟨λ_ _ h=>h,λk v hk=>?_,λ_ _ h=>h,λ_ _ h=>h,λ_ _ h=>h,λ_ _ _=>rfl⟩;show aR E.τ h (some (.slice none (G+1) 0)) k=some v\/∃a m' c a' rT c',v=.slice a m' c/\aR E.τ h (some (.slice none (G+1) 0)) k=some (.slice a' rT c')/\m'<rT;unfold aR
      by_cases e:k=h
      .subst e
       rw[QB rfl];rw[k1]at hk;cases hk;exact .inr ⟨_,G,_,none,G+1,0,rfl,rfl,YO _⟩
      .rw[QA e];exact .inl hk
     have HI:hb<σ.hp.length:=by rw[Aj]at sW;exact (List.getElem?_eq_some_iff.1 sW).1
     have pI:h<σ.hp.length:=by rw[Aj]at hh;exact (List.getElem?_eq_some_iff.1 hh).1
     have kY:=hs.st.heap hb;rw[Bo sW]at kY;obtain⟨b,C,q1,q2,q3,q4,q5,q6,q7⟩:=kY;refine⟨E',⟨⟨⟨aA.os,aA.tape,aA.output,aA.size,aA.dZ,aA.I0,aA.dR,aA.cC,aA.cR,aA.cL.ext hx⟩,λk=>?_,λq=>?_,hs.st.size,hs.st.defers⟩,hs.len,⟨hs.wf.tg,hs.wf.gt,hs.wf.gf⟩,λk hk=>?_⟩⟩
     .simp only[Aq,Aj,As]
      by_cases e:k=h
      .subst e
       rw[ZF (by simpa using pI)];exact⟨none,0,0,G+1,[],by simp[E',aR],⟨by simp,.inl ⟨rfl,rfl⟩⟩,rfl,by simp only[ST.den];exact VJ,by simp,⟨by intro i hi;omega,by intro i j s u hi;omega⟩,λb hb=>by simp[Value.ownBlock]at hb⟩
      .rw[XT (λh=>e h.symm)]
       by_cases e2:k=hb
       .subst e2
        rw[ZF HI];simp only[XG];refine⟨b,C,q1,q2,q3,by rw[XM];exact q4,λi s' u a c=>?_,q6,q7⟩;rw[ZD]at a;rw[Aj]at cX
        split at a
        .rename_i xJ
         split at a
         .cases a
          subst xJ;have hr:=(q5 k0 _ u cX c).bE;rcases hr.bE with⟨e1,_,_⟩|⟨_,_,_,_,_,e1,_⟩
          .rw[e1]
           exact .cP ⟨none,0,0,rfl,rfl,by simp[BT.den]⟩ ⟨none,G+1,0,by simp[E',aR],by simp only[ST.den];omega,λ_=>⟨0,rfl,rfl⟩⟩
          .simp[BT.den]at e1
         .cases a
        .exact (q5 i s' u a c).mono hx
       .rw[XT (λh=>e2 h.symm)]
        have bC:=hs.st.heap k;simp only[Aq,Aj]at bC;exact bQ.keep hx bC rfl (by simp[E',aR,e]) rfl rfl λb' hO=>⟨hO,rfl,λo hi=>hi⟩
     .have bD:=hs.st.slot q
      simp only[Bd]at bD ⊢;cases hg:Au σ.fr q with
      |none=>trivial
      |some g =>
       rw[hg]at bD;simp only[QP,Bk]at bD ⊢;exact⟨bD.1,λhc=>(bD.2.1 hc).mono hx,bD.2.2⟩
     .simp only[As,XM]
      exact hs.ge k hk
    .cases hv
   .cases hv
  .cases hv
 .cases hv
theorem Co.OZ{w:World}(h:Co w gr e sz v m xs):Co w false e sz v m xs:=by
 refine⟨h.1,?_⟩;rcases h.2 with h|⟨g,cap,cur,fr,h1,h2,h3,h4⟩
 .exact .inl h
 .exact .inr ⟨g,cap,cur,fr,h1,h2,h3.imp (λh=>h) λh=>⟨rfl,h.2⟩,h4⟩
theorem bR.qX{w:World}{h2:Nat}(hs:bR B N E a w σ)(hv:Adp σ s k0 h=some (hb,T,cs,h2,nl,n,n0,e,g,sz,f))(gC:n.den=n0.den)(hg:OF g' g.den):
  ∃E',bR B N E' a w ⟨σ.fr,Ax (Ax (Ax σ.hp hb (.aG T (Ax cs k0 (.cP nl n (.a g') h)))) h (.vec e n0 (.a g') sz f)) h2 .gone,σ.gm⟩:=by
 unfold Adp at hv
 split at hv
 .rename_i gt gf oE bJ
  split at hv
  .rename_i T' dH e' n1 g1 sz1 f1 sW hh
   split at hv
   .rename_i dJ n' h2' cX
    split at hv
    .rename_i e2 n2 fy gr f2 xK
     split at hv
     .rename_i hbe
      cases hv;simp only[QE,QS]at hbe;obtain⟨rfl,rfl⟩:=hbe;have aA:=hs.st.base;have aY:hb≠h:=by rintro rfl;rw[sW]at hh;cases hh
      have mE:h≠h2:=by rintro rfl;rw[hh]at xK;cases xK
      have aM1:hb≠h2:=by rintro rfl;rw[sW]at xK;cases xK
      have hk:=hs.st.heap h;rw[Bo hh]at hk;obtain⟨a0,c0,m0,G,xs0,j1,j2,j3,jg,j4,j5,j6⟩:=hk;have aZ:=hs.st.heap h2;rw[Bo xK]at aZ;obtain⟨v,m,xs,k1,kz,k2,k3,k4,k5,k6⟩:=aZ;obtain⟨av,cv,hv⟩:=k2.shape;have VJ:g'=((G+1:Nat):Int):=by have:=hg.h;omega
      let E':Env:=⟨E.β,aR E.τ h (some (.slice av (G+1) cv)),λb=>if v.ownBlock=some b then some h else E.O b,E.κ,E.ζ,E.I⟩
      have hx:Ext E w E' w:=by
       refine⟨λ_ _ h=>h,λk v hk=>?_,λ_ _ h=>h,λ_ _ h=>h,λ_ _ h=>h,λ_ _ _=>rfl⟩;show aR E.τ h (some (.slice av (G+1) cv)) k=some v\/∃a m' c a' rT c',v=.slice a m' c/\aR E.τ h (some (.slice av (G+1) cv)) k=some (.slice a' rT c')/\m'<rT;unfold aR
       by_cases e:k=h
       .subst e
        rw[QB rfl];rw[j1]at hk;cases hk;exact .inr ⟨_,G,_,av,G+1,cv,rfl,rfl,YO _⟩
       .rw[QA e];exact .inl hk
      have HI:hb<σ.hp.length:=by rw[Aj]at sW;exact (List.getElem?_eq_some_iff.1 sW).1
      have pI:h<σ.hp.length:=by rw[Aj]at hh;exact (List.getElem?_eq_some_iff.1 hh).1
      have iJ:h2<σ.hp.length:=by rw[Aj]at xK;exact (List.getElem?_eq_some_iff.1 xK).1
      have kY:=hs.st.heap hb;rw[Bo sW]at kY;obtain⟨b,C,q1,q2,q3,q4,q5,q6,q7⟩:=kY;have IV:∀b' k,E.O b'=some k->k≠h2->E'.O b'=some k:=by
       intro b' k hO hk;show (if v.ownBlock=some b' then some h else E.O b')=some k;rw[QA]
       .exact hO
       .intro bU
        have:=(k6 b' bU).1;rw[hO]at this;exact hk (Option.some.inj this)
      refine⟨E',⟨⟨⟨aA.os,aA.tape,aA.output,aA.size,aA.dZ,aA.I0,aA.dR,aA.cC,λb' k hO=>?_,aA.cL.ext hx⟩,λk=>?_,λq=>?_,hs.st.size,hs.st.defers⟩,hs.len,⟨hs.wf.tg,hs.wf.gt,hs.wf.gf⟩,λk hk=>?_⟩⟩
      .have hO:(if v.ownBlock=some b' then some h else E.O b')=some k:=hO
       split at hO
       .rename_i bU
        exact aA.cR b' h2 (k6 b' bU).1
       .exact aA.cR b' k hO
      .simp only[Aq,Aj,As]
       by_cases e3:k=h2
       .subst e3
        rw[ZF (by simpa using iJ)]
        trivial
       rw[XT (λh=>e3 h.symm)]
       by_cases e:k=h
       .subst e
        rw[ZF (by simpa using pI)];subst hv;exact⟨av,cv,m,G+1,xs,by simp[E',aR],k2.OZ,k3,by simp only[ST.den];exact VJ,k4,k5,λb' oE=>⟨by show (if _ then _ else _)=_;rw[QB oE],(k6 b' oE).2⟩⟩
       .rw[XT (λh=>e h.symm)]
        by_cases e2:k=hb
        .subst e2
         rw[ZF HI];simp only[XG];refine⟨b,C,q1,IV _ _ q2 e3,q3,by rw[XM];exact q4,λi s' u a c=>?_,q6,q7⟩;rw[ZD]at a;rw[Aj]at cX
         split at a
         .rename_i xJ
          split at a
          .cases a
           subst xJ;obtain⟨hu,eK⟩:=Gl (q5 k0 _ u cX c) k1 k2 k3 gC;rw[hu,hv];refine .cP ⟨av,m,cv,rfl,by rw[gC,k3],?_⟩ ⟨av,G+1,cv,by simp[E',aR],by simp only[ST.den];omega,λ_=>⟨m,by rw[gC,k3],rfl⟩⟩;rw[eK,hv];constructor
           .intro h;simp only[Value.slice.injEq]at h;exact h.1
           .rintro rfl
            rcases k2.2 with⟨h1,_⟩|⟨g,cap,cur,fr,h1,_⟩
            .rw[<-hv];exact h1
            .rw[hv]at h1;simp at h1
          .cases a
         .exact (q5 i s' u a c).mono hx
        .rw[XT (λh=>e2 h.symm)]
         have bC:=hs.st.heap k;simp only[Aq,Aj]at bC;exact bQ.keep hx bC rfl (by simp[E',aR,e]) rfl rfl λb' hO=>⟨IV _ _ hO e3,rfl,λo hi=>hi⟩
      .have bD:=hs.st.slot q
       simp only[Bd]at bD ⊢;cases hg:Au σ.fr q with
       |none=>trivial
       |some g =>
        rw[hg]at bD;simp only[QP,Bk]at bD ⊢;exact⟨bD.1,λhc=>(bD.2.1 hc).mono hx,bD.2.2⟩
      .simp only[As,XM]
       exact hs.ge k hk
     .cases hv
    .cases hv
   .cases hv
  .cases hv
 .cases hv
theorem bR.aT{cx:Cx}(hD:cx.D=dn){B:Bs}{N:Nat}{a:Act}{w:World}{K:Sy->Prop}:∀(l:List Gh) {E:Env} {σ:Sy},bR B N E a w σ->Sx.aT cx l σ K->∃E' aL,bR B N E' a w aL/\K aL
 | [],E,σ,hs,h=>⟨E,σ,hs,h⟩
 |g :: l,E,σ,hs,h=>by
  cases g with
  |fw s =>
   simp only[Sx.aT]at h
   split at h
   .rename_i nl n sz f ht
    obtain⟨f2,he,h⟩:=h;rw[hD]at he;exact bR.aT hD l (hs.fw ht he) h
   .exact h.elim
  |xO s =>
   simp only[Sx.aT]at h
   split at h
   .rename_i c ht
    obtain⟨b,hb,h⟩:=h;rw[hD]at hb;exact bR.aT hD l (hs.xO ht hb) h
   .exact h.elim
  |zV s =>
   simp only[Sx.aT]at h
   split at h
   .rename_i k c ht
    obtain⟨n,hn,h⟩:=h;rw[hD]at hn;exact bR.aT hD l (hs.zV ht hn) h
   .exact h.elim
  |oI s k h0 =>
   simp only[Sx.aT]at h
   split at h
   .rename_i hb T cs e g sz f ht
    rw[hD]at h;obtain⟨E1,cA⟩:=hs.oI ht (g':=g.den+1) ⟨rfl⟩;exact bR.aT hD l cA (h _ ⟨rfl⟩)
   .exact h.elim
  |qX s k h0 =>
   simp only[Sx.aT]at h
   split at h
   .rename_i hb T cs h2 nl n n0 e g sz f ht
    rw[hD]at h;obtain⟨hq,h⟩:=h;obtain⟨E1,cA⟩:=hs.qX ht hq.h (g':=g.den+1) ⟨rfl⟩;exact bR.aT hD l cA (h _ ⟨rfl⟩)
   .exact h.elim
  |oU s =>
   simp only[Sx.aT]at h
   split at h
   .rename_i ty n sz f h0 ht
    obtain⟨cs,hf,h⟩:=h;rw[hD]at hf;exact bR.aT hD l (hs.oU ht hf) h
   .exact h.elim
  |JD s =>
   simp only[Sx.aT]at h
   split at h
   .rename_i n sz rows h0 ht
    obtain⟨f,hf,h⟩:=h;obtain⟨E1,cA⟩:=hs.JD ht hf;exact bR.aT hD l cA h
   .exact h.elim
  |freeze s =>
   simp only[Sx.aT]at h;obtain⟨hp,h⟩:=h
   split at h
   .rename_i dS h1
    obtain⟨E1,cA⟩:=hs.freeze h1;exact bR.aT hD l cA h
   .exact h.elim
  |attach s e =>
   simp only[Sx.aT]at h;obtain⟨hp,h⟩:=h
   split at h
   .rename_i dS h1
    obtain⟨E1,cA⟩:=hs.attach h1;exact bR.aT hD l cA h
   .exact h.elim
  |hold s k e =>
   simp only[Sx.aT]at h;obtain⟨hp,h⟩:=h
   split at h
   .rename_i dS h1
    obtain⟨E1,cA⟩:=hs.hold h1;exact bR.aT hD l cA h
   .exact h.elim
  |own s e =>
   simp only[Sx.aT]at h;obtain⟨hp,h⟩:=h
   split at h
   .rename_i dS h1
    obtain⟨E1,cA⟩:=hs.own h1;exact bR.aT hD l cA h
   .exact h.elim
  |share s =>
   simp only[Sx.aT]at h;obtain⟨hp,h⟩:=h
   split at h
   .rename_i dS h1
    obtain⟨E1,cA⟩:=hs.share hD hp h1;exact bR.aT hD l cA h
   .exact h.elim
  |mN s e =>
   simp only[Sx.aT]at h;obtain⟨hp,h⟩:=h
   split at h
   .rename_i dS h1
    obtain⟨E1,cA⟩:=hs.mN h1;exact bR.aT hD l cA h
   .exact h.elim
  |vec s e =>
   simp only[Sx.aT]at h;obtain⟨hp,h⟩:=h
   split at h
   .rename_i dS h1
    obtain⟨E1,cA⟩:=hs.vec h1;exact bR.aT hD l cA h
   .exact h.elim
  |qY s k e =>
   simp only[Sx.aT]at h;obtain⟨hp,h⟩:=h
   split at h
   .rename_i dS h1
    obtain⟨E1,cA⟩:=hs.qY h1;exact bR.aT hD l cA h
   .exact h.elim
  |jF s =>
   simp only[Sx.aT]at h;obtain⟨hp,h⟩:=h
   split at h
   .rename_i dS h1
    obtain⟨E1,cA⟩:=bR.jF hD hs hp h1;exact bR.aT hD l cA h
   .exact h.elim
  |fP s k =>
   simp only[Sx.aT]at h;obtain⟨hp,h⟩:=h
   split at h
   .rename_i dS h1
    obtain⟨E1,cA⟩:=bR.fP hD hs hp h1;exact bR.aT hD l cA h
   .exact h.elim
theorem bR.fY{cx:Cx}(hD:cx.D=dn){B:Bs}{N:Nat}{E:Env}{a:Act}{w:World}{id:Nat}{σ:Sy}{K:Sy->Prop}(hs:bR B N E a w σ)(h:Sx.fY cx id σ K):∃E' aL,bR B N E' a w aL/\K aL:=by
 unfold Sx.fY at h
 split at h
 .exact⟨E,σ,hs,h⟩
 .exact hs.aT hD _ h
end Go.Sx
