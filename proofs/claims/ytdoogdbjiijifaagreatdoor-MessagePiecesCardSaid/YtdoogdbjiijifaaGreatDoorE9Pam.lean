/- Lemmas of the proof; no conditions. -/
import Derived.Test.YtdoogdbjiijifaaGreatDoorE9Pal
namespace Go.Sx
open Go
theorem Hw(h:Nat)(x:SV):∀(cs:List SV),fS.lX h x cs=cs.map (fS h x)
 | []=>rfl
 |c :: cs=>by simp[fS.lX,Hw h x cs]
theorem RO.fS{I:Nat->Nat->Prop}{w:World}{h:Nat}{x s:SV}{v:Value}(hr:RO I w s v):RO I w (fS h x s) v:=by
 induction hr with
 |int h=>exact .int h
 |bool h=>exact .bool h
 |str h=>exact .str h
 |eX=>exact .eX
 |raw h=>exact .raw h
 |fn h=>exact .fn h
 |sL h=>exact .sL h
 |slnil h hn=>exact .slnil h hn
 |sl g h hn hc fI hs hl h1 aP bG=>exact .sl g h hn hc fI hs hl h1 aP bG
 |dK g hs h1 aP bG=>exact .dK g hs h1 aP bG
 |dR g hs hl h1 aP bG=>exact .dR g hs hl h1 aP bG
 |agg hl _ ih =>
  simp only[Sx.fS,Hw];refine .agg (by simpa using hl) λi s v a b=>?_;rw[QS]at a;obtain⟨s0,h0,rfl⟩:=Option.map_eq_some_iff.1 a;exact ih i s0 v h0 b
theorem Rel.fS{E E':Env}{w:World}{h:Nat}{x s:SV}{v:Value}(hx:Ext E w E' w)(hm:∀v,Rel E w (.dH h) v->Rel E' w x v)(hr:Rel E w s v):Rel E' w (fS h x s) v:=by
 induction hr with
 |ro h=>exact .ro (h.mono hx.I hx.cell).fS
 |ptr hb hv=>exact Rel.mono hx (.ptr hb hv)
 |dO hr ht=>exact Rel.mono hx (.dO hr ht)
 |dH hb hk hv =>
  simp only[Sx.fS]
  split
  .rename_i e
   have e:=beq_iff_eq.1 e;subst e;exact hm _ (.dH hb hk hv)
  .exact Rel.mono hx (.dH hb hk hv)
 |cT hb hz hv=>exact Rel.mono hx (.cT hb hz hv)
 |bV ht hk=>exact Rel.mono hx (.bV ht hk)
 |cN hv ho=>exact Rel.mono hx (.cN hv ho)
 |bQ hb hv=>exact Rel.mono hx (.bQ hb hv)
 |jI hb hn hv=>exact Rel.mono hx (.jI hb hn hv)
 |yv hb hv=>exact Rel.mono hx (.yv hb hv)
 |cR ht hk=>exact Rel.mono hx (.cR ht hk)
 |kD ht hk=>exact Rel.mono hx (.kD ht hk)
 |agg hl _ ih =>
  simp only[Sx.fS,Hw];refine .agg (by simpa using hl) λi s v a b=>?_;rw[QS]at a;obtain⟨s0,h0,rfl⟩:=Option.map_eq_some_iff.1 a;exact ih i s0 v h0 b
 |aI hl _ ih =>
  simp only[Sx.fS,Hw];refine .aI (by simpa using hl) λi s v a b=>?_;rw[QS]at a;obtain⟨s0,h0,rfl⟩:=Option.map_eq_some_iff.1 a;exact ih i s0 v h0 b
 |fJ hl _ ih =>
  simp only[Sx.fS,Hw];refine .fJ (by simpa using hl) λi s v a b=>?_;rw[QS]at a;obtain⟨s0,h0,rfl⟩:=Option.map_eq_some_iff.1 a;exact ih i s0 v h0 b
 |gS hl _ ih =>
  simp only[Sx.fS,Hw];refine .gS (by simpa using hl) λi s v a b=>?_;rw[QS]at a;obtain⟨s0,h0,rfl⟩:=Option.map_eq_some_iff.1 a;exact ih i s0 v h0 b
theorem Fk(h:Nat)(x:SV):∀(fr:List (Option G)) (s:Nat),Ax (Fp h x fr) s=(Ax fr s).map λg=>⟨g.tg,g.gt,g.gf,fS h x g.v⟩
 | [],s=>by simp[Fp,Ax]
 |some g :: fr,0=>rfl
 |none :: fr,0=>rfl
 |some g :: fr,s+1=>by simp only[Fp,Ax];exact Fk h x fr s
 |none :: fr,s+1=>by simp only[Fp,Ax];exact Fk h x fr s
theorem Nq(h:Nat)(x:SV):∀(fr:List (Option G)),(Fp h x fr).length=fr.length
 | []=>rfl
 |some g :: fr=>by simp[Fp,Nq h x fr]
 |none :: fr=>by simp[Fp,Nq h x fr]
def Ak9(h:Nat)(x:SV):Hl->Hl
 |.aF ty cs=>.aF ty (cs.map (fS h x))
 |l=>l
theorem Tr(h:Nat)(x:SV):∀(hp:List Hl),OC h x hp=hp.map (Ak9 h x)
 | []=>rfl
 |l :: hp=>by cases l<;>simp[OC,Ak9,Hw,Tr h x hp]
theorem bS.freeze{cx:Cx}{B:Bs}{N:Nat}{E:Env}{a:Act}{w:World}{σ aL:Sy}{s:Nat}(hs:bS B N E a w σ)(h:ghost cx σ (.freeze s)=some aL):∃E',bS B N E' a w aL:=by
 simp only[ghost]at h
 split at h
 .rename_i gt gf hd bK
  split at h
  .rename_i ty n sz f hh
   cases h;have hk:=hs.st.heap hd;rw[Bv hh]at hk;obtain⟨b,C,m,k1,k2,k3,k4,k5,k6,k7,⟨r1,r2,r3,r4⟩,k9⟩:=hk;have aA:=hs.st.base
   let E':Env:=⟨E.β,E.τ,E.O,E.κ,E.ζ,λb' o=>E.I b' o\/(b'=b/\o<m * sz)⟩
   have hx:Ext E w E' w:=⟨λ_ _ h=>h,λ_ _ h=>.inl h,λ_ _ h=>h,λ_ _ h=>h,λ_ _ h=>.inl h,λ_ _ _=>rfl⟩;have aP:∀o,w.cell? ⟨b,o,none⟩=C[o]?:=λo=>cell_of_row w b o C ty (0,0) k5;have hm:∀v,Rel E w (.dH hd) v->Rel E' w (.sl (.l false) n sz f) v:=by
    intro v hv;obtain⟨b',m',e1,e2,rfl⟩:=hv.kO;obtain rfl:b=b':=Option.some.inj (k1.symm.trans e1);obtain rfl:m=m':=Option.some.inj (k2.symm.trans e2);have eH:∀i j,i<m->j<sz->i * sz+j<m * sz:=by
     intro i j hi hj;have:(i+1) * sz<=m * sz:=QR _ hi;rw[XM]at this;omega
    have hC:∀i j,i<m->j<sz->C[i * sz+j]?=some (C.getD (i * sz+j) undef):=by
     intro i j hi hj;have:=eH i j hi hj;rw[<-r1]at this;rw[XI,ZR this];rfl
    refine .ro (.sl (λi j=>C.getD (i * sz+j) undef) rfl k6 (QK _) k7 (λ_=>rfl) r2 (λi j hi hj=>r4 _ (YL (hC i j hi hj))) (λi j hi hj=>⟨?_,?_⟩) (λi j s hi hs=>?_))
    .simp only[XF];rw[aP,hC i j hi hj]
    .simp only[XF];exact .inr ⟨rfl,eH i j hi hj⟩
    .have hj:j<sz:=by rw[<-r2 i hi];exact (List.getElem?_eq_some_iff.1 hs).1
     exact (r3 i j s _ hi hs (hC i j hi hj)).mono hx.I hx.cell
   refine⟨E',⟨⟨⟨aA.os,aA.tape,aA.output,aA.size,aA.dY,λb' o hi=>?_,λb' o hi=>?_,λb' o hi=>?_,aA.cS,aA.cO.ext hx⟩,λk=>?_,λq=>?_,hs.st.size,hs.st.defers⟩,by show (Fp _ _ _).length=N;rw[Nq];exact hs.len,⟨λq g hq i hi=>?_,λq g i hq hi=>?_,λq g i hq hi=>?_⟩,λk hk=>?_⟩⟩
   .obtain⟨i1,i2⟩:=aA.I0 b' o hi;exact⟨.inl i1,i2⟩
   .rcases hi with hi|⟨rfl,_⟩
    .exact aA.dP b' o hi
    .exact Bd aA k4
   .rcases hi with hi|⟨rfl,_⟩
    .exact aA.cE b' o hi
    .exact .inr (aA.cS b' hd k4).2
   .simp only[Aq,Aj,Av,Tr]
    by_cases e:k=hd
    .subst e
     rw[ZF];simp only[QC]
     split
     .trivial
     .have:k<σ.hp.length:=by rw[Aj]at hh;exact (List.getElem?_eq_some_iff.1 hh).1
      rename_i kE;exact absurd (by simpa using this) kE
    .rw[XU (λh=>e h.symm),QS]
     have bD:=hs.st.heap k;simp only[Aq,Aj]at bD;have hO:∀b',E.O b'=some k->E'.O b'=some k/\w.heap[b']?=w.heap[b']?/\∀o,E'.I b' o->E.I b' o:=by
      intro b' hO;refine⟨hO,rfl,λo hi=>?_⟩;rcases hi with hi|⟨rfl,_⟩
      .exact hi
      .rw[k4]at hO;exact absurd (Option.some.inj hO).symm e
     cases hl:σ.hp[k]? with
     |none =>
      rw[hl]at bD;exact bR.keep hx bD rfl rfl rfl rfl hO
     |some l =>
      rw[hl]at bD;simp only[QQ,XD]at bD ⊢;cases l with
      |aF ty' cs =>
       obtain⟨b',C',q1,q2,q3,q4,q5,q6⟩:=bD.eF;have hn:A8 E' w (cs.map (fS hd (.sl (.l false) n sz f))) C'.toList:=q4.map _ λs v _ h=>h.fS hx hm;exact⟨b',C',q1,q2,q3,by have:=hn.1;simpa using this.symm,λi s v p q=>hn.2 i s v p (by simpa using q),λv hv=>q5 v (by simpa using hv),λo hi=>q6 o ((hO b' q2).2.2 o hi)⟩
      |_=>exact bR.keep hx bD rfl rfl rfl rfl hO
   .simp only[Bf,Fk]
    have bE:=hs.st.slot q;simp only[Bf]at bE;cases hg:Ax σ.fr q with
    |none=>trivial
    |some g =>
     rw[hg]at bE;simp only[QQ,Bn]at bE ⊢;exact⟨bE.1,λhc=>(bE.2.1 hc).fS hx hm,bE.2.2⟩
   .have hq:Ax (Fp hd (.sl (.l false) n sz f) σ.fr) q=some g:=hq
    rw[Fk]at hq;obtain⟨g0,h0,rfl⟩:=Option.map_eq_some_iff.1 hq;exact hs.wf.tg q g0 h0 i hi
   .have hq:Ax (Fp hd (.sl (.l false) n sz f) σ.fr) q=some g:=hq
    rw[Fk]at hq;obtain⟨g0,h0,rfl⟩:=Option.map_eq_some_iff.1 hq;obtain⟨c,c1,c2⟩:=hs.wf.gt q g0 i h0 hi;exact⟨c,by simp only[c1];rfl,c2⟩
   .have hq:Ax (Fp hd (.sl (.l false) n sz f) σ.fr) q=some g:=hq
    rw[Fk]at hq;obtain⟨g0,h0,rfl⟩:=Option.map_eq_some_iff.1 hq;obtain⟨c,c1,c2⟩:=hs.wf.gf q g0 i h0 hi;exact⟨c,by simp only[c1];rfl,c2⟩
   .simp only[Av,Tr,XN,XW]
    exact hs.ge k hk
  .cases h
 .cases h
theorem bS.attach{cx:Cx}{B:Bs}{N:Nat}{E:Env}{a:Act}{w:World}{σ aL:Sy}{s:Nat}{e:TypeId}(hs:bS B N E a w σ)(h:ghost cx σ (.attach s e)=some aL):∃E',bS B N E' a w aL:=by
 simp only[ghost]at h
 split at h
 .rename_i gt gf sz f bK
  split at h
  .split at h
   .cases h
    have aA:=hs.st.base;have cI:bR E w (Ai σ.hp) .fresh:=by
     have:=hs.st.heap (Ai σ.hp);simpa only[Aq,Aj,Ag,QY (QK _),ZW] using this
    obtain⟨f1,f2,f3,f4⟩:=cI
    let E':Env:=⟨E.β,aU E.τ (Ai σ.hp) (some (.slice none 0 0)),E.O,E.κ,E.ζ,E.I⟩
    have hx:Ext E w E' w:=by
     refine⟨λ_ _ h=>h,λk v hk=>.inl ?_,λ_ _ h=>h,λ_ _ h=>h,λ_ _ h=>h,λ_ _ _=>rfl⟩;show aU E.τ (Ai σ.hp) (some (.slice none 0 0)) k=some v;unfold aU
     by_cases e:k=Ai σ.hp
     .subst e;rw[f2]at hk;cases hk
     .rw[QA e];exact hk
    have aC:s<σ.fr.length:=by
     rcases ZK s σ.fr.length with h|h
     .exact h
     .rw[Eh,QY h]at bK;cases bK
    let g0:G:=⟨[],none,none,.dO (.l true) (.l 0) sz f (Ai σ.hp)⟩
    have bM:∀k,Ax (Ay σ.fr s (some g0)) k=if k=s then some g0 else Ax σ.fr k:=λk=>by
     rw[B9]
     by_cases e:k=s
     .rw[QC ⟨e,aC⟩,QC e]
     .rw[QA (λh=>e h.1),QA e]
    refine⟨E',⟨⟨⟨aA.os,aA.tape,aA.output,aA.size,aA.dY,aA.I0,aA.dP,aA.cE,aA.cS,aA.cO.ext hx⟩,λk=>?_,λq=>?_,hs.st.size,hs.st.defers⟩,by show (Ay σ.fr s _).length=N;rw[Av,XN];exact hs.len,⟨λq g hq i hi=>?_,λq g i hq hi=>?_,λq g i hq hi=>?_⟩,λk hk=>?_⟩⟩
    .have bD:=hs.st.heap k
     simp only[Aq,Aj]at bD ⊢;rcases YZ k σ.hp.length with h|h|h
     .rw[QM h]
      exact bR.keep hx bD rfl (by simp[E',aU,Ag,YY h]) rfl rfl λb hO=>⟨hO,rfl,λ_ h=>h⟩
     .subst h
      rw[QP (QK _)];simp only[UH,YS,XD];exact⟨.slice none 0 0,0,[],by simp[E',aU,Ag],World.ownsRow_nil w 0 _ sz,rfl,by simp,λb hb=>by simp[Value.ownBlock]at hb⟩
     .rw[QY (by simp;omega)]
      rw[QY (by omega)]at bD;exact bR.keep hx bD rfl (by simp[E',aU,Ag,UX h]) rfl rfl λb hO=>⟨hO,rfl,λ_ h=>h⟩
    .have bE:=hs.st.slot q
     show Bn E' w a q ((Ax (Ay σ.fr s (some g0)) q).map λg=>(Ac σ.gm g.tg,g.v));rw[bM];simp only[Bf]at bE
     by_cases e:q=s
     .subst e
      rw[QC rfl];rw[bK]at bE;simp only[QQ,Bn,Ac,ZC,Bk,g0]at bE ⊢;refine⟨bE.1,λ_=>?_,λh=>absurd trivial h⟩;have hr:=(bE.2.1 trivial).bF;have yj:=hr.mono hx.I hx.cell;rcases hr.bF with⟨e1,_,_⟩|⟨_,_,_,_,_,e1,_⟩
      .rw[e1]at yj ⊢
       exact .dO yj ⟨none,0,0,by simp[E',aU],by simp[ST.den],λ_=>rfl⟩
      .simp[BT.den]at e1
     .rw[QA e]
      cases hg:Ax σ.fr q with
      |none=>trivial
      |some g =>
       rw[hg]at bE;simp only[QQ,Bn]at bE ⊢;exact⟨bE.1,λhc=>(bE.2.1 hc).mono hx,bE.2.2⟩
    .have hq:Ax (Ay σ.fr s (some g0)) q=some g:=hq
     rw[bM]at hq
     split at hq
     .cases hq;cases hi
     .exact hs.wf.tg q g hq i hi
    .have hq:Ax (Ay σ.fr s (some g0)) q=some g:=hq
     rw[bM]at hq
     split at hq
     .cases hq;cases hi
     .exact hs.wf.gt q g i hq hi
    .have hq:Ax (Ay σ.fr s (some g0)) q=some g:=hq
     rw[bM]at hq
     split at hq
     .cases hq;cases hi
     .exact hs.wf.gf q g i hq hi
    .have:=hs.ge k hk
     simp only[QF];omega
   .cases h
  .cases h
 .cases h
theorem bS.own{cx:Cx}{B:Bs}{N:Nat}{E:Env}{a:Act}{w:World}{σ aL:Sy}{s:Nat}{e:TypeId}(hs:bS B N E a w σ)(h:ghost cx σ (.own s e)=some aL):∃E',bS B N E' a w aL:=by
 simp only[ghost]at h
 split at h
 .rename_i gt gf sz f bK
  split at h
  .split at h
   .cases h
    have aA:=hs.st.base;have cI:bR E w (Ai σ.hp) .fresh:=by
     have:=hs.st.heap (Ai σ.hp);simpa only[Aq,Aj,Ag,QY (QK _),ZW] using this
    obtain⟨f1,f2,f3,f4⟩:=cI
    let E':Env:=⟨E.β,aU E.τ (Ai σ.hp) (some (.slice none 0 0)),E.O,E.κ,aU E.ζ (Ai σ.hp) (some sz),E.I⟩
    have hx:Ext E w E' w:=by
     refine⟨λ_ _ h=>h,λk v hk=>.inl ?_,λ_ _ h=>h,λk z hk=>?_,λ_ _ h=>h,λ_ _ _=>rfl⟩
     .show aU E.τ (Ai σ.hp) (some (.slice none 0 0)) k=some v
      unfold aU
      by_cases e:k=Ai σ.hp
      .subst e;rw[f2]at hk;cases hk
      .rw[QA e];exact hk
     .show aU E.ζ (Ai σ.hp) (some sz) k=some z
      unfold aU
      by_cases e:k=Ai σ.hp
      .subst e;rw[f4]at hk;cases hk
      .rw[QA e];exact hk
    have aC:s<σ.fr.length:=by
     rcases ZK s σ.fr.length with h|h
     .exact h
     .rw[Eh,QY h]at bK;cases bK
    let g0:G:=⟨[],none,none,.bV (.l true) (.l 0) (Ai σ.hp)⟩
    have bM:∀k,Ax (Ay σ.fr s (some g0)) k=if k=s then some g0 else Ax σ.fr k:=λk=>by
     rw[B9]
     by_cases e:k=s
     .rw[QC ⟨e,aC⟩,QC e]
     .rw[QA (λh=>e h.1),QA e]
    refine⟨E',⟨⟨⟨aA.os,aA.tape,aA.output,aA.size,aA.dY,aA.I0,aA.dP,aA.cE,aA.cS,aA.cO.ext hx⟩,λk=>?_,λq=>?_,hs.st.size,hs.st.defers⟩,by show (Ay σ.fr s _).length=N;rw[Av,XN];exact hs.len,⟨λq g hq i hi=>?_,λq g i hq hi=>?_,λq g i hq hi=>?_⟩,λk hk=>?_⟩⟩
    .have bD:=hs.st.heap k
     simp only[Aq,Aj]at bD ⊢;rcases YZ k σ.hp.length with h|h|h
     .rw[QM h]
      exact bR.keep hx bD rfl (by simp[E',aU,Ag,YY h]) rfl (by simp[E',aU,Ag,YY h]) λb hO=>⟨hO,rfl,λ_ h=>h⟩
     .subst h
      rw[QP (QK _)];simp only[UH,YS,XD];exact⟨.slice none 0 0,0,[],by simp[E',aU,Ag],by simp[E',aU,Ag],⟨by simp,.inl ⟨rfl,rfl⟩⟩,rfl,by simp,⟨by intro i hi;omega,by intro i j s u hi;omega⟩,λb hb=>by simp[Value.ownBlock]at hb⟩
     .rw[QY (by simp;omega)]
      rw[QY (by omega)]at bD;exact bR.keep hx bD rfl (by simp[E',aU,Ag,UX h]) rfl (by simp[E',aU,Ag,UX h]) λb hO=>⟨hO,rfl,λ_ h=>h⟩
    .have bE:=hs.st.slot q
     show Bn E' w a q ((Ax (Ay σ.fr s (some g0)) q).map λg=>(Ac σ.gm g.tg,g.v));rw[bM];simp only[Bf]at bE
     by_cases e:q=s
     .subst e
      rw[QC rfl];rw[bK]at bE;simp only[QQ,Bn,Ac,ZC,Bk,g0]at bE ⊢;refine⟨bE.1,λ_=>?_,λh=>absurd trivial h⟩;have hr:=(bE.2.1 trivial).bF;rcases hr.bF with⟨e1,_,_⟩|⟨_,_,_,_,_,e1,_⟩
      .rw[e1]
       exact .bV ⟨none,0,0,rfl,rfl,by simp[BT.den]⟩ ⟨none,0,0,by simp[E',aU],by simp[ST.den],λ_=>rfl⟩
      .simp[BT.den]at e1
     .rw[QA e]
      cases hg:Ax σ.fr q with
      |none=>trivial
      |some g =>
       rw[hg]at bE;simp only[QQ,Bn]at bE ⊢;exact⟨bE.1,λhc=>(bE.2.1 hc).mono hx,bE.2.2⟩
    .have hq:Ax (Ay σ.fr s (some g0)) q=some g:=hq
     rw[bM]at hq
     split at hq
     .cases hq;cases hi
     .exact hs.wf.tg q g hq i hi
    .have hq:Ax (Ay σ.fr s (some g0)) q=some g:=hq
     rw[bM]at hq
     split at hq
     .cases hq;cases hi
     .exact hs.wf.gt q g i hq hi
    .have hq:Ax (Ay σ.fr s (some g0)) q=some g:=hq
     rw[bM]at hq
     split at hq
     .cases hq;cases hi
     .exact hs.wf.gf q g i hq hi
    .have:=hs.ge k hk
     simp only[QF];omega
   .cases h
  .cases h
 .cases h
variable {E:Env}{h sz m N s hd k0 hb:Nat}{nl:BT}{n0 g:ST}{ty T e:TypeId}{gr:Bool}{f f2:Nat->List SV}{v:Value}{xs:List Value}{B:Bs}{a:Act}{σ:Sy}{cs:List SV}{g':Int}
theorem wx{w:World}{n:ST}{u:Value}(hr:Rel E w (.bV nl n h) u)(oP:E.τ h=some v)(bY:Cu w gr ty sz v m xs)(oR:n0.den=(m:Int))(he:n.den=n0.den)
  (h1:∀u∈xs,u.oneCell'=true) (aJ:F9 E w f m sz xs):RO (λb o=>E.I b o\/(v.ownBlock=some b/\o<m * sz)) w (.sl nl n sz f) u:=by
 obtain⟨hu,eQ⟩:=Gs hr oP bY oR he;subst hu;have hn:n.den=(m:Int):=by rw[he,oR]
 rcases bY.2 with⟨e0,e1⟩|⟨b,cap,cur,fr,e0,gU,cI,tL,fI,cY,bW⟩
 .rw[e0]
  exact .slnil (eQ.2 e0) (by rw[hn,e1];rfl)
 .have eH:∀i j,i<m->j<sz->i * sz+j<m * sz:=by
   intro i j hi hj;have:(i+1) * sz<=m * sz:=QR _ hi;rw[XM]at this;omega
  have nZ:∀i j,i<m->j<sz->xs[i * sz+j]?=some (xs.getD (i * sz+j) undef):=by
   intro i j hi hj;have:=eH i j hi hj;rw[<-bY.1]at this;rw[QD,QB this];rfl
  rw[e0];refine .sl (λi j=>xs.getD (i * sz+j) undef) ?_ hn tL fI (λ_=>rfl) aJ.1 (λi j hi hj=>h1 _ (QL (nZ i j hi hj))) (λi j hi hj=>⟨?_,?_⟩) (λi j s hi hs=>?_)
  .cases hb:nl.den with
   |false=>rfl
   |true=>rw[eQ.1 hb]at e0;simp at e0
  .simp only[XF]
   rw[cell_of_row w b _ cur ty fr gU,<-nZ i j hi hj,<-bW,QN,QC (eH i j hi hj)];simp
  .simp only[XF]
   exact .inr ⟨rfl,eH i j hi hj⟩
  .have hj:j<sz:=by rw[<-aJ.1 i hi];exact (List.getElem?_eq_some_iff.1 hs).1
   exact (aJ.2 i j s _ hi hs (nZ i j hi hj)).mono (λb o h=>.inl h) (λ_ _ _=>rfl)
theorem bS.vec{cx:Cx}{B:Bs}{N:Nat}{E:Env}{a:Act}{w:World}{σ aL:Sy}{s:Nat}{e:TypeId}(hs:bS B N E a w σ)(h:ghost cx σ (.vec s e)=some aL):∃E',bS B N E' a w aL:=by
 simp only[ghost]at h
 split at h
 .rename_i gt gf sz f bK
  split at h
  .split at h
   .cases h
    have aA:=hs.st.base;have cI:bR E w (Ai σ.hp) .fresh:=by
     have:=hs.st.heap (Ai σ.hp);simpa only[Aq,Aj,Ag,QY (QK _),ZW] using this
    obtain⟨f1,f2,f3,f4⟩:=cI
    let E':Env:=⟨E.β,aU E.τ (Ai σ.hp) (some (.slice none 0 0)),E.O,E.κ,E.ζ,E.I⟩
    have hx:Ext E w E' w:=by
     refine⟨λ_ _ h=>h,λk v hk=>.inl ?_,λ_ _ h=>h,λ_ _ h=>h,λ_ _ h=>h,λ_ _ _=>rfl⟩;show aU E.τ (Ai σ.hp) (some (.slice none 0 0)) k=some v;unfold aU
     by_cases e:k=Ai σ.hp
     .subst e;rw[f2]at hk;cases hk
     .rw[QA e];exact hk
    have aC:s<σ.fr.length:=by
     rcases ZK s σ.fr.length with h|h
     .exact h
     .rw[Eh,QY h]at bK;cases bK
    let g0:G:=⟨[],none,none,.cR (.l true) (.l 0) (.l 0) (Ai σ.hp)⟩
    have bM:∀k,Ax (Ay σ.fr s (some g0)) k=if k=s then some g0 else Ax σ.fr k:=λk=>by
     rw[B9]
     by_cases e:k=s
     .rw[QC ⟨e,aC⟩,QC e]
     .rw[QA (λh=>e h.1),QA e]
    refine⟨E',⟨⟨⟨aA.os,aA.tape,aA.output,aA.size,aA.dY,aA.I0,aA.dP,aA.cE,aA.cS,aA.cO.ext hx⟩,λk=>?_,λq=>?_,hs.st.size,hs.st.defers⟩,by show (Ay σ.fr s _).length=N;rw[Av,XN];exact hs.len,⟨λq g hq i hi=>?_,λq g i hq hi=>?_,λq g i hq hi=>?_⟩,λk hk=>?_⟩⟩
    .have bD:=hs.st.heap k
     simp only[Aq,Aj]at bD ⊢;rcases YZ k σ.hp.length with h|h|h
     .rw[QM h]
      exact bR.keep hx bD rfl (by simp[E',aU,Ag,YY h]) rfl rfl λb hO=>⟨hO,rfl,λ_ h=>h⟩
     .subst h
      rw[QP (QK _)];simp only[UH,YS,XD];exact⟨none,0,0,0,[],by simp[E',aU,Ag],⟨by simp,.inl ⟨rfl,rfl⟩⟩,rfl,rfl,by simp,⟨by intro i hi;omega,by intro i j s u hi;omega⟩,λb hb=>by simp[Value.ownBlock]at hb⟩
     .rw[QY (by simp;omega)]
      rw[QY (by omega)]at bD;exact bR.keep hx bD rfl (by simp[E',aU,Ag,UX h]) rfl rfl λb hO=>⟨hO,rfl,λ_ h=>h⟩
    .have bE:=hs.st.slot q
     show Bn E' w a q ((Ax (Ay σ.fr s (some g0)) q).map λg=>(Ac σ.gm g.tg,g.v));rw[bM];simp only[Bf]at bE
     by_cases e:q=s
     .subst e
      rw[QC rfl];rw[bK]at bE;simp only[QQ,Bn,Ac,ZC,Bk,g0]at bE ⊢;refine⟨bE.1,λ_=>?_,λh=>absurd trivial h⟩;have hr:=(bE.2.1 trivial).bF;rcases hr.bF with⟨e1,_,_⟩|⟨_,_,_,_,_,e1,_⟩
      .rw[e1]
       exact .cR ⟨none,0,0,rfl,rfl,by simp[BT.den]⟩ ⟨none,0,0,by simp[E',aU],by simp[ST.den],λ_=>⟨0,rfl,rfl⟩⟩
      .simp[BT.den]at e1
     .rw[QA e]
      cases hg:Ax σ.fr q with
      |none=>trivial
      |some g =>
       rw[hg]at bE;simp only[QQ,Bn]at bE ⊢;exact⟨bE.1,λhc=>(bE.2.1 hc).mono hx,bE.2.2⟩
    .have hq:Ax (Ay σ.fr s (some g0)) q=some g:=hq
     rw[bM]at hq
     split at hq
     .cases hq;cases hi
     .exact hs.wf.tg q g hq i hi
    .have hq:Ax (Ay σ.fr s (some g0)) q=some g:=hq
     rw[bM]at hq
     split at hq
     .cases hq;cases hi
     .exact hs.wf.gt q g i hq hi
    .have hq:Ax (Ay σ.fr s (some g0)) q=some g:=hq
     rw[bM]at hq
     split at hq
     .cases hq;cases hi
     .exact hs.wf.gf q g i hq hi
    .have:=hs.ge k hk
     simp only[QF];omega
   .cases h
  .cases h
 .cases h
theorem bS.jT{cx:Cx}{B:Bs}{N:Nat}{E:Env}{a:Act}{w:World}{σ aL:Sy}{s:Nat}(hD:cx.D=dn)(hs:bS B N E a w σ)(hp:Ns cx σ (.jT s))(h:ghost cx σ (.jT s)=some aL):∃E',bS B N E' a w aL:=by
 simp only[ghost]at h;simp only[Ns]at hp
 split at h
 .rename_i gt gf nl n gv hd bK
  rw[bK]at hp;simp only at hp
  split at h
  .rename_i ty n0 g1 sz f hh
   rw[hh]at hp;simp only at hp;rw[hD]at hp;have hp:n.den=n0.den/\gv.den=g1.den:=⟨hp.1.h,hp.2.h⟩;cases h;have aA:=hs.st.base;have hk:=hs.st.heap hd;rw[Bv hh]at hk;obtain⟨a0,c0,m,Gn,xs,k1,k2,k3,kg,k4,k5,k6⟩:=hk;obtain⟨v,hv⟩:∃v,v=Value.slice a0 m c0:=⟨_,rfl⟩;rw[<-hv]at k2 k6
   let E':Env:=⟨E.β,E.τ,E.O,E.κ,E.ζ,λb o=>E.I b o\/(v.ownBlock=some b/\o<m * sz)⟩
   have hx:Ext E w E' w:=⟨λ_ _ h=>h,λ_ _ h=>.inl h,λ_ _ h=>h,λ_ _ h=>h,λ_ _ h=>.inl h,λ_ _ _=>rfl⟩;have aC:s<σ.fr.length:=by
    rcases ZK s σ.fr.length with h|h
    .exact h
    .rw[Eh,QY h]at bK;cases bK
   let g0:G:=⟨[],none,none,.sl nl n sz f⟩
   have bM:∀k,Ax (Ay σ.fr s (some g0)) k=if k=s then some g0 else Ax σ.fr k:=λk=>by
    rw[B9]
    by_cases e:k=s
    .rw[QC ⟨e,aC⟩,QC e]
    .rw[QA (λh=>e h.1),QA e]
   refine⟨E',⟨⟨⟨aA.os,aA.tape,aA.output,aA.size,aA.dY,λb' o hi=>?_,λb' o hi=>?_,λb' o hi=>?_,aA.cS,aA.cO.ext hx⟩,λk=>?_,λq=>?_,hs.st.size,hs.st.defers⟩,by show (Ay σ.fr s _).length=N;rw[Av,XN];exact hs.len,⟨λq g hq i hi=>?_,λq g i hq hi=>?_,λq g i hq hi=>?_⟩,λk hk=>?_⟩⟩
   .obtain⟨i1,i2⟩:=aA.I0 b' o hi;exact⟨.inl i1,i2⟩
   .rcases hi with hi|⟨hb,_⟩
    .exact aA.dP b' o hi
    .exact Bd aA (k6 b' hb).1
   .rcases hi with hi|⟨hb,_⟩
    .exact aA.cE b' o hi
    .exact .inr (aA.cS b' hd (k6 b' hb).1).2
   .simp only[Aq,Aj,Av]
    by_cases e:k=hd
    .subst e
     rw[ZF];simp only[QC]
     split
     .trivial
     .have:k<σ.hp.length:=by rw[Aj]at hh;exact (List.getElem?_eq_some_iff.1 hh).1
      rename_i kE;exact absurd (by simpa using this) kE
    .rw[XU (λh=>e h.symm)]
     have bD:=hs.st.heap k;simp only[Aq,Aj]at bD;refine bR.keep hx bD rfl rfl rfl rfl λb' hO=>⟨hO,rfl,λo hi=>?_⟩;rcases hi with hi|⟨hb,_⟩
     .exact hi
     .rw[(k6 b' hb).1]at hO;exact absurd (Option.some.inj hO).symm e
   .have bE:=hs.st.slot q
    show Bn E' w a q ((Ax (Ay σ.fr s (some g0)) q).map λg=>(Ac σ.gm g.tg,g.v));rw[bM];simp only[Bf]at bE
    by_cases e:q=s
    .subst e
     rw[QC rfl];rw[bK]at bE;simp only[QQ,Bn,Ac,ZC,Bk,g0]at bE ⊢;exact⟨bE.1,λ_=>.ro (by
      obtain⟨hu,eQ⟩:=Mi (bE.2.1 trivial) k1 (by rw[<-hv];exact k2) (by rw[hp.1,k3]) kg hp.2;rw[<-hv]at hu eQ;exact Zi hu eQ k2 (by rw[hp.1,k3]) k4 k5),λh=>absurd trivial h⟩
    .rw[QA e]
     cases hg:Ax σ.fr q with
     |none=>trivial
     |some g =>
      rw[hg]at bE;simp only[QQ,Bn]at bE ⊢;exact⟨bE.1,λhc=>(bE.2.1 hc).mono hx,bE.2.2⟩
   .have hq:Ax (Ay σ.fr s (some g0)) q=some g:=hq
    rw[bM]at hq
    split at hq
    .cases hq;cases hi
    .exact hs.wf.tg q g hq i hi
   .have hq:Ax (Ay σ.fr s (some g0)) q=some g:=hq
    rw[bM]at hq
    split at hq
    .cases hq;cases hi
    .exact hs.wf.gt q g i hq hi
   .have hq:Ax (Ay σ.fr s (some g0)) q=some g:=hq
    rw[bM]at hq
    split at hq
    .cases hq;cases hi
    .exact hs.wf.gf q g i hq hi
   .simp only[Av,XN]
    exact hs.ge k hk
  .cases h
 .cases h
theorem bS.share{cx:Cx}{B:Bs}{N:Nat}{E:Env}{a:Act}{w:World}{σ aL:Sy}{s:Nat}(hD:cx.D=dn)(hs:bS B N E a w σ)(hp:Ns cx σ (.share s))(h:ghost cx σ (.share s)=some aL):∃E',bS B N E' a w aL:=by
 simp only[ghost]at h;simp only[Ns]at hp
 split at h
 .rename_i gt gf nl n hd bK
  rw[bK]at hp;simp only at hp
  split at h
  .rename_i ty n0 sz gr f hh
   rw[hh]at hp;simp only at hp;rw[hD]at hp;have hp:n.den=n0.den:=hp.h;cases h;have aA:=hs.st.base;have hk:=hs.st.heap hd;rw[Bv hh]at hk;obtain⟨v,m,xs,k1,kz,k2,k3,k4,k5,k6⟩:=hk
   let E':Env:=⟨E.β,E.τ,E.O,E.κ,E.ζ,λb o=>E.I b o\/(v.ownBlock=some b/\o<m * sz)⟩
   have hx:Ext E w E' w:=⟨λ_ _ h=>h,λ_ _ h=>.inl h,λ_ _ h=>h,λ_ _ h=>h,λ_ _ h=>.inl h,λ_ _ _=>rfl⟩;have aC:s<σ.fr.length:=by
    rcases ZK s σ.fr.length with h|h
    .exact h
    .rw[Eh,QY h]at bK;cases bK
   let g0:G:=⟨[],none,none,.sl nl n sz f⟩
   have bM:∀k,Ax (Ay σ.fr s (some g0)) k=if k=s then some g0 else Ax σ.fr k:=λk=>by
    rw[B9]
    by_cases e:k=s
    .rw[QC ⟨e,aC⟩,QC e]
    .rw[QA (λh=>e h.1),QA e]
   refine⟨E',⟨⟨⟨aA.os,aA.tape,aA.output,aA.size,aA.dY,λb' o hi=>?_,λb' o hi=>?_,λb' o hi=>?_,aA.cS,aA.cO.ext hx⟩,λk=>?_,λq=>?_,hs.st.size,hs.st.defers⟩,by show (Ay σ.fr s _).length=N;rw[Av,XN];exact hs.len,⟨λq g hq i hi=>?_,λq g i hq hi=>?_,λq g i hq hi=>?_⟩,λk hk=>?_⟩⟩
   .obtain⟨i1,i2⟩:=aA.I0 b' o hi;exact⟨.inl i1,i2⟩
   .rcases hi with hi|⟨hb,_⟩
    .exact aA.dP b' o hi
    .exact Bd aA (k6 b' hb).1
   .rcases hi with hi|⟨hb,_⟩
    .exact aA.cE b' o hi
    .exact .inr (aA.cS b' hd (k6 b' hb).1).2
   .simp only[Aq,Aj,Av]
    by_cases e:k=hd
    .subst e
     rw[ZF];simp only[QC]
     split
     .trivial
     .have:k<σ.hp.length:=by rw[Aj]at hh;exact (List.getElem?_eq_some_iff.1 hh).1
      rename_i kE;exact absurd (by simpa using this) kE
    .rw[XU (λh=>e h.symm)]
     have bD:=hs.st.heap k;simp only[Aq,Aj]at bD;refine bR.keep hx bD rfl rfl rfl rfl λb' hO=>⟨hO,rfl,λo hi=>?_⟩;rcases hi with hi|⟨hb,_⟩
     .exact hi
     .rw[(k6 b' hb).1]at hO;exact absurd (Option.some.inj hO).symm e
   .have bE:=hs.st.slot q
    show Bn E' w a q ((Ax (Ay σ.fr s (some g0)) q).map λg=>(Ac σ.gm g.tg,g.v));rw[bM];simp only[Bf]at bE
    by_cases e:q=s
    .subst e
     rw[QC rfl];rw[bK]at bE;simp only[QQ,Bn,Ac,ZC,Bk,g0]at bE ⊢;exact⟨bE.1,λ_=>.ro (wx (bE.2.1 trivial) k1 k2 k3 hp k4 k5),λh=>absurd trivial h⟩
    .rw[QA e]
     cases hg:Ax σ.fr q with
     |none=>trivial
     |some g =>
      rw[hg]at bE;simp only[QQ,Bn]at bE ⊢;exact⟨bE.1,λhc=>(bE.2.1 hc).mono hx,bE.2.2⟩
   .have hq:Ax (Ay σ.fr s (some g0)) q=some g:=hq
    rw[bM]at hq
    split at hq
    .cases hq;cases hi
    .exact hs.wf.tg q g hq i hi
   .have hq:Ax (Ay σ.fr s (some g0)) q=some g:=hq
    rw[bM]at hq
    split at hq
    .cases hq;cases hi
    .exact hs.wf.gt q g i hq hi
   .have hq:Ax (Ay σ.fr s (some g0)) q=some g:=hq
    rw[bM]at hq
    split at hq
    .cases hq;cases hi
    .exact hs.wf.gf q g i hq hi
   .simp only[Av,XN]
    exact hs.ge k hk
  .cases h
 .cases h
theorem bS.nC{cx:Cx}{B:Bs}{N:Nat}{E:Env}{a:Act}{w:World}{σ aL:Sy}{s e:Nat}(hs:bS B N E a w σ)(h:ghost cx σ (.nC s e)=some aL):∃E',bS B N E' a w aL:=by
 simp only[ghost]at h
 split at h
 .rename_i gt gf hd bK
  split at h
  .rename_i T f hh
   cases h;have aA:=hs.st.base;have hk:=hs.st.heap hd;rw[Bv hh]at hk;obtain⟨b,C,k1,k2,k3,k4,k5,k6⟩:=hk.eF;refine⟨E,⟨⟨aA,λk=>?_,hs.st.slot,hs.st.size,hs.st.defers⟩,hs.len,⟨hs.wf.tg,hs.wf.gt,hs.wf.gf⟩,λk hk=>?_⟩⟩
   .simp only[Aq,Aj,Av]
    by_cases e:k=hd
    .subst e
     have aC:k<σ.hp.length:=by rw[Aj]at hh;exact (List.getElem?_eq_some_iff.1 hh).1
     rw[ZH aC];simp only[XD]
     match hC:C.toList,k4 with
     | [p,v],k4 =>
      have hp:p=.pointer none:=by
       have:=k4.2 0 .eX p rfl rfl;cases this with
       |ro h=>cases h;rfl
      have hv:v=.slice none 0 0:=by
       have:=(k4.2 1 _ v rfl rfl).bF;rcases this.bF with⟨e1,_⟩|⟨_,_,_,_,_,e1,_⟩
       .exact e1
       .simp[BT.den]at e1
      subst hp hv;have hCe:C=#[.pointer none,.slice none 0 0]:=by apply XV;rw[hC]
      exact⟨b,.pointer none,.slice none 0 0,k1,k2,.inl rfl,by rw[k3,hCe],World.ownsRow_nil w 0 _ 1,by simp[Value.ownBlock],k6,by simp[Value.ownBlock]⟩
     | [],k4=>exact absurd k4.1 (by simp)
     | [_],k4=>exact absurd k4.1 (by simp)
     |_ :: _ :: _ :: _,k4=>exact absurd k4.1 (by simp)
    .rw[XU (λh=>e h.symm)]
     have bD:=hs.st.heap k;simp only[Aq,Aj]at bD;exact bD
   .simp only[Av,XN]
    exact hs.ge k hk
  .cases h
 .cases h
theorem bS.hold{cx:Cx}{B:Bs}{N:Nat}{E:Env}{a:Act}{w:World}{σ aL:Sy}{s k0 e:Nat}(hs:bS B N E a w σ)(h:ghost cx σ (.hold s k0 e)=some aL):∃E',bS B N E' a w aL:=by
 simp only[ghost]at h
 split at h
 .rename_i gt gf hd bK
  split at h
  .rename_i T cs hh
   split at h
   .rename_i sz f cH cY bC
    split at h
    .cases h
     have aA:=hs.st.base;have cI:bR E w (Ai σ.hp) .fresh:=by
      have:=hs.st.heap (Ai σ.hp);simpa only[Aq,Aj,Ag,QY (QK _),ZW] using this
     obtain⟨f1,f2,f3,f4⟩:=cI
     let E':Env:=⟨E.β,aU E.τ (Ai σ.hp) (some (.slice none 0 0)),E.O,E.κ,E.ζ,E.I⟩
     have hx:Ext E w E' w:=by
      refine⟨λ_ _ h=>h,λk v hk=>.inl ?_,λ_ _ h=>h,λ_ _ h=>h,λ_ _ h=>h,λ_ _ _=>rfl⟩;show aU E.τ (Ai σ.hp) (some (.slice none 0 0)) k=some v;unfold aU
      by_cases e:k=Ai σ.hp
      .subst e;rw[f2]at hk;cases hk
      .rw[QA e];exact hk
     have aC:hd<σ.hp.length:=by rw[Aj]at hh;exact (List.getElem?_eq_some_iff.1 hh).1
     have hk:=hs.st.heap hd;rw[Bv hh]at hk;obtain⟨b,C,k1,k2,k3,k4,k5,k7,k8⟩:=hk;refine⟨E',⟨⟨⟨aA.os,aA.tape,aA.output,aA.size,aA.dY,aA.I0,aA.dP,aA.cE,aA.cS,aA.cO.ext hx⟩,λk=>?_,λq=>?_,hs.st.size,hs.st.defers⟩,hs.len,⟨hs.wf.tg,hs.wf.gt,hs.wf.gf⟩,λk hk=>?_⟩⟩
     .have bD:=hs.st.heap k
      simp only[Aq,Aj,Av]at bD ⊢;rcases YZ k σ.hp.length with h|h|h
      .rw[QM (by simpa using h)]
       by_cases e:k=hd
       .subst e
        rw[ZH aC];simp only[XD];refine⟨b,C,k1,k2,k3,by rw[XN];exact k4,λi s' v a c=>?_,k7,k8⟩;rw[ZF]at a;rw[Aj]at cY
        split at a
        .rename_i yG
         split at a
         .cases a
          subst yG;have hr:=(k5 k0 _ v cY c).bF;have yj:=hr.mono hx.I hx.cell;rcases hr.bF with⟨e1,_,_⟩|⟨_,_,_,_,_,e1,_⟩
          .rw[e1]at yj ⊢
           exact .dO yj ⟨none,0,0,by simp[E',aU],by simp[ST.den],λ_=>rfl⟩
          .simp[BT.den]at e1
         .cases a
        .exact (k5 i s' v a c).mono hx
       .rw[XU (λh=>e h.symm)]
        exact bR.keep hx bD rfl (by simp[E',aU,Ag,YY h]) rfl rfl λb hO=>⟨hO,rfl,λ_ h=>h⟩
      .subst h
       rw[QP (by simp)];simp only[XN,UH,YS,XD];exact⟨.slice none 0 0,0,[],by simp[E',aU,Ag],World.ownsRow_nil w 0 _ sz,rfl,by simp,λb hb=>by simp[Value.ownBlock]at hb⟩
      .rw[QY (by simp;omega)]
       rw[QY (by omega)]at bD;exact bR.keep hx bD rfl (by simp[E',aU,Ag,UX h]) rfl rfl λb hO=>⟨hO,rfl,λ_ h=>h⟩
     .have bE:=hs.st.slot q
      simp only[Bf]at bE ⊢;cases hg:Ax σ.fr q with
      |none=>trivial
      |some g =>
       rw[hg]at bE;simp only[QQ,Bn]at bE ⊢;exact⟨bE.1,λhc=>(bE.2.1 hc).mono hx,bE.2.2⟩
     .have:=hs.ge k hk
      simp only[QF,Av,XN];omega
    .cases h
   .cases h
  .cases h
 .cases h
theorem bS.rN{cx:Cx}{B:Bs}{N:Nat}{E:Env}{a:Act}{w:World}{σ aL:Sy}{s k0 e:Nat}(hs:bS B N E a w σ)(h:ghost cx σ (.rN s k0 e)=some aL):∃E',bS B N E' a w aL:=by
 simp only[ghost]at h
 split at h
 .rename_i gt gf hd bK
  split at h
  .rename_i T cs hh
   split at h
   .rename_i sz f cH cY bC
    split at h
    .cases h
     have aA:=hs.st.base;have cI:bR E w (Ai σ.hp) .fresh:=by
      have:=hs.st.heap (Ai σ.hp);simpa only[Aq,Aj,Ag,QY (QK _),ZW] using this
     obtain⟨f1,f2,f3,f4⟩:=cI
     let E':Env:=⟨E.β,aU E.τ (Ai σ.hp) (some (.slice none 0 0)),E.O,E.κ,E.ζ,E.I⟩
     have hx:Ext E w E' w:=by
      refine⟨λ_ _ h=>h,λk v hk=>.inl ?_,λ_ _ h=>h,λ_ _ h=>h,λ_ _ h=>h,λ_ _ _=>rfl⟩;show aU E.τ (Ai σ.hp) (some (.slice none 0 0)) k=some v;unfold aU
      by_cases e:k=Ai σ.hp
      .subst e;rw[f2]at hk;cases hk
      .rw[QA e];exact hk
     have aC:hd<σ.hp.length:=by rw[Aj]at hh;exact (List.getElem?_eq_some_iff.1 hh).1
     have hk:=hs.st.heap hd;rw[Bv hh]at hk;obtain⟨b,C,k1,k2,k3,k4,k5,k7,k8⟩:=hk;refine⟨E',⟨⟨⟨aA.os,aA.tape,aA.output,aA.size,aA.dY,aA.I0,aA.dP,aA.cE,aA.cS,aA.cO.ext hx⟩,λk=>?_,λq=>?_,hs.st.size,hs.st.defers⟩,hs.len,⟨hs.wf.tg,hs.wf.gt,hs.wf.gf⟩,λk hk=>?_⟩⟩
     .have bD:=hs.st.heap k
      simp only[Aq,Aj,Av]at bD ⊢;rcases YZ k σ.hp.length with h|h|h
      .rw[QM (by simpa using h)]
       by_cases e:k=hd
       .subst e
        rw[ZH aC];simp only[XD];refine⟨b,C,k1,k2,k3,by rw[XN];exact k4,λi s' v a c=>?_,k7,k8⟩;rw[ZF]at a;rw[Aj]at cY
        split at a
        .rename_i yG
         split at a
         .cases a
          subst yG;have hr:=(k5 k0 _ v cY c).bF;rcases hr.bF with⟨e1,_,_⟩|⟨_,_,_,_,_,e1,_⟩
          .rw[e1]
           exact .cR ⟨none,0,0,rfl,rfl,by simp[BT.den]⟩ ⟨none,0,0,by simp[E',aU],by simp[ST.den],λ_=>⟨0,rfl,rfl⟩⟩
          .simp[BT.den]at e1
         .cases a
        .exact (k5 i s' v a c).mono hx
       .rw[XU (λh=>e h.symm)]
        exact bR.keep hx bD rfl (by simp[E',aU,Ag,YY h]) rfl rfl λb hO=>⟨hO,rfl,λ_ h=>h⟩
      .subst h
       rw[QP (by simp)];simp only[XN,UH,YS,XD];exact⟨none,0,0,0,[],by simp[E',aU,Ag],⟨by simp,.inl ⟨rfl,rfl⟩⟩,rfl,rfl,by simp,⟨by intro i hi;omega,by intro i j s u hi;omega⟩,λb hb=>by simp[Value.ownBlock]at hb⟩
      .rw[QY (by simp;omega)]
       rw[QY (by omega)]at bD;exact bR.keep hx bD rfl (by simp[E',aU,Ag,UX h]) rfl rfl λb hO=>⟨hO,rfl,λ_ h=>h⟩
     .have bE:=hs.st.slot q
      simp only[Bf]at bE ⊢;cases hg:Ax σ.fr q with
      |none=>trivial
      |some g =>
       rw[hg]at bE;simp only[QQ,Bn]at bE ⊢;exact⟨bE.1,λhc=>(bE.2.1 hc).mono hx,bE.2.2⟩
     .have:=hs.ge k hk
      simp only[QF,Av,XN];omega
    .cases h
   .cases h
  .cases h
 .cases h
theorem bS.fX{cx:Cx}{B:Bs}{N:Nat}{E:Env}{a:Act}{w:World}{σ aL:Sy}{s k0:Nat}(hD:cx.D=dn)(hs:bS B N E a w σ)(hp:Ns cx σ (.fX s k0))(h:ghost cx σ (.fX s k0)=some aL):∃E',bS B N E' a w aL:=by
 simp only[ghost]at h;simp only[Ns]at hp
 split at h
 .rename_i gt gf hb bK
  rw[bK]at hp;simp only at hp
  split at h
  .rename_i T cs tM
   rw[tM]at hp;simp only at hp
   split at h
   .rename_i nl n g0 hd cY
    rw[cY]at hp;simp only at hp
    split at h
    .rename_i ty n0 g1 sz f hh
     rw[hh]at hp;simp only at hp;cases h;rw[hD]at hp;have hp:n.den=n0.den/\g0.den=g1.den:=⟨hp.1.h,hp.2.h⟩;have aA:=hs.st.base;have bA:hb≠hd:=by rintro rfl;rw[tM]at hh;cases hh
     have hk:=hs.st.heap hd;rw[Bv hh]at hk;obtain⟨a0,c0,m,G,xs,k1,k2,k3,kg,k4,k5,k6⟩:=hk;obtain⟨v,hv⟩:∃v,v=Value.slice a0 m c0:=⟨_,rfl⟩;rw[<-hv]at k2 k6
     let E':Env:=⟨E.β,E.τ,E.O,E.κ,E.ζ,λb o=>E.I b o\/(v.ownBlock=some b/\o<m * sz)⟩
     have hx:Ext E w E' w:=⟨λ_ _ h=>h,λ_ _ h=>.inl h,λ_ _ h=>h,λ_ _ h=>h,λ_ _ h=>.inl h,λ_ _ _=>rfl⟩;have JA:hb<σ.hp.length:=by rw[Aj]at tM;exact (List.getElem?_eq_some_iff.1 tM).1
     have pY:hd<σ.hp.length:=by rw[Aj]at hh;exact (List.getElem?_eq_some_iff.1 hh).1
     have lR:=hs.st.heap hb;rw[Bv tM]at lR;obtain⟨b,C,q1,q2,q3,q4,q5,q6,q7⟩:=lR;refine⟨E',⟨⟨⟨aA.os,aA.tape,aA.output,aA.size,aA.dY,λb' o hi=>?_,λb' o hi=>?_,λb' o hi=>?_,aA.cS,aA.cO.ext hx⟩,λk=>?_,λq=>?_,hs.st.size,hs.st.defers⟩,hs.len,⟨hs.wf.tg,hs.wf.gt,hs.wf.gf⟩,λk hk=>?_⟩⟩
     .obtain⟨i1,i2⟩:=aA.I0 b' o hi;exact⟨.inl i1,i2⟩
     .rcases hi with hi|⟨hb,_⟩
      .exact aA.dP b' o hi
      .exact Bd aA (k6 b' hb).1
     .rcases hi with hi|⟨hb,_⟩
      .exact aA.cE b' o hi
      .exact .inr (aA.cS b' hd (k6 b' hb).1).2
     .simp only[Aq,Aj,Av]
      by_cases e:k=hd
      .subst e
       rw[ZH (by simpa using pY)]
       trivial
      .rw[XU (λh=>e h.symm)]
       by_cases e2:k=hb
       .subst e2
        rw[ZH JA];simp only[XD];refine⟨b,C,q1,q2,q3,by rw[XN];exact q4,λi s' u a c=>?_,q6,λo hi=>?_⟩
        .rw[ZF]at a
         rw[Aj]at cY
         split at a
         .rename_i yG
          split at a
          .cases a
           subst yG;obtain⟨hu,eQ⟩:=Mi (q5 k0 _ u cY c) k1 (by rw[<-hv];exact k2) (by rw[hp.1,k3]) kg hp.2;rw[<-hv]at hu eQ;exact .ro (Zi hu eQ k2 (by rw[hp.1,k3]) k4 k5)
          .cases a
         .exact (q5 i s' u a c).mono hx
        .rcases hi with hi|⟨bX,_⟩
         .exact q7 o hi
         .have:=(k6 b bX).1
          rw[q2]at this;exact e (Option.some.inj this)
       .rw[XU (λh=>e2 h.symm)]
        have bD:=hs.st.heap k;simp only[Aq,Aj]at bD;refine bR.keep hx bD rfl rfl rfl rfl λb' hO=>⟨hO,rfl,λo hi=>?_⟩;rcases hi with hi|⟨hb,_⟩
        .exact hi
        .rw[(k6 b' hb).1]at hO;exact absurd (Option.some.inj hO).symm e
     .have bE:=hs.st.slot q
      simp only[Bf]at bE ⊢;cases hg:Ax σ.fr q with
      |none=>trivial
      |some g =>
       rw[hg]at bE;simp only[QQ,Bn]at bE ⊢;exact⟨bE.1,λhc=>(bE.2.1 hc).mono hx,bE.2.2⟩
     .simp only[Av,XN]
      exact hs.ge k hk
    .cases h
   .cases h
  .cases h
 .cases h
theorem RO.row{I:Nat->Nat->Prop}{w:World}{n:ST}(h:RO I w (.sl nl n sz f) v)(e:∀i:Nat,(i:Int)<n.den->f2 i=f i):RO I w (.sl nl n sz f2) v:=by
 generalize hs:SV.sl nl n sz f=s at h
 cases h with
 |slnil h hn=>cases hs;exact .slnil h hn
 |sl g h hn hc fI cD hl h1 aP bG =>
  cases hs;exact .sl g h hn hc fI cD (λi hi=>by rw[e i (by rw[hn];exact Int.ofNat_lt.2 hi)];exact hl i hi) h1 aP (λi j s hi hf=>bG i j s hi (by rw[<-e i (by rw[hn];exact Int.ofNat_lt.2 hi)];exact hf))
 |_=>cases hs
theorem bS.iu{w:World}{n:ST}(hs:bS B N E a w σ)(h:Ak8 σ s=some (nl,n,sz,f))(he:uz n.den f2 f):
  bS B N E a w ⟨Ay σ.fr s (some ⟨[],none,none,.sl nl n sz f2⟩),σ.hp,σ.gm⟩:=by
 have key:∃g,Ax σ.fr s=some g/\g.tg=[]/\∀v,Rel E w g.v v->Rel E w (.sl nl n sz f2) v:=by
  unfold Ak8 at h
  split at h
  .rename_i gt gf dJ n' cH f' hg
   cases h;refine⟨_,hg,rfl,λv hv=>?_⟩;cases hv with
   |ro hr=>exact .ro (hr.row he.h)
  .rename_i gt gf dJ n' cH f' hd hg
   cases h;refine⟨_,hg,rfl,λv hv=>?_⟩;cases hv with
   |ro hr=>cases hr
   |dO hr ht=>exact .ro (hr.row he.h)
  .cases h
 obtain⟨g,bK,VV,bG⟩:=key;have aC:s<σ.fr.length:=by
  rcases ZK s σ.fr.length with h|h
  .exact h
  .rw[Eh,QY h]at bK;cases bK
 let g0:G:=⟨[],none,none,.sl nl n sz f2⟩
 have bM:∀k,Ax (Ay σ.fr s (some g0)) k=if k=s then some g0 else Ax σ.fr k:=λk=>by
  rw[B9]
  by_cases e:k=s
  .rw[QC ⟨e,aC⟩,QC e]
  .rw[QA (λh=>e h.1),QA e]
 refine⟨⟨hs.st.base,hs.st.heap,λq=>?_,hs.st.size,hs.st.defers⟩,by show (Ay σ.fr s _).length=N;rw[Av,XN];exact hs.len,⟨λq g hq i hi=>?_,λq g i hq hi=>?_,λq g i hq hi=>?_⟩,hs.ge⟩
 .have bE:=hs.st.slot q
  show Bn E w a q ((Ax (Ay σ.fr s (some g0)) q).map λg=>(Ac σ.gm g.tg,g.v));rw[bM];simp only[Bf]at bE
  by_cases e:q=s
  .subst e
   rw[QC rfl];rw[bK]at bE;simp only[QQ,Bn,VV,Ac,ZC,Bk,g0]at bE ⊢;exact⟨bE.1,λ_=>bG _ (bE.2.1 trivial),λh=>absurd trivial h⟩
  .rw[QA e]
   exact bE
 .have hq:Ax (Ay σ.fr s (some g0)) q=some g:=hq
  rw[bM]at hq
  split at hq
  .cases hq;cases hi
  .exact hs.wf.tg q g hq i hi
 .have hq:Ax (Ay σ.fr s (some g0)) q=some g:=hq
  rw[bM]at hq
  split at hq
  .cases hq;cases hi
  .exact hs.wf.gt q g i hq hi
 .have hq:Ax (Ay σ.fr s (some g0)) q=some g:=hq
  rw[bM]at hq
  split at hq
  .cases hq;cases hi
  .exact hs.wf.gf q g i hq hi
theorem bS.KJ{cx:Cx}{w:World}{n:Nat}{rows:List (List SV)}(hs:bS B N E a w σ)(h:Anm cx σ s=some (n,sz,rows,hd))(hf:Sj f rows):∃E',bS B N E' a w ⟨Ay σ.fr s (some ⟨[],none,none,.dR n sz f⟩),Ay σ.hp hd .gone,σ.gm⟩:=by
 unfold Anm at h
 split at h
 .rename_i gt gf h0 bK
  split at h
  .rename_i T cs hh
   split at h
   .split at h
    .split at h
     .rename_i hb
      simp only[Option.some.injEq,Prod.mk.injEq]at h;obtain⟨rfl,rfl,rfl,rfl⟩:=h;rename_i n e _ _ _ _ _ sz _;simp only[QE,QO,Ag]at hb;obtain⟨hlen,gP⟩:=hb;rw[C7]at gP;have aA:=hs.st.base;have hk:=hs.st.heap h0;rw[Bv hh]at hk;obtain⟨b,C,k1,k2,k3,k4,k5,k6,k7⟩:=hk;have aJ:∀i,i<n->f i=(cs.drop (i * sz)).take sz:=by
       intro i hi;have:(chunks sz n cs)[i]?=some (takeN sz (Db (i * sz) cs)):=Q1 n i cs hi;rw[hf.h i _ this,Ba,Bl]
      let E':Env:=⟨E.β,E.τ,E.O,E.κ,E.ζ,λb' o=>E.I b' o\/(b'=b/\o<C.size)⟩
      have hx:Ext E w E' w:=⟨λ_ _ h=>h,λ_ _ h=>.inl h,λ_ _ h=>h,λ_ _ h=>h,λ_ _ h=>.inl h,λ_ _ _=>rfl⟩;have aC:s<σ.fr.length:=by
       rcases ZK s σ.fr.length with h|h
       .exact h
       .rw[Eh,QY h]at bK;cases bK
      let g0:G:=⟨[],none,none,.dR n sz f⟩
      have bM:∀k,Ax (Ay σ.fr s (some g0)) k=if k=s then some g0 else Ax σ.fr k:=λk=>by
       rw[B9]
       by_cases e:k=s
       .rw[QC ⟨e,aC⟩,QC e]
       .rw[QA (λh=>e h.1),QA e]
      have eH:∀i j,i<n->j<sz->i * sz+j<C.size:=by
       intro i j hi hj;have:(i+1) * sz<=n * sz:=QR _ hi;rw[XM]at this;omega
      have hC:∀i j,i<n->j<sz->C[i * sz+j]?=some (C.getD (i * sz+j) undef):=by
       intro i j hi hj;have:=eH i j hi hj;rw[XI,ZR this];rfl
      have aP:∀o,w.cell? ⟨b,o,none⟩=C[o]?:=λo=>cell_of_row w b o C T (0,0) k3;have iF:RO E'.I w (.dR n sz f) (.pointer (some ⟨b,0,none⟩)):=by
       refine .dR (λi j=>C.getD (i * sz+j) undef) rfl (λi hi=>?_) (λi j hi hj=>k6 _ (YL (hC i j hi hj))) (λi j hi hj=>⟨?_,?_⟩) (λi j q hi hq=>?_)
       .rw[aJ i hi]
        have:(i+1) * sz<=n * sz:=QR _ hi;rw[XM]at this;simp;omega
       .simp only[XF];rw[aP,hC i j hi hj]
       .simp only[XF];exact .inr ⟨rfl,eH i j hi hj⟩
       .rw[aJ i hi,QN]at hq
        split at hq
        .rename_i hj
         rw[XG]at hq;have hv:=hC i j hi hj;exact ((k5 _ _ _ hq hv).fK (gP _ (QL hq)) (k6 _ (YL hv))).mono hx.I hx.cell
        .cases hq
      refine⟨E',⟨⟨⟨aA.os,aA.tape,aA.output,aA.size,aA.dY,λb' o hi=>?_,λb' o hi=>?_,λb' o hi=>?_,aA.cS,aA.cO.ext hx⟩,λk=>?_,λq=>?_,hs.st.size,hs.st.defers⟩,by show (Ay σ.fr s _).length=N;rw[Av,XN];exact hs.len,⟨λq g hq i hi=>?_,λq g i hq hi=>?_,λq g i hq hi=>?_⟩,λk hk=>?_⟩⟩
      .obtain⟨i1,i2⟩:=aA.I0 b' o hi;exact⟨.inl i1,i2⟩
      .rcases hi with hi|⟨rfl,_⟩
       .exact aA.dP b' o hi
       .exact Bd aA k2
      .rcases hi with hi|⟨rfl,_⟩
       .exact aA.cE b' o hi
       .exact .inr (aA.cS b' h0 k2).2
      .simp only[Aq,Aj,Av]
       by_cases e:k=h0
       .subst e
        rw[ZF];simp only[QC]
        split
        .trivial
        .have:k<σ.hp.length:=by rw[Aj]at hh;exact (List.getElem?_eq_some_iff.1 hh).1
         rename_i kE;exact absurd (by simpa using this) kE
       .rw[XU (λh=>e h.symm)]
        have bD:=hs.st.heap k;simp only[Aq,Aj]at bD;refine bR.keep hx bD rfl rfl rfl rfl λb' hO=>⟨hO,rfl,λo hi=>?_⟩;rcases hi with hi|⟨rfl,_⟩
        .exact hi
        .rw[k2]at hO;exact absurd (Option.some.inj hO).symm e
      .have bE:=hs.st.slot q
       show Bn E' w a q ((Ax (Ay σ.fr s (some g0)) q).map λg=>(Ac σ.gm g.tg,g.v));rw[bM];simp only[Bf]at bE
       by_cases e:q=s
       .subst e
        rw[QC rfl];rw[bK]at bE;simp only[QQ,Bn,Ac,ZC,Bk,g0]at bE ⊢;refine⟨bE.1,λ_=>?_,λh=>absurd trivial h⟩;obtain⟨b',e1,e2⟩:=(bE.2.1 trivial).dL;obtain rfl:b=b':=Option.some.inj (k1.symm.trans e1);rw[e2];exact .ro iF
       .rw[QA e]
        cases hg:Ax σ.fr q with
        |none=>trivial
        |some g =>
         rw[hg]at bE;simp only[QQ,Bn]at bE ⊢;exact⟨bE.1,λhc=>(bE.2.1 hc).mono hx,bE.2.2⟩
      .have hq:Ax (Ay σ.fr s (some g0)) q=some g:=hq
       rw[bM]at hq
       split at hq
       .cases hq;cases hi
       .exact hs.wf.tg q g hq i hi
      .have hq:Ax (Ay σ.fr s (some g0)) q=some g:=hq
       rw[bM]at hq
       split at hq
       .cases hq;cases hi
       .exact hs.wf.gt q g i hq hi
      .have hq:Ax (Ay σ.fr s (some g0)) q=some g:=hq
       rw[bM]at hq
       split at hq
       .cases hq;cases hi
       .exact hs.wf.gf q g i hq hi
      .simp only[Av,XN]
       exact hs.ge k hk
     .cases h
    .cases h
   .cases h
  .cases h
 .cases h
theorem bS.pL{w:World}{n:ST}(hs:bS B N E a w σ)(h:Za σ s=some (ty,n,sz,f,hd))(hf:Flat f n.den sz cs):bS B N E a w ⟨σ.fr,Ay σ.hp hd (.aF ty cs),σ.gm⟩:=by
 unfold Za at h
 split at h
 .rename_i gt gf h0 bK
  split at h
  .rename_i ty n sz f hh
   simp only[Option.some.injEq,Prod.mk.injEq]at h;obtain⟨rfl,rfl,rfl,rfl,rfl⟩:=h;have hk:=hs.st.heap h0;rw[Bv hh]at hk;obtain⟨b,C,m,k1,k2,k3,k4,k5,k6,k7,⟨r1,r2,r3,r4⟩,k9⟩:=hk;have hlen:cs.length=m * sz:=by
    have:=hf.len;rw[k6]at this
    exact_mod_cast this
   refine⟨⟨hs.st.base,λk=>?_,hs.st.slot,hs.st.size,hs.st.defers⟩,hs.len,⟨hs.wf.tg,hs.wf.gt,hs.wf.gf⟩,λk hk=>?_⟩
   .simp only[Aq,Aj,Av]
    by_cases e:k=h0
    .subst e
     have aC:k<σ.hp.length:=by rw[Aj]at hh;exact (List.getElem?_eq_some_iff.1 hh).1
     rw[ZF];simp only[QC,aC,XD];refine⟨b,C,k1,k4,k5,by rw[r1,hlen],λi s v p q=>?_,r4,k9⟩;have hi:i<m * sz:=by rw[<-hlen];exact (List.getElem?_eq_some_iff.1 p).1
     have bC:0<sz:=by
      rcases YO sz with h|h
      .rw[h]at hi;simp at hi
      .exact h
     have hq:i / sz<m:=by rw[UN bC];exact hi
     have hr:=YD i bC;have aJ:=hf.h (i / sz) (by rw[k6];exact_mod_cast hq);have e1:(f (i / sz))[i % sz]?=some s:=by
      rw[aJ,QN,QC hr,XG];have:i / sz * sz+i % sz=i:=by rw[UU];exact Nat.div_add_mod i sz
      rw[this];exact p
     have e2:C[i / sz * sz+i % sz]?=some v:=by
      have:i / sz * sz+i % sz=i:=by rw[UU];exact Nat.div_add_mod i sz
      rw[this];exact q
     exact .ro (r3 _ _ _ _ hq e1 e2)
    .rw[XU (λh=>e h.symm)]
     have bD:=hs.st.heap k;simp only[Aq,Aj]at bD;exact bD
   .simp only[Av,XN]
    exact hs.ge k hk
  .cases h
 .cases h
theorem bS.rm{w:World}{x:SV}(hs:bS B N E a w σ)(key:∃g,Ax σ.fr s=some g/\g.tg=[]/\∀v,Rel E w g.v v->Rel E w x v):
  bS B N E a w ⟨Ay σ.fr s (some ⟨[],none,none,x⟩),σ.hp,σ.gm⟩:=by
 obtain⟨g,bK,VV,bG⟩:=key;have aC:s<σ.fr.length:=by
  rcases ZK s σ.fr.length with h|h
  .exact h
  .rw[Eh,QY h]at bK;cases bK
 let g0:G:=⟨[],none,none,x⟩
 have bM:∀k,Ax (Ay σ.fr s (some g0)) k=if k=s then some g0 else Ax σ.fr k:=λk=>by
  rw[B9]
  by_cases e:k=s
  .rw[QC ⟨e,aC⟩,QC e]
  .rw[QA (λh=>e h.1),QA e]
 refine⟨⟨hs.st.base,hs.st.heap,λq=>?_,hs.st.size,hs.st.defers⟩,by show (Ay σ.fr s _).length=N;rw[Av,XN];exact hs.len,⟨λq g hq i hi=>?_,λq g i hq hi=>?_,λq g i hq hi=>?_⟩,hs.ge⟩
 .have bE:=hs.st.slot q
  show Bn E w a q ((Ax (Ay σ.fr s (some g0)) q).map λg=>(Ac σ.gm g.tg,g.v));rw[bM];simp only[Bf]at bE
  by_cases e:q=s
  .subst e
   rw[QC rfl];rw[bK]at bE;simp only[QQ,Bn,VV,Ac,ZC,Bk,g0]at bE ⊢;exact⟨bE.1,λ_=>bG _ (bE.2.1 trivial),λh=>absurd trivial h⟩
  .rw[QA e]
   exact bE
 .have hq:Ax (Ay σ.fr s (some g0)) q=some g:=hq
  rw[bM]at hq
  split at hq
  .cases hq;cases hi
  .exact hs.wf.tg q g hq i hi
 .have hq:Ax (Ay σ.fr s (some g0)) q=some g:=hq
  rw[bM]at hq
  split at hq
  .cases hq;cases hi
  .exact hs.wf.gt q g i hq hi
 .have hq:Ax (Ay σ.fr s (some g0)) q=some g:=hq
  rw[bM]at hq
  split at hq
  .cases hq;cases hi
  .exact hs.wf.gf q g i hq hi
theorem bS.yL{w:World}{c:BT}{b:Bool}(hs:bS B N E a w σ)(h:Agi σ s=some c)(hb:BIs c.den b):
  bS B N E a w ⟨Ay σ.fr s (some ⟨[],none,none,.bool (.l b)⟩),σ.hp,σ.gm⟩:=by
 refine hs.rm ?_;unfold Agi at h
 split at h
 .rename_i gt gf c' hg
  cases h;exact⟨_,hg,rfl,λv hv=>by rw[hv.bJ];exact .ro (.bool (by simp only[BT.den];exact hb.h.symm))⟩
 .cases h
theorem bS.bn{w:World}{k:IntKind}{c:ST}{n:Int}(hs:bS B N E a w σ)(h:Afu σ s=some (k,c))(hb:IIs c.den n):
  bS B N E a w ⟨Ay σ.fr s (some ⟨[],none,none,.int k (.l n)⟩),σ.hp,σ.gm⟩:=by
 refine hs.rm ?_;unfold Afu at h
 split at h
 .rename_i gt gf k' c' hg
  cases h;exact⟨_,hg,rfl,λv hv=>by rw[hv.aT];exact .ro (.int (by simp only[ST.den];exact hb.h.symm))⟩
 .cases h
theorem bS.pA{w:World}(hs:bS B N E a w σ)(hv:Aee σ s k0 h=some (hb,T,cs,e,g,sz,f))(hg:PV g' g.den):
  ∃E',bS B N E' a w ⟨σ.fr,Ay (Ay σ.hp hb (.aF T (Ay cs k0 (.cR (.l true) (.l 0) (.a g') h)))) h (.vec e (.l 0) (.a g') sz f),σ.gm⟩:=by
 unfold Aee at hv
 split at hv
 .rename_i gt gf oV bK
  split at hv
  .rename_i T' dI e' n0 g1 sz1 f1 tM hh
   split at hv
   .rename_i cH f' cY
    split at hv
    .cases hv
     have aA:=hs.st.base;have bA:hb≠h:=by rintro rfl;rw[tM]at hh;cases hh
     have hk:=hs.st.heap h;rw[Bv hh]at hk;obtain⟨a0,c0,m,G,xs,k1,k2,k3,kg,k4,k5,k6⟩:=hk;have hgG:g'=((G+1:Nat):Int):=by have:=hg.h;omega
     let E':Env:=⟨E.β,aU E.τ h (some (.slice none (G+1) 0)),E.O,E.κ,E.ζ,E.I⟩
     have hx:Ext E w E' w:=by
      refine⟨λ_ _ h=>h,λk v hk=>?_,λ_ _ h=>h,λ_ _ h=>h,λ_ _ h=>h,λ_ _ _=>rfl⟩;show aU E.τ h (some (.slice none (G+1) 0)) k=some v\/∃a m' c a' sK c',v=.slice a m' c/\aU E.τ h (some (.slice none (G+1) 0)) k=some (.slice a' sK c')/\m'<sK;unfold aU
      by_cases e:k=h
      .subst e
       rw[QC rfl];rw[k1]at hk;cases hk;exact .inr ⟨_,G,_,none,G+1,0,rfl,rfl,YP _⟩
      .rw[QA e];exact .inl hk
     have JA:hb<σ.hp.length:=by rw[Aj]at tM;exact (List.getElem?_eq_some_iff.1 tM).1
     have pY:h<σ.hp.length:=by rw[Aj]at hh;exact (List.getElem?_eq_some_iff.1 hh).1
     have lR:=hs.st.heap hb;rw[Bv tM]at lR;obtain⟨b,C,q1,q2,q3,q4,q5,q6,q7⟩:=lR;refine⟨E',⟨⟨⟨aA.os,aA.tape,aA.output,aA.size,aA.dY,aA.I0,aA.dP,aA.cE,aA.cS,aA.cO.ext hx⟩,λk=>?_,λq=>?_,hs.st.size,hs.st.defers⟩,hs.len,⟨hs.wf.tg,hs.wf.gt,hs.wf.gf⟩,λk hk=>?_⟩⟩
     .simp only[Aq,Aj,Av]
      by_cases e:k=h
      .subst e
       rw[ZH (by simpa using pY)];exact⟨none,0,0,G+1,[],by simp[E',aU],⟨by simp,.inl ⟨rfl,rfl⟩⟩,rfl,by simp only[ST.den];exact hgG,by simp,⟨by intro i hi;omega,by intro i j s u hi;omega⟩,λb hb=>by simp[Value.ownBlock]at hb⟩
      .rw[XU (λh=>e h.symm)]
       by_cases e2:k=hb
       .subst e2
        rw[ZH JA];simp only[XD];refine⟨b,C,q1,q2,q3,by rw[XN];exact q4,λi s' u a c=>?_,q6,q7⟩;rw[ZF]at a;rw[Aj]at cY
        split at a
        .rename_i yG
         split at a
         .cases a
          subst yG;have hr:=(q5 k0 _ u cY c).bF;rcases hr.bF with⟨e1,_,_⟩|⟨_,_,_,_,_,e1,_⟩
          .rw[e1]
           exact .cR ⟨none,0,0,rfl,rfl,by simp[BT.den]⟩ ⟨none,G+1,0,by simp[E',aU],by simp only[ST.den];omega,λ_=>⟨0,rfl,rfl⟩⟩
          .simp[BT.den]at e1
         .cases a
        .exact (q5 i s' u a c).mono hx
       .rw[XU (λh=>e2 h.symm)]
        have bD:=hs.st.heap k;simp only[Aq,Aj]at bD;exact bR.keep hx bD rfl (by simp[E',aU,e]) rfl rfl λb' hO=>⟨hO,rfl,λo hi=>hi⟩
     .have bE:=hs.st.slot q
      simp only[Bf]at bE ⊢;cases hg:Ax σ.fr q with
      |none=>trivial
      |some g =>
       rw[hg]at bE;simp only[QQ,Bn]at bE ⊢;exact⟨bE.1,λhc=>(bE.2.1 hc).mono hx,bE.2.2⟩
     .simp only[Av,XN]
      exact hs.ge k hk
    .cases hv
   .cases hv
  .cases hv
 .cases hv
theorem Cu.SH{w:World}(h:Cu w gr e sz v m xs):Cu w false e sz v m xs:=by
 refine⟨h.1,?_⟩;rcases h.2 with h|⟨g,cap,cur,fr,h1,h2,h3,h4⟩
 .exact .inl h
 .exact .inr ⟨g,cap,cur,fr,h1,h2,h3.imp (λh=>h) λh=>⟨rfl,h.2⟩,h4⟩
theorem bS.rM{w:World}{h2:Nat}{n:ST}(hs:bS B N E a w σ)(hv:Aef σ s k0 h=some (hb,T,cs,h2,nl,n,n0,e,g,sz,f))(gL:n.den=n0.den)(hg:PV g' g.den):
  ∃E',bS B N E' a w ⟨σ.fr,Ay (Ay (Ay σ.hp hb (.aF T (Ay cs k0 (.cR nl n (.a g') h)))) h (.vec e n0 (.a g') sz f)) h2 .gone,σ.gm⟩:=by
 unfold Aef at hv
 split at hv
 .rename_i gt gf oV bK
  split at hv
  .rename_i T' dI e' n1 g1 sz1 f1 tM hh
   split at hv
   .rename_i dJ n' h2' cY
    split at hv
    .rename_i e2 n2 yO gr f2 yH
     split at hv
     .rename_i hbe
      cases hv;simp only[QE,QO]at hbe;obtain⟨rfl,rfl⟩:=hbe;have aA:=hs.st.base;have bA:hb≠h:=by rintro rfl;rw[tM]at hh;cases hh
      have mT:h≠h2:=by rintro rfl;rw[hh]at yH;cases yH
      have aU7:hb≠h2:=by rintro rfl;rw[tM]at yH;cases yH
      have hk:=hs.st.heap h;rw[Bv hh]at hk;obtain⟨a0,c0,m0,G,xs0,j1,j2,j3,jg,j4,j5,j6⟩:=hk;have aY:=hs.st.heap h2;rw[Bv yH]at aY;obtain⟨v,m,xs,k1,kz,k2,k3,k4,k5,k6⟩:=aY;obtain⟨av,cv,hv⟩:=k2.shape;have hgG:g'=((G+1:Nat):Int):=by have:=hg.h;omega
      let E':Env:=⟨E.β,aU E.τ h (some (.slice av (G+1) cv)),λb=>if v.ownBlock=some b then some h else E.O b,E.κ,E.ζ,E.I⟩
      have hx:Ext E w E' w:=by
       refine⟨λ_ _ h=>h,λk v hk=>?_,λ_ _ h=>h,λ_ _ h=>h,λ_ _ h=>h,λ_ _ _=>rfl⟩;show aU E.τ h (some (.slice av (G+1) cv)) k=some v\/∃a m' c a' sK c',v=.slice a m' c/\aU E.τ h (some (.slice av (G+1) cv)) k=some (.slice a' sK c')/\m'<sK;unfold aU
       by_cases e:k=h
       .subst e
        rw[QC rfl];rw[j1]at hk;cases hk;exact .inr ⟨_,G,_,av,G+1,cv,rfl,rfl,YP _⟩
       .rw[QA e];exact .inl hk
      have JA:hb<σ.hp.length:=by rw[Aj]at tM;exact (List.getElem?_eq_some_iff.1 tM).1
      have pY:h<σ.hp.length:=by rw[Aj]at hh;exact (List.getElem?_eq_some_iff.1 hh).1
      have iU:h2<σ.hp.length:=by rw[Aj]at yH;exact (List.getElem?_eq_some_iff.1 yH).1
      have lR:=hs.st.heap hb;rw[Bv tM]at lR;obtain⟨b,C,q1,q2,q3,q4,q5,q6,q7⟩:=lR;have KA:∀b' k,E.O b'=some k->k≠h2->E'.O b'=some k:=by
       intro b' k hO hk;show (if v.ownBlock=some b' then some h else E.O b')=some k;rw[QA]
       .exact hO
       .intro bX
        have:=(k6 b' bX).1;rw[hO]at this;exact hk (Option.some.inj this)
      refine⟨E',⟨⟨⟨aA.os,aA.tape,aA.output,aA.size,aA.dY,aA.I0,aA.dP,aA.cE,λb' k hO=>?_,aA.cO.ext hx⟩,λk=>?_,λq=>?_,hs.st.size,hs.st.defers⟩,hs.len,⟨hs.wf.tg,hs.wf.gt,hs.wf.gf⟩,λk hk=>?_⟩⟩
      .have hO:(if v.ownBlock=some b' then some h else E.O b')=some k:=hO
       split at hO
       .rename_i bX
        exact aA.cS b' h2 (k6 b' bX).1
       .exact aA.cS b' k hO
      .simp only[Aq,Aj,Av]
       by_cases e3:k=h2
       .subst e3
        rw[ZH (by simpa using iU)]
        trivial
       rw[XU (λh=>e3 h.symm)]
       by_cases e:k=h
       .subst e
        rw[ZH (by simpa using pY)];subst hv;exact⟨av,cv,m,G+1,xs,by simp[E',aU],k2.SH,k3,by simp only[ST.den];exact hgG,k4,k5,λb' oV=>⟨by show (if _ then _ else _)=_;rw[QC oV],(k6 b' oV).2⟩⟩
       .rw[XU (λh=>e h.symm)]
        by_cases e2:k=hb
        .subst e2
         rw[ZH JA];simp only[XD];refine⟨b,C,q1,KA _ _ q2 e3,q3,by rw[XN];exact q4,λi s' u a c=>?_,q6,q7⟩;rw[ZF]at a;rw[Aj]at cY
         split at a
         .rename_i yG
          split at a
          .cases a
           subst yG;obtain⟨hu,eQ⟩:=Gs (q5 k0 _ u cY c) k1 k2 k3 gL;rw[hu,hv];refine .cR ⟨av,m,cv,rfl,by rw[gL,k3],?_⟩ ⟨av,G+1,cv,by simp[E',aU],by simp only[ST.den];omega,λ_=>⟨m,by rw[gL,k3],rfl⟩⟩;rw[eQ,hv];constructor
           .intro h;simp only[Value.slice.injEq]at h;exact h.1
           .rintro rfl
            rcases k2.2 with⟨h1,_⟩|⟨g,cap,cur,fr,h1,_⟩
            .rw[<-hv];exact h1
            .rw[hv]at h1;simp at h1
          .cases a
         .exact (q5 i s' u a c).mono hx
        .rw[XU (λh=>e2 h.symm)]
         have bD:=hs.st.heap k;simp only[Aq,Aj]at bD;exact bR.keep hx bD rfl (by simp[E',aU,e]) rfl rfl λb' hO=>⟨KA _ _ hO e3,rfl,λo hi=>hi⟩
      .have bE:=hs.st.slot q
       simp only[Bf]at bE ⊢;cases hg:Ax σ.fr q with
       |none=>trivial
       |some g =>
        rw[hg]at bE;simp only[QQ,Bn]at bE ⊢;exact⟨bE.1,λhc=>(bE.2.1 hc).mono hx,bE.2.2⟩
      .simp only[Av,XN]
       exact hs.ge k hk
     .cases hv
    .cases hv
   .cases hv
  .cases hv
 .cases hv
theorem bS.aV{cx:Cx}(hD:cx.D=dn){B:Bs}{N:Nat}{a:Act}{w:World}{K:Sy->Prop}:∀(l:List Gh) {E:Env} {σ:Sy},bS B N E a w σ->Sx.aV cx l σ K->∃E' aL,bS B N E' a w aL/\K aL
 | [],E,σ,hs,h=>⟨E,σ,hs,h⟩
 |g :: l,E,σ,hs,h=>by
  cases g with
  |iu s =>
   simp only[Sx.aV]at h
   split at h
   .rename_i nl n sz f ht
    obtain⟨f2,he,h⟩:=h;rw[hD]at he;exact bS.aV hD l (hs.iu ht he) h
   .exact h.elim
  |yL s =>
   simp only[Sx.aV]at h
   split at h
   .rename_i c ht
    obtain⟨b,hb,h⟩:=h;rw[hD]at hb;exact bS.aV hD l (hs.yL ht hb) h
   .exact h.elim
  |bn s =>
   simp only[Sx.aV]at h
   split at h
   .rename_i k c ht
    obtain⟨n,hn,h⟩:=h;rw[hD]at hn;exact bS.aV hD l (hs.bn ht hn) h
   .exact h.elim
  |pA s k h0 =>
   simp only[Sx.aV]at h
   split at h
   .rename_i hb T cs e g sz f ht
    rw[hD]at h;obtain⟨E1,cC⟩:=hs.pA ht (g':=g.den+1) ⟨rfl⟩;exact bS.aV hD l cC (h _ ⟨rfl⟩)
   .exact h.elim
  |rM s k h0 =>
   simp only[Sx.aV]at h
   split at h
   .rename_i hb T cs h2 nl n n0 e g sz f ht
    rw[hD]at h;obtain⟨hq,h⟩:=h;obtain⟨E1,cC⟩:=hs.rM ht hq.h (g':=g.den+1) ⟨rfl⟩;exact bS.aV hD l cC (h _ ⟨rfl⟩)
   .exact h.elim
  |pL s =>
   simp only[Sx.aV]at h
   split at h
   .rename_i ty n sz f h0 ht
    obtain⟨cs,hf,h⟩:=h;rw[hD]at hf;exact bS.aV hD l (hs.pL ht hf) h
   .exact h.elim
  |KJ s =>
   simp only[Sx.aV]at h
   split at h
   .rename_i n sz rows h0 ht
    obtain⟨f,hf,h⟩:=h;obtain⟨E1,cC⟩:=hs.KJ ht hf;exact bS.aV hD l cC h
   .exact h.elim
  |freeze s =>
   simp only[Sx.aV]at h;obtain⟨hp,h⟩:=h
   split at h
   .rename_i dQ h1
    obtain⟨E1,cC⟩:=hs.freeze h1;exact bS.aV hD l cC h
   .exact h.elim
  |attach s e =>
   simp only[Sx.aV]at h;obtain⟨hp,h⟩:=h
   split at h
   .rename_i dQ h1
    obtain⟨E1,cC⟩:=hs.attach h1;exact bS.aV hD l cC h
   .exact h.elim
  |hold s k e =>
   simp only[Sx.aV]at h;obtain⟨hp,h⟩:=h
   split at h
   .rename_i dQ h1
    obtain⟨E1,cC⟩:=hs.hold h1;exact bS.aV hD l cC h
   .exact h.elim
  |own s e =>
   simp only[Sx.aV]at h;obtain⟨hp,h⟩:=h
   split at h
   .rename_i dQ h1
    obtain⟨E1,cC⟩:=hs.own h1;exact bS.aV hD l cC h
   .exact h.elim
  |share s =>
   simp only[Sx.aV]at h;obtain⟨hp,h⟩:=h
   split at h
   .rename_i dQ h1
    obtain⟨E1,cC⟩:=hs.share hD hp h1;exact bS.aV hD l cC h
   .exact h.elim
  |nC s e =>
   simp only[Sx.aV]at h;obtain⟨hp,h⟩:=h
   split at h
   .rename_i dQ h1
    obtain⟨E1,cC⟩:=hs.nC h1;exact bS.aV hD l cC h
   .exact h.elim
  |vec s e =>
   simp only[Sx.aV]at h;obtain⟨hp,h⟩:=h
   split at h
   .rename_i dQ h1
    obtain⟨E1,cC⟩:=hs.vec h1;exact bS.aV hD l cC h
   .exact h.elim
  |rN s k e =>
   simp only[Sx.aV]at h;obtain⟨hp,h⟩:=h
   split at h
   .rename_i dQ h1
    obtain⟨E1,cC⟩:=hs.rN h1;exact bS.aV hD l cC h
   .exact h.elim
  |jT s =>
   simp only[Sx.aV]at h;obtain⟨hp,h⟩:=h
   split at h
   .rename_i dQ h1
    obtain⟨E1,cC⟩:=bS.jT hD hs hp h1;exact bS.aV hD l cC h
   .exact h.elim
  |fX s k =>
   simp only[Sx.aV]at h;obtain⟨hp,h⟩:=h
   split at h
   .rename_i dQ h1
    obtain⟨E1,cC⟩:=bS.fX hD hs hp h1;exact bS.aV hD l cC h
   .exact h.elim
theorem bS.gI{cx:Cx}(hD:cx.D=dn){B:Bs}{N:Nat}{E:Env}{a:Act}{w:World}{id:Nat}{σ:Sy}{K:Sy->Prop}(hs:bS B N E a w σ)(h:Sx.gI cx id σ K):∃E' aL,bS B N E' a w aL/\K aL:=by
 unfold Sx.gI at h
 split at h
 .exact⟨E,σ,hs,h⟩
 .exact hs.aV hD _ h
end Go.Sx
