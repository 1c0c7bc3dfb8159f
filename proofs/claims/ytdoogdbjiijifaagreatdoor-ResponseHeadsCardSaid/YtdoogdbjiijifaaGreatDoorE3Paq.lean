/- Part of the proofs of the statements about responses and messages (layers 9 and 10): a symbolic executor over the code, that it is sound, and contracts of functions; it has no conditions of its own. -/
import Derived.Test.YtdoogdbjiijifaaGreatDoorE3Pap
namespace Go.Sx
open Go
theorem Hg(h:Nat)(x:SV):∀(cs:List SV),thaw.thawL h x cs=cs.map (thaw h x)
 | []=>rfl
 |c :: cs=>by simp[thaw.thawL,Hg h x cs]
theorem RO.thaw{I:Nat->Nat->Prop}{w:World}{h:Nat}{x s:SV}{v:Value}(hr:RO I w s v):RO I w (thaw h x s) v:=by
 induction hr with
 |int h=>exact .int h
 |bool h=>exact .bool h
 |str h=>exact .str h
 |nilp=>exact .nilp
 |raw h=>exact .raw h
 |fn h=>exact .fn h
 |ifc h=>exact .ifc h
 |slnil h hn=>exact .slnil h hn
 |sl g h hn hc hcm hs hl h1 hcell hrel=>exact .sl g h hn hc hcm hs hl h1 hcell hrel
 |rptr g hs h1 hcell hrel=>exact .rptr g hs h1 hcell hrel
 |rarr g hs hl h1 hcell hrel=>exact .rarr g hs hl h1 hcell hrel
 |agg hl _ ih =>
  simp only[Sx.thaw,Hg];refine .agg (by simpa using hl) λi s v a b=>?_;rw[List.getElem?_map]at a;obtain⟨s0,h0,rfl⟩:=Option.map_eq_some_iff.1 a;exact ih i s0 v h0 b
theorem Rel.thaw{E E':Env}{w:World}{h:Nat}{x s:SV}{v:Value}(hx:Ext E w E' w)(hm:∀v,Rel E w (.mrow h) v->Rel E' w x v)(hr:Rel E w s v):Rel E' w (thaw h x s) v:=by
 induction hr with
 |ro h=>exact .ro (h.mono hx.I hx.cell).thaw
 |ptr hb hv=>exact Rel.mono hx (.ptr hb hv)
 |gsl hr ht=>exact Rel.mono hx (.gsl hr ht)
 |mrow hb hk hv =>
  simp only[Sx.thaw]
  split
  ·rename_i e
   have e:=beq_iff_eq.1 e;subst e;exact hm _ (.mrow hb hk hv)
  ·exact Rel.mono hx (.mrow hb hk hv)
 |mptr hb hz hv=>exact Rel.mono hx (.mptr hb hz hv)
 |osl ht hk=>exact Rel.mono hx (.osl ht hk)
 |optr hv ho=>exact Rel.mono hx (.optr hv ho)
 |mapv hb hv=>exact Rel.mono hx (.mapv hb hv)
 |bsl hb hn hv=>exact Rel.mono hx (.bsl hb hn hv)
 |yv hb hv=>exact Rel.mono hx (.yv hb hv)
 |vsl ht hk=>exact Rel.mono hx (.vsl ht hk)
 |tsl ht hk=>exact Rel.mono hx (.tsl ht hk)
 |agg hl _ ih =>
  simp only[Sx.thaw,Hg];refine .agg (by simpa using hl) λi s v a b=>?_;rw[List.getElem?_map]at a;obtain⟨s0,h0,rfl⟩:=Option.map_eq_some_iff.1 a;exact ih i s0 v h0 b
 |tup hl _ ih =>
  simp only[Sx.thaw,Hg];refine .tup (by simpa using hl) λi s v a b=>?_;rw[List.getElem?_map]at a;obtain⟨s0,h0,rfl⟩:=Option.map_eq_some_iff.1 a;exact ih i s0 v h0 b
 |clo hl _ ih =>
  simp only[Sx.thaw,Hg];refine .clo (by simpa using hl) λi s v a b=>?_;rw[List.getElem?_map]at a;obtain⟨s0,h0,rfl⟩:=Option.map_eq_some_iff.1 a;exact ih i s0 v h0 b
 |bnd hl _ ih =>
  simp only[Sx.thaw,Hg];refine .bnd (by simpa using hl) λi s v a b=>?_;rw[List.getElem?_map]at a;obtain⟨s0,h0,rfl⟩:=Option.map_eq_some_iff.1 a;exact ih i s0 v h0 b
theorem Ew(h:Nat)(x:SV):∀(fr:List (Option G)) (s:Nat),Au (E8 h x fr) s=(Au fr s).map λg=>⟨g.tg,g.gt,g.gf,thaw h x g.v⟩
 | [],s=>by simp[E8,Au]
 |some g :: fr,0=>rfl
 |none :: fr,0=>rfl
 |some g :: fr,s+1=>by simp only[E8,Au];exact Ew h x fr s
 |none :: fr,s+1=>by simp only[E8,Au];exact Ew h x fr s
theorem M4(h:Nat)(x:SV):∀(fr:List (Option G)),(E8 h x fr).length=fr.length
 | []=>rfl
 |some g :: fr=>by simp[E8,M4 h x fr]
 |none :: fr=>by simp[E8,M4 h x fr]
def Ajr(h:Nat)(x:SV):Hl->Hl
 |.blk ty cs=>.blk ty (cs.map (thaw h x))
 |l=>l
theorem Su(h:Nat)(x:SV):∀(hp:List Hl),Zv h x hp=hp.map (Ajr h x)
 | []=>rfl
 |l :: hp=>by cases l<;>simp[Zv,Ajr,Hg,Su h x hp]
theorem StY.freeze{cx:Cx}{B:Bs}{N:Nat}{E:Env}{a:Act}{w:World}{σ σ':Sy}{s:Nat}(hs:StY B N E a w σ)(h:Ej cx σ (.freeze s)=some σ'):∃E',StY B N E' a w σ':=by
 simp only[Ej]at h
 split at h
 ·rename_i gt gf hd hslot
  split at h
  ·rename_i ty n sz f hh
   cases h;have hk:=hs.st.heap hd;rw[Bv hh]at hk;obtain⟨b,C,m,k1,k2,k3,k4,k5,k6,k7,⟨r1,r2,r3,r4⟩,k9⟩:=hk;have hbase:=hs.st.base
   let E':Env:=⟨E.β,E.τ,E.O,E.κ,E.ζ,λb' o=>E.I b' o\/(b'=b/\o<m * sz)⟩
   have hx:Ext E w E' w:=⟨λ_ _ h=>h,λ_ _ h=>.inl h,λ_ _ h=>h,λ_ _ h=>h,λ_ _ h=>.inl h,λ_ _ _=>rfl⟩;have hcell:∀o,w.cell? ⟨b,o,none⟩=C[o]?:=λo=>cell_of_row w b o C ty (0,0) k5;have hm:∀v,Rel E w (.mrow hd) v->Rel E' w (.sl (.l false) n sz f) v:=by
    intro v hv;obtain⟨b',m',e1,e2,rfl⟩:=hv.mrow_inv;obtain rfl:b=b':=Option.some.inj (k1.symm.trans e1);obtain rfl:m=m':=Option.some.inj (k2.symm.trans e2);have hidx:∀i j,i<m->j<sz->i * sz+j<m * sz:=by
     intro i j hi hj;have:(i+1) * sz<=m * sz:=Nat.mul_le_mul_right _ hi;rw[Nat.add_mul]at this;omega
    have hC:∀i j,i<m->j<sz->C[i * sz+j]?=some (C.getD (i * sz+j) undef):=by
     intro i j hi hj;have:=hidx i j hi hj;rw[<-r1]at this;rw[Array.getD_eq_getD_getElem?,Array.getElem?_eq_getElem this];rfl
    refine .ro (.sl (λi j=>C.getD (i * sz+j) undef) rfl k6 (Nat.le_refl _) k7 (λ_=>rfl) r2 (λi j hi hj=>r4 _ (Array.mem_of_getElem? (hC i j hi hj))) (λi j hi hj=>⟨?_,?_⟩) (λi j s hi hs=>?_))
    ·simp only[Nat.zero_add];rw[hcell,hC i j hi hj]
    ·simp only[Nat.zero_add];exact .inr ⟨rfl,hidx i j hi hj⟩
    ·have hj:j<sz:=by rw[<-r2 i hi];exact (List.getElem?_eq_some_iff.1 hs).1
     exact (r3 i j s _ hi hs (hC i j hi hj)).mono hx.I hx.cell
   refine⟨E',⟨⟨⟨hbase.os,hbase.tape,hbase.output,hbase.size,hbase.old,λb' o hi=>?_,λb' o hi=>?_,λb' o hi=>?_,hbase.Obd,hbase.β0.ext hx⟩,λk=>?_,λq=>?_,hs.st.size,hs.st.defers⟩,by show (E8 _ _ _).length=N;rw[M4];exact hs.len,⟨λq g hq i hi=>?_,λq g i hq hi=>?_,λq g i hq hi=>?_⟩,λk hk=>?_⟩⟩
   ·obtain⟨i1,i2⟩:=hbase.I0 b' o hi;exact⟨.inl i1,i2⟩
   ·rcases hi with hi|⟨rfl,_⟩
    ·exact hbase.Ibd b' o hi
    ·exact A5 hbase k4
   ·rcases hi with hi|⟨rfl,_⟩
    ·exact hbase.Inew b' o hi
    ·exact .inr (hbase.Obd b' hd k4).2
   ·simp only[Aq,Ag,As,Su]
    by_cases e:k=hd
    ·subst e
     rw[List.getElem?_set];simp only[if_pos]
     split
     ·trivial
     ·have:k<σ.hp.length:=by rw[Ag]at hh;exact (List.getElem?_eq_some_iff.1 hh).1
      rename_i hno;exact absurd (by simpa using this) hno
    ·rw[List.getElem?_set_ne (λh=>e h.symm),List.getElem?_map]
     have hkk:=hs.st.heap k;simp only[Aq,Ag]at hkk;have hO:∀b',E.O b'=some k->E'.O b'=some k/\w.heap[b']?=w.heap[b']?/\∀o,E'.I b' o->E.I b' o:=by
      intro b' hO;refine⟨hO,rfl,λo hi=>?_⟩;rcases hi with hi|⟨rfl,_⟩
      ·exact hi
      ·rw[k4]at hO;exact absurd (Option.some.inj hO).symm e
     cases hl:σ.hp[k]? with
     |none =>
      rw[hl]at hkk;exact HOk.keep hx hkk rfl rfl rfl rfl hO
     |some l =>
      rw[hl]at hkk;simp only[Option.map_some,Option.getD_some]at hkk ⊢;cases l with
      |blk ty' cs =>
       obtain⟨b',C',q1,q2,q3,q4,q5,q6⟩:=hkk.blk_inv;have hn:A2 E' w (cs.map (thaw hd (.sl (.l false) n sz f))) C'.toList:=q4.map _ λs v _ h=>h.thaw hx hm;exact⟨b',C',q1,q2,q3,by have:=hn.1;simpa using this.symm,λi s v p q=>hn.2 i s v p (by simpa using q),λv hv=>q5 v (by simpa using hv),λo hi=>q6 o ((hO b' q2).2.2 o hi)⟩
      |_=>exact HOk.keep hx hkk rfl rfl rfl rfl hO
   ·simp only[Ba,Ew]
    have hsl:=hs.st.slot q;simp only[Ba]at hsl;cases hg:Au σ.fr q with
    |none=>trivial
    |some g =>
     rw[hg]at hsl;simp only[Option.map_some,Bk]at hsl ⊢;exact⟨hsl.1,λhc=>(hsl.2.1 hc).thaw hx hm,hsl.2.2⟩
   ·have hq:Au (E8 hd (.sl (.l false) n sz f) σ.fr) q=some g:=hq
    rw[Ew]at hq;obtain⟨g0,h0,rfl⟩:=Option.map_eq_some_iff.1 hq;exact hs.wf.tg q g0 h0 i hi
   ·have hq:Au (E8 hd (.sl (.l false) n sz f) σ.fr) q=some g:=hq
    rw[Ew]at hq;obtain⟨g0,h0,rfl⟩:=Option.map_eq_some_iff.1 hq;obtain⟨c,c1,c2⟩:=hs.wf.gt q g0 i h0 hi;exact⟨c,by simp only[c1];rfl,c2⟩
   ·have hq:Au (E8 hd (.sl (.l false) n sz f) σ.fr) q=some g:=hq
    rw[Ew]at hq;obtain⟨g0,h0,rfl⟩:=Option.map_eq_some_iff.1 hq;obtain⟨c,c1,c2⟩:=hs.wf.gf q g0 i h0 hi;exact⟨c,by simp only[c1];rfl,c2⟩
   ·simp only[As,Su,List.length_set,List.length_map]
    exact hs.ge k hk
  ·cases h
 ·cases h
theorem StY.attach{cx:Cx}{B:Bs}{N:Nat}{E:Env}{a:Act}{w:World}{σ σ':Sy}{s:Nat}{e:TypeId}(hs:StY B N E a w σ)(h:Ej cx σ (.attach s e)=some σ'):∃E',StY B N E' a w σ':=by
 simp only[Ej]at h
 split at h
 ·rename_i gt gf sz f hslot
  split at h
  ·split at h
   ·cases h
    have hbase:=hs.st.base;have hfr:HOk E w (Af σ.hp) .fresh:=by
     have:=hs.st.heap (Af σ.hp);simpa only[Aq,Ag,Ae,List.getElem?_eq_none (Nat.le_refl _),Option.getD_none] using this
    obtain⟨f1,f2,f3,f4⟩:=hfr
    let E':Env:=⟨E.β,upd E.τ (Af σ.hp) (some (.slice none 0 0)),E.O,E.κ,E.ζ,E.I⟩
    have hx:Ext E w E' w:=by
     refine⟨λ_ _ h=>h,λk v hk=>.inl ?_,λ_ _ h=>h,λ_ _ h=>h,λ_ _ h=>h,λ_ _ _=>rfl⟩;show upd E.τ (Af σ.hp) (some (.slice none 0 0)) k=some v;unfold upd
     by_cases e:k=Af σ.hp
     ·subst e;rw[f2]at hk;cases hk
     ·rw[if_neg e];exact hk
    have hlt:s<σ.fr.length:=by
     rcases Nat.lt_or_ge s σ.fr.length with h|h
     ·exact h
     ·rw[Dz,List.getElem?_eq_none h]at hslot;cases hslot
    let g0:G:=⟨[],none,none,.gsl (.l true) (.l 0) sz f (Af σ.hp)⟩
    have hget:∀k,Au (Ax σ.fr s (some g0)) k=if k=s then some g0 else Au σ.fr k:=λk=>by
     rw[B7]
     by_cases e:k=s
     ·rw[if_pos ⟨e,hlt⟩,if_pos e]
     ·rw[if_neg (λh=>e h.1),if_neg e]
    refine⟨E',⟨⟨⟨hbase.os,hbase.tape,hbase.output,hbase.size,hbase.old,hbase.I0,hbase.Ibd,hbase.Inew,hbase.Obd,hbase.β0.ext hx⟩,λk=>?_,λq=>?_,hs.st.size,hs.st.defers⟩,by show (Ax σ.fr s _).length=N;rw[As,List.length_set];exact hs.len,⟨λq g hq i hi=>?_,λq g i hq hi=>?_,λq g i hq hi=>?_⟩,λk hk=>?_⟩⟩
    ·have hkk:=hs.st.heap k
     simp only[Aq,Ag]at hkk ⊢;rcases Nat.lt_trichotomy k σ.hp.length with h|h|h
     ·rw[List.getElem?_append_left h]
      exact HOk.keep hx hkk rfl (by simp[E',upd,Ae,Nat.ne_of_lt h]) rfl rfl λb hO=>⟨hO,rfl,λ_ h=>h⟩
     ·subst h
      rw[List.getElem?_append_right (Nat.le_refl _)];simp only[Nat.sub_self,List.getElem?_cons_zero,Option.getD_some];exact⟨.slice none 0 0,0,[],by simp[E',upd,Ae],World.ownsRow_nil w 0 _ sz,rfl,by simp,λb hb=>by simp[Value.ownBlock]at hb⟩
     ·rw[List.getElem?_eq_none (by simp;omega)]
      rw[List.getElem?_eq_none (by omega)]at hkk;exact HOk.keep hx hkk rfl (by simp[E',upd,Ae,Nat.ne_of_gt h]) rfl rfl λb hO=>⟨hO,rfl,λ_ h=>h⟩
    ·have hsl:=hs.st.slot q
     show Bk E' w a q ((Au (Ax σ.fr s (some g0)) q).map λg=>(Ac σ.gm g.tg,g.v));rw[hget];simp only[Ba]at hsl
     by_cases e:q=s
     ·subst e
      rw[if_pos rfl];rw[hslot]at hsl;simp only[Option.map_some,Bk,Ac,List.filterMap_nil,Bh,g0]at hsl ⊢;refine⟨hsl.1,λ_=>?_,λh=>absurd trivial h⟩;have hr:=(hsl.2.1 trivial).sl_inv;have hr':=hr.mono hx.I hx.cell;rcases hr.sl_inv with⟨e1,_,_⟩|⟨_,_,_,_,_,e1,_⟩
      ·rw[e1]at hr' ⊢
       exact .gsl hr' ⟨none,0,0,by simp[E',upd],by simp[ST.den],λ_=>rfl⟩
      ·simp[BT.den]at e1
     ·rw[if_neg e]
      cases hg:Au σ.fr q with
      |none=>trivial
      |some g =>
       rw[hg]at hsl;simp only[Option.map_some,Bk]at hsl ⊢;exact⟨hsl.1,λhc=>(hsl.2.1 hc).mono hx,hsl.2.2⟩
    ·have hq:Au (Ax σ.fr s (some g0)) q=some g:=hq
     rw[hget]at hq
     split at hq
     ·cases hq;cases hi
     ·exact hs.wf.tg q g hq i hi
    ·have hq:Au (Ax σ.fr s (some g0)) q=some g:=hq
     rw[hget]at hq
     split at hq
     ·cases hq;cases hi
     ·exact hs.wf.gt q g i hq hi
    ·have hq:Au (Ax σ.fr s (some g0)) q=some g:=hq
     rw[hget]at hq
     split at hq
     ·cases hq;cases hi
     ·exact hs.wf.gf q g i hq hi
    ·have:=hs.ge k hk
     simp only[List.length_append];omega
   ·cases h
  ·cases h
 ·cases h
theorem StY.own{cx:Cx}{B:Bs}{N:Nat}{E:Env}{a:Act}{w:World}{σ σ':Sy}{s:Nat}{e:TypeId}(hs:StY B N E a w σ)(h:Ej cx σ (.own s e)=some σ'):∃E',StY B N E' a w σ':=by
 simp only[Ej]at h
 split at h
 ·rename_i gt gf sz f hslot
  split at h
  ·split at h
   ·cases h
    have hbase:=hs.st.base;have hfr:HOk E w (Af σ.hp) .fresh:=by
     have:=hs.st.heap (Af σ.hp);simpa only[Aq,Ag,Ae,List.getElem?_eq_none (Nat.le_refl _),Option.getD_none] using this
    obtain⟨f1,f2,f3,f4⟩:=hfr
    let E':Env:=⟨E.β,upd E.τ (Af σ.hp) (some (.slice none 0 0)),E.O,E.κ,upd E.ζ (Af σ.hp) (some sz),E.I⟩
    have hx:Ext E w E' w:=by
     refine⟨λ_ _ h=>h,λk v hk=>.inl ?_,λ_ _ h=>h,λk z hk=>?_,λ_ _ h=>h,λ_ _ _=>rfl⟩
     ·show upd E.τ (Af σ.hp) (some (.slice none 0 0)) k=some v
      unfold upd
      by_cases e:k=Af σ.hp
      ·subst e;rw[f2]at hk;cases hk
      ·rw[if_neg e];exact hk
     ·show upd E.ζ (Af σ.hp) (some sz) k=some z
      unfold upd
      by_cases e:k=Af σ.hp
      ·subst e;rw[f4]at hk;cases hk
      ·rw[if_neg e];exact hk
    have hlt:s<σ.fr.length:=by
     rcases Nat.lt_or_ge s σ.fr.length with h|h
     ·exact h
     ·rw[Dz,List.getElem?_eq_none h]at hslot;cases hslot
    let g0:G:=⟨[],none,none,.osl (.l true) (.l 0) (Af σ.hp)⟩
    have hget:∀k,Au (Ax σ.fr s (some g0)) k=if k=s then some g0 else Au σ.fr k:=λk=>by
     rw[B7]
     by_cases e:k=s
     ·rw[if_pos ⟨e,hlt⟩,if_pos e]
     ·rw[if_neg (λh=>e h.1),if_neg e]
    refine⟨E',⟨⟨⟨hbase.os,hbase.tape,hbase.output,hbase.size,hbase.old,hbase.I0,hbase.Ibd,hbase.Inew,hbase.Obd,hbase.β0.ext hx⟩,λk=>?_,λq=>?_,hs.st.size,hs.st.defers⟩,by show (Ax σ.fr s _).length=N;rw[As,List.length_set];exact hs.len,⟨λq g hq i hi=>?_,λq g i hq hi=>?_,λq g i hq hi=>?_⟩,λk hk=>?_⟩⟩
    ·have hkk:=hs.st.heap k
     simp only[Aq,Ag]at hkk ⊢;rcases Nat.lt_trichotomy k σ.hp.length with h|h|h
     ·rw[List.getElem?_append_left h]
      exact HOk.keep hx hkk rfl (by simp[E',upd,Ae,Nat.ne_of_lt h]) rfl (by simp[E',upd,Ae,Nat.ne_of_lt h]) λb hO=>⟨hO,rfl,λ_ h=>h⟩
     ·subst h
      rw[List.getElem?_append_right (Nat.le_refl _)];simp only[Nat.sub_self,List.getElem?_cons_zero,Option.getD_some];exact⟨.slice none 0 0,0,[],by simp[E',upd,Ae],by simp[E',upd,Ae],⟨by simp,.inl ⟨rfl,rfl⟩⟩,rfl,by simp,⟨by intro i hi;omega,by intro i j s u hi;omega⟩,λb hb=>by simp[Value.ownBlock]at hb⟩
     ·rw[List.getElem?_eq_none (by simp;omega)]
      rw[List.getElem?_eq_none (by omega)]at hkk;exact HOk.keep hx hkk rfl (by simp[E',upd,Ae,Nat.ne_of_gt h]) rfl (by simp[E',upd,Ae,Nat.ne_of_gt h]) λb hO=>⟨hO,rfl,λ_ h=>h⟩
    ·have hsl:=hs.st.slot q
     show Bk E' w a q ((Au (Ax σ.fr s (some g0)) q).map λg=>(Ac σ.gm g.tg,g.v));rw[hget];simp only[Ba]at hsl
     by_cases e:q=s
     ·subst e
      rw[if_pos rfl];rw[hslot]at hsl;simp only[Option.map_some,Bk,Ac,List.filterMap_nil,Bh,g0]at hsl ⊢;refine⟨hsl.1,λ_=>?_,λh=>absurd trivial h⟩;have hr:=(hsl.2.1 trivial).sl_inv;rcases hr.sl_inv with⟨e1,_,_⟩|⟨_,_,_,_,_,e1,_⟩
      ·rw[e1]
       exact .osl ⟨none,0,0,rfl,rfl,by simp[BT.den]⟩ ⟨none,0,0,by simp[E',upd],by simp[ST.den],λ_=>rfl⟩
      ·simp[BT.den]at e1
     ·rw[if_neg e]
      cases hg:Au σ.fr q with
      |none=>trivial
      |some g =>
       rw[hg]at hsl;simp only[Option.map_some,Bk]at hsl ⊢;exact⟨hsl.1,λhc=>(hsl.2.1 hc).mono hx,hsl.2.2⟩
    ·have hq:Au (Ax σ.fr s (some g0)) q=some g:=hq
     rw[hget]at hq
     split at hq
     ·cases hq;cases hi
     ·exact hs.wf.tg q g hq i hi
    ·have hq:Au (Ax σ.fr s (some g0)) q=some g:=hq
     rw[hget]at hq
     split at hq
     ·cases hq;cases hi
     ·exact hs.wf.gt q g i hq hi
    ·have hq:Au (Ax σ.fr s (some g0)) q=some g:=hq
     rw[hget]at hq
     split at hq
     ·cases hq;cases hi
     ·exact hs.wf.gf q g i hq hi
    ·have:=hs.ge k hk
     simp only[List.length_append];omega
   ·cases h
  ·cases h
 ·cases h
theorem Akx{E:Env}{w:World}{h:Nat}{nl:BT}{n n0:ST}{ty:TypeId}{sz:Nat}{gr:Bool}{f:Nat->List SV}{u v:Value}{m:Nat}{xs:List Value}(hr:Rel E w (.osl nl n h) u)(hτ:E.τ h=some v)(hown:Ck w gr ty sz v m xs)(hn0:n0.den=(m:Int))(he:n.den=n0.den)
  (h1:∀u∈xs,u.oneCell'=true) (hrow:Fm E w f m sz xs):RO (λb o=>E.I b o\/(v.ownBlock=some b/\o<m * sz)) w (.sl nl n sz f) u:=by
 obtain⟨hu,hnl⟩:=F2 hr hτ hown hn0 he;subst hu;have hn:n.den=(m:Int):=by rw[he,hn0]
 rcases hown.2 with⟨e0,e1⟩|⟨b,cap,cur,fr,e0,hg2,hfr,hmc,hcm,hcs,htake⟩
 ·rw[e0]
  exact .slnil (hnl.2 e0) (by rw[hn,e1];rfl)
 ·have hidx:∀i j,i<m->j<sz->i * sz+j<m * sz:=by
   intro i j hi hj;have:(i+1) * sz<=m * sz:=Nat.mul_le_mul_right _ hi;rw[Nat.add_mul]at this;omega
  have hxs:∀i j,i<m->j<sz->xs[i * sz+j]?=some (xs.getD (i * sz+j) undef):=by
   intro i j hi hj;have:=hidx i j hi hj;rw[<-hown.1]at this;rw[List.getD_eq_getElem?_getD,List.getElem?_eq_getElem this];rfl
  rw[e0];refine .sl (λi j=>xs.getD (i * sz+j) undef) ?_ hn hmc hcm (λ_=>rfl) hrow.1 (λi j hi hj=>h1 _ (List.mem_of_getElem? (hxs i j hi hj))) (λi j hi hj=>⟨?_,?_⟩) (λi j s hi hs=>?_)
  ·cases hb:nl.den with
   |false=>rfl
   |true=>rw[hnl.1 hb]at e0;simp at e0
  ·simp only[Nat.zero_add]
   rw[cell_of_row w b _ cur ty fr hg2,<-hxs i j hi hj,<-htake,List.getElem?_take,if_pos (hidx i j hi hj)];simp
  ·simp only[Nat.zero_add]
   exact .inr ⟨rfl,hidx i j hi hj⟩
  ·have hj:j<sz:=by rw[<-hrow.1 i hi];exact (List.getElem?_eq_some_iff.1 hs).1
   exact (hrow.2 i j s _ hi hs (hxs i j hi hj)).mono (λb o h=>.inl h) (λ_ _ _=>rfl)
theorem StY.vec{cx:Cx}{B:Bs}{N:Nat}{E:Env}{a:Act}{w:World}{σ σ':Sy}{s:Nat}{e:TypeId}(hs:StY B N E a w σ)(h:Ej cx σ (.vec s e)=some σ'):∃E',StY B N E' a w σ':=by
 simp only[Ej]at h
 split at h
 ·rename_i gt gf sz f hslot
  split at h
  ·split at h
   ·cases h
    have hbase:=hs.st.base;have hfr:HOk E w (Af σ.hp) .fresh:=by
     have:=hs.st.heap (Af σ.hp);simpa only[Aq,Ag,Ae,List.getElem?_eq_none (Nat.le_refl _),Option.getD_none] using this
    obtain⟨f1,f2,f3,f4⟩:=hfr
    let E':Env:=⟨E.β,upd E.τ (Af σ.hp) (some (.slice none 0 0)),E.O,E.κ,E.ζ,E.I⟩
    have hx:Ext E w E' w:=by
     refine⟨λ_ _ h=>h,λk v hk=>.inl ?_,λ_ _ h=>h,λ_ _ h=>h,λ_ _ h=>h,λ_ _ _=>rfl⟩;show upd E.τ (Af σ.hp) (some (.slice none 0 0)) k=some v;unfold upd
     by_cases e:k=Af σ.hp
     ·subst e;rw[f2]at hk;cases hk
     ·rw[if_neg e];exact hk
    have hlt:s<σ.fr.length:=by
     rcases Nat.lt_or_ge s σ.fr.length with h|h
     ·exact h
     ·rw[Dz,List.getElem?_eq_none h]at hslot;cases hslot
    let g0:G:=⟨[],none,none,.vsl (.l true) (.l 0) (.l 0) (Af σ.hp)⟩
    have hget:∀k,Au (Ax σ.fr s (some g0)) k=if k=s then some g0 else Au σ.fr k:=λk=>by
     rw[B7]
     by_cases e:k=s
     ·rw[if_pos ⟨e,hlt⟩,if_pos e]
     ·rw[if_neg (λh=>e h.1),if_neg e]
    refine⟨E',⟨⟨⟨hbase.os,hbase.tape,hbase.output,hbase.size,hbase.old,hbase.I0,hbase.Ibd,hbase.Inew,hbase.Obd,hbase.β0.ext hx⟩,λk=>?_,λq=>?_,hs.st.size,hs.st.defers⟩,by show (Ax σ.fr s _).length=N;rw[As,List.length_set];exact hs.len,⟨λq g hq i hi=>?_,λq g i hq hi=>?_,λq g i hq hi=>?_⟩,λk hk=>?_⟩⟩
    ·have hkk:=hs.st.heap k
     simp only[Aq,Ag]at hkk ⊢;rcases Nat.lt_trichotomy k σ.hp.length with h|h|h
     ·rw[List.getElem?_append_left h]
      exact HOk.keep hx hkk rfl (by simp[E',upd,Ae,Nat.ne_of_lt h]) rfl rfl λb hO=>⟨hO,rfl,λ_ h=>h⟩
     ·subst h
      rw[List.getElem?_append_right (Nat.le_refl _)];simp only[Nat.sub_self,List.getElem?_cons_zero,Option.getD_some];exact⟨none,0,0,0,[],by simp[E',upd,Ae],⟨by simp,.inl ⟨rfl,rfl⟩⟩,rfl,rfl,by simp,⟨by intro i hi;omega,by intro i j s u hi;omega⟩,λb hb=>by simp[Value.ownBlock]at hb⟩
     ·rw[List.getElem?_eq_none (by simp;omega)]
      rw[List.getElem?_eq_none (by omega)]at hkk;exact HOk.keep hx hkk rfl (by simp[E',upd,Ae,Nat.ne_of_gt h]) rfl rfl λb hO=>⟨hO,rfl,λ_ h=>h⟩
    ·have hsl:=hs.st.slot q
     show Bk E' w a q ((Au (Ax σ.fr s (some g0)) q).map λg=>(Ac σ.gm g.tg,g.v));rw[hget];simp only[Ba]at hsl
     by_cases e:q=s
     ·subst e
      rw[if_pos rfl];rw[hslot]at hsl;simp only[Option.map_some,Bk,Ac,List.filterMap_nil,Bh,g0]at hsl ⊢;refine⟨hsl.1,λ_=>?_,λh=>absurd trivial h⟩;have hr:=(hsl.2.1 trivial).sl_inv;rcases hr.sl_inv with⟨e1,_,_⟩|⟨_,_,_,_,_,e1,_⟩
      ·rw[e1]
       exact .vsl ⟨none,0,0,rfl,rfl,by simp[BT.den]⟩ ⟨none,0,0,by simp[E',upd],by simp[ST.den],λ_=>⟨0,rfl,rfl⟩⟩
      ·simp[BT.den]at e1
     ·rw[if_neg e]
      cases hg:Au σ.fr q with
      |none=>trivial
      |some g =>
       rw[hg]at hsl;simp only[Option.map_some,Bk]at hsl ⊢;exact⟨hsl.1,λhc=>(hsl.2.1 hc).mono hx,hsl.2.2⟩
    ·have hq:Au (Ax σ.fr s (some g0)) q=some g:=hq
     rw[hget]at hq
     split at hq
     ·cases hq;cases hi
     ·exact hs.wf.tg q g hq i hi
    ·have hq:Au (Ax σ.fr s (some g0)) q=some g:=hq
     rw[hget]at hq
     split at hq
     ·cases hq;cases hi
     ·exact hs.wf.gt q g i hq hi
    ·have hq:Au (Ax σ.fr s (some g0)) q=some g:=hq
     rw[hget]at hq
     split at hq
     ·cases hq;cases hi
     ·exact hs.wf.gf q g i hq hi
    ·have:=hs.ge k hk
     simp only[List.length_append];omega
   ·cases h
  ·cases h
 ·cases h
theorem StY.vshare{cx:Cx}{B:Bs}{N:Nat}{E:Env}{a:Act}{w:World}{σ σ':Sy}{s:Nat}(hD:cx.D=dn)(hs:StY B N E a w σ)(hp:M6 cx σ (.vshare s))(h:Ej cx σ (.vshare s)=some σ'):∃E',StY B N E' a w σ':=by
 simp only[Ej]at h;simp only[M6]at hp
 split at h
 ·rename_i gt gf nl n gv hd hslot
  rw[hslot]at hp;simp only at hp
  split at h
  ·rename_i ty n0 g1 sz f hh
   rw[hh]at hp;simp only at hp;rw[hD]at hp;have hp:n.den=n0.den/\gv.den=g1.den:=⟨hp.1.h,hp.2.h⟩;cases h;have hbase:=hs.st.base;have hk:=hs.st.heap hd;rw[Bv hh]at hk;obtain⟨a0,c0,m,Gn,xs,k1,k2,k3,kg,k4,k5,k6⟩:=hk;obtain⟨v,hv⟩:∃v,v=Value.slice a0 m c0:=⟨_,rfl⟩;rw[<-hv]at k2 k6
   let E':Env:=⟨E.β,E.τ,E.O,E.κ,E.ζ,λb o=>E.I b o\/(v.ownBlock=some b/\o<m * sz)⟩
   have hx:Ext E w E' w:=⟨λ_ _ h=>h,λ_ _ h=>.inl h,λ_ _ h=>h,λ_ _ h=>h,λ_ _ h=>.inl h,λ_ _ _=>rfl⟩;have hlt:s<σ.fr.length:=by
    rcases Nat.lt_or_ge s σ.fr.length with h|h
    ·exact h
    ·rw[Dz,List.getElem?_eq_none h]at hslot;cases hslot
   let g0:G:=⟨[],none,none,.sl nl n sz f⟩
   have hget:∀k,Au (Ax σ.fr s (some g0)) k=if k=s then some g0 else Au σ.fr k:=λk=>by
    rw[B7]
    by_cases e:k=s
    ·rw[if_pos ⟨e,hlt⟩,if_pos e]
    ·rw[if_neg (λh=>e h.1),if_neg e]
   refine⟨E',⟨⟨⟨hbase.os,hbase.tape,hbase.output,hbase.size,hbase.old,λb' o hi=>?_,λb' o hi=>?_,λb' o hi=>?_,hbase.Obd,hbase.β0.ext hx⟩,λk=>?_,λq=>?_,hs.st.size,hs.st.defers⟩,by show (Ax σ.fr s _).length=N;rw[As,List.length_set];exact hs.len,⟨λq g hq i hi=>?_,λq g i hq hi=>?_,λq g i hq hi=>?_⟩,λk hk=>?_⟩⟩
   ·obtain⟨i1,i2⟩:=hbase.I0 b' o hi;exact⟨.inl i1,i2⟩
   ·rcases hi with hi|⟨hb,_⟩
    ·exact hbase.Ibd b' o hi
    ·exact A5 hbase (k6 b' hb).1
   ·rcases hi with hi|⟨hb,_⟩
    ·exact hbase.Inew b' o hi
    ·exact .inr (hbase.Obd b' hd (k6 b' hb).1).2
   ·simp only[Aq,Ag,As]
    by_cases e:k=hd
    ·subst e
     rw[List.getElem?_set];simp only[if_pos]
     split
     ·trivial
     ·have:k<σ.hp.length:=by rw[Ag]at hh;exact (List.getElem?_eq_some_iff.1 hh).1
      rename_i hno;exact absurd (by simpa using this) hno
    ·rw[List.getElem?_set_ne (λh=>e h.symm)]
     have hkk:=hs.st.heap k;simp only[Aq,Ag]at hkk;refine HOk.keep hx hkk rfl rfl rfl rfl λb' hO=>⟨hO,rfl,λo hi=>?_⟩;rcases hi with hi|⟨hb,_⟩
     ·exact hi
     ·rw[(k6 b' hb).1]at hO;exact absurd (Option.some.inj hO).symm e
   ·have hsl:=hs.st.slot q
    show Bk E' w a q ((Au (Ax σ.fr s (some g0)) q).map λg=>(Ac σ.gm g.tg,g.v));rw[hget];simp only[Ba]at hsl
    by_cases e:q=s
    ·subst e
     rw[if_pos rfl];rw[hslot]at hsl;simp only[Option.map_some,Bk,Ac,List.filterMap_nil,Bh,g0]at hsl ⊢;exact⟨hsl.1,λ_=>.ro (by
      obtain⟨hu,hnl⟩:=Lu (hsl.2.1 trivial) k1 (by rw[<-hv];exact k2) (by rw[hp.1,k3]) kg hp.2;rw[<-hv]at hu hnl;exact Yb hu hnl k2 (by rw[hp.1,k3]) k4 k5),λh=>absurd trivial h⟩
    ·rw[if_neg e]
     cases hg:Au σ.fr q with
     |none=>trivial
     |some g =>
      rw[hg]at hsl;simp only[Option.map_some,Bk]at hsl ⊢;exact⟨hsl.1,λhc=>(hsl.2.1 hc).mono hx,hsl.2.2⟩
   ·have hq:Au (Ax σ.fr s (some g0)) q=some g:=hq
    rw[hget]at hq
    split at hq
    ·cases hq;cases hi
    ·exact hs.wf.tg q g hq i hi
   ·have hq:Au (Ax σ.fr s (some g0)) q=some g:=hq
    rw[hget]at hq
    split at hq
    ·cases hq;cases hi
    ·exact hs.wf.gt q g i hq hi
   ·have hq:Au (Ax σ.fr s (some g0)) q=some g:=hq
    rw[hget]at hq
    split at hq
    ·cases hq;cases hi
    ·exact hs.wf.gf q g i hq hi
   ·simp only[As,List.length_set]
    exact hs.ge k hk
  ·cases h
 ·cases h
theorem StY.share{cx:Cx}{B:Bs}{N:Nat}{E:Env}{a:Act}{w:World}{σ σ':Sy}{s:Nat}(hD:cx.D=dn)(hs:StY B N E a w σ)(hp:M6 cx σ (.share s))(h:Ej cx σ (.share s)=some σ'):∃E',StY B N E' a w σ':=by
 simp only[Ej]at h;simp only[M6]at hp
 split at h
 ·rename_i gt gf nl n hd hslot
  rw[hslot]at hp;simp only at hp
  split at h
  ·rename_i ty n0 sz gr f hh
   rw[hh]at hp;simp only at hp;rw[hD]at hp;have hp:n.den=n0.den:=hp.h;cases h;have hbase:=hs.st.base;have hk:=hs.st.heap hd;rw[Bv hh]at hk;obtain⟨v,m,xs,k1,kz,k2,k3,k4,k5,k6⟩:=hk
   let E':Env:=⟨E.β,E.τ,E.O,E.κ,E.ζ,λb o=>E.I b o\/(v.ownBlock=some b/\o<m * sz)⟩
   have hx:Ext E w E' w:=⟨λ_ _ h=>h,λ_ _ h=>.inl h,λ_ _ h=>h,λ_ _ h=>h,λ_ _ h=>.inl h,λ_ _ _=>rfl⟩;have hlt:s<σ.fr.length:=by
    rcases Nat.lt_or_ge s σ.fr.length with h|h
    ·exact h
    ·rw[Dz,List.getElem?_eq_none h]at hslot;cases hslot
   let g0:G:=⟨[],none,none,.sl nl n sz f⟩
   have hget:∀k,Au (Ax σ.fr s (some g0)) k=if k=s then some g0 else Au σ.fr k:=λk=>by
    rw[B7]
    by_cases e:k=s
    ·rw[if_pos ⟨e,hlt⟩,if_pos e]
    ·rw[if_neg (λh=>e h.1),if_neg e]
   refine⟨E',⟨⟨⟨hbase.os,hbase.tape,hbase.output,hbase.size,hbase.old,λb' o hi=>?_,λb' o hi=>?_,λb' o hi=>?_,hbase.Obd,hbase.β0.ext hx⟩,λk=>?_,λq=>?_,hs.st.size,hs.st.defers⟩,by show (Ax σ.fr s _).length=N;rw[As,List.length_set];exact hs.len,⟨λq g hq i hi=>?_,λq g i hq hi=>?_,λq g i hq hi=>?_⟩,λk hk=>?_⟩⟩
   ·obtain⟨i1,i2⟩:=hbase.I0 b' o hi;exact⟨.inl i1,i2⟩
   ·rcases hi with hi|⟨hb,_⟩
    ·exact hbase.Ibd b' o hi
    ·exact A5 hbase (k6 b' hb).1
   ·rcases hi with hi|⟨hb,_⟩
    ·exact hbase.Inew b' o hi
    ·exact .inr (hbase.Obd b' hd (k6 b' hb).1).2
   ·simp only[Aq,Ag,As]
    by_cases e:k=hd
    ·subst e
     rw[List.getElem?_set];simp only[if_pos]
     split
     ·trivial
     ·have:k<σ.hp.length:=by rw[Ag]at hh;exact (List.getElem?_eq_some_iff.1 hh).1
      rename_i hno;exact absurd (by simpa using this) hno
    ·rw[List.getElem?_set_ne (λh=>e h.symm)]
     have hkk:=hs.st.heap k;simp only[Aq,Ag]at hkk;refine HOk.keep hx hkk rfl rfl rfl rfl λb' hO=>⟨hO,rfl,λo hi=>?_⟩;rcases hi with hi|⟨hb,_⟩
     ·exact hi
     ·rw[(k6 b' hb).1]at hO;exact absurd (Option.some.inj hO).symm e
   ·have hsl:=hs.st.slot q
    show Bk E' w a q ((Au (Ax σ.fr s (some g0)) q).map λg=>(Ac σ.gm g.tg,g.v));rw[hget];simp only[Ba]at hsl
    by_cases e:q=s
    ·subst e
     rw[if_pos rfl];rw[hslot]at hsl;simp only[Option.map_some,Bk,Ac,List.filterMap_nil,Bh,g0]at hsl ⊢;exact⟨hsl.1,λ_=>.ro (Akx (hsl.2.1 trivial) k1 k2 k3 hp k4 k5),λh=>absurd trivial h⟩
    ·rw[if_neg e]
     cases hg:Au σ.fr q with
     |none=>trivial
     |some g =>
      rw[hg]at hsl;simp only[Option.map_some,Bk]at hsl ⊢;exact⟨hsl.1,λhc=>(hsl.2.1 hc).mono hx,hsl.2.2⟩
   ·have hq:Au (Ax σ.fr s (some g0)) q=some g:=hq
    rw[hget]at hq
    split at hq
    ·cases hq;cases hi
    ·exact hs.wf.tg q g hq i hi
   ·have hq:Au (Ax σ.fr s (some g0)) q=some g:=hq
    rw[hget]at hq
    split at hq
    ·cases hq;cases hi
    ·exact hs.wf.gt q g i hq hi
   ·have hq:Au (Ax σ.fr s (some g0)) q=some g:=hq
    rw[hget]at hq
    split at hq
    ·cases hq;cases hi
    ·exact hs.wf.gf q g i hq hi
   ·simp only[As,List.length_set]
    exact hs.ge k hk
  ·cases h
 ·cases h
theorem StY.bld{cx:Cx}{B:Bs}{N:Nat}{E:Env}{a:Act}{w:World}{σ σ':Sy}{s e:Nat}(hs:StY B N E a w σ)(h:Ej cx σ (.bld s e)=some σ'):∃E',StY B N E' a w σ':=by
 simp only[Ej]at h
 split at h
 ·rename_i gt gf hd hslot
  split at h
  ·rename_i T f hh
   cases h;have hbase:=hs.st.base;have hk:=hs.st.heap hd;rw[Bv hh]at hk;obtain⟨b,C,k1,k2,k3,k4,k5,k6⟩:=hk.blk_inv;refine⟨E,⟨⟨hbase,λk=>?_,hs.st.slot,hs.st.size,hs.st.defers⟩,hs.len,⟨hs.wf.tg,hs.wf.gt,hs.wf.gf⟩,λk hk=>?_⟩⟩
   ·simp only[Aq,Ag,As]
    by_cases e:k=hd
    ·subst e
     have hlt:k<σ.hp.length:=by rw[Ag]at hh;exact (List.getElem?_eq_some_iff.1 hh).1
     rw[List.getElem?_set_self hlt];simp only[Option.getD_some]
     match hC:C.toList,k4 with
     | [p,v],k4 =>
      have hp:p=.pointer none:=by
       have:=k4.2 0 .nilp p rfl rfl;cases this with
       |ro h=>cases h;rfl
      have hv:v=.slice none 0 0:=by
       have:=(k4.2 1 _ v rfl rfl).sl_inv;rcases this.sl_inv with⟨e1,_⟩|⟨_,_,_,_,_,e1,_⟩
       ·exact e1
       ·simp[BT.den]at e1
      subst hp hv;have hCe:C=#[.pointer none,.slice none 0 0]:=by apply Array.ext';rw[hC]
      exact⟨b,.pointer none,.slice none 0 0,k1,k2,.inl rfl,by rw[k3,hCe],World.ownsRow_nil w 0 _ 1,by simp[Value.ownBlock],k6,by simp[Value.ownBlock]⟩
     | [],k4=>exact absurd k4.1 (by simp)
     | [_],k4=>exact absurd k4.1 (by simp)
     |_ :: _ :: _ :: _,k4=>exact absurd k4.1 (by simp)
    ·rw[List.getElem?_set_ne (λh=>e h.symm)]
     have hkk:=hs.st.heap k;simp only[Aq,Ag]at hkk;exact hkk
   ·simp only[As,List.length_set]
    exact hs.ge k hk
  ·cases h
 ·cases h
theorem StY.hold{cx:Cx}{B:Bs}{N:Nat}{E:Env}{a:Act}{w:World}{σ σ':Sy}{s k0 e:Nat}(hs:StY B N E a w σ)(h:Ej cx σ (.hold s k0 e)=some σ'):∃E',StY B N E' a w σ':=by
 simp only[Ej]at h
 split at h
 ·rename_i gt gf hd hslot
  split at h
  ·rename_i T cs hh
   split at h
   ·rename_i sz f sz' hcs hsz
    split at h
    ·cases h
     have hbase:=hs.st.base;have hfr:HOk E w (Af σ.hp) .fresh:=by
      have:=hs.st.heap (Af σ.hp);simpa only[Aq,Ag,Ae,List.getElem?_eq_none (Nat.le_refl _),Option.getD_none] using this
     obtain⟨f1,f2,f3,f4⟩:=hfr
     let E':Env:=⟨E.β,upd E.τ (Af σ.hp) (some (.slice none 0 0)),E.O,E.κ,E.ζ,E.I⟩
     have hx:Ext E w E' w:=by
      refine⟨λ_ _ h=>h,λk v hk=>.inl ?_,λ_ _ h=>h,λ_ _ h=>h,λ_ _ h=>h,λ_ _ _=>rfl⟩;show upd E.τ (Af σ.hp) (some (.slice none 0 0)) k=some v;unfold upd
      by_cases e:k=Af σ.hp
      ·subst e;rw[f2]at hk;cases hk
      ·rw[if_neg e];exact hk
     have hlt:hd<σ.hp.length:=by rw[Ag]at hh;exact (List.getElem?_eq_some_iff.1 hh).1
     have hk:=hs.st.heap hd;rw[Bv hh]at hk;obtain⟨b,C,k1,k2,k3,k4,k5,k7,k8⟩:=hk;refine⟨E',⟨⟨⟨hbase.os,hbase.tape,hbase.output,hbase.size,hbase.old,hbase.I0,hbase.Ibd,hbase.Inew,hbase.Obd,hbase.β0.ext hx⟩,λk=>?_,λq=>?_,hs.st.size,hs.st.defers⟩,hs.len,⟨hs.wf.tg,hs.wf.gt,hs.wf.gf⟩,λk hk=>?_⟩⟩
     ·have hkk:=hs.st.heap k
      simp only[Aq,Ag,As]at hkk ⊢;rcases Nat.lt_trichotomy k σ.hp.length with h|h|h
      ·rw[List.getElem?_append_left (by simpa using h)]
       by_cases e:k=hd
       ·subst e
        rw[List.getElem?_set_self hlt];simp only[Option.getD_some];refine⟨b,C,k1,k2,k3,by rw[List.length_set];exact k4,λi s' v a c=>?_,k7,k8⟩;rw[List.getElem?_set]at a;rw[Ag]at hcs
        split at a
        ·rename_i hik
         split at a
         ·cases a
          subst hik;have hr:=(k5 k0 _ v hcs c).sl_inv;have hr':=hr.mono hx.I hx.cell;rcases hr.sl_inv with⟨e1,_,_⟩|⟨_,_,_,_,_,e1,_⟩
          ·rw[e1]at hr' ⊢
           exact .gsl hr' ⟨none,0,0,by simp[E',upd],by simp[ST.den],λ_=>rfl⟩
          ·simp[BT.den]at e1
         ·cases a
        ·exact (k5 i s' v a c).mono hx
       ·rw[List.getElem?_set_ne (λh=>e h.symm)]
        exact HOk.keep hx hkk rfl (by simp[E',upd,Ae,Nat.ne_of_lt h]) rfl rfl λb hO=>⟨hO,rfl,λ_ h=>h⟩
      ·subst h
       rw[List.getElem?_append_right (by simp)];simp only[List.length_set,Nat.sub_self,List.getElem?_cons_zero,Option.getD_some];exact⟨.slice none 0 0,0,[],by simp[E',upd,Ae],World.ownsRow_nil w 0 _ sz,rfl,by simp,λb hb=>by simp[Value.ownBlock]at hb⟩
      ·rw[List.getElem?_eq_none (by simp;omega)]
       rw[List.getElem?_eq_none (by omega)]at hkk;exact HOk.keep hx hkk rfl (by simp[E',upd,Ae,Nat.ne_of_gt h]) rfl rfl λb hO=>⟨hO,rfl,λ_ h=>h⟩
     ·have hsl:=hs.st.slot q
      simp only[Ba]at hsl ⊢;cases hg:Au σ.fr q with
      |none=>trivial
      |some g =>
       rw[hg]at hsl;simp only[Option.map_some,Bk]at hsl ⊢;exact⟨hsl.1,λhc=>(hsl.2.1 hc).mono hx,hsl.2.2⟩
     ·have:=hs.ge k hk
      simp only[List.length_append,As,List.length_set];omega
    ·cases h
   ·cases h
  ·cases h
 ·cases h
theorem StY.vecb{cx:Cx}{B:Bs}{N:Nat}{E:Env}{a:Act}{w:World}{σ σ':Sy}{s k0 e:Nat}(hs:StY B N E a w σ)(h:Ej cx σ (.vecb s k0 e)=some σ'):∃E',StY B N E' a w σ':=by
 simp only[Ej]at h
 split at h
 ·rename_i gt gf hd hslot
  split at h
  ·rename_i T cs hh
   split at h
   ·rename_i sz f sz' hcs hsz
    split at h
    ·cases h
     have hbase:=hs.st.base;have hfr:HOk E w (Af σ.hp) .fresh:=by
      have:=hs.st.heap (Af σ.hp);simpa only[Aq,Ag,Ae,List.getElem?_eq_none (Nat.le_refl _),Option.getD_none] using this
     obtain⟨f1,f2,f3,f4⟩:=hfr
     let E':Env:=⟨E.β,upd E.τ (Af σ.hp) (some (.slice none 0 0)),E.O,E.κ,E.ζ,E.I⟩
     have hx:Ext E w E' w:=by
      refine⟨λ_ _ h=>h,λk v hk=>.inl ?_,λ_ _ h=>h,λ_ _ h=>h,λ_ _ h=>h,λ_ _ _=>rfl⟩;show upd E.τ (Af σ.hp) (some (.slice none 0 0)) k=some v;unfold upd
      by_cases e:k=Af σ.hp
      ·subst e;rw[f2]at hk;cases hk
      ·rw[if_neg e];exact hk
     have hlt:hd<σ.hp.length:=by rw[Ag]at hh;exact (List.getElem?_eq_some_iff.1 hh).1
     have hk:=hs.st.heap hd;rw[Bv hh]at hk;obtain⟨b,C,k1,k2,k3,k4,k5,k7,k8⟩:=hk;refine⟨E',⟨⟨⟨hbase.os,hbase.tape,hbase.output,hbase.size,hbase.old,hbase.I0,hbase.Ibd,hbase.Inew,hbase.Obd,hbase.β0.ext hx⟩,λk=>?_,λq=>?_,hs.st.size,hs.st.defers⟩,hs.len,⟨hs.wf.tg,hs.wf.gt,hs.wf.gf⟩,λk hk=>?_⟩⟩
     ·have hkk:=hs.st.heap k
      simp only[Aq,Ag,As]at hkk ⊢;rcases Nat.lt_trichotomy k σ.hp.length with h|h|h
      ·rw[List.getElem?_append_left (by simpa using h)]
       by_cases e:k=hd
       ·subst e
        rw[List.getElem?_set_self hlt];simp only[Option.getD_some];refine⟨b,C,k1,k2,k3,by rw[List.length_set];exact k4,λi s' v a c=>?_,k7,k8⟩;rw[List.getElem?_set]at a;rw[Ag]at hcs
        split at a
        ·rename_i hik
         split at a
         ·cases a
          subst hik;have hr:=(k5 k0 _ v hcs c).sl_inv;rcases hr.sl_inv with⟨e1,_,_⟩|⟨_,_,_,_,_,e1,_⟩
          ·rw[e1]
           exact .vsl ⟨none,0,0,rfl,rfl,by simp[BT.den]⟩ ⟨none,0,0,by simp[E',upd],by simp[ST.den],λ_=>⟨0,rfl,rfl⟩⟩
          ·simp[BT.den]at e1
         ·cases a
        ·exact (k5 i s' v a c).mono hx
       ·rw[List.getElem?_set_ne (λh=>e h.symm)]
        exact HOk.keep hx hkk rfl (by simp[E',upd,Ae,Nat.ne_of_lt h]) rfl rfl λb hO=>⟨hO,rfl,λ_ h=>h⟩
      ·subst h
       rw[List.getElem?_append_right (by simp)];simp only[List.length_set,Nat.sub_self,List.getElem?_cons_zero,Option.getD_some];exact⟨none,0,0,0,[],by simp[E',upd,Ae],⟨by simp,.inl ⟨rfl,rfl⟩⟩,rfl,rfl,by simp,⟨by intro i hi;omega,by intro i j s u hi;omega⟩,λb hb=>by simp[Value.ownBlock]at hb⟩
      ·rw[List.getElem?_eq_none (by simp;omega)]
       rw[List.getElem?_eq_none (by omega)]at hkk;exact HOk.keep hx hkk rfl (by simp[E',upd,Ae,Nat.ne_of_gt h]) rfl rfl λb hO=>⟨hO,rfl,λ_ h=>h⟩
     ·have hsl:=hs.st.slot q
      simp only[Ba]at hsl ⊢;cases hg:Au σ.fr q with
      |none=>trivial
      |some g =>
       rw[hg]at hsl;simp only[Option.map_some,Bk]at hsl ⊢;exact⟨hsl.1,λhc=>(hsl.2.1 hc).mono hx,hsl.2.2⟩
     ·have:=hs.ge k hk
      simp only[List.length_append,As,List.length_set];omega
    ·cases h
   ·cases h
  ·cases h
 ·cases h
theorem StY.vshareb{cx:Cx}{B:Bs}{N:Nat}{E:Env}{a:Act}{w:World}{σ σ':Sy}{s k0:Nat}(hD:cx.D=dn)(hs:StY B N E a w σ)(hp:M6 cx σ (.vshareb s k0))(h:Ej cx σ (.vshareb s k0)=some σ'):∃E',StY B N E' a w σ':=by
 simp only[Ej]at h;simp only[M6]at hp
 split at h
 ·rename_i gt gf hb hslot
  rw[hslot]at hp;simp only at hp
  split at h
  ·rename_i T cs hhb
   rw[hhb]at hp;simp only at hp
   split at h
   ·rename_i nl n g0 hd hcs
    rw[hcs]at hp;simp only at hp
    split at h
    ·rename_i ty n0 g1 sz f hh
     rw[hh]at hp;simp only at hp;cases h;rw[hD]at hp;have hp:n.den=n0.den/\g0.den=g1.den:=⟨hp.1.h,hp.2.h⟩;have hbase:=hs.st.base;have hne:hb≠hd:=by rintro rfl;rw[hhb]at hh;cases hh
     have hk:=hs.st.heap hd;rw[Bv hh]at hk;obtain⟨a0,c0,m,G,xs,k1,k2,k3,kg,k4,k5,k6⟩:=hk;obtain⟨v,hv⟩:∃v,v=Value.slice a0 m c0:=⟨_,rfl⟩;rw[<-hv]at k2 k6
     let E':Env:=⟨E.β,E.τ,E.O,E.κ,E.ζ,λb o=>E.I b o\/(v.ownBlock=some b/\o<m * sz)⟩
     have hx:Ext E w E' w:=⟨λ_ _ h=>h,λ_ _ h=>.inl h,λ_ _ h=>h,λ_ _ h=>h,λ_ _ h=>.inl h,λ_ _ _=>rfl⟩;have hlb:hb<σ.hp.length:=by rw[Ag]at hhb;exact (List.getElem?_eq_some_iff.1 hhb).1
     have hld:hd<σ.hp.length:=by rw[Ag]at hh;exact (List.getElem?_eq_some_iff.1 hh).1
     have hkb:=hs.st.heap hb;rw[Bv hhb]at hkb;obtain⟨b,C,q1,q2,q3,q4,q5,q6,q7⟩:=hkb;refine⟨E',⟨⟨⟨hbase.os,hbase.tape,hbase.output,hbase.size,hbase.old,λb' o hi=>?_,λb' o hi=>?_,λb' o hi=>?_,hbase.Obd,hbase.β0.ext hx⟩,λk=>?_,λq=>?_,hs.st.size,hs.st.defers⟩,hs.len,⟨hs.wf.tg,hs.wf.gt,hs.wf.gf⟩,λk hk=>?_⟩⟩
     ·obtain⟨i1,i2⟩:=hbase.I0 b' o hi;exact⟨.inl i1,i2⟩
     ·rcases hi with hi|⟨hb,_⟩
      ·exact hbase.Ibd b' o hi
      ·exact A5 hbase (k6 b' hb).1
     ·rcases hi with hi|⟨hb,_⟩
      ·exact hbase.Inew b' o hi
      ·exact .inr (hbase.Obd b' hd (k6 b' hb).1).2
     ·simp only[Aq,Ag,As]
      by_cases e:k=hd
      ·subst e
       rw[List.getElem?_set_self (by simpa using hld)]
       trivial
      ·rw[List.getElem?_set_ne (λh=>e h.symm)]
       by_cases e2:k=hb
       ·subst e2
        rw[List.getElem?_set_self hlb];simp only[Option.getD_some];refine⟨b,C,q1,q2,q3,by rw[List.length_set];exact q4,λi s' u a c=>?_,q6,λo hi=>?_⟩
        ·rw[List.getElem?_set]at a
         rw[Ag]at hcs
         split at a
         ·rename_i hik
          split at a
          ·cases a
           subst hik;obtain⟨hu,hnl⟩:=Lu (q5 k0 _ u hcs c) k1 (by rw[<-hv];exact k2) (by rw[hp.1,k3]) kg hp.2;rw[<-hv]at hu hnl;exact .ro (Yb hu hnl k2 (by rw[hp.1,k3]) k4 k5)
          ·cases a
         ·exact (q5 i s' u a c).mono hx
        ·rcases hi with hi|⟨hbb,_⟩
         ·exact q7 o hi
         ·have:=(k6 b hbb).1
          rw[q2]at this;exact e (Option.some.inj this)
       ·rw[List.getElem?_set_ne (λh=>e2 h.symm)]
        have hkk:=hs.st.heap k;simp only[Aq,Ag]at hkk;refine HOk.keep hx hkk rfl rfl rfl rfl λb' hO=>⟨hO,rfl,λo hi=>?_⟩;rcases hi with hi|⟨hb,_⟩
        ·exact hi
        ·rw[(k6 b' hb).1]at hO;exact absurd (Option.some.inj hO).symm e
     ·have hsl:=hs.st.slot q
      simp only[Ba]at hsl ⊢;cases hg:Au σ.fr q with
      |none=>trivial
      |some g =>
       rw[hg]at hsl;simp only[Option.map_some,Bk]at hsl ⊢;exact⟨hsl.1,λhc=>(hsl.2.1 hc).mono hx,hsl.2.2⟩
     ·simp only[As,List.length_set]
      exact hs.ge k hk
    ·cases h
   ·cases h
  ·cases h
 ·cases h
theorem RO.row{I:Nat->Nat->Prop}{w:World}{nl:BT}{n:ST}{sz:Nat}{f f2:Nat->List SV}{v:Value}(h:RO I w (.sl nl n sz f) v)(e:∀i:Nat,(i:Int)<n.den->f2 i=f i):RO I w (.sl nl n sz f2) v:=by
 generalize hs:SV.sl nl n sz f=s at h
 cases h with
 |slnil h hn=>cases hs;exact .slnil h hn
 |sl g h hn hc hcm hs' hl h1 hcell hrel =>
  cases hs;exact .sl g h hn hc hcm hs' (λi hi=>by rw[e i (by rw[hn];exact Int.ofNat_lt.2 hi)];exact hl i hi) h1 hcell (λi j s hi hf=>hrel i j s hi (by rw[<-e i (by rw[hn];exact Int.ofNat_lt.2 hi)];exact hf))
 |_=>cases hs
theorem StY.tot{B:Bs}{N:Nat}{E:Env}{a:Act}{w:World}{σ:Sy}{s:Nat}{nl:BT}{n:ST}{sz:Nat}{f f2:Nat->List SV}(hs:StY B N E a w σ)(h:Ajo σ s=some (nl,n,sz,f))(he:RowAs n.den f2 f):
  StY B N E a w ⟨Ax σ.fr s (some ⟨[],none,none,.sl nl n sz f2⟩),σ.hp,σ.gm⟩:=by
 have key:∃g,Au σ.fr s=some g/\g.tg=[]/\∀v,Rel E w g.v v->Rel E w (.sl nl n sz f2) v:=by
  unfold Ajo at h
  split at h
  ·rename_i gt gf nl' n' sz' f' hg
   cases h;refine⟨_,hg,rfl,λv hv=>?_⟩;cases hv with
   |ro hr=>exact .ro (hr.row he.h)
  ·rename_i gt gf nl' n' sz' f' hd hg
   cases h;refine⟨_,hg,rfl,λv hv=>?_⟩;cases hv with
   |ro hr=>cases hr
   |gsl hr ht=>exact .ro (hr.row he.h)
  ·cases h
 obtain⟨g,hslot,htg,hrel⟩:=key;have hlt:s<σ.fr.length:=by
  rcases Nat.lt_or_ge s σ.fr.length with h|h
  ·exact h
  ·rw[Dz,List.getElem?_eq_none h]at hslot;cases hslot
 let g0:G:=⟨[],none,none,.sl nl n sz f2⟩
 have hget:∀k,Au (Ax σ.fr s (some g0)) k=if k=s then some g0 else Au σ.fr k:=λk=>by
  rw[B7]
  by_cases e:k=s
  ·rw[if_pos ⟨e,hlt⟩,if_pos e]
  ·rw[if_neg (λh=>e h.1),if_neg e]
 refine⟨⟨hs.st.base,hs.st.heap,λq=>?_,hs.st.size,hs.st.defers⟩,by show (Ax σ.fr s _).length=N;rw[As,List.length_set];exact hs.len,⟨λq g hq i hi=>?_,λq g i hq hi=>?_,λq g i hq hi=>?_⟩,hs.ge⟩
 ·have hsl:=hs.st.slot q
  show Bk E w a q ((Au (Ax σ.fr s (some g0)) q).map λg=>(Ac σ.gm g.tg,g.v));rw[hget];simp only[Ba]at hsl
  by_cases e:q=s
  ·subst e
   rw[if_pos rfl];rw[hslot]at hsl;simp only[Option.map_some,Bk,htg,Ac,List.filterMap_nil,Bh,g0]at hsl ⊢;exact⟨hsl.1,λ_=>hrel _ (hsl.2.1 trivial),λh=>absurd trivial h⟩
  ·rw[if_neg e]
   exact hsl
 ·have hq:Au (Ax σ.fr s (some g0)) q=some g:=hq
  rw[hget]at hq
  split at hq
  ·cases hq;cases hi
  ·exact hs.wf.tg q g hq i hi
 ·have hq:Au (Ax σ.fr s (some g0)) q=some g:=hq
  rw[hget]at hq
  split at hq
  ·cases hq;cases hi
  ·exact hs.wf.gt q g i hq hi
 ·have hq:Au (Ax σ.fr s (some g0)) q=some g:=hq
  rw[hget]at hq
  split at hq
  ·cases hq;cases hi
  ·exact hs.wf.gf q g i hq hi
theorem StY.frz{cx:Cx}{B:Bs}{N:Nat}{E:Env}{a:Act}{w:World}{σ:Sy}{s n sz hd:Nat}{rows:List (List SV)}{f:Nat->List SV}(hs:StY B N E a w σ)(h:Al0 cx σ s=some (n,sz,rows,hd))(hf:Vh f rows):∃E',StY B N E' a w ⟨Ax σ.fr s (some ⟨[],none,none,.rarr n sz f⟩),Ax σ.hp hd .gone,σ.gm⟩:=by
 unfold Al0 at h
 split at h
 ·rename_i gt gf h0 hslot
  split at h
  ·rename_i T cs hh
   split at h
   ·split at h
    ·split at h
     ·rename_i hb
      simp only[Option.some.injEq,Prod.mk.injEq]at h;obtain⟨rfl,rfl,rfl,rfl⟩:=h;rename_i n e _ _ _ _ _ sz _;simp only[Bool.and_eq_true,beq_iff_eq,Ae]at hb;obtain⟨hlen,hpl⟩:=hb;rw[Cw]at hpl;have hbase:=hs.st.base;have hk:=hs.st.heap h0;rw[Bv hh]at hk;obtain⟨b,C,k1,k2,k3,k4,k5,k6,k7⟩:=hk;have hrow:∀i,i<n->f i=(cs.drop (i * sz)).take sz:=by
       intro i hi;have:(chunks sz n cs)[i]?=some (Bf sz (C3 (i * sz) cs)):=Qg n i cs hi;rw[hf.h i _ this,A9,Bo]
      let E':Env:=⟨E.β,E.τ,E.O,E.κ,E.ζ,λb' o=>E.I b' o\/(b'=b/\o<C.size)⟩
      have hx:Ext E w E' w:=⟨λ_ _ h=>h,λ_ _ h=>.inl h,λ_ _ h=>h,λ_ _ h=>h,λ_ _ h=>.inl h,λ_ _ _=>rfl⟩;have hlt:s<σ.fr.length:=by
       rcases Nat.lt_or_ge s σ.fr.length with h|h
       ·exact h
       ·rw[Dz,List.getElem?_eq_none h]at hslot;cases hslot
      let g0:G:=⟨[],none,none,.rarr n sz f⟩
      have hget:∀k,Au (Ax σ.fr s (some g0)) k=if k=s then some g0 else Au σ.fr k:=λk=>by
       rw[B7]
       by_cases e:k=s
       ·rw[if_pos ⟨e,hlt⟩,if_pos e]
       ·rw[if_neg (λh=>e h.1),if_neg e]
      have hidx:∀i j,i<n->j<sz->i * sz+j<C.size:=by
       intro i j hi hj;have:(i+1) * sz<=n * sz:=Nat.mul_le_mul_right _ hi;rw[Nat.add_mul]at this;omega
      have hC:∀i j,i<n->j<sz->C[i * sz+j]?=some (C.getD (i * sz+j) undef):=by
       intro i j hi hj;have:=hidx i j hi hj;rw[Array.getD_eq_getD_getElem?,Array.getElem?_eq_getElem this];rfl
      have hcell:∀o,w.cell? ⟨b,o,none⟩=C[o]?:=λo=>cell_of_row w b o C T (0,0) k3;have hro:RO E'.I w (.rarr n sz f) (.pointer (some ⟨b,0,none⟩)):=by
       refine .rarr (λi j=>C.getD (i * sz+j) undef) rfl (λi hi=>?_) (λi j hi hj=>k6 _ (Array.mem_of_getElem? (hC i j hi hj))) (λi j hi hj=>⟨?_,?_⟩) (λi j q hi hq=>?_)
       ·rw[hrow i hi]
        have:(i+1) * sz<=n * sz:=Nat.mul_le_mul_right _ hi;rw[Nat.add_mul]at this;simp;omega
       ·simp only[Nat.zero_add];rw[hcell,hC i j hi hj]
       ·simp only[Nat.zero_add];exact .inr ⟨rfl,hidx i j hi hj⟩
       ·rw[hrow i hi,List.getElem?_take]at hq
        split at hq
        ·rename_i hj
         rw[List.getElem?_drop]at hq;have hv:=hC i j hi hj;exact ((k5 _ _ _ hq hv).plainOne (hpl _ (List.mem_of_getElem? hq)) (k6 _ (Array.mem_of_getElem? hv))).mono hx.I hx.cell
        ·cases hq
      refine⟨E',⟨⟨⟨hbase.os,hbase.tape,hbase.output,hbase.size,hbase.old,λb' o hi=>?_,λb' o hi=>?_,λb' o hi=>?_,hbase.Obd,hbase.β0.ext hx⟩,λk=>?_,λq=>?_,hs.st.size,hs.st.defers⟩,by show (Ax σ.fr s _).length=N;rw[As,List.length_set];exact hs.len,⟨λq g hq i hi=>?_,λq g i hq hi=>?_,λq g i hq hi=>?_⟩,λk hk=>?_⟩⟩
      ·obtain⟨i1,i2⟩:=hbase.I0 b' o hi;exact⟨.inl i1,i2⟩
      ·rcases hi with hi|⟨rfl,_⟩
       ·exact hbase.Ibd b' o hi
       ·exact A5 hbase k2
      ·rcases hi with hi|⟨rfl,_⟩
       ·exact hbase.Inew b' o hi
       ·exact .inr (hbase.Obd b' h0 k2).2
      ·simp only[Aq,Ag,As]
       by_cases e:k=h0
       ·subst e
        rw[List.getElem?_set];simp only[if_pos]
        split
        ·trivial
        ·have:k<σ.hp.length:=by rw[Ag]at hh;exact (List.getElem?_eq_some_iff.1 hh).1
         rename_i hno;exact absurd (by simpa using this) hno
       ·rw[List.getElem?_set_ne (λh=>e h.symm)]
        have hkk:=hs.st.heap k;simp only[Aq,Ag]at hkk;refine HOk.keep hx hkk rfl rfl rfl rfl λb' hO=>⟨hO,rfl,λo hi=>?_⟩;rcases hi with hi|⟨rfl,_⟩
        ·exact hi
        ·rw[k2]at hO;exact absurd (Option.some.inj hO).symm e
      ·have hsl:=hs.st.slot q
       show Bk E' w a q ((Au (Ax σ.fr s (some g0)) q).map λg=>(Ac σ.gm g.tg,g.v));rw[hget];simp only[Ba]at hsl
       by_cases e:q=s
       ·subst e
        rw[if_pos rfl];rw[hslot]at hsl;simp only[Option.map_some,Bk,Ac,List.filterMap_nil,Bh,g0]at hsl ⊢;refine⟨hsl.1,λ_=>?_,λh=>absurd trivial h⟩;obtain⟨b',e1,e2⟩:=(hsl.2.1 trivial).ptr_inv;obtain rfl:b=b':=Option.some.inj (k1.symm.trans e1);rw[e2];exact .ro hro
       ·rw[if_neg e]
        cases hg:Au σ.fr q with
        |none=>trivial
        |some g =>
         rw[hg]at hsl;simp only[Option.map_some,Bk]at hsl ⊢;exact⟨hsl.1,λhc=>(hsl.2.1 hc).mono hx,hsl.2.2⟩
      ·have hq:Au (Ax σ.fr s (some g0)) q=some g:=hq
       rw[hget]at hq
       split at hq
       ·cases hq;cases hi
       ·exact hs.wf.tg q g hq i hi
      ·have hq:Au (Ax σ.fr s (some g0)) q=some g:=hq
       rw[hget]at hq
       split at hq
       ·cases hq;cases hi
       ·exact hs.wf.gt q g i hq hi
      ·have hq:Au (Ax σ.fr s (some g0)) q=some g:=hq
       rw[hget]at hq
       split at hq
       ·cases hq;cases hi
       ·exact hs.wf.gf q g i hq hi
      ·simp only[As,List.length_set]
       exact hs.ge k hk
     ·cases h
    ·cases h
   ·cases h
  ·cases h
 ·cases h
theorem StY.unrow{B:Bs}{N:Nat}{E:Env}{a:Act}{w:World}{σ:Sy}{s sz hd:Nat}{ty:TypeId}{n:ST}{f:Nat->List SV}{cs:List SV}(hs:StY B N E a w σ)(h:X2 σ s=some (ty,n,sz,f,hd))(hf:Ajl f n.den sz cs):StY B N E a w ⟨σ.fr,Ax σ.hp hd (.blk ty cs),σ.gm⟩:=by
 unfold X2 at h
 split at h
 ·rename_i gt gf h0 hslot
  split at h
  ·rename_i ty n sz f hh
   simp only[Option.some.injEq,Prod.mk.injEq]at h;obtain⟨rfl,rfl,rfl,rfl,rfl⟩:=h;have hk:=hs.st.heap h0;rw[Bv hh]at hk;obtain⟨b,C,m,k1,k2,k3,k4,k5,k6,k7,⟨r1,r2,r3,r4⟩,k9⟩:=hk;have hlen:cs.length=m * sz:=by
    have:=hf.len;rw[k6]at this
    exact_mod_cast this
   refine⟨⟨hs.st.base,λk=>?_,hs.st.slot,hs.st.size,hs.st.defers⟩,hs.len,⟨hs.wf.tg,hs.wf.gt,hs.wf.gf⟩,λk hk=>?_⟩
   ·simp only[Aq,Ag,As]
    by_cases e:k=h0
    ·subst e
     have hlt:k<σ.hp.length:=by rw[Ag]at hh;exact (List.getElem?_eq_some_iff.1 hh).1
     rw[List.getElem?_set];simp only[if_pos,hlt,Option.getD_some];refine⟨b,C,k1,k4,k5,by rw[r1,hlen],λi s v p q=>?_,r4,k9⟩;have hi:i<m * sz:=by rw[<-hlen];exact (List.getElem?_eq_some_iff.1 p).1
     have hsz:0<sz:=by
      rcases Nat.eq_zero_or_pos sz with h|h
      ·rw[h]at hi;simp at hi
      ·exact h
     have hq:i / sz<m:=by rw[Nat.div_lt_iff_lt_mul hsz];exact hi
     have hr:=Nat.mod_lt i hsz;have hrow:=hf.h (i / sz) (by rw[k6];exact_mod_cast hq);have e1:(f (i / sz))[i % sz]?=some s:=by
      rw[hrow,List.getElem?_take,if_pos hr,List.getElem?_drop];have:i / sz * sz+i % sz=i:=by rw[Nat.mul_comm];exact Nat.div_add_mod i sz
      rw[this];exact p
     have e2:C[i / sz * sz+i % sz]?=some v:=by
      have:i / sz * sz+i % sz=i:=by rw[Nat.mul_comm];exact Nat.div_add_mod i sz
      rw[this];exact q
     exact .ro (r3 _ _ _ _ hq e1 e2)
    ·rw[List.getElem?_set_ne (λh=>e h.symm)]
     have hkk:=hs.st.heap k;simp only[Aq,Ag]at hkk;exact hkk
   ·simp only[As,List.length_set]
    exact hs.ge k hk
  ·cases h
 ·cases h
theorem StY.reval{B:Bs}{N:Nat}{E:Env}{a:Act}{w:World}{σ:Sy}{s:Nat}{x:SV}(hs:StY B N E a w σ)(key:∃g,Au σ.fr s=some g/\g.tg=[]/\∀v,Rel E w g.v v->Rel E w x v):
  StY B N E a w ⟨Ax σ.fr s (some ⟨[],none,none,x⟩),σ.hp,σ.gm⟩:=by
 obtain⟨g,hslot,htg,hrel⟩:=key;have hlt:s<σ.fr.length:=by
  rcases Nat.lt_or_ge s σ.fr.length with h|h
  ·exact h
  ·rw[Dz,List.getElem?_eq_none h]at hslot;cases hslot
 let g0:G:=⟨[],none,none,x⟩
 have hget:∀k,Au (Ax σ.fr s (some g0)) k=if k=s then some g0 else Au σ.fr k:=λk=>by
  rw[B7]
  by_cases e:k=s
  ·rw[if_pos ⟨e,hlt⟩,if_pos e]
  ·rw[if_neg (λh=>e h.1),if_neg e]
 refine⟨⟨hs.st.base,hs.st.heap,λq=>?_,hs.st.size,hs.st.defers⟩,by show (Ax σ.fr s _).length=N;rw[As,List.length_set];exact hs.len,⟨λq g hq i hi=>?_,λq g i hq hi=>?_,λq g i hq hi=>?_⟩,hs.ge⟩
 ·have hsl:=hs.st.slot q
  show Bk E w a q ((Au (Ax σ.fr s (some g0)) q).map λg=>(Ac σ.gm g.tg,g.v));rw[hget];simp only[Ba]at hsl
  by_cases e:q=s
  ·subst e
   rw[if_pos rfl];rw[hslot]at hsl;simp only[Option.map_some,Bk,htg,Ac,List.filterMap_nil,Bh,g0]at hsl ⊢;exact⟨hsl.1,λ_=>hrel _ (hsl.2.1 trivial),λh=>absurd trivial h⟩
  ·rw[if_neg e]
   exact hsl
 ·have hq:Au (Ax σ.fr s (some g0)) q=some g:=hq
  rw[hget]at hq
  split at hq
  ·cases hq;cases hi
  ·exact hs.wf.tg q g hq i hi
 ·have hq:Au (Ax σ.fr s (some g0)) q=some g:=hq
  rw[hget]at hq
  split at hq
  ·cases hq;cases hi
  ·exact hs.wf.gt q g i hq hi
 ·have hq:Au (Ax σ.fr s (some g0)) q=some g:=hq
  rw[hget]at hq
  split at hq
  ·cases hq;cases hi
  ·exact hs.wf.gf q g i hq hi
theorem StY.blit{B:Bs}{N:Nat}{E:Env}{a:Act}{w:World}{σ:Sy}{s:Nat}{c:BT}{b:Bool}(hs:StY B N E a w σ)(h:Aer σ s=some c)(hb:BIs c.den b):
  StY B N E a w ⟨Ax σ.fr s (some ⟨[],none,none,.bool (.l b)⟩),σ.hp,σ.gm⟩:=by
 refine hs.reval ?_;unfold Aer at h
 split at h
 ·rename_i gt gf c' hg
  cases h;exact⟨_,hg,rfl,λv hv=>by rw[hv.bool_inv];exact .ro (.bool (by simp only[BT.den];exact hb.h.symm))⟩
 ·cases h
theorem StY.ilit{B:Bs}{N:Nat}{E:Env}{a:Act}{w:World}{σ:Sy}{s:Nat}{k:IntKind}{c:ST}{n:Int}(hs:StY B N E a w σ)(h:Ad4 σ s=some (k,c))(hb:IIs c.den n):
  StY B N E a w ⟨Ax σ.fr s (some ⟨[],none,none,.int k (.l n)⟩),σ.hp,σ.gm⟩:=by
 refine hs.reval ?_;unfold Ad4 at h
 split at h
 ·rename_i gt gf k' c' hg
  cases h;exact⟨_,hg,rfl,λv hv=>by rw[hv.int_inv];exact .ro (.int (by simp only[ST.den];exact hb.h.symm))⟩
 ·cases h
theorem StY.vnil{B:Bs}{N:Nat}{E:Env}{a:Act}{w:World}{σ:Sy}{s k0 h hb:Nat}{T e:TypeId}{cs:List SV}{g:ST}{sz:Nat}{f:Nat->List SV}{g':Int}(hs:StY B N E a w σ)(hv:Acq σ s k0 h=some (hb,T,cs,e,g,sz,f))(hg:Ag0 g' g.den):
  ∃E',StY B N E' a w ⟨σ.fr,Ax (Ax σ.hp hb (.blk T (Ax cs k0 (.vsl (.l true) (.l 0) (.a g') h)))) h (.vec e (.l 0) (.a g') sz f),σ.gm⟩:=by
 unfold Acq at hv
 split at hv
 ·rename_i gt gf hb' hslot
  split at hv
  ·rename_i T' cs' e' n0 g1 sz1 f1 hhb hh
   split at hv
   ·rename_i sz' f' hcs
    split at hv
    ·cases hv
     have hbase:=hs.st.base;have hne:hb≠h:=by rintro rfl;rw[hhb]at hh;cases hh
     have hk:=hs.st.heap h;rw[Bv hh]at hk;obtain⟨a0,c0,m,G,xs,k1,k2,k3,kg,k4,k5,k6⟩:=hk;have hgG:g'=((G+1:Nat):Int):=by have:=hg.h;omega
     let E':Env:=⟨E.β,upd E.τ h (some (.slice none (G+1) 0)),E.O,E.κ,E.ζ,E.I⟩
     have hx:Ext E w E' w:=by
      refine⟨λ_ _ h=>h,λk v hk=>?_,λ_ _ h=>h,λ_ _ h=>h,λ_ _ h=>h,λ_ _ _=>rfl⟩;show upd E.τ h (some (.slice none (G+1) 0)) k=some v\/∃a m' c a' m'' c',v=.slice a m' c/\upd E.τ h (some (.slice none (G+1) 0)) k=some (.slice a' m'' c')/\m'<m'';unfold upd
      by_cases e:k=h
      ·subst e
       rw[if_pos rfl];rw[k1]at hk;cases hk;exact .inr ⟨_,G,_,none,G+1,0,rfl,rfl,Nat.lt_succ_self _⟩
      ·rw[if_neg e];exact .inl hk
     have hlb:hb<σ.hp.length:=by rw[Ag]at hhb;exact (List.getElem?_eq_some_iff.1 hhb).1
     have hld:h<σ.hp.length:=by rw[Ag]at hh;exact (List.getElem?_eq_some_iff.1 hh).1
     have hkb:=hs.st.heap hb;rw[Bv hhb]at hkb;obtain⟨b,C,q1,q2,q3,q4,q5,q6,q7⟩:=hkb;refine⟨E',⟨⟨⟨hbase.os,hbase.tape,hbase.output,hbase.size,hbase.old,hbase.I0,hbase.Ibd,hbase.Inew,hbase.Obd,hbase.β0.ext hx⟩,λk=>?_,λq=>?_,hs.st.size,hs.st.defers⟩,hs.len,⟨hs.wf.tg,hs.wf.gt,hs.wf.gf⟩,λk hk=>?_⟩⟩
     ·simp only[Aq,Ag,As]
      by_cases e:k=h
      ·subst e
       rw[List.getElem?_set_self (by simpa using hld)];exact⟨none,0,0,G+1,[],by simp[E',upd],⟨by simp,.inl ⟨rfl,rfl⟩⟩,rfl,by simp only[ST.den];exact hgG,by simp,⟨by intro i hi;omega,by intro i j s u hi;omega⟩,λb hb=>by simp[Value.ownBlock]at hb⟩
      ·rw[List.getElem?_set_ne (λh=>e h.symm)]
       by_cases e2:k=hb
       ·subst e2
        rw[List.getElem?_set_self hlb];simp only[Option.getD_some];refine⟨b,C,q1,q2,q3,by rw[List.length_set];exact q4,λi s' u a c=>?_,q6,q7⟩;rw[List.getElem?_set]at a;rw[Ag]at hcs
        split at a
        ·rename_i hik
         split at a
         ·cases a
          subst hik;have hr:=(q5 k0 _ u hcs c).sl_inv;rcases hr.sl_inv with⟨e1,_,_⟩|⟨_,_,_,_,_,e1,_⟩
          ·rw[e1]
           exact .vsl ⟨none,0,0,rfl,rfl,by simp[BT.den]⟩ ⟨none,G+1,0,by simp[E',upd],by simp only[ST.den];omega,λ_=>⟨0,rfl,rfl⟩⟩
          ·simp[BT.den]at e1
         ·cases a
        ·exact (q5 i s' u a c).mono hx
       ·rw[List.getElem?_set_ne (λh=>e2 h.symm)]
        have hkk:=hs.st.heap k;simp only[Aq,Ag]at hkk;exact HOk.keep hx hkk rfl (by simp[E',upd,e]) rfl rfl λb' hO=>⟨hO,rfl,λo hi=>hi⟩
     ·have hsl:=hs.st.slot q
      simp only[Ba]at hsl ⊢;cases hg:Au σ.fr q with
      |none=>trivial
      |some g =>
       rw[hg]at hsl;simp only[Option.map_some,Bk]at hsl ⊢;exact⟨hsl.1,λhc=>(hsl.2.1 hc).mono hx,hsl.2.2⟩
     ·simp only[As,List.length_set]
      exact hs.ge k hk
    ·cases hv
   ·cases hv
  ·cases hv
 ·cases hv
theorem Ck.weak{w:World}{gr:Bool}{e:TypeId}{sz m:Nat}{v:Value}{xs:List Value}(h:Ck w gr e sz v m xs):Ck w false e sz v m xs:=by
 refine⟨h.1,?_⟩;rcases h.2 with h|⟨g,cap,cur,fr,h1,h2,h3,h4⟩
 ·exact .inl h
 ·exact .inr ⟨g,cap,cur,fr,h1,h2,h3.imp (λh=>h) λh=>⟨rfl,h.2⟩,h4⟩
theorem StY.vmov{B:Bs}{N:Nat}{E:Env}{a:Act}{w:World}{σ:Sy}{s k0 h hb h2:Nat}{T e:TypeId}{cs:List SV}{nl:BT}{n n0 g:ST}{sz:Nat}{f:Nat->List SV}{g':Int}(hs:StY B N E a w σ)(hv:Acr σ s k0 h=some (hb,T,cs,h2,nl,n,n0,e,g,sz,f))(hnn:n.den=n0.den)(hg:Ag0 g' g.den):
  ∃E',StY B N E' a w ⟨σ.fr,Ax (Ax (Ax σ.hp hb (.blk T (Ax cs k0 (.vsl nl n (.a g') h)))) h (.vec e n0 (.a g') sz f)) h2 .gone,σ.gm⟩:=by
 unfold Acr at hv
 split at hv
 ·rename_i gt gf hb' hslot
  split at hv
  ·rename_i T' cs' e' n1 g1 sz1 f1 hhb hh
   split at hv
   ·rename_i nl' n' h2' hcs
    split at hv
    ·rename_i e2 n2 sz2 gr f2 hh2
     split at hv
     ·rename_i hbe
      cases hv;simp only[Bool.and_eq_true,beq_iff_eq]at hbe;obtain⟨rfl,rfl⟩:=hbe;have hbase:=hs.st.base;have hne:hb≠h:=by rintro rfl;rw[hhb]at hh;cases hh
      have hne2:h≠h2:=by rintro rfl;rw[hh]at hh2;cases hh2
      have hne3:hb≠h2:=by rintro rfl;rw[hhb]at hh2;cases hh2
      have hk:=hs.st.heap h;rw[Bv hh]at hk;obtain⟨a0,c0,m0,G,xs0,j1,j2,j3,jg,j4,j5,j6⟩:=hk;have hk2:=hs.st.heap h2;rw[Bv hh2]at hk2;obtain⟨v,m,xs,k1,kz,k2,k3,k4,k5,k6⟩:=hk2;obtain⟨av,cv,hv⟩:=k2.shape;have hgG:g'=((G+1:Nat):Int):=by have:=hg.h;omega
      let E':Env:=⟨E.β,upd E.τ h (some (.slice av (G+1) cv)),λb=>if v.ownBlock=some b then some h else E.O b,E.κ,E.ζ,E.I⟩
      have hx:Ext E w E' w:=by
       refine⟨λ_ _ h=>h,λk v hk=>?_,λ_ _ h=>h,λ_ _ h=>h,λ_ _ h=>h,λ_ _ _=>rfl⟩;show upd E.τ h (some (.slice av (G+1) cv)) k=some v\/∃a m' c a' m'' c',v=.slice a m' c/\upd E.τ h (some (.slice av (G+1) cv)) k=some (.slice a' m'' c')/\m'<m'';unfold upd
       by_cases e:k=h
       ·subst e
        rw[if_pos rfl];rw[j1]at hk;cases hk;exact .inr ⟨_,G,_,av,G+1,cv,rfl,rfl,Nat.lt_succ_self _⟩
       ·rw[if_neg e];exact .inl hk
      have hlb:hb<σ.hp.length:=by rw[Ag]at hhb;exact (List.getElem?_eq_some_iff.1 hhb).1
      have hld:h<σ.hp.length:=by rw[Ag]at hh;exact (List.getElem?_eq_some_iff.1 hh).1
      have hl2:h2<σ.hp.length:=by rw[Ag]at hh2;exact (List.getElem?_eq_some_iff.1 hh2).1
      have hkb:=hs.st.heap hb;rw[Bv hhb]at hkb;obtain⟨b,C,q1,q2,q3,q4,q5,q6,q7⟩:=hkb;have hOne:∀b' k,E.O b'=some k->k≠h2->E'.O b'=some k:=by
       intro b' k hO hk;show (if v.ownBlock=some b' then some h else E.O b')=some k;rw[if_neg]
       ·exact hO
       ·intro hbb
        have:=(k6 b' hbb).1;rw[hO]at this;exact hk (Option.some.inj this)
      refine⟨E',⟨⟨⟨hbase.os,hbase.tape,hbase.output,hbase.size,hbase.old,hbase.I0,hbase.Ibd,hbase.Inew,λb' k hO=>?_,hbase.β0.ext hx⟩,λk=>?_,λq=>?_,hs.st.size,hs.st.defers⟩,hs.len,⟨hs.wf.tg,hs.wf.gt,hs.wf.gf⟩,λk hk=>?_⟩⟩
      ·have hO:(if v.ownBlock=some b' then some h else E.O b')=some k:=hO
       split at hO
       ·rename_i hbb
        exact hbase.Obd b' h2 (k6 b' hbb).1
       ·exact hbase.Obd b' k hO
      ·simp only[Aq,Ag,As]
       by_cases e3:k=h2
       ·subst e3
        rw[List.getElem?_set_self (by simpa using hl2)]
        trivial
       rw[List.getElem?_set_ne (λh=>e3 h.symm)]
       by_cases e:k=h
       ·subst e
        rw[List.getElem?_set_self (by simpa using hld)];subst hv;exact⟨av,cv,m,G+1,xs,by simp[E',upd],k2.weak,k3,by simp only[ST.den];exact hgG,k4,k5,λb' hb'=>⟨by show (if _ then _ else _)=_;rw[if_pos hb'],(k6 b' hb').2⟩⟩
       ·rw[List.getElem?_set_ne (λh=>e h.symm)]
        by_cases e2:k=hb
        ·subst e2
         rw[List.getElem?_set_self hlb];simp only[Option.getD_some];refine⟨b,C,q1,hOne _ _ q2 e3,q3,by rw[List.length_set];exact q4,λi s' u a c=>?_,q6,q7⟩;rw[List.getElem?_set]at a;rw[Ag]at hcs
         split at a
         ·rename_i hik
          split at a
          ·cases a
           subst hik;obtain⟨hu,hnl⟩:=F2 (q5 k0 _ u hcs c) k1 k2 k3 hnn;rw[hu,hv];refine .vsl ⟨av,m,cv,rfl,by rw[hnn,k3],?_⟩ ⟨av,G+1,cv,by simp[E',upd],by simp only[ST.den];omega,λ_=>⟨m,by rw[hnn,k3],rfl⟩⟩;rw[hnl,hv];constructor
           ·intro h;simp only[Value.slice.injEq]at h;exact h.1
           ·rintro rfl
            rcases k2.2 with⟨h1,_⟩|⟨g,cap,cur,fr,h1,_⟩
            ·rw[<-hv];exact h1
            ·rw[hv]at h1;simp at h1
          ·cases a
         ·exact (q5 i s' u a c).mono hx
        ·rw[List.getElem?_set_ne (λh=>e2 h.symm)]
         have hkk:=hs.st.heap k;simp only[Aq,Ag]at hkk;exact HOk.keep hx hkk rfl (by simp[E',upd,e]) rfl rfl λb' hO=>⟨hOne _ _ hO e3,rfl,λo hi=>hi⟩
      ·have hsl:=hs.st.slot q
       simp only[Ba]at hsl ⊢;cases hg:Au σ.fr q with
       |none=>trivial
       |some g =>
        rw[hg]at hsl;simp only[Option.map_some,Bk]at hsl ⊢;exact⟨hsl.1,λhc=>(hsl.2.1 hc).mono hx,hsl.2.2⟩
      ·simp only[As,List.length_set]
       exact hs.ge k hk
     ·cases hv
    ·cases hv
   ·cases hv
  ·cases hv
 ·cases hv
theorem StY.ghosts{cx:Cx}(hD:cx.D=dn){B:Bs}{N:Nat}{a:Act}{w:World}{K:Sy->Prop}:∀(l:List Gh) {E:Env} {σ:Sy},StY B N E a w σ->Sx.ghosts cx l σ K->∃E' σ',StY B N E' a w σ'/\K σ'
 | [],E,σ,hs,h=>⟨E,σ,hs,h⟩
 |g :: l,E,σ,hs,h=>by
  cases g with
  |tot s =>
   simp only[Sx.ghosts]at h
   split at h
   ·rename_i nl n sz f ht
    obtain⟨f2,he,h⟩:=h;rw[hD]at he;exact StY.ghosts hD l (hs.tot ht he) h
   ·exact h.elim
  |blit s =>
   simp only[Sx.ghosts]at h
   split at h
   ·rename_i c ht
    obtain⟨b,hb,h⟩:=h;rw[hD]at hb;exact StY.ghosts hD l (hs.blit ht hb) h
   ·exact h.elim
  |ilit s =>
   simp only[Sx.ghosts]at h
   split at h
   ·rename_i k c ht
    obtain⟨n,hn,h⟩:=h;rw[hD]at hn;exact StY.ghosts hD l (hs.ilit ht hn) h
   ·exact h.elim
  |vnil s k h0 =>
   simp only[Sx.ghosts]at h
   split at h
   ·rename_i hb T cs e g sz f ht
    rw[hD]at h;obtain⟨E1,hs1⟩:=hs.vnil ht (g':=g.den+1) ⟨rfl⟩;exact StY.ghosts hD l hs1 (h _ ⟨rfl⟩)
   ·exact h.elim
  |vmov s k h0 =>
   simp only[Sx.ghosts]at h
   split at h
   ·rename_i hb T cs h2 nl n n0 e g sz f ht
    rw[hD]at h;obtain⟨hq,h⟩:=h;obtain⟨E1,hs1⟩:=hs.vmov ht hq.h (g':=g.den+1) ⟨rfl⟩;exact StY.ghosts hD l hs1 (h _ ⟨rfl⟩)
   ·exact h.elim
  |unrow s =>
   simp only[Sx.ghosts]at h
   split at h
   ·rename_i ty n sz f h0 ht
    obtain⟨cs,hf,h⟩:=h;rw[hD]at hf;exact StY.ghosts hD l (hs.unrow ht hf) h
   ·exact h.elim
  |frz s =>
   simp only[Sx.ghosts]at h
   split at h
   ·rename_i n sz rows h0 ht
    obtain⟨f,hf,h⟩:=h;obtain⟨E1,hs1⟩:=hs.frz ht hf;exact StY.ghosts hD l hs1 h
   ·exact h.elim
  |freeze s =>
   simp only[Sx.ghosts]at h;obtain⟨hp,h⟩:=h
   split at h
   ·rename_i σ1 h1
    obtain⟨E1,hs1⟩:=hs.freeze h1;exact StY.ghosts hD l hs1 h
   ·exact h.elim
  |attach s e =>
   simp only[Sx.ghosts]at h;obtain⟨hp,h⟩:=h
   split at h
   ·rename_i σ1 h1
    obtain⟨E1,hs1⟩:=hs.attach h1;exact StY.ghosts hD l hs1 h
   ·exact h.elim
  |hold s k e =>
   simp only[Sx.ghosts]at h;obtain⟨hp,h⟩:=h
   split at h
   ·rename_i σ1 h1
    obtain⟨E1,hs1⟩:=hs.hold h1;exact StY.ghosts hD l hs1 h
   ·exact h.elim
  |own s e =>
   simp only[Sx.ghosts]at h;obtain⟨hp,h⟩:=h
   split at h
   ·rename_i σ1 h1
    obtain⟨E1,hs1⟩:=hs.own h1;exact StY.ghosts hD l hs1 h
   ·exact h.elim
  |share s =>
   simp only[Sx.ghosts]at h;obtain⟨hp,h⟩:=h
   split at h
   ·rename_i σ1 h1
    obtain⟨E1,hs1⟩:=hs.share hD hp h1;exact StY.ghosts hD l hs1 h
   ·exact h.elim
  |bld s e =>
   simp only[Sx.ghosts]at h;obtain⟨hp,h⟩:=h
   split at h
   ·rename_i σ1 h1
    obtain⟨E1,hs1⟩:=hs.bld h1;exact StY.ghosts hD l hs1 h
   ·exact h.elim
  |vec s e =>
   simp only[Sx.ghosts]at h;obtain⟨hp,h⟩:=h
   split at h
   ·rename_i σ1 h1
    obtain⟨E1,hs1⟩:=hs.vec h1;exact StY.ghosts hD l hs1 h
   ·exact h.elim
  |vecb s k e =>
   simp only[Sx.ghosts]at h;obtain⟨hp,h⟩:=h
   split at h
   ·rename_i σ1 h1
    obtain⟨E1,hs1⟩:=hs.vecb h1;exact StY.ghosts hD l hs1 h
   ·exact h.elim
  |vshare s =>
   simp only[Sx.ghosts]at h;obtain⟨hp,h⟩:=h
   split at h
   ·rename_i σ1 h1
    obtain⟨E1,hs1⟩:=StY.vshare hD hs hp h1;exact StY.ghosts hD l hs1 h
   ·exact h.elim
  |vshareb s k =>
   simp only[Sx.ghosts]at h;obtain⟨hp,h⟩:=h
   split at h
   ·rename_i σ1 h1
    obtain⟨E1,hs1⟩:=StY.vshareb hD hs hp h1;exact StY.ghosts hD l hs1 h
   ·exact h.elim
theorem StY.ghostK{cx:Cx}(hD:cx.D=dn){B:Bs}{N:Nat}{E:Env}{a:Act}{w:World}{id:Nat}{σ:Sy}{K:Sy->Prop}(hs:StY B N E a w σ)(h:Sx.ghostK cx id σ K):∃E' σ',StY B N E' a w σ'/\K σ':=by
 unfold Sx.ghostK at h
 split at h
 ·exact⟨E,σ,hs,h⟩
 ·exact hs.ghosts hD _ h
end Go.Sx
