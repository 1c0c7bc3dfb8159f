/- A part of the proof: contracts of functions, or the executor and its soundness. No conditions. -/
import Derived.RangeFuncRecord
import Derived.Test.YtdoogdbjiijifaaGreatDoorE7Pak
namespace Go.Sx
open Go
section
variable {P:Program} {cx:Cx}
def CG(K:Ex->Sy->Prop)(σ:Sy):Exit->Prop
 |.normal=>K .normal σ
 |.exit i=>K (.exit i) σ
 |.goto l=>K (.goto l) σ
 |.ret=>K .ret σ
 |_=>False
def Re(P:Program):Prop:=∀(ro:Option Nat) (nn:Nat) (gl:List (Nat×SV)) (id:Nat) (ops:Array Oper) (B:Bs) (N:Nat) (σ aJ:Sy) (rs:List (Option (Sy×List Nat×Out))),Ep B gl->mh P gl ops.toList ops.toList σ rs aJ->G7 ops.toList 0=true->
 indep ops.toList (If ops.toList []) ops.toList (rs.map uL) 0=true->∀(Q:Exit->Act->World->Prop) (E:Env) (a:Act) (w:World),bX B N E a w σ->(∀E' a' w',bX B N E' a' w' aJ->Q .normal a' w')->(Code.region id ops true).wpIn (Fr ro) nn P Q a w
theorem Fx{p:Nat->Prop}(h:∃n,p n):∃n,p n/\∀m,p m->n<=m:=by
 obtain⟨n,hn⟩:=h
 induction n using Nat.strongRecOn with
 |_ n ih =>
  by_cases hm:∃m,m<n/\p m
  .obtain⟨m,h1,h2⟩:=hm;exact ih m h1 h2
  .exact⟨n,hn,λm h=>UF λaA=>hm ⟨m,aA,h⟩⟩
theorem Abk{ro:Option Nat}{nn:Nat}{c:Code}{Q:Exit->Act->World->Prop}{a:Act}{w:World}(R:Nat->Act->World->Prop)(h0:∃n,R n a w)
  (round:∀n a w,R n a w->c.wpIn (Fr ro) nn P (Exit.then (λa' w'=>∃n',n'<n/\R n' a' w') Q) a w):(Code.loop c).wpIn (Fr ro) nn P Q a w:=by
 classical
 let μ:Act->World->Nat:=λa w=>if h:∃n,R n a w then Classical.choose (Fx h) else 0
 have GC:∀a w,(∃n,R n a w)->R (μ a w) a w/\∀m,R m a w->μ a w<=m:=by
  intro a w h;have:μ a w=Classical.choose (Fx h):=by simp only[μ];rw[dif_pos h]
  rw[this];exact Classical.choose_spec (Fx h)
 refine wpIn_loop (λa w=>∃n,R n a w) μ h0 λa w hI=>?_;obtain⟨h1,h2⟩:=GC a w hI;refine wpIn_mono (round _ a w h1) λe a' w' hq=>?_;cases e with
 |normal =>
  obtain⟨n',aA,hr⟩:=hq;exact⟨⟨n',hr⟩,Nat.lt_of_le_of_lt ((GC a' w' ⟨n',hr⟩).2 n' hr) aA⟩
 |_=>exact hq
def Cr(n:Nat)(E:Env):Env:=⟨λh=>if h<n then E.β h else none,λh=>if h<n then E.τ h else none,λb=>(E.O b).bind λh=>if h<n then some h else none,λh=>if h<n then E.κ h else none,λh=>if h<n then E.ζ h else none,E.I⟩
theorem H3(n:Nat):∀(cs:List SV),Bu.jR n cs=true↔∀c∈cs,Bu n c=true
 | []=>by simp[Bu.jR]
 |c :: cs=>by simp[Bu.jR,H3 n cs]
theorem Rel.cut{E:Env}{w:World}{n:Nat}{s:SV}{v:Value}(h:Rel E w s v)(hb:Bu n s=true):Rel (Cr n E) w s v:=by
 induction h with
 |ro h=>exact .ro h
 | @ptr h off b v rR hv =>
  simp only[Bu,ZM]at hb;exact .ptr (by simp[Cr,hb];exact rR) hv
 | @eD nl m sz f h v hr ht =>
  simp only[Bu,ZM]at hb;obtain⟨a,k,c,t1,t2⟩:=ht;exact .eD hr ⟨a,k,c,by simp[Cr,hb];exact t1,t2⟩
 |dM rR hm hv =>
  simp only[Bu,ZM]at hb;exact .dM (by simp[Cr,hb];exact rR) (by simp[Cr,hb];exact hm) hv
 |cU rR hz hv =>
  simp only[Bu,ZM]at hb;exact .cU (by simp[Cr,hb];exact rR) (by simp[Cr,hb];exact hz) hv
 |bY ht hk =>
  simp only[Bu,ZM]at hb;obtain⟨a,k,c,t1,t2⟩:=hk;exact .bY ht ⟨a,k,c,by simp[Cr,hb];exact t1,t2⟩
 |cK hv ho =>
  simp only[Bu,ZM]at hb;obtain⟨a,k,c,sz,t1,t2,t3⟩:=ho;exact .cK hv ⟨a,k,c,sz,by simp[Cr,hb];exact t1,by simp[Cr,hb];exact t2,t3⟩
 |jS ht hk =>
  simp only[Bu,ZM]at hb;obtain⟨a,k,c,sz,t1,t2,t3⟩:=hk;exact .jS ht ⟨a,k,c,sz,by simp[Cr,hb];exact t1,by simp[Cr,hb];exact t2,t3⟩
 |bP rR hv =>
  simp only[Bu,ZM]at hb;exact .bP (by simp[Cr,hb];exact rR) hv
 |fB ht hk =>
  simp only[Bu,ZM]at hb;obtain⟨a,k,c,t1,t2⟩:=hk;exact .fB ht ⟨a,k,c,by simp[Cr,hb];exact t1,t2⟩
 |yv rR hv =>
  simp only[Bu,ZM]at hb;exact .yv (by simp[Cr,hb];exact rR) hv
 |agg hl _ ih =>
  simp only[Bu]at hb;exact .agg hl λi s v h1 h2=>ih i s v h1 h2 ((H3 n _).1 hb s (QF h1))
 |tup hl _ ih =>
  simp only[Bu]at hb;exact .tup hl λi s v h1 h2=>ih i s v h1 h2 ((H3 n _).1 hb s (QF h1))
 |fI hl _ ih =>
  simp only[Bu]at hb;exact .fI hl λi s v h1 h2=>ih i s v h1 h2 ((H3 n _).1 hb s (QF h1))
theorem N0{n:Nat}:∀ {ls:List Hl},Fc n ls=true->∀ {i:Nat} {ty:TypeId} {cs:List SV},ls[i]?=some (.aE ty cs)->∀c∈cs,Bu n c=true
 | [],_,i,ty,cs,h=>by simp at h
 |l :: ls,hp,i,ty,cs,h=>by
  cases i with
  |zero =>
   simp at h;subst h;simp only[Fc,QB,Bu]at hp;exact (H3 n cs).1 hp.1
  |succ i =>
   simp at h;cases l<;>simp only[Fc,QB]at hp<;>first|exact N0 hp h|exact N0 hp.2 h
theorem N1{n s:Nat}{v:SV}:∀ {fr:List (Nat×Option SV)},N2 n fr=true->(s,some v)∈fr->Bu n v=true
 | [],_,h=>by simp at h
 |(_,some u) :: l,hr,h=>by
  simp only[N2,QB]at hr;simp only[ZO,Prod.mk.injEq,Option.some.injEq]at h;rcases h with⟨_,rfl⟩|h
  .exact hr.1
  .exact N1 hr.2 h
 |(_,none) :: l,hr,h=>by
  simp only[N2]at hr;simp only[ZO,Prod.mk.injEq,reduceCtorEq,and_false,false_or]at h;exact N1 hr h
theorem Nz{n:Nat}:∀ {ls:List Hl},Fc n ls=true->∀ {i:Nat} {c:LC} {fr:List (Nat×Option SV)} {st:Nat} {pd:Option Jp},ls[i]?=some (.bK c fr st pd)->N2 n fr=true
 | [],_,i,c,fr,st,pd,h=>by simp at h
 |l :: ls,hp,i,c,fr,st,pd,h=>by
  cases i with
  |zero =>
   simp at h;subst h;simp only[Fc,QB]at hp;exact hp.1
  |succ i =>
   simp at h;cases l<;>simp only[Fc,QB]at hp<;>first|exact Nz hp h|exact Nz hp.2 h
theorem Yv(D:Dn):∀(ls:List Hl) (i:Nat),(Gf D ls)[i]?=(ls[i]?).map λl=>match l with
  |.aE ty cs=>.aE ty (norm.aN D cs)
  |.tail ty n sz=>.tail ty (.a (D.i n)) sz
  |.row ty n sz f=>.row ty (.a (D.i n)) sz f
  |.own ty n sz gr f=>.own ty (.a (D.i n)) sz gr f
  |.vec ty n g sz f=>.vec ty (.a (D.i n)) (.a (D.i g)) sz f
  |l=>l
 | [],i=>by simp[Gf]
 |l :: ls,i=>by
  cases i with
  |zero=>cases l<;>simp[Gf]
  |succ i=>cases l<;>simp[Gf,Yv D ls i]
theorem Yo(D:Dn):∀(ls:List Hl),(Gf D ls).length=ls.length
 | []=>rfl
 |l :: ls=>by cases l<;>simp[Gf,Yo D ls]
theorem Jc:∀(l:List (Nat×Option SV)) (fr:List (Option G)) (s:Nat) (g:G),(∀s,Au fr s=none)->Au (Ou l fr) s=some g->g.tg=[]/\g.gt=none/\g.gf=none/\∃v,(s,some v)∈l/\g.v=v:=by
 have key:∀(l:List (Nat×Option SV)) (fr:List (Option G)) (s:Nat) (g:G),Au (Ou l fr) s=some g->Au fr s=some g\/(g.tg=[]/\g.gt=none/\g.gf=none/\∃v,(s,some v)∈l/\g.v=v):=by
  intro l
  induction l with
  |nil=>intro fr s g h;exact .inl h
  |cons p l ih =>
   obtain⟨i,v⟩:=p;intro fr s g h;rcases ih _ s g h with h|⟨h1,h2,h3,v',h4,h5⟩
   .rw[Bo]at h
    split at h
    .rename_i e
     cases v with
     |none=>cases h
     |some v=>cases h;exact .inr ⟨rfl,rfl,rfl,v,by rw[e.1];exact QY ..,rfl⟩
    .exact .inl h
   .exact .inr ⟨h1,h2,h3,v',QX _ h4,h5⟩
 intro l fr s g cI h;rcases key l fr s g h with h|h
 .rw[cI]at h;cases h
 .exact h
theorem Hw{α:Type}:∀(l:List α) (s:Nat),Au (blank l) s=none
 | [],s=>by simp[blank,Au]
 |_ :: l,0=>rfl
 |_ :: l,s+1=>Hw l s
theorem Yp{α:Type}:∀(l:List α),(blank l).length=l.length
 | []=>rfl
 |_ :: l=>by simp[blank,Yp l]
theorem Vl:∀(l:List (Nat×Option SV)) (fr:List (Option G)),(Ou l fr).length=fr.length
 | [],_=>rfl
 |(i,v) :: l,fr=>by simp[Ou,Vl l,Ar]
theorem J0{D:Dn}{n:Nat}{fr:List (Option G)}{s:Nat}{v:SV}:∀(keep:List Nat),(s,some v)∈Kq keep (Ge D n fr keep)->∃g,Au fr s=some g/\g.tg=[]/\Bu n g.v=true/\v=norm D g.v
 | [],h=>by simp[Kq]at h
 |i :: keep,h=>by
  simp only[Ge,Kq,ZO]at h;rcases h with h|h
  .simp only[Prod.mk.injEq]at h
   obtain⟨rfl,h⟩:=h
   split at h
   .rename_i gt gf v' hg
    split at h
    .rename_i hb
     cases h;exact⟨_,hg,rfl,hb,rfl⟩
    .cases h
   .cases h
  .exact J0 keep h
theorem bX.head{B:Bs}{N:Nat}{E:Env}{a:Act}{w:World}{σ:Sy}(h:bX B N E a w σ){n:Nat}{keep:List Nat}{rG:List (Option G)}(cI:rG.length=N)(hb:Fc n (takeN n σ.hp)=true)(hn:∀h,B.cS h≠none\/B.nF h≠none\/B.nG h≠none->h<n):
  bX B N (Cr n E) a w ⟨Ou (Kq keep (Ge dn n σ.fr keep)) (blank rG),Gf dn (takeN n σ.hp),[]⟩:=by
 have aB:=h.st.base;refine⟨⟨⟨aB.os,aB.tape,aB.output,aB.size,aB.old,aB.I0,aB.eJ,aB.cE,λb k hO=>?_,⟨λk b hk=>by simp only[Cr,QE (hn k (.inl (by rw[hk];simp)))];exact aB.cS.β k b hk,λk v hk=>by simp only[Cr,QE (hn k (.inr (.inl (by rw[hk];simp))))];exact aB.cS.τ k v hk,λk z hk=>by simp only[Cr,QE (hn k (.inr (.inr (by rw[hk];simp))))];exact aB.cS.ζ k z hk⟩⟩,λk=>?_,λs=>?_,h.st.size,h.st.defers⟩,by rw[Vl,Yp];exact cI,⟨λs g hs=>?_,λs g i hs hi=>?_,λs g i hs hi=>?_⟩,λk hk=>?_⟩
 .have hO:(E.O b).bind (λh=>if h<n then some h else none)=some k:=hO
  cases ia:E.O b with
  |none=>rw[ia]at hO;cases hO
  |some k' =>
   rw[ia]at hO;simp only[YD]at hO
   split at hO
   .cases hO;exact aB.dG b k ia
   .cases hO
 .rw[Ax]at hb ⊢
  simp only[Ap,Ah,Yv]
  by_cases hk:k<n
  .have bD:=h.st.heap k
   simp only[Ap,Ah]at bD;rw[QL,QE hk];have hO:∀b,E.O b=some k->(Cr n E).O b=some k:=λb hb=>by simp[Cr,hb,hk]
   cases hl:σ.hp[k]? with
   |none =>
    rw[hl]at bD;simp only[UI,ZV];obtain⟨q1,q2,q3,q4⟩:=bD;exact⟨by simp only[Cr,QE hk];exact q1,by simp only[Cr,QE hk];exact q2,by simp only[Cr,QE hk];exact q3,by simp only[Cr,QE hk];exact q4⟩
   |some l =>
    rw[hl]at bD;simp only[QO,XB]at bD ⊢;cases l with
    |fresh =>
     obtain⟨q1,q2,q3,q4⟩:=bD;exact⟨by simp only[Cr,QE hk];exact q1,by simp only[Cr,QE hk];exact q2,by simp only[Cr,QE hk];exact q3,by simp only[Cr,QE hk];exact q4⟩
    |gone=>trivial
    |aE ty cs =>
     obtain⟨b,C,k1,k2,k3,k4,k5,k6⟩:=bD.eU;have nP:∀c∈cs,Bu n c=true:=N0 hb (i:=k) (by rw[QL,QE hk];exact hl);have hn:A1 (Cr n E) w (norm.aN dn cs) C.toList:=by
      rw[Cl];exact k4.map _ λs v hs h=>(h.cut (nP s hs)).norm
     exact⟨b,C,by simp only[Cr,QE hk];exact k1,hO b k2,k3,by have:=hn.1;simpa using this.symm,λi s v p q=>hn.2 i s v p (by simpa using q),λv hv=>k5 v (by simpa using hv),k6⟩
    |tail ty m sz =>
     obtain⟨v,m',xs,k1,k2,k3,k4,k5⟩:=bD;exact⟨v,m',xs,by simp only[Cr,QE hk];exact k1,k2,k3,k4,λb hb=>⟨hO b (k5 b hb).1,(k5 b hb).2⟩⟩
    |row ty m sz f =>
     obtain⟨b,C,m',k1,k2,kz,k3,k4,k5,k6,k7,k8⟩:=bD;exact⟨b,C,m',by simp only[Cr,QE hk];exact k1,by simp only[Cr,QE hk];exact k2,by simp only[Cr,QE hk];exact kz,hO b k3,k4,k5,k6,k7,k8⟩
    |own ty m sz gr f =>
     obtain⟨v,m',xs,k1,kz,k2,k3,k4,k5,k6⟩:=bD;exact⟨v,m',xs,by simp only[Cr,QE hk];exact k1,by simp only[Cr,QE hk];exact kz,k2,k3,k4,k5,λb hb=>⟨hO b (k6 b hb).1,(k6 b hb).2⟩⟩
    |lZ T e s =>
     obtain⟨b,p,v,k1,k2,k3,k4,k5,k6,k7,k8⟩:=bD;exact⟨b,p,v,by simp only[Cr,QE hk];exact k1,hO b k2,k3,k4,k5,k6,k7,λg hg=>⟨hO g (k8 g hg).1,(k8 g hg).2⟩⟩
    |vec ty m g sz f =>
     obtain⟨a,c,m',G,xs,k1,k2,k3,k4,k5,k6,k7⟩:=bD;exact⟨a,c,m',G,xs,by simp only[Cr,QE hk];exact k1,k2,k3,k4,k5,k6,λb hb=>⟨hO b (k7 b hb).1,(k7 b hb).2⟩⟩
    |dC F =>
     obtain⟨b,es,clock,k1,k2,k3,k4,k5,k6⟩:=bD;exact⟨b,es,clock,by simp only[Cr,QE hk];exact k1,hO b k2,k3,k4,k5,k6⟩
    |bK c fr st pd =>
     obtain⟨b,rr,k1,k2,k3,k4,k5,k6⟩:=bD;have nP:=Nz hb (i:=k) (by rw[QL,QE hk];exact hl);exact⟨b,rr,by simp only[Cr,QE hk];exact k1,hO b k2,k3,k4,λs v hm=>⟨(k5 s v hm).1,(k5 s v hm).2.cut (N1 nP hm)⟩,k6⟩
  .rw[QL,QD hk]
   simp only[UI,ZV];exact⟨by simp[Cr,hk],by simp[Cr,hk],by simp[Cr,hk],by simp[Cr,hk]⟩
 .simp only[A6]
  cases hs:Au (Ou (Kq keep (Ge dn n σ.fr keep)) (blank rG)) s with
  |none=>trivial
  |some g =>
   obtain⟨g1,_,_,v,g4,g5⟩:=Jc _ _ s g (Hw rG) hs;obtain⟨g',q1,q2,q3,q4⟩:=J0 keep g4;have bM:=h.st.slot s;simp only[A6,q1,QO,Bf,q2,Ac,ZN,Ba]at bM;obtain⟨s1,s2,_⟩:=bM;simp only[QO,Bf,g1,Ac,ZN,Ba];refine⟨s1,λ_=>?_,λh=>absurd trivial h⟩;rw[g5,q4];exact ((s2 trivial).cut q3).norm
 .obtain⟨g1,_⟩:=Jc _ _ s g (Hw rG) hs
  rw[g1];simp
 .obtain⟨_,g2,_⟩:=Jc _ _ s g (Hw rG) hs
  rw[g2]at hi;cases hi
 .obtain⟨_,_,g3,_⟩:=Jc _ _ s g (Hw rG) hs
  rw[g3]at hi;cases hi
 .rw[Yo,Ax,ZF]
  have h1:=hn k hk;have h2:=h.ge k hk;omega
theorem X1{α:Type}(l:List α):takeN (Ag l) l=l:=by rw[Ax,Af,List.take_length]
theorem bX.sE{B:Bs}{N:Nat}{E:Env}{a:Act}{w:World}{σ:Sy}(h:bX B N E a w σ){c:Operand}{bt:BT}{b:Bool}(hr:rd cx σ [] c=some (.bool bt))(hv:a.eval c=.bool bt.den)(hb:bt.den=b):bX B N E a w (sE σ c b):=by
 cases c with
 |tmp s =>
  simp only[rd]at hr
  split at hr
  .rename_i g hg
   have aA:s<σ.fr.length:=by
    rcases ZS s σ.fr.length with h|h
    .exact h
    .rw[D5,QV h]at hg;cases hg
   have aU:∀k,Au (A0 σ.fr s (some ⟨[],none,none,.bool (.l b)⟩)) k=if k=s then some ⟨[],none,none,.bool (.l b)⟩ else Au σ.fr k:=λk=>by
    rw[Bo]
    by_cases e:k=s
    .rw[QE ⟨e,aA⟩,QE e]
    .rw[QD (λh=>e h.1),QD e]
   refine⟨⟨h.st.base,h.st.heap,λk=>?_,h.st.size,h.st.defers⟩,by show (A0 σ.fr s _).length=N;rw[Ar,XS];exact h.len,⟨λk g' hk i hi=>?_,λk g' i hk hi=>?_,λk g' i hk hi=>?_⟩,h.ge⟩
   .simp only[A6,Sx.sE,aU]
    by_cases e:k=s
    .subst e
     rw[QE rfl];have hv:a.tmps.getD k undef=.bool bt.den:=hv;refine⟨by rw[h.st.size,<-h.len];exact aA,λ_=>?_,λhn=>absurd trivial hn⟩;rw[hv];exact .bool hb.symm
    .rw[QD e]
     exact h.st.slot k
   .have hk:Au (A0 σ.fr s (some ⟨[],none,none,.bool (.l b)⟩)) k=some g':=hk
    rw[aU]at hk
    split at hk
    .cases hk;cases hi
    .exact h.wf.tg k g' hk i hi
   .have hk:Au (A0 σ.fr s (some ⟨[],none,none,.bool (.l b)⟩)) k=some g':=hk
    rw[aU]at hk
    split at hk
    .cases hk;cases hi
    .exact h.wf.gt k g' i hk hi
   .have hk:Au (A0 σ.fr s (some ⟨[],none,none,.bool (.l b)⟩)) k=some g':=hk
    rw[aU]at hk
    split at hk
    .cases hk;cases hi
    .exact h.wf.gf k g' i hk hi
  .cases hr
 |const _=>exact h
 |global _=>exact h
 |func _=>exact h
theorem Df{b:Frame}{a:Act}{k:List Item}{cs:List Frame}{w:World}{c:Code}:step P (lone (b.atR a (.code (.scope c) :: k)) cs w)=.next (lone (b.atR a (.code c :: .inScope c :: k)) cs w) :=
 step_lone_go (by simp[stepG,stepG.exec,Frame.atR])
theorem Ii{b:Frame}{a:Act}{k:List Item}{cs:List Frame}{w:World}{c:Code}:step P (lone (b.atR a (.inScope c :: k)) cs w)=.next (lone (b.atR a k) cs w) :=
 step_lone_go (by simp[stepG,stepG.exec,Frame.atR])
theorem Mm{F:Fence}{n:Nat}{Q:Exit->Act->World->Prop}{a:Act}{w:World}{c:Code}(h:c.wpIn F n P (Exit.noGoto Q) a w):(Code.scope c).wpIn F n P Q a w:=by
 intro b k cs eW hb hr;have h0:(lone (b.atR a (.code (.scope c) :: k)) cs w).fenced P F:=fenced_calm hb hr rfl;obtain⟨e,zD,wB,hq,kH⟩:=h b (.inScope c :: k) cs eW hb hr;cases e with
 |normal=>exact⟨.normal,zD,wB,hq,.head h0 Df (StepsIn.trans kH (.one (fenced_calm hb hr rfl) Ii))⟩
 |exit id =>
  have hx:exitTo id (.inScope c :: k)=exitTo id k:=by simp[exitTo]
  exact⟨.exit id,zD,wB,hq,λk' hk=>.head h0 Df (kH.1 k' (by rw[hx];exact hk)),λwk hk=>let ⟨k₁,h1,h2⟩:=kH.2 wk (by rw[hx];exact hk);⟨k₁,h1,.head h0 Df h2⟩⟩
 |goto l=>exact hq.elim
 |ret=>exact⟨_,zD,wB,hq,.of_steps (.one h0 Df) kH⟩
 |panic ch=>exact⟨_,zD,wB,hq,.of_steps (.one h0 Df) kH⟩
 |outgrown=>exact⟨_,zD,wB,hq,.of_steps (.one h0 Df) kH⟩
end
section
variable {P:Program} {cx:Cx}
theorem P9{E:Env}{w:World}{vs:List SV}{us:List Value}(h:A1 E w vs us):Rel E w (NC vs) (if h:(⟨us⟩:Array Value).size=1 then (⟨us⟩:Array Value)[0] else .tuple ⟨us⟩):=by
 match vs,us,h with
 | [],[],h=>exact .tup h.1 h.2
 | [v],[u],h=>exact h.2 0 v u rfl rfl
 |_ :: _ :: _,_ :: _ :: _,h =>
  rw[dif_neg (by simp)];exact .tup h.1 h.2
 | [],_ :: _,h=>exact absurd h.1 (by simp)
 |_ :: _,[],h=>exact absurd h.1 (by simp)
 | [_],_ :: _ :: _,h=>exact absurd h.1 (by simp)
 |_ :: _ :: _,[_],h=>exact absurd h.1 (by simp)
theorem Abm:∀n,Xy n=List.range n
 |0=>rfl
 |n+1=>by rw[Xy,Abm n,List.range_succ]
theorem Aiq:∀ {a b:List Nat},jm a b=true->a=b
 | [],[],_=>rfl
 |x :: l,y :: t,h=>by
  simp only[jm,QB,XI]at h;rw[h.1,Aiq h.2]
 | [],_ :: _,h=>by cases h
 |_ :: _,[],h=>by cases h
theorem Y7(hc:Az P cx){B:Bs}{N:Nat}{E':Env}{a':Act}{w':World}{aJ:Sy}(cJ:bX B N E' a' w' aJ){m:Nat}(eM:∀h,B.cS h≠none\/B.nF h≠none\/B.nG h≠none->h<m){vs:List SV}{us:List Value}(u2:A1 E' w' vs us){r:SV}{aI:List Hl}(hk:MJ cx m vs aJ λr' eG=>Fin r' r eG aI):
  ∃E2,B8 B E2 w'/\(∀h,h<aI.length->bO E2 w' h (Ap aI h))/\Rel E2 w' r (if h:(⟨us⟩:Array Value).size=1 then (⟨us⟩:Array Value)[0] else .tuple ⟨us⟩):=by
  have aB:=cJ.st.base;unfold MJ at hk;rw[hc.D]at hk;obtain⟨r0,wj⟩:∃x,x=loose (norm dn (NC vs)):=⟨_,rfl⟩;simp only[<-wj]at hk;obtain⟨hs,hhs⟩:∃x,x=reach aJ.hp aJ.hp (Lu (Xy m) (iQ r0)):=⟨_,rfl⟩;simp only[<-hhs]at hk;obtain⟨ls,lI⟩:∃x,x=Vv dn aJ.hp hs:=⟨_,rfl⟩;simp only[<-lI]at hk
  split at hk
  .rename_i dZ
   simp only[QB]at dZ;obtain⟨⟨⟨⟨⟨c1,c2⟩,c3⟩,c4⟩,c5⟩,c6⟩:=dZ;have n1:=(Ht _).1 c1;have c2:=Aiq c2;rw[Ax,Abm]at c2;have c3:=(Hf _ _).1 c3;have c6:=(Gk _ _).1 c6;obtain⟨k1,k2,k3⟩:=hk;have mU:∀k,k<m->hs[k]?=some k:=by
    intro k hk;have:(hs.take m)[k]?=some k:=by rw[c2,UO hk]
    rwa [QL,QE hk]at this
   let E2:Env:=⟨λi=>(hs[i]?).bind E'.β,λi=>(hs[i]?).bind E'.τ,λb=>(E'.O b).bind λh=>hs.idxOf? h,λ_=>none,λi=>(hs[i]?).bind E'.ζ,E'.I⟩
   have sT:B8 B E2 w':=by
    refine⟨aB.os,aB.tape,aB.output,aB.size,aB.old,aB.I0,aB.eJ,aB.cE,λb j hO=>?_,⟨λk b hk=>?_,λk v hk=>?_,λk z hk=>?_⟩⟩
    .have hO:(E'.O b).bind (λh=>hs.idxOf? h)=some j:=hO
     cases ia:E'.O b with
     |none=>rw[ia]at hO;cases hO
     |some q=>exact aB.dG b q ia
    .show (hs[k]?).bind E'.β=some b
     rw[mU k (eM k (.inl (by rw[hk];simp)))];exact aB.cS.β k b hk
    .show Pw v ((hs[k]?).bind E'.τ)
     rw[mU k (eM k (.inr (.inl (by rw[hk];simp))))];exact aB.cS.τ k v hk
    .show (hs[k]?).bind E'.ζ=some z
     rw[mU k (eM k (.inr (.inr (by rw[hk];simp))))];exact aB.cS.ζ k z hk
   have bN:∀k∈hs,Zj E' k E2 (H4 hs k):=by
    intro k hk;obtain⟨i,hi⟩:=List.mem_iff_getElem?.1 hk;rw[O5 n1 hi];exact⟨by show (hs[i]?).bind E'.β=_;rw[hi];rfl,by show (hs[i]?).bind E'.τ=_;rw[hi];rfl,by show (hs[i]?).bind E'.ζ=_;rw[hi];rfl⟩
   have eP:∀(i k:Nat),hs[i]?=some k->hs.idxOf? k=some i:=by
    intro i k hk;rw[ZZ];obtain⟨aA,he⟩:=List.getElem?_eq_some_iff.1 hk;refine⟨aA,by simp[he],λj hj=>?_⟩;have aV:hs[j]≠hs[i]:=List.pairwise_iff_getElem.1 n1 j i (by omega) aA hj;rw[<-he];simpa using aV
   have n2:ls.length=hs.length:=by rw[lI,Pc,XW]
   refine⟨E2,sT,λh aA=>?_,?_⟩
   .refine k2 h E2 w' ?_
    rw[J1]at k3 ⊢;rw[XW,n2]at k3;have eC:h<hs.length:=by omega
    have dT:hs[h]∈hs:=XQ eC;have hl:ls[h]?=some ls[h]:=QA (by omega);have hhf:Ap (ls.map (lT (H4 hs))) h=lT (H4 hs) ls[h]:=by
     simp only[Ap,Ah];rw[QP,hl];rfl
    rw[hhf];obtain⟨d1,d2⟩:=c6 ls[h] (XQ _);have hk:=cJ.st.heap hs[h];have iX:bO E' w' hs[h] ls[h]:=by
     have gW:=hl
     conv at gW=>lhs;rw[lI,Pc,QP,QA eC]
     simp only[QO,Option.some.injEq]at gW;rw[<-gW];cases hn:nth aJ.hp hs[h] with
     |none=>trivial
     |some l0=>rw[Bx hn]at hk;exact hk.oH
    have cC:=bN _ dT;rw[O5 n1 (QA eC)]at cC;refine iX.rn (H4 hs) d1 rfl cC (λb hb=>?_) λj hj=>bN j (d2 j hj);show (E'.O b).bind (λh=>hs.idxOf? h)=some h;rw[hb];exact eP h _ (QA eC)
   .have eX:=(P9 u2).norm.loose
    rw[<-wj]at eX;exact k1 E2 w' _ (eX.rn (H4 hs) rfl c4 λk hk=>bN k (c3 k hk))
  .exact hk.elim
structure Ahg(B:Bs):Prop where
 nodup:B.dl.Nodup
 aZ:∀r∈B.dl,r<B.w0.heap.size/\¬B.X r/\B.w0.heap[r]?=some (.deferred (some []))
structure nQ(B B1:Bs):Prop where
 os:B1.w0.os=B.w0.os
 tape:B1.w0.tape=B.w0.tape
 output:B1.w0.output=B.w0.output
 size:B.w0.heap.size<=B1.w0.heap.size
 old:∀b,b<B.w0.heap.size->¬B.X b->¬B1.X b/\B1.w0.heap[b]?=B.w0.heap[b]?
 I0:∀b o,B.I0 b o->B1.I0 b o/\B1.w0.cell? ⟨b,o,none⟩=B.w0.cell? ⟨b,o,none⟩
 cE:∀b o,B1.I0 b o->B.I0 b o\/B.w0.heap.size<=b\/B.X b
 X:∀b,B1.X b->B.w0.heap.size<=b\/B.X b
 cS:B1.cS=B.cS
 nF:B1.nF=B.nF
 nG:B1.nG=B.nG
 marks:Ahg B->Ahg B1
 new:∀r∈B1.dl,r∈B.dl\/B.w0.heap.size<=r
theorem nQ.refl(B:Bs):nQ B B:=⟨rfl,rfl,rfl,QK _,λ_ _ h=>⟨h,rfl⟩,λ_ _ h=>⟨h,rfl⟩,λ_ _ h=>.inl h,λ_ h=>.inr h,rfl,rfl,rfl,id,λ_ h=>.inl h⟩
theorem nQ.trans{A B C:Bs}(h1:nQ A B)(h2:nQ B C):nQ A C where
 os:=h2.os.trans h1.os
 tape:=h2.tape.trans h1.tape
 output:=h2.output.trans h1.output
 size:=XO h1.size h2.size
 old:=λb aA hX=>by
  obtain⟨p1,p2⟩:=h1.old b aA hX;obtain⟨q1,q2⟩:=h2.old b (XR aA h1.size) p1;exact⟨q1,q2.trans p2⟩
 I0:=λb o hi=>by
  obtain⟨p1,p2⟩:=h1.I0 b o hi;obtain⟨q1,q2⟩:=h2.I0 b o p1;exact⟨q1,q2.trans p2⟩
 cE:=λb o hi=>by
  rcases h2.cE b o hi with h|h|h
  .exact h1.cE b o h
  .exact .inr (.inl (XO h1.size h))
  .exact .inr (h1.X b h)
 X:=λb hX=>by
  rcases h2.X b hX with h|h
  .exact .inl (XO h1.size h)
  .exact h1.X b h
 cS:=h2.cS.trans h1.cS
 nF:=h2.nF.trans h1.nF
 nG:=h2.nG.trans h1.nG
 marks:=λh=>h2.marks (h1.marks h)
 new:=λr hr=>by
  rcases h2.new r hr with h|h
  .exact h1.new r h
  .exact .inr (XO h1.size h)
theorem nQ.since{B B1:Bs}{E:Env}(h:nQ B B1)(hs:M7 B1 E):M7 B E :=
 ⟨λk b hk=>hs.β k b (by rw[h.cS];exact hk),λk v hk=>hs.τ k v (by rw[h.nF];exact hk),λk n hk=>hs.ζ k n (by rw[h.nG];exact hk)⟩
theorem nQ.base{B B1:Bs}{E:Env}{w:World}(h:nQ B B1)(hb:B8 B1 E w):B8 B E w where
 os:=hb.os.trans h.os
 tape:=hb.tape.trans h.tape
 output:=hb.output.trans h.output
 size:=XO h.size hb.size
 old:=λb aA hX=>by
  obtain⟨p1,p2⟩:=h.old b aA hX;exact (hb.old b (XR aA h.size) p1).trans p2
 I0:=λb o hi=>by
  obtain⟨p1,p2⟩:=h.I0 b o hi;obtain⟨q1,q2⟩:=hb.I0 b o p1;exact⟨q1,q2.trans p2⟩
 eJ:=hb.eJ
 cE:=λb o hi=>by
  rcases hb.cE b o hi with q|q|q
  .exact h.cE b o q
  .exact .inr (.inl (XO h.size q))
  .exact .inr (h.X b q)
 dG:=λb k hO=>by
  obtain⟨q1,q2⟩:=hb.dG b k hO;refine⟨q1,?_⟩;rcases q2 with q|q
  .exact .inl (XO h.size q)
  .exact h.X b q
 cS:=h.since hb.cS
theorem nQ.gl{B B1:Bs}{gl:List (Nat×SV)}(h:nQ B B1)(hg:Ep B gl):Ep B1 gl:=λg s hl=>by
 obtain⟨g1,g2,g3,g4⟩:=hg g s hl;obtain⟨p1,p2⟩:=h.old g g2 g3;exact⟨g1.mono (λb o hi=>(h.I0 b o hi).1) (λb o hi=>(h.I0 b o hi).2),XR g2 h.size,p1,g4.same p2⟩
theorem nQ.oB{B B1:Bs}(h:nQ B B1){m:Nat}(hd:∀h,B.cS h≠none\/B.nF h≠none\/B.nG h≠none->h<m):∀h,B1.cS h≠none\/B1.nF h≠none\/B1.nG h≠none->h<m:=by
 rw[h.cS,h.nF,h.nG];exact hd
def qv(B:Bs)(N:Nat)(K:Ex->Sy->Prop)(e:Exit)(a:Act)(w:World):Prop:=∃B1 E σ,nQ B B1/\bX B1 N E a w σ/\CG K σ e
theorem Akz{hp:List Hl}{h:Nat}{l:Hl}(aA:h<hp.length):Ap (A0 hp h l)=aL (Ap hp) h l:=by
 have:=Qs (hp:=hp) (h:=h) (hl:=l) (Nat.le_of_lt aA);unfold DH at this;rw[QD (by rw[Af];simp;omega)]at this;exact this
theorem Aky{hp:List Hl}{l:Hl}:Ap (hp++[l])=aL (Ap hp) hp.length l:=by
 have:=Qs (hp:=hp) (h:=hp.length) (hl:=l) (QK _);unfold DH at this;rw[QE (by rw[Af];simp)]at this;exact this
theorem Af6{α:Type}{l:List α}{i:Nat}{x:α}(h:nth l i=some x):i<l.length:=by
 rw[Ah]at h;exact (List.getElem?_eq_some_iff.1 h).1
theorem bX.setObj{B:Bs}{N:Nat}{E:Env}{a:Act}{w:World}{σ:Sy}(hs:bX B N E a w σ){h b:Nat}(aA:h<σ.hp.length)(hO:E.O b=some h)(hI:∀o,¬E.I b o)(o':Obj)(l:Hl)
  (hl:bO E (w.putObj b o') h l):bX B N E a (w.putObj b o') ⟨σ.fr,A0 σ.hp h l,σ.gm⟩:=by
 obtain⟨x1,x2,x3⟩:=Ti hs.st hO hI o' l hl;refine⟨?_,hs.len,⟨hs.wf.tg,hs.wf.gt,hs.wf.gf⟩,λk hk=>?_⟩
 .have:=hs.st.step x1 x2 x3
  rw[<-Akz aA]at this;exact this
 .show k<(A0 σ.hp h l).length
  rw[Ar,XS];exact hs.ge k hk
theorem M7.comp{B:Bs}{E E':Env}{w:World}{X:Nat->Prop}{I0:Nat->Nat->Prop}{dl:List Nat}(h:M7 B E)(h':M7 ⟨w,X,I0,E.β,E.τ,E.ζ,dl⟩ E'):M7 B E':=by
 refine⟨λk b hk=>h'.β k b (h.β k b hk),λk v hk=>?_,λk n hk=>h'.ζ k n (h.ζ k n hk)⟩;have h1:=h.τ k v hk;cases he:E.τ k with
 |none=>rw[he]at h1;rcases h1 with h1|⟨_,_,_,_,_,_,_,h1,_⟩<;>cases h1
 |some u =>
  rw[he]at h1;exact h1.trans (h'.τ k u he)
theorem X3:∀ {ps:List Tmp} {vs:List SV} {fr aO:List (Option G)},D6 ps vs fr=some aO->vs.length=ps.length/\aO.length=fr.length
 | [],[],fr,aO,h=>by simp[D6]at h;subst h;exact⟨rfl,rfl⟩
 |p :: ps,v :: vs,fr,aO,h=>by
  obtain⟨h1,h2⟩:=X3 (ps:=ps) (vs:=vs) (by simpa[D6] using h);exact⟨by simp[h1],by rw[h2,Ar,XS]⟩
 | [],_ :: _,_,_,h=>by simp[D6]at h
 |_ :: _,[],_,_,h=>by simp[D6]at h
structure CY(E:Env)(w:World)(N:Nat)(fr:List (Option G))(tmps:Array Value):Prop where
 len:fr.length=N
 size:tmps.size=N
 aZ:∀s g,Au fr s=some g->g.tg=[]/\g.gt=none/\g.gf=none/\s<N/\Rel E w g.v (tmps.getD s undef)
theorem CY.FA{E:Env}{w:World}{N:Nat}:∀(ps:List Tmp) (vs:List SV) (us:List Value) (fr aO:List (Option G)) (tmps:Array Value),CY E w N fr tmps->D6 ps vs fr=some aO->A1 E w vs us->
  CY E w N aO ((ps.zip us).foldl (λtmps (x:Tmp×Value)=>tmps.setIfInBounds x.1 x.2) tmps)
 | [],[],us,fr,aO,tmps,h,hs,_=>by simp[D6]at hs;subst hs;simpa using h
 |p :: ps,v :: vs,[],_,_,_,_,_,hr=>absurd hr.1 (by simp)
 |p :: ps,v :: vs,u :: us,fr,aO,tmps,h,hs,hr=>by
  have o6:A1 E w vs us:=⟨by have:=hr.1;simpa using this,λi s v a b=>hr.2 (i+1) s v a b⟩;have OJ:=hr.2 0 v u rfl rfl;simp only[UG,UA];refine CY.FA ps vs us _ aO _ ?_ (by simpa[D6] using hs) o6;refine⟨by rw[Ar,XS];exact h.len,by simp[h.size],λs g hg=>?_⟩;rw[Bo]at hg
  split at hg
  .rename_i e
   obtain⟨rfl,e2⟩:=e;cases hg;rw[h.len]at e2;refine⟨rfl,rfl,rfl,e2,?_⟩;rw[QM,ZY (by rw[h.size];exact e2)];exact OJ
  .rename_i e
   obtain⟨q1,q2,q3,q4,q5⟩:=h.aZ s g hg;refine⟨q1,q2,q3,q4,?_⟩;have e2:p≠s:=λe2=>e ⟨e2.symm,by rw[h.len,e2];exact q4⟩;rw[QM,XX e2,<-QM];exact q5
 | [],_ :: _,_,_,_,_,_,hs,_=>by simp[D6]at hs
 |_ :: _,[],_,_,_,_,_,hs,_=>by simp[D6]at hs
theorem Ak2(N s:Nat):Au (List.replicate N (none:Option G)) s=none:=by
 rw[D5,List.getElem?_replicate]
 split<;>rfl
theorem Afo{x:LoopState}(h:se x=0):x=.ready:=by cases x<;>simp[se]at h ⊢
theorem Ajm{x:LoopState}(h:se x≠1):x≠.busy:=by rintro rfl;exact h rfl
def ud(cx:Cx)(c:LC)(ps:Array Tmp)(assign bd:Code)(N:Nat)(Y:aD):Prop :=
 ∀xs ls K',Y cx.D xs ls K'->(∃fr,ls.head?=some (.bK c fr 0 none))/\∃r aI,K' r aI/\match Afv c ps N xs ls with
  |some rG=>exec cx assign ⟨rG,ls,[]⟩ λe eI=>match e,nth eI.hp 0 with
   |.normal,some (.bK c1 qa 0 none)=>exec cx bd ⟨eI.fr,A0 eI.hp 0 (.bK c1 qa 1 none),eI.gm⟩ (Uk cx (Ag ls) λr' eG=>Fin r' r eG aI)
   |_,_=>False
  |none=>False
def Aja(P:Program)(cx:Cx)(N:Nat)(x:Code):Prop:=∀(l nn:Nat) (σ:Sy) (K:Ex->Sy->Prop),exec cx x σ K->∀(B:Bs),Ep B cx.gl->∀(E:Env) (a:Act) (w:World),bX B N E a w σ->x.wpIn (Fr (some l)) nn P (qv B N K) a w
theorem Zl(hc:Az P cx){N:Nat}{c:LC}{ps:Array Tmp}{assign bd:Code}(hl:AF c ps assign bd N){Y:aD}(sa:Aja P cx N assign)(sb:Aja P cx N bd)(h:ud cx c ps assign bd N Y):LN P cx.gl Y:=by
 intro as ls K hY;rw[<-hc.D]at hY;obtain⟨⟨fr,cI⟩,r,aI,hK,hx⟩:=h as ls K hY;refine⟨r,aI,hK,?_⟩;intro B E w bB xG JK eM hb hg hh hr;obtain⟨rest,rfl⟩:∃rest,ls=.bK c fr 0 none :: rest:=by
  cases ls with
  |nil=>simp at cI
  |cons x rest=>simp at cI;subst cI;exact⟨rest,rfl⟩
 split at hx
 .rename_i rG h0
  obtain⟨vs,rfl,lU⟩:∃vs,as=.yv 0 :: vs/\D6 ps.toList vs (Ou fr (List.replicate N none))=some rG:=by
   unfold Afv at h0
   split at h0
   .rename_i vs _ _ _ e
    simp only[List.cons.injEq,Hl.bK.injEq,and_true]at e;obtain⟨⟨rfl,rfl⟩,rfl⟩:=e;exact⟨vs,rfl,h0⟩
   .cases h0
  obtain⟨u,us,rfl,hu,iJ⟩:∃u us,bB=u :: us/\Rel E w (.yv 0) u/\A1 E w vs us:=by
   cases bB with
   |nil=>exact absurd hr.1 (by simp)
   |cons u us=>exact⟨u,us,rfl,hr.2 0 _ u rfl rfl,⟨by have:=hr.1;simpa using this,λi s v a b=>hr.2 (i+1) s v a b⟩⟩
  obtain⟨b,gA,rfl⟩:=hu.wA;have h00:=hh 0;obtain⟨b',rr,k1,k2,k3,k4,k5,k6⟩:=h00;rw[gA]at k1;cases k1;obtain⟨p1,p2⟩:=X3 lU;have ep:rr.params.toList=ps.toList:=by rw[k4.ps,hl.ps]
  have aM:us.length=rr.params.size:=by
   rw[<-UN,ep,<-p1];exact iJ.1.symm
  refine⟨b,us,rr,rfl,k3,aM,λro nn=>?_⟩;rw[show rr.assign=assign by rw[k4.assign,hl.assign],show rr.body=bd by rw[k4.body,hl.body]];have pt:∀h,E.β h≠none\/E.τ h≠none\/E.ζ h≠none->h<(Hl.bK c fr 0 none :: rest).length:=by
   intro h aV;rcases ZS h (Hl.bK c fr 0 none :: rest).length with aA|nN
   .exact aA
   .have hk:=hh h
    rw[show Ap (Hl.bK c fr 0 none :: rest) h=.fresh by simp only[Ap,Ah,QV nN,ZV]]at hk;obtain⟨q1,q2,q3,q4⟩:=hk;rcases aV with aV|aV|aV
    .exact absurd q1 aV
    .exact absurd q2 aV
    .exact absurd q4 aV
  subst xG
  let B':Bs:=⟨B.w0,B.X,B.I0,E.β,E.τ,E.ζ,[]⟩
  have rR:B8 B' E B.w0:=⟨hb.os,hb.tape,hb.output,hb.size,hb.old,hb.I0,hb.eJ,hb.cE,hb.dG,⟨λ_ _ h=>h,λ_ _ h=>.inl h,λ_ _ h=>h⟩⟩;have sR:Ep B' cx.gl:=hg;have xq:∀ {E2:Env} {w2:World},B8 B' E2 w2->B8 B E2 w2:=λ{E2 w2} h2=>⟨h2.os,h2.tape,h2.output,h2.size,h2.old,h2.I0,h2.eJ,h2.cE,h2.dG,hb.cS.comp h2.cS⟩;have lK:CY E B.w0 N rG ((rr.params.zip (⟨us⟩:Array Value)).foldl (λtmps (t,a)=>tmps.setIfInBounds t a) rr.tmps):=by
   have h1:CY E B.w0 N (Ou fr (List.replicate N none)) rr.tmps:=by
    refine⟨by rw[Vl];simp,by rw[k4.n,hl.n],λs g hs=>?_⟩;obtain⟨g1,g2,g3,v,g4,g5⟩:=Jc _ _ s g (Ak2 N) hs;obtain⟨q1,q2⟩:=k5 s v g4;exact⟨g1,g2,g3,by rw[<-hl.n];exact q1,by rw[g5];exact q2⟩
   have h2:=h1.FA ps.toList vs us _ rG _ lU iJ;have e:(rr.params.zip (⟨us⟩:Array Value)).foldl (λtmps (t,a)=>tmps.setIfInBounds t a) rr.tmps=(ps.toList.zip us).foldl (λtmps (x:Tmp×Value)=>tmps.setIfInBounds x.1 x.2) rr.tmps:=by
    rw[<-Array.foldl_toList,Array.toList_zip,ep]
   rw[e];exact h2
  generalize (rr.params.zip (⟨us⟩:Array Value)).foldl (λtmps (t,a)=>tmps.setIfInBounds t a) rr.tmps=ER at lK ⊢
  have sty:bX B' N E { tmps:=ER,defers:=[] } B.w0 ⟨rG,.bK c fr 0 none :: rest,[]⟩:=by
   refine⟨⟨rR,hh,λs=>?_,lK.size,rfl⟩,lK.len,⟨λs g hs i hi=>?_,λs g i hs hi=>?_,λs g i hs hi=>?_⟩,pt⟩
   .simp only[A6]
    cases hs:Au rG s with
    |none=>trivial
    |some g =>
     obtain⟨q1,q2,q3,q4,q5⟩:=lK.aZ s g hs;simp only[QO,Bf,q1,Ac,ZN,Ba];exact⟨by rw[lK.size];exact q4,λ_=>q5,λh=>absurd trivial h⟩
   .rw[(lK.aZ s g hs).1]at hi;cases hi
   .rw[(lK.aZ s g hs).2.1]at hi;cases hi
   .rw[(lK.aZ s g hs).2.2.1]at hi;cases hi
  refine roundIn_of_wpIn trivial ?_;refine wpIn_mono (sa b nn _ _ hx B' sR E _ B.w0 sty) ?_;rintro e a1 w1 ⟨B1,E1,eI,JH,cC,jW⟩;have uW:E1.β 0=some b:=(JH.since cC.st.base.cS).β 0 b gA;cases e with
  |normal =>
   have jW:match nth eI.hp 0 with
    |some (.bK c1 qa 0 none)=>exec cx bd ⟨eI.fr,A0 eI.hp 0 (.bK c1 qa 1 none),eI.gm⟩ (Uk cx (Ag (Hl.bK c fr 0 none :: rest)) λr' eG=>Fin r' r eG aI)
    |_=>False:=by
    simp only[CG]at jW
    split at jW
    .rename_i c1 qa _ wv
     simp only[wv];exact jW
    .exact jW.elim
   split at jW
   .rename_i c1 qa wv
    have xa:=cC.st.heap 0;rw[Bx wv]at xa;obtain⟨b1,r1,j1,j2,j3,j4,j5,j6⟩:=xa;rw[uW]at j1;cases j1;refine⟨_,run_beginRound j3 (Afo j4.st),?_⟩;have nP:=A4 cC.st.base j2;have SE:=cC.setObj (Af6 wv) j2 j6 (.loop { r1 with state:=.busy }) (.bK c1 qa 1 none) (by
     obtain⟨x1,_,_⟩:=Ti cC.st j2 j6 (.loop { r1 with state:=.busy }) .gone trivial;exact⟨b,_,uW,j2,World.putObj_heap_same nP,⟨j4.fn,j4.ps,j4.assign,j4.body,j4.n,rfl,j4.pd⟩,λs v hm=>⟨(j5 s v hm).1,(j5 s v hm).2.mono x1⟩,j6⟩)
    refine wpIn_mono (sb b nn _ _ jW B1 (JH.gl sR) E1 a1 _ SE) ?_;rintro e a3 w3 ⟨B3,E3,σ3,hR3,kT,mH⟩;have GG:E3.β 0=some b:=(JH.since (hR3.since kT.st.base.cS)).β 0 b gA;have IW:=(JH.trans hR3).oB (m:=Ag (Hl.bK c fr 0 none :: rest)) (by rw[Af];exact pt);have key:∀(x:Ex) (jump:Option Code),(dp x).2.1.map Jp.code=jump->(dp x).2.2=jump.isNone->(dp x).1=(if jump.isNone then 0 else 2)->Uk cx (Ag (Hl.bK c fr 0 none :: rest)) (λr' eG=>Fin r' r eG aI) x σ3->
      ∃v w',(Instr.endRound b jump).run P w3=.ok v w'/\∃tC E',Ending.returned v=.returned tC/\B8 B E' w'/\(∀h,h<aI.length->bO E' w' h (Ap aI h))/\Rel E' w' r tC:=by
     intro x jump e1 e2 e3 vd;unfold Uk at vd
     split at vd
     .rename_i c3 fr3 st pd bb BP hj
      rw[hj]at e1 e2 e3;simp only at e1 e2 e3;have hh3:=kT.st.heap 0;rw[Bx BP]at hh3;obtain⟨b3,r3,i1,i2,i3,i4,i5,i6⟩:=hh3;rw[GG]at i1;cases i1;have ab4:=A4 kT.st.base i2;have SD:=kT.setObj (Af6 BP) i2 i6 (.loop { r3 with state:=if jump.isNone then .ready else .done,pending:=jump }) (.bK c3 fr3 st pd) (by
       obtain⟨x1,_,_⟩:=Ti kT.st i2 i6 (.loop { r3 with state:=if jump.isNone then .ready else .done,pending:=jump }) .gone trivial;refine⟨b,_,GG,i2,World.putObj_heap_same ab4,⟨i4.fn,i4.ps,i4.assign,i4.body,i4.n,?_,e1.symm⟩,λs v hm=>⟨(i5 s v hm).1,(i5 s v hm).2.mono x1⟩,i6⟩;rw[e3];show se (if jump.isNone then .ready else .done)=_;cases jump.isNone<;>rfl)
      obtain⟨E5,q1,q2,q3⟩:=Y7 hc SD IW (vs:=[.bool (.l bb)]) (us:=[.bool jump.isNone]) (.cons (.ro (.bool (by rw[<-e2];rfl))) .nil) vd;exact⟨_,_,run_endRound jump i3,_,E5,rfl,xq ((JH.trans hR3).base q1),q2,q3⟩
     .exact vd.elim
    cases e with
    |normal=>exact key .normal none rfl rfl rfl mH
    |ret=>exact key .ret (some .ret) rfl rfl rfl mH
    |exit i=>exact key (.exit i) (some (.exit i)) rfl rfl rfl mH
    |goto i=>exact key (.goto i) (some (.goto i)) rfl rfl rfl mH
    |panic _=>exact mH.elim
    |outgrown=>exact mH.elim
   .exact jW.elim
  |ret=>simp only[CG]at jW
  |exit i=>simp only[CG]at jW
  |goto i=>simp only[CG]at jW
  |panic _=>exact jW.elim
  |outgrown=>exact jW.elim
 .exact hx.elim
theorem Ac2{α:Type}:∀ {l:List (Nat×α)} {k:Nat} {x:α},look k l=some x->(k,x)∈l
 | [],_,_,h=>by simp[look]at h
 |(j,y) :: l,k,x,h=>by
  simp only[look]at h
  split at h
  .rename_i e
   have e:j=k:=by simpa using e
   subst e;cases h;exact QY ..
  .exact QX _ (Ac2 h)
theorem Alr{B:Bs}{N:Nat}{E:Env}{a:Act}{w:World}{ff:Nat->SG}{hf:Nat->Hl}(st:St B N E a w ff hf)(o':Obj):St B N E a (w.alloc o') ff hf:=by
 have hb:=st.base;have hx:Ext E w E (w.alloc o'):=⟨λ_ _ h=>h,λ_ _ h=>.inl h,λ_ _ h=>h,λ_ _ h=>h,λ_ _ h=>h,λb o hi=>Co (hb.eJ b o hi)⟩;refine st.step hx ⟨hb.os,hb.tape,hb.output,?_,?_,?_,?_,hb.cE,?_,hb.cS⟩ λk=>?_
 .have:=hb.size;simp;omega
 .intro b aA hX;rw[C3 (by have:=hb.size;omega)];exact hb.old b aA hX
 .intro b o hi
  obtain⟨i1,i2⟩:=hb.I0 b o hi;exact⟨i1,by rw[Co (hb.eJ b o i1)];exact i2⟩
 .intro b o hi;have:=hb.eJ b o hi;simp;omega
 .intro b k hO
  obtain⟨o1,o2⟩:=hb.dG b k hO;simp;exact⟨by omega,o2⟩
 .refine bO.keep hx (st.heap k) rfl rfl rfl rfl λb hO=>?_
  exact⟨hO,C3 (A4 hb hO),λ_ h=>h⟩
theorem Anp{N:Nat}{B:Bs}{E:Env}{a:Act}{w:World}{σ:Sy}(hs:bX B N E a w σ){n:Nat}{keep:List Nat}{s:Nat}{v:SV}(h:(s,some v)∈Kq keep (Ge dn n σ.fr keep)):s<N/\Rel E w v (a.tmps.getD s undef):=by
 obtain⟨g,q1,q2,q3,q4⟩:=J0 keep h;have bM:=hs.st.slot s;simp only[A6,q1,QO,Bf,q2,Ac,ZN,Ba]at bM;obtain⟨s1,s2,_⟩:=bM;rw[hs.st.size]at s1;exact⟨s1,by rw[q4];exact (s2 trivial).norm⟩
theorem Alg{E:Env}{w:World}{v:SV}{u:Value}{f:FuncId}{cs:List SV}(h:Rel E w v u)(hc:PC v=some (f,cs)):∃cv:List Value,u=.func (.func f) #[] ⟨cv⟩/\A1 E w cs cv:=by
 unfold PC at hc
 split at hc
 .simp only[Option.some.injEq,Prod.mk.injEq]at hc
  obtain⟨rfl,rfl⟩:=hc;exact h.pM
 .simp only[Option.some.injEq,Prod.mk.injEq]at hc
  obtain⟨rfl,rfl⟩:=hc;exact⟨[],h.sW,.nil⟩
 .cases hc
theorem Ach{nn:Nat}(hc:Az P cx)(gH:W0 P cx){B:Bs}{N:Nat}(hg:Ep B cx.gl){g:Operand}{ps:Array Tmp}{assign bd:Code}{σ:Sy}{K:Ex->Sy->Prop}{E:Env}{a:Act}{w:World}(hs:bX B N E a w σ)
  {f:FuncId} {sX:List SV} {it:aD->aD} (hv:(rd cx σ [] g).bind PC=some (f,sX)) (hit:look f cx.its=some it)
  (h:∀c,AF c ps assign bd N->∃(keep:List Nat) (Y:aD),LN P cx.gl Y/\
   Fl cx ⟨σ.fr,σ.hp++[.bK c (Kq keep (Ge cx.D (Ag σ.hp) σ.fr keep)) 0 none],σ.gm⟩ [] (.yv (Ag σ.hp) :: sX) (it Y) λo =>
      match Mp (σ.hp++[.bK c (Kq keep (Ge cx.D (Ag σ.hp) σ.fr keep)) 0 none]) o.gF with
      |dS=>Kj (σ.hp++[.bK c (Kq keep (Ge cx.D (Ag σ.hp) σ.fr keep)) 0 none]) o.gF=true/\match nth dS (Ag σ.hp) with
       |some (.bK _ _ st pd)=>Nat.beq st 1=false/\K (KF pd) ⟨σ.fr,A0 dS (Ag σ.hp) .gone,σ.gm⟩
       |_=>False):
  (Code.rangeFunc g ps assign bd).wpIn (Fr none) nn P (qv B N K) a w:=by
 refine wpIn_rangeFunc λfn _=>?_;obtain⟨keep,Y,hY,dO⟩:=h ⟨fn,ps,assign,bd,N⟩ ⟨rfl,rfl,rfl,rfl⟩;obtain⟨c,yN⟩:∃c:LC,c=⟨fn,ps,assign,bd,N⟩:=⟨_,rfl⟩;rw[<-yN]at dO;rw[hc.D]at dO;obtain⟨frs,IK⟩:∃x,x=Kq keep (Ge dn (Ag σ.hp) σ.fr keep):=⟨_,rfl⟩;rw[<-IK]at dO
 -- rY function tl is SO over
 obtain⟨gv,II,yM⟩:=Option.bind_eq_some_iff.1 hv;obtain⟨cv,uG,fy⟩:=Alg (Aa II hg hs.st (λ_ _=>rfl) trivial) yM;have oO:=gH.its _ (Ac2 hit) Y hY;obtain⟨eZ,oO⟩:=oO
 -- rY record and rY block for rY deferred calls are laid
 let lp:Loop:={ state:=.ready,pending:=none,fn,tmps:=a.tmps,params:=ps,assign,body:=bd,defers:=w.heap.size }
 let w0:World:=w.alloc (.deferred (some []))
 let w1:World:=w0.alloc (.loop lp)
 have vz:=Alr hs.st (.deferred (some []));have hM:Ap σ.hp σ.hp.length=.fresh:=by simp only[Ap,Ah,QV (QK _),ZV]
 have vf:w0.heap.size=w.heap.size+1:=by simp[w0]
 obtain⟨E1,x1,b1,xa,uW,hO1⟩:=Aih vz hM (.loop lp) (.bK c [] 0 none) λE' w' q1 q2 q3 q4=>⟨_,lp,q1,q2,q3,by subst yN;exact⟨rfl,rfl,rfl,rfl,hs.st.size,rfl,rfl⟩,by simp,q4⟩;have w9:∀k,bO E1 w1 k (aL (Ap σ.hp) σ.hp.length (.bK c frs 0 none) k):=by
  intro k;have hk:=xa k
  by_cases e:k=σ.hp.length
  .subst e
   simp only[aL,QE]at hk ⊢;obtain⟨b,r,k1,k2,k3,k4,k5,k6⟩:=hk;rw[uW]at k1;cases k1;have hr:r=lp:=by
    have:=heap_alloc_new w0 (.loop lp);rw[this]at k3;cases k3;rfl
   subst hr;refine⟨_,lp,uW,k2,k3,k4,λs v hm=>?_,k6⟩;rw[IK]at hm;have xM:bX B N E a w0 σ:=⟨vz,hs.len,hs.wf,hs.ge⟩;obtain⟨r1,r2⟩:=Anp xM hm;exact⟨by subst yN;exact r1,r2.mono x1⟩
  .simp only[aL,QD e]at hk ⊢
   exact hk
 rw[<-Aky]at w9
 -- rY later start
 have VV:w.heap.size<w1.heap.size:=by simp[w1,w0];omega
 have WG:∀k,E1.O w.heap.size≠some k:=by
  intro k hk;rcases hO1 _ _ hk with h|h
  .have:=(hs.st.base.dG _ _ h).1;omega
  .rw[vf]at h;omega
 have fv:w1.heap[w.heap.size]?=some (.deferred (some [])):=by
  rw[C3 (by rw[vf];omega)];exact heap_alloc_new w _
 let B1:Bs:=⟨w1,λb=>∃h,E1.O b=some h,E1.I,B.cS,B.nF,B.nG,w.heap.size :: B.dl⟩
 have vJ:B8 B1 E1 w1:=⟨rfl,rfl,rfl,QK _,λ_ _ _=>rfl,λb o h=>⟨h,rfl⟩,b1.eJ,λb o h=>.inl h,λb k hO=>⟨(b1.dG b k hO).1,.inr ⟨k,hO⟩⟩,⟨b1.cS.β,b1.cS.τ,b1.cS.ζ⟩⟩;have xP:nQ B B1:=by
  refine⟨b1.os,b1.tape,b1.output,b1.size,λb aA hX=>⟨?_,b1.old b aA hX⟩,b1.I0,b1.cE,λb ⟨k,hO⟩=>(b1.dG b k hO).2,rfl,rfl,rfl,λhm=>⟨?_,λr hr=>?_⟩,λr hr=>?_⟩
  .rintro⟨k,hO⟩
   rcases (b1.dG b k hO).2 with h|h
   .omega
   .exact hX h
  .refine List.nodup_cons.2 ⟨λhr=>?_,hm.nodup⟩
   have:=(hm.aZ _ hr).1;have:=hs.st.base.size;omega
  .rcases List.mem_cons.1 hr with rfl|hr
   .exact⟨VV,λ⟨k,hk⟩=>WG k hk,fv⟩
   .obtain⟨r1,r2,r3⟩:=hm.aZ r hr
    refine⟨XR r1 b1.size,?_,(b1.old r r1 r2).trans r3⟩;rintro⟨k,hO⟩;rcases (b1.dG r k hO).2 with h|h
    .omega
    .exact r2 h
  .rcases List.mem_cons.1 hr with rfl|hr
   .exact .inr hs.st.base.size
   .exact .inl hr
 let a1:Act:={ a with defers:=Va w.heap.size :: a.defers }
 have x0:Ext E w E w0:=⟨λ_ _ h=>h,λ_ _ h=>.inl h,λ_ _ h=>h,λ_ _ h=>h,λ_ _ h=>h,λb o hi=>Co (hs.st.base.eJ b o hi)⟩;have vu:bX B1 N E1 a1 w1 ⟨σ.fr,σ.hp++[.bK c frs 0 none],σ.gm⟩:=by
  have h3:=vz.step x1 b1 w9;exact⟨⟨vJ,w9,h3.slot,h3.size,by show Va w.heap.size :: a.defers=_;rw[hs.st.defers];rfl⟩,hs.len,⟨hs.wf.tg,hs.wf.gt,hs.wf.gf⟩,λk hk=>by have:=hs.ge k hk;simp;omega⟩
 have JN:E1.β σ.hp.length=some (w.heap.size+1):=by rw[uW,vf]
 -- rY call
 unfold Fl at dO;rw[hc.D]at dO;simp only at dO;obtain⟨uB,WV⟩:∃x,x=σ.hp++[Hl.bK c frs 0 none]:=⟨_,rfl⟩;simp only[<-WV]at dO w9 vu;obtain⟨DM,qJ⟩:∃x,x=loose.aF (norm.aN dn (.yv (Ag σ.hp) :: sX)):=⟨_,rfl⟩;simp only[<-qJ]at dO;obtain⟨cC,yH⟩:∃x,x=reach uB uB (Lu [] (iQ.uA DM)):=⟨_,rfl⟩;simp only[<-yH]at dO;obtain⟨BA,qT⟩:∃x,x=Vv dn uB cC:=⟨_,rfl⟩;simp only[<-qT]at dO
 split at dO
 .rename_i h3
  simp only[QB]at h3;obtain⟨⟨⟨⟨⟨c1,c2⟩,c3⟩,c4⟩,c5⟩,c6⟩:=h3;obtain⟨r,aI,⟨k1,k2⟩,rO⟩:=oO _ _ _ dO;simp only[QB]at k1;obtain⟨⟨⟨k3,k4⟩,k5⟩,k6⟩:=k1;have k3:=XA k3;simp only[Af cC,Af aI,Af uB,Ax,A5,J1]at k3 k5 k6 k2 rO;rw[Af]at c4;have HB:A1 E1 w1 (.yv (Ag σ.hp) :: sX) (.func (.yield (w.heap.size+1)) #[] #[] :: cv):=by
   refine .cons (.yv (by rw[Af];exact JN) rfl) ⟨fy.1,λi s v p q=>((fy.2 i s v p q).mono x0).mono x1⟩
  have hC:=Ny (cx:=cx) (G:=λus w R=>Calls P f ⟨us⟩ w R) (λus w R R' h hc=>hc.mono h) (hp:=uB) qJ qT ((Ht _).1 c1) ((Hf _ _).1 c2) c3 ((Gd _ _).1 c4) ((Gk _ _).1 c5) rO k3 k4 ((Gd _ _).1 k5) ((Oq _ _).1 k6) (xP.gl hg) vJ w9 (Ae6 _ _) HB;have xd:=run_enterLoop_outer (P:=P) (w:=w) fn a.tmps ps assign bd;obtain⟨fnn,body,g1,g2,g3⟩:=eZ;have g4:¬fnn.name="runtime.NumGoroutine":=by simpa using g3
  have hinv:(resolve a.eval (rangeCall g (w.heap.size+1)) 0).run P w1=.ok { target:=.fn (.func f) ⟨cv⟩,args:=#[.func (.yield (w.heap.size+1)) #[] #[]] } w1:=by
   simp[resolve,uG,Deferred.ofValue,show ∀v,a.eval (.const v)=v from λ_=>rfl]
  refine⟨w.heap.size+1,[Va w.heap.size],w1,_,w1,f,⟨.func (.yield (w.heap.size+1)) #[] #[] :: cv⟩,w1,xd,hinv,λ_ _=>trivial,?_,by simp[Fr,Fence.wide],?_⟩
  .have jO:(⟨.func (.yield (w.heap.size+1)) #[] #[] :: cv⟩:Array Value)=#[.func (.yield (w.heap.size+1)) #[] #[]]++(⟨cv⟩:Array Value):=by apply XN;simp
   rw[jO];simp[invoke,callFunc,g1,g2,g4]
  .refine (callsIn_wide (n:=nn-1)).2 (hC.mono ?_)
   rintro e w3 ⟨v,E3,rfl,y1,y2,y3,_⟩;obtain⟨k7,k8⟩:=k2
   split at k8
   .rename_i c4' fr4 st pd WI
    obtain⟨k9,FX⟩:=k8;rw[Af]at WI FX;rw[<-Jb _ _ k7]at y3;have hh4:=y3 σ.hp.length;rw[Bx WI]at hh4;obtain⟨b,r3,i1,i2,i3,i4,i5,i6⟩:=hh4;rw[y1.β _ _ JN]at i1;cases i1;have eY:r3.state≠.busy:=Ajm (by rw[i4.st];intro e;subst e;cases k9);have GU:bX B1 N E3 a1 w3 ⟨σ.fr,Mp uB (Dv cC ((aI.take cC.length).map (lT (Cb cC cC.length uB.length)))++Eo uB.length ((aI.drop cC.length).map (lT (Cb cC cC.length uB.length)))),σ.gm⟩:=by
     have h5:=vu.st.step y1 y2 y3;refine⟨h5,hs.len,⟨hs.wf.tg,hs.wf.gt,hs.wf.gf⟩,λk hk=>XR (vu.ge k hk) (O1 _ _)⟩
    have qL:=GU.setObj (Af6 WI) i2 i6 (.loop { r3 with state:=.exhausted }) .gone trivial;refine⟨_,_,run_endLoop i3 eY,?_⟩;rw[i4.pd]at qL ⊢;cases pd with
    |none=>exact⟨B1,E3,_,xP,qL,FX⟩
    |some j =>
     cases j with
     |ret=>exact wpIn_ret ⟨B1,E3,_,xP,qL,FX⟩
     |exit i=>exact wpIn_exit ⟨B1,E3,_,xP,qL,FX⟩
     |goto i=>exact wpIn_goto ⟨B1,E3,_,xP,qL,FX⟩
   .exact k8.elim
 .exact dO.elim
theorem qv.reb{B B1:Bs}{N:Nat}{K:Ex->Sy->Prop}{e:Exit}{a:Act}{w:World}(h:qv B1 N K e a w)(hb:nQ B B1):qv B N K e a w:=by
 obtain⟨B2,E,σ,h1,h2,h3⟩:=h;exact⟨B2,E,σ,hb.trans h1,h2,h3⟩
theorem Bk(hd:Re P)(hc:Az P cx)(bT:Eh P cx.gl cx.fC)(gH:W0 P cx){N:Nat}:∀(c:Code) (σ:Sy) (K:Ex->Sy->Prop),exec cx c σ K->∀(ro:Option Nat) (nn:Nat),ro=none\/Io c=true->∀(B:Bs),Ep B cx.gl->∀(E:Env) (a:Act) (w:World),bX B N E a w σ->c.wpIn (Fr ro) nn P (qv B N K) a w
 |.skip,σ,K,h,ro,nn,eW,B,hg,E,a,w,hs=>wpIn_skip ⟨B,E,σ,.refl B,hs,h⟩
 |.region id ops draw,σ,K,h,ro,nn,eW,B,hg,E,a,w,hs=>by
  obtain⟨E,σ,hs,h⟩:=hs.gD (id:=id+2000000) hc.D h;obtain⟨rs,aJ,h1,h2,h3⟩:=Di hc bT gH (ops:=ops) rfl ops.toList [] σ _ hs.wf h;simp only[List.nil_append]at h3;have fin:∀ {E':Env} {a':Act} {w':World},bX B N E' a' w' aJ->Sx.gD cx id ⟨Sx.tidy aJ.fr,aJ.hp,[]⟩ (K .normal)->qv B N K .normal a' w':=λcJ h3=>by
   obtain⟨E2,zH,q1,q2⟩:=(bX.tidy cJ).gD hc.D h3;exact⟨B,E2,zH,.refl B,q1,q2⟩
  cases draw with
  |true =>
   simp only[if_true]at h3
   split at h3
   .obtain⟨⟨hb⟩,h3⟩:=h3
    simp only[QB]at hb;exact hd ro nn cx.gl id ops B N σ aJ rs hg h1 hb.1 hb.2 _ E a w hs λE' a' w' cJ=>fin cJ h3
   .split at h3
    .rename_i hb
     simp only[QB]at hb;exact hd ro nn cx.gl id ops B N σ aJ rs hg h1 hb.1 hb.2 _ E a w hs λE' a' w' cJ=>fin cJ h3
    .exact h3.elim
  |false =>
   simp only[QR,if_false]at h3;exact W4 (Ab7 rfl hg h1 E a w hs λE' a' w' cJ=>fin cJ h3)
 |.seq x y,σ,K,h,ro,nn,eW,B,hg,E,a,w,hs=>by
  have hx:ro=none\/Io x=true:=eW.imp (λh=>h) λh=>by simp only[Io,QB]at h;exact h.1
  have hy:ro=none\/Io y=true:=eW.imp (λh=>h) λh=>by simp only[Io,QB]at h;exact h.2
  refine wpIn_seq (wpIn_mono (Bk hd hc bT gH x σ _ h ro nn hx B hg E a w hs) λe a' w' hq=>?_);obtain⟨B',E',aJ,hb,cJ,hk⟩:=hq;cases e with
  |normal=>exact wpIn_mono (Bk hd hc bT gH y aJ K hk ro nn hy B' (hb.gl hg) E' a' w' cJ) λe a w hq=>hq.reb hb
  |exit i=>exact⟨B',E',aJ,hb,cJ,hk⟩
  |goto l=>exact⟨B',E',aJ,hb,cJ,hk⟩
  |ret=>exact⟨B',E',aJ,hb,cJ,hk⟩
  |_=>exact hk.elim
 |.cond c x y,σ,K,h,ro,nn,eW,B,hg,E,a,w,hs=>by
  have hx:ro=none\/Io x=true:=eW.imp (λh=>h) λh=>by simp only[Io,QB]at h;exact h.1
  have hy:ro=none\/Io y=true:=eW.imp (λh=>h) λh=>by simp only[Io,QB]at h;exact h.2
  simp only[exec]at h;have hv:∀b,rd cx σ [] c=some (.bool b)->a.eval c=.bool b.den:=λb hb=>(Aa hb hg hs.st (λ_ _=>rfl) trivial).bG
  split at h
  .rename_i hb
   exact wpIn_cond (t:=true) (hv _ hb) (Bk hd hc bT gH x σ K h ro nn hx B hg E a w hs)
  .rename_i hb
   exact wpIn_cond (t:=false) (hv _ hb) (Bk hd hc bT gH y σ K h ro nn hy B hg E a w hs)
  .rename_i b _ _ hb
   rw[hc.D]at h;refine wpIn_cond_split (hv _ hb) (λe=>?_) (λe=>?_)
   .exact Bk hd hc bT gH x _ K (h.1 e) ro nn hx B hg E a w (hs.sE hb (hv _ hb) e)
   .exact Bk hd hc bT gH y _ K (h.2 e) ro nn hy B hg E a w (hs.sE hb (hv _ hb) e)
  .exact h.elim
 |.block id b,σ,K,h,ro,nn,eW,B,hg,E,a,w,hs=>by
  have hx:ro=none\/Io b=true:=eW.imp (λh=>h) λh=>h;refine wpIn_block (wpIn_mono (Bk hd hc bT gH b σ _ h ro nn hx B hg E a w hs) λe a' w' hq=>?_);obtain⟨B',E',aJ,hb,cJ,hk⟩:=hq;cases e with
  |normal=>exact⟨B',E',aJ,hb,cJ,hk⟩
  |exit i =>
   simp only[Exit.inBlock];simp only[CG]at hk
   by_cases e:i=id
   .rw[QE e]
    rw[QE (by simpa using e)]at hk;exact⟨B',E',aJ,hb,cJ,hk⟩
   .rw[QD e]
    rw[QD (by simpa using e)]at hk;exact⟨B',E',aJ,hb,cJ,hk⟩
  |goto l=>exact⟨B',E',aJ,hb,cJ,hk⟩
  |ret=>exact⟨B',E',aJ,hb,cJ,hk⟩
  |_=>exact hk.elim
 |.loop b,σ,K,h,ro,nn,eW,B,hg,E,a,w,hs=>by
  have hx:ro=none\/Io b=true:=eW.imp (λh=>h) λh=>h;simp only[exec]at h
  split at h
  .rename_i l _
   refine Abk (λm a w=>∃B1 eI E,nQ B B1/\Afb (exec cx b) m eI K/\bX B1 N E a w eI) ⟨KQ l,B,σ,E,.refl B,h,hs⟩ ?_;rintro m a' w' ⟨B1,eI,E',eX,hu,cJ⟩;cases m with
   |zero=>exact hu.elim
   |succ m =>
    refine wpIn_mono (Bk hd hc bT gH b _ _ hu ro nn hx B1 (eX.gl hg) E' a' w' cJ) λe a2 w2 hq=>?_;obtain⟨B2,E2,zH,cP,eE,hk⟩:=hq;have hr:=eX.trans cP;cases e with
    |normal=>exact⟨m,US _,B2,zH,E2,hr,hk,eE⟩
    |exit i=>exact⟨B2,E2,zH,hr,eE,hk⟩
    |goto l=>exact⟨B2,E2,zH,hr,eE,hk⟩
    |ret=>exact⟨B2,E2,zH,hr,eE,hk⟩
    |_=>exact hk.elim
  obtain⟨keep,J,⟨gQ,m0,hJ0⟩,xN⟩:=h;rw[hc.D]at hJ0 xN;refine Abk (λm a w=>∃B1 vs hp E,nQ B B1/\J m vs hp/\bX B1 N E a w ⟨Ou (Kq keep vs) (blank σ.fr),hp,[]⟩) ⟨m0,B,_,_,Cr (Ag σ.hp) E,.refl B,hJ0,?_⟩ ?_
  .have:=hs.head (n:=Ag σ.hp) (keep:=keep) hs.len (by rw[X1];exact gQ) (by rw[Af];exact hs.ge)
   rw[X1]at this;exact this
  .rintro m a' w' ⟨B1,vs,hp,E',eX,hJ,cJ⟩
   refine wpIn_mono (Bk hd hc bT gH b _ _ (xN m vs hp hJ) ro nn hx B1 (eX.gl hg) E' a' w' cJ) λe a2 w2 hq=>?_;obtain⟨B2,E2,zH,cP,eE,hk⟩:=hq;have hr:=eX.trans cP;cases e with
   |normal =>
    obtain⟨eA,m2,aA,zU⟩:=hk;exact⟨m2,aA,B2,_,_,_,hr,zU,eE.head hs.len eA (by rw[Af];exact hr.oB hs.ge)⟩
   |exit i=>exact⟨B2,E2,zH,hr,eE,hk⟩
   |goto l=>exact⟨B2,E2,zH,hr,eE,hk⟩
   |ret=>exact⟨B2,E2,zH,hr,eE,hk⟩
   |_=>exact hk.elim
 |.exit id,σ,K,h,ro,nn,eW,B,hg,E,a,w,hs=>wpIn_exit ⟨B,E,σ,.refl B,hs,h⟩
 |.ret,σ,K,h,ro,nn,eW,B,hg,E,a,w,hs=>wpIn_ret ⟨B,E,σ,.refl B,hs,h⟩
 |.rangeFunc g ps assign bd,σ,K,h,ro,nn,eW,B,hg,E,a,w,hs=>by
  rcases eW with rfl|eW
  .simp only[exec]at h
   split at h
   .rename_i f sX hv
    split at h
    .rename_i it hit
     obtain⟨WE,h⟩:=h;simp only[QB]at WE;refine Ach hc gH hg hs hv hit λc qW=>?_;have hN:Ag σ.fr=N:=by rw[Af];exact hs.len
     rw[<-hN]at qW;obtain⟨keep,Y,h1,h2⟩:=h c qW;refine⟨keep,Y,Zl hc qW (λl nn σ K h B hg E a w hs=>?_) (λl nn σ K h B hg E a w hs=>?_) h1,h2⟩
     .rw[hN]at hs;rw[hN];exact Bk hd hc bT gH assign σ K h (some l) nn (.inr WE.1) B hg E a w hs
     .rw[hN]at hs;rw[hN];exact Bk hd hc bT gH bd σ K h (some l) nn (.inr WE.2) B hg E a w hs
    .exact h.elim
   .exact h.elim
  .cases eW
 |.scope c,σ,K,h,ro,nn,eW,B,hg,E,a,w,hs=>by
  have hx:ro=none\/Io c=true:=eW.imp (λh=>h) λh=>h;refine Mm (wpIn_mono (Bk hd hc bT gH c σ _ h ro nn hx B hg E a w hs) λe a' w' hq=>?_);obtain⟨B',E',aJ,hb,cJ,hk⟩:=hq;cases e with
  |normal=>exact⟨B',E',aJ,hb,cJ,hk⟩
  |exit i=>exact⟨B',E',aJ,hb,cJ,hk⟩
  |goto l=>exact hk.elim
  |ret=>exact⟨B',E',aJ,hb,cJ,hk⟩
  |_=>exact hk.elim
 |.label _,σ,K,h,ro,nn,eW,B,hg,E,a,w,hs=>wpIn_label ⟨B,E,σ,.refl B,hs,h⟩
 |.goto _,σ,K,h,ro,nn,eW,B,hg,E,a,w,hs=>wpIn_goto ⟨B,E,σ,.refl B,hs,h⟩
 |.refuse _,_,_,h,_,_,_,_,_,_,_,_,_=>h.elim
theorem Aav(hd:Re P)(hc:Az P cx)(bT:Eh P cx.gl cx.fC)(gH:W0 P cx){B:Bs}{N:Nat}(hg:Ep B cx.gl)(c:Code)(σ:Sy)(K:Ex->Sy->Prop)(h:exec cx c σ K)(E:Env)(a:Act)(w:World)(hs:bX B N E a w σ):c.wp P (qv B N K) a w :=
 wpIn_wide.1 (Bk hd hc bT gH c σ K h none 0 (.inl rfl) B hg E a w hs)
end
end Go.Sx
