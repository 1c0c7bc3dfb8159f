/- A part of the proof: contracts of functions, or the executor and its soundness. No conditions. -/
import Derived.RangeFuncRecord
import Derived.Test.YtdoogdbjiijifaaGreatDoorE8Pam
namespace Go.Sx
open Go
section
variable {P:Program} {cx:Cx}
def CH(K:Ex->Sy->Prop)(σ:Sy):Exit->Prop
 |.normal=>K .normal σ
 |.exit i=>K (.exit i) σ
 |.goto l=>K (.goto l) σ
 |.ret=>K .ret σ
 |_=>False
def Qz(P:Program):Prop:=∀(ro:Option Nat) (nn:Nat) (gl:List (Nat×SV)) (id:Nat) (ops:Array Oper) (B:Bs) (N:Nat) (σ aL:Sy) (rs:List (Option (Sy×List Nat×Out))),Fh B gl->Z3 P gl ops.toList ops.toList σ rs aL->Hh ops.toList 0=true->
 indep ops.toList (Il ops.toList []) ops.toList (rs.map tC) 0=true->∀(Q:Exit->Act->World->Prop) (E:Env) (a:Act) (w:World),bR B N E a w σ->(∀E' a' w',bR B N E' a' w' aL->Q .normal a' w')->(Code.region id ops true).wpIn (Fr ro) nn P Q a w
theorem Gf{p:Nat->Prop}(h:∃n,p n):∃n,p n/\∀m,p m->n<=m:=by
 obtain⟨n,hn⟩:=h
 induction n using Nat.strongRecOn with
 |_ n ih =>
  by_cases hm:∃m,m<n/\p m
  .obtain⟨m,h1,h2⟩:=hm;exact ih m h1 h2
  .exact⟨n,hn,λm h=>Nat.le_of_not_lt λaC=>hm ⟨m,aC,h⟩⟩
theorem Z7{ro:Option Nat}{nn:Nat}{c:Code}{Q:Exit->Act->World->Prop}{a:Act}{w:World}(R:Nat->Act->World->Prop)(h0:∃n,R n a w)
  (round:∀n a w,R n a w->c.wpIn (Fr ro) nn P (Exit.then (λa' w'=>∃n',n'<n/\R n' a' w') Q) a w):(Code.loop c).wpIn (Fr ro) nn P Q a w:=by
 classical
 let μ:Act->World->Nat:=λa w=>if h:∃n,R n a w then Classical.choose (Gf h) else 0
 have FK:∀a w,(∃n,R n a w)->R (μ a w) a w/\∀m,R m a w->μ a w<=m:=by
  intro a w h;have:μ a w=Classical.choose (Gf h):=by simp only[μ];rw[dif_pos h]
  rw[this];exact Classical.choose_spec (Gf h)
 refine wpIn_loop (λa w=>∃n,R n a w) μ h0 λa w hI=>?_;obtain⟨h1,h2⟩:=FK a w hI;refine wpIn_mono (round _ a w h1) λe a' w' hq=>?_;cases e with
 |normal =>
  obtain⟨n',aC,hr⟩:=hq;exact⟨⟨n',hr⟩,Nat.lt_of_le_of_lt ((FK a' w' ⟨n',hr⟩).2 n' hr) aC⟩
 |_=>exact hq
def Cu(n:Nat)(E:Env):Env:=⟨λh=>if h<n then E.β h else none,λh=>if h<n then E.τ h else none,λb=>(E.O b).bind λh=>if h<n then some h else none,λh=>if h<n then E.κ h else none,λh=>if h<n then E.ζ h else none,E.I⟩
theorem Gg(n:Nat):∀(cs:List SV),Bu.iL n cs=true↔∀c∈cs,Bu n c=true
 | []=>by simp[Bu.iL]
 |c :: cs=>by simp[Bu.iL,Gg n cs]
theorem Rel.cut{E:Env}{w:World}{n:Nat}{s:SV}{v:Value}(h:Rel E w s v)(hb:Bu n s=true):Rel (Cu n E) w s v:=by
 induction h with
 |ro h=>exact .ro h
 | @ptr h off b v oE hv =>
  simp only[Bu,ZE]at hb;exact .ptr (by simp[Cu,hb];exact oE) hv
 | @dQ nl m sz f h v hr ht =>
  simp only[Bu,ZE]at hb;obtain⟨a,k,c,t1,t2⟩:=ht;exact .dQ hr ⟨a,k,c,by simp[Cu,hb];exact t1,t2⟩
 |dG oE hm hv =>
  simp only[Bu,ZE]at hb;exact .dG (by simp[Cu,hb];exact oE) (by simp[Cu,hb];exact hm) hv
 |cS oE hz hv =>
  simp only[Bu,ZE]at hb;exact .cS (by simp[Cu,hb];exact oE) (by simp[Cu,hb];exact hz) hv
 |bV ht hk =>
  simp only[Bu,ZE]at hb;obtain⟨a,k,c,t1,t2⟩:=hk;exact .bV ht ⟨a,k,c,by simp[Cu,hb];exact t1,t2⟩
 |cK hv ho =>
  simp only[Bu,ZE]at hb;obtain⟨a,k,c,sz,t1,t2,t3⟩:=ho;exact .cK hv ⟨a,k,c,sz,by simp[Cu,hb];exact t1,by simp[Cu,hb];exact t2,t3⟩
 |jP ht hk =>
  simp only[Bu,ZE]at hb;obtain⟨a,k,c,sz,t1,t2,t3⟩:=hk;exact .jP ht ⟨a,k,c,sz,by simp[Cu,hb];exact t1,by simp[Cu,hb];exact t2,t3⟩
 |bP oE hv =>
  simp only[Bu,ZE]at hb;exact .bP (by simp[Cu,hb];exact oE) hv
 |iZ oE hn hv =>
  simp only[Bu,ZE]at hb;exact .iZ (by simp[Cu,hb];exact oE) hn hv
 |cP ht hk =>
  simp only[Bu,ZE]at hb;obtain⟨a,k,c,t1,t2⟩:=hk;exact .cP ht ⟨a,k,c,by simp[Cu,hb];exact t1,t2⟩
 |yv oE hv =>
  simp only[Bu,ZE]at hb;exact .yv (by simp[Cu,hb];exact oE) hv
 |agg hl _ ih =>
  simp only[Bu]at hb;exact .agg hl λi s v h1 h2=>ih i s v h1 h2 ((Gg n _).1 hb s (QK h1))
 |aJ hl _ ih =>
  simp only[Bu]at hb;exact .aJ hl λi s v h1 h2=>ih i s v h1 h2 ((Gg n _).1 hb s (QK h1))
 |eZ hl _ ih =>
  simp only[Bu]at hb;exact .eZ hl λi s v h1 h2=>ih i s v h1 h2 ((Gg n _).1 hb s (QK h1))
 |gI hl _ ih =>
  simp only[Bu]at hb;exact .gI hl λi s v h1 h2=>ih i s v h1 h2 ((Gg n _).1 hb s (QK h1))
theorem Nv{n:Nat}:∀ {ls:List Hl},D5 n ls=true->∀ {i:Nat} {ty:TypeId} {cs:List SV},ls[i]?=some (.aG ty cs)->∀c∈cs,Bu n c=true
 | [],_,i,ty,cs,h=>by simp at h
 |l :: ls,hp,i,ty,cs,h=>by
  cases i with
  |zero =>
   simp at h;subst h;simp only[D5,QE,Bu]at hp;exact (Gg n cs).1 hp.1
  |succ i =>
   simp at h;cases l<;>simp only[D5,QE]at hp<;>first|exact Nv hp h|exact Nv hp.2 h
theorem Nw{n s:Nat}{v:SV}:∀ {fr:List (Nat×Option SV)},Nx n fr=true->(s,some v)∈fr->Bu n v=true
 | [],_,h=>by simp at h
 |(_,some u) :: l,hr,h=>by
  simp only[Nx,QE]at hr;simp only[XS,Prod.mk.injEq,Option.some.injEq]at h;rcases h with⟨_,rfl⟩|h
  .exact hr.1
  .exact Nw hr.2 h
 |(_,none) :: l,hr,h=>by
  simp only[Nx]at hr;simp only[XS,Prod.mk.injEq,reduceCtorEq,and_false,false_or]at h;exact Nw hr h
theorem Vk{n:Nat}:∀ {es:List (Int×SV)},Zv n es=true->∀p∈es,Bu n p.2=true
 | [],_,p,h=>by simp at h
 |(k,v) :: es,hb,p,h=>by
  simp only[Zv,QE]at hb;rw[XS]at h;rcases h with rfl|h
  .exact hb.1
  .exact Vk hb.2 p h
theorem Nu{n:Nat}:∀ {ls:List Hl},D5 n ls=true->∀ {i:Nat} {es:List (Int×SV)},ls[i]?=some (.iF es)->∀p∈es,Bu n p.2=true
 | [],_,i,es,h=>by simp at h
 |l :: ls,hp,i,es,h=>by
  cases i with
  |zero =>
   simp at h;subst h;simp only[D5,QE]at hp;exact Vk hp.1
  |succ i =>
   simp at h;cases l<;>simp only[D5,QE]at hp<;>first|exact Nu hp h|exact Nu hp.2 h
theorem Nt{n:Nat}:∀ {ls:List Hl},D5 n ls=true->∀ {i:Nat} {c:LC} {fr:List (Nat×Option SV)} {st:Nat} {pd:Option Jp},ls[i]?=some (.bO c fr st pd)->Nx n fr=true
 | [],_,i,c,fr,st,pd,h=>by simp at h
 |l :: ls,hp,i,c,fr,st,pd,h=>by
  cases i with
  |zero =>
   simp at h;subst h;simp only[D5,QE]at hp;exact hp.1
  |succ i =>
   simp at h;cases l<;>simp only[D5,QE]at hp<;>first|exact Nt hp h|exact Nt hp.2 h
theorem Xv(D:Dn):∀(ls:List Hl) (i:Nat),(Gx D ls)[i]?=(ls[i]?).map λl=>match l with
  |.aG ty cs=>.aG ty (norm.aM D cs)
  |.tail ty n sz=>.tail ty (.a (D.i n)) sz
  |.row ty n sz f=>.row ty (.a (D.i n)) sz f
  |.own ty n sz gr f=>.own ty (.a (D.i n)) sz gr f
  |.vec ty n g sz f=>.vec ty (.a (D.i n)) (.a (D.i g)) sz f
  |l=>l
 | [],i=>by simp[Gx]
 |l :: ls,i=>by
  cases i with
  |zero=>cases l<;>simp[Gx]
  |succ i=>cases l<;>simp[Gx,Xv D ls i]
theorem Xj(D:Dn):∀(ls:List Hl),(Gx D ls).length=ls.length
 | []=>rfl
 |l :: ls=>by cases l<;>simp[Gx,Xj D ls]
theorem Jq:∀(l:List (Nat×Option SV)) (fr:List (Option G)) (s:Nat) (g:G),(∀s,Au fr s=none)->Au (Oo l fr) s=some g->g.tg=[]/\g.gt=none/\g.gf=none/\∃v,(s,some v)∈l/\g.v=v:=by
 have key:∀(l:List (Nat×Option SV)) (fr:List (Option G)) (s:Nat) (g:G),Au (Oo l fr) s=some g->Au fr s=some g\/(g.tg=[]/\g.gt=none/\g.gf=none/\∃v,(s,some v)∈l/\g.v=v):=by
  intro l
  induction l with
  |nil=>intro fr s g h;exact .inl h
  |cons p l ih =>
   obtain⟨i,v⟩:=p;intro fr s g h;rcases ih _ s g h with h|⟨h1,h2,h3,v',h4,h5⟩
   .rw[B5]at h
    split at h
    .rename_i e
     cases v with
     |none=>cases h
     |some v=>cases h;exact .inr ⟨rfl,rfl,rfl,v,by rw[e.1];exact XA ..,rfl⟩
    .exact .inl h
   .exact .inr ⟨h1,h2,h3,v',XB _ h4,h5⟩
 intro l fr s g cE h;rcases key l fr s g h with h|h
 .rw[cE]at h;cases h
 .exact h
theorem Hw{α:Type}:∀(l:List α) (s:Nat),Au (blank l) s=none
 | [],s=>by simp[blank,Au]
 |_ :: l,0=>rfl
 |_ :: l,s+1=>Hw l s
theorem Xk{α:Type}:∀(l:List α),(blank l).length=l.length
 | []=>rfl
 |_ :: l=>by simp[blank,Xk l]
theorem Um:∀(l:List (Nat×Option SV)) (fr:List (Option G)),(Oo l fr).length=fr.length
 | [],_=>rfl
 |(i,v) :: l,fr=>by simp[Oo,Um l,As]
theorem Kd{D:Dn}{n:Nat}{fr:List (Option G)}{s:Nat}{v:SV}:∀(keep:List Nat),(s,some v)∈K5 keep (Gw D n fr keep)->∃g,Au fr s=some g/\g.tg=[]/\Bu n g.v=true/\v=norm D g.v
 | [],h=>by simp[K5]at h
 |i :: keep,h=>by
  simp only[Gw,K5,XS]at h;rcases h with h|h
  .simp only[Prod.mk.injEq]at h
   obtain⟨rfl,h⟩:=h
   split at h
   .rename_i gt gf v' hg
    split at h
    .rename_i hb
     cases h;exact⟨_,hg,rfl,hb,rfl⟩
    .cases h
   .cases h
  .exact Kd keep h
theorem bR.head{B:Bs}{N:Nat}{E:Env}{a:Act}{w:World}{σ:Sy}(h:bR B N E a w σ){n:Nat}{keep:List Nat}{sO:List (Option G)}(cE:sO.length=N)(hb:D5 n (takeN n σ.hp)=true)(hn:∀h,B.cL h≠none\/B.nX h≠none\/B.nY h≠none->h<n):
  bR B N (Cu n E) a w ⟨Oo (K5 keep (Gw dn n σ.fr keep)) (blank sO),Gx dn (takeN n σ.hp),[]⟩:=by
 have aA:=h.st.base;refine⟨⟨⟨aA.os,aA.tape,aA.output,aA.size,aA.dZ,aA.I0,aA.dR,aA.cC,λb k hO=>?_,⟨λk b hk=>by simp only[Cu,QB (hn k (.inl (by rw[hk];simp)))];exact aA.cL.β k b hk,λk v hk=>by simp only[Cu,QB (hn k (.inr (.inl (by rw[hk];simp))))];exact aA.cL.τ k v hk,λk z hk=>by simp only[Cu,QB (hn k (.inr (.inr (by rw[hk];simp))))];exact aA.cL.ζ k z hk⟩⟩,λk=>?_,λs=>?_,h.st.size,h.st.defers⟩,by rw[Um,Xk];exact cE,⟨λs g hs=>?_,λs g i hs hi=>?_,λs g i hs hi=>?_⟩,λk hk=>?_⟩
 .have hO:(E.O b).bind (λh=>if h<n then some h else none)=some k:=hO
  cases ma:E.O b with
  |none=>rw[ma]at hO;cases hO
  |some k' =>
   rw[ma]at hO;simp only[ZS]at hO
   split at hO
   .cases hO;exact aA.cR b k ma
   .cases hO
 .rw[A8]at hb ⊢
  simp only[Aq,Aj,Xv]
  by_cases hk:k<n
  .have bC:=h.st.heap k
   simp only[Aq,Aj]at bC;rw[QN,QB hk];have hO:∀b,E.O b=some k->(Cu n E).O b=some k:=λb hb=>by simp[Cu,hb,hk]
   cases hl:σ.hp[k]? with
   |none =>
    rw[hl]at bC;simp only[YY,ZT];obtain⟨q1,q2,q3,q4⟩:=bC;exact⟨by simp only[Cu,QB hk];exact q1,by simp only[Cu,QB hk];exact q2,by simp only[Cu,QB hk];exact q3,by simp only[Cu,QB hk];exact q4⟩
   |some l =>
    rw[hl]at bC;simp only[QP,XG]at bC ⊢;cases l with
    |fresh =>
     obtain⟨q1,q2,q3,q4⟩:=bC;exact⟨by simp only[Cu,QB hk];exact q1,by simp only[Cu,QB hk];exact q2,by simp only[Cu,QB hk];exact q3,by simp only[Cu,QB hk];exact q4⟩
    |gone=>trivial
    |aG ty cs =>
     obtain⟨b,C,k1,k2,k3,k4,k5,k6⟩:=bC.eC;have sJ:∀c∈cs,Bu n c=true:=Nv hb (i:=k) (by rw[QN,QB hk];exact hl);have hn:A6 (Cu n E) w (norm.aM dn cs) C.toList:=by
      rw[Ci];exact k4.map _ λs v hs h=>(h.cut (sJ s hs)).norm
     exact⟨b,C,by simp only[Cu,QB hk];exact k1,hO b k2,k3,by have:=hn.1;simpa using this.symm,λi s v p q=>hn.2 i s v p (by simpa using q),λv hv=>k5 v (by simpa using hv),k6⟩
    |tail ty m sz =>
     obtain⟨v,m',xs,k1,k2,k3,k4,k5⟩:=bC;exact⟨v,m',xs,by simp only[Cu,QB hk];exact k1,k2,k3,k4,λb hb=>⟨hO b (k5 b hb).1,(k5 b hb).2⟩⟩
    |row ty m sz f =>
     obtain⟨b,C,m',k1,k2,kz,k3,k4,k5,k6,k7,k8⟩:=bC;exact⟨b,C,m',by simp only[Cu,QB hk];exact k1,by simp only[Cu,QB hk];exact k2,by simp only[Cu,QB hk];exact kz,hO b k3,k4,k5,k6,k7,k8⟩
    |own ty m sz gr f =>
     obtain⟨v,m',xs,k1,kz,k2,k3,k4,k5,k6⟩:=bC;exact⟨v,m',xs,by simp only[Cu,QB hk];exact k1,by simp only[Cu,QB hk];exact kz,k2,k3,k4,k5,λb hb=>⟨hO b (k6 b hb).1,(k6 b hb).2⟩⟩
    |mN T e s =>
     obtain⟨b,p,v,k1,k2,k3,k4,k5,k6,k7,k8⟩:=bC;exact⟨b,p,v,by simp only[Cu,QB hk];exact k1,hO b k2,k3,k4,k5,k6,k7,λg hg=>⟨hO g (k8 g hg).1,(k8 g hg).2⟩⟩
    |vec ty m g sz f =>
     obtain⟨a,c,m',G,xs,k1,k2,k3,k4,k5,k6,k7⟩:=bC;exact⟨a,c,m',G,xs,by simp only[Cu,QB hk];exact k1,k2,k3,k4,k5,k6,λb hb=>⟨hO b (k7 b hb).1,(k7 b hb).2⟩⟩
    |cZ F =>
     obtain⟨b,es,clock,k1,k2,k3,k4,k5,k6⟩:=bC;exact⟨b,es,clock,by simp only[Cu,QB hk];exact k1,hO b k2,k3,k4,k5,k6⟩
    |iF es =>
     obtain⟨b,ms,clock,k1,k2,k3,k4,k5,k6⟩:=bC;have sJ:=Nu hb (i:=k) (by rw[QN,QB hk];exact hl);exact⟨b,ms,clock,by simp only[Cu,QB hk];exact k1,hO b k2,k3,k4,λi p e hp he=>⟨(k5 i p e hp he).1,(k5 i p e hp he).2.cut (sJ p (QK hp))⟩,k6⟩
    |bO c fr st pd =>
     obtain⟨b,rr,k1,k2,k3,k4,k5,k6⟩:=bC;have sJ:=Nt hb (i:=k) (by rw[QN,QB hk];exact hl);exact⟨b,rr,by simp only[Cu,QB hk];exact k1,hO b k2,k3,k4,λs v hm=>⟨(k5 s v hm).1,(k5 s v hm).2.cut (Nw sJ hm)⟩,k6⟩
  .rw[QN,QA hk]
   simp only[YY,ZT];exact⟨by simp[Cu,hk],by simp[Cu,hk],by simp[Cu,hk],by simp[Cu,hk]⟩
 .simp only[Bd]
  cases hs:Au (Oo (K5 keep (Gw dn n σ.fr keep)) (blank sO)) s with
  |none=>trivial
  |some g =>
   obtain⟨g1,_,_,v,g4,g5⟩:=Jq _ _ s g (Hw sO) hs;obtain⟨g',q1,q2,q3,q4⟩:=Kd keep g4;have bD:=h.st.slot s;simp only[Bd,q1,QP,Bk,q2,Ac,XZ,Bh]at bD;obtain⟨s1,s2,_⟩:=bD;simp only[QP,Bk,g1,Ac,XZ,Bh];refine⟨s1,λ_=>?_,λh=>absurd trivial h⟩;rw[g5,q4];exact ((s2 trivial).cut q3).norm
 .obtain⟨g1,_⟩:=Jq _ _ s g (Hw sO) hs
  rw[g1];simp
 .obtain⟨_,g2,_⟩:=Jq _ _ s g (Hw sO) hs
  rw[g2]at hi;cases hi
 .obtain⟨_,_,g3,_⟩:=Jq _ _ s g (Hw sO) hs
  rw[g3]at hi;cases hi
 .rw[Xj,A8,QZ]
  have h1:=hn k hk;have h2:=h.ge k hk;omega
theorem W2{α:Type}(l:List α):takeN (Ah l) l=l:=by rw[A8,Af,YQ]
theorem bR.tN{B:Bs}{N:Nat}{E:Env}{a:Act}{w:World}{σ:Sy}(h:bR B N E a w σ){c:Operand}{bt:BT}{b:Bool}(hr:rd cx σ [] c=some (.bool bt))(hv:a.eval c=.bool bt.den)(hb:bt.den=b):bR B N E a w (tN σ c b):=by
 cases c with
 |tmp s =>
  simp only[rd]at hr
  split at hr
  .rename_i g hg
   have aC:s<σ.fr.length:=by
    rcases ZJ s σ.fr.length with h|h
    .exact h
    .rw[D7,QV h]at hg;cases hg
   have bL:∀k,Au (Ax σ.fr s (some ⟨[],none,none,.bool (.l b)⟩)) k=if k=s then some ⟨[],none,none,.bool (.l b)⟩ else Au σ.fr k:=λk=>by
    rw[B5]
    by_cases e:k=s
    .rw[QB ⟨e,aC⟩,QB e]
    .rw[QA (λh=>e h.1),QA e]
   refine⟨⟨h.st.base,h.st.heap,λk=>?_,h.st.size,h.st.defers⟩,by show (Ax σ.fr s _).length=N;rw[As,XM];exact h.len,⟨λk g' hk i hi=>?_,λk g' i hk hi=>?_,λk g' i hk hi=>?_⟩,h.ge⟩
   .simp only[Bd,Sx.tN,bL]
    by_cases e:k=s
    .subst e
     rw[QB rfl];have hv:a.tmps.getD k undef=.bool bt.den:=hv;refine⟨by rw[h.st.size,<-h.len];exact aC,λ_=>?_,λhn=>absurd trivial hn⟩;rw[hv];exact .bool hb.symm
    .rw[QA e]
     exact h.st.slot k
   .have hk:Au (Ax σ.fr s (some ⟨[],none,none,.bool (.l b)⟩)) k=some g':=hk
    rw[bL]at hk
    split at hk
    .cases hk;cases hi
    .exact h.wf.tg k g' hk i hi
   .have hk:Au (Ax σ.fr s (some ⟨[],none,none,.bool (.l b)⟩)) k=some g':=hk
    rw[bL]at hk
    split at hk
    .cases hk;cases hi
    .exact h.wf.gt k g' i hk hi
   .have hk:Au (Ax σ.fr s (some ⟨[],none,none,.bool (.l b)⟩)) k=some g':=hk
    rw[bL]at hk
    split at hk
    .cases hk;cases hi
    .exact h.wf.gf k g' i hk hi
  .cases hr
 |const _=>exact h
 |global _=>exact h
 |func _=>exact h
theorem Fa{b:Frame}{a:Act}{k:List Item}{cs:List Frame}{w:World}{c:Code}:step P (lone (b.atR a (.code (.scope c) :: k)) cs w)=.next (lone (b.atR a (.code c :: .inScope c :: k)) cs w) :=
 step_lone_go (by simp[stepG,stepG.exec,Frame.atR])
theorem V7{b:Frame}{a:Act}{k:List Item}{cs:List Frame}{w:World}{c:Code}:step P (lone (b.atR a (.inScope c :: k)) cs w)=.next (lone (b.atR a k) cs w) :=
 step_lone_go (by simp[stepG,stepG.exec,Frame.atR])
theorem Mo{F:Fence}{n:Nat}{Q:Exit->Act->World->Prop}{a:Act}{w:World}{c:Code}(h:c.wpIn F n P (Exit.noGoto Q) a w):(Code.scope c).wpIn F n P Q a w:=by
 intro b k cs gY hb hr;have h0:(lone (b.atR a (.code (.scope c) :: k)) cs w).fenced P F:=fenced_calm hb hr rfl;obtain⟨e,di,yJ,hq,mM⟩:=h b (.inScope c :: k) cs gY hb hr;cases e with
 |normal=>exact⟨.normal,di,yJ,hq,.head h0 Fa (StepsIn.trans mM (.one (fenced_calm hb hr rfl) V7))⟩
 |exit id =>
  have hx:exitTo id (.inScope c :: k)=exitTo id k:=by simp[exitTo]
  exact⟨.exit id,di,yJ,hq,λk' hk=>.head h0 Fa (mM.1 k' (by rw[hx];exact hk)),λxa hk=>let ⟨k₁,h1,h2⟩:=mM.2 xa (by rw[hx];exact hk);⟨k₁,h1,.head h0 Fa h2⟩⟩
 |goto l=>exact hq.elim
 |ret=>exact⟨_,di,yJ,hq,.of_steps (.one h0 Fa) mM⟩
 |panic ch=>exact⟨_,di,yJ,hq,.of_steps (.one h0 Fa) mM⟩
 |outgrown=>exact⟨_,di,yJ,hq,.of_steps (.one h0 Fa) mM⟩
end
section
variable {P:Program} {cx:Cx}
theorem Py{E:Env}{w:World}{vs:List SV}{us:List Value}(h:A6 E w vs us):Rel E w (MM vs) (if h:(⟨us⟩:Array Value).size=1 then (⟨us⟩:Array Value)[0] else .tuple ⟨us⟩):=by
 match vs,us,h with
 | [],[],h=>exact .aJ h.1 h.2
 | [v],[u],h=>exact h.2 0 v u rfl rfl
 |_ :: _ :: _,_ :: _ :: _,h =>
  rw[dif_neg (by simp)];exact .aJ h.1 h.2
 | [],_ :: _,h=>exact absurd h.1 (by simp)
 |_ :: _,[],h=>exact absurd h.1 (by simp)
 | [_],_ :: _ :: _,h=>exact absurd h.1 (by simp)
 |_ :: _ :: _,[_],h=>exact absurd h.1 (by simp)
theorem Aab:∀n,W1 n=List.range n
 |0=>rfl
 |n+1=>by rw[W1,Aab n,List.range_succ]
theorem Ag3:∀ {a b:List Nat},nd a b=true->a=b
 | [],[],_=>rfl
 |x :: l,y :: t,h=>by
  simp only[nd,QE,QS]at h;rw[h.1,Ag3 h.2]
 | [],_ :: _,h=>by cases h
 |_ :: _,[],h=>by cases h
theorem X4(hc:Az P cx){B:Bs}{N:Nat}{E':Env}{a':Act}{w':World}{aL:Sy}(cB:bR B N E' a' w' aL){m:Nat}(dV:∀h,B.cL h≠none\/B.nX h≠none\/B.nY h≠none->h<m){vs:List SV}{us:List Value}(u2:A6 E' w' vs us){r:SV}{aK:List Hl}(hk:LN cx m vs aL λr' dU=>Fin r' r dU aK):
  ∃E2,Cl B E2 w'/\(∀h,h<aK.length->bQ E2 w' h (Aq aK h))/\Rel E2 w' r (if h:(⟨us⟩:Array Value).size=1 then (⟨us⟩:Array Value)[0] else .tuple ⟨us⟩):=by
  have aA:=cB.st.base;unfold LN at hk;rw[hc.D]at hk;obtain⟨r0,oM⟩:∃x,x=loose (norm dn (MM vs)):=⟨_,rfl⟩;simp only[<-oM]at hk;obtain⟨hs,hhs⟩:∃x,x=reach aL.hp aL.hp (L9 (W1 m) (iA r0)):=⟨_,rfl⟩;simp only[<-hhs]at hk;obtain⟨ls,kA⟩:∃x,x=Ux dn aL.hp hs:=⟨_,rfl⟩;simp only[<-kA]at hk
  split at hk
  .rename_i dD
   simp only[QE]at dD;obtain⟨⟨⟨⟨⟨c1,c2⟩,c3⟩,c4⟩,c5⟩,c6⟩:=dD;have n1:=(Ht _).1 c1;have c2:=Ag3 c2;rw[A8,Aab]at c2;have c3:=(Ho _ _).1 c3;have c6:=(G3 _ _).1 c6;obtain⟨k1,k2,k3⟩:=hk;have uF:∀k,k<m->hs[k]?=some k:=by
    intro k hk;have:(hs.take m)[k]?=some k:=by rw[c2,List.getElem?_range hk]
    rwa [QN,QB hk]at this
   let E2:Env:=⟨λi=>(hs[i]?).bind E'.β,λi=>(hs[i]?).bind E'.τ,λb=>(E'.O b).bind λh=>hs.idxOf? h,λ_=>none,λi=>(hs[i]?).bind E'.ζ,E'.I⟩
   have uK:Cl B E2 w':=by
    refine⟨aA.os,aA.tape,aA.output,aA.size,aA.dZ,aA.I0,aA.dR,aA.cC,λb j hO=>?_,⟨λk b hk=>?_,λk v hk=>?_,λk z hk=>?_⟩⟩
    .have hO:(E'.O b).bind (λh=>hs.idxOf? h)=some j:=hO
     cases ma:E'.O b with
     |none=>rw[ma]at hO;cases hO
     |some q=>exact aA.cR b q ma
    .show (hs[k]?).bind E'.β=some b
     rw[uF k (dV k (.inl (by rw[hk];simp)))];exact aA.cL.β k b hk
    .show Pm v ((hs[k]?).bind E'.τ)
     rw[uF k (dV k (.inr (.inl (by rw[hk];simp))))];exact aA.cL.τ k v hk
    .show (hs[k]?).bind E'.ζ=some z
     rw[uF k (dV k (.inr (.inr (by rw[hk];simp))))];exact aA.cL.ζ k z hk
   have bZ:∀k∈hs,Yi E' k E2 (H7 hs k):=by
    intro k hk;obtain⟨i,hi⟩:=List.mem_iff_getElem?.1 hk;rw[Oz n1 hi];exact⟨by show (hs[i]?).bind E'.β=_;rw[hi];rfl,by show (hs[i]?).bind E'.τ=_;rw[hi];rfl,by show (hs[i]?).bind E'.ζ=_;rw[hi];rfl⟩
   have eE:∀(i k:Nat),hs[i]?=some k->hs.idxOf? k=some i:=by
    intro i k hk;rw[ZX];obtain⟨aC,he⟩:=List.getElem?_eq_some_iff.1 hk;refine⟨aC,by simp[he],λj hj=>?_⟩;have aY:hs[j]≠hs[i]:=List.pairwise_iff_getElem.1 n1 j i (by omega) aC hj;rw[<-he];simpa using aY
   have n2:ls.length=hs.length:=by rw[kA,O5,XW]
   refine⟨E2,uK,λh aC=>?_,?_⟩
   .refine k2 h E2 w' ?_
    rw[Ke]at k3 ⊢;rw[XW,n2]at k3;have eL:h<hs.length:=by omega
    have dP:hs[h]∈hs:=XL eL;have hl:ls[h]?=some ls[h]:=QC (by omega);have hhf:Aq (ls.map (mA (H7 hs))) h=mA (H7 hs) ls[h]:=by
     simp only[Aq,Aj];rw[QR,hl];rfl
    rw[hhf];obtain⟨d1,d2⟩:=c6 ls[h] (XL _);have hk:=cB.st.heap hs[h];have eK:bQ E' w' hs[h] ls[h]:=by
     have iJ:=hl
     conv at iJ=>lhs;rw[kA,O5,QR,QC eL]
     simp only[QP,Option.some.injEq]at iJ;rw[<-iJ];cases hn:nth aL.hp hs[h] with
     |none=>trivial
     |some l0=>rw[Bo hn]at hk;exact hk.pC
    have cA:=bZ _ dP;rw[Oz n1 (QC eL)]at cA;refine eK.rn (H7 hs) d1 rfl cA (λb hb=>?_) λj hj=>bZ j (d2 j hj);show (E'.O b).bind (λh=>hs.idxOf? h)=some h;rw[hb];exact eE h _ (QC eL)
   .have dB:=(Py u2).norm.loose
    rw[<-oM]at dB;exact k1 E2 w' _ (dB.rn (H7 hs) rfl c4 λk hk=>bZ k (c3 k hk))
  .exact hk.elim
structure Afs(B:Bs):Prop where
 nodup:B.dl.Nodup
 bY:∀r∈B.dl,r<B.w0.heap.size/\¬B.X r/\B.w0.heap[r]?=some (.deferred (some []))
structure oG(B B1:Bs):Prop where
 os:B1.w0.os=B.w0.os
 tape:B1.w0.tape=B.w0.tape
 output:B1.w0.output=B.w0.output
 size:B.w0.heap.size<=B1.w0.heap.size
 dZ:∀b,b<B.w0.heap.size->¬B.X b->¬B1.X b/\B1.w0.heap[b]?=B.w0.heap[b]?
 I0:∀b o,B.I0 b o->B1.I0 b o/\B1.w0.cell? ⟨b,o,none⟩=B.w0.cell? ⟨b,o,none⟩
 cC:∀b o,B1.I0 b o->B.I0 b o\/B.w0.heap.size<=b\/B.X b
 X:∀b,B1.X b->B.w0.heap.size<=b\/B.X b
 cL:B1.cL=B.cL
 nX:B1.nX=B.nX
 nY:B1.nY=B.nY
 marks:Afs B->Afs B1
 new:∀r∈B1.dl,r∈B.dl\/B.w0.heap.size<=r
theorem oG.refl(B:Bs):oG B B:=⟨rfl,rfl,rfl,QH _,λ_ _ h=>⟨h,rfl⟩,λ_ _ h=>⟨h,rfl⟩,λ_ _ h=>.inl h,λ_ h=>.inr h,rfl,rfl,rfl,id,λ_ h=>.inl h⟩
theorem oG.trans{A B C:Bs}(h1:oG A B)(h2:oG B C):oG A C where
 os:=h2.os.trans h1.os
 tape:=h2.tape.trans h1.tape
 output:=h2.output.trans h1.output
 size:=XV h1.size h2.size
 dZ:=λb aC hX=>by
  obtain⟨p1,p2⟩:=h1.dZ b aC hX;obtain⟨q1,q2⟩:=h2.dZ b (XP aC h1.size) p1;exact⟨q1,q2.trans p2⟩
 I0:=λb o hi=>by
  obtain⟨p1,p2⟩:=h1.I0 b o hi;obtain⟨q1,q2⟩:=h2.I0 b o p1;exact⟨q1,q2.trans p2⟩
 cC:=λb o hi=>by
  rcases h2.cC b o hi with h|h|h
  .exact h1.cC b o h
  .exact .inr (.inl (XV h1.size h))
  .exact .inr (h1.X b h)
 X:=λb hX=>by
  rcases h2.X b hX with h|h
  .exact .inl (XV h1.size h)
  .exact h1.X b h
 cL:=h2.cL.trans h1.cL
 nX:=h2.nX.trans h1.nX
 nY:=h2.nY.trans h1.nY
 marks:=λh=>h2.marks (h1.marks h)
 new:=λr hr=>by
  rcases h2.new r hr with h|h
  .exact h1.new r h
  .exact .inr (XV h1.size h)
theorem oG.since{B B1:Bs}{E:Env}(h:oG B B1)(hs:M4 B1 E):M4 B E :=
 ⟨λk b hk=>hs.β k b (by rw[h.cL];exact hk),λk v hk=>hs.τ k v (by rw[h.nX];exact hk),λk n hk=>hs.ζ k n (by rw[h.nY];exact hk)⟩
theorem oG.base{B B1:Bs}{E:Env}{w:World}(h:oG B B1)(hb:Cl B1 E w):Cl B E w where
 os:=hb.os.trans h.os
 tape:=hb.tape.trans h.tape
 output:=hb.output.trans h.output
 size:=XV h.size hb.size
 dZ:=λb aC hX=>by
  obtain⟨p1,p2⟩:=h.dZ b aC hX;exact (hb.dZ b (XP aC h.size) p1).trans p2
 I0:=λb o hi=>by
  obtain⟨p1,p2⟩:=h.I0 b o hi;obtain⟨q1,q2⟩:=hb.I0 b o p1;exact⟨q1,q2.trans p2⟩
 dR:=hb.dR
 cC:=λb o hi=>by
  rcases hb.cC b o hi with q|q|q
  .exact h.cC b o q
  .exact .inr (.inl (XV h.size q))
  .exact .inr (h.X b q)
 cR:=λb k hO=>by
  obtain⟨q1,q2⟩:=hb.cR b k hO;refine⟨q1,?_⟩;rcases q2 with q|q
  .exact .inl (XV h.size q)
  .exact h.X b q
 cL:=h.since hb.cL
theorem oG.gl{B B1:Bs}{gl:List (Nat×SV)}(h:oG B B1)(hg:Fh B gl):Fh B1 gl:=λg s hl=>by
 obtain⟨g1,g2,g3,g4⟩:=hg g s hl;obtain⟨p1,p2⟩:=h.dZ g g2 g3;exact⟨g1.mono (λb o hi=>(h.I0 b o hi).1) (λb o hi=>(h.I0 b o hi).2),XP g2 h.size,p1,g4.same p2⟩
theorem oG.NS{B B1:Bs}(h:oG B B1){m:Nat}(hd:∀h,B.cL h≠none\/B.nX h≠none\/B.nY h≠none->h<m):∀h,B1.cL h≠none\/B1.nX h≠none\/B1.nY h≠none->h<m:=by
 rw[h.cL,h.nX,h.nY];exact hd
def r9(B:Bs)(N:Nat)(K:Ex->Sy->Prop)(e:Exit)(a:Act)(w:World):Prop:=∃B1 E σ,oG B B1/\bR B1 N E a w σ/\CH K σ e
theorem Ai4{hp:List Hl}{h:Nat}{l:Hl}(aC:h<hp.length):Aq (Ax hp h l)=aR (Aq hp) h l:=by
 have:=Qh (hp:=hp) (h:=h) (hl:=l) (Nat.le_of_lt aC);unfold DG at this;rw[QA (by rw[Af];simp;omega)]at this;exact this
theorem Ai3{hp:List Hl}{l:Hl}:Aq (hp++[l])=aR (Aq hp) hp.length l:=by
 have:=Qh (hp:=hp) (h:=hp.length) (hl:=l) (QH _);unfold DG at this;rw[QB (by rw[Af];simp)]at this;exact this
theorem Aem{α:Type}{l:List α}{i:Nat}{x:α}(h:nth l i=some x):i<l.length:=by
 rw[Aj]at h;exact (List.getElem?_eq_some_iff.1 h).1
theorem bR.setObj{B:Bs}{N:Nat}{E:Env}{a:Act}{w:World}{σ:Sy}(hs:bR B N E a w σ){h b:Nat}(aC:h<σ.hp.length)(hO:E.O b=some h)(hI:∀o,¬E.I b o)(o':Obj)(l:Hl)
  (hl:bQ E (w.putObj b o') h l):bR B N E a (w.putObj b o') ⟨σ.fr,Ax σ.hp h l,σ.gm⟩:=by
 obtain⟨x1,x2,x3⟩:=N9 hs.st hO hI o' l hl;refine⟨?_,hs.len,⟨hs.wf.tg,hs.wf.gt,hs.wf.gf⟩,λk hk=>?_⟩
 .have:=hs.st.step x1 x2 x3
  rw[<-Ai4 aC]at this;exact this
 .show k<(Ax σ.hp h l).length
  rw[As,XM];exact hs.ge k hk
theorem M4.comp{B:Bs}{E E':Env}{w:World}{X:Nat->Prop}{I0:Nat->Nat->Prop}{dl:List Nat}(h:M4 B E)(h':M4 ⟨w,X,I0,E.β,E.τ,E.ζ,dl⟩ E'):M4 B E':=by
 refine⟨λk b hk=>h'.β k b (h.β k b hk),λk v hk=>?_,λk n hk=>h'.ζ k n (h.ζ k n hk)⟩;have h1:=h.τ k v hk;cases he:E.τ k with
 |none=>rw[he]at h1;rcases h1 with h1|⟨_,_,_,_,_,_,_,h1,_⟩<;>cases h1
 |some u =>
  rw[he]at h1;exact h1.trans (h'.τ k u he)
theorem W6:∀ {ps:List Tmp} {vs:List SV} {fr nU:List (Option G)},I9 ps vs fr=some nU->vs.length=ps.length/\nU.length=fr.length
 | [],[],fr,nU,h=>by simp[I9]at h;subst h;exact⟨rfl,rfl⟩
 |p :: ps,v :: vs,fr,nU,h=>by
  obtain⟨h1,h2⟩:=W6 (ps:=ps) (vs:=vs) (by simpa[I9] using h);exact⟨by simp[h1],by rw[h2,As,XM]⟩
 | [],_ :: _,_,_,h=>by simp[I9]at h
 |_ :: _,[],_,_,h=>by simp[I9]at h
structure DD(E:Env)(w:World)(N:Nat)(fr:List (Option G))(tmps:Array Value):Prop where
 len:fr.length=N
 size:tmps.size=N
 bY:∀s g,Au fr s=some g->g.tg=[]/\g.gt=none/\g.gf=none/\s<N/\Rel E w g.v (tmps.getD s undef)
theorem DD.DW{E:Env}{w:World}{N:Nat}:∀(ps:List Tmp) (vs:List SV) (us:List Value) (fr nU:List (Option G)) (tmps:Array Value),DD E w N fr tmps->I9 ps vs fr=some nU->A6 E w vs us->
  DD E w N nU ((ps.zip us).foldl (λtmps (x:Tmp×Value)=>tmps.setIfInBounds x.1 x.2) tmps)
 | [],[],us,fr,nU,tmps,h,hs,_=>by simp[I9]at hs;subst hs;simpa using h
 |p :: ps,v :: vs,[],_,_,_,_,_,hr=>absurd hr.1 (by simp)
 |p :: ps,v :: vs,u :: us,fr,nU,tmps,h,hs,hr=>by
  have xR:A6 E w vs us:=⟨by have:=hr.1;simpa using this,λi s v a b=>hr.2 (i+1) s v a b⟩;have xy:=hr.2 0 v u rfl rfl;simp only[YM,List.foldl_cons];refine DD.DW ps vs us _ nU _ ?_ (by simpa[I9] using hs) xR;refine⟨by rw[As,XM];exact h.len,by simp[h.size],λs g hg=>?_⟩;rw[B5]at hg
  split at hg
  .rename_i e
   obtain⟨rfl,e2⟩:=e;cases hg;rw[h.len]at e2;refine⟨rfl,rfl,rfl,e2,?_⟩;rw[XH,ZW (by rw[h.size];exact e2)];exact xy
  .rename_i e
   obtain⟨q1,q2,q3,q4,q5⟩:=h.bY s g hg;refine⟨q1,q2,q3,q4,?_⟩;have e2:p≠s:=λe2=>e ⟨e2.symm,by rw[h.len,e2];exact q4⟩;rw[XH,ZP e2,<-XH];exact q5
 | [],_ :: _,_,_,_,_,_,hs,_=>by simp[I9]at hs
 |_ :: _,[],_,_,_,_,_,hs,_=>by simp[I9]at hs
theorem Ai9(N s:Nat):Au (List.replicate N (none:Option G)) s=none:=by
 rw[D7,List.getElem?_replicate]
 split<;>rfl
theorem Ad0{x:LoopState}(h:LX x=0):x=.ready:=by cases x<;>simp[LX]at h ⊢
theorem Ahv{x:LoopState}(h:LX x≠1):x≠.busy:=by rintro rfl;exact h rfl
def u9(cx:Cx)(c:LC)(ps:Array Tmp)(assign bd:Code)(N:Nat)(Y:aB):Prop :=
 ∀xs ls K',Y cx.D xs ls K'->(∃fr,ls.head?=some (.bO c fr 0 none))/\∃r aK,K' r aK/\match Aej c ps N xs ls with
  |some sO=>exec cx assign ⟨sO,ls,[]⟩ λe dS=>match e,nth dS.hp 0 with
   |.normal,some (.bO c1 rm 0 none)=>exec cx bd ⟨dS.fr,Ax dS.hp 0 (.bO c1 rm 1 none),dS.gm⟩ (Tt cx (Ah ls) λr' dU=>Fin r' r dU aK)
   |_,_=>False
  |none=>False
def Ahe(P:Program)(cx:Cx)(N:Nat)(x:Code):Prop:=∀(l nn:Nat) (σ:Sy) (K:Ex->Sy->Prop),exec cx x σ K->∀(B:Bs),Fh B cx.gl->∀(E:Env) (a:Act) (w:World),bR B N E a w σ->x.wpIn (Fr (some l)) nn P (r9 B N K) a w
theorem Yj(hc:Az P cx){N:Nat}{c:LC}{ps:Array Tmp}{assign bd:Code}(hl:AH c ps assign bd N){Y:aB}(sa:Ahe P cx N assign)(sb:Ahe P cx N bd)(h:u9 cx c ps assign bd N Y):CW P cx.gl Y:=by
 intro as ls K hY;rw[<-hc.D]at hY;obtain⟨⟨fr,cE⟩,r,aK,hK,hx⟩:=h as ls K hY;refine⟨r,aK,hK,?_⟩;intro B E w aX nI IX dV hb hg hh hr;obtain⟨rest,rfl⟩:∃rest,ls=.bO c fr 0 none :: rest:=by
  cases ls with
  |nil=>simp at cE
  |cons x rest=>simp at cE;subst cE;exact⟨rest,rfl⟩
 split at hx
 .rename_i sO h0
  obtain⟨vs,rfl,tR⟩:∃vs,as=.yv 0 :: vs/\I9 ps.toList vs (Oo fr (List.replicate N none))=some sO:=by
   unfold Aej at h0
   split at h0
   .rename_i vs _ _ _ e
    simp only[List.cons.injEq,Hl.bO.injEq,and_true]at e;obtain⟨⟨rfl,rfl⟩,rfl⟩:=e;exact⟨vs,rfl,h0⟩
   .cases h0
  obtain⟨u,us,rfl,hu,jB⟩:∃u us,aX=u :: us/\Rel E w (.yv 0) u/\A6 E w vs us:=by
   cases aX with
   |nil=>exact absurd hr.1 (by simp)
   |cons u us=>exact⟨u,us,rfl,hr.2 0 _ u rfl rfl,⟨by have:=hr.1;simpa using this,λi s v a b=>hr.2 (i+1) s v a b⟩⟩
  obtain⟨b,fQ,rfl⟩:=hu.yI;have WW:=hh 0;obtain⟨b',rr,k1,k2,k3,k4,k5,k6⟩:=WW;rw[fQ]at k1;cases k1;obtain⟨p1,p2⟩:=W6 tR;have xc:rr.params.toList=ps.toList:=by rw[k4.ps,hl.ps]
  have bB:us.length=rr.params.size:=by
   rw[<-Array.length_toList,xc,<-p1];exact jB.1.symm
  refine⟨b,us,rr,rfl,k3,bB,λro nn=>?_⟩;rw[show rr.assign=assign by rw[k4.assign,hl.assign],show rr.body=bd by rw[k4.body,hl.body]];have rj:∀h,E.β h≠none\/E.τ h≠none\/E.ζ h≠none->h<(Hl.bO c fr 0 none :: rest).length:=by
   intro h aY;rcases ZJ h (Hl.bO c fr 0 none :: rest).length with aC|kZ
   .exact aC
   .have hk:=hh h
    rw[show Aq (Hl.bO c fr 0 none :: rest) h=.fresh by simp only[Aq,Aj,QV kZ,ZT]]at hk;obtain⟨q1,q2,q3,q4⟩:=hk;rcases aY with aY|aY|aY
    .exact absurd q1 aY
    .exact absurd q2 aY
    .exact absurd q4 aY
  subst nI
  let B':Bs:=⟨B.w0,B.X,B.I0,E.β,E.τ,E.ζ,[]⟩
  have oE:Cl B' E B.w0:=⟨hb.os,hb.tape,hb.output,hb.size,hb.dZ,hb.I0,hb.dR,hb.cC,hb.cR,⟨λ_ _ h=>h,λ_ _ h=>.inl h,λ_ _ h=>h⟩⟩;have mR:Fh B' cx.gl:=hg;have yj:∀ {E2:Env} {w2:World},Cl B' E2 w2->Cl B E2 w2:=λ{E2 w2} h2=>⟨h2.os,h2.tape,h2.output,h2.size,h2.dZ,h2.I0,h2.dR,h2.cC,h2.cR,hb.cL.comp h2.cL⟩;have lP:DD E B.w0 N sO ((rr.params.zip (⟨us⟩:Array Value)).foldl (λtmps (t,a)=>tmps.setIfInBounds t a) rr.tmps):=by
   have h1:DD E B.w0 N (Oo fr (List.replicate N none)) rr.tmps:=by
    refine⟨by rw[Um];simp,by rw[k4.n,hl.n],λs g hs=>?_⟩;obtain⟨g1,g2,g3,v,g4,g5⟩:=Jq _ _ s g (Ai9 N) hs;obtain⟨q1,q2⟩:=k5 s v g4;exact⟨g1,g2,g3,by rw[<-hl.n];exact q1,by rw[g5];exact q2⟩
   have h2:=h1.DW ps.toList vs us _ sO _ tR jB;have e:(rr.params.zip (⟨us⟩:Array Value)).foldl (λtmps (t,a)=>tmps.setIfInBounds t a) rr.tmps=(ps.toList.zip us).foldl (λtmps (x:Tmp×Value)=>tmps.setIfInBounds x.1 x.2) rr.tmps:=by
    rw[<-Array.foldl_toList,Array.toList_zip,xc]
   rw[e];exact h2
  generalize (rr.params.zip (⟨us⟩:Array Value)).foldl (λtmps (t,a)=>tmps.setIfInBounds t a) rr.tmps=DR at lP ⊢
  have sty:bR B' N E { tmps:=DR,defers:=[] } B.w0 ⟨sO,.bO c fr 0 none :: rest,[]⟩:=by
   refine⟨⟨oE,hh,λs=>?_,lP.size,rfl⟩,lP.len,⟨λs g hs i hi=>?_,λs g i hs hi=>?_,λs g i hs hi=>?_⟩,rj⟩
   .simp only[Bd]
    cases hs:Au sO s with
    |none=>trivial
    |some g =>
     obtain⟨q1,q2,q3,q4,q5⟩:=lP.bY s g hs;simp only[QP,Bk,q1,Ac,XZ,Bh];exact⟨by rw[lP.size];exact q4,λ_=>q5,λh=>absurd trivial h⟩
   .rw[(lP.bY s g hs).1]at hi;cases hi
   .rw[(lP.bY s g hs).2.1]at hi;cases hi
   .rw[(lP.bY s g hs).2.2.1]at hi;cases hi
  refine roundIn_of_wpIn trivial ?_;refine wpIn_mono (sa b nn _ _ hx B' mR E _ B.w0 sty) ?_;rintro e a1 w1 ⟨B1,E1,dS,IU,cA,fJ⟩;have xB:E1.β 0=some b:=(IU.since cA.st.base.cL).β 0 b fQ;cases e with
  |normal =>
   have fJ:match nth dS.hp 0 with
    |some (.bO c1 rm 0 none)=>exec cx bd ⟨dS.fr,Ax dS.hp 0 (.bO c1 rm 1 none),dS.gm⟩ (Tt cx (Ah (Hl.bO c fr 0 none :: rest)) λr' dU=>Fin r' r dU aK)
    |_=>False:=by
    simp only[CH]at fJ
    split at fJ
    .rename_i c1 rm _ xU
     simp only[xU];exact fJ
    .exact fJ.elim
   split at fJ
   .rename_i c1 rm xU
    have NI:=cA.st.heap 0;rw[Bo xU]at NI;obtain⟨b1,r1,j1,j2,j3,j4,j5,j6⟩:=NI;rw[xB]at j1;cases j1;refine⟨_,run_beginRound j3 (Ad0 j4.st),?_⟩;have sJ:=A9 cA.st.base j2;have PB:=cA.setObj (Aem xU) j2 j6 (.loop { r1 with state:=.busy }) (.bO c1 rm 1 none) (by
     obtain⟨x1,_,_⟩:=N9 cA.st j2 j6 (.loop { r1 with state:=.busy }) .gone trivial;exact⟨b,_,xB,j2,World.putObj_heap_same sJ,⟨j4.fn,j4.ps,j4.assign,j4.body,j4.n,rfl,j4.pd⟩,λs v hm=>⟨(j5 s v hm).1,(j5 s v hm).2.mono x1⟩,j6⟩)
    refine wpIn_mono (sb b nn _ _ fJ B1 (IU.gl mR) E1 a1 _ PB) ?_;rintro e a3 w3 ⟨B3,E3,σ3,yn,sT,lO⟩;have FN:E3.β 0=some b:=(IU.since (yn.since sT.st.base.cL)).β 0 b fQ;have IH:=(IU.trans yn).NS (m:=Ah (Hl.bO c fr 0 none :: rest)) (by rw[Af];exact rj);have key:∀(x:Ex) (jump:Option Code),(jq x).2.1.map Jp.code=jump->(jq x).2.2=jump.isNone->(jq x).1=(if jump.isNone then 0 else 2)->Tt cx (Ah (Hl.bO c fr 0 none :: rest)) (λr' dU=>Fin r' r dU aK) x σ3->
      ∃v w',(Instr.endRound b jump).run P w3=.ok v w'/\∃uV E',Ending.returned v=.returned uV/\Cl B E' w'/\(∀h,h<aK.length->bQ E' w' h (Aq aK h))/\Rel E' w' r uV:=by
     intro x jump e1 e2 e3 MZ;unfold Tt at MZ
     split at MZ
     .rename_i c3 fr3 st pd bb HA hj
      rw[hj]at e1 e2 e3;simp only at e1 e2 e3;have hh3:=sT.st.heap 0;rw[Bo HA]at hh3;obtain⟨b3,r3,i1,i2,i3,i4,i5,i6⟩:=hh3;rw[FN]at i1;cases i1;have WI:=A9 sT.st.base i2;have PA:=sT.setObj (Aem HA) i2 i6 (.loop { r3 with state:=if jump.isNone then .ready else .done,pending:=jump }) (.bO c3 fr3 st pd) (by
       obtain⟨x1,_,_⟩:=N9 sT.st i2 i6 (.loop { r3 with state:=if jump.isNone then .ready else .done,pending:=jump }) .gone trivial;refine⟨b,_,FN,i2,World.putObj_heap_same WI,⟨i4.fn,i4.ps,i4.assign,i4.body,i4.n,?_,e1.symm⟩,λs v hm=>⟨(i5 s v hm).1,(i5 s v hm).2.mono x1⟩,i6⟩;rw[e3];show LX (if jump.isNone then .ready else .done)=_;cases jump.isNone<;>rfl)
      obtain⟨E5,q1,q2,q3⟩:=X4 hc PA IH (vs:=[.bool (.l bb)]) (us:=[.bool jump.isNone]) (.cons (.ro (.bool (by rw[<-e2];rfl))) .nil) MZ;exact⟨_,_,run_endRound jump i3,_,E5,rfl,yj ((IU.trans yn).base q1),q2,q3⟩
     .exact MZ.elim
    cases e with
    |normal=>exact key .normal none rfl rfl rfl lO
    |ret=>exact key .ret (some .ret) rfl rfl rfl lO
    |exit i=>exact key (.exit i) (some (.exit i)) rfl rfl rfl lO
    |goto i=>exact key (.goto i) (some (.goto i)) rfl rfl rfl lO
    |panic _=>exact lO.elim
    |outgrown=>exact lO.elim
   .exact fJ.elim
  |ret=>simp only[CH]at fJ
  |exit i=>simp only[CH]at fJ
  |goto i=>simp only[CH]at fJ
  |panic _=>exact fJ.elim
  |outgrown=>exact fJ.elim
 .exact hx.elim
theorem Abu{α:Type}:∀ {l:List (Nat×α)} {k:Nat} {x:α},look k l=some x->(k,x)∈l
 | [],_,_,h=>by simp[look]at h
 |(j,y) :: l,k,x,h=>by
  simp only[look]at h
  split at h
  .rename_i e
   have e:j=k:=by simpa using e
   subst e;cases h;exact XA ..
  .exact XB _ (Abu h)
theorem Ajx{B:Bs}{N:Nat}{E:Env}{a:Act}{w:World}{ff:Nat->SG}{hf:Nat->Hl}(st:St B N E a w ff hf)(o':Obj):St B N E a (w.alloc o') ff hf:=by
 have hb:=st.base;have hx:Ext E w E (w.alloc o'):=⟨λ_ _ h=>h,λ_ _ h=>.inl h,λ_ _ h=>h,λ_ _ h=>h,λ_ _ h=>h,λb o hi=>C5 (hb.dR b o hi)⟩;refine st.step hx ⟨hb.os,hb.tape,hb.output,?_,?_,?_,?_,hb.cC,?_,hb.cL⟩ λk=>?_
 .have:=hb.size;simp;omega
 .intro b aC hX;rw[De (by have:=hb.size;omega)];exact hb.dZ b aC hX
 .intro b o hi
  obtain⟨i1,i2⟩:=hb.I0 b o hi;exact⟨i1,by rw[C5 (hb.dR b o i1)];exact i2⟩
 .intro b o hi;have:=hb.dR b o hi;simp;omega
 .intro b k hO
  obtain⟨o1,o2⟩:=hb.cR b k hO;simp;exact⟨by omega,o2⟩
 .refine bQ.keep hx (st.heap k) rfl rfl rfl rfl λb hO=>?_
  exact⟨hO,De (A9 hb hO),λ_ h=>h⟩
theorem Al2{N:Nat}{B:Bs}{E:Env}{a:Act}{w:World}{σ:Sy}(hs:bR B N E a w σ){n:Nat}{keep:List Nat}{s:Nat}{v:SV}(h:(s,some v)∈K5 keep (Gw dn n σ.fr keep)):s<N/\Rel E w v (a.tmps.getD s undef):=by
 obtain⟨g,q1,q2,q3,q4⟩:=Kd keep h;have bD:=hs.st.slot s;simp only[Bd,q1,QP,Bk,q2,Ac,XZ,Bh]at bD;obtain⟨s1,s2,_⟩:=bD;rw[hs.st.size]at s1;exact⟨s1,by rw[q4];exact (s2 trivial).norm⟩
theorem Ajj{E:Env}{w:World}{v:SV}{u:Value}{f:FuncId}{cs:List SV}(h:Rel E w v u)(hc:OR v=some (f,cs)):∃cv:List Value,u=.func (.func f) #[] ⟨cv⟩/\A6 E w cs cv:=by
 unfold OR at hc
 split at hc
 .simp only[Option.some.injEq,Prod.mk.injEq]at hc
  obtain⟨rfl,rfl⟩:=hc;exact h.qI
 .simp only[Option.some.injEq,Prod.mk.injEq]at hc
  obtain⟨rfl,rfl⟩:=hc;exact⟨[],h.qH,.nil⟩
 .cases hc
theorem Aa6{nn:Nat}(hc:Az P cx)(fM:Vw P cx){B:Bs}{N:Nat}(hg:Fh B cx.gl){g:Operand}{ps:Array Tmp}{assign bd:Code}{σ:Sy}{K:Ex->Sy->Prop}{E:Env}{a:Act}{w:World}(hs:bR B N E a w σ)
  {f:FuncId} {uQ:List SV} {it:aB->aB} (hv:(rd cx σ [] g).bind OR=some (f,uQ)) (hit:look f cx.its=some it)
  (h:∀c,AH c ps assign bd N->∃(keep:List Nat) (Y:aB),CW P cx.gl Y/\
   F9 cx ⟨σ.fr,σ.hp++[.bO c (K5 keep (Gw cx.D (Ah σ.hp) σ.fr keep)) 0 none],σ.gm⟩ [] (.yv (Ah σ.hp) :: uQ) (it Y) λo =>
      match Lw (σ.hp++[.bO c (K5 keep (Gw cx.D (Ah σ.hp) σ.fr keep)) 0 none]) o.fK with
      |mC=>Jh (σ.hp++[.bO c (K5 keep (Gw cx.D (Ah σ.hp) σ.fr keep)) 0 none]) o.fK=true/\match nth mC (Ah σ.hp) with
       |some (.bO _ _ st pd)=>Nat.beq st 1=false/\K (JF pd) ⟨σ.fr,Ax mC (Ah σ.hp) .gone,σ.gm⟩
       |_=>False):
  (Code.rangeFunc g ps assign bd).wpIn (Fr none) nn P (r9 B N K) a w:=by
 refine wpIn_rangeFunc λfn _=>?_;obtain⟨keep,Y,hY,dW⟩:=h ⟨fn,ps,assign,bd,N⟩ ⟨rfl,rfl,rfl,rfl⟩;obtain⟨c,cu⟩:∃c:LC,c=⟨fn,ps,assign,bd,N⟩:=⟨_,rfl⟩;rw[<-cu]at dW;rw[hc.D]at dW;obtain⟨WY,ID⟩:∃x,x=K5 keep (Gw dn (Ah σ.hp) σ.fr keep):=⟨_,rfl⟩;rw[<-ID]at dW
 -- qZ function that is PM over
 obtain⟨gv,xz,qS⟩:=Option.bind_eq_some_iff.1 hv;obtain⟨cv,pK,cq⟩:=Ajj (Aa xz hg hs.st (λ_ _=>rfl) trivial) qS;have uE:=fM.its _ (Abu hit) Y hY;obtain⟨dO,uE⟩:=uE
 -- qZ record and qZ block for qZ deferred calls are laid
 let lp:Loop:={ state:=.ready,pending:=none,fn,tmps:=a.tmps,params:=ps,assign,body:=bd,defers:=w.heap.size }
 let w0:World:=w.alloc (.deferred (some []))
 let w1:World:=w0.alloc (.loop lp)
 have wq:=Ajx hs.st (.deferred (some []));have hM:Aq σ.hp σ.hp.length=.fresh:=by simp only[Aq,Aj,QV (QH _),ZT]
 have wg:w0.heap.size=w.heap.size+1:=by simp[w0]
 obtain⟨E1,x1,b1,NI,xB,WO⟩:=Agp wq hM (.loop lp) (.bO c [] 0 none) λE' w' q1 q2 q3 q4=>⟨_,lp,q1,q2,q3,by subst cu;exact⟨rfl,rfl,rfl,rfl,hs.st.size,rfl,rfl⟩,by simp,q4⟩;have xK:∀k,bQ E1 w1 k (aR (Aq σ.hp) σ.hp.length (.bO c WY 0 none) k):=by
  intro k;have hk:=NI k
  by_cases e:k=σ.hp.length
  .subst e
   simp only[aR,QB]at hk ⊢;obtain⟨b,r,k1,k2,k3,k4,k5,k6⟩:=hk;rw[xB]at k1;cases k1;have hr:r=lp:=by
    have:=heap_alloc_new w0 (.loop lp);rw[this]at k3;cases k3;rfl
   subst hr;refine⟨_,lp,xB,k2,k3,k4,λs v hm=>?_,k6⟩;rw[ID]at hm;have kU:bR B N E a w0 σ:=⟨wq,hs.len,hs.wf,hs.ge⟩;obtain⟨r1,r2⟩:=Al2 kU hm;exact⟨by subst cu;exact r1,r2.mono x1⟩
  .simp only[aR,QA e]at hk ⊢
   exact hk
 rw[<-Ai3]at xK
 -- qZ later start
 have SL:w.heap.size<w1.heap.size:=by simp[w1,w0];omega
 have TC:∀k,E1.O w.heap.size≠some k:=by
  intro k hk;rcases WO _ _ hk with h|h
  .have:=(hs.st.base.cR _ _ h).1;omega
  .rw[wg]at h;omega
 have WA:w1.heap[w.heap.size]?=some (.deferred (some [])):=by
  rw[De (by rw[wg];omega)];exact heap_alloc_new w _
 let B1:Bs:=⟨w1,λb=>∃h,E1.O b=some h,E1.I,B.cL,B.nX,B.nY,w.heap.size :: B.dl⟩
 have lF:Cl B1 E1 w1:=⟨rfl,rfl,rfl,QH _,λ_ _ _=>rfl,λb o h=>⟨h,rfl⟩,b1.dR,λb o h=>.inl h,λb k hO=>⟨(b1.cR b k hO).1,.inr ⟨k,hO⟩⟩,⟨b1.cL.β,b1.cL.τ,b1.cL.ζ⟩⟩;have ba:oG B B1:=by
  refine⟨b1.os,b1.tape,b1.output,b1.size,λb aC hX=>⟨?_,b1.dZ b aC hX⟩,b1.I0,b1.cC,λb ⟨k,hO⟩=>(b1.cR b k hO).2,rfl,rfl,rfl,λhm=>⟨?_,λr hr=>?_⟩,λr hr=>?_⟩
  .rintro⟨k,hO⟩
   rcases (b1.cR b k hO).2 with h|h
   .omega
   .exact hX h
  .refine List.nodup_cons.2 ⟨λhr=>?_,hm.nodup⟩
   have:=(hm.bY _ hr).1;have:=hs.st.base.size;omega
  .rcases List.mem_cons.1 hr with rfl|hr
   .exact⟨SL,λ⟨k,hk⟩=>TC k hk,WA⟩
   .obtain⟨r1,r2,r3⟩:=hm.bY r hr
    refine⟨XP r1 b1.size,?_,(b1.dZ r r1 r2).trans r3⟩;rintro⟨k,hO⟩;rcases (b1.cR r k hO).2 with h|h
    .omega
    .exact r2 h
  .rcases List.mem_cons.1 hr with rfl|hr
   .exact .inr hs.st.base.size
   .exact .inl hr
 let a1:Act:={ a with defers:=T9 w.heap.size :: a.defers }
 have x0:Ext E w E w0:=⟨λ_ _ h=>h,λ_ _ h=>.inl h,λ_ _ h=>h,λ_ _ h=>h,λ_ _ h=>h,λb o hi=>C5 (hs.st.base.dR b o hi)⟩;have wm:bR B1 N E1 a1 w1 ⟨σ.fr,σ.hp++[.bO c WY 0 none],σ.gm⟩:=by
  have h3:=wq.step x1 b1 xK;exact⟨⟨lF,xK,h3.slot,h3.size,by show T9 w.heap.size :: a.defers=_;rw[hs.st.defers];rfl⟩,hs.len,⟨hs.wf.tg,hs.wf.gt,hs.wf.gf⟩,λk hk=>by have:=hs.ge k hk;simp;omega⟩
 have IY:E1.β σ.hp.length=some (w.heap.size+1):=by rw[xB,wg]
 -- qZ call
 unfold F9 at dW;rw[hc.D]at dW;simp only at dW;obtain⟨pF,VA⟩:∃x,x=σ.hp++[Hl.bO c WY 0 none]:=⟨_,rfl⟩;simp only[<-VA]at dW xK wm;obtain⟨DM,rX⟩:∃x,x=loose.aH (norm.aM dn (.yv (Ah σ.hp) :: uQ)):=⟨_,rfl⟩;simp only[<-rX]at dW;obtain⟨cA,bu⟩:∃x,x=reach pF pF (L9 [] (iA.tS DM)):=⟨_,rfl⟩;simp only[<-bu]at dW;obtain⟨BN,sB⟩:∃x,x=Ux dn pF cA:=⟨_,rfl⟩;simp only[<-sB]at dW
 split at dW
 .rename_i h3
  simp only[QE]at h3;obtain⟨⟨⟨⟨c1,c2⟩,c3⟩,c4⟩,c5⟩:=h3;obtain⟨r,aK,⟨k1,k2⟩,sZ⟩:=uE _ _ _ dW;simp only[QE]at k1;obtain⟨⟨⟨k3,k4⟩,k5⟩,k6⟩:=k1;have k3:=XJ k3;simp only[Af cA,Af aK,Af pF,A8,Bi,Ke]at k3 k5 k6 k2 sZ;rw[Af]at c4;have GK:A6 E1 w1 (.yv (Ah σ.hp) :: uQ) (.func (.yield (w.heap.size+1)) #[] #[] :: cv):=by
   refine .cons (.yv (by rw[Af];exact IY) rfl) ⟨cq.1,λi s v p q=>((cq.2 i s v p q).mono x0).mono x1⟩
  have hC:=Nr (cx:=cx) (G:=λus w R=>Calls P f ⟨us⟩ w R) (λus w R R' h hc=>hc.mono h) (hp:=pF) rX sB ((Ht _).1 c1) ((Ho _ _).1 c2) c3 ((Gv _ _).1 c4) ((G3 _ _).1 c5) sZ k3 k4 ((Gv _ _).1 k5) ((On _ _).1 k6) (ba.gl hg) lF xK (Adm _ _) GK;have yb:=run_enterLoop_outer (P:=P) (w:=w) fn a.tmps ps assign bd;obtain⟨fnn,body,g1,g2,g3⟩:=dO;have g4:¬fnn.name="runtime.NumGoroutine":=by simpa using g3
  have hinv:(resolve a.eval (rangeCall g (w.heap.size+1)) 0).run P w1=.ok { target:=.fn (.func f) ⟨cv⟩,args:=#[.func (.yield (w.heap.size+1)) #[] #[]] } w1:=by
   simp[resolve,pK,Deferred.ofValue,show ∀v,a.eval (.const v)=v from λ_=>rfl]
  refine⟨w.heap.size+1,[T9 w.heap.size],w1,_,w1,f,⟨.func (.yield (w.heap.size+1)) #[] #[] :: cv⟩,w1,yb,hinv,λ_ _=>trivial,?_,by simp[Fr,Fence.wide],?_⟩
  .have gP:(⟨.func (.yield (w.heap.size+1)) #[] #[] :: cv⟩:Array Value)=#[.func (.yield (w.heap.size+1)) #[] #[]]++(⟨cv⟩:Array Value):=by apply XU;simp
   rw[gP];simp[invoke,callFunc,g1,g2,g4]
  .refine (callsIn_wide (n:=nn-1)).2 (hC.mono ?_)
   rintro e w3 ⟨v,E3,rfl,y1,y2,y3,_⟩;obtain⟨k7,k8⟩:=k2
   split at k8
   .rename_i c4' fr4 st pd TF
    obtain⟨k9,FF⟩:=k8;rw[Af]at TF FF;rw[<-Jo _ _ k7]at y3;have hh4:=y3 σ.hp.length;rw[Bo TF]at hh4;obtain⟨b,r3,i1,i2,i3,i4,i5,i6⟩:=hh4;rw[y1.β _ _ IY]at i1;cases i1;have iB:r3.state≠.busy:=Ahv (by rw[i4.st];intro e;subst e;cases k9);have GG:bR B1 N E3 a1 w3 ⟨σ.fr,Lw pF (D8 cA ((aK.take cA.length).map (mA (Cp cA cA.length pF.length)))++E7 pF.length ((aK.drop cA.length).map (mA (Cp cA cA.length pF.length)))),σ.gm⟩:=by
     have h5:=wm.st.step y1 y2 y3;refine⟨h5,hs.len,⟨hs.wf.tg,hs.wf.gt,hs.wf.gf⟩,λk hk=>XP (wm.ge k hk) (Oy _ _)⟩
    have rY:=GG.setObj (Aem TF) i2 i6 (.loop { r3 with state:=.exhausted }) .gone trivial;refine⟨_,_,run_endLoop i3 iB,?_⟩;rw[i4.pd]at rY ⊢;cases pd with
    |none=>exact⟨B1,E3,_,ba,rY,FF⟩
    |some j =>
     cases j with
     |ret=>exact wpIn_ret ⟨B1,E3,_,ba,rY,FF⟩
     |exit i=>exact wpIn_exit ⟨B1,E3,_,ba,rY,FF⟩
     |goto i=>exact wpIn_goto ⟨B1,E3,_,ba,rY,FF⟩
   .exact k8.elim
 .exact dW.elim
theorem r9.reb{B B1:Bs}{N:Nat}{K:Ex->Sy->Prop}{e:Exit}{a:Act}{w:World}(h:r9 B1 N K e a w)(hb:oG B B1):r9 B N K e a w:=by
 obtain⟨B2,E,σ,h1,h2,h3⟩:=h;exact⟨B2,E,σ,hb.trans h1,h2,h3⟩
theorem By(hd:Qz P)(hc:Az P cx)(bS:Et P cx.gl cx.eD)(fM:Vw P cx){N:Nat}:∀(c:Code) (σ:Sy) (K:Ex->Sy->Prop),exec cx c σ K->∀(ro:Option Nat) (nn:Nat),ro=none\/Ix c=true->∀(B:Bs),Fh B cx.gl->∀(E:Env) (a:Act) (w:World),bR B N E a w σ->c.wpIn (Fr ro) nn P (r9 B N K) a w
 |.skip,σ,K,h,ro,nn,gY,B,hg,E,a,w,hs=>wpIn_skip ⟨B,E,σ,.refl B,hs,h⟩
 |.region id ops draw,σ,K,h,ro,nn,gY,B,hg,E,a,w,hs=>by
  obtain⟨E,σ,hs,h⟩:=hs.fY (id:=id+2000000) hc.D h;obtain⟨rs,aL,h1,h2,h3⟩:=Cq hc bS fM (ops:=ops) rfl ops.toList [] σ _ hs.wf h;simp only[List.nil_append]at h3;have fin:∀ {E':Env} {a':Act} {w':World},bR B N E' a' w' aL->Sx.fY cx id ⟨Sx.tidy aL.fr,aL.hp,[]⟩ (K .normal)->r9 B N K .normal a' w':=λcB h3=>by
   obtain⟨E2,dq,q1,q2⟩:=(bR.tidy cB).fY hc.D h3;exact⟨B,E2,dq,.refl B,q1,q2⟩
  cases draw with
  |true =>
   simp only[if_true]at h3
   split at h3
   .obtain⟨⟨hb⟩,h3⟩:=h3
    simp only[QE]at hb;exact hd ro nn cx.gl id ops B N σ aL rs hg h1 hb.1 hb.2 _ E a w hs λE' a' w' cB=>fin cB h3
   .split at h3
    .rename_i hb
     simp only[QE]at hb;exact hd ro nn cx.gl id ops B N σ aL rs hg h1 hb.1 hb.2 _ E a w hs λE' a' w' cB=>fin cB h3
    .exact h3.elim
  |false =>
   simp only[XD,if_false]at h3;exact Vz (Aav rfl hg h1 E a w hs λE' a' w' cB=>fin cB h3)
 |.seq x y,σ,K,h,ro,nn,gY,B,hg,E,a,w,hs=>by
  have hx:ro=none\/Ix x=true:=gY.imp (λh=>h) λh=>by simp only[Ix,QE]at h;exact h.1
  have hy:ro=none\/Ix y=true:=gY.imp (λh=>h) λh=>by simp only[Ix,QE]at h;exact h.2
  refine wpIn_seq (wpIn_mono (By hd hc bS fM x σ _ h ro nn hx B hg E a w hs) λe a' w' hq=>?_);obtain⟨B',E',aL,hb,cB,hk⟩:=hq;cases e with
  |normal=>exact wpIn_mono (By hd hc bS fM y aL K hk ro nn hy B' (hb.gl hg) E' a' w' cB) λe a w hq=>hq.reb hb
  |exit i=>exact⟨B',E',aL,hb,cB,hk⟩
  |goto l=>exact⟨B',E',aL,hb,cB,hk⟩
  |ret=>exact⟨B',E',aL,hb,cB,hk⟩
  |_=>exact hk.elim
 |.cond c x y,σ,K,h,ro,nn,gY,B,hg,E,a,w,hs=>by
  have hx:ro=none\/Ix x=true:=gY.imp (λh=>h) λh=>by simp only[Ix,QE]at h;exact h.1
  have hy:ro=none\/Ix y=true:=gY.imp (λh=>h) λh=>by simp only[Ix,QE]at h;exact h.2
  simp only[exec]at h;have hv:∀b,rd cx σ [] c=some (.bool b)->a.eval c=.bool b.den:=λb hb=>(Aa hb hg hs.st (λ_ _=>rfl) trivial).bI
  split at h
  .rename_i hb
   exact wpIn_cond (t:=true) (hv _ hb) (By hd hc bS fM x σ K h ro nn hx B hg E a w hs)
  .rename_i hb
   exact wpIn_cond (t:=false) (hv _ hb) (By hd hc bS fM y σ K h ro nn hy B hg E a w hs)
  .rename_i b _ _ hb
   rw[hc.D]at h;refine wpIn_cond_split (hv _ hb) (λe=>?_) (λe=>?_)
   .exact By hd hc bS fM x _ K (h.1 e) ro nn hx B hg E a w (hs.tN hb (hv _ hb) e)
   .exact By hd hc bS fM y _ K (h.2 e) ro nn hy B hg E a w (hs.tN hb (hv _ hb) e)
  .exact h.elim
 |.block id b,σ,K,h,ro,nn,gY,B,hg,E,a,w,hs=>by
  have hx:ro=none\/Ix b=true:=gY.imp (λh=>h) λh=>h;refine wpIn_block (wpIn_mono (By hd hc bS fM b σ _ h ro nn hx B hg E a w hs) λe a' w' hq=>?_);obtain⟨B',E',aL,hb,cB,hk⟩:=hq;cases e with
  |normal=>exact⟨B',E',aL,hb,cB,hk⟩
  |exit i =>
   simp only[Exit.inBlock];simp only[CH]at hk
   by_cases e:i=id
   .rw[QB e]
    rw[QB (by simpa using e)]at hk;exact⟨B',E',aL,hb,cB,hk⟩
   .rw[QA e]
    rw[QA (by simpa using e)]at hk;exact⟨B',E',aL,hb,cB,hk⟩
  |goto l=>exact⟨B',E',aL,hb,cB,hk⟩
  |ret=>exact⟨B',E',aL,hb,cB,hk⟩
  |_=>exact hk.elim
 |.loop b,σ,K,h,ro,nn,gY,B,hg,E,a,w,hs=>by
  have hx:ro=none\/Ix b=true:=gY.imp (λh=>h) λh=>h;simp only[exec]at h
  split at h
  .rename_i l _
   refine Z7 (λm a w=>∃B1 dS E,oG B B1/\Adr (exec cx b) m dS K/\bR B1 N E a w dS) ⟨JT l,B,σ,E,.refl B,h,hs⟩ ?_;rintro m a' w' ⟨B1,dS,E',dB,hu,cB⟩;cases m with
   |zero=>exact hu.elim
   |succ m =>
    refine wpIn_mono (By hd hc bS fM b _ _ hu ro nn hx B1 (dB.gl hg) E' a' w' cB) λe a2 w2 hq=>?_;obtain⟨B2,E2,dq,cO,eH,hk⟩:=hq;have hr:=dB.trans cO;cases e with
    |normal=>exact⟨m,YO _,B2,dq,E2,hr,hk,eH⟩
    |exit i=>exact⟨B2,E2,dq,hr,eH,hk⟩
    |goto l=>exact⟨B2,E2,dq,hr,eH,hk⟩
    |ret=>exact⟨B2,E2,dq,hr,eH,hk⟩
    |_=>exact hk.elim
  obtain⟨keep,J,⟨IP,m0,hJ0⟩,ay⟩:=h;rw[hc.D]at hJ0 ay;refine Z7 (λm a w=>∃B1 vs hp E,oG B B1/\J m vs hp/\bR B1 N E a w ⟨Oo (K5 keep vs) (blank σ.fr),hp,[]⟩) ⟨m0,B,_,_,Cu (Ah σ.hp) E,.refl B,hJ0,?_⟩ ?_
  .have:=hs.head (n:=Ah σ.hp) (keep:=keep) hs.len (by rw[W2];exact IP) (by rw[Af];exact hs.ge)
   rw[W2]at this;exact this
  .rintro m a' w' ⟨B1,vs,hp,E',dB,hJ,cB⟩
   refine wpIn_mono (By hd hc bS fM b _ _ (ay m vs hp hJ) ro nn hx B1 (dB.gl hg) E' a' w' cB) λe a2 w2 hq=>?_;obtain⟨B2,E2,dq,cO,eH,hk⟩:=hq;have hr:=dB.trans cO;cases e with
   |normal =>
    obtain⟨fX,m2,aC,wQ⟩:=hk;exact⟨m2,aC,B2,_,_,_,hr,wQ,eH.head hs.len fX (by rw[Af];exact hr.NS hs.ge)⟩
   |exit i=>exact⟨B2,E2,dq,hr,eH,hk⟩
   |goto l=>exact⟨B2,E2,dq,hr,eH,hk⟩
   |ret=>exact⟨B2,E2,dq,hr,eH,hk⟩
   |_=>exact hk.elim
 |.exit id,σ,K,h,ro,nn,gY,B,hg,E,a,w,hs=>wpIn_exit ⟨B,E,σ,.refl B,hs,h⟩
 |.ret,σ,K,h,ro,nn,gY,B,hg,E,a,w,hs=>wpIn_ret ⟨B,E,σ,.refl B,hs,h⟩
 |.rangeFunc g ps assign bd,σ,K,h,ro,nn,gY,B,hg,E,a,w,hs=>by
  rcases gY with rfl|gY
  .simp only[exec]at h
   split at h
   .rename_i f uQ hv
    split at h
    .rename_i it hit
     obtain⟨GV,h⟩:=h;simp only[QE]at GV;refine Aa6 hc fM hg hs hv hit λc TS=>?_;have hN:Ah σ.fr=N:=by rw[Af];exact hs.len
     rw[<-hN]at TS;obtain⟨keep,Y,h1,h2⟩:=h c TS;refine⟨keep,Y,Yj hc TS (λl nn σ K h B hg E a w hs=>?_) (λl nn σ K h B hg E a w hs=>?_) h1,h2⟩
     .rw[hN]at hs;rw[hN];exact By hd hc bS fM assign σ K h (some l) nn (.inr GV.1) B hg E a w hs
     .rw[hN]at hs;rw[hN];exact By hd hc bS fM bd σ K h (some l) nn (.inr GV.2) B hg E a w hs
    .exact h.elim
   .exact h.elim
  .cases gY
 |.scope c,σ,K,h,ro,nn,gY,B,hg,E,a,w,hs=>by
  have hx:ro=none\/Ix c=true:=gY.imp (λh=>h) λh=>h;refine Mo (wpIn_mono (By hd hc bS fM c σ _ h ro nn hx B hg E a w hs) λe a' w' hq=>?_);obtain⟨B',E',aL,hb,cB,hk⟩:=hq;cases e with
  |normal=>exact⟨B',E',aL,hb,cB,hk⟩
  |exit i=>exact⟨B',E',aL,hb,cB,hk⟩
  |goto l=>exact hk.elim
  |ret=>exact⟨B',E',aL,hb,cB,hk⟩
  |_=>exact hk.elim
 |.label _,σ,K,h,ro,nn,gY,B,hg,E,a,w,hs=>wpIn_label ⟨B,E,σ,.refl B,hs,h⟩
 |.goto _,σ,K,h,ro,nn,gY,B,hg,E,a,w,hs=>wpIn_goto ⟨B,E,σ,.refl B,hs,h⟩
 |.refuse _,_,_,h,_,_,_,_,_,_,_,_,_=>h.elim
theorem Zp(hd:Qz P)(hc:Az P cx)(bS:Et P cx.gl cx.eD)(fM:Vw P cx){B:Bs}{N:Nat}(hg:Fh B cx.gl)(c:Code)(σ:Sy)(K:Ex->Sy->Prop)(h:exec cx c σ K)(E:Env)(a:Act)(w:World)(hs:bR B N E a w σ):c.wp P (r9 B N K) a w :=
 wpIn_wide.1 (By hd hc bS fM c σ K h none 0 (.inl rfl) B hg E a w hs)
end
end Go.Sx
