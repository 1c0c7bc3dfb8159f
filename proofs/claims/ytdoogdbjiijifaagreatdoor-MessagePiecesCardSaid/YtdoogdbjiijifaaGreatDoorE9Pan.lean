/- Lemmas of the proof; no conditions. -/
import Derived.Test.YtdoogdbjiijifaaGreatDoorE9Pam
namespace Go.Sx
open Go
section
variable {P:Program} {cx:Cx}
def DC(K:Ex->Sy->Prop)(σ:Sy):Exit->Prop
 |.normal=>K .normal σ
 |.exit i=>K (.exit i) σ
 |.goto l=>K (.goto l) σ
 |.ret=>K .ret σ
 |_=>False
def Rd(P:Program):Prop:=∀(ro:Option Nat) (nn:Nat) (gl:List (Nat×SV)) (id:Nat) (ops:Array Oper) (B:Bs) (N:Nat) (σ aL:Sy) (rs:List (Option (Sy×List Nat×Out))),Fm B gl->qc P gl ops.toList ops.toList σ rs aL->Ho ops.toList 0=true->
 indep ops.toList (Ix ops.toList []) ops.toList (rs.map tQ) 0=true->∀(Q:Exit->Act->World->Prop) (E:Env) (a:Act) (w:World),bS B N E a w σ->(∀E' a' w',bS B N E' a' w' aL->Q .normal a' w')->(Code.region id ops true).wpIn (Fr ro) nn P Q a w
theorem Gl{p:Nat->Prop}(h:∃n,p n):∃n,p n/\∀m,p m->n<=m:=by
 obtain⟨n,hn⟩:=h
 induction n using Nat.strongRecOn with
 |_ n ih =>
  by_cases hm:∃m,m<n/\p m
  .obtain⟨m,h1,h2⟩:=hm;exact ih m h1 h2
  .exact⟨n,hn,λm h=>Nat.le_of_not_lt λaC=>hm ⟨m,aC,h⟩⟩
theorem Aaz{ro:Option Nat}{nn:Nat}{c:Code}{Q:Exit->Act->World->Prop}{a:Act}{w:World}(R:Nat->Act->World->Prop)(h0:∃n,R n a w)
  (round:∀n a w,R n a w->c.wpIn (Fr ro) nn P (Exit.then (λa' w'=>∃n',n'<n/\R n' a' w') Q) a w):(Code.loop c).wpIn (Fr ro) nn P Q a w:=by
 classical
 let μ:Act->World->Nat:=λa w=>if h:∃n,R n a w then Classical.choose (Gl h) else 0
 have GY:∀a w,(∃n,R n a w)->R (μ a w) a w/\∀m,R m a w->μ a w<=m:=by
  intro a w h;have:μ a w=Classical.choose (Gl h):=by simp only[μ];rw[dif_pos h]
  rw[this];exact Classical.choose_spec (Gl h)
 refine wpIn_loop (λa w=>∃n,R n a w) μ h0 λa w hI=>?_;obtain⟨h1,h2⟩:=GY a w hI;refine wpIn_mono (round _ a w h1) λe a' w' hq=>?_;cases e with
 |normal =>
  obtain⟨n',aC,hr⟩:=hq;exact⟨⟨n',hr⟩,Nat.lt_of_le_of_lt ((GY a' w' ⟨n',hr⟩).2 n' hr) aC⟩
 |_=>exact hq
def C6(n:Nat)(E:Env):Env:=⟨λh=>if h<n then E.β h else none,λh=>if h<n then E.τ h else none,λb=>(E.O b).bind λh=>if h<n then some h else none,λh=>if h<n then E.κ h else none,λh=>if h<n then E.ζ h else none,E.I⟩
theorem Gp(n:Nat):∀(cs:List SV),Bz.iW n cs=true↔∀c∈cs,Bz n c=true
 | []=>by simp[Bz.iW]
 |c :: cs=>by simp[Bz.iW,Gp n cs]
theorem Rel.cut{E:Env}{w:World}{n:Nat}{s:SV}{v:Value}(h:Rel E w s v)(hb:Bz n s=true):Rel (C6 n E) w s v:=by
 induction h with
 |ro h=>exact .ro h
 | @ptr h off b v oV hv =>
  simp only[Bz,ZG]at hb;exact .ptr (by simp[C6,hb];exact oV) hv
 | @dO nl m sz f h v hr ht =>
  simp only[Bz,ZG]at hb;obtain⟨a,k,c,t1,t2⟩:=ht;exact .dO hr ⟨a,k,c,by simp[C6,hb];exact t1,t2⟩
 |dH oV hm hv =>
  simp only[Bz,ZG]at hb;exact .dH (by simp[C6,hb];exact oV) (by simp[C6,hb];exact hm) hv
 |cT oV hz hv =>
  simp only[Bz,ZG]at hb;exact .cT (by simp[C6,hb];exact oV) (by simp[C6,hb];exact hz) hv
 |bV ht hk =>
  simp only[Bz,ZG]at hb;obtain⟨a,k,c,t1,t2⟩:=hk;exact .bV ht ⟨a,k,c,by simp[C6,hb];exact t1,t2⟩
 |cN hv ho =>
  simp only[Bz,ZG]at hb;obtain⟨a,k,c,sz,t1,t2,t3⟩:=ho;exact .cN hv ⟨a,k,c,sz,by simp[C6,hb];exact t1,by simp[C6,hb];exact t2,t3⟩
 |kD ht hk =>
  simp only[Bz,ZG]at hb;obtain⟨a,k,c,sz,t1,t2,t3⟩:=hk;exact .kD ht ⟨a,k,c,sz,by simp[C6,hb];exact t1,by simp[C6,hb];exact t2,t3⟩
 |bQ oV hv =>
  simp only[Bz,ZG]at hb;exact .bQ (by simp[C6,hb];exact oV) hv
 |jI oV hn hv =>
  simp only[Bz,ZG]at hb;exact .jI (by simp[C6,hb];exact oV) hn hv
 |cR ht hk =>
  simp only[Bz,ZG]at hb;obtain⟨a,k,c,t1,t2⟩:=hk;exact .cR ht ⟨a,k,c,by simp[C6,hb];exact t1,t2⟩
 |yv oV hv =>
  simp only[Bz,ZG]at hb;exact .yv (by simp[C6,hb];exact oV) hv
 |agg hl _ ih =>
  simp only[Bz]at hb;exact .agg hl λi s v h1 h2=>ih i s v h1 h2 ((Gp n _).1 hb s (QL h1))
 |aI hl _ ih =>
  simp only[Bz]at hb;exact .aI hl λi s v h1 h2=>ih i s v h1 h2 ((Gp n _).1 hb s (QL h1))
 |fJ hl _ ih =>
  simp only[Bz]at hb;exact .fJ hl λi s v h1 h2=>ih i s v h1 h2 ((Gp n _).1 hb s (QL h1))
 |gS hl _ ih =>
  simp only[Bz]at hb;exact .gS hl λi s v h1 h2=>ih i s v h1 h2 ((Gp n _).1 hb s (QL h1))
theorem N5{n:Nat}:∀ {ls:List Hl},Ee n ls=true->∀ {i:Nat} {ty:TypeId} {cs:List SV},ls[i]?=some (.aF ty cs)->∀c∈cs,Bz n c=true
 | [],_,i,ty,cs,h=>by simp at h
 |l :: ls,hp,i,ty,cs,h=>by
  cases i with
  |zero =>
   simp at h;subst h;simp only[Ee,QE,Bz]at hp;exact (Gp n cs).1 hp.1
  |succ i =>
   simp at h;cases l<;>simp only[Ee,QE]at hp<;>first|exact N5 hp h|exact N5 hp.2 h
theorem N6{n s:Nat}{v:SV}:∀ {fr:List (Nat×Option SV)},N7 n fr=true->(s,some v)∈fr->Bz n v=true
 | [],_,h=>by simp at h
 |(_,some u) :: l,hr,h=>by
  simp only[N7,QE]at hr;simp only[XT,Prod.mk.injEq,Option.some.injEq]at h;rcases h with⟨_,rfl⟩|h
  .exact hr.1
  .exact N6 hr.2 h
 |(_,none) :: l,hr,h=>by
  simp only[N7]at hr;simp only[XT,Prod.mk.injEq,reduceCtorEq,and_false,false_or]at h;exact N6 hr h
theorem V8{n:Nat}:∀ {es:List (Int×SV)},SA n es=true->∀p∈es,Bz n p.2=true
 | [],_,p,h=>by simp at h
 |(k,v) :: es,hb,p,h=>by
  simp only[SA,QE]at hb;rw[XT]at h;rcases h with rfl|h
  .exact hb.1
  .exact V8 hb.2 p h
theorem N4{n:Nat}:∀ {ls:List Hl},Ee n ls=true->∀ {i:Nat} {es:List (Int×SV)},ls[i]?=some (.iP es)->∀p∈es,Bz n p.2=true
 | [],_,i,es,h=>by simp at h
 |l :: ls,hp,i,es,h=>by
  cases i with
  |zero =>
   simp at h;subst h;simp only[Ee,QE]at hp;exact V8 hp.1
  |succ i =>
   simp at h;cases l<;>simp only[Ee,QE]at hp<;>first|exact N4 hp h|exact N4 hp.2 h
theorem N1{n:Nat}:∀ {ls:List Hl},Ee n ls=true->∀ {i:Nat} {c:LC} {fr:List (Nat×Option SV)} {st:Nat} {pd:Option Jp},ls[i]?=some (.bO c fr st pd)->N7 n fr=true
 | [],_,i,c,fr,st,pd,h=>by simp at h
 |l :: ls,hp,i,c,fr,st,pd,h=>by
  cases i with
  |zero =>
   simp at h;subst h;simp only[Ee,QE]at hp;exact hp.1
  |succ i =>
   simp at h;cases l<;>simp only[Ee,QE]at hp<;>first|exact N1 hp h|exact N1 hp.2 h
theorem Yl(D:Dn):∀(ls:List Hl) (i:Nat),(G3 D ls)[i]?=(ls[i]?).map λl=>match l with
  |.aF ty cs=>.aF ty (norm.aO D cs)
  |.tail ty n sz=>.tail ty (.a (D.i n)) sz
  |.row ty n sz f=>.row ty (.a (D.i n)) sz f
  |.own ty n sz gr f=>.own ty (.a (D.i n)) sz gr f
  |.vec ty n g sz f=>.vec ty (.a (D.i n)) (.a (D.i g)) sz f
  |l=>l
 | [],i=>by simp[G3]
 |l :: ls,i=>by
  cases i with
  |zero=>cases l<;>simp[G3]
  |succ i=>cases l<;>simp[G3,Yl D ls i]
theorem X7(D:Dn):∀(ls:List Hl),(G3 D ls).length=ls.length
 | []=>rfl
 |l :: ls=>by cases l<;>simp[G3,X7 D ls]
theorem J5:∀(l:List (Nat×Option SV)) (fr:List (Option G)) (s:Nat) (g:G),(∀s,Ax fr s=none)->Ax (Oy l fr) s=some g->g.tg=[]/\g.gt=none/\g.gf=none/\∃v,(s,some v)∈l/\g.v=v:=by
 have key:∀(l:List (Nat×Option SV)) (fr:List (Option G)) (s:Nat) (g:G),Ax (Oy l fr) s=some g->Ax fr s=some g\/(g.tg=[]/\g.gt=none/\g.gf=none/\∃v,(s,some v)∈l/\g.v=v):=by
  intro l
  induction l with
  |nil=>intro fr s g h;exact .inl h
  |cons p l ih =>
   obtain⟨i,v⟩:=p;intro fr s g h;rcases ih _ s g h with h|⟨h1,h2,h3,v',h4,h5⟩
   .rw[B9]at h
    split at h
    .rename_i e
     cases v with
     |none=>cases h
     |some v=>cases h;exact .inr ⟨rfl,rfl,rfl,v,by rw[e.1];exact XB ..,rfl⟩
    .exact .inl h
   .exact .inr ⟨h1,h2,h3,v',XC _ h4,h5⟩
 intro l fr s g cI h;rcases key l fr s g h with h|h
 .rw[cI]at h;cases h
 .exact h
theorem H6{α:Type}:∀(l:List α) (s:Nat),Ax (blank l) s=none
 | [],s=>by simp[blank,Ax]
 |_ :: l,0=>rfl
 |_ :: l,s+1=>H6 l s
theorem X8{α:Type}:∀(l:List α),(blank l).length=l.length
 | []=>rfl
 |_ :: l=>by simp[blank,X8 l]
theorem U5:∀(l:List (Nat×Option SV)) (fr:List (Option G)),(Oy l fr).length=fr.length
 | [],_=>rfl
 |(i,v) :: l,fr=>by simp[Oy,U5 l,Av]
theorem Kl{D:Dn}{n:Nat}{fr:List (Option G)}{s:Nat}{v:SV}:∀(keep:List Nat),(s,some v)∈Ld keep (Gz D n fr keep)->∃g,Ax fr s=some g/\g.tg=[]/\Bz n g.v=true/\v=norm D g.v
 | [],h=>by simp[Ld]at h
 |i :: keep,h=>by
  simp only[Gz,Ld,XT]at h;rcases h with h|h
  .simp only[Prod.mk.injEq]at h
   obtain⟨rfl,h⟩:=h
   split at h
   .rename_i gt gf v' hg
    split at h
    .rename_i hb
     cases h;exact⟨_,hg,rfl,hb,rfl⟩
    .cases h
   .cases h
  .exact Kl keep h
theorem bS.head{B:Bs}{N:Nat}{E:Env}{a:Act}{w:World}{σ:Sy}(h:bS B N E a w σ){n:Nat}{keep:List Nat}{tF:List (Option G)}(cI:tF.length=N)(hb:Ee n (takeN n σ.hp)=true)(hn:∀h,B.cO h≠none\/B.oN h≠none\/B.oO h≠none->h<n):
  bS B N (C6 n E) a w ⟨Oy (Ld keep (Gz dn n σ.fr keep)) (blank tF),G3 dn (takeN n σ.hp),[]⟩:=by
 have aA:=h.st.base;refine⟨⟨⟨aA.os,aA.tape,aA.output,aA.size,aA.dY,aA.I0,aA.dP,aA.cE,λb k hO=>?_,⟨λk b hk=>by simp only[C6,QC (hn k (.inl (by rw[hk];simp)))];exact aA.cO.β k b hk,λk v hk=>by simp only[C6,QC (hn k (.inr (.inl (by rw[hk];simp))))];exact aA.cO.τ k v hk,λk z hk=>by simp only[C6,QC (hn k (.inr (.inr (by rw[hk];simp))))];exact aA.cO.ζ k z hk⟩⟩,λk=>?_,λs=>?_,h.st.size,h.st.defers⟩,by rw[U5,X8];exact cI,⟨λs g hs=>?_,λs g i hs hi=>?_,λs g i hs hi=>?_⟩,λk hk=>?_⟩
 .have hO:(E.O b).bind (λh=>if h<n then some h else none)=some k:=hO
  cases ob:E.O b with
  |none=>rw[ob]at hO;cases hO
  |some k' =>
   rw[ob]at hO;simp only[ZV]at hO
   split at hO
   .cases hO;exact aA.cS b k ob
   .cases hO
 .rw[Ba]at hb ⊢
  simp only[Aq,Aj,Yl]
  by_cases hk:k<n
  .have bD:=h.st.heap k
   simp only[Aq,Aj]at bD;rw[QN,QC hk];have hO:∀b,E.O b=some k->(C6 n E).O b=some k:=λb hb=>by simp[C6,hb,hk]
   cases hl:σ.hp[k]? with
   |none =>
    rw[hl]at bD;simp only[YW,ZW];obtain⟨q1,q2,q3,q4⟩:=bD;exact⟨by simp only[C6,QC hk];exact q1,by simp only[C6,QC hk];exact q2,by simp only[C6,QC hk];exact q3,by simp only[C6,QC hk];exact q4⟩
   |some l =>
    rw[hl]at bD;simp only[QQ,XD]at bD ⊢;cases l with
    |fresh =>
     obtain⟨q1,q2,q3,q4⟩:=bD;exact⟨by simp only[C6,QC hk];exact q1,by simp only[C6,QC hk];exact q2,by simp only[C6,QC hk];exact q3,by simp only[C6,QC hk];exact q4⟩
    |gone=>trivial
    |aF ty cs =>
     obtain⟨b,C,k1,k2,k3,k4,k5,k6⟩:=bD.eF;have tA:∀c∈cs,Bz n c=true:=N5 hb (i:=k) (by rw[QN,QC hk];exact hl);have hn:A8 (C6 n E) w (norm.aO dn cs) C.toList:=by
      rw[Co];exact k4.map _ λs v hs h=>(h.cut (tA s hs)).norm
     exact⟨b,C,by simp only[C6,QC hk];exact k1,hO b k2,k3,by have:=hn.1;simpa using this.symm,λi s v p q=>hn.2 i s v p (by simpa using q),λv hv=>k5 v (by simpa using hv),k6⟩
    |tail ty m sz =>
     obtain⟨v,m',xs,k1,k2,k3,k4,k5⟩:=bD;exact⟨v,m',xs,by simp only[C6,QC hk];exact k1,k2,k3,k4,λb hb=>⟨hO b (k5 b hb).1,(k5 b hb).2⟩⟩
    |row ty m sz f =>
     obtain⟨b,C,m',k1,k2,kz,k3,k4,k5,k6,k7,k8⟩:=bD;exact⟨b,C,m',by simp only[C6,QC hk];exact k1,by simp only[C6,QC hk];exact k2,by simp only[C6,QC hk];exact kz,hO b k3,k4,k5,k6,k7,k8⟩
    |own ty m sz gr f =>
     obtain⟨v,m',xs,k1,kz,k2,k3,k4,k5,k6⟩:=bD;exact⟨v,m',xs,by simp only[C6,QC hk];exact k1,by simp only[C6,QC hk];exact kz,k2,k3,k4,k5,λb hb=>⟨hO b (k6 b hb).1,(k6 b hb).2⟩⟩
    |nC T e s =>
     obtain⟨b,p,v,k1,k2,k3,k4,k5,k6,k7,k8⟩:=bD;exact⟨b,p,v,by simp only[C6,QC hk];exact k1,hO b k2,k3,k4,k5,k6,k7,λg hg=>⟨hO g (k8 g hg).1,(k8 g hg).2⟩⟩
    |vec ty m g sz f =>
     obtain⟨a,c,m',G,xs,k1,k2,k3,k4,k5,k6,k7⟩:=bD;exact⟨a,c,m',G,xs,by simp only[C6,QC hk];exact k1,k2,k3,k4,k5,k6,λb hb=>⟨hO b (k7 b hb).1,(k7 b hb).2⟩⟩
    |dB F =>
     obtain⟨b,es,clock,k1,k2,k3,k4,k5,k6⟩:=bD;exact⟨b,es,clock,by simp only[C6,QC hk];exact k1,hO b k2,k3,k4,k5,k6⟩
    |iP es =>
     obtain⟨b,ms,clock,k1,k2,k3,k4,k5,k6⟩:=bD;have tA:=N4 hb (i:=k) (by rw[QN,QC hk];exact hl);exact⟨b,ms,clock,by simp only[C6,QC hk];exact k1,hO b k2,k3,k4,λi p e hp he=>⟨(k5 i p e hp he).1,(k5 i p e hp he).2.cut (tA p (QL hp))⟩,k6⟩
    |bO c fr st pd =>
     obtain⟨b,rr,k1,k2,k3,k4,k5,k6⟩:=bD;have tA:=N1 hb (i:=k) (by rw[QN,QC hk];exact hl);exact⟨b,rr,by simp only[C6,QC hk];exact k1,hO b k2,k3,k4,λs v hm=>⟨(k5 s v hm).1,(k5 s v hm).2.cut (N6 tA hm)⟩,k6⟩
  .rw[QN,QA hk]
   simp only[YW,ZW];exact⟨by simp[C6,hk],by simp[C6,hk],by simp[C6,hk],by simp[C6,hk]⟩
 .simp only[Bf]
  cases hs:Ax (Oy (Ld keep (Gz dn n σ.fr keep)) (blank tF)) s with
  |none=>trivial
  |some g =>
   obtain⟨g1,_,_,v,g4,g5⟩:=J5 _ _ s g (H6 tF) hs;obtain⟨g',q1,q2,q3,q4⟩:=Kl keep g4;have bE:=h.st.slot s;simp only[Bf,q1,QQ,Bn,q2,Ac,ZC,Bk]at bE;obtain⟨s1,s2,_⟩:=bE;simp only[QQ,Bn,g1,Ac,ZC,Bk];refine⟨s1,λ_=>?_,λh=>absurd trivial h⟩;rw[g5,q4];exact ((s2 trivial).cut q3).norm
 .obtain⟨g1,_⟩:=J5 _ _ s g (H6 tF) hs
  rw[g1];simp
 .obtain⟨_,g2,_⟩:=J5 _ _ s g (H6 tF) hs
  rw[g2]at hi;cases hi
 .obtain⟨_,_,g3,_⟩:=J5 _ _ s g (H6 tF) hs
  rw[g3]at hi;cases hi
 .rw[X7,Ba,QW]
  have h1:=hn k hk;have h2:=h.ge k hk;omega
theorem Xm{α:Type}(l:List α):takeN (Ai l) l=l:=by rw[Ba,Ag,YC]
theorem bS.uB{B:Bs}{N:Nat}{E:Env}{a:Act}{w:World}{σ:Sy}(h:bS B N E a w σ){c:Operand}{bt:BT}{b:Bool}(hr:rd cx σ [] c=some (.bool bt))(hv:a.eval c=.bool bt.den)(hb:bt.den=b):bS B N E a w (uB σ c b):=by
 cases c with
 |tmp s =>
  simp only[rd]at hr
  split at hr
  .rename_i g hg
   have aC:s<σ.fr.length:=by
    rcases ZK s σ.fr.length with h|h
    .exact h
    .rw[Eh,QY h]at hg;cases hg
   have bM:∀k,Ax (Ay σ.fr s (some ⟨[],none,none,.bool (.l b)⟩)) k=if k=s then some ⟨[],none,none,.bool (.l b)⟩ else Ax σ.fr k:=λk=>by
    rw[B9]
    by_cases e:k=s
    .rw[QC ⟨e,aC⟩,QC e]
    .rw[QA (λh=>e h.1),QA e]
   refine⟨⟨h.st.base,h.st.heap,λk=>?_,h.st.size,h.st.defers⟩,by show (Ay σ.fr s _).length=N;rw[Av,XN];exact h.len,⟨λk g' hk i hi=>?_,λk g' i hk hi=>?_,λk g' i hk hi=>?_⟩,h.ge⟩
   .simp only[Bf,Sx.uB,bM]
    by_cases e:k=s
    .subst e
     rw[QC rfl];have hv:a.tmps.getD k undef=.bool bt.den:=hv;refine⟨by rw[h.st.size,<-h.len];exact aC,λ_=>?_,λhn=>absurd trivial hn⟩;rw[hv];exact .bool hb.symm
    .rw[QA e]
     exact h.st.slot k
   .have hk:Ax (Ay σ.fr s (some ⟨[],none,none,.bool (.l b)⟩)) k=some g':=hk
    rw[bM]at hk
    split at hk
    .cases hk;cases hi
    .exact h.wf.tg k g' hk i hi
   .have hk:Ax (Ay σ.fr s (some ⟨[],none,none,.bool (.l b)⟩)) k=some g':=hk
    rw[bM]at hk
    split at hk
    .cases hk;cases hi
    .exact h.wf.gt k g' i hk hi
   .have hk:Ax (Ay σ.fr s (some ⟨[],none,none,.bool (.l b)⟩)) k=some g':=hk
    rw[bM]at hk
    split at hk
    .cases hk;cases hi
    .exact h.wf.gf k g' i hk hi
  .cases hr
 |const _=>exact h
 |global _=>exact h
 |func _=>exact h
theorem Fg{b:Frame}{a:Act}{k:List Item}{cs:List Frame}{w:World}{c:Code}:step P (lone (b.atR a (.code (.scope c) :: k)) cs w)=.next (lone (b.atR a (.code c :: .inScope c :: k)) cs w) :=
 step_lone_go (by simp[stepG,stepG.exec,Frame.atR])
theorem Wt{b:Frame}{a:Act}{k:List Item}{cs:List Frame}{w:World}{c:Code}:step P (lone (b.atR a (.inScope c :: k)) cs w)=.next (lone (b.atR a k) cs w) :=
 step_lone_go (by simp[stepG,stepG.exec,Frame.atR])
theorem Mx{F:Fence}{n:Nat}{Q:Exit->Act->World->Prop}{a:Act}{w:World}{c:Code}(h:c.wpIn F n P (Exit.noGoto Q) a w):(Code.scope c).wpIn F n P Q a w:=by
 intro b k cs iF hb hr;have h0:(lone (b.atR a (.code (.scope c) :: k)) cs w).fenced P F:=fenced_calm hb hr rfl;obtain⟨e,fq,zK,hq,nB⟩:=h b (.inScope c :: k) cs iF hb hr;cases e with
 |normal=>exact⟨.normal,fq,zK,hq,.head h0 Fg (StepsIn.trans nB (.one (fenced_calm hb hr rfl) Wt))⟩
 |exit id =>
  have hx:exitTo id (.inScope c :: k)=exitTo id k:=by simp[exitTo]
  exact⟨.exit id,fq,zK,hq,λk' hk=>.head h0 Fg (nB.1 k' (by rw[hx];exact hk)),λyj hk=>let ⟨k₁,h1,h2⟩:=nB.2 yj (by rw[hx];exact hk);⟨k₁,h1,.head h0 Fg h2⟩⟩
 |goto l=>exact hq.elim
 |ret=>exact⟨_,fq,zK,hq,.of_steps (.one h0 Fg) nB⟩
 |panic ch=>exact⟨_,fq,zK,hq,.of_steps (.one h0 Fg) nB⟩
 |outgrown=>exact⟨_,fq,zK,hq,.of_steps (.one h0 Fg) nB⟩
end
section
variable {P:Program} {cx:Cx}
theorem P8{E:Env}{w:World}{vs:List SV}{us:List Value}(h:A8 E w vs us):Rel E w (OA vs) (if h:(⟨us⟩:Array Value).size=1 then (⟨us⟩:Array Value)[0] else .tuple ⟨us⟩):=by
 match vs,us,h with
 | [],[],h=>exact .aI h.1 h.2
 | [v],[u],h=>exact h.2 0 v u rfl rfl
 |_ :: _ :: _,_ :: _ :: _,h =>
  rw[dif_neg (by simp)];exact .aI h.1 h.2
 | [],_ :: _,h=>exact absurd h.1 (by simp)
 |_ :: _,[],h=>exact absurd h.1 (by simp)
 | [_],_ :: _ :: _,h=>exact absurd h.1 (by simp)
 |_ :: _ :: _,[_],h=>exact absurd h.1 (by simp)
theorem Aa2:∀n,Xl n=List.range n
 |0=>rfl
 |n+1=>by rw[Xl,Aa2 n,List.range_succ]
theorem Ah2:∀ {a b:List Nat},ou a b=true->a=b
 | [],[],_=>rfl
 |x :: l,y :: t,h=>by
  simp only[ou,QE,QO]at h;rw[h.1,Ah2 h.2]
 | [],_ :: _,h=>by cases h
 |_ :: _,[],h=>by cases h
theorem Yw(hc:A4 P cx){B:Bs}{N:Nat}{E':Env}{a':Act}{w':World}{aL:Sy}(cD:bS B N E' a' w' aL){m:Nat}(dT:∀h,B.cO h≠none\/B.oN h≠none\/B.oO h≠none->h<m){vs:List SV}{us:List Value}(u2:A8 E' w' vs us){r:SV}{aK:List Hl}(hk:MY cx m vs aL λr' dS=>Fin r' r dS aK):
  ∃E2,Cr B E2 w'/\(∀h,h<aK.length->bR E2 w' h (Aq aK h))/\Rel E2 w' r (if h:(⟨us⟩:Array Value).size=1 then (⟨us⟩:Array Value)[0] else .tuple ⟨us⟩):=by
  have aA:=cD.st.base;unfold MY at hk;rw[hc.D]at hk;obtain⟨r0,qM⟩:∃x,x=loose (norm dn (OA vs)):=⟨_,rfl⟩;simp only[<-qM]at hk;obtain⟨hs,hhs⟩:∃x,x=reach aL.hp aL.hp (Mg (Xl m) (iJ r0)):=⟨_,rfl⟩;simp only[<-hhs]at hk;obtain⟨ls,kT⟩:∃x,x=Vg dn aL.hp hs:=⟨_,rfl⟩;simp only[<-kT]at hk
  split at hk
  .rename_i dE
   simp only[QE]at dE;obtain⟨⟨⟨⟨⟨c1,c2⟩,c3⟩,c4⟩,c5⟩,c6⟩:=dE;have n1:=(H3 _).1 c1;have c2:=Ah2 c2;rw[Ba,Aa2]at c2;have c3:=(Hu _ _).1 c3;have c6:=(G8 _ _).1 c6;obtain⟨k1,k2,k3⟩:=hk;have uU:∀k,k<m->hs[k]?=some k:=by
    intro k hk;have:(hs.take m)[k]?=some k:=by rw[c2,List.getElem?_range hk]
    rwa [QN,QC hk]at this
   let E2:Env:=⟨λi=>(hs[i]?).bind E'.β,λi=>(hs[i]?).bind E'.τ,λb=>(E'.O b).bind λh=>hs.idxOf? h,λ_=>none,λi=>(hs[i]?).bind E'.ζ,E'.I⟩
   have vA:Cr B E2 w':=by
    refine⟨aA.os,aA.tape,aA.output,aA.size,aA.dY,aA.I0,aA.dP,aA.cE,λb j hO=>?_,⟨λk b hk=>?_,λk v hk=>?_,λk z hk=>?_⟩⟩
    .have hO:(E'.O b).bind (λh=>hs.idxOf? h)=some j:=hO
     cases ob:E'.O b with
     |none=>rw[ob]at hO;cases hO
     |some q=>exact aA.cS b q ob
    .show (hs[k]?).bind E'.β=some b
     rw[uU k (dT k (.inl (by rw[hk];simp)))];exact aA.cO.β k b hk
    .show Pr v ((hs[k]?).bind E'.τ)
     rw[uU k (dT k (.inr (.inl (by rw[hk];simp))))];exact aA.cO.τ k v hk
    .show (hs[k]?).bind E'.ζ=some z
     rw[uU k (dT k (.inr (.inr (by rw[hk];simp))))];exact aA.cO.ζ k z hk
   have cB:∀k∈hs,Y8 E' k E2 (Ih hs k):=by
    intro k hk;obtain⟨i,hi⟩:=List.mem_iff_getElem?.1 hk;rw[O6 n1 hi];exact⟨by show (hs[i]?).bind E'.β=_;rw[hi];rfl,by show (hs[i]?).bind E'.τ=_;rw[hi];rfl,by show (hs[i]?).bind E'.ζ=_;rw[hi];rfl⟩
   have eH:∀(i k:Nat),hs[i]?=some k->hs.idxOf? k=some i:=by
    intro i k hk;rw[YA];obtain⟨aC,he⟩:=List.getElem?_eq_some_iff.1 hk;refine⟨aC,by simp[he],λj hj=>?_⟩;have bA:hs[j]≠hs[i]:=List.pairwise_iff_getElem.1 n1 j i (by omega) aC hj;rw[<-he];simpa using bA
   have n2:ls.length=hs.length:=by rw[kT,Pb,XW]
   refine⟨E2,vA,λh aC=>?_,?_⟩
   .refine k2 h E2 w' ?_
    rw[Km]at k3 ⊢;rw[XW,n2]at k3;have eS:h<hs.length:=by omega
    have dN:hs[h]∈hs:=XO eS;have hl:ls[h]?=some ls[h]:=QB (by omega);have hhf:Aq (ls.map (mP (Ih hs))) h=mP (Ih hs) ls[h]:=by
     simp only[Aq,Aj];rw[QS,hl];rfl
    rw[hhf];obtain⟨d1,d2⟩:=c6 ls[h] (XO _);have hk:=cD.st.heap hs[h];have eQ:bR E' w' hs[h] ls[h]:=by
     have iU:=hl
     conv at iU=>lhs;rw[kT,Pb,QS,QB eS]
     simp only[QQ,Option.some.injEq]at iU;rw[<-iU];cases hn:nth aL.hp hs[h] with
     |none=>trivial
     |some l0=>rw[Bv hn]at hk;exact hk.pS
    have cC:=cB _ dN;rw[O6 n1 (QB eS)]at cC;refine eQ.rn (Ih hs) d1 rfl cC (λb hb=>?_) λj hj=>cB j (d2 j hj);show (E'.O b).bind (λh=>hs.idxOf? h)=some h;rw[hb];exact eH h _ (QB eS)
   .have bP:=(P8 u2).norm.loose
    rw[<-qM]at bP;exact k1 E2 w' _ (bP.rn (Ih hs) rfl c4 λk hk=>cB k (c3 k hk))
  .exact hk.elim
structure Agr(B:Bs):Prop where
 nodup:B.dl.Nodup
 cG:∀r∈B.dl,r<B.w0.heap.size/\¬B.X r/\B.w0.heap[r]?=some (.deferred (some []))
structure oY(B B1:Bs):Prop where
 os:B1.w0.os=B.w0.os
 tape:B1.w0.tape=B.w0.tape
 output:B1.w0.output=B.w0.output
 size:B.w0.heap.size<=B1.w0.heap.size
 dY:∀b,b<B.w0.heap.size->¬B.X b->¬B1.X b/\B1.w0.heap[b]?=B.w0.heap[b]?
 I0:∀b o,B.I0 b o->B1.I0 b o/\B1.w0.cell? ⟨b,o,none⟩=B.w0.cell? ⟨b,o,none⟩
 cE:∀b o,B1.I0 b o->B.I0 b o\/B.w0.heap.size<=b\/B.X b
 X:∀b,B1.X b->B.w0.heap.size<=b\/B.X b
 cO:B1.cO=B.cO
 oN:B1.oN=B.oN
 oO:B1.oO=B.oO
 marks:Agr B->Agr B1
 new:∀r∈B1.dl,r∈B.dl\/B.w0.heap.size<=r
theorem oY.refl(B:Bs):oY B B:=⟨rfl,rfl,rfl,QK _,λ_ _ h=>⟨h,rfl⟩,λ_ _ h=>⟨h,rfl⟩,λ_ _ h=>.inl h,λ_ h=>.inr h,rfl,rfl,rfl,id,λ_ h=>.inl h⟩
theorem oY.trans{A B C:Bs}(h1:oY A B)(h2:oY B C):oY A C where
 os:=h2.os.trans h1.os
 tape:=h2.tape.trans h1.tape
 output:=h2.output.trans h1.output
 size:=XP h1.size h2.size
 dY:=λb aC hX=>by
  obtain⟨p1,p2⟩:=h1.dY b aC hX;obtain⟨q1,q2⟩:=h2.dY b (XQ aC h1.size) p1;exact⟨q1,q2.trans p2⟩
 I0:=λb o hi=>by
  obtain⟨p1,p2⟩:=h1.I0 b o hi;obtain⟨q1,q2⟩:=h2.I0 b o p1;exact⟨q1,q2.trans p2⟩
 cE:=λb o hi=>by
  rcases h2.cE b o hi with h|h|h
  .exact h1.cE b o h
  .exact .inr (.inl (XP h1.size h))
  .exact .inr (h1.X b h)
 X:=λb hX=>by
  rcases h2.X b hX with h|h
  .exact .inl (XP h1.size h)
  .exact h1.X b h
 cO:=h2.cO.trans h1.cO
 oN:=h2.oN.trans h1.oN
 oO:=h2.oO.trans h1.oO
 marks:=λh=>h2.marks (h1.marks h)
 new:=λr hr=>by
  rcases h2.new r hr with h|h
  .exact h1.new r h
  .exact .inr (XP h1.size h)
theorem oY.since{B B1:Bs}{E:Env}(h:oY B B1)(hs:Nb B1 E):Nb B E :=
 ⟨λk b hk=>hs.β k b (by rw[h.cO];exact hk),λk v hk=>hs.τ k v (by rw[h.oN];exact hk),λk n hk=>hs.ζ k n (by rw[h.oO];exact hk)⟩
theorem oY.base{B B1:Bs}{E:Env}{w:World}(h:oY B B1)(hb:Cr B1 E w):Cr B E w where
 os:=hb.os.trans h.os
 tape:=hb.tape.trans h.tape
 output:=hb.output.trans h.output
 size:=XP h.size hb.size
 dY:=λb aC hX=>by
  obtain⟨p1,p2⟩:=h.dY b aC hX;exact (hb.dY b (XQ aC h.size) p1).trans p2
 I0:=λb o hi=>by
  obtain⟨p1,p2⟩:=h.I0 b o hi;obtain⟨q1,q2⟩:=hb.I0 b o p1;exact⟨q1,q2.trans p2⟩
 dP:=hb.dP
 cE:=λb o hi=>by
  rcases hb.cE b o hi with q|q|q
  .exact h.cE b o q
  .exact .inr (.inl (XP h.size q))
  .exact .inr (h.X b q)
 cS:=λb k hO=>by
  obtain⟨q1,q2⟩:=hb.cS b k hO;refine⟨q1,?_⟩;rcases q2 with q|q
  .exact .inl (XP h.size q)
  .exact h.X b q
 cO:=h.since hb.cO
theorem oY.gl{B B1:Bs}{gl:List (Nat×SV)}(h:oY B B1)(hg:Fm B gl):Fm B1 gl:=λg s hl=>by
 obtain⟨g1,g2,g3,g4⟩:=hg g s hl;obtain⟨p1,p2⟩:=h.dY g g2 g3;exact⟨g1.mono (λb o hi=>(h.I0 b o hi).1) (λb o hi=>(h.I0 b o hi).2),XQ g2 h.size,p1,g4.same p2⟩
theorem oY.PE{B B1:Bs}(h:oY B B1){m:Nat}(hd:∀h,B.cO h≠none\/B.oN h≠none\/B.oO h≠none->h<m):∀h,B1.cO h≠none\/B1.oN h≠none\/B1.oO h≠none->h<m:=by
 rw[h.cO,h.oN,h.oO];exact hd
def uh(B:Bs)(N:Nat)(K:Ex->Sy->Prop)(e:Exit)(a:Act)(w:World):Prop:=∃B1 E σ,oY B B1/\bS B1 N E a w σ/\DC K σ e
theorem Aj4{hp:List Hl}{h:Nat}{l:Hl}(aC:h<hp.length):Aq (Ay hp h l)=aU (Aq hp) h l:=by
 have:=Qr (hp:=hp) (h:=h) (hl:=l) (Nat.le_of_lt aC);unfold EE at this;rw[QA (by rw[Ag];simp;omega)]at this;exact this
theorem Aj3{hp:List Hl}{l:Hl}:Aq (hp++[l])=aU (Aq hp) hp.length l:=by
 have:=Qr (hp:=hp) (h:=hp.length) (hl:=l) (QK _);unfold EE at this;rw[QC (by rw[Ag];simp)]at this;exact this
theorem Afd{α:Type}{l:List α}{i:Nat}{x:α}(h:nth l i=some x):i<l.length:=by
 rw[Aj]at h;exact (List.getElem?_eq_some_iff.1 h).1
theorem bS.setObj{B:Bs}{N:Nat}{E:Env}{a:Act}{w:World}{σ:Sy}(hs:bS B N E a w σ){h b:Nat}(aC:h<σ.hp.length)(hO:E.O b=some h)(hI:∀o,¬E.I b o)(o':Obj)(l:Hl)
  (hl:bR E (w.putObj b o') h l):bS B N E a (w.putObj b o') ⟨σ.fr,Ay σ.hp h l,σ.gm⟩:=by
 obtain⟨x1,x2,x3⟩:=Oh hs.st hO hI o' l hl;refine⟨?_,hs.len,⟨hs.wf.tg,hs.wf.gt,hs.wf.gf⟩,λk hk=>?_⟩
 .have:=hs.st.step x1 x2 x3
  rw[<-Aj4 aC]at this;exact this
 .show k<(Ay σ.hp h l).length
  rw[Av,XN];exact hs.ge k hk
theorem Nb.comp{B:Bs}{E E':Env}{w:World}{X:Nat->Prop}{I0:Nat->Nat->Prop}{dl:List Nat}(h:Nb B E)(h':Nb ⟨w,X,I0,E.β,E.τ,E.ζ,dl⟩ E'):Nb B E':=by
 refine⟨λk b hk=>h'.β k b (h.β k b hk),λk v hk=>?_,λk n hk=>h'.ζ k n (h.ζ k n hk)⟩;have h1:=h.τ k v hk;cases he:E.τ k with
 |none=>rw[he]at h1;rcases h1 with h1|⟨_,_,_,_,_,_,_,h1,_⟩<;>cases h1
 |some u =>
  rw[he]at h1;exact h1.trans (h'.τ k u he)
theorem Xr:∀ {ps:List Tmp} {vs:List SV} {fr oJ:List (Option G)},Ji ps vs fr=some oJ->vs.length=ps.length/\oJ.length=fr.length
 | [],[],fr,oJ,h=>by simp[Ji]at h;subst h;exact⟨rfl,rfl⟩
 |p :: ps,v :: vs,fr,oJ,h=>by
  obtain⟨h1,h2⟩:=Xr (ps:=ps) (vs:=vs) (by simpa[Ji] using h);exact⟨by simp[h1],by rw[h2,Av,XN]⟩
 | [],_ :: _,_,_,h=>by simp[Ji]at h
 |_ :: _,[],_,_,h=>by simp[Ji]at h
structure EA(E:Env)(w:World)(N:Nat)(fr:List (Option G))(tmps:Array Value):Prop where
 len:fr.length=N
 size:tmps.size=N
 cG:∀s g,Ax fr s=some g->g.tg=[]/\g.gt=none/\g.gf=none/\s<N/\Rel E w g.v (tmps.getD s undef)
theorem EA.FC{E:Env}{w:World}{N:Nat}:∀(ps:List Tmp) (vs:List SV) (us:List Value) (fr oJ:List (Option G)) (tmps:Array Value),EA E w N fr tmps->Ji ps vs fr=some oJ->A8 E w vs us->
  EA E w N oJ ((ps.zip us).foldl (λtmps (x:Tmp×Value)=>tmps.setIfInBounds x.1 x.2) tmps)
 | [],[],us,fr,oJ,tmps,h,hs,_=>by simp[Ji]at hs;subst hs;simpa using h
 |p :: ps,v :: vs,[],_,_,_,_,_,hr=>absurd hr.1 (by simp)
 |p :: ps,v :: vs,u :: us,fr,oJ,tmps,h,hs,hr=>by
  have yS:A8 E w vs us:=⟨by have:=hr.1;simpa using this,λi s v a b=>hr.2 (i+1) s v a b⟩;have zb:=hr.2 0 v u rfl rfl;simp only[YN,List.foldl_cons];refine EA.FC ps vs us _ oJ _ ?_ (by simpa[Ji] using hs) yS;refine⟨by rw[Av,XN];exact h.len,by simp[h.size],λs g hg=>?_⟩;rw[B9]at hg
  split at hg
  .rename_i e
   obtain⟨rfl,e2⟩:=e;cases hg;rw[h.len]at e2;refine⟨rfl,rfl,rfl,e2,?_⟩;rw[XI,ZZ (by rw[h.size];exact e2)];exact zb
  .rename_i e
   obtain⟨q1,q2,q3,q4,q5⟩:=h.cG s g hg;refine⟨q1,q2,q3,q4,?_⟩;have e2:p≠s:=λe2=>e ⟨e2.symm,by rw[h.len,e2];exact q4⟩;rw[XI,ZP e2,<-XI];exact q5
 | [],_ :: _,_,_,_,_,_,hs,_=>by simp[Ji]at hs
 |_ :: _,[],_,_,_,_,_,hs,_=>by simp[Ji]at hs
theorem Aka(N s:Nat):Ax (List.replicate N (none:Option G)) s=none:=by
 rw[Eh,List.getElem?_replicate]
 split<;>rfl
theorem Aeq{x:LoopState}(h:NF x=0):x=.ready:=by cases x<;>simp[NF]at h ⊢
theorem Aiw{x:LoopState}(h:NF x≠1):x≠.busy:=by rintro rfl;exact h rfl
def wm(cx:Cx)(c:LC)(ps:Array Tmp)(assign bd:Code)(N:Nat)(Y:aB):Prop :=
 ∀xs ls K',Y cx.D xs ls K'->(∃fr,ls.head?=some (.bO c fr 0 none))/\∃r aK,K' r aK/\match Ae9 c ps N xs ls with
  |some tF=>exec cx assign ⟨tF,ls,[]⟩ λe dQ=>match e,nth dQ.hp 0 with
   |.normal,some (.bO c1 uc 0 none)=>exec cx bd ⟨dQ.fr,Ay dQ.hp 0 (.bO c1 uc 1 none),dQ.gm⟩ (Ub cx (Ai ls) λr' dS=>Fin r' r dS aK)
   |_,_=>False
  |none=>False
def Aie(P:Program)(cx:Cx)(N:Nat)(x:Code):Prop:=∀(l nn:Nat) (σ:Sy) (K:Ex->Sy->Prop),exec cx x σ K->∀(B:Bs),Fm B cx.gl->∀(E:Env) (a:Act) (w:World),bS B N E a w σ->x.wpIn (Fr (some l)) nn P (uh B N K) a w
theorem Y9(hc:A4 P cx){N:Nat}{c:LC}{ps:Array Tmp}{assign bd:Code}(hl:BM c ps assign bd N){Y:aB}(sa:Aie P cx N assign)(sb:Aie P cx N bd)(h:wm cx c ps assign bd N Y):DS P cx.gl Y:=by
 intro as ls K hY;rw[<-hc.D]at hY;obtain⟨⟨fr,cI⟩,r,aK,hK,hx⟩:=h as ls K hY;refine⟨r,aK,hK,?_⟩;intro B E w aX oA KC dT hb hg hh hr;obtain⟨rest,rfl⟩:∃rest,ls=.bO c fr 0 none :: rest:=by
  cases ls with
  |nil=>simp at cI
  |cons x rest=>simp at cI;subst cI;exact⟨rest,rfl⟩
 split at hx
 .rename_i tF h0
  obtain⟨vs,rfl,uH⟩:∃vs,as=.yv 0 :: vs/\Ji ps.toList vs (Oy fr (List.replicate N none))=some tF:=by
   unfold Ae9 at h0
   split at h0
   .rename_i vs _ _ _ e
    simp only[List.cons.injEq,Hl.bO.injEq,and_true]at e;obtain⟨⟨rfl,rfl⟩,rfl⟩:=e;exact⟨vs,rfl,h0⟩
   .cases h0
  obtain⟨u,us,rfl,hu,jM⟩:∃u us,aX=u :: us/\Rel E w (.yv 0) u/\A8 E w vs us:=by
   cases aX with
   |nil=>exact absurd hr.1 (by simp)
   |cons u us=>exact⟨u,us,rfl,hr.2 0 _ u rfl rfl,⟨by have:=hr.1;simpa using this,λi s v a b=>hr.2 (i+1) s v a b⟩⟩
  obtain⟨b,fY,rfl⟩:=hu.zJ;have h00:=hh 0;obtain⟨b',rr,k1,k2,k3,k4,k5,k6⟩:=h00;rw[fY]at k1;cases k1;obtain⟨p1,p2⟩:=Xr uH;have ym:rr.params.toList=ps.toList:=by rw[k4.ps,hl.ps]
  have bC:us.length=rr.params.size:=by
   rw[<-Array.length_toList,ym,<-p1];exact jM.1.symm
  refine⟨b,us,rr,rfl,k3,bC,λro nn=>?_⟩;rw[show rr.assign=assign by rw[k4.assign,hl.assign],show rr.body=bd by rw[k4.body,hl.body]];have tx:∀h,E.β h≠none\/E.τ h≠none\/E.ζ h≠none->h<(Hl.bO c fr 0 none :: rest).length:=by
   intro h bA;rcases ZK h (Hl.bO c fr 0 none :: rest).length with aC|lS
   .exact aC
   .have hk:=hh h
    rw[show Aq (Hl.bO c fr 0 none :: rest) h=.fresh by simp only[Aq,Aj,QY lS,ZW]]at hk;obtain⟨q1,q2,q3,q4⟩:=hk;rcases bA with bA|bA|bA
    .exact absurd q1 bA
    .exact absurd q2 bA
    .exact absurd q4 bA
  subst oA
  let B':Bs:=⟨B.w0,B.X,B.I0,E.β,E.τ,E.ζ,[]⟩
  have oV:Cr B' E B.w0:=⟨hb.os,hb.tape,hb.output,hb.size,hb.dY,hb.I0,hb.dP,hb.cE,hb.cS,⟨λ_ _ h=>h,λ_ _ h=>.inl h,λ_ _ h=>h⟩⟩;have nF:Fm B' cx.gl:=hg;have zp:∀ {E2:Env} {w2:World},Cr B' E2 w2->Cr B E2 w2:=λ{E2 w2} h2=>⟨h2.os,h2.tape,h2.output,h2.size,h2.dY,h2.I0,h2.dP,h2.cE,h2.cS,hb.cO.comp h2.cO⟩;have mF:EA E B.w0 N tF ((rr.params.zip (⟨us⟩:Array Value)).foldl (λtmps (t,a)=>tmps.setIfInBounds t a) rr.tmps):=by
   have h1:EA E B.w0 N (Oy fr (List.replicate N none)) rr.tmps:=by
    refine⟨by rw[U5];simp,by rw[k4.n,hl.n],λs g hs=>?_⟩;obtain⟨g1,g2,g3,v,g4,g5⟩:=J5 _ _ s g (Aka N) hs;obtain⟨q1,q2⟩:=k5 s v g4;exact⟨g1,g2,g3,by rw[<-hl.n];exact q1,by rw[g5];exact q2⟩
   have h2:=h1.FC ps.toList vs us _ tF _ uH jM;have e:(rr.params.zip (⟨us⟩:Array Value)).foldl (λtmps (t,a)=>tmps.setIfInBounds t a) rr.tmps=(ps.toList.zip us).foldl (λtmps (x:Tmp×Value)=>tmps.setIfInBounds x.1 x.2) rr.tmps:=by
    rw[<-Array.foldl_toList,Array.toList_zip,ym]
   rw[e];exact h2
  generalize (rr.params.zip (⟨us⟩:Array Value)).foldl (λtmps (t,a)=>tmps.setIfInBounds t a) rr.tmps=EX at mF ⊢
  have sty:bS B' N E { tmps:=EX,defers:=[] } B.w0 ⟨tF,.bO c fr 0 none :: rest,[]⟩:=by
   refine⟨⟨oV,hh,λs=>?_,mF.size,rfl⟩,mF.len,⟨λs g hs i hi=>?_,λs g i hs hi=>?_,λs g i hs hi=>?_⟩,tx⟩
   .simp only[Bf]
    cases hs:Ax tF s with
    |none=>trivial
    |some g =>
     obtain⟨q1,q2,q3,q4,q5⟩:=mF.cG s g hs;simp only[QQ,Bn,q1,Ac,ZC,Bk];exact⟨by rw[mF.size];exact q4,λ_=>q5,λh=>absurd trivial h⟩
   .rw[(mF.cG s g hs).1]at hi;cases hi
   .rw[(mF.cG s g hs).2.1]at hi;cases hi
   .rw[(mF.cG s g hs).2.2.1]at hi;cases hi
  refine roundIn_of_wpIn trivial ?_;refine wpIn_mono (sa b nn _ _ hx B' nF E _ B.w0 sty) ?_;rintro e a1 w1 ⟨B1,E1,dQ,JZ,cC,fH⟩;have xW:E1.β 0=some b:=(JZ.since cC.st.base.cO).β 0 b fY;cases e with
  |normal =>
   have fH:match nth dQ.hp 0 with
    |some (.bO c1 uc 0 none)=>exec cx bd ⟨dQ.fr,Ay dQ.hp 0 (.bO c1 uc 1 none),dQ.gm⟩ (Ub cx (Ai (Hl.bO c fr 0 none :: rest)) λr' dS=>Fin r' r dS aK)
    |_=>False:=by
    simp only[DC]at fH
    split at fH
    .rename_i c1 uc _ yT
     simp only[yT];exact fH
    .exact fH.elim
   split at fH
   .rename_i c1 uc yT
    have OT:=cC.st.heap 0;rw[Bv yT]at OT;obtain⟨b1,r1,j1,j2,j3,j4,j5,j6⟩:=OT;rw[xW]at j1;cases j1;refine⟨_,run_beginRound j3 (Aeq j4.st),?_⟩;have tA:=Bd cC.st.base j2;have SJ:=cC.setObj (Afd yT) j2 j6 (.loop { r1 with state:=.busy }) (.bO c1 uc 1 none) (by
     obtain⟨x1,_,_⟩:=Oh cC.st j2 j6 (.loop { r1 with state:=.busy }) .gone trivial;exact⟨b,_,xW,j2,World.putObj_heap_same tA,⟨j4.fn,j4.ps,j4.assign,j4.body,j4.n,rfl,j4.pd⟩,λs v hm=>⟨(j5 s v hm).1,(j5 s v hm).2.mono x1⟩,j6⟩)
    refine wpIn_mono (sb b nn _ _ fH B1 (JZ.gl nF) E1 a1 _ SJ) ?_;rintro e a3 w3 ⟨B3,E3,σ3,zs,tK,lG⟩;have HG:E3.β 0=some b:=(JZ.since (zs.since tK.st.base.cO)).β 0 b fY;have JO:=(JZ.trans zs).PE (m:=Ai (Hl.bO c fr 0 none :: rest)) (by rw[Ag];exact tx);have key:∀(x:Ex) (jump:Option Code),(ly x).2.1.map Jp.code=jump->(ly x).2.2=jump.isNone->(ly x).1=(if jump.isNone then 0 else 2)->Ub cx (Ai (Hl.bO c fr 0 none :: rest)) (λr' dS=>Fin r' r dS aK) x σ3->
      ∃v w',(Instr.endRound b jump).run P w3=.ok v w'/\∃vJ E',Ending.returned v=.returned vJ/\Cr B E' w'/\(∀h,h<aK.length->bR E' w' h (Aq aK h))/\Rel E' w' r vJ:=by
     intro x jump e1 e2 e3 OK;unfold Ub at OK
     split at OK
     .rename_i c3 fr3 st pd bb IX hj
      rw[hj]at e1 e2 e3;simp only at e1 e2 e3;have hh3:=tK.st.heap 0;rw[Bv IX]at hh3;obtain⟨b3,r3,i1,i2,i3,i4,i5,i6⟩:=hh3;rw[HG]at i1;cases i1;have ad4:=Bd tK.st.base i2;have SI:=tK.setObj (Afd IX) i2 i6 (.loop { r3 with state:=if jump.isNone then .ready else .done,pending:=jump }) (.bO c3 fr3 st pd) (by
       obtain⟨x1,_,_⟩:=Oh tK.st i2 i6 (.loop { r3 with state:=if jump.isNone then .ready else .done,pending:=jump }) .gone trivial;refine⟨b,_,HG,i2,World.putObj_heap_same ad4,⟨i4.fn,i4.ps,i4.assign,i4.body,i4.n,?_,e1.symm⟩,λs v hm=>⟨(i5 s v hm).1,(i5 s v hm).2.mono x1⟩,i6⟩;rw[e3];show NF (if jump.isNone then .ready else .done)=_;cases jump.isNone<;>rfl)
      obtain⟨E5,q1,q2,q3⟩:=Yw hc SI JO (vs:=[.bool (.l bb)]) (us:=[.bool jump.isNone]) (.cons (.ro (.bool (by rw[<-e2];rfl))) .nil) OK;exact⟨_,_,run_endRound jump i3,_,E5,rfl,zp ((JZ.trans zs).base q1),q2,q3⟩
     .exact OK.elim
    cases e with
    |normal=>exact key .normal none rfl rfl rfl lG
    |ret=>exact key .ret (some .ret) rfl rfl rfl lG
    |exit i=>exact key (.exit i) (some (.exit i)) rfl rfl rfl lG
    |goto i=>exact key (.goto i) (some (.goto i)) rfl rfl rfl lG
    |panic _=>exact lG.elim
    |outgrown=>exact lG.elim
   .exact fH.elim
  |ret=>simp only[DC]at fH
  |exit i=>simp only[DC]at fH
  |goto i=>simp only[DC]at fH
  |panic _=>exact fH.elim
  |outgrown=>exact fH.elim
 .exact hx.elim
theorem Acl{α:Type}:∀ {l:List (Nat×α)} {k:Nat} {x:α},look k l=some x->(k,x)∈l
 | [],_,_,h=>by simp[look]at h
 |(j,y) :: l,k,x,h=>by
  simp only[look]at h
  split at h
  .rename_i e
   have e:j=k:=by simpa using e
   subst e;cases h;exact XB ..
  .exact XC _ (Acl h)
theorem Ak1{B:Bs}{N:Nat}{E:Env}{a:Act}{w:World}{ff:Nat->SG}{hf:Nat->Hl}(st:St B N E a w ff hf)(o':Obj):St B N E a (w.alloc o') ff hf:=by
 have hb:=st.base;have hx:Ext E w E (w.alloc o'):=⟨λ_ _ h=>h,λ_ _ h=>.inl h,λ_ _ h=>h,λ_ _ h=>h,λ_ _ h=>h,λb o hi=>Dc (hb.dP b o hi)⟩;refine st.step hx ⟨hb.os,hb.tape,hb.output,?_,?_,?_,?_,hb.cE,?_,hb.cO⟩ λk=>?_
 .have:=hb.size;simp;omega
 .intro b aC hX;rw[Di (by have:=hb.size;omega)];exact hb.dY b aC hX
 .intro b o hi
  obtain⟨i1,i2⟩:=hb.I0 b o hi;exact⟨i1,by rw[Dc (hb.dP b o i1)];exact i2⟩
 .intro b o hi;have:=hb.dP b o hi;simp;omega
 .intro b k hO
  obtain⟨o1,o2⟩:=hb.cS b k hO;simp;exact⟨by omega,o2⟩
 .refine bR.keep hx (st.heap k) rfl rfl rfl rfl λb hO=>?_
  exact⟨hO,Di (Bd hb hO),λ_ h=>h⟩
theorem Am8{N:Nat}{B:Bs}{E:Env}{a:Act}{w:World}{σ:Sy}(hs:bS B N E a w σ){n:Nat}{keep:List Nat}{s:Nat}{v:SV}(h:(s,some v)∈Ld keep (Gz dn n σ.fr keep)):s<N/\Rel E w v (a.tmps.getD s undef):=by
 obtain⟨g,q1,q2,q3,q4⟩:=Kl keep h;have bE:=hs.st.slot s;simp only[Bf,q1,QQ,Bn,q2,Ac,ZC,Bk]at bE;obtain⟨s1,s2,_⟩:=bE;rw[hs.st.size]at s1;exact⟨s1,by rw[q4];exact (s2 trivial).norm⟩
theorem Akl{E:Env}{w:World}{v:SV}{u:Value}{f:FuncId}{cs:List SV}(h:Rel E w v u)(hc:RM v=some (f,cs)):∃cv:List Value,u=.func (.func f) #[] ⟨cv⟩/\A8 E w cs cv:=by
 unfold RM at hc
 split at hc
 .simp only[Option.some.injEq,Prod.mk.injEq]at hc
  obtain⟨rfl,rfl⟩:=hc;exact h.qX
 .simp only[Option.some.injEq,Prod.mk.injEq]at hc
  obtain⟨rfl,rfl⟩:=hc;exact⟨[],h.qW,.nil⟩
 .cases hc
theorem Abz{nn:Nat}(hc:A4 P cx)(fT:Wn P cx){B:Bs}{N:Nat}(hg:Fm B cx.gl){g:Operand}{ps:Array Tmp}{assign bd:Code}{σ:Sy}{K:Ex->Sy->Prop}{E:Env}{a:Act}{w:World}(hs:bS B N E a w σ)
  {f:FuncId} {vF:List SV} {it:aB->aB} (hv:(rd cx σ [] g).bind RM=some (f,vF)) (hit:look f cx.its=some it)
  (h:∀c,BM c ps assign bd N->∃(keep:List Nat) (Y:aB),DS P cx.gl Y/\
   Gd cx ⟨σ.fr,σ.hp++[.bO c (Ld keep (Gz cx.D (Ai σ.hp) σ.fr keep)) 0 none],σ.gm⟩ [] (.yv (Ai σ.hp) :: vF) (it Y) λo =>
      match L7 (σ.hp++[.bO c (Ld keep (Gz cx.D (Ai σ.hp) σ.fr keep)) 0 none]) o.fR with
      |mA=>Jr (σ.hp++[.bO c (Ld keep (Gz cx.D (Ai σ.hp) σ.fr keep)) 0 none]) o.fR=true/\match nth mA (Ai σ.hp) with
       |some (.bO _ _ st pd)=>Nat.beq st 1=false/\K (KL pd) ⟨σ.fr,Ay mA (Ai σ.hp) .gone,σ.gm⟩
       |_=>False):
  (Code.rangeFunc g ps assign bd).wpIn (Fr none) nn P (uh B N K) a w:=by
 refine wpIn_rangeFunc λfn _=>?_;obtain⟨keep,Y,hY,dU⟩:=h ⟨fn,ps,assign,bd,N⟩ ⟨rfl,rfl,rfl,rfl⟩;obtain⟨c,ej⟩:∃c:LC,c=⟨fn,ps,assign,bd,N⟩:=⟨_,rfl⟩;rw[<-ej]at dU;rw[hc.D]at dU;obtain⟨frs,JL⟩:∃x,x=Ld keep (Gz dn (Ai σ.hp) σ.fr keep):=⟨_,rfl⟩;rw[<-JL]at dU
 -- tH function that is SS over
 obtain⟨gv,zc,qR⟩:=Option.bind_eq_some_iff.1 hv;obtain⟨cv,rI,uY⟩:=Akl (Ab zc hg hs.st (λ_ _=>rfl) trivial) qR;have uT:=fT.its _ (Acl hit) Y hY;obtain⟨eD,uT⟩:=uT
 -- tH record and tH block for tH deferred calls are laid
 let lp:Loop:={ state:=.ready,pending:=none,fn,tmps:=a.tmps,params:=ps,assign,body:=bd,defers:=w.heap.size }
 let w0:World:=w.alloc (.deferred (some []))
 let w1:World:=w0.alloc (.loop lp)
 have yd:=Ak1 hs.st (.deferred (some []));have hM:Aq σ.hp σ.hp.length=.fresh:=by simp only[Aq,Aj,QY (QK _),ZW]
 have xz:w0.heap.size=w.heap.size+1:=by simp[w0]
 obtain⟨E1,x1,b1,OT,xW,hO1⟩:=Ahk yd hM (.loop lp) (.bO c [] 0 none) λE' w' q1 q2 q3 q4=>⟨_,lp,q1,q2,q3,by subst ej;exact⟨rfl,rfl,rfl,rfl,hs.st.size,rfl,rfl⟩,by simp,q4⟩;have yH:∀k,bR E1 w1 k (aU (Aq σ.hp) σ.hp.length (.bO c frs 0 none) k):=by
  intro k;have hk:=OT k
  by_cases e:k=σ.hp.length
  .subst e
   simp only[aU,QC]at hk ⊢;obtain⟨b,r,k1,k2,k3,k4,k5,k6⟩:=hk;rw[xW]at k1;cases k1;have hr:r=lp:=by
    have:=heap_alloc_new w0 (.loop lp);rw[this]at k3;cases k3;rfl
   subst hr;refine⟨_,lp,xW,k2,k3,k4,λs v hm=>?_,k6⟩;rw[JL]at hm;have jO:bS B N E a w0 σ:=⟨yd,hs.len,hs.wf,hs.ge⟩;obtain⟨r1,r2⟩:=Am8 jO hm;exact⟨by subst ej;exact r1,r2.mono x1⟩
  .simp only[aU,QA e]at hk ⊢
   exact hk
 rw[<-Aj3]at yH
 -- tH later start
 have WA:w.heap.size<w1.heap.size:=by simp[w1,w0];omega
 have WO:∀k,E1.O w.heap.size≠some k:=by
  intro k hk;rcases hO1 _ _ hk with h|h
  .have:=(hs.st.base.cS _ _ h).1;omega
  .rw[xz]at h;omega
 have ac8:w1.heap[w.heap.size]?=some (.deferred (some [])):=by
  rw[Di (by rw[xz];omega)];exact heap_alloc_new w _
 let B1:Bs:=⟨w1,λb=>∃h,E1.O b=some h,E1.I,B.cO,B.oN,B.oO,w.heap.size :: B.dl⟩
 have lU:Cr B1 E1 w1:=⟨rfl,rfl,rfl,QK _,λ_ _ _=>rfl,λb o h=>⟨h,rfl⟩,b1.dP,λb o h=>.inl h,λb k hO=>⟨(b1.cS b k hO).1,.inr ⟨k,hO⟩⟩,⟨b1.cO.β,b1.cO.τ,b1.cO.ζ⟩⟩;have cy:oY B B1:=by
  refine⟨b1.os,b1.tape,b1.output,b1.size,λb aC hX=>⟨?_,b1.dY b aC hX⟩,b1.I0,b1.cE,λb ⟨k,hO⟩=>(b1.cS b k hO).2,rfl,rfl,rfl,λhm=>⟨?_,λr hr=>?_⟩,λr hr=>?_⟩
  .rintro⟨k,hO⟩
   rcases (b1.cS b k hO).2 with h|h
   .omega
   .exact hX h
  .refine List.nodup_cons.2 ⟨λhr=>?_,hm.nodup⟩
   have:=(hm.cG _ hr).1;have:=hs.st.base.size;omega
  .rcases List.mem_cons.1 hr with rfl|hr
   .exact⟨WA,λ⟨k,hk⟩=>WO k hk,ac8⟩
   .obtain⟨r1,r2,r3⟩:=hm.cG r hr
    refine⟨XQ r1 b1.size,?_,(b1.dY r r1 r2).trans r3⟩;rintro⟨k,hO⟩;rcases (b1.cS r k hO).2 with h|h
    .omega
    .exact r2 h
  .rcases List.mem_cons.1 hr with rfl|hr
   .exact .inr hs.st.base.size
   .exact .inl hr
 let a1:Act:={ a with defers:=Us w.heap.size :: a.defers }
 have x0:Ext E w E w0:=⟨λ_ _ h=>h,λ_ _ h=>.inl h,λ_ _ h=>h,λ_ _ h=>h,λ_ _ h=>h,λb o hi=>Dc (hs.st.base.dP b o hi)⟩;have yb:bS B1 N E1 a1 w1 ⟨σ.fr,σ.hp++[.bO c frs 0 none],σ.gm⟩:=by
  have h3:=yd.step x1 b1 yH;exact⟨⟨lU,yH,h3.slot,h3.size,by show Us w.heap.size :: a.defers=_;rw[hs.st.defers];rfl⟩,hs.len,⟨hs.wf.tg,hs.wf.gt,hs.wf.gf⟩,λk hk=>by have:=hs.ge k hk;simp;omega⟩
 have KD:E1.β σ.hp.length=some (w.heap.size+1):=by rw[xW,xz]
 -- tH call
 unfold Gd at dU;rw[hc.D]at dU;simp only at dU;obtain⟨pV,ab5⟩:∃x,x=σ.hp++[Hl.bO c frs 0 none]:=⟨_,rfl⟩;simp only[<-ab5]at dU yH yb;obtain⟨EO,sO⟩:∃x,x=loose.aH (norm.aO dn (.yv (Ai σ.hp) :: vF)):=⟨_,rfl⟩;simp only[<-sO]at dU;obtain⟨cC,du⟩:∃x,x=reach pV pV (Mg [] (iJ.uI EO)):=⟨_,rfl⟩;simp only[<-du]at dU;obtain⟨CM,sT⟩:∃x,x=Vg dn pV cC:=⟨_,rfl⟩;simp only[<-sT]at dU
 split at dU
 .rename_i h3
  simp only[QE]at h3;obtain⟨⟨⟨⟨c1,c2⟩,c3⟩,c4⟩,c5⟩:=h3;obtain⟨r,aK,⟨k1,k2⟩,tO⟩:=uT _ _ _ dU;simp only[QE]at k1;obtain⟨⟨⟨k3,k4⟩,k5⟩,k6⟩:=k1;have k3:=XK k3;simp only[Ag cC,Ag aK,Ag pV,Ba,Bl,Km]at k3 k5 k6 k2 tO;rw[Ag]at c4;have IK:A8 E1 w1 (.yv (Ai σ.hp) :: vF) (.func (.yield (w.heap.size+1)) #[] #[] :: cv):=by
   refine .cons (.yv (by rw[Ag];exact KD) rfl) ⟨uY.1,λi s v p q=>((uY.2 i s v p q).mono x0).mono x1⟩
  have hC:=Nz (cx:=cx) (G:=λus w R=>Calls P f ⟨us⟩ w R) (λus w R R' h hc=>hc.mono h) (hp:=pV) sO sT ((H3 _).1 c1) ((Hu _ _).1 c2) c3 ((Gy _ _).1 c4) ((G8 _ _).1 c5) tO k3 k4 ((Gy _ _).1 k5) ((Ow _ _).1 k6) (cy.gl hg) lU yH (Aec _ _) IK;have zi:=run_enterLoop_outer (P:=P) (w:=w) fn a.tmps ps assign bd;obtain⟨fnn,body,g1,g2,g3⟩:=eD;have g4:¬fnn.name="runtime.NumGoroutine":=by simpa using g3
  have hinv:(resolve a.eval (rangeCall g (w.heap.size+1)) 0).run P w1=.ok { target:=.fn (.func f) ⟨cv⟩,args:=#[.func (.yield (w.heap.size+1)) #[] #[]] } w1:=by
   simp[resolve,rI,Deferred.ofValue,show ∀v,a.eval (.const v)=v from λ_=>rfl]
  refine⟨w.heap.size+1,[Us w.heap.size],w1,_,w1,f,⟨.func (.yield (w.heap.size+1)) #[] #[] :: cv⟩,w1,zi,hinv,λ_ _=>trivial,?_,by simp[Fr,Fence.wide],?_⟩
  .have iA:(⟨.func (.yield (w.heap.size+1)) #[] #[] :: cv⟩:Array Value)=#[.func (.yield (w.heap.size+1)) #[] #[]]++(⟨cv⟩:Array Value):=by apply XV;simp
   rw[iA];simp[invoke,callFunc,g1,g2,g4]
  .refine (callsIn_wide (n:=nn-1)).2 (hC.mono ?_)
   rintro e w3 ⟨v,E3,rfl,y1,y2,y3,_⟩;obtain⟨k7,k8⟩:=k2
   split at k8
   .rename_i c4' fr4 st pd WS
    obtain⟨k9,GO⟩:=k8;rw[Ag]at WS GO;rw[<-J0 _ _ k7]at y3;have hh4:=y3 σ.hp.length;rw[Bv WS]at hh4;obtain⟨b,r3,i1,i2,i3,i4,i5,i6⟩:=hh4;rw[y1.β _ _ KD]at i1;cases i1;have iK:r3.state≠.busy:=Aiw (by rw[i4.st];intro e;subst e;cases k9);have IF:bS B1 N E3 a1 w3 ⟨σ.fr,L7 pV (Ei cC ((aK.take cC.length).map (mP (Cv cC cC.length pV.length)))++Fd pV.length ((aK.drop cC.length).map (mP (Cv cC cC.length pV.length)))),σ.gm⟩:=by
     have h5:=yb.st.step y1 y2 y3;refine⟨h5,hs.len,⟨hs.wf.tg,hs.wf.gt,hs.wf.gf⟩,λk hk=>XQ (yb.ge k hk) (O5 _ _)⟩
    have sP:=IF.setObj (Afd WS) i2 i6 (.loop { r3 with state:=.exhausted }) .gone trivial;refine⟨_,_,run_endLoop i3 iK,?_⟩;rw[i4.pd]at sP ⊢;cases pd with
    |none=>exact⟨B1,E3,_,cy,sP,GO⟩
    |some j =>
     cases j with
     |ret=>exact wpIn_ret ⟨B1,E3,_,cy,sP,GO⟩
     |exit i=>exact wpIn_exit ⟨B1,E3,_,cy,sP,GO⟩
     |goto i=>exact wpIn_goto ⟨B1,E3,_,cy,sP,GO⟩
   .exact k8.elim
 .exact dU.elim
theorem uh.reb{B B1:Bs}{N:Nat}{K:Ex->Sy->Prop}{e:Exit}{a:Act}{w:World}(h:uh B1 N K e a w)(hb:oY B B1):uh B N K e a w:=by
 obtain⟨B2,E,σ,h1,h2,h3⟩:=h;exact⟨B2,E,σ,hb.trans h1,h2,h3⟩
theorem B5(hd:Rd P)(hc:A4 P cx)(bU:E8 P cx.gl cx.eG)(fT:Wn P cx){N:Nat}:∀(c:Code) (σ:Sy) (K:Ex->Sy->Prop),exec cx c σ K->∀(ro:Option Nat) (nn:Nat),ro=none\/Ja c=true->∀(B:Bs),Fm B cx.gl->∀(E:Env) (a:Act) (w:World),bS B N E a w σ->c.wpIn (Fr ro) nn P (uh B N K) a w
 |.skip,σ,K,h,ro,nn,iF,B,hg,E,a,w,hs=>wpIn_skip ⟨B,E,σ,.refl B,hs,h⟩
 |.region id ops draw,σ,K,h,ro,nn,iF,B,hg,E,a,w,hs=>by
  obtain⟨E,σ,hs,h⟩:=hs.gI (id:=id+2000000) hc.D h;obtain⟨rs,aL,h1,h2,h3⟩:=Cw hc bU fT (ops:=ops) rfl ops.toList [] σ _ hs.wf h;simp only[UI]at h3;have fin:∀ {E':Env} {a':Act} {w':World},bS B N E' a' w' aL->Sx.gI cx id ⟨Sx.tidy aL.fr,aL.hp,[]⟩ (K .normal)->uh B N K .normal a' w':=λcD h3=>by
   obtain⟨E2,fy,q1,q2⟩:=(bS.tidy cD).gI hc.D h3;exact⟨B,E2,fy,.refl B,q1,q2⟩
  cases draw with
  |true =>
   simp only[if_true]at h3
   split at h3
   .obtain⟨⟨hb⟩,h3⟩:=h3
    simp only[QE]at hb;exact hd ro nn cx.gl id ops B N σ aL rs hg h1 hb.1 hb.2 _ E a w hs λE' a' w' cD=>fin cD h3
   .split at h3
    .rename_i hb
     simp only[QE]at hb;exact hd ro nn cx.gl id ops B N σ aL rs hg h1 hb.1 hb.2 _ E a w hs λE' a' w' cD=>fin cD h3
    .exact h3.elim
  |false =>
   simp only[XE,if_false]at h3;exact Wq (Abq rfl hg h1 E a w hs λE' a' w' cD=>fin cD h3)
 |.seq x y,σ,K,h,ro,nn,iF,B,hg,E,a,w,hs=>by
  have hx:ro=none\/Ja x=true:=iF.imp (λh=>h) λh=>by simp only[Ja,QE]at h;exact h.1
  have hy:ro=none\/Ja y=true:=iF.imp (λh=>h) λh=>by simp only[Ja,QE]at h;exact h.2
  refine wpIn_seq (wpIn_mono (B5 hd hc bU fT x σ _ h ro nn hx B hg E a w hs) λe a' w' hq=>?_);obtain⟨B',E',aL,hb,cD,hk⟩:=hq;cases e with
  |normal=>exact wpIn_mono (B5 hd hc bU fT y aL K hk ro nn hy B' (hb.gl hg) E' a' w' cD) λe a w hq=>hq.reb hb
  |exit i=>exact⟨B',E',aL,hb,cD,hk⟩
  |goto l=>exact⟨B',E',aL,hb,cD,hk⟩
  |ret=>exact⟨B',E',aL,hb,cD,hk⟩
  |_=>exact hk.elim
 |.cond c x y,σ,K,h,ro,nn,iF,B,hg,E,a,w,hs=>by
  have hx:ro=none\/Ja x=true:=iF.imp (λh=>h) λh=>by simp only[Ja,QE]at h;exact h.1
  have hy:ro=none\/Ja y=true:=iF.imp (λh=>h) λh=>by simp only[Ja,QE]at h;exact h.2
  simp only[exec]at h;have hv:∀b,rd cx σ [] c=some (.bool b)->a.eval c=.bool b.den:=λb hb=>(Ab hb hg hs.st (λ_ _=>rfl) trivial).bJ
  split at h
  .rename_i hb
   exact wpIn_cond (t:=true) (hv _ hb) (B5 hd hc bU fT x σ K h ro nn hx B hg E a w hs)
  .rename_i hb
   exact wpIn_cond (t:=false) (hv _ hb) (B5 hd hc bU fT y σ K h ro nn hy B hg E a w hs)
  .rename_i b _ _ hb
   rw[hc.D]at h;refine wpIn_cond_split (hv _ hb) (λe=>?_) (λe=>?_)
   .exact B5 hd hc bU fT x _ K (h.1 e) ro nn hx B hg E a w (hs.uB hb (hv _ hb) e)
   .exact B5 hd hc bU fT y _ K (h.2 e) ro nn hy B hg E a w (hs.uB hb (hv _ hb) e)
  .exact h.elim
 |.block id b,σ,K,h,ro,nn,iF,B,hg,E,a,w,hs=>by
  have hx:ro=none\/Ja b=true:=iF.imp (λh=>h) λh=>h;refine wpIn_block (wpIn_mono (B5 hd hc bU fT b σ _ h ro nn hx B hg E a w hs) λe a' w' hq=>?_);obtain⟨B',E',aL,hb,cD,hk⟩:=hq;cases e with
  |normal=>exact⟨B',E',aL,hb,cD,hk⟩
  |exit i =>
   simp only[Exit.inBlock];simp only[DC]at hk
   by_cases e:i=id
   .rw[QC e]
    rw[QC (by simpa using e)]at hk;exact⟨B',E',aL,hb,cD,hk⟩
   .rw[QA e]
    rw[QA (by simpa using e)]at hk;exact⟨B',E',aL,hb,cD,hk⟩
  |goto l=>exact⟨B',E',aL,hb,cD,hk⟩
  |ret=>exact⟨B',E',aL,hb,cD,hk⟩
  |_=>exact hk.elim
 |.loop b,σ,K,h,ro,nn,iF,B,hg,E,a,w,hs=>by
  have hx:ro=none\/Ja b=true:=iF.imp (λh=>h) λh=>h;simp only[exec]at h
  split at h
  .rename_i l _
   refine Aaz (λm a w=>∃B1 dQ E,oY B B1/\Aeh (exec cx b) m dQ K/\bS B1 N E a w dQ) ⟨KX l,B,σ,E,.refl B,h,hs⟩ ?_;rintro m a' w' ⟨B1,dQ,E',bP,hu,cD⟩;cases m with
   |zero=>exact hu.elim
   |succ m =>
    refine wpIn_mono (B5 hd hc bU fT b _ _ hu ro nn hx B1 (bP.gl hg) E' a' w' cD) λe a2 w2 hq=>?_;obtain⟨B2,E2,fy,bZ,eK,hk⟩:=hq;have hr:=bP.trans bZ;cases e with
    |normal=>exact⟨m,YP _,B2,fy,E2,hr,hk,eK⟩
    |exit i=>exact⟨B2,E2,fy,hr,eK,hk⟩
    |goto l=>exact⟨B2,E2,fy,hr,eK,hk⟩
    |ret=>exact⟨B2,E2,fy,hr,eK,hk⟩
    |_=>exact hk.elim
  obtain⟨keep,J,⟨JU,m0,hJ0⟩,cu⟩:=h;rw[hc.D]at hJ0 cu;refine Aaz (λm a w=>∃B1 vs hp E,oY B B1/\J m vs hp/\bS B1 N E a w ⟨Oy (Ld keep vs) (blank σ.fr),hp,[]⟩) ⟨m0,B,_,_,C6 (Ai σ.hp) E,.refl B,hJ0,?_⟩ ?_
  .have:=hs.head (n:=Ai σ.hp) (keep:=keep) hs.len (by rw[Xm];exact JU) (by rw[Ag];exact hs.ge)
   rw[Xm]at this;exact this
  .rintro m a' w' ⟨B1,vs,hp,E',bP,hJ,cD⟩
   refine wpIn_mono (B5 hd hc bU fT b _ _ (cu m vs hp hJ) ro nn hx B1 (bP.gl hg) E' a' w' cD) λe a2 w2 hq=>?_;obtain⟨B2,E2,fy,bZ,eK,hk⟩:=hq;have hr:=bP.trans bZ;cases e with
   |normal =>
    obtain⟨gH,m2,aC,xG⟩:=hk;exact⟨m2,aC,B2,_,_,_,hr,xG,eK.head hs.len gH (by rw[Ag];exact hr.PE hs.ge)⟩
   |exit i=>exact⟨B2,E2,fy,hr,eK,hk⟩
   |goto l=>exact⟨B2,E2,fy,hr,eK,hk⟩
   |ret=>exact⟨B2,E2,fy,hr,eK,hk⟩
   |_=>exact hk.elim
 |.exit id,σ,K,h,ro,nn,iF,B,hg,E,a,w,hs=>wpIn_exit ⟨B,E,σ,.refl B,hs,h⟩
 |.ret,σ,K,h,ro,nn,iF,B,hg,E,a,w,hs=>wpIn_ret ⟨B,E,σ,.refl B,hs,h⟩
 |.rangeFunc g ps assign bd,σ,K,h,ro,nn,iF,B,hg,E,a,w,hs=>by
  rcases iF with rfl|iF
  .simp only[exec]at h
   split at h
   .rename_i f vF hv
    split at h
    .rename_i it hit
     obtain⟨IT,h⟩:=h;simp only[QE]at IT;refine Abz hc fT hg hs hv hit λc hlc=>?_;have hN:Ai σ.fr=N:=by rw[Ag];exact hs.len
     rw[<-hN]at hlc;obtain⟨keep,Y,h1,h2⟩:=h c hlc;refine⟨keep,Y,Y9 hc hlc (λl nn σ K h B hg E a w hs=>?_) (λl nn σ K h B hg E a w hs=>?_) h1,h2⟩
     .rw[hN]at hs;rw[hN];exact B5 hd hc bU fT assign σ K h (some l) nn (.inr IT.1) B hg E a w hs
     .rw[hN]at hs;rw[hN];exact B5 hd hc bU fT bd σ K h (some l) nn (.inr IT.2) B hg E a w hs
    .exact h.elim
   .exact h.elim
  .cases iF
 |.scope c,σ,K,h,ro,nn,iF,B,hg,E,a,w,hs=>by
  have hx:ro=none\/Ja c=true:=iF.imp (λh=>h) λh=>h;refine Mx (wpIn_mono (B5 hd hc bU fT c σ _ h ro nn hx B hg E a w hs) λe a' w' hq=>?_);obtain⟨B',E',aL,hb,cD,hk⟩:=hq;cases e with
  |normal=>exact⟨B',E',aL,hb,cD,hk⟩
  |exit i=>exact⟨B',E',aL,hb,cD,hk⟩
  |goto l=>exact hk.elim
  |ret=>exact⟨B',E',aL,hb,cD,hk⟩
  |_=>exact hk.elim
 |.label _,σ,K,h,ro,nn,iF,B,hg,E,a,w,hs=>wpIn_label ⟨B,E,σ,.refl B,hs,h⟩
 |.goto _,σ,K,h,ro,nn,iF,B,hg,E,a,w,hs=>wpIn_goto ⟨B,E,σ,.refl B,hs,h⟩
 |.refuse _,_,_,h,_,_,_,_,_,_,_,_,_=>h.elim
theorem Aah(hd:Rd P)(hc:A4 P cx)(bU:E8 P cx.gl cx.eG)(fT:Wn P cx){B:Bs}{N:Nat}(hg:Fm B cx.gl)(c:Code)(σ:Sy)(K:Ex->Sy->Prop)(h:exec cx c σ K)(E:Env)(a:Act)(w:World)(hs:bS B N E a w σ):c.wp P (uh B N K) a w :=
 wpIn_wide.1 (B5 hd hc bU fT c σ K h none 0 (.inl rfl) B hg E a w hs)
end
end Go.Sx
