/- Part of the proofs of the statements about responses and messages (layers 9 and 10): a symbolic executor over the code, that it is sound, and contracts of functions; it has no conditions of its own. -/
import Derived.Test.YtdoogdbjiijifaaGreatDoorE3Paq
namespace Go.Sx
open Go
section
variable {P:Program} {cx:Cx}
def exK(K:Ex->Sy->Prop)(σ:Sy):Exit->Prop
 |.normal=>K .normal σ
 |.exit i=>K (.exit i) σ
 |.goto l=>K (.goto l) σ
 |.ret=>K .ret σ
 |_=>False
def Qq(P:Program):Prop:=∀(ro:Option Nat) (nn:Nat) (gl:List (Nat×SV)) (id:Nat) (ops:Array Oper) (B:Bs) (N:Nat) (σ σ':Sy) (rs:List (Option (Sy×List Nat×Out))),E6 B gl->Zm P gl ops.toList ops.toList σ rs σ'->G3 ops.toList 0=true->
 Ue ops.toList (Ie ops.toList []) ops.toList (rs.map fpR) 0=true->∀(Q:Exit->Act->World->Prop) (E:Env) (a:Act) (w:World),StY B N E a w σ->(∀E' a' w',StY B N E' a' w' σ'->Q .normal a' w')->(Code.region id ops true).wpIn (Fr ro) nn P Q a w
theorem Fw{p:Nat->Prop}(h:∃n,p n):∃n,p n/\∀m,p m->n<=m:=by
 obtain⟨n,hn⟩:=h
 induction n using Nat.strongRecOn with
 |_ n ih =>
  by_cases hm:∃m,m<n/\p m
  ·obtain⟨m,h1,h2⟩:=hm;exact ih m h1 h2
  ·exact⟨n,hn,λm h=>Nat.le_of_not_lt λhlt=>hm ⟨m,hlt,h⟩⟩
theorem Zq{ro:Option Nat}{nn:Nat}{c:Code}{Q:Exit->Act->World->Prop}{a:Act}{w:World}(R:Nat->Act->World->Prop)(h0:∃n,R n a w)
  (round:∀n a w,R n a w->c.wpIn (Fr ro) nn P (Exit.then (λa' w'=>∃n',n'<n/\R n' a' w') Q) a w):(Code.loop c).wpIn (Fr ro) nn P Q a w:=by
 classical
 let μ:Act->World->Nat:=λa w=>if h:∃n,R n a w then Classical.choose (Fw h) else 0
 have hμ:∀a w,(∃n,R n a w)->R (μ a w) a w/\∀m,R m a w->μ a w<=m:=by
  intro a w h;have:μ a w=Classical.choose (Fw h):=by simp only[μ];rw[dif_pos h]
  rw[this];exact Classical.choose_spec (Fw h)
 refine wpIn_loop (λa w=>∃n,R n a w) μ h0 λa w hI=>?_;obtain⟨h1,h2⟩:=hμ a w hI;refine wpIn_mono (round _ a w h1) λe a' w' hq=>?_;cases e with
 |normal =>
  obtain⟨n',hlt,hr⟩:=hq;exact⟨⟨n',hr⟩,Nat.lt_of_le_of_lt ((hμ a' w' ⟨n',hr⟩).2 n' hr) hlt⟩
 |_=>exact hq
def Cv(n:Nat)(E:Env):Env:=⟨λh=>if h<n then E.β h else none,λh=>if h<n then E.τ h else none,λb=>(E.O b).bind λh=>if h<n then some h else none,λh=>if h<n then E.κ h else none,λh=>if h<n then E.ζ h else none,E.I⟩
theorem Fx(n:Nat):∀(cs:List SV),By.belowL n cs=true↔∀c∈cs,By n c=true
 | []=>by simp[By.belowL]
 |c :: cs=>by simp[By.belowL,Fx n cs]
theorem Rel.cut{E:Env}{w:World}{n:Nat}{s:SV}{v:Value}(h:Rel E w s v)(hb:By n s=true):Rel (Cv n E) w s v:=by
 induction h with
 |ro h=>exact .ro h
 | @ptr h off b v hb' hv =>
  simp only[By,Nat.blt_eq]at hb;exact .ptr (by simp[Cv,hb];exact hb') hv
 | @gsl nl m sz f h v hr ht =>
  simp only[By,Nat.blt_eq]at hb;obtain⟨a,k,c,t1,t2⟩:=ht;exact .gsl hr ⟨a,k,c,by simp[Cv,hb];exact t1,t2⟩
 |mrow hb' hm hv =>
  simp only[By,Nat.blt_eq]at hb;exact .mrow (by simp[Cv,hb];exact hb') (by simp[Cv,hb];exact hm) hv
 |mptr hb' hz hv =>
  simp only[By,Nat.blt_eq]at hb;exact .mptr (by simp[Cv,hb];exact hb') (by simp[Cv,hb];exact hz) hv
 |osl ht hk =>
  simp only[By,Nat.blt_eq]at hb;obtain⟨a,k,c,t1,t2⟩:=hk;exact .osl ht ⟨a,k,c,by simp[Cv,hb];exact t1,t2⟩
 |optr hv ho =>
  simp only[By,Nat.blt_eq]at hb;obtain⟨a,k,c,sz,t1,t2,t3⟩:=ho;exact .optr hv ⟨a,k,c,sz,by simp[Cv,hb];exact t1,by simp[Cv,hb];exact t2,t3⟩
 |tsl ht hk =>
  simp only[By,Nat.blt_eq]at hb;obtain⟨a,k,c,sz,t1,t2,t3⟩:=hk;exact .tsl ht ⟨a,k,c,sz,by simp[Cv,hb];exact t1,by simp[Cv,hb];exact t2,t3⟩
 |mapv hb' hv =>
  simp only[By,Nat.blt_eq]at hb;exact .mapv (by simp[Cv,hb];exact hb') hv
 |bsl hb' hn hv =>
  simp only[By,Nat.blt_eq]at hb;exact .bsl (by simp[Cv,hb];exact hb') hn hv
 |vsl ht hk =>
  simp only[By,Nat.blt_eq]at hb;obtain⟨a,k,c,t1,t2⟩:=hk;exact .vsl ht ⟨a,k,c,by simp[Cv,hb];exact t1,t2⟩
 |yv hb' hv =>
  simp only[By,Nat.blt_eq]at hb;exact .yv (by simp[Cv,hb];exact hb') hv
 |agg hl _ ih =>
  simp only[By]at hb;exact .agg hl λi s v h1 h2=>ih i s v h1 h2 ((Fx n _).1 hb s (List.mem_of_getElem? h1))
 |tup hl _ ih =>
  simp only[By]at hb;exact .tup hl λi s v h1 h2=>ih i s v h1 h2 ((Fx n _).1 hb s (List.mem_of_getElem? h1))
 |clo hl _ ih =>
  simp only[By]at hb;exact .clo hl λi s v h1 h2=>ih i s v h1 h2 ((Fx n _).1 hb s (List.mem_of_getElem? h1))
 |bnd hl _ ih =>
  simp only[By]at hb;exact .bnd hl λi s v h1 h2=>ih i s v h1 h2 ((Fx n _).1 hb s (List.mem_of_getElem? h1))
theorem Nh{n:Nat}:∀ {ls:List Hl},Dx n ls=true->∀ {i:Nat} {ty:TypeId} {cs:List SV},ls[i]?=some (.blk ty cs)->∀c∈cs,By n c=true
 | [],_,i,ty,cs,h=>by simp at h
 |l :: ls,hp,i,ty,cs,h=>by
  cases i with
  |zero =>
   simp at h;subst h;simp only[Dx,Bool.and_eq_true,By]at hp;exact (Fx n cs).1 hp.1
  |succ i =>
   simp at h;cases l<;>simp only[Dx,Bool.and_eq_true]at hp<;>first|exact Nh hp h|exact Nh hp.2 h
theorem Ni{n s:Nat}{v:SV}:∀ {fr:List (Nat×Option SV)},Nj n fr=true->(s,some v)∈fr->By n v=true
 | [],_,h=>by simp at h
 |(_,some u) :: l,hr,h=>by
  simp only[Nj,Bool.and_eq_true]at hr;simp only[List.mem_cons,Prod.mk.injEq,Option.some.injEq]at h;rcases h with⟨_,rfl⟩|h
  ·exact hr.1
  ·exact Ni hr.2 h
 |(_,none) :: l,hr,h=>by
  simp only[Nj]at hr;simp only[List.mem_cons,Prod.mk.injEq,reduceCtorEq,and_false,false_or]at h;exact Ni hr h
theorem U3{n:Nat}:∀ {es:List (Int×SV)},Zf n es=true->∀p∈es,By n p.2=true
 | [],_,p,h=>by simp at h
 |(k,v) :: es,hb,p,h=>by
  simp only[Zf,Bool.and_eq_true]at hb;rw[List.mem_cons]at h;rcases h with rfl|h
  ·exact hb.1
  ·exact U3 hb.2 p h
theorem Ng{n:Nat}:∀ {ls:List Hl},Dx n ls=true->∀ {i:Nat} {es:List (Int×SV)},ls[i]?=some (.mint es)->∀p∈es,By n p.2=true
 | [],_,i,es,h=>by simp at h
 |l :: ls,hp,i,es,h=>by
  cases i with
  |zero =>
   simp at h;subst h;simp only[Dx,Bool.and_eq_true]at hp;exact U3 hp.1
  |succ i =>
   simp at h;cases l<;>simp only[Dx,Bool.and_eq_true]at hp<;>first|exact Ng hp h|exact Ng hp.2 h
theorem Nf{n:Nat}:∀ {ls:List Hl},Dx n ls=true->∀ {i:Nat} {c:LC} {fr:List (Nat×Option SV)} {st:Nat} {pd:Option Jp},ls[i]?=some (.lrec c fr st pd)->Nj n fr=true
 | [],_,i,c,fr,st,pd,h=>by simp at h
 |l :: ls,hp,i,c,fr,st,pd,h=>by
  cases i with
  |zero =>
   simp at h;subst h;simp only[Dx,Bool.and_eq_true]at hp;exact hp.1
  |succ i =>
   simp at h;cases l<;>simp only[Dx,Bool.and_eq_true]at hp<;>first|exact Nf hp h|exact Nf hp.2 h
theorem Xc(D:Dn):∀(ls:List Hl) (i:Nat),(Gb D ls)[i]?=(ls[i]?).map λl=>match l with
  |.blk ty cs=>.blk ty (norm.normL D cs)
  |.tail ty n sz=>.tail ty (.a (D.i n)) sz
  |.row ty n sz f=>.row ty (.a (D.i n)) sz f
  |.own ty n sz gr f=>.own ty (.a (D.i n)) sz gr f
  |.vec ty n g sz f=>.vec ty (.a (D.i n)) (.a (D.i g)) sz f
  |l=>l
 | [],i=>by simp[Gb]
 |l :: ls,i=>by
  cases i with
  |zero=>cases l<;>simp[Gb]
  |succ i=>cases l<;>simp[Gb,Xc D ls i]
theorem W2(D:Dn):∀(ls:List Hl),(Gb D ls).length=ls.length
 | []=>rfl
 |l :: ls=>by cases l<;>simp[Gb,W2 D ls]
theorem Jn:∀(l:List (Nat×Option SV)) (fr:List (Option G)) (s:Nat) (g:G),(∀s,Au fr s=none)->Au (Oc l fr) s=some g->g.tg=[]/\g.gt=none/\g.gf=none/\∃v,(s,some v)∈l/\g.v=v:=by
 have key:∀(l:List (Nat×Option SV)) (fr:List (Option G)) (s:Nat) (g:G),Au (Oc l fr) s=some g->Au fr s=some g\/(g.tg=[]/\g.gt=none/\g.gf=none/\∃v,(s,some v)∈l/\g.v=v):=by
  intro l
  induction l with
  |nil=>intro fr s g h;exact .inl h
  |cons p l ih =>
   obtain⟨i,v⟩:=p;intro fr s g h;rcases ih _ s g h with h|⟨h1,h2,h3,v',h4,h5⟩
   ·rw[B7]at h
    split at h
    ·rename_i e
     cases v with
     |none=>cases h
     |some v=>cases h;exact .inr ⟨rfl,rfl,rfl,v,by rw[e.1];exact List.mem_cons_self ..,rfl⟩
    ·exact .inl h
   ·exact .inr ⟨h1,h2,h3,v',List.mem_cons_of_mem _ h4,h5⟩
 intro l fr s g hfr h;rcases key l fr s g h with h|h
 ·rw[hfr]at h;cases h
 ·exact h
theorem Ht{α:Type}:∀(l:List α) (s:Nat),Au (Lp l) s=none
 | [],s=>by simp[Lp,Au]
 |_ :: l,0=>rfl
 |_ :: l,s+1=>Ht l s
theorem W3{α:Type}:∀(l:List α),(Lp l).length=l.length
 | []=>rfl
 |_ :: l=>by simp[Lp,W3 l]
theorem Uc:∀(l:List (Nat×Option SV)) (fr:List (Option G)),(Oc l fr).length=fr.length
 | [],_=>rfl
 |(i,v) :: l,fr=>by simp[Oc,Uc l,As]
theorem J3{D:Dn}{n:Nat}{fr:List (Option G)}{s:Nat}{v:SV}:∀(keep:List Nat),(s,some v)∈Ko keep (Ga D n fr keep)->∃g,Au fr s=some g/\g.tg=[]/\By n g.v=true/\v=norm D g.v
 | [],h=>by simp[Ko]at h
 |i :: keep,h=>by
  simp only[Ga,Ko,List.mem_cons]at h;rcases h with h|h
  ·simp only[Prod.mk.injEq]at h
   obtain⟨rfl,h⟩:=h
   split at h
   ·rename_i gt gf v' hg
    split at h
    ·rename_i hb
     cases h;exact⟨_,hg,rfl,hb,rfl⟩
    ·cases h
   ·cases h
  ·exact J3 keep h
theorem StY.head{B:Bs}{N:Nat}{E:Env}{a:Act}{w:World}{σ:Sy}(h:StY B N E a w σ){n:Nat}{keep:List Nat}{fr0:List (Option G)}(hfr:fr0.length=N)(hb:Dx n (Bf n σ.hp)=true)(hn:∀h,B.β0 h≠none\/B.τ0 h≠none\/B.ζ0 h≠none->h<n):
  StY B N (Cv n E) a w ⟨Oc (Ko keep (Ga dn n σ.fr keep)) (Lp fr0),Gb dn (Bf n σ.hp),[]⟩:=by
 have hbase:=h.st.base;refine⟨⟨⟨hbase.os,hbase.tape,hbase.output,hbase.size,hbase.old,hbase.I0,hbase.Ibd,hbase.Inew,λb k hO=>?_,⟨λk b hk=>by simp only[Cv,if_pos (hn k (.inl (by rw[hk];simp)))];exact hbase.β0.β k b hk,λk v hk=>by simp only[Cv,if_pos (hn k (.inr (.inl (by rw[hk];simp))))];exact hbase.β0.τ k v hk,λk z hk=>by simp only[Cv,if_pos (hn k (.inr (.inr (by rw[hk];simp))))];exact hbase.β0.ζ k z hk⟩⟩,λk=>?_,λs=>?_,h.st.size,h.st.defers⟩,by rw[Uc,W3];exact hfr,⟨λs g hs=>?_,λs g i hs hi=>?_,λs g i hs hi=>?_⟩,λk hk=>?_⟩
 ·have hO:(E.O b).bind (λh=>if h<n then some h else none)=some k:=hO
  cases hEO:E.O b with
  |none=>rw[hEO]at hO;cases hO
  |some k' =>
   rw[hEO]at hO;simp only[Option.bind_some]at hO
   split at hO
   ·cases hO;exact hbase.Obd b k hEO
   ·cases hO
 ·rw[A9]at hb ⊢
  simp only[Aq,Ag,Xc]
  by_cases hk:k<n
  ·have hkk:=h.st.heap k
   simp only[Aq,Ag]at hkk;rw[List.getElem?_take,if_pos hk];have hO:∀b,E.O b=some k->(Cv n E).O b=some k:=λb hb=>by simp[Cv,hb,hk]
   cases hl:σ.hp[k]? with
   |none =>
    rw[hl]at hkk;simp only[Option.map_none,Option.getD_none];obtain⟨q1,q2,q3,q4⟩:=hkk;exact⟨by simp only[Cv,if_pos hk];exact q1,by simp only[Cv,if_pos hk];exact q2,by simp only[Cv,if_pos hk];exact q3,by simp only[Cv,if_pos hk];exact q4⟩
   |some l =>
    rw[hl]at hkk;simp only[Option.map_some,Option.getD_some]at hkk ⊢;cases l with
    |fresh =>
     obtain⟨q1,q2,q3,q4⟩:=hkk;exact⟨by simp only[Cv,if_pos hk];exact q1,by simp only[Cv,if_pos hk];exact q2,by simp only[Cv,if_pos hk];exact q3,by simp only[Cv,if_pos hk];exact q4⟩
    |gone=>trivial
    |blk ty cs =>
     obtain⟨b,C,k1,k2,k3,k4,k5,k6⟩:=hkk.blk_inv;have hbl:∀c∈cs,By n c=true:=Nh hb (i:=k) (by rw[List.getElem?_take,if_pos hk];exact hl);have hn:A2 (Cv n E) w (norm.normL dn cs) C.toList:=by
      rw[Cl];exact k4.map _ λs v hs h=>(h.cut (hbl s hs)).norm
     exact⟨b,C,by simp only[Cv,if_pos hk];exact k1,hO b k2,k3,by have:=hn.1;simpa using this.symm,λi s v p q=>hn.2 i s v p (by simpa using q),λv hv=>k5 v (by simpa using hv),k6⟩
    |tail ty m sz =>
     obtain⟨v,m',xs,k1,k2,k3,k4,k5⟩:=hkk;exact⟨v,m',xs,by simp only[Cv,if_pos hk];exact k1,k2,k3,k4,λb hb=>⟨hO b (k5 b hb).1,(k5 b hb).2⟩⟩
    |row ty m sz f =>
     obtain⟨b,C,m',k1,k2,kz,k3,k4,k5,k6,k7,k8⟩:=hkk;exact⟨b,C,m',by simp only[Cv,if_pos hk];exact k1,by simp only[Cv,if_pos hk];exact k2,by simp only[Cv,if_pos hk];exact kz,hO b k3,k4,k5,k6,k7,k8⟩
    |own ty m sz gr f =>
     obtain⟨v,m',xs,k1,kz,k2,k3,k4,k5,k6⟩:=hkk;exact⟨v,m',xs,by simp only[Cv,if_pos hk];exact k1,by simp only[Cv,if_pos hk];exact kz,k2,k3,k4,k5,λb hb=>⟨hO b (k6 b hb).1,(k6 b hb).2⟩⟩
    |bld T e s =>
     obtain⟨b,p,v,k1,k2,k3,k4,k5,k6,k7,k8⟩:=hkk;exact⟨b,p,v,by simp only[Cv,if_pos hk];exact k1,hO b k2,k3,k4,k5,k6,k7,λg hg=>⟨hO g (k8 g hg).1,(k8 g hg).2⟩⟩
    |vec ty m g sz f =>
     obtain⟨a,c,m',G,xs,k1,k2,k3,k4,k5,k6,k7⟩:=hkk;exact⟨a,c,m',G,xs,by simp only[Cv,if_pos hk];exact k1,k2,k3,k4,k5,k6,λb hb=>⟨hO b (k7 b hb).1,(k7 b hb).2⟩⟩
    |mset F =>
     obtain⟨b,es,clock,k1,k2,k3,k4,k5,k6⟩:=hkk;exact⟨b,es,clock,by simp only[Cv,if_pos hk];exact k1,hO b k2,k3,k4,k5,k6⟩
    |mint es =>
     obtain⟨b,ms,clock,k1,k2,k3,k4,k5,k6⟩:=hkk;have hbl:=Ng hb (i:=k) (by rw[List.getElem?_take,if_pos hk];exact hl);exact⟨b,ms,clock,by simp only[Cv,if_pos hk];exact k1,hO b k2,k3,k4,λi p e hp he=>⟨(k5 i p e hp he).1,(k5 i p e hp he).2.cut (hbl p (List.mem_of_getElem? hp))⟩,k6⟩
    |lrec c fr st pd =>
     obtain⟨b,rr,k1,k2,k3,k4,k5,k6⟩:=hkk;have hbl:=Nf hb (i:=k) (by rw[List.getElem?_take,if_pos hk];exact hl);exact⟨b,rr,by simp only[Cv,if_pos hk];exact k1,hO b k2,k3,k4,λs v hm=>⟨(k5 s v hm).1,(k5 s v hm).2.cut (Ni hbl hm)⟩,k6⟩
  ·rw[List.getElem?_take,if_neg hk]
   simp only[Option.map_none,Option.getD_none];exact⟨by simp[Cv,hk],by simp[Cv,hk],by simp[Cv,hk],by simp[Cv,hk]⟩
 ·simp only[Ba]
  cases hs:Au (Oc (Ko keep (Ga dn n σ.fr keep)) (Lp fr0)) s with
  |none=>trivial
  |some g =>
   obtain⟨g1,_,_,v,g4,g5⟩:=Jn _ _ s g (Ht fr0) hs;obtain⟨g',q1,q2,q3,q4⟩:=J3 keep g4;have hsl:=h.st.slot s;simp only[Ba,q1,Option.map_some,Bk,q2,Ac,List.filterMap_nil,Bh]at hsl;obtain⟨s1,s2,_⟩:=hsl;simp only[Option.map_some,Bk,g1,Ac,List.filterMap_nil,Bh];refine⟨s1,λ_=>?_,λh=>absurd trivial h⟩;rw[g5,q4];exact ((s2 trivial).cut q3).norm
 ·obtain⟨g1,_⟩:=Jn _ _ s g (Ht fr0) hs
  rw[g1];simp
 ·obtain⟨_,g2,_⟩:=Jn _ _ s g (Ht fr0) hs
  rw[g2]at hi;cases hi
 ·obtain⟨_,_,g3,_⟩:=Jn _ _ s g (Ht fr0) hs
  rw[g3]at hi;cases hi
 ·rw[W2,A9,List.length_take]
  have h1:=hn k hk;have h2:=h.ge k hk;omega
theorem Wj{α:Type}(l:List α):Bf (Af l) l=l:=by rw[A9,Ae,List.take_length]
theorem StY.know{B:Bs}{N:Nat}{E:Env}{a:Act}{w:World}{σ:Sy}(h:StY B N E a w σ){c:Operand}{bt:BT}{b:Bool}(hr:rd cx σ [] c=some (.bool bt))(hv:a.eval c=.bool bt.den)(hb:bt.den=b):StY B N E a w (know σ c b):=by
 cases c with
 |tmp s =>
  simp only[rd]at hr
  split at hr
  ·rename_i g hg
   have hlt:s<σ.fr.length:=by
    rcases Nat.lt_or_ge s σ.fr.length with h|h
    ·exact h
    ·rw[Dz,List.getElem?_eq_none h]at hg;cases hg
   have hget:∀k,Au (Ax σ.fr s (some ⟨[],none,none,.bool (.l b)⟩)) k=if k=s then some ⟨[],none,none,.bool (.l b)⟩ else Au σ.fr k:=λk=>by
    rw[B7]
    by_cases e:k=s
    ·rw[if_pos ⟨e,hlt⟩,if_pos e]
    ·rw[if_neg (λh=>e h.1),if_neg e]
   refine⟨⟨h.st.base,h.st.heap,λk=>?_,h.st.size,h.st.defers⟩,by show (Ax σ.fr s _).length=N;rw[As,List.length_set];exact h.len,⟨λk g' hk i hi=>?_,λk g' i hk hi=>?_,λk g' i hk hi=>?_⟩,h.ge⟩
   ·simp only[Ba,Sx.know,hget]
    by_cases e:k=s
    ·subst e
     rw[if_pos rfl];have hv:a.tmps.getD k undef=.bool bt.den:=hv;refine⟨by rw[h.st.size,<-h.len];exact hlt,λ_=>?_,λhn=>absurd trivial hn⟩;rw[hv];exact .bool hb.symm
    ·rw[if_neg e]
     exact h.st.slot k
   ·have hk:Au (Ax σ.fr s (some ⟨[],none,none,.bool (.l b)⟩)) k=some g':=hk
    rw[hget]at hk
    split at hk
    ·cases hk;cases hi
    ·exact h.wf.tg k g' hk i hi
   ·have hk:Au (Ax σ.fr s (some ⟨[],none,none,.bool (.l b)⟩)) k=some g':=hk
    rw[hget]at hk
    split at hk
    ·cases hk;cases hi
    ·exact h.wf.gt k g' i hk hi
   ·have hk:Au (Ax σ.fr s (some ⟨[],none,none,.bool (.l b)⟩)) k=some g':=hk
    rw[hget]at hk
    split at hk
    ·cases hk;cases hi
    ·exact h.wf.gf k g' i hk hi
  ·cases hr
 |const _=>exact h
 |global _=>exact h
 |func _=>exact h
theorem Ev{b:Frame}{a:Act}{k:List Item}{cs:List Frame}{w:World}{c:Code}:step P (lone (b.atR a (.code (.scope c) :: k)) cs w)=.next (lone (b.atR a (.code c :: .inScope c :: k)) cs w) :=
 step_lone_go (by simp[stepG,stepG.exec,Frame.atR])
theorem Vk{b:Frame}{a:Act}{k:List Item}{cs:List Frame}{w:World}{c:Code}:step P (lone (b.atR a (.inScope c :: k)) cs w)=.next (lone (b.atR a k) cs w) :=
 step_lone_go (by simp[stepG,stepG.exec,Frame.atR])
theorem L9{F:Fence}{n:Nat}{Q:Exit->Act->World->Prop}{a:Act}{w:World}{c:Code}(h:c.wpIn F n P (Exit.noGoto Q) a w):(Code.scope c).wpIn F n P Q a w:=by
 intro b k cs hro hb hr;have h0:(lone (b.atR a (.code (.scope c) :: k)) cs w).fenced P F:=fenced_calm hb hr rfl;obtain⟨e,a₁,w₁,hq,harr⟩:=h b (.inScope c :: k) cs hro hb hr;cases e with
 |normal=>exact⟨.normal,a₁,w₁,hq,.head h0 Ev (StepsIn.trans harr (.one (fenced_calm hb hr rfl) Vk))⟩
 |exit id =>
  have hx:exitTo id (.inScope c :: k)=exitTo id k:=by simp[exitTo]
  exact⟨.exit id,a₁,w₁,hq,λk' hk=>.head h0 Ev (harr.1 k' (by rw[hx];exact hk)),λhr' hk=>let ⟨k₁,h1,h2⟩:=harr.2 hr' (by rw[hx];exact hk);⟨k₁,h1,.head h0 Ev h2⟩⟩
 |goto l=>exact hq.elim
 |ret=>exact⟨_,a₁,w₁,hq,.of_steps (.one h0 Ev) harr⟩
 |panic ch=>exact⟨_,a₁,w₁,hq,.of_steps (.one h0 Ev) harr⟩
 |outgrown=>exact⟨_,a₁,w₁,hq,.of_steps (.one h0 Ev) harr⟩
end
end Go.Sx
