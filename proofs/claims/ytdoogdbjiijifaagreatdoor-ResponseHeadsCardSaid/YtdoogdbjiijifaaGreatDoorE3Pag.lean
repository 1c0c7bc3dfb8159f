/- Part of the proofs of the statements about responses and messages (layers 9 and 10): a symbolic executor over the code, that it is sound, and contracts of functions; it has no conditions of its own. -/
import Derived.Test.YtdoogdbjiijifaaGreatDoorE3Paf
namespace Go.Sx
open Go
section
variable {P:Program} {cx:Cx} {σ:Sy} {T:List Nat} {o:Oper} {K:Out->Prop}
theorem Ha(D:Dn):∀(ls:List Hl) (i:Nat),(normH D ls)[i]?=(ls[i]?).map λl=>match l with
  |.blk ty cs=>.blk ty (loose.looseL (norm.normL D cs))
  |.own ty n sz gr f=>.own ty (.a (D.i n)) sz gr f
  |l=>l
 | [],i=>by simp[normH]
 |l :: ls,i=>by
  cases i with
  |zero=>cases l<;>simp[normH,normH.looseL]
  |succ i=>cases l<;>simp[normH,Ha D ls i]
theorem Ji(D:Dn):∀(ls:List Hl),(normH D ls).length=ls.length
 | []=>rfl
 |l :: ls=>by cases l<;>simp[normH,Ji D ls]
def okP:Hl->Prop
 |.blk _ cs=>∀c∈cs,Al c=true
 |.own ..=>True
 |.bld ..=>True
 |.gone=>True
 |_=>False
theorem Fu:∀ {ls:List Hl},Gi ls=true->∀ {i:Nat} {l:Hl},ls[i]?=some l->okP l
 | [],_,i,l,h=>by simp at h
 |l0 :: ls,hp,i,l,h=>by
  cases i with
  |zero =>
   simp at h;subst h;cases l0<;>simp only[Gi,Bool.false_eq_true,Bool.and_eq_true]at hp<;>first|trivial|skip
   exact λc hc=>(Cw _).1 (by simpa[Al] using hp.1) c hc
  |succ i =>
   simp at h;cases l0<;>simp only[Gi,Bool.false_eq_true,Bool.and_eq_true]at hp<;>first|exact Fu hp h|exact Fu hp.2 h
theorem HOk.move{E E':Env}{w:World}{i k:Nat}{l:Hl}(h:HOk E w i l)(ho:okP l)(hI:E'.I=E.I)(hβ:E'.β k=E.β i)(hτ:E'.τ k=E.τ i)(hζ:E'.ζ k=E.ζ i)(hO:∀b,E.O b=some i->E'.O b=some k):HOk E' w k l:=by
 cases l with
 |fresh=>exact ho.elim
 |gone=>trivial
 |blk ty cs =>
  obtain⟨b,C,k1,k2,k3,k4,k5,k6,k7⟩:=h;exact⟨b,C,by rw[hβ];exact k1,hO b k2,k3,k4,λj s v p q=>(k5 j s v p q).plain hI (ho s (List.mem_of_getElem? p)),k6,by rw[hI];exact k7⟩
 |tail ty n sz=>exact ho.elim
 |row ty n sz f=>exact ho.elim
 |own ty n sz gr f =>
  obtain⟨v,m,xs,k1,k2,k3,k4,k5,k6,k7⟩:=h;exact⟨v,m,xs,by rw[hτ];exact k1,by rw[hζ];exact k2,k3,k4,k5,⟨k6.1,by rw[hI];exact k6.2⟩,λb hb=>⟨hO b (k7 b hb).1,by rw[hI];exact (k7 b hb).2⟩⟩
 |bld T e s =>
  obtain⟨b,p,v,k1,k2,k3,k4,k5,k6,k7,k8⟩:=h;exact⟨b,p,v,by rw[hβ];exact k1,hO b k2,k3,k4,k5,k6,by rw[hI];exact k7,λg hg=>⟨hO g (k8 g hg).1,by rw[hI];exact (k8 g hg).2⟩⟩
 |mset F=>exact ho.elim
 |mint es=>exact ho.elim
 |vec ty n g sz f=>exact ho.elim
 |lrec c fr s pd=>exact ho.elim
theorem Aaa(m m':Nat):∀(cs:List SV),H3.resL m m' cs=true↔∀c∈cs,H3 m m' c=true
 | []=>by simp[H3.resL]
 |c :: cs=>by simp[H3.resL,Aaa m m' cs]
theorem Akg(m a:Nat):∀(cs:List SV),reV.reL m a cs=cs.map (reV m a)
 | []=>rfl
 |c :: cs=>by simp[reV.reL,Akg m a cs]
theorem Ahp{m a:Nat}{s:SV}(h1:∀nl n h,s≠.osl nl n h)(h2:∀vs,s≠.tup vs):reV m a s=s:=by
 cases s<;>first|rfl|exact absurd rfl (h1 _ _ _)|exact absurd rfl (h2 _)
theorem Rel.res{E E':Env}{w:World}{m m' a:Nat}{s:SV}{v:Value}(h:Rel E w s v)(hI:E'.I=E.I)(hτ:∀k u,m<=k->k<m'->E.τ k=some u->E'.τ (k-m+a)=some u)(hp:H3 m m' s=true):Rel E' w (reV m a s) v:=by
 induction h with
 |ro h =>
  rename_i s v;have:=Ahp (m:=m) (a:=a) (s:=s) (λ_ _ _ e=>by subst e;cases h) (λ_ e=>by subst e;cases h);rw[this];exact .ro (by rw[hI];exact h)
 |osl ht hk =>
  obtain⟨a0,m0,c0,t1,t2⟩:=hk;simp only[H3,Bool.and_eq_true,Nat.blt_eq]at hp;exact .osl ht ⟨a0,m0,c0,hτ _ _ (Nat.le_of_ble_eq_true hp.1) hp.2 t1,t2⟩
 |tup hl _ ih =>
  simp only[reV,Akg];refine .tup (by simp[hl]) λi s v h1 h2=>?_;rw[List.getElem?_map]at h1;cases e:(‹List SV›)[i]? with
  |none=>rw[e]at h1;cases h1
  |some s' =>
   rw[e]at h1;cases h1;simp only[H3]at hp;exact ih i s' v e h2 ((Aaa m m' _).1 hp s' (List.mem_of_getElem? e))
 |agg hl hh _=>exact (Rel.agg hl hh).plain hI hp
 |ptr hb hv=>simp[H3,Al]at hp
 |gsl hr ht=>simp[H3,Al]at hp
 |mrow hb hm hv=>simp[H3,Al]at hp
 |mptr hb hz hv=>simp[H3,Al]at hp
 |optr hv ho=>simp[H3,Al]at hp
 |mapv hb hv=>simp[H3,Al]at hp
 |bsl hb hn hv=>simp[H3,Al]at hp
 |yv hb hv=>simp[H3,Al]at hp
 |vsl ht hk=>simp[H3,Al]at hp
 |tsl ht hk=>simp[H3,Al]at hp
 |clo hl _=>simp[H3,Al]at hp
 |bnd hl _=>simp[H3,Al]at hp
theorem Lm(hf:Nat->Hl):∀(a b:List Ef),Hw hf (a++b)=Hw (Hw hf a) b
 | [],b=>rfl
 |e :: a,b=>by show Hw (efF hf e) (a++b)=_;rw[Lm];rfl
theorem Ux:∀(ls:List Hl) (a:Nat) (hf:Nat->Hl) (k:Nat),Hw hf (Es a ls) k=if a<=k/\k<a+ls.length then (ls[k-a]?).getD .gone else hf k
 | [],a,hf,k=>by
  rw[if_neg (λh=>by have:=h.1;have h2:k<a+0:=h.2;omega)];rfl
 |l :: ls,a,hf,k=>by
  show Hw (upd hf a l) (Es (a+1) ls) k=_;rw[Ux ls (a+1) (upd hf a l) k]
  by_cases e:k=a
  ·subst e
   rw[if_neg (by omega),if_pos (by simp)];simp[upd]
  ·by_cases e2:a+1<=k/\k<a+1+ls.length
   ·rw[if_pos e2,if_pos (by simp;omega)]
    obtain⟨q,hq⟩:∃q,k-a=q+1:=⟨k-a-1,by omega⟩;rw[hq,show k-(a+1)=q by omega];simp
   ·rw[if_neg e2,if_neg (by simp;omega)]
    simp[upd,e]
theorem M2:∀(ls:List Hl) (a i:Nat) (l:Hl),ls[i]?=some l->Ef.put (a+i) l∈Es a ls
 | [],a,i,l,h=>by simp at h
 |l0 :: ls,a,i,l,h=>by
  cases i with
  |zero=>simp at h;subst h;exact List.mem_cons_self ..
  |succ i=>simp at h;rw[show a+(i+1)=a+1+i by omega];exact List.mem_cons_of_mem _ (M2 ls (a+1) i l h)
theorem Qc{hf:Nat->Hl}:∀(hs:List Nat) (ls:List Hl),ls.length=hs.length->hs.Nodup->
  (∀k,k ∉ hs->Hw hf (D0 hs ls) k=hf k)/\∀(i k:Nat) (l:Hl),hs[i]?=some k->ls[i]?=some l->Hw hf (D0 hs ls) k=l
 | [],ls,hl,_=>by
  have:ls=[]:=List.eq_nil_of_length_eq_zero (by simpa using hl);subst this;exact⟨λk _=>rfl,by simp⟩
 |h :: hs,[],hl,_=>by simp at hl
 |h :: hs,l :: ls,hl,hn=>by
  rw[List.nodup_cons]at hn;obtain⟨a,b⟩:=Qc (hf:=upd hf h l) hs ls (by simpa using hl) hn.2;refine⟨λk hk=>?_,λi k l' h1 h2=>?_⟩
  ·rw[List.mem_cons,not_or]at hk
   show Hw (upd hf h l) (D0 hs ls) k=hf k;rw[a k hk.2];simp[upd,hk.1]
  ·show Hw (upd hf h l) (D0 hs ls) k=l'
   cases i with
   |zero =>
    simp at h1 h2;subst h1 h2;rw[a h hn.1];simp[upd]
   |succ i=>simp at h1 h2;exact b i k l' h1 h2
theorem D2(_hg:True){B:Bs}{N:Nat}{E:Env}{a:Act}{w:World}{ff:Nat->SG}{hf:Nat->Hl}(hgl:E6 B cx.gl)(st:St B N E a w ff hf)(hT:Bh (Ac σ.gm T)):
  ∀(xs:List Operand) (ts:List TypeId) (vs:List SV),(∀x∈xs,∀s∈Cu x,ff s=Ba σ s)->F7 cx σ T xs ts=some vs->A2 E w vs (xs.map a.eval):=by
 intro xs
 induction xs with
 |nil=>intro ts vs _ h;simp[F7]at h;subst h;exact .nil
 |cons x xs ih =>
  intro ts vs hag h;cases ts with
  |nil =>
   simp only[F7]at h
   split at h
   ·rename_i v us h1 h2
    cases h;exact .cons (Aa h1 hgl st (hag x (List.mem_cons_self ..)) hT) (ih [] us (λy hy=>hag y (List.mem_cons_of_mem _ hy)) h2)
   ·cases h
  |cons t ts =>
   simp only[F7]at h
   split at h
   ·rename_i v us h1 h2
    cases h;exact .cons (Jd h1 hgl st (hag x (List.mem_cons_self ..)) hT) (ih ts us (λy hy=>hag y (List.mem_cons_of_mem _ hy)) h2)
   ·cases h
def Qp(P:Program)(gl:List (Nat×SV))(σ:Sy)(T:List Nat)(o:Oper)(f:FuncId)(vs:List SV):Prop :=
 ∀(B:Bs) (N:Nat) (E:Env) (a:Act) (w:World) (ff:Nat->SG) (hf:Nat->Hl),E6 B gl->St B N E a w ff hf->AgS σ ff o->Bh (Ac σ.gm T)->∃us:List Value,A2 E w vs us/\(execOp a.eval o).run P w=.ok (.enter f ⟨us⟩) w
def Dp{α:Type}(hs:List Nat)(M m m':Nat)(F G:Nat->Option α)(k:Nat):Option α :=
 match hs.idxOf? k with
 |some i=>F i
 |none=>if M<=k/\k<M+(m'-m) then F (m+(k-M)) else G k
open Classical in
noncomputable def If(hs:List Nat)(M m:Nat)(F G:Nat->Option Nat)(b:Nat):Option Nat :=
 match F b with
 |some i=>if i<m then hs[i]? else some (M+(i-m))
 |none=>if ∃k∈hs,G b=some k then none else G b
theorem Ady{f:FuncId}{vs:List SV}(hen:Qp P cx.gl σ T o f vs)
  {as:List SV} {hs:List Nat} {ls:List Hl} (hargs:Fg σ.hp (loose.looseL (norm.normL dn vs)) 0=some (as,hs,ls)) (hpl:Gi (normH dn ls)=true)
  {r:SV} {ls':List Hl} (hct:Fh P cx.gl f as (normH dn ls) r ls') (hr:H3 ls.length ls'.length r=true) (hls:Gi ls'=true) (hlen:ls.length<=ls'.length):
  Ap P cx.gl σ T o ⟨reV ls.length (Af σ.hp) r,D0 hs (Bf ls.length ls')++Es (Af σ.hp) (C3 ls.length ls'),hs,[]⟩:=by
 rw[A9,Bo,Ae];intro B N E a w ff hf hg st ag agh hT K' Q hK;have hb:=st.base;obtain⟨n1,n2,n3,n4⟩:=Ge σ.hp _ 0 as hs ls hargs;obtain⟨us,hvs,hrun⟩:=hen B N E a w ff hf hg st ag hT;have hvs':A2 E w (loose.looseL (norm.normL dn vs)) us:=by
  rw[Cd,Cl];exact (hvs.map _ λs v _ h=>h.norm).map _ λs v _ h=>h.loose
 -- the callee's state
 let Ec:Env:=⟨λi=>(hs[i]?).bind E.β,λi=>(hs[i]?).bind E.τ,λb=>(E.O b).bind λh=>hs.idxOf? h,λ_=>none,λi=>(hs[i]?).bind E.ζ,E.I⟩
 let Bc:Bs:=⟨w,λb=>∃h∈hs,E.O b=some h,E.I,Ec.β,Ec.τ,Ec.ζ,[]⟩
 have hbc:Ci Bc Ec w:=by
  refine⟨rfl,rfl,rfl,Nat.le_refl _,λ_ _ _=>rfl,λb o h=>⟨h,rfl⟩,hb.Ibd,λb o h=>.inl h,λb i h=>?_,⟨λ_ _ h=>h,λ_ _ h=>.inl h,λ_ _ h=>h⟩⟩;have h:(E.O b).bind (λh=>hs.idxOf? h)=some i:=h;cases hO:E.O b with
  |none=>rw[hO]at h;cases h
  |some k =>
   rw[hO]at h;simp only[Option.bind_some]at h;have hk:k∈hs:=by
    rw[List.idxOf?_eq_some_iff]at h;obtain⟨hlt,he,_⟩:=h;rw[<-he];exact List.getElem_mem hlt
   exact⟨(hb.Obd b k hO).1,.inr ⟨k,hk,hO⟩⟩
 have hgc:E6 Bc cx.gl:=λg s h=>⟨(hg g s h).1.mono (λb o h=>(hb.I0 b o h).1) (λb o h=>(hb.I0 b o h).2),Nat.lt_of_lt_of_le (hg g s h).2.1 hb.size,
  λ⟨k,_,hO⟩=>by
   rcases (hb.Obd g k hO).2 with h1|h1
   ·exact absurd (hg g s h).2.1 (Nat.not_lt.2 h1)
   ·exact (hg g s h).2.2.1 h1,
  (hg g s h).2.2.2.same (hb.old g (hg g s h).2.1 (hg g s h).2.2.1)⟩
 have hIc:Ec.I=E.I:=rfl;have hidx:∀(i k:Nat),hs[i]?=some k->hs.idxOf? k=some i:=by
  intro i k hk;rw[List.idxOf?_eq_some_iff];obtain⟨hlt,he⟩:=List.getElem?_eq_some_iff.1 hk;refine⟨hlt,by simp[he],λj hj=>?_⟩;have hne:hs[j]≠hs[i]:=List.pairwise_iff_getElem.1 n1 j i (by omega) hlt hj;rw[<-he];simpa using hne
 have hidx':∀(i k:Nat),hs.idxOf? k=some i->hs[i]?=some k:=by
  intro i k hk;rw[List.idxOf?_eq_some_iff]at hk;obtain⟨hlt,he,_⟩:=hk;rw[List.getElem?_eq_getElem hlt,he]
 have hidxn:∀k,k ∉ hs->hs.idxOf? k=none:=by
  intro k hk;cases h:hs.idxOf? k with
  |none=>rfl
  |some i=>exact absurd (List.mem_of_getElem? (hidx' i k h)) hk
 have hltM:∀k∈hs,k<σ.hp.length:=by
  intro k hk;obtain⟨i,hi⟩:=List.mem_iff_getElem?.1 hk;obtain⟨l,m1,_⟩:=n3 i k hi;rw[Ag]at m1;exact (List.getElem?_eq_some_iff.1 m1).1
 have hheap:∀h,HOk Ec w h (Aq (normH dn ls) h):=by
  intro h;simp only[Aq,Ag,Ha];cases hl:ls[h]? with
  |none =>
   have:hs[h]?=none:=by rw[List.getElem?_eq_none_iff]at hl ⊢;omega
   simp only[Option.map_none,Option.getD_none];exact⟨by show (hs[h]?).bind E.β=none;rw[this];rfl,by show (hs[h]?).bind E.τ=none;rw[this];rfl,rfl,by show (hs[h]?).bind E.ζ=none;rw[this];rfl⟩
  |some l =>
   have hlt:h<hs.length:=by rw[<-n2];exact (List.getElem?_eq_some_iff.1 hl).1
   obtain⟨l',m1,m2,m3⟩:=n3 h hs[h] (List.getElem?_eq_getElem hlt);rw[hl]at m2;cases m2;have hk:=st.heap hs[h];rw[agh.rds _ (List.getElem_mem hlt),Bv m1]at hk;have hok:okP ((λl=>match l with|.blk ty cs=>Hl.blk ty (loose.looseL (norm.normL dn cs))|.own ty n sz gr f=>.own ty (.a (dn.i n)) sz gr f|l=>l) l):=Fu hpl (i:=h) (by rw[Ha,hl];rfl);have hnorm:HOk E w hs[h] ((λl=>match l with|.blk ty cs=>Hl.blk ty (loose.looseL (norm.normL dn cs))|.own ty n sz gr f=>.own ty (.a (dn.i n)) sz gr f|l=>l) l):=by
    cases l with
    |blk ty cs =>
     obtain⟨b,C,k1,k2,k3,k4,k5,k6⟩:=hk.blk_inv;have hcells:A2 E w (loose.looseL (norm.normL dn cs)) C.toList:=by
      rw[Cd,Cl];exact (k4.map _ λs v _ h=>h.norm).map _ λs v _ h=>h.loose
     exact⟨b,C,k1,k2,k3,by have:=hcells.1;simpa using this.symm,λi s v p q=>hcells.2 i s v p (by simpa using q),λv hv=>k5 v (by simpa using hv),k6⟩
    |_=>exact hk
   simp only[Option.map_some,Option.getD_some];refine hnorm.move hok hIc ?_ ?_ ?_ λb hb=>?_
   ·show (hs[h]?).bind E.β=_;rw[List.getElem?_eq_getElem hlt];rfl
   ·show (hs[h]?).bind E.τ=_;rw[List.getElem?_eq_getElem hlt];rfl
   ·show (hs[h]?).bind E.ζ=_;rw[List.getElem?_eq_getElem hlt];rfl
   ·show (E.O b).bind (λh=>hs.idxOf? h)=some h
    rw[hb];exact hidx h _ (List.getElem?_eq_getElem hlt)
 have hrel:A2 Ec w as us:=n4 E Ec w _ hIc (λi h hi=>by
  refine⟨?_,?_⟩
  ·show (hs[0+i]?).bind E.β=E.β h
   rw[Nat.zero_add,hi];rfl
  ·show (hs[0+i]?).bind E.τ=E.τ h
   rw[Nat.zero_add,hi];rfl) hvs'
 have hcall:=hct Bc Ec w us rfl (λb o h=>h) (λh hb=>by
  have hb:(hs[h]?).bind E.β≠none\/(hs[h]?).bind E.τ≠none\/(hs[h]?).bind E.ζ≠none:=hb;cases hh:hs[h]? with
  |none=>rw[hh]at hb;simp at hb
  |some k=>rw[Ji,n2];exact (List.getElem?_eq_some_iff.1 hh).1) hbc hgc hheap hrel
 -- the operation
 unfold Oper.wp;rw[hrun];simp only[Oper.upon];refine hcall.mono ?_;rintro e w' ⟨v,Ec',rfl,x2,x3,x4⟩
 -- back in the caller's state
 obtain⟨M,hM⟩:∃M,M=σ.hp.length:=⟨_,rfl⟩;obtain⟨m,hm⟩:∃m,m=ls.length:=⟨_,rfl⟩;rw[<-hM,<-hm]at hK;rw[<-hm]at hlen hr
 let E':Env:=⟨Dp hs M m ls'.length Ec'.β E.β,Dp hs M m ls'.length Ec'.τ E.τ,If hs M m Ec'.O E.O,E.κ,Dp hs M m ls'.length Ec'.ζ E.ζ,Ec'.I⟩
 have hfreshM:∀k,M<=k->k<M+(ls'.length-m)->hf k=.fresh:=by
  intro k h1 h2;have hl:∃l,(ls'.drop m)[k-M]?=some l:=⟨_,List.getElem?_eq_getElem (by simp;omega)⟩;obtain⟨l,hl⟩:=hl;have hmem:=M2 (ls'.drop m) M (k-M) l hl;rw[show M+(k-M)=k by omega]at hmem;have hmem':Ef.put k l∈Es σ.hp.length (List.drop ls.length ls'):=by rw[<-hM,<-hm];exact hmem
  have:=agh.efs _ (List.mem_append.2 (.inr hmem'));simp only[AgE,Aq,Ag]at this;rw[this,List.getElem?_eq_none (by omega)];rfl
 have hfreshE:∀k,M<=k->k<M+(ls'.length-m)->E.β k=none/\E.τ k=none/\E.ζ k=none:=by
  intro k h1 h2;have:=st.heap k;rw[hfreshM k h1 h2]at this;exact⟨this.1,this.2.1,this.2.2.2⟩
 have pick_hs:∀ {α:Type} (F G:Nat->Option α) (i k:Nat),hs[i]?=some k->Dp hs M m ls'.length F G k=F i:=by
  intro α F G i k hk;simp only[Dp,hidx i k hk]
 have pick_new:∀ {α:Type} (F G:Nat->Option α) (i:Nat),m+i<ls'.length->Dp hs M m ls'.length F G (M+i)=F (m+i):=by
  intro α F G i hi;have:(M+i) ∉ hs:=λh=>by have:=hltM _ h;omega
  simp only[Dp,hidxn _ this];rw[if_pos (by omega),Nat.add_sub_cancel_left]
 have pick_oth:∀ {α:Type} (F G:Nat->Option α) (k:Nat),k ∉ hs->¬(M<=k/\k<M+(ls'.length-m))->Dp hs M m ls'.length F G k=G k:=by
  intro α F G k h1 h2;simp only[Dp,hidxn _ h1];rw[if_neg h2]
 have cases3:∀k:Nat,(∃i:Nat,hs[i]?=some k)\/(∃i,m+i<ls'.length/\k=M+i)\/(k ∉ hs/\¬(M<=k/\k<M+(ls'.length-m))):=by
  intro k
  by_cases h1:k∈hs
  ·obtain⟨i,hi⟩:=List.mem_iff_getElem?.1 h1;exact .inl ⟨i,hi⟩
  ·by_cases h2:M<=k/\k<M+(ls'.length-m)
   ·exact .inr (.inl ⟨k-M,by omega,by omega⟩)
   ·exact .inr (.inr ⟨h1,h2⟩)
 have hext:Ext E w E' w':=by
  refine⟨λk b hk=>?_,λk u hk=>?_,λ_ _ h=>h,λk n hk=>?_,λb o h=>(x2.I0 b o h).1,λb o h=>(x2.I0 b o h).2⟩
  ·show Dp hs M m ls'.length Ec'.β E.β k=some b
   rcases cases3 k with⟨i,hi⟩|⟨i,hi,rfl⟩|⟨h1,h2⟩
   ·rw[pick_hs _ _ i k hi];exact x2.β0.β i b (by show (hs[i]?).bind E.β=some b;rw[hi];exact hk)
   ·rw[(hfreshE _ (by omega) (by omega)).1]at hk;cases hk
   ·rw[pick_oth _ _ k h1 h2];exact hk
  ·show Pc u (Dp hs M m ls'.length Ec'.τ E.τ k)
   rcases cases3 k with⟨i,hi⟩|⟨i,hi,rfl⟩|⟨h1,h2⟩
   ·rw[pick_hs _ _ i k hi];exact x2.β0.τ i u (by show (hs[i]?).bind E.τ=some u;rw[hi];exact hk)
   ·rw[(hfreshE _ (by omega) (by omega)).2.1]at hk;cases hk
   ·rw[pick_oth _ _ k h1 h2];exact .inl hk
  ·show Dp hs M m ls'.length Ec'.ζ E.ζ k=some n
   rcases cases3 k with⟨i,hi⟩|⟨i,hi,rfl⟩|⟨h1,h2⟩
   ·rw[pick_hs _ _ i k hi];exact x2.β0.ζ i n (by show (hs[i]?).bind E.ζ=some n;rw[hi];exact hk)
   ·rw[(hfreshE _ (by omega) (by omega)).2.2]at hk;cases hk
   ·rw[pick_oth _ _ k h1 h2];exact hk
 have hInew:∀b o,b<w.heap.size->(¬ ∃h∈hs,E.O b=some h)->Ec'.I b o->E.I b o:=λb o hlt hnX hi=>by
  rcases x2.Inew b o hi with h|h|h
  ·exact h
  ·have:w.heap.size<=b:=h
   omega
  ·exact absurd h hnX
 have hbase:Ci B E' w':=by
  refine⟨x2.os.trans hb.os,x2.tape.trans hb.tape,x2.output.trans hb.output,Nat.le_trans hb.size x2.size,λb hlt hX=>?_,λb o hi=>?_,x2.Ibd,λb o hi=>?_,λb h hO=>?_,hb.β0.ext hext⟩
  ·rw[x2.old b (by have:=hb.size;show b<w.heap.size;omega) ?_]
   ·exact hb.old b hlt hX
   ·rintro⟨k,_,hO⟩
    rcases (hb.Obd b k hO).2 with h|h
    ·omega
    ·exact hX h
  ·obtain⟨i1,i2⟩:=hb.I0 b o hi
   exact⟨(x2.I0 b o i1).1,by rw[(x2.I0 b o i1).2];exact i2⟩
  ·rcases x2.Inew b o hi with h|h|⟨k,_,hO⟩
   ·exact hb.Inew b o h
   ·have:w.heap.size<=b:=h
    have:=hb.size;exact .inr (.inl (by omega))
   ·exact .inr (hb.Obd b k hO).2
  ·have hO:If hs M m Ec'.O E.O b=some h:=hO
   unfold If at hO
   split at hO
   ·rename_i i hi
    obtain⟨o1,o2⟩:=x2.Obd b i hi;refine⟨o1,?_⟩;rcases o2 with o2|⟨k,_,hk⟩
    ·have:w.heap.size<=b:=o2
     have:=hb.size;exact .inl (by omega)
    ·exact (hb.Obd b k hk).2
   ·split at hO
    ·cases hO
    ·obtain⟨o1,o2⟩:=hb.Obd b h hO
     exact⟨Nat.lt_of_lt_of_le o1 x2.size,o2⟩
 have hOback:∀b i:Nat,Ec'.O b=some i->∀k:Nat,(hs[i]?=some k/\i<m\/m<=i/\k=M+(i-m))->E'.O b=some k:=by
  intro b i hi k hk;show If hs M m Ec'.O E.O b=some k;simp only[If,hi];rcases hk with⟨h1,h2⟩|⟨h1,rfl⟩
  ·rw[if_pos h2];exact h1
  ·rw[if_neg (by omega)]
 have n2m:hs.length=m:=by rw[hm,n2]
 obtain⟨f1,f2⟩:=Qc (hf:=hf) hs (ls'.take m) (by simp;omega) n1;refine hK v w' E' hext hbase (λk=>?_) (x4.res rfl (λk u h1 hk h2=>?_) hr)
 ·show HOk E' w' k (Hw hf (D0 hs (ls'.take m)++Es M (ls'.drop m)) k)
  rw[Lm,Ux];rcases cases3 k with⟨i,hi⟩|⟨i,hi,rfl⟩|⟨h1,h2⟩
  ·have hkM:=hltM k (List.mem_of_getElem? hi)
   have hilt:i<hs.length:=(List.getElem?_eq_some_iff.1 hi).1;rw[if_neg (by omega)];obtain⟨l,hl⟩:∃l,ls'[i]?=some l:=⟨_,List.getElem?_eq_getElem (by omega)⟩;rw[f2 i k l hi (by rw[List.getElem?_take,if_pos (by omega)];exact hl)];have h3:=x3 i (by omega);have:Aq ls' i=l:=by simp[Aq,Ag,hl]
   rw[this]at h3;exact h3.move (Fu hls hl) rfl (pick_hs _ _ i k hi) (pick_hs _ _ i k hi) (pick_hs _ _ i k hi) λb hb=>hOback b i hb k (.inl ⟨hi,by omega⟩)
  ·rw[if_pos (by simp;omega)]
   obtain⟨l,hl⟩:∃l,ls'[m+i]?=some l:=⟨_,List.getElem?_eq_getElem hi⟩;rw[Nat.add_sub_cancel_left,List.getElem?_drop,hl];simp only[Option.getD_some];have h3:=x3 (m+i) hi;have:Aq ls' (m+i)=l:=by simp[Aq,Ag,hl]
   rw[this]at h3;exact h3.move (Fu hls hl) rfl (pick_new _ _ i hi) (pick_new _ _ i hi) (pick_new _ _ i hi) λb hb=>hOback b (m+i) hb _ (.inr ⟨by omega,by congr 1;omega⟩)
  ·rw[if_neg (by simp;omega),f1 k h1]
   refine HOk.keep hext (st.heap k) (pick_oth _ _ k h1 h2) (pick_oth _ _ k h1 h2) rfl (pick_oth _ _ k h1 h2) λb hO=>?_;have hnX:¬ ∃h∈hs,E.O b=some h:=by
    rintro⟨k2,hk2,hO2⟩;rw[hO]at hO2;cases hO2;exact h1 hk2
   refine⟨?_,x2.old b (A5 hb hO) hnX,λo hi=>hInew b o (A5 hb hO) hnX hi⟩;show If hs M m Ec'.O E.O b=some k;have hnone:Ec'.O b=none:=by
    cases hi:Ec'.O b with
    |none=>rfl
    |some i =>
     rcases (x2.Obd b i hi).2 with h|h
     ·have h:w.heap.size<=b:=h
      have:=A5 hb hO;omega
     ·exact absurd h hnX
   simp only[If,hnone];rw[if_neg hnX];exact hO
 ·show Dp hs M m ls'.length Ec'.τ E.τ (k-m+M)=some u
  have:=pick_new Ec'.τ E.τ (k-m) (by omega);rw[show k-m+M=M+(k-m) by omega,this,show m+(k-m)=k by omega];exact h2
theorem M5:∀(cs:List SV),hsV.hsL cs=cs.flatMap hsV
 | []=>rfl
 |c :: cs=>by simp[hsV.hsL,M5 cs]
theorem J0(ρ:Nat->Nat):∀(cs:List SV),rnV.rnL ρ cs=cs.map (rnV ρ)
 | []=>rfl
 |c :: cs=>by simp[rnV.rnL,J0 ρ cs]
theorem Ds:∀(cs:List SV),Cb.rowlessL cs=true↔∀c∈cs,Cb c=true
 | []=>by simp[Cb.rowlessL]
 |c :: cs=>by simp[Cb.rowlessL,Ds cs]
theorem J4(g:Hl->Hl):∀(ls:List Hl),Vr g ls=ls.map g
 | []=>rfl
 |l :: ls=>by simp[Vr,J4 g ls]
theorem Ou(D:Dn)(hp:List Hl):∀(hs:List Nat),Uj D hp hs=hs.map λh=>match nth hp h with|some l=>normG D l|none=>.gone
 | []=>rfl
 |h :: hs=>by simp only[Uj,Ou D hp hs,List.map_cons];cases nth hp h<;>rfl
theorem Hd(t:List Nat):∀(l:List Nat),Va t l=true↔∀x∈l,x∈t
 | []=>by simp[Va]
 |x :: l=>by simp[Va,Hd t l,Dv]
theorem Ho:∀(l:List Nat),Po l=true↔l.Nodup
 | []=>by simp[Po]
 |x :: l=>by
  simp only[Po,Bool.and_eq_true,Bool.not_eq_true',List.nodup_cons,Ho l];rw[<-Bool.not_eq_true,Dv]
theorem F9(n:Nat):∀(l:List Nat),Aay n l=true↔∀x∈l,x<n
 | []=>by simp[Aay]
 |x :: l=>by simp[Aay,F9 n l,Nat.blt_eq]
theorem Gd(hs:List Nat):∀(ls:List Hl),L6 hs ls=true↔∀l∈ls,Da l=true/\∀j∈hsH l,j∈hs
 | []=>by simp[L6]
 |l :: ls=>by simp[L6,Gd hs ls,Hd]
theorem N9(n:Nat):∀(ls:List Hl),Ak4 n ls=true↔∀l∈ls,Da l=true/\∀j∈hsH l,j<n
 | []=>by simp[Ak4]
 |l :: ls=>by simp[Ak4,N9 n ls,F9]
theorem Om{hs:List Nat}(hn:hs.Nodup){i k:Nat}(h:hs[i]?=some k):H4 hs k=i:=by
 induction hs generalizing i with
 |nil=>simp at h
 |cons x l ih =>
  rw[List.nodup_cons]at hn;cases i with
  |zero=>simp at h;subst h;simp[H4]
  |succ i =>
   simp at h;have hne:x≠k:=λe=>hn.1 (by rw[e];exact List.mem_of_getElem? h);have hne:(x==k)=false:=by simpa using hne
   simp[H4,hne,ih hn.2 h]
structure Xz(E:Env)(i:Nat)(E':Env)(k:Nat):Prop where
 β:E'.β k=E.β i
 τ:E'.τ k=E.τ i
 ζ:E'.ζ k=E.ζ i
theorem RO.rn{I:Nat->Nat->Prop}{w:World}{s:SV}{v:Value}(ρ:Nat->Nat)(h:RO I w s v):rnV ρ s=s:=by
 induction h with
 | @agg cs vs hl _ ih =>
  simp only[rnV,J0,SV.agg.injEq];refine List.ext_getElem? λi=>?_;rw[List.getElem?_map];cases e:cs[i]? with
  |none=>rfl
  |some s =>
   have hi:i<cs.length:=(List.getElem?_eq_some_iff.1 e).1;simp only[Option.map_some,Option.some.injEq];exact ih i s _ e (List.getElem?_eq_getElem (by omega))
 |_=>rfl
theorem Rel.rn{E E':Env}{w:World}{s:SV}{v:Value}(ρ:Nat->Nat)(h:Rel E w s v)(hI:E'.I=E.I)(hr:Cb s=true)(he:∀k∈hsV s,Xz E k E' (ρ k)):Rel E' w (rnV ρ s) v:=by
 induction h with
 |ro h=>rw[h.rn];exact .ro (by rw[hI];exact h)
 |ptr hb hv=>exact .ptr (by rw[(he _ (by simp[hsV])).β];exact hb) hv
 |gsl hr1 ht =>
  obtain⟨a,m,c,t1,t2⟩:=ht;exact .gsl (by rw[hI];exact hr1) ⟨a,m,c,by rw[(he _ (by simp[hsV])).τ];exact t1,t2⟩
 |osl ht hk =>
  obtain⟨a,m,c,t1,t2⟩:=hk;exact .osl ht ⟨a,m,c,by rw[(he _ (by simp[hsV])).τ];exact t1,t2⟩
 |optr hv ho =>
  obtain⟨a,m,c,sz,t1,t2,t3⟩:=ho;exact .optr hv ⟨a,m,c,sz,by rw[(he _ (by simp[hsV])).τ];exact t1,by rw[(he _ (by simp[hsV])).ζ];exact t2,t3⟩
 |mapv hb hv=>exact .mapv (by rw[(he _ (by simp[hsV])).β];exact hb) hv
 |bsl hb hn hv=>exact .bsl (by rw[(he _ (by simp[hsV])).β];exact hb) hn hv
 |yv hb hv=>exact .yv (by rw[(he _ (by simp[hsV])).β];exact hb) hv
 |vsl ht hk =>
  obtain⟨a,m,c,t1,t2⟩:=hk;exact .vsl ht ⟨a,m,c,by rw[(he _ (by simp[hsV])).τ];exact t1,t2⟩
 |tsl ht hk =>
  obtain⟨a,m,c,sz,t1,t2,t3⟩:=hk;exact .tsl ht ⟨a,m,c,sz,by rw[(he _ (by simp[hsV])).τ];exact t1,by rw[(he _ (by simp[hsV])).ζ];exact t2,t3⟩
 |mrow hb hm hv=>simp[Cb]at hr
 |mptr hb hz hv=>simp[Cb]at hr
 |agg hl _ ih =>
  simp only[rnV,J0];refine .agg (by simp[hl]) λi s v h1 h2=>?_;rw[List.getElem?_map]at h1;obtain⟨s',e,rfl⟩:=Option.map_eq_some_iff.1 h1;have hm:=List.mem_of_getElem? e;exact ih i s' v e h2 ((Ds _).1 (by simpa[Cb] using hr) s' hm) λk hk=>he k (by simp only[hsV,M5,List.mem_flatMap];exact⟨s',hm,hk⟩)
 |tup hl _ ih =>
  simp only[rnV,J0];refine .tup (by simp[hl]) λi s v h1 h2=>?_;rw[List.getElem?_map]at h1;obtain⟨s',e,rfl⟩:=Option.map_eq_some_iff.1 h1;have hm:=List.mem_of_getElem? e;exact ih i s' v e h2 ((Ds _).1 (by simpa[Cb] using hr) s' hm) λk hk=>he k (by simp only[hsV,M5,List.mem_flatMap];exact⟨s',hm,hk⟩)
 |clo hl _ ih =>
  simp only[rnV,J0];refine .clo (by simp[hl]) λi s v h1 h2=>?_;rw[List.getElem?_map]at h1;obtain⟨s',e,rfl⟩:=Option.map_eq_some_iff.1 h1;have hm:=List.mem_of_getElem? e;exact ih i s' v e h2 ((Ds _).1 (by simpa[Cb] using hr) s' hm) λk hk=>he k (by simp only[hsV,M5,List.mem_flatMap];exact⟨s',hm,hk⟩)
 |bnd hl _ ih =>
  simp only[rnV,J0];refine .bnd (by simp[hl]) λi s v h1 h2=>?_;rw[List.getElem?_map]at h1;obtain⟨s',e,rfl⟩:=Option.map_eq_some_iff.1 h1;have hm:=List.mem_of_getElem? e;exact ih i s' v e h2 ((Ds _).1 (by simpa[Cb] using hr) s' hm) λk hk=>he k (by simp only[hsV,M5,List.mem_flatMap];exact⟨s',hm,hk⟩)
theorem Yi{ρ:Nat->Nat}{s:Nat}{v:SV}:∀ {fr:List (Nat×Option SV)},(s,some v)∈rnF ρ fr->∃v',v=rnV ρ v'/\(s,some v')∈fr
 | [],h=>by simp[rnF]at h
 |(_,some u) :: l,h=>by
  simp only[rnF,List.mem_cons,Prod.mk.injEq,Option.some.injEq]at h;rcases h with⟨rfl,rfl⟩|h
  ·exact⟨u,rfl,List.mem_cons_self ..⟩
  ·obtain⟨v',e,h⟩:=Yi h
   exact⟨v',e,List.mem_cons_of_mem _ h⟩
 |(_,none) :: l,h=>by
  simp only[rnF,List.mem_cons,Prod.mk.injEq,reduceCtorEq,and_false,false_or]at h;obtain⟨v',e,h⟩:=Yi h;exact⟨v',e,List.mem_cons_of_mem _ h⟩
theorem Jz{s:Nat}{v:SV}:∀ {fr:List (Nat×Option SV)},I9 fr=true->(s,some v)∈fr->Cb v=true
 | [],_,h=>by simp at h
 |(_,some u) :: l,hr,h=>by
  simp only[I9,Bool.and_eq_true]at hr;simp only[List.mem_cons,Prod.mk.injEq,Option.some.injEq]at h;rcases h with⟨_,rfl⟩|h
  ·exact hr.1
  ·exact Jz hr.2 h
 |(_,none) :: l,hr,h=>by
  simp only[I9]at hr;simp only[List.mem_cons,Prod.mk.injEq,reduceCtorEq,and_false,false_or]at h;exact Jz hr h
theorem Yt{s j:Nat}{v:SV}:∀ {fr:List (Nat×Option SV)},(s,some v)∈fr->j∈hsV v->j∈hsF fr
 | [],h,_=>by simp at h
 |(_,some u) :: l,h,hj=>by
  simp only[List.mem_cons,Prod.mk.injEq,Option.some.injEq]at h;simp only[hsF,List.mem_append];rcases h with⟨_,rfl⟩|h
  ·exact .inl hj
  ·exact .inr (Yt h hj)
 |(_,none) :: l,h,hj=>by
  simp only[List.mem_cons,Prod.mk.injEq,reduceCtorEq,and_false,false_or]at h;simp only[hsF];exact Yt h hj
theorem HOk.rn{E E':Env}{w:World}{i k:Nat}{l:Hl}(ρ:Nat->Nat)(h:HOk E w i l)(hr:Da l=true)(hI:E'.I=E.I)(hs:Xz E i E' k)(hO:∀b,E.O b=some i->E'.O b=some k)(he:∀j∈hsH l,Xz E j E' (ρ j)):HOk E' w k (rnH ρ l):=by
 cases l with
 |fresh=>simp[Da]at hr
 |gone=>trivial
 |row ty n sz f=>simp[Da]at hr
 |blk ty cs =>
  obtain⟨b,C,k1,k2,k3,k4,k5,k6,k7⟩:=h;refine⟨b,C,by rw[hs.β];exact k1,hO b k2,k3,by rw[J0,List.length_map];exact k4,λj s v p q=>?_,k6,by rw[hI];exact k7⟩;rw[J0,List.getElem?_map]at p;obtain⟨s',e,rfl⟩:=Option.map_eq_some_iff.1 p;have hm:=List.mem_of_getElem? e;exact (k5 j s' v e q).rn ρ hI ((Ds _).1 (by simpa[Da] using hr) s' hm) λj hj=>he j (by simp only[hsH,M5,List.mem_flatMap];exact⟨s',hm,hj⟩)
 |tail ty n sz =>
  obtain⟨v,m,xs,k1,k2,k3,k4,k5⟩:=h;exact⟨v,m,xs,by rw[hs.τ];exact k1,k2,k3,k4,λb hb=>⟨hO b (k5 b hb).1,by rw[hI];exact (k5 b hb).2⟩⟩
 |own ty n sz gr f =>
  obtain⟨v,m,xs,k1,k2,k3,k4,k5,k6,k7⟩:=h;exact⟨v,m,xs,by rw[hs.τ];exact k1,by rw[hs.ζ];exact k2,k3,k4,k5,⟨k6.1,by rw[hI];exact k6.2⟩,λb hb=>⟨hO b (k7 b hb).1,by rw[hI];exact (k7 b hb).2⟩⟩
 |bld T e s =>
  obtain⟨b,p,v,k1,k2,k3,k4,k5,k6,k7,k8⟩:=h;exact⟨b,p,v,by rw[hs.β];exact k1,hO b k2,k3,k4,k5,k6,by rw[hI];exact k7,λg hg=>⟨hO g (k8 g hg).1,by rw[hI];exact (k8 g hg).2⟩⟩
 |mset F =>
  obtain⟨b,es,clock,k1,k2,k3,k4,k5,k6⟩:=h;exact⟨b,es,clock,by rw[hs.β];exact k1,hO b k2,k3,k4,k5,by rw[hI];exact k6⟩
 |mint es=>simp[Da]at hr
 |vec ty n g sz f =>
  obtain⟨a,c,m,G,xs,k1,k2,k3,k4,k5,k6,k7⟩:=h;exact⟨a,c,m,G,xs,by rw[hs.τ];exact k1,k2,k3,k4,k5,⟨k6.1,by rw[hI];exact k6.2⟩,λb hb=>⟨hO b (k7 b hb).1,by rw[hI];exact (k7 b hb).2⟩⟩
 |lrec c fr st pd =>
  obtain⟨b,rr,k1,k2,k3,k4,k5,k6⟩:=h;refine⟨b,rr,by rw[hs.β];exact k1,hO b k2,k3,k4,λs v hm=>?_,by rw[hI];exact k6⟩;obtain⟨v',rfl,hm'⟩:=Yi hm;exact⟨(k5 s v' hm').1,(k5 s v' hm').2.rn ρ hI (Jz (by simpa[Da] using hr) hm') λj hj=>he j (Yt hm' hj)⟩
theorem HOk.normG{E:Env}{w:World}{h:Nat}{l:Hl}(hk:HOk E w h l):HOk E w h (normG dn l):=by
 cases l with
 |blk ty cs =>
  obtain⟨b,C,k1,k2,k3,k4,k5,k6⟩:=hk.blk_inv;have hn:A2 E w (norm.normL dn cs) C.toList:=by
   rw[Cl];exact k4.map _ λs v _ h=>h.norm
  exact⟨b,C,k1,k2,k3,by have:=hn.1;simpa using this.symm,λi s v p q=>hn.2 i s v p (by simpa using q),λv hv=>k5 v (by simpa using hv),k6⟩
 |_=>exact hk
theorem Nd{G:List Value->World->(Ending->World->Prop)->Prop}(Gm:∀us w (R R':Ending->World->Prop),(∀e w',R e w'->R' e w')->G us w R->G us w R'){hp:List Hl}{vs0 vs:List SV}(hvs0:vs=loose.looseL (norm.normL dn vs0))
  {hs:List Nat} {ls:List Hl} (hls0:ls=Uj dn hp hs) (n1:hs.Nodup) (hin:∀k∈hsV.hsL vs,k∈hs) (hrow:Cb.rowlessL vs=true) (hltM:∀k∈hs,k<hp.length) (hcl:∀l∈ls,Da l=true/\∀j∈hsH l,j∈hs)
  {r:SV} {ls':List Hl} (hct:Anb G cx.gl (rnV.rnL (H4 hs) vs) (ls.map (rnH (H4 hs))) r ls') (hlen:hs.length<=ls'.length) (hrr:Cb r=true) (hrl:∀k∈hsV r,k<ls'.length) (hok:∀l∈ls',Da l=true/\∀j∈hsH l,j<ls'.length)
  {B:Bs} {E:Env} {w:World} {hf:Nat->Hl} (hg:E6 B cx.gl) (hb:Ci B E w) (hst:∀h,HOk E w h (hf h)) (agh:AgH hp hf ⟨rnV (Cq hs hs.length hp.length) r,D0 hs ((ls'.take hs.length).map (rnH (Cq hs hs.length hp.length)))++Es hp.length ((ls'.drop hs.length).map (rnH (Cq hs hs.length hp.length))),hs,[]⟩) {us:List Value} (hvs:A2 E w vs0 us):
  G us w λe w'=>∃v E',e=.returned v/\Ext E w E' w'/\Ci B E' w'/\(∀h,HOk E' w' h (Hw hf (D0 hs ((ls'.take hs.length).map (rnH (Cq hs hs.length hp.length)))++Es hp.length ((ls'.drop hs.length).map (rnH (Cq hs hs.length hp.length)))) h))/\Rel E' w' (rnV (Cq hs hs.length hp.length) r) v:=by
 have hvs':A2 E w vs us:=by
  rw[hvs0,Cd,Cl];exact (hvs.map _ λs v _ h=>h.norm).map _ λs v _ h=>h.loose
 have n2:ls.length=hs.length:=by rw[hls0,Ou,List.length_map]
 -- the callee's state
 let Ec:Env:=⟨λi=>(hs[i]?).bind E.β,λi=>(hs[i]?).bind E.τ,λb=>(E.O b).bind λh=>hs.idxOf? h,λ_=>none,λi=>(hs[i]?).bind E.ζ,E.I⟩
 let Bc:Bs:=⟨w,λb=>∃h∈hs,E.O b=some h,E.I,Ec.β,Ec.τ,Ec.ζ,[]⟩
 have hbc:Ci Bc Ec w:=by
  refine⟨rfl,rfl,rfl,Nat.le_refl _,λ_ _ _=>rfl,λb o h=>⟨h,rfl⟩,hb.Ibd,λb o h=>.inl h,λb i h=>?_,⟨λ_ _ h=>h,λ_ _ h=>.inl h,λ_ _ h=>h⟩⟩;have h:(E.O b).bind (λh=>hs.idxOf? h)=some i:=h;cases hO:E.O b with
  |none=>rw[hO]at h;cases h
  |some k =>
   rw[hO]at h;simp only[Option.bind_some]at h;have hk:k∈hs:=by
    rw[List.idxOf?_eq_some_iff]at h;obtain⟨hlt,he,_⟩:=h;rw[<-he];exact List.getElem_mem hlt
   exact⟨(hb.Obd b k hO).1,.inr ⟨k,hk,hO⟩⟩
 have hgc:E6 Bc cx.gl:=λg s h=>⟨(hg g s h).1.mono (λb o h=>(hb.I0 b o h).1) (λb o h=>(hb.I0 b o h).2),Nat.lt_of_lt_of_le (hg g s h).2.1 hb.size,
  λ⟨k,_,hO⟩=>by
   rcases (hb.Obd g k hO).2 with h1|h1
   ·exact absurd (hg g s h).2.1 (Nat.not_lt.2 h1)
   ·exact (hg g s h).2.2.1 h1,
  (hg g s h).2.2.2.same (hb.old g (hg g s h).2.1 (hg g s h).2.2.1)⟩
 have hIc:Ec.I=E.I:=rfl;have hidx:∀(i k:Nat),hs[i]?=some k->hs.idxOf? k=some i:=by
  intro i k hk;rw[List.idxOf?_eq_some_iff];obtain⟨hlt,he⟩:=List.getElem?_eq_some_iff.1 hk;refine⟨hlt,by simp[he],λj hj=>?_⟩;have hne:hs[j]≠hs[i]:=List.pairwise_iff_getElem.1 n1 j i (by omega) hlt hj;rw[<-he];simpa using hne
 have hidx':∀(i k:Nat),hs.idxOf? k=some i->hs[i]?=some k:=by
  intro i k hk;rw[List.idxOf?_eq_some_iff]at hk;obtain⟨hlt,he,_⟩:=hk;rw[List.getElem?_eq_getElem hlt,he]
 have hidxn:∀k,k ∉ hs->hs.idxOf? k=none:=by
  intro k hk;cases h:hs.idxOf? k with
  |none=>rfl
  |some i=>exact absurd (List.mem_of_getElem? (hidx' i k h)) hk
 have hsame:∀k∈hs,Xz E k Ec (H4 hs k):=by
  intro k hk;obtain⟨i,hi⟩:=List.mem_iff_getElem?.1 hk;rw[Om n1 hi];exact⟨by show (hs[i]?).bind E.β=_;rw[hi];rfl,by show (hs[i]?).bind E.τ=_;rw[hi];rfl,by show (hs[i]?).bind E.ζ=_;rw[hi];rfl⟩
 have hheap:∀h,HOk Ec w h (Aq (ls.map (rnH (H4 hs))) h):=by
  intro h;simp only[Aq,Ag];rw[List.getElem?_map];cases hl:ls[h]? with
  |none =>
   have:hs[h]?=none:=by rw[List.getElem?_eq_none_iff]at hl ⊢;omega
   simp only[Option.map_none,Option.getD_none];exact⟨by show (hs[h]?).bind E.β=none;rw[this];rfl,by show (hs[h]?).bind E.τ=none;rw[this];rfl,rfl,by show (hs[h]?).bind E.ζ=none;rw[this];rfl⟩
  |some l =>
   have hlt:h<hs.length:=by rw[<-n2];exact (List.getElem?_eq_some_iff.1 hl).1
   have hmem:hs[h]∈hs:=List.getElem_mem hlt;obtain⟨c1,c2⟩:=hcl l (List.mem_of_getElem? hl);have hk:=hst hs[h];rw[agh.rds _ hmem]at hk;have hnl:HOk E w hs[h] l:=by
    rw[hls0,Ou,List.getElem?_map,List.getElem?_eq_getElem hlt]at hl;simp only[Option.map_some,Option.some.injEq]at hl;rw[<-hl];cases hn:nth hp hs[h] with
    |none=>trivial
    |some l0=>rw[Bv hn]at hk;exact hk.normG
   simp only[Option.map_some,Option.getD_some];have hs1:=hsame _ hmem;rw[Om n1 (List.getElem?_eq_getElem hlt)]at hs1;refine hnl.rn (H4 hs) c1 hIc hs1 (λb hb=>?_) λj hj=>hsame j (c2 j hj);show (E.O b).bind (λh=>hs.idxOf? h)=some h;rw[hb];exact hidx h _ (List.getElem?_eq_getElem hlt)
 have hrel:A2 Ec w (rnV.rnL (H4 hs) vs) us:=by
  rw[J0];exact hvs'.map _ λs v hm h=>h.rn (H4 hs) hIc ((Ds _).1 hrow s hm) λk hk=>hsame k (hin k (by rw[M5,List.mem_flatMap];exact⟨s,hm,hk⟩))
 have hcall:=hct Bc Ec w us rfl (λb o h=>h) (λh hb=>by
  have hb:(hs[h]?).bind E.β≠none\/(hs[h]?).bind E.τ≠none\/(hs[h]?).bind E.ζ≠none:=hb;cases hh:hs[h]? with
  |none=>rw[hh]at hb;simp at hb
  |some k=>rw[List.length_map,n2];exact (List.getElem?_eq_some_iff.1 hh).1) hbc hgc hheap hrel
 refine Gm _ _ _ _ ?_ hcall;rintro e w' ⟨v,Ec',rfl,x2,x3,x4⟩
 -- back in the caller's state
 obtain⟨M,hM⟩:∃M,M=hp.length:=⟨_,rfl⟩;obtain⟨m,hm⟩:∃m,m=hs.length:=⟨_,rfl⟩;rw[<-hM,<-hm];rw[<-hm]at hlen
 let E':Env:=⟨Dp hs M m ls'.length Ec'.β E.β,Dp hs M m ls'.length Ec'.τ E.τ,If hs M m Ec'.O E.O,E.κ,Dp hs M m ls'.length Ec'.ζ E.ζ,Ec'.I⟩
 have hfreshM:∀k,M<=k->k<M+(ls'.length-m)->hf k=.fresh:=by
  intro k h1 h2;have hl:∃l,((ls'.drop m).map (rnH (Cq hs m M)))[k-M]?=some l:=⟨_,List.getElem?_eq_getElem (by simp;omega)⟩;obtain⟨l,hl⟩:=hl;have hmem:=M2 ((ls'.drop m).map (rnH (Cq hs m M))) M (k-M) l hl;rw[show M+(k-M)=k by omega]at hmem;have hmem':Ef.put k l∈Es hp.length (List.map (rnH (Cq hs hs.length hp.length)) (List.drop hs.length ls')):=by rw[<-hM,<-hm];exact hmem
  have:=agh.efs _ (List.mem_append.2 (.inr hmem'));simp only[AgE,Aq,Ag]at this;rw[this,List.getElem?_eq_none (by omega)];rfl
 have hfreshE:∀k,M<=k->k<M+(ls'.length-m)->E.β k=none/\E.τ k=none/\E.ζ k=none:=by
  intro k h1 h2;have:=hst k;rw[hfreshM k h1 h2]at this;exact⟨this.1,this.2.1,this.2.2.2⟩
 have pick_hs:∀ {α:Type} (F G:Nat->Option α) (i k:Nat),hs[i]?=some k->Dp hs M m ls'.length F G k=F i:=by
  intro α F G i k hk;simp only[Dp,hidx i k hk]
 have pick_new:∀ {α:Type} (F G:Nat->Option α) (i:Nat),m+i<ls'.length->Dp hs M m ls'.length F G (M+i)=F (m+i):=by
  intro α F G i hi;have:(M+i) ∉ hs:=λh=>by have:=hltM _ h;omega
  simp only[Dp,hidxn _ this];rw[if_pos (by omega),Nat.add_sub_cancel_left]
 have pick_oth:∀ {α:Type} (F G:Nat->Option α) (k:Nat),k ∉ hs->¬(M<=k/\k<M+(ls'.length-m))->Dp hs M m ls'.length F G k=G k:=by
  intro α F G k h1 h2;simp only[Dp,hidxn _ h1];rw[if_neg h2]
 have cases3:∀k:Nat,(∃i:Nat,hs[i]?=some k)\/(∃i,m+i<ls'.length/\k=M+i)\/(k ∉ hs/\¬(M<=k/\k<M+(ls'.length-m))):=by
  intro k
  by_cases h1:k∈hs
  ·obtain⟨i,hi⟩:=List.mem_iff_getElem?.1 h1;exact .inl ⟨i,hi⟩
  ·by_cases h2:M<=k/\k<M+(ls'.length-m)
   ·exact .inr (.inl ⟨k-M,by omega,by omega⟩)
   ·exact .inr (.inr ⟨h1,h2⟩)
 have hext:Ext E w E' w':=by
  refine⟨λk b hk=>?_,λk u hk=>?_,λ_ _ h=>h,λk n hk=>?_,λb o h=>(x2.I0 b o h).1,λb o h=>(x2.I0 b o h).2⟩
  ·show Dp hs M m ls'.length Ec'.β E.β k=some b
   rcases cases3 k with⟨i,hi⟩|⟨i,hi,rfl⟩|⟨h1,h2⟩
   ·rw[pick_hs _ _ i k hi];exact x2.β0.β i b (by show (hs[i]?).bind E.β=some b;rw[hi];exact hk)
   ·rw[(hfreshE _ (by omega) (by omega)).1]at hk;cases hk
   ·rw[pick_oth _ _ k h1 h2];exact hk
  ·show Pc u (Dp hs M m ls'.length Ec'.τ E.τ k)
   rcases cases3 k with⟨i,hi⟩|⟨i,hi,rfl⟩|⟨h1,h2⟩
   ·rw[pick_hs _ _ i k hi];exact x2.β0.τ i u (by show (hs[i]?).bind E.τ=some u;rw[hi];exact hk)
   ·rw[(hfreshE _ (by omega) (by omega)).2.1]at hk;cases hk
   ·rw[pick_oth _ _ k h1 h2];exact .inl hk
  ·show Dp hs M m ls'.length Ec'.ζ E.ζ k=some n
   rcases cases3 k with⟨i,hi⟩|⟨i,hi,rfl⟩|⟨h1,h2⟩
   ·rw[pick_hs _ _ i k hi];exact x2.β0.ζ i n (by show (hs[i]?).bind E.ζ=some n;rw[hi];exact hk)
   ·rw[(hfreshE _ (by omega) (by omega)).2.2]at hk;cases hk
   ·rw[pick_oth _ _ k h1 h2];exact hk
 have hInew:∀b o,b<w.heap.size->(¬ ∃h∈hs,E.O b=some h)->Ec'.I b o->E.I b o:=λb o hlt hnX hi=>by
  rcases x2.Inew b o hi with h|h|h
  ·exact h
  ·have:w.heap.size<=b:=h
   omega
  ·exact absurd h hnX
 have hbase:Ci B E' w':=by
  refine⟨x2.os.trans hb.os,x2.tape.trans hb.tape,x2.output.trans hb.output,Nat.le_trans hb.size x2.size,λb hlt hX=>?_,λb o hi=>?_,x2.Ibd,λb o hi=>?_,λb h hO=>?_,hb.β0.ext hext⟩
  ·rw[x2.old b (by have:=hb.size;show b<w.heap.size;omega) ?_]
   ·exact hb.old b hlt hX
   ·rintro⟨k,_,hO⟩
    rcases (hb.Obd b k hO).2 with h|h
    ·omega
    ·exact hX h
  ·obtain⟨i1,i2⟩:=hb.I0 b o hi
   exact⟨(x2.I0 b o i1).1,by rw[(x2.I0 b o i1).2];exact i2⟩
  ·rcases x2.Inew b o hi with h|h|⟨k,_,hO⟩
   ·exact hb.Inew b o h
   ·have:w.heap.size<=b:=h
    have:=hb.size;exact .inr (.inl (by omega))
   ·exact .inr (hb.Obd b k hO).2
  ·have hO:If hs M m Ec'.O E.O b=some h:=hO
   unfold If at hO
   split at hO
   ·rename_i i hi
    obtain⟨o1,o2⟩:=x2.Obd b i hi;refine⟨o1,?_⟩;rcases o2 with o2|⟨k,_,hk⟩
    ·have:w.heap.size<=b:=o2
     have:=hb.size;exact .inl (by omega)
    ·exact (hb.Obd b k hk).2
   ·split at hO
    ·cases hO
    ·obtain⟨o1,o2⟩:=hb.Obd b h hO
     exact⟨Nat.lt_of_lt_of_le o1 x2.size,o2⟩
 have hOback:∀b i:Nat,Ec'.O b=some i->∀k:Nat,(hs[i]?=some k/\i<m\/m<=i/\k=M+(i-m))->E'.O b=some k:=by
  intro b i hi k hk;show If hs M m Ec'.O E.O b=some k;simp only[If,hi];rcases hk with⟨h1,h2⟩|⟨h1,rfl⟩
  ·rw[if_pos h2];exact h1
  ·rw[if_neg (by omega)]
 have hback:∀j,j<ls'.length->Xz Ec' j E' (Cq hs m M j):=by
  intro j hj
  by_cases hjm:j<m
  ·have hk:hs[j]?=some hs[j]:=List.getElem?_eq_getElem (by omega)
   have e:Cq hs m M j=hs[j]:=by
    unfold Cq;rw[if_pos (by rw[Nat.blt_eq];exact hjm),Ag,hk]
   rw[e];exact⟨pick_hs _ _ j _ hk,pick_hs _ _ j _ hk,pick_hs _ _ j _ hk⟩
  ·have e:Cq hs m M j=M+(j-m):=by
    unfold Cq;rw[if_neg (by rw[Nat.blt_eq];exact hjm)]
   have h1:∀ {α:Type} (F G:Nat->Option α),Dp hs M m ls'.length F G (M+(j-m))=F j:=by
    intro α F G;have:=pick_new F G (j-m) (by omega)
    rwa [show m+(j-m)=j by omega]at this
   rw[e];exact⟨h1 _ _,h1 _ _,h1 _ _⟩
 obtain⟨f1,f2⟩:=Qc (hf:=hf) hs ((ls'.take m).map (rnH (Cq hs m M))) (by simp;omega) n1;refine⟨v,E',rfl,hext,hbase,λk=>?_,x4.rn (Cq hs m M) rfl hrr λk hk=>hback k (hrl k hk)⟩;show HOk E' w' k (Hw hf (D0 hs ((ls'.take m).map (rnH (Cq hs m M)))++Es M ((ls'.drop m).map (rnH (Cq hs m M)))) k);rw[Lm,Ux];rcases cases3 k with⟨i,hi⟩|⟨i,hi,rfl⟩|⟨h1,h2⟩
 ·have hkM:=hltM k (List.mem_of_getElem? hi)
  have hilt:i<hs.length:=(List.getElem?_eq_some_iff.1 hi).1;rw[if_neg (by omega)];obtain⟨l,hl⟩:∃l,ls'[i]?=some l:=⟨_,List.getElem?_eq_getElem (by omega)⟩;rw[f2 i k (rnH (Cq hs m M) l) hi (by rw[List.getElem?_map,List.getElem?_take,if_pos (by omega),hl];rfl)];have h3:=x3 i (by omega);have:Aq ls' i=l:=by simp[Aq,Ag,hl]
  rw[this]at h3;obtain⟨o1,o2⟩:=hok l (List.mem_of_getElem? hl);have hs1:=hback i (by omega);have e:Cq hs m M i=k:=by
   unfold Cq;rw[if_pos (by rw[Nat.blt_eq];omega),Ag,hi]
  rw[e]at hs1;exact h3.rn (Cq hs m M) o1 rfl hs1 (λb hb=>hOback b i hb k (.inl ⟨hi,by omega⟩)) λj hj=>hback j (o2 j hj)
 ·rw[if_pos (by simp;omega)]
  obtain⟨l,hl⟩:∃l,ls'[m+i]?=some l:=⟨_,List.getElem?_eq_getElem hi⟩;rw[Nat.add_sub_cancel_left,List.getElem?_map,List.getElem?_drop,hl];simp only[Option.map_some,Option.getD_some];have h3:=x3 (m+i) hi;have:Aq ls' (m+i)=l:=by simp[Aq,Ag,hl]
  rw[this]at h3;obtain⟨o1,o2⟩:=hok l (List.mem_of_getElem? hl);have hs1:=hback (m+i) hi;have e:Cq hs m M (m+i)=M+i:=by
   unfold Cq;rw[if_neg (by rw[Nat.blt_eq];omega),Nat.add_sub_cancel_left]
  rw[e]at hs1;exact h3.rn (Cq hs m M) o1 rfl hs1 (λb hb=>hOback b (m+i) hb _ (.inr ⟨by omega,by congr 1;omega⟩)) λj hj=>hback j (o2 j hj)
 ·rw[if_neg (by simp;omega),f1 k h1]
  refine HOk.keep hext (hst k) (pick_oth _ _ k h1 h2) (pick_oth _ _ k h1 h2) rfl (pick_oth _ _ k h1 h2) λb hO=>?_;have hnX:¬ ∃h∈hs,E.O b=some h:=by
   rintro⟨k2,hk2,hO2⟩;rw[hO]at hO2;cases hO2;exact h1 hk2
  refine⟨?_,x2.old b (A5 hb hO) hnX,λo hi=>hInew b o (A5 hb hO) hnX hi⟩;show If hs M m Ec'.O E.O b=some k;have hnone:Ec'.O b=none:=by
   cases hi:Ec'.O b with
   |none=>rfl
   |some i =>
    rcases (x2.Obd b i hi).2 with h|h
    ·have h:w.heap.size<=b:=h
     have:=A5 hb hO;omega
    ·exact absurd h hnX
  simp only[If,hnone];rw[if_neg hnX];exact hO
theorem Aa4{f:FuncId}{vs0 vs:List SV}(hen:Qp P cx.gl σ T o f vs0)(hvs0:vs=loose.looseL (norm.normL dn vs0))
  {hs:List Nat} {ls:List Hl} (hls0:ls=Uj dn σ.hp hs) (n1:hs.Nodup) (hin:∀k∈hsV.hsL vs,k∈hs) (hrow:Cb.rowlessL vs=true) (hltM:∀k∈hs,k<σ.hp.length) (hcl:∀l∈ls,Da l=true/\∀j∈hsH l,j∈hs)
  {r:SV} {ls':List Hl} (hct:Fh P cx.gl f (rnV.rnL (H4 hs) vs) (Vr (rnH (H4 hs)) ls) r ls') (hlen:hs.length<=ls'.length) (hrr:Cb r=true) (hrl:∀k∈hsV r,k<ls'.length) (hok:∀l∈ls',Da l=true/\∀j∈hsH l,j<ls'.length):
  Ap P cx.gl σ T o ⟨rnV (Cq hs hs.length (Af σ.hp)) r,D0 hs (Vr (rnH (Cq hs hs.length (Af σ.hp))) (Bf hs.length ls'))++Es (Af σ.hp) (Vr (rnH (Cq hs hs.length (Af σ.hp))) (C3 hs.length ls')),hs,[]⟩:=by
 rw[A9,Bo,Ae,J4,J4];rw[J4]at hct;intro B N E a w ff hf hg st ag agh hT K' Q hK;obtain⟨us,hvs,hrun⟩:=hen B N E a w ff hf hg st ag hT;have:=Nd (cx:=cx) (G:=λus w R=>Calls P f ⟨us⟩ w R) (λus w R R' h hc=>hc.mono h) hvs0 hls0 n1 hin hrow hltM hcl hct hlen hrr hrl hok hg st.base st.heap agh hvs;unfold Oper.wp;rw[hrun];simp only[Oper.upon];refine Calls.mono this ?_;rintro e w' ⟨v,E',rfl,h1,h2,h3,h4⟩;exact hK v w' E' h1 h2 h3 h4
theorem Abx{f:FuncId}{vs:List SV}{c:Call}(ho:o.op=.call c)(hcal:c.callee=.value (.func f))(hv:F7 cx σ T c.args.toList c.argTypes.toList=some vs)(hgood:Vg P f):Qp P cx.gl σ T o f vs:=by
 intro B N E a w ff hf hg st ag hT;refine⟨c.args.toList.map a.eval,D2 trivial hg st hT c.args.toList c.argTypes.toList vs (λx hx=>Ah ag (by simp only[ho,Op.operands,Call.operands];simp;exact .inr (by simpa using hx))) hv,?_⟩;obtain⟨fn,body,g1,g2,g3⟩:=hgood;have hargsE:(⟨c.args.toList.map a.eval⟩:Array Value)=c.args.map a.eval:=by apply Array.ext';simp
 have g4:¬fn.name="runtime.NumGoroutine":=by simpa using g3
 rw[hargsE];simp[execOp,ho,resolve,hcal,Act.eval,Deferred.ofValue,invoke,callFunc,g1,g2,g4]
theorem Re{f:FuncId}{vs cs:List SV}{c:Call}{s:Nat}(ho:o.op=.call c)(hcal:c.callee=.value (.tmp s))(hv:F7 cx σ T c.args.toList c.argTypes.toList=some vs)
  (hs:rd cx σ T (.tmp s)=some (.clo f cs)\/cs=[]/\rd cx σ T (.tmp s)=some (.fn f)) (hgood:Vg P f):Qp P cx.gl σ T o f (vs++cs):=by
 intro B N E a w ff hf hg st ag hT;have hvs:=D2 trivial hg st hT c.args.toList c.argTypes.toList vs (λx hx=>Ah ag (by simp only[ho,Op.operands,Call.operands];simp;exact .inr (by simpa using hx))) hv;have hag:∀t∈Cu (.tmp s),ff t=Ba σ t:=Ah ag (by simp[ho,Op.operands,Call.operands,hcal]);have hval:∃cv:List Value,a.eval (.tmp s)=.func (.func f) #[] ⟨cv⟩/\A2 E w cs cv:=by
  rcases hs with hs|⟨rfl,hs⟩
  ·exact (Aa hs hg st hag hT).clo_inv
  ·exact⟨[],(Aa hs hg st hag hT).fn_inv,rfl,by simp⟩
 obtain⟨cv,he,hcv⟩:=hval;refine⟨c.args.toList.map a.eval++cv,?_,?_⟩
 ·refine⟨by simp[hvs.1,hcv.1],λi s' v h1 h2=>?_⟩
  have hl:=hvs.1
  by_cases hlt:i<vs.length
  ·rw[List.getElem?_append_left hlt]at h1
   rw[List.getElem?_append_left (by omega)]at h2;exact hvs.2 i s' v h1 h2
  ·rw[List.getElem?_append_right (by omega)]at h1
   rw[List.getElem?_append_right (by omega),<-hl]at h2;exact hcv.2 _ s' v h1 h2
 obtain⟨fn,body,g1,g2,g3⟩:=hgood;have hargsE:(⟨c.args.toList.map a.eval++cv⟩:Array Value)=c.args.map a.eval++(⟨cv⟩:Array Value):=by apply Array.ext';simp
 have g4:¬fn.name="runtime.NumGoroutine":=by simpa using g3
 rw[hargsE];simp[execOp,ho,resolve,hcal,he,Deferred.ofValue,invoke,callFunc,g1,g2,g4]
theorem Aej{f:FuncId}{vs us:List SV}{c:Call}{s:Nat}(ho:o.op=.call c)(hcal:c.callee=.value (.tmp s))(hv:F7 cx σ T c.args.toList c.argTypes.toList=some vs)
  (hs:rd cx σ T (.tmp s)=some (.bnd f us)) (hgood:Vg P f):Qp P cx.gl σ T o f (us++vs):=by
 intro B N E a w ff hf hg st ag hT;have hvs:=D2 trivial hg st hT c.args.toList c.argTypes.toList vs (λx hx=>Ah ag (by simp only[ho,Op.operands,Call.operands];simp;exact .inr (by simpa using hx))) hv;have hag:∀t∈Cu (.tmp s),ff t=Ba σ t:=Ah ag (by simp[ho,Op.operands,Call.operands,hcal]);obtain⟨cv,he,hcv⟩:=(Aa hs hg st hag hT).bnd_inv;refine⟨cv++c.args.toList.map a.eval,?_,?_⟩
 ·refine⟨by simp[hvs.1,hcv.1],λi s' v h1 h2=>?_⟩
  have hl:=hcv.1
  by_cases hlt:i<us.length
  ·rw[List.getElem?_append_left hlt]at h1
   rw[List.getElem?_append_left (by omega)]at h2;exact hcv.2 i s' v h1 h2
  ·rw[List.getElem?_append_right (by omega)]at h1
   rw[List.getElem?_append_right (by omega),<-hl]at h2;exact hvs.2 _ s' v h1 h2
 obtain⟨fn,body,g1,g2,g3⟩:=hgood;have hargsE:(⟨cv++c.args.toList.map a.eval⟩:Array Value)=(⟨cv⟩:Array Value)++c.args.map a.eval:=by apply Array.ext';simp
 have g4:¬fn.name="runtime.NumGoroutine":=by simpa using g3
 rw[hargsE];simp[execOp,ho,resolve,hcal,he,Deferred.ofValue,invoke,callFunc,g1,g2,g4]
theorem T1{f:FuncId}{fi cs:Array Operand}(ho:o.op=.makeFunc (.func f) fi cs)(hfi:fi.toList=[]){vs:List SV}(hv:F7 cx σ T cs.toList []=some vs):Ap P cx.gl σ T o ⟨.clo f vs,[],[],[]⟩:=by
 have hfi:fi=#[]:=by apply Array.ext';simpa using hfi
 subst hfi;intro B N E a w ff hf hg st ag _ hT;have hr:=D2 trivial hg st hT cs.toList [] vs (λx hx=>Ah ag (by simp[ho,Op.operands];simpa using hx)) hv;refine Ad st (v:=.func (.func f) #[] (cs.map a.eval)) ?_ rfl ?_
 ·simp[execOp,ho,Instr.makeFunc]
 ·have:cs.map a.eval=⟨cs.toList.map a.eval⟩:=by apply Array.ext';simp
  rw[this];exact .clo hr.1 hr.2
theorem Vt{f:FuncId}{fi cs:Array Operand}(ho:o.op=.makeFunc (.func f) fi cs)(hcs:F7 cx σ T cs.toList []=some []){us:List SV}(hv:F7 cx σ T fi.toList []=some us):Ap P cx.gl σ T o ⟨.bnd f us,[],[],[]⟩:=by
 intro B N E a w ff hf hg st ag _ hT;have hc:=D2 trivial hg st hT cs.toList [] [] (λx hx=>Ah ag (by simp[ho,Op.operands];exact .inr (by simpa using hx))) hcs;have hcn:cs=#[]:=by have:=hc.1;exact Array.eq_empty_of_size_eq_zero (by simpa using this.symm)
 subst hcn;have hr:=D2 trivial hg st hT fi.toList [] us (λx hx=>Ah ag (by simp[ho,Op.operands];simpa using hx)) hv;refine Ad st (v:=.func (.func f) (fi.map a.eval) #[]) ?_ rfl ?_
 ·simp[execOp,ho,Instr.makeFunc]
 ·have:fi.map a.eval=⟨fi.toList.map a.eval⟩:=by apply Array.ext';simp
  rw[this];exact .bnd hr.1 hr.2
theorem E9(hc:A1 P cx)(htab:Em P cx.gl cx.tab){f:FuncId}{vs:List SV}(hen:Vg P f->Qp P cx.gl σ T o f vs)(h:I4 cx σ T f vs K):
  ∃r,K r/\Ap P cx.gl σ T o r:=by
 unfold I4 at h
 split at h
 ·rename_i sp h1
  have hlook:=htab.look h1;have e:Uq (f+1000000)=f:=by
   unfold Uq;rw[if_neg (by rw[Nat.blt_eq];omega),Nat.add_sub_cancel]
  rw[e]at hlook;unfold Fp at h;rw[hc.D]at h;obtain⟨vs1,hvs1⟩:∃x,x=loose.looseL (norm.normL dn vs):=⟨_,rfl⟩;simp only[<-hvs1]at h;obtain⟨hs1,hhs1⟩:∃x,x=Tk σ.hp σ.hp (Lt [] (hsV.hsL vs1)):=⟨_,rfl⟩;simp only[<-hhs1]at h;obtain⟨ls1,hls1⟩:∃x,x=Uj dn σ.hp hs1:=⟨_,rfl⟩;simp only[<-hls1]at h
  split at h
  ·rename_i h3
   simp only[Bool.and_eq_true]at h3;obtain⟨⟨⟨⟨⟨c1,c2⟩,c3⟩,c4⟩,c5⟩,c6⟩:=h3;obtain⟨hgood,hfn⟩:=hlook;obtain⟨r,ls',⟨k1,k2⟩,hct⟩:=hfn _ _ _ h;simp only[Bool.and_eq_true]at k1;obtain⟨⟨⟨k3,k4⟩,k5⟩,k6⟩:=k1;have k3:=Nat.le_of_ble_eq_true k3;simp only[Ae hs1,Ae ls']at k3 k5 k6 k2;rw[Ae]at c4;have:=Aa4 (o:=o) (T:=T) (σ:=σ) (cx:=cx) (hen hgood) hvs1 hls1 ((Ho _).1 c1) ((Hd _ _).1 c2) c3 ((F9 _ _).1 c4) ((Gd _ _).1 c5) hct k3 k4 ((F9 _ _).1 k5) ((N9 _ _).1 k6);exact⟨_,k2,this⟩
  ·exact h.elim
 ·rw[hc.D]at h
  split at h
  ·rename_i sp as hs ls h1 h2
   split at h
   ·rename_i h3
    simp only[Bool.and_eq_true]at h3;obtain⟨⟨h3,_⟩,h4⟩:=h3;have hlook:=htab.look h1;have e:Uq f=f:=by unfold Uq;rw[if_pos h4]
    rw[e]at hlook;obtain⟨hgood,hfn⟩:=hlook;obtain⟨r,ls',⟨k1,k2,k3,k4⟩,hct⟩:=hfn _ _ _ h;have k3:=Nat.le_of_ble_eq_true k3;simp only[Ae ls,Ae ls']at k1 k3 k4;exact⟨_,k4,Ady (hen hgood) h2 h3 hct k1 k2 k3⟩
   ·exact h.elim
  ·exact h.elim
end
end Go.Sx
