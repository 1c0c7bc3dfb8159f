/- Lemmas of the proof; no conditions. -/
import Derived.Test.YtdoogdbjiijifaaGreatDoorE9Pao
namespace Go.Sx
open Go
section
variable {P:Program} {ops:Array Oper} {gl:List (Nat×SV)} {B:Bs} {N:Nat} {σ aL:Sy} {rs:List Rec}
theorem mem_ready{listed:Array Bool}{i:Nat}:i∈Region.ready .any ops listed↔∃o,ops[i]?=some o/\listed.getD i true=false/\∀x∈Dk o.after.toList,listed.getD x false=true:=by
 unfold Region.ready;simp only[List.mem_filter,List.mem_range,QE,XL];constructor
 .rintro⟨h1,h2,h3⟩
  have ho:ops[i]?=some ops[i]:=by simp[h1]
  rw[ho]at h3;refine⟨_,ho,h2,λx hx=>?_⟩;obtain⟨e,he,hb,rfl⟩:=Uq hx;simp only[QQ,XD,Array.all_eq_true_iff_forall_mem]at h3;have:=h3 e (by simpa using he);simpa[hb] using this
 .rintro⟨o,ho,h2,h3⟩
  refine⟨(Array.getElem?_eq_some_iff.1 ho).1,h2,?_⟩;rw[ho];simp only[QQ,XD,Array.all_eq_true_iff_forall_mem];intro e he;cases hb:Region.binds .any e with
  |false=>simp
  |true=>simp only[YK,UB];exact h3 _ (Vy (by simpa using he) hb)
def left(n:Nat)(listed:Array Bool):Nat:=((List.range n).filter λi=>!listed.getD i true).length
theorem Am1{n i:Nat}{listed:Array Bool}(hi:i<n)(hs:listed.size=n)(h:listed.getD i true=false):left n (listed.setIfInBounds i true)+1=left n listed:=by
 have bM:∀j,(listed.setIfInBounds i true).getD j true=if j=i then true else listed.getD j true:=by
  intro j;simp only[XI]
  by_cases e:i=j
  .subst e;rw[QC rfl,ZZ (by omega)];rfl
  .rw[QA (λh=>e h.symm),ZP e]
 unfold left;have key:∀(l:List Nat),l.Nodup->i∈l->(l.filter λj=>!(listed.setIfInBounds i true).getD j true).length+1=(l.filter λj=>!listed.getD j true).length:=by
  intro l
  induction l with
  |nil=>intro _ h;cases h
  |cons j l ih =>
   intro hn hm;rw[List.nodup_cons]at hn;simp only[UQ,bM j]
   by_cases e:j=i
   .subst e
    rw[QC rfl];simp only[YK,XE,if_false,h,Bool.not_false,if_true,QH];congr 2;refine List.filter_congr λk hk=>?_;rw[bM k,QA (λe=>hn.1 (by rw[<-e];exact hk))]
   .rw[QA e]
    have:=ih hn.2 (by rcases List.mem_cons.1 hm with h|h;exact absurd h.symm e;exact h)
    split
    .simp only[QH];omega
    .exact this
 exact key _ List.nodup_range (by simpa using hi)
theorem Aju{n:Nat}{listed:Array Bool}(h:left n listed=0):∀i,i<n->listed.getD i true=true:=by
 intro i hi;unfold left at h;have:=XH h;rw[List.filter_eq_nil_iff]at this;have:=this i (by simpa using hi);simpa using this
theorem Agl(gE:Ho ops.toList 0=true){listed:Array Bool}(hs:listed.size=ops.size)(h:Region.ready .any ops listed=[]):∀i,i<ops.size->listed.getD i true=true:=by
 intro i
 induction i using Nat.strongRecOn with
 |_ i ih =>
  intro hi;cases hl:listed.getD i true with
  |true=>rfl
  |false =>
   have hm:i∈Region.ready .any ops listed:=by
    refine mem_ready.2 ⟨ops[i],by simp[hi],hl,λx hx=>?_⟩;have aC:=L9 gE (j:=i) (o:=ops[i]) (by simp[hi]) x hx;have:=ih x (by omega) (by omega);rw[XI]at this ⊢;rw[ZR (by omega)]at this ⊢;simpa using this
   rw[h]at hm;cases hm
def mO(listed:Array Bool):Nat->Bool:=λi=>listed.getD i false
theorem Alr{n:Nat}{listed:Array Bool}(hs:listed.size=n){i:Nat}(hi:i<n):mO listed i=listed.getD i true:=by
 simp[mO,ZR (show i<listed.size by omega)]
theorem Anr{f g:Nat->SG}{a b:Nat->Hl}(h:(f,a)=(g,b)):f=g/\a=b:=by
 simp only[Prod.mk.injEq]at h;exact h
theorem Amb{B:Bs}{E:Env}{a:Act}{w:World}{ff:Nat->SG}{hf:Nat->Hl}(st:St B N E a w ff hf)(d:Option Nat)(v:Value)(g:SG)
  (hg:∀cs s,g=some (cs,s)->(Bk cs->Rel E w s v)/\(¬Bk cs->v=undef)):St B N E (a.put d v) w (Hh N ff d g) hf:=by
 cases d with
 |none =>
  have:Hh N ff none g=ff:=by funext s;simp[Hh]
  rw[this];exact st
 |some k =>
  by_cases hk:k<N
  .have:=st.put (some k) v g hg (λj hj=>by cases hj;exact hk)
   have e:CE ff (some k) g=Hh N ff (some k) g:=by
    funext s;simp only[CE,aU,Hh,Option.some.injEq]
    by_cases e:s=k
    .subst e;simp[hk]
    .rw[QA e,QA (λh=>e h.1.symm)]
   rw[<-e];exact this
  .rw[Ahb (by rw[st.size];omega)]
   have e:Hh N ff (some k) g=ff:=by
    funext s;simp only[Hh,Option.some.injEq];rw[QA (λh=>hk (by rw[h.1];exact h.2))]
   rw[e];exact st
theorem Akz{ro:Option Nat}{nn:Nat}(h:Ctx P ops gl N σ aL rs)(hg:Fm B gl){Q:Exit->Act->World->Prop}(dx:∀E a w,St B N E a w (Cs N aL.gm (ops.toList.zip rs) (Bf σ,Aq σ.hp)).1 (Cs N aL.gm (ops.toList.zip rs) (Bf σ,Aq σ.hp)).2->Q .normal a w):
  ∀(fuel:Nat) (listed:Array Bool) (E:Env) (a:Act) (w:World),listed.size=ops.size->left ops.size listed=fuel->Down ops (mO listed)->St B N E a w (xS N ops σ aL rs (mO listed)).1 (xS N ops σ aL rs (mO listed)).2->wpAnyIn (Fr ro) nn P .any ops Q fuel listed a w:=by
 have done:∀(listed:Array Bool) (E:Env) (a:Act) (w:World),listed.size=ops.size->(∀i,i<ops.size->listed.getD i true=true)->St B N E a w (xS N ops σ aL rs (mO listed)).1 (xS N ops σ aL rs (mO listed)).2->Q .normal a w:=by
  intro listed E a w hs kB st;refine dx E a w ?_;have:xS N ops σ aL rs (mO listed)=Cs N aL.gm (ops.toList.zip rs) (Bf σ,Aq σ.hp):=by
   refine Yp _ _ _ λj hj=>?_;simp only[XF];have hj:j<ops.size:=by simp at hj;omega
   rw[Alr hs hj];exact kB j hj
  rw[<-this];exact st
 intro fuel
 induction fuel with
 |zero =>
  intro listed E a w hs hl hd st;have kB:=Aju hl;refine⟨?_,done listed E a w hs kB st⟩;rw[List.eq_nil_iff_forall_not_mem];intro i hi;obtain⟨o,ho,h1,_⟩:=mem_ready.1 hi;rw[kB i (Array.getElem?_eq_some_iff.1 ho).1]at h1;cases h1
 |succ fuel ih =>
  intro listed E a w hs hl hd st;refine⟨λh0=>done listed E a w hs (Agl h.um hs h0) st,λi hi=>?_⟩;obtain⟨o,ho,h1,h2⟩:=mem_ready.1 hi;have fA:i<ops.size:=(Array.getElem?_eq_some_iff.1 ho).1;have oa:mO listed i=false:=by rw[Alr hs fA];exact h1
  have he:∀x∈Dk o.after.toList,mO listed x=true:=h2;have hr:rs[i]?=some (rs[i]'(by rw[h.len];exact fA)):=QB _
  generalize rs[i]'(by rw[h.len];exact fA)=rec at hr
  obtain⟨qD,w1,w2,w3,w4⟩:=h.step i o rec ho hr;obtain⟨f1,f2⟩:=Anr w3;have JV:∀s∈looks ops.toList o,(xS N ops σ aL rs (mO listed)).1 s=Bf qD s:=λs cD=>by
   rw[ib h hd ho hr oa he cD,f1]
  have dw:∀j want s,o.guard=some (j,want)->(nth ops.toList j).bind (·.dst)=some s->(xS N ops σ aL rs (mO listed)).1 s=Bf qD s:=λj want s fQ hb =>
   JV s (by unfold looks;exact List.mem_append.2 (.inr (Xc fQ hb)))
  -- vg has a42 behind it
  have bC:(listed.setIfInBounds i true).size=ops.size:=by simp[hs]
  have uH:∀j,mO (listed.setIfInBounds i true) j=if j=i then true else mO listed j:=by
   intro j;simp only[mO,XI]
   by_cases e:i=j
   .subst e;rw[QC rfl,ZZ (by omega)];rfl
   .rw[QA (λh=>e h.symm),ZP e]
  have hd':Down ops (mO (listed.setIfInBounds i true)):=by
   refine⟨λk ok gE hk x hx=>?_⟩;rw[uH]
   split
   .rfl
   .rw[uH]at hk
    split at hk
    .rename_i e
     subst e;rw[ho]at gE;cases gE;exact he x hx
    .exact hd.down k ok gE hk x hx
  have hx:=Aim h hd ho hr oa he (S':=mO (listed.setIfInBounds i true)) (by rw[uH,QC rfl]) (λj hj=>by rw[uH,QA hj]);have IZ:left ops.size (listed.setIfInBounds i true)=fuel:=by have:=Am1 fA hs h1;omega
  have next:∀(E':Env) (a':Act) (w':World),St B N E' a' w' (Eg N aL.gm o rec (xS N ops σ aL rs (mO listed))).1 (Eg N aL.gm o rec (xS N ops σ aL rs (mO listed))).2->wpAnyIn (Fr ro) nn P .any ops Q fuel (listed.setIfInBounds i true) a' w':=by
   intro E' a' w' rC;refine ih _ E' a' w' bC IZ hd' ?_;rw[hx];exact rC
  unfold wpOpIn;rw[ho];simp only;cases rec with
  |none =>
   have hw:=O8 (ops:=ops) rfl w4 st dw;rw[QA (by simp[hw])];exact⟨λ_ _=>trivial,next E _ w (Amb st _ _ none (by simp))⟩
  |some p =>
   obtain⟨dQ,T,r⟩:=p;obtain⟨q1,q2,q3,q4,q5⟩:=w4;obtain⟨g1,g2,g3,g4,g5,_,_,g8⟩:=Hm (ops:=ops) rfl q1 w1;have sN:=g8 B N E a w _ _ st dw
   by_cases hT:Bk (Ac dQ.gm T)
   .rw[QC (sN.2 hT)]
    have fC:EL dQ (xS N ops σ aL rs (mO listed)).1 o:=λs cD=>by
     rw[g2];exact JV s (by unfold looks;exact List.mem_append.2 (.inl (Up cD)))
    have ad6:CB dQ.hp (xS N ops σ aL rs (mO listed)).2 r:=by
     rw[g3];refine⟨λk hk=>?_,λx hx=>?_,λe he'=>?_⟩
     .have:=(S7 h hd ho hr oa he (ρ:=(k,none)) (.inl (by simp[CK,tQ,Xe];exact hk))).2 rfl
      rw[this,<-f2]
     .obtain⟨hh,off,n⟩:=x
      have:=(S7 h hd ho hr oa he (ρ:=(hh,some (off,n))) (.inl (by simp[CK,tQ,Xe];exact⟨hh,off,n,hx,rfl,rfl,rfl⟩))).1;rw[<-f2]at this;intro ty cs cY;simp only at cY this ⊢;rcases this with e|⟨ty',c1,c2,e1,e2,e3,e4⟩
      .exact⟨cs,by rw[e,cY],rfl,λ_ _ _=>rfl⟩
      .rw[cY]at e2
       cases e2;exact⟨c1,e1,e3.symm,λj j1 j2=>(e4 j ⟨j1,j2⟩).symm⟩
     .have dN:∀(es:List Ef),e∈es->match e with|.set k off vs=>(k,some (off,Ai vs))∈iH es|.put k _=>(k,none)∈iH es:=by
       intro es
       induction es with
       |nil=>intro h;cases h
       |cons e' es ih =>
        intro hm;rcases List.mem_cons.1 hm with rfl|hm
        .cases e<;>simp[iH]
        .have:=ih hm
         cases e<;>cases e'<;>simp only[iH,XT]at this ⊢<;>exact Or.inr this
      have hm:=dN r.fR he';cases e with
      |set k off vs =>
       simp only at hm;have:=(S7 h hd ho hr oa he (ρ:=(k,some (off,Ai vs))) (.inr hm)).1;rw[<-f2]at this;intro ty cs cY;rcases this with e|⟨ty',c1,c2,e1,e2,e3,e4⟩
       .exact⟨cs,by rw[e,cY],rfl⟩
       .rw[cY]at e2
        cases e2;exact⟨c1,e1,e3.symm⟩
      |put k hl =>
       simp only at hm;have:=(S7 h hd ho hr oa he (ρ:=(k,none)) (.inr hm)).2 rfl;show (xS N ops σ aL rs (mO listed)).2 k=Aq qD.hp k;rw[this,<-f2]
    refine q2 B N E a w _ _ hg st fC ad6 hT _ _ _ _ λv w' E' x1 x2 x3 x4=>?_;refine next E' _ w' ?_
    simp only[Eg,q5];exact Amb (st.step x1 x2 x3) _ _ _ (by rintro cs s ⟨⟩;exact⟨λ_=>x4,λh=>absurd hT h⟩)
   .rw[QA (λh=>hT (sN.1 h))]
    refine⟨λ_ _=>trivial,next E _ w ?_⟩;have zj:r.fR=[]:=by
     rcases q4.1 with h|h|h
     .subst h;exact absurd trivial hT
     .exact h
     .exact absurd h hT
    simp only[Eg,q5,zj,H8];exact Amb st _ _ _ (by rintro cs s ⟨⟩;exact⟨λh=>absurd h hT,λ_=>rfl⟩)
theorem SC(hm:P.follows .mixedOrders=true):Rd P:=by
 intro ro nn gl id ops B N σ aL rs hg II zk ab1 Q E a w hs hQ;obtain⟨r1,r2,r3,r4,r5,r6,r7⟩:=Alt II hs.wf N hs.len;have ad0:Ctx P ops gl N σ aL rs:=⟨by rw[r1];simp,λi o rec ho hr=>r7 i o rec (by rw[QZ];exact ho) hr,zk,ab1⟩;obtain⟨e1,e2⟩:=Anr r6;refine wpIn_region_any hm ?_;have aA:=hs.st.base;have eY:St B N E a { w with drawn:=w.drawn+1 } (Bf σ) (Aq σ.hp) :=
  hs.st.step (E':=E) (w':={ w with drawn:=w.drawn+1 }) ⟨λ_ _ h=>h,λ_ _ h=>.inl h,λ_ _ h=>h,λ_ _ h=>h,λ_ _ h=>h,λ_ _ _=>rfl⟩ ⟨aA.os,aA.tape,aA.output,aA.size,aA.dY,aA.I0,aA.dP,aA.cE,aA.cS,aA.cO⟩
   λk=>bR.keep (E:=E) (w:=w) (E':=E) (w':={ w with drawn:=w.drawn+1 }) ⟨λ_ _ h=>h,λ_ _ h=>.inl h,λ_ _ h=>h,λ_ _ h=>h,λ_ _ h=>h,λ_ _ _=>rfl⟩ (hs.st.heap k) rfl rfl rfl rfl λb hO=>⟨hO,rfl,λ_ h=>h⟩
 refine Akz (B:=B) ad0 hg (λE' a' w' rC=>?_) ops.size _ E a _ (by simp) ?_ ⟨λk o _ hk=>?_⟩ ?_
 .refine hQ E' a' w' ⟨?_,r3,r2,λk hk=>XQ (hs.ge k hk) r4⟩
  rw[e1,e2];exact rC
 .unfold left
  rw[List.filter_eq_self.2]
  .simp
  .intro i hi;simp at hi;simp[hi]
 .exfalso
  simp only[mO,XI,Array.getElem?_replicate]at hk
  split at hk<;>simp at hk
 .have:xS N ops σ aL rs (mO (Array.replicate ops.size false))=(Bf σ,Aq σ.hp):=by
   refine Kr _ _ _ λj _=>?_;simp only[mO,XI,Array.getElem?_replicate]
   split<;>rfl
  rw[this];exact eY
end
theorem Al2{P:Program}{D:Dn}{tt:List (Nat×TI)}{eG:List (Nat×aB)}{gl:List (Nat×SV)}{eqs:List TypeId}{gh:List (Nat×List Gh)}:Wn P ⟨D,tt,eG,gl,eqs,gh,[],[]⟩:=⟨λ_ h=>(by cases h),λ_ h=>(by cases h)⟩
theorem Bq{P:Program}(hm:P.follows .mixedOrders=true){tt:List (Nat×TI)}{eG:List (Nat×aB)}{gl:List (Nat×SV)}{eqs:List TypeId}{gh:List (Nat×List Gh)}(hc:A4 P ⟨dn,tt,eG,gl,eqs,gh,[],[]⟩)(bU:E8 P gl eG){f:FuncId}{fn:Func}(hf:P.funcs[f]?=some fn)(eD:(fn.name=="runtime.NumGoroutine")=false)(hb:fn.body.isSome=true){sp:aB}
  (h:∀(as:List SV) (ls:List Hl) (K:SV->List Hl->Prop),sp dn as ls K->∃r aK,K r aK/\∀D,D=dn->body ⟨D,tt,eG,gl,eqs,gh,[],[]⟩ fn as ls λr' dS=>Fin r' r dS aK):Ap P gl f sp:=by
 refine⟨?_,λas ls K hs=>?_⟩
 .obtain⟨c,hc⟩:=Option.isSome_iff_exists.1 hb
  exact⟨fn,c,hf,hc,eD⟩
 .obtain⟨r,aK,hK,gQ⟩:=h as ls K hs
  exact⟨r,aK,hK,S5 (SC hm) hc bU Al2 hf (gQ dn rfl)⟩
theorem Bu{P:Program}(hm:P.follows .mixedOrders=true){tt:List (Nat×TI)}{eG:List (Nat×aB)}{gl:List (Nat×SV)}{eqs:List TypeId}{gh:List (Nat×List Gh)}(hc:A4 P ⟨dn,tt,eG,gl,eqs,gh,[],[]⟩)(bU:E8 P gl eG){f:FuncId}{fn:Func}(hf:P.funcs[f]?=some fn)(eD:(fn.name=="runtime.NumGoroutine")=false)(hb:fn.body.isSome=true){sp:aB}
  (h:∀(as:List SV) (ls:List Hl) (K:SV->List Hl->Prop),sp dn as ls K->∃r aK,K r aK/\∀D,D=dn->PY ⟨D,tt,eG,gl,eqs,gh,[],[]⟩ fn as ls λr' dS=>Fin r' r dS aK):Ap P gl f sp:=by
 refine⟨?_,λas ls K hs=>?_⟩
 .obtain⟨c,hc⟩:=Option.isSome_iff_exists.1 hb
  exact⟨fn,c,hf,hc,eD⟩
 .obtain⟨r,aK,hK,gQ⟩:=h as ls K hs
  exact⟨r,aK,hK,J8 (SC hm) hc bU Al2 hf (gQ dn rfl)⟩
theorem RC{P:Program}(hm:P.follows .mixedOrders=true){tt:List (Nat×TI)}{eG:List (Nat×aB)}{gl:List (Nat×SV)}{eqs:List TypeId}{gh:List (Nat×List Gh)}{its:List (Nat×(aB->aB))}{yl:List aB}(hc:A4 P ⟨dn,tt,eG,gl,eqs,gh,its,yl⟩)(bU:E8 P gl eG)(fT:Wn P ⟨dn,tt,eG,gl,eqs,gh,its,yl⟩){f:FuncId}{fn:Func}(hf:P.funcs[f]?=some fn)(eD:(fn.name=="runtime.NumGoroutine")=false)(hb:fn.body.isSome=true){sp:aB}
  (h:∀(as:List SV) (ls:List Hl) (K:SV->List Hl->Prop),sp dn as ls K->∃r aK,K r aK/\∀D,D=dn->PY ⟨D,tt,eG,gl,eqs,gh,its,yl⟩ fn as ls λr' dS=>Fin r' r dS aK):Ap P gl f sp:=by
 refine⟨?_,λas ls K hs=>?_⟩
 .obtain⟨c,hc⟩:=Option.isSome_iff_exists.1 hb
  exact⟨fn,c,hf,hc,eD⟩
 .obtain⟨r,aK,hK,gQ⟩:=h as ls K hs
  exact⟨r,aK,hK,J8 (SC hm) hc bU fT hf (gQ dn rfl)⟩
theorem KK{P:Program}(hm:P.follows .mixedOrders=true){tt:List (Nat×TI)}{eG:List (Nat×aB)}{gl:List (Nat×SV)}{eqs:List TypeId}{gh:List (Nat×List Gh)}(hc:A4 P ⟨dn,tt,eG,gl,eqs,gh,[],[]⟩)(bU:E8 P gl eG){f:FuncId}{fn:Func}(hf:P.funcs[f]?=some fn)(eD:(fn.name=="runtime.NumGoroutine")=false){l:Nat}{pre c rest:Code}(hb:fn.body=some (.seq pre (.scope c)))(hl:findLabel c l=some rest){sp:aB}
  (h:∀(as:List SV) (ls:List Hl) (K:SV->List Hl->Prop),sp dn as ls K->∃r aK,K r aK/\∀D,D=dn->uu ⟨D,tt,eG,gl,eqs,gh,[],[]⟩ fn pre c l rest as ls λr' dS=>Fin r' r dS aK):Ap P gl f sp:=by
 refine⟨⟨fn,_,hf,hb,eD⟩,λas ls K hs=>?_⟩;obtain⟨r,aK,hK,gQ⟩:=h as ls K hs;exact⟨r,aK,hK,Q7 (SC hm) hc bU Al2 hf hb hl (gQ dn rfl)⟩
theorem Ae{P:Program}{gl:List (Nat×SV)}:E8 P gl []:=by intro x h;cases h
theorem Aa{P:Program}{gl:List (Nat×SV)}{eG:List (Nat×aB)}{f:Nat}{sp:aB}(h:Ap P gl f sp)(ht:E8 P gl eG)(hf:Nat.blt f 1000000=true:=by decide):E8 P gl ((f,sp) :: eG):=by
 intro x hx;rcases List.mem_cons.1 hx with rfl|hx
 .show Ap P gl (Vj f) sp
  rw[Vj,QC hf];exact h
 .exact ht x hx
theorem Al{P:Program}{gl:List (Nat×SV)}{eG:List (Nat×aB)}{f:Nat}{sp:aB}(h:Ap P gl f sp)(ht:E8 P gl eG):E8 P gl ((f+1000000,sp) :: eG):=by
 intro x hx;rcases List.mem_cons.1 hx with rfl|hx
 .show Ap P gl (Vj (f+1000000)) sp
  have e:Vj (f+1000000)=f:=by
   unfold Vj;rw[QA (by rw[ZG];omega),Nat.add_sub_cancel]
  rw[e];exact h
 .exact ht x hx
theorem br{D:Dn}(hD:D=dn){b:BT}{A B:Prop}(ht:b.den=true->A)(hf:b.den=false->B):(D.b b=true->A)/\(D.b b=false->B):=by subst hD;exact⟨ht,hf⟩
theorem By{s s':SV}{ls aK:List Hl}(h:s=s')(hl:ls=aK):Fin s s' ls aK:=by subst h hl;exact⟨aM.refl s,cL.refl ls,QK _⟩
theorem int_eq{D:Dn}(hD:D=dn){k:IntKind}{t:ST}{n:Int}(h:t.den=n):SV.int k (.a (D.i t))=.int k (.a n):=by subst hD h;rfl
theorem pb{D:Dn}(hD:D=dn){t:BT}{b:Bool}(h:t.den=b):SV.bool (.a (D.b t))=.bool (.a b):=by subst hD h;rfl
theorem Bj{D:Dn}(hD:D=dn){k:IntKind}{t:ST}{n:Int}{ls:List Hl}(h:t.den=n):Fin (.int k (.a (D.i t))) (.int k (.a n)) ls ls:=By (int_eq hD h) rfl
theorem Ar{D:Dn}(hD:D=dn){t:BT}{b:Bool}{ls:List Hl}(h:t.den=b):Fin (.bool (.a (D.b t))) (.bool (.a b)) ls ls:=By (pb hD h) rfl
@[simp] theorem aA3 (n:Int):(ST.a n).den=n:=rfl
@[simp] theorem aA2 (n:Int):(ST.l n).den=n:=rfl
@[simp] theorem PJ (s:List UInt8):(ST.len s).den=s.length:=rfl
@[simp] theorem den_add (k:IntKind) (x y:ST):(ST.bin .add k x y).den=k.wrap (x.den+y.den):=rfl
@[simp] theorem PF (k:IntKind) (x y:ST):(ST.bin .sub k x y).den=k.wrap (x.den-y.den):=rfl
@[simp] theorem den_mul (k:IntKind) (x y:ST):(ST.bin .mul k x y).den=k.wrap (x.den * y.den):=rfl
@[simp] theorem PI (k:IntKind) (x y:ST):(ST.bin .quo k x y).den=k.wrap (x.den.tdiv y.den):=rfl
@[simp] theorem PG (k:IntKind) (x y:ST):(ST.bin .rem k x y).den=x.den.tmod y.den:=rfl
@[simp] theorem ag7 (k:IntKind) (x:ST):(ST.cv k x).den=k.wrap x.den:=rfl
@[simp] theorem ah3 (b:Bool):(BT.a b).den=b:=rfl
@[simp] theorem ah2 (b:Bool):(BT.l b).den=b:=rfl
@[simp] theorem LK (x y:ST):(BT.cmp .lss x y).den=true↔x.den<y.den:=by simp[BT.den,B6]
@[simp] theorem DJ (x y:ST):(BT.cmp .lss x y).den=false↔y.den<=x.den:=by simp[BT.den,B6]
@[simp] theorem LL (x y:ST):(BT.cmp .leq x y).den=true↔x.den<=y.den:=by simp[BT.den,B6]
@[simp] theorem DK (x y:ST):(BT.cmp .leq x y).den=false↔y.den<x.den:=by simp[BT.den,B6]
@[simp] theorem LM (x y:ST):(BT.cmp .gtr x y).den=true↔y.den<x.den:=by simp[BT.den,B6]
@[simp] theorem DL (x y:ST):(BT.cmp .gtr x y).den=false↔x.den<=y.den:=by simp[BT.den,B6]
@[simp] theorem LN (x y:ST):(BT.cmp .geq x y).den=true↔y.den<=x.den:=by simp[BT.den,B6]
@[simp] theorem DM (x y:ST):(BT.cmp .geq x y).den=false↔x.den<y.den:=by simp[BT.den,B6]
@[simp] theorem LO (x y:ST):(BT.cmp .eql x y).den=true↔x.den=y.den:=by simp[BT.den,B6]
@[simp] theorem DN (x y:ST):(BT.cmp .eql x y).den=false↔x.den≠y.den:=by simp[BT.den,B6]
@[simp] theorem LJ (x y:ST):(BT.cmp .neq x y).den=true↔x.den≠y.den:=by simp[BT.den,B6]
@[simp] theorem DI (x y:ST):(BT.cmp .neq x y).den=false↔x.den=y.den:=by simp[BT.den,B6]
@[simp] theorem LI (x:BT):(BT.not x).den=true↔x.den=false:=by simp[BT.den]
@[simp] theorem DH (x:BT):(BT.not x).den=false↔x.den=true:=by simp[BT.den]
@[simp] theorem LQ (x y:BT):(BT.and x y).den=true↔x.den=true/\y.den=true:=by simp[BT.den]
@[simp] theorem DP (x y:BT):(BT.and x y).den=false↔(x.den=true->y.den=false):=by simp only[BT.den];cases x.den<;>simp
@[simp] theorem PK (x y:BT):(BT.or x y).den=true↔(x.den=false->y.den=true):=by simp only[BT.den];cases x.den<;>simp
@[simp] theorem LH (x y:BT):(BT.or x y).den=false↔x.den=false/\y.den=false:=by simp[BT.den]
@[simp] theorem LP (x y:BT):(BT.beq x y).den=true↔x.den=y.den:=by simp[BT.den]
@[simp] theorem DO (x y:BT):(BT.beq x y).den=false↔x.den=!y.den:=by simp only[BT.den];cases x.den<;>cases y.den<;>simp
@[simp] theorem LG (s t:List UInt8):(BT.seq s t).den=true↔s=t:=by simp[BT.den]
@[simp] theorem DG (s t:List UInt8):(BT.seq s t).den=false↔s≠t:=by simp[BT.den]
theorem wrap64{n:Int}(h1:-9223372036854775808<=n)(h2:n<=9223372036854775807):IntKind.i64.wrap n=n:=IntWalk.i64_in _ ⟨by omega,by omega⟩
open Go Go.RowKit
theorem Bi{P:Program}{gl:List (Nat×SV)}{f:FuncId}{as:List SV}{r:SV}
  (h:∀(E:Env) (B:Bs) (w:World) (aX:List Value),Fm B gl->Cr B E w->B.w0=w->A8 E w as aX->Calls P f ⟨aX⟩ w λe w'=>∃v,e=.returned v/\(∀E,Rel E w' r v)/\Below w.heap.size w w'):Fb P gl f as [] r []:=by
 intro B E w aX oA hI dT hb hg hh hr;refine (h E B w aX hg hb oA hr).mono λe w' hq=>?_;obtain⟨v,rfl,hv,hB⟩:=hq;refine⟨v,E,rfl,?_,λh aC=>absurd aC (by simp),hv E⟩;refine⟨hB.os.trans hb.os,hB.tape.trans hb.tape,hB.output.trans hb.output,XP hb.size hB.size,λb aC hx=>?_,λb o h0=>?_,λb o hi=>XQ (hb.dP b o hi) hB.size,hb.cE,λb h ho=>⟨XQ (hb.cS b h ho).1 hB.size,(hb.cS b h ho).2⟩,hb.cO⟩
 .rw[hB.block b (by rw[<-oA];exact aC)];exact hb.dY b aC hx
 .have h1:=hb.I0 b o h0
  refine⟨h1.1,?_⟩;rw[hB.cell (p:=⟨b,o,none⟩) (hb.dP b o h1.1)];exact h1.2
theorem Cy{E:Env}{w:World}{s:List UInt8}{v:Value}(h:Rel E w (.str s) v):v=.string (bytes s):=by
 cases h with
 |ro h=>cases h with
  |str h=>exact h
theorem Om{E:Env}{w:World}{k:IntKind}{t:ST}{v:Value}(h:Rel E w (.int k t) v):v=.int k t.den:=by
 cases h with
 |ro h=>cases h with
  |int h=>rw[h]
theorem On{E:Env}{w:World}{a:SV}{aX:List Value}(h:A8 E w [a] aX):∃v,aX=[v]/\Rel E w a v:=by
 match aX,h with
 | [v],h=>exact⟨v,rfl,h.2 0 a v rfl rfl⟩
 | [],h=>exact absurd h.1 (by simp)
 |_ :: _ :: _,h=>exact absurd h.1 (by simp)
theorem D8{E:Env}{w:World}{a b:SV}{aX:List Value}(h:A8 E w [a,b] aX):∃v u,aX=[v,u]/\Rel E w a v/\Rel E w b u:=by
 match aX,h with
 | [v,u],h=>exact⟨v,u,rfl,h.2 0 a v rfl rfl,h.2 1 b u rfl rfl⟩
 | [],h=>exact absurd h.1 (by simp)
 | [_],h=>exact absurd h.1 (by simp)
 |_ :: _ :: _ :: _,h=>exact absurd h.1 (by simp)
def jS(cs dI:List SV):Prop:=∀(E:Env) (w:World) (vs:List Value),A8 E w cs vs->A8 E w dI vs
theorem jS.nil:jS [] []:=λ_ _ _ h=>h
theorem jS.refl(cs:List SV):jS cs cs:=λ_ _ _ h=>h
theorem jS.cons{c c':SV}{cs dI:List SV}(h:aM c c')(hs:jS cs dI):jS (c :: cs) (c' :: dI):=by
 intro E w vs hr
 match vs,hr with
 |v :: vs,hr =>
  exact .cons (h E w v (hr.2 0 c v rfl rfl)) (hs E w vs ⟨by have:=hr.1;simpa using this,λi s v a b=>hr.2 (i+1) s v (by simpa using a) (by simpa using b)⟩)
 | [],hr=>exact absurd hr.1 (by simp)
theorem aM.agg{cs dI:List SV}(h:jS cs dI):aM (.agg cs) (.agg dI):=by
 intro E w v hr;obtain⟨vs,rfl,hl⟩:=hr.jB;exact (h E w vs hl).agg
theorem aM.aI{cs dI:List SV}(h:jS cs dI):aM (.aI cs) (.aI dI):=by
 intro E w v hr;obtain⟨vs,rfl,hl⟩:=hr.vK;have:=h E w vs hl;exact .aI this.1 this.2
theorem aM.sl{nl dJ:BT}{n n':ST}{sz:Nat}{f f':Nat->List SV}(h1:nl.den=dJ.den)(h2:n.den=n'.den)(h:∀i:Nat,(i:Int)<n.den->f i=f' i):aM (.sl nl n sz f) (.sl dJ n' sz f'):=by
 intro E w v hr;have hr:=hr.bF;rcases hr.bF with⟨rfl,e0,e1⟩|⟨a,m,cap,g,rfl,e1,e2,e3,PC,e4,e5,AJ,e6,e7⟩
 .exact .ro (.slnil (by rw[<-h1];exact e1) (by rw[<-h2];exact e0))
 .have hf:∀i,i<m->f' i=f i:=λi hi=>(h i (by omega)).symm
  exact .ro (.sl g (by rw[<-h1];exact e1) (by rw[<-h2];exact e2) e3 PC e4 (λi hi=>by rw[hf i hi];exact e5 i hi) AJ e6 (λi j s hi hs=>by rw[hf i hi]at hs;exact e7 i j s hi hs))
theorem cL.cons{l l':Hl}{ls aK:List Hl}(h:∀(k:Nat) (E:Env) (w:World),bR E w k l->bR E w k l')(hs:∀(k i:Nat) (E:Env) (w:World),bR E w k (Aq ls i)->bR E w k (Aq aK i)):∀(k i:Nat) (E:Env) (w:World),bR E w k (Aq (l :: ls) i)->bR E w k (Aq (l' :: aK) i)
 |k,0,E,w,hk=>h k E w hk
 |k,i+1,E,w,hk=>hs k i E w hk
theorem Ct{ls aK:List Hl}(hs:∀(k i:Nat) (E:Env) (w:World),bR E w k (Aq ls i)->bR E w k (Aq aK i)):cL ls aK:=λh E w hk=>hs h h E w hk
theorem Ao{ty:TypeId}{cs dI:List SV}(h:jS cs dI)(k:Nat)(E:Env)(w:World)(hk:bR E w k (.aF ty cs)):bR E w k (.aF ty dI):=by
 obtain⟨b,C,k1,k2,k3,k4,k5,k6⟩:=hk.eF;have hn:=h E w _ k4;exact⟨b,C,k1,k2,k3,by have:=hn.1;simpa using this.symm,λi s v p q=>hn.2 i s v p (by simpa using q),λv hv=>k5 v (by simpa using hv),k6⟩
theorem Anq{s s':SV}{ty:TypeId}{cs dI:List SV}(h:aM s s')(hc:jS cs dI):Fin s s' [.aF ty cs] [.aF ty dI] :=
 ⟨h,Ct (cL.cons (Ao hc) λ_ _ _ _ h=>h),QK _⟩
theorem Cm{s s':SV}(h:aM s s'):Fin s s' [] []:=⟨h,cL.refl [],QK _⟩
theorem X9{nl dJ:BT}{n n':ST}{h:Nat}(h1:nl.den=dJ.den)(h2:n.den=n'.den):aM (.bV nl n h) (.bV dJ n' h):=by
 intro E w v hr;obtain⟨⟨a,m,c,t1,t2,t3⟩,a0,m0,c0,q1,q2,q3⟩:=hr.iY;exact .bV ⟨a,m,c,t1,by rw[<-h2];exact t2,by rw[<-h1];exact t3⟩ ⟨a0,m0,c0,q1,by rw[<-h2];exact q2,by rw[<-h2];exact q3⟩
theorem Zx{ty:TypeId}{n n':ST}{sz:Nat}{gr:Bool}{f f':Nat->List SV}(h2:n.den=n'.den)(h:∀i:Nat,(i:Int)<n.den->f i=f' i)(k:Nat)(E:Env)(w:World)(hk:bR E w k (.own ty n sz gr f)):bR E w k (.own ty n' sz gr f'):=by
 obtain⟨v,m,xs,k1,kz,k2,k3,k4,k5,k6⟩:=hk;have hf:∀i,i<m->f' i=f i:=λi hi=>(h i (by omega)).symm;exact⟨v,m,xs,k1,kz,k2,by rw[<-h2];exact k3,k4,⟨λi hi=>by rw[hf i hi];exact k5.1 i hi,λi j s u hi hs=>by rw[hf i hi]at hs;exact k5.2 i j s u hi hs⟩,k6⟩
theorem RG{nl dJ:BT}{n n' g g':ST}{h:Nat}(h1:nl.den=dJ.den)(h2:n.den=n'.den)(h3:g.den=g'.den):aM (.cR nl n g h) (.cR dJ n' g' h):=by
 intro E w v hr;obtain⟨⟨a,m,c,t1,t2,t3⟩,a0,m0,c0,q1,q2,q3⟩:=hr.kH;exact .cR ⟨a,m,c,t1,by rw[<-h2];exact t2,by rw[<-h1];exact t3⟩ ⟨a0,m0,c0,q1,by rw[<-h3];exact q2,by rw[<-h3,<-h2];exact q3⟩
theorem It{ty:TypeId}{n n' g g':ST}{sz:Nat}{f f':Nat->List SV}(h2:n.den=n'.den)(h3:g.den=g'.den)(h:∀i:Nat,(i:Int)<n.den->f i=f' i)(k:Nat)(E:Env)(w:World)(hk:bR E w k (.vec ty n g sz f)):bR E w k (.vec ty n' g' sz f'):=by
 obtain⟨a,c,m,G,xs,k1,k2,k3,kg,k4,k5,k6⟩:=hk;have hf:∀i,i<m->f' i=f i:=λi hi=>(h i (by omega)).symm;exact⟨a,c,m,G,xs,k1,k2,by rw[<-h2];exact k3,by rw[<-h3];exact kg,k4,⟨λi hi=>by rw[hf i hi];exact k5.1 i hi,λi j s u hi hs=>by rw[hf i hi]at hs;exact k5.2 i j s u hi hs⟩,k6⟩
theorem SD{s s':SV}{ty:TypeId}{n n':ST}{sz:Nat}{gr:Bool}{f f':Nat->List SV}(h:aM s s')(h2:n.den=n'.den)(hf:∀i:Nat,(i:Int)<n.den->f i=f' i):Fin s s' [.own ty n sz gr f] [.own ty n' sz gr f'] :=
 ⟨h,Ct (cL.cons (Zx h2 hf) λ_ _ _ _ h=>h),QK _⟩
theorem Af{k:IntKind}{t t':ST}(h:t.den=t'.den):aM (.int k t) (.int k t'):=by
 intro E w v hr;rw[hr.aT];exact .int h.symm
theorem Dh{t t':BT}(h:t.den=t'.den):aM (.bool t) (.bool t'):=by
 intro E w v hr;rw[hr.bJ];exact .bool h.symm
set_option maxRecDepth 10000
structure Nc(r:SV):Prop where
 h:∀(E E':Env) (w:World) (v:Value),Rel E w r v->Rel E' w r v
def wq(sp:aB):aB:=λD xs ls K=>∃(nl:BT) (n g n0 g0:ST) (sz:Nat) (ty:TypeId) (f:Nat->List SV),xs=[.cR nl n g 0]/\ls=[.vec ty n0 g0 sz f]/\n.den=n0.den/\g.den=g0.den/\
 sp D [.sl nl n sz f] [] λr _ls'=>(Nc r/\K r [.vec ty n0 g0 sz f])\/(An r=true/\∀g',PV g' g0.den->K r [.vec ty (.l 0) (.a g') sz f])
theorem Yq{P:Program}{gl:List (Nat×SV)}{f:FuncId}{sp:aB}(h:Ap P gl f sp):Ap P gl f (wq sp):=by
 refine⟨h.1,λas ls K hs=>?_⟩;obtain⟨nl,n,g,n0,g0,sz,ty,fr,rfl,rfl,hn,tm,hs⟩:=hs;obtain⟨r,aK,hk,hc⟩:=h.2 _ _ _ hs
 -- tH call TR
 have core:∀(B:Bs) (E:Env) (w:World) (aX:List Value),B.w0=w->(∀b o,E.I b o->B.I0 b o)->Cr B E w->Fm B gl->bR E w 0 (.vec ty n0 g0 sz fr)->A8 E w [.cR nl n g 0] aX->
   ∃(a:Option Addr) (c m G:Nat) (xs:List Value),E.τ 0=some (.slice a G c)/\Cu w false ty sz (.slice a m c) m xs/\n0.den=(m:Int)/\g0.den=(G:Int)/\(∀u,u∈xs->u.oneCell'=true)/\F9 E w fr m sz xs/\(∀b,(Value.slice a m c).ownBlock=some b->E.O b=some 0/\∀o,¬E.I b o)/\
   Calls P f ⟨aX⟩ w λe w'=>∃(v1:Value) (E':Env),e=.returned v1/\Rel E' w' r v1/\w'.os=B.w0.os/\w'.tape=B.w0.tape/\w'.output=B.w0.output/\B.w0.heap.size<=w'.heap.size/\
    (∀b,b<B.w0.heap.size->(¬B.X b\/(Value.slice a m c).ownBlock=some b)->w'.heap[b]?=B.w0.heap[b]?)/\(∀b o,E.I b o\/((Value.slice a m c).ownBlock=some b/\o<m * sz)->E'.I b o/\w'.cell? ⟨b,o,none⟩=B.w0.cell? ⟨b,o,none⟩)/\(∀b o,E'.I b o->b<w'.heap.size)/\
    (∀b o,E'.I b o->(E.I b o\/((Value.slice a m c).ownBlock=some b/\o<m * sz))\/B.w0.heap.size<=b\/(B.X b/\(Value.slice a m c).ownBlock≠some b)):=by
  intro B E w aX oA hI hb hg fD hr;obtain⟨a,c,m,G,xs,k1,k2,k3,kg,k4,k5,k6⟩:=fD;refine⟨a,c,m,G,xs,k1,k2,k3,kg,k4,k5,k6,?_⟩;obtain⟨v,hv⟩:∃v,v=Value.slice a m c:=⟨_,rfl⟩;rw[<-hv]at k2 k6 ⊢
  let I1:Nat->Nat->Prop:=λb o=>E.I b o\/(v.ownBlock=some b/\o<m * sz)
  let E1:Env:=⟨λ_=>none,λ_=>none,λ_=>none,λ_=>none,λ_=>none,I1⟩
  let B1:Bs:=⟨B.w0,λb=>B.X b/\v.ownBlock≠some b,I1,λ_=>none,λ_=>none,λ_=>none,B.dl⟩
  have lU:Cr B1 E1 w:=by
   refine⟨hb.os,hb.tape,hb.output,hb.size,λb aC kS=>by rw[oA],λb o hi=>⟨hi,by show w.cell? _=B.w0.cell? _;rw[oA]⟩,λb o hi=>?_,λb o hi=>.inl hi,λb h ho=>(nomatch ho),⟨λ_ _ h=>(nomatch h),λ_ _ h=>(nomatch h),λ_ _ h=>(nomatch h)⟩⟩;rcases hi with hi|⟨hi,_⟩
   .exact hb.dP b o hi
   .exact Bd hb (k6 b hi).1
  have yV:Fm B1 gl:=by
   intro q s hq;obtain⟨g1,g2,g3,g4⟩:=hg q s hq;exact⟨g1.mono (λb o hi=>.inl (hb.I0 b o hi).1) (λ_ _ _=>rfl),g2,λh=>g3 h.1,g4⟩
  obtain⟨u,hu⟩:∃u,aX=[u]:=by
   have:=hr.1
   match aX,this with
   | [u],_=>exact⟨u,rfl⟩
  subst hu;have bP:A8 E1 w [.sl nl n sz fr] [u]:=by
   refine A8.cons (.ro ?_) A8.nil;obtain⟨hu,eQ⟩:=Mi (hr.2 0 _ _ rfl rfl) k1 (by rw[<-hv];exact k2) (by rw[hn,k3]) kg tm;rw[<-hv]at hu eQ;exact Zi hu eQ k2 (by rw[hn,k3]) k4 k5
  refine (hc B1 E1 w [u] oA (λ_ _ h=>h) (λh hq=>by rcases hq with hq|hq|hq<;>exact absurd rfl hq) lU yV (λh=>⟨rfl,rfl,rfl,rfl⟩) bP).mono λe w' hq=>?_;obtain⟨v1,E',e1,e2,_,e4⟩:=hq;refine⟨v1,E',e1,e4,e2.os,e2.tape,e2.output,e2.size,λb aC hX=>e2.dY b aC ?_,λb o hi=>e2.I0 b o hi,e2.dP,λb o hi=>?_⟩
  .rintro⟨h1,h2⟩
   rcases hX with hX|hX
   .exact hX h1
   .exact h2 hX
  .exact e2.cE b o hi
 rcases hk with⟨IT,hk⟩|⟨hp,hk⟩
 .refine⟨r,[.vec ty n0 g0 sz fr],hk,?_⟩
  intro B E w aX oA hI dT hb hg hh hr;obtain⟨a,c,m,G,xs,k1,k2,k3,kg,k4,k5,k6,dU⟩:=core B E w aX oA hI hb hg (hh 0) hr;refine dU.mono λe w' hq=>?_;obtain⟨v1,E',e1,e4,f1,f2,f3,f4,f5,f6,f7,f8⟩:=hq;have bC:w.heap.size<=w'.heap.size:=by rw[<-oA];exact f4
  have bY:∀b,(Value.slice a m c).ownBlock=some b->w'.heap[b]?=w.heap[b]?:=λb bX=>by
   rw[<-oA];refine f5 b ?_ (.inr bX);rw[oA];exact Bd hb (k6 b bX).1
  let E2:Env:=⟨E.β,E.τ,E.O,E.κ,E.ζ,λb o=>E'.I b o/\(Value.slice a m c).ownBlock≠some b⟩
  have hIE:∀b o,E.I b o->E'.I b o/\(Value.slice a m c).ownBlock≠some b:=λb o hi=>⟨(f6 b o (.inl hi)).1,λbX=>(k6 b bX).2 o hi⟩;have hx:Ext E w E2 w':=⟨λ_ _ h=>h,λ_ _ h=>.inl h,λ_ _ h=>h,λ_ _ h=>h,hIE,λb o hi=>by rw[<-oA];exact (f6 b o (.inl hi)).2⟩;refine⟨v1,E2,e1,⟨f1,f2,f3,f4,λb aC hX=>f5 b aC (.inl hX),λb o hi=>?_,λb o hi=>f7 b o hi.1,λb o hi=>?_,λb h ho=>⟨XQ (hb.cS b h ho).1 bC,(hb.cS b h ho).2⟩,hb.cO.ext hx⟩,λh aC=>?_,IT.h _ _ _ _ e4⟩
  .have oS:=(hb.I0 b o hi).1
   exact⟨hIE b o oS,(f6 b o (.inl oS)).2⟩
  .rcases f8 b o hi.1 with (oS|⟨oS,_⟩)|oS|⟨oS,_⟩
   .exact hb.cE b o oS
   .exact absurd oS hi.2
   .exact .inr (.inl oS)
   .exact .inr (.inr oS)
  .match h,aC with
   |0,_=>exact⟨a,c,m,G,xs,k1,k2.keep bY,k3,kg,k4,k5.mono hx,λb bX=>⟨(k6 b bX).1,λo hi=>hi.2 bX⟩⟩
 .have ab7:=hk (g0.den+1) ⟨rfl⟩
  refine⟨r,_,ab7,?_⟩;intro B E w aX oA hI dT hb hg hh hr;obtain⟨a,c,m,G,xs,k1,k2,k3,kg,k4,k5,k6,dU⟩:=core B E w aX oA hI hb hg (hh 0) hr;refine dU.mono λe w' hq=>?_;obtain⟨v1,E',e1,e4,f1,f2,f3,f4,f5,f6,f7,f8⟩:=hq;have bC:w.heap.size<=w'.heap.size:=by rw[<-oA];exact f4
  let E2:Env:=⟨E.β,aU E.τ 0 (some (.slice none (G+1) 0)),E.O,E.κ,E.ζ,E'.I⟩
  have hx:Ext E w E2 w':=by
   refine⟨λ_ _ h=>h,λk v hk=>?_,λ_ _ h=>h,λ_ _ h=>h,λb o hi=>(f6 b o (.inl hi)).1,λb o hi=>by rw[<-oA];exact (f6 b o (.inl hi)).2⟩;show aU E.τ 0 (some (.slice none (G+1) 0)) k=some v\/∃a m' c a' sK c',v=.slice a m' c/\aU E.τ 0 (some (.slice none (G+1) 0)) k=some (.slice a' sK c')/\m'<sK;unfold aU
   by_cases e:k=0
   .subst e
    rw[QC rfl];rw[k1]at hk;cases hk;exact .inr ⟨_,G,_,none,G+1,0,rfl,rfl,YP _⟩
   .rw[QA e];exact .inl hk
  refine⟨v1,E2,e1,⟨f1,f2,f3,f4,λb aC hX=>f5 b aC (.inl hX),λb o hi=>?_,λb o hi=>f7 b o hi,λb o hi=>?_,λb h ho=>⟨XQ (hb.cS b h ho).1 bC,(hb.cS b h ho).2⟩,hb.cO.ext hx⟩,λh aC=>?_,e4.plain rfl hp⟩
  .have oS:=(hb.I0 b o hi).1
   exact⟨(f6 b o (.inl oS)).1,(f6 b o (.inl oS)).2⟩
  .rcases f8 b o hi with (oS|⟨oS,_⟩)|oS|⟨oS,_⟩
   .exact hb.cE b o oS
   .exact .inr (hb.cS b 0 (k6 b oS).1).2
   .exact .inr (.inl oS)
   .exact .inr (.inr oS)
  .match h,aC with
   |0,_=>exact⟨none,0,0,G+1,[],by simp[E2,aU],⟨by simp,.inl ⟨rfl,rfl⟩⟩,rfl,by simp only[ST.den];omega,by simp,⟨by intro i hi;omega,by intro i j s u hi;omega⟩,λb hb=>by simp[Value.ownBlock]at hb⟩
theorem xi{nl:BT}{n:ST}{sz:Nat}{f:Nat->List SV}{k1 k2:IntKind}{a b:ST}(h:nl.den=true):Nc (.aI [.sl nl n sz f,.int k1 a,.int k2 b]):=by
 refine⟨λE E' w v hr=>?_⟩;obtain⟨vs,hv,hl,hq⟩:∃vs:List Value,v=.tuple ⟨vs⟩/\[SV.sl nl n sz f,.int k1 a,.int k2 b].length=vs.length/\∀(i:Nat) (s:SV) (u:Value),[SV.sl nl n sz f,.int k1 a,.int k2 b][i]?=some s->vs[i]?=some u->Rel E w s u:=by
  cases hr with
  |ro h=>cases h
  |aI hl hq=>exact⟨_,rfl,hl,hq⟩
 subst hv;refine .aI hl λi s u h1 h2=>?_;have h3:=hq i s u h1 h2
 match i,h1 with
 |0,h1 =>
  cases h1;rcases h3.bF.bF with⟨e1,e2,_⟩|⟨_,_,_,_,_,e1,_⟩
  .rw[e1];exact .ro (.slnil h (by simpa using e2))
  .rw[h]at e1;cases e1
 |1,h1=>cases h1;rw[h3.aT];exact .ro (.int rfl)
 |2,h1=>cases h1;rw[h3.aT];exact .ro (.int rfl)
end Go.Sx
