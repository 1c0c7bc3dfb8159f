/- A part of the proof: contracts of functions, or the executor and its soundness. No conditions. -/
import Derived.Below
import Derived.Test.YtdoogdbjiijifaaGreatDoorE7Pam
namespace Go.Sx
open Go
section
variable {P:Program} {ops:Array Oper} {gl:List (Nat×SV)} {B:Bs} {N:Nat} {σ aJ:Sy} {rs:List Rec}
theorem mem_ready{listed:Array Bool}{i:Nat}:i∈Region.ready .any ops listed↔∃o,ops[i]?=some o/\listed.getD i true=false/\∀x∈C5 o.after.toList,listed.getD x false=true:=by
 unfold Region.ready;simp only[List.mem_filter,List.mem_range,QB,XK];constructor
 .rintro⟨h1,h2,h3⟩
  have ho:ops[i]?=some ops[i]:=by simp[h1]
  rw[ho]at h3;refine⟨_,ho,h2,λx hx=>?_⟩;obtain⟨e,he,hb,rfl⟩:=U8 hx;simp only[QO,XB,YP]at h3;have:=h3 e (by simpa using he);simpa[hb] using this
 .rintro⟨o,ho,h2,h3⟩
  refine⟨(Array.getElem?_eq_some_iff.1 ho).1,h2,?_⟩;rw[ho];simp only[QO,XB,YP];intro e he;cases hb:Region.binds .any e with
  |false=>simp
  |true=>simp only[YN,UM];exact h3 _ (Wg (by simpa using he) hb)
def left(n:Nat)(listed:Array Bool):Nat:=((List.range n).filter λi=>!listed.getD i true).length
theorem Vm{n i:Nat}{listed:Array Bool}(hi:i<n)(hs:listed.size=n)(h:listed.getD i true=false):left n (listed.setIfInBounds i true)+1=left n listed:=by
 have aU:∀j,(listed.setIfInBounds i true).getD j true=if j=i then true else listed.getD j true:=by
  intro j;simp only[QM]
  by_cases e:i=j
  .subst e;rw[QE rfl,ZY (by omega)];rfl
  .rw[QD (λh=>e h.symm),XX e]
 unfold left;have key:∀(l:List Nat),l.Nodup->i∈l->(l.filter λj=>!(listed.setIfInBounds i true).getD j true).length+1=(l.filter λj=>!listed.getD j true).length:=by
  intro l
  induction l with
  |nil=>intro _ h;cases h
  |cons j l ih =>
   intro hn hm;rw[List.nodup_cons]at hn;simp only[YL,aU j]
   by_cases e:j=i
   .subst e
    rw[QE rfl];simp only[YN,QR,if_false,h,Bool.not_false,if_true,QT];congr 2;refine List.filter_congr λk hk=>?_;rw[aU k,QD (λe=>hn.1 (by rw[<-e];exact hk))]
   .rw[QD e]
    have:=ih hn.2 (by rcases List.mem_cons.1 hm with h|h;exact absurd h.symm e;exact h)
    split
    .simp only[QT];omega
    .exact this
 exact key _ List.nodup_range (by simpa using hi)
theorem Akm{n:Nat}{listed:Array Bool}(h:left n listed=0):∀i,i<n->listed.getD i true=true:=by
 intro i hi;unfold left at h;have:=QQ h;rw[List.filter_eq_nil_iff]at this;have:=this i (by simpa using hi);simpa using this
theorem Ahd(nX:G7 ops.toList 0=true){listed:Array Bool}(hs:listed.size=ops.size)(h:Region.ready .any ops listed=[]):∀i,i<ops.size->listed.getD i true=true:=by
 intro i
 induction i using Nat.strongRecOn with
 |_ i ih =>
  intro hi;cases hl:listed.getD i true with
  |true=>rfl
  |false =>
   have hm:i∈Region.ready .any ops listed:=by
    refine mem_ready.2 ⟨ops[i],by simp[hi],hl,λx hx=>?_⟩;have aA:=Ll nX (j:=i) (o:=ops[i]) (by simp[hi]) x hx;have:=ih x (by omega) (by omega);rw[QM]at this ⊢;rw[XP (by omega)]at this ⊢;simpa using this
   rw[h]at hm;cases hm
def lS(listed:Array Bool):Nat->Bool:=λi=>listed.getD i false
theorem Amg{n:Nat}{listed:Array Bool}(hs:listed.size=n){i:Nat}(hi:i<n):lS listed i=listed.getD i true:=by
 simp[lS,XP (show i<listed.size by omega)]
theorem Aog{f g:Nat->SG}{a b:Nat->Hl}(h:(f,a)=(g,b)):f=g/\a=b:=by
 simp only[Prod.mk.injEq]at h;exact h
theorem Ams{B:Bs}{E:Env}{a:Act}{w:World}{ff:Nat->SG}{hf:Nat->Hl}(st:St B N E a w ff hf)(d:Option Nat)(v:Value)(g:SG)
  (hg:∀cs s,g=some (cs,s)->(Ba cs->Rel E w s v)/\(¬Ba cs->v=undef)):St B N E (a.put d v) w (G3 N ff d g) hf:=by
 cases d with
 |none =>
  have:G3 N ff none g=ff:=by funext s;simp[G3]
  rw[this];exact st
 |some k =>
  by_cases hk:k<N
  .have:=st.put (some k) v g hg (λj hj=>by cases hj;exact hk)
   have e:AT ff (some k) g=G3 N ff (some k) g:=by
    funext s;simp only[AT,aL,G3,Option.some.injEq]
    by_cases e:s=k
    .subst e;simp[hk]
    .rw[QD e,QD (λh=>e h.1.symm)]
   rw[<-e];exact this
  .rw[Ah6 (by rw[st.size];omega)]
   have e:G3 N ff (some k) g=ff:=by
    funext s;simp only[G3,Option.some.injEq];rw[QD (λh=>hk (by rw[h.1];exact h.2))]
   rw[e];exact st
theorem Alp{ro:Option Nat}{nn:Nat}(h:Ctx P ops gl N σ aJ rs)(hg:Ep B gl){Q:Exit->Act->World->Prop}(iN:∀E a w,St B N E a w (B4 N aJ.gm (ops.toList.zip rs) (A6 σ,Ap σ.hp)).1 (B4 N aJ.gm (ops.toList.zip rs) (A6 σ,Ap σ.hp)).2->Q .normal a w):
  ∀(fuel:Nat) (listed:Array Bool) (E:Env) (a:Act) (w:World),listed.size=ops.size->left ops.size listed=fuel->Down ops (lS listed)->St B N E a w (xS N ops σ aJ rs (lS listed)).1 (xS N ops σ aJ rs (lS listed)).2->wpAnyIn (Fr ro) nn P .any ops Q fuel listed a w:=by
 have done:∀(listed:Array Bool) (E:Env) (a:Act) (w:World),listed.size=ops.size->(∀i,i<ops.size->listed.getD i true=true)->St B N E a w (xS N ops σ aJ rs (lS listed)).1 (xS N ops σ aJ rs (lS listed)).2->Q .normal a w:=by
  intro listed E a w hs jP st;refine iN E a w ?_;have:xS N ops σ aJ rs (lS listed)=B4 N aJ.gm (ops.toList.zip rs) (A6 σ,Ap σ.hp):=by
   refine Yy _ _ _ λj hj=>?_;simp only[XD];have hj:j<ops.size:=by simp at hj;omega
   rw[Amg hs hj];exact jP j hj
  rw[<-this];exact st
 intro fuel
 induction fuel with
 |zero =>
  intro listed E a w hs hl hd st;have jP:=Akm hl;refine⟨?_,done listed E a w hs jP st⟩;rw[List.eq_nil_iff_forall_not_mem];intro i hi;obtain⟨o,ho,h1,_⟩:=mem_ready.1 hi;rw[jP i (Array.getElem?_eq_some_iff.1 ho).1]at h1;cases h1
 |succ fuel ih =>
  intro listed E a w hs hl hd st;refine⟨λh0=>done listed E a w hs (Ahd h.qy hs h0) st,λi hi=>?_⟩;obtain⟨o,ho,h1,h2⟩:=mem_ready.1 hi;have eT:i<ops.size:=(Array.getElem?_eq_some_iff.1 ho).1;have gy:lS listed i=false:=by rw[Amg hs eT];exact h1
  have he:∀x∈C5 o.after.toList,lS listed x=true:=h2;have hr:rs[i]?=some (rs[i]'(by rw[h.len];exact eT)):=QA _
  generalize rs[i]'(by rw[h.len];exact eT)=rec at hr
  obtain⟨oX,w1,w2,w3,w4⟩:=h.step i o rec ho hr;obtain⟨f1,f2⟩:=Aog w3;have JD:∀s∈looks ops.toList o,(xS N ops σ aJ rs (lS listed)).1 s=A6 oX s:=λs cJ=>by
   rw[zZ h hd ho hr gy he cJ,f1]
  have yK:∀j want s,o.guard=some (j,want)->(nth ops.toList j).bind (·.dst)=some s->(xS N ops σ aJ rs (lS listed)).1 s=A6 oX s:=λj want s kW hb =>
   JD s (by unfold looks;exact List.mem_append.2 (.inr (Xq kW hb)))
  -- RW has aU7 behind it
  have aM:(listed.setIfInBounds i true).size=ops.size:=by simp[hs]
  have lU:∀j,lS (listed.setIfInBounds i true) j=if j=i then true else lS listed j:=by
   intro j;simp only[lS,QM]
   by_cases e:i=j
   .subst e;rw[QE rfl,ZY (by omega)];rfl
   .rw[QD (λh=>e h.symm),XX e]
  have OM:Down ops (lS (listed.setIfInBounds i true)):=by
   refine⟨λk ok nX hk x hx=>?_⟩;rw[lU]
   split
   .rfl
   .rw[lU]at hk
    split at hk
    .rename_i e
     subst e;rw[ho]at nX;cases nX;exact he x hx
    .exact hd.down k ok nX hk x hx
  have hx:=Ajc h hd ho hr gy he (S':=lS (listed.setIfInBounds i true)) (by rw[lU,QE rfl]) (λj hj=>by rw[lU,QD hj]);have HO:left ops.size (listed.setIfInBounds i true)=fuel:=by have:=Vm eT hs h1;omega
  have next:∀(E':Env) (a':Act) (w':World),St B N E' a' w' (C8 N aJ.gm o rec (xS N ops σ aJ rs (lS listed))).1 (C8 N aJ.gm o rec (xS N ops σ aJ rs (lS listed))).2->wpAnyIn (Fr ro) nn P .any ops Q fuel (listed.setIfInBounds i true) a' w':=by
   intro E' a' w' SH;refine ih _ E' a' w' aM HO OM ?_;rw[hx];exact SH
  unfold wpOpIn;rw[ho];simp only;cases rec with
  |none =>
   have hw:=O8 (ops:=ops) rfl w4 st yK;rw[QD (by simp[hw])];exact⟨λ_ _=>trivial,next E _ w (Ams st _ _ none (by simp))⟩
  |some p =>
   obtain⟨eI,T,r⟩:=p;obtain⟨q1,q2,q3,q4,q5⟩:=w4;obtain⟨g1,g2,g3,g4,g5,_,_,g8⟩:=G6 (ops:=ops) rfl q1 w1;have qI:=g8 B N E a w _ _ st yK
   by_cases hT:Ba (Ac eI.gm T)
   .rw[QE (qI.2 hT)]
    have fH:DI eI (xS N ops σ aJ rs (lS listed)).1 o:=λs cJ=>by
     rw[g2];exact JD s (by unfold looks;exact List.mem_append.2 (.inl (U7 cJ)))
    have ab7:AQ eI.hp (xS N ops σ aJ rs (lS listed)).2 r:=by
     rw[g3];refine⟨λk hk=>?_,λx hx=>?_,λe po=>?_⟩
     .have:=(Tb h hd ho hr gy he (ρ:=(k,none)) (.inl (by simp[AY,uL,rv];exact hk))).2 rfl
      rw[this,<-f2]
     .obtain⟨hh,off,n⟩:=x
      have:=(Tb h hd ho hr gy he (ρ:=(hh,some (off,n))) (.inl (by simp[AY,uL,rv];exact⟨hh,off,n,hx,rfl,rfl,rfl⟩))).1;rw[<-f2]at this;intro ty cs cV;simp only at cV this ⊢;rcases this with e|⟨lN,c1,c2,e1,e2,e3,e4⟩
      .exact⟨cs,by rw[e,cV],rfl,λ_ _ _=>rfl⟩
      .rw[cV]at e2
       cases e2;exact⟨c1,e1,e3.symm,λj j1 j2=>(e4 j ⟨j1,j2⟩).symm⟩
     .have dT:∀(es:List Ef),e∈es->match e with|.set k off vs=>(k,some (off,Ag vs))∈iG es|.put k _=>(k,none)∈iG es:=by
       intro es
       induction es with
       |nil=>intro h;cases h
       |cons e' es ih =>
        intro hm;rcases List.mem_cons.1 hm with rfl|hm
        .cases e<;>simp[iG]
        .have:=ih hm
         cases e<;>cases e'<;>simp only[iG,ZO]at this ⊢<;>exact Or.inr this
      have hm:=dT r.gF po;cases e with
      |set k off vs =>
       simp only at hm;have:=(Tb h hd ho hr gy he (ρ:=(k,some (off,Ag vs))) (.inr hm)).1;rw[<-f2]at this;intro ty cs cV;rcases this with e|⟨lN,c1,c2,e1,e2,e3,e4⟩
       .exact⟨cs,by rw[e,cV],rfl⟩
       .rw[cV]at e2
        cases e2;exact⟨c1,e1,e3.symm⟩
      |put k hl =>
       simp only at hm;have:=(Tb h hd ho hr gy he (ρ:=(k,none)) (.inr hm)).2 rfl;show (xS N ops σ aJ rs (lS listed)).2 k=Ap oX.hp k;rw[this,<-f2]
    refine q2 B N E a w _ _ hg st fH ab7 hT _ _ _ _ λv w' E' x1 x2 x3 x4=>?_;refine next E' _ w' ?_
    simp only[C8,q5];exact Ams (st.step x1 x2 x3) _ _ _ (by rintro cs s ⟨⟩;exact⟨λ_=>x4,λh=>absurd hT h⟩)
   .rw[QD (λh=>hT (qI.1 h))]
    refine⟨λ_ _=>trivial,next E _ w ?_⟩;have hef:r.gF=[]:=by
     rcases q4.1 with h|h|h
     .subst h;exact absurd trivial hT
     .exact h
     .exact absurd h hT
    simp only[C8,q5,hef,Hz];exact Ams st _ _ _ (by rintro cs s ⟨⟩;exact⟨λh=>absurd h hT,λ_=>rfl⟩)
theorem PY(hm:P.follows .mixedOrders=true):Re P:=by
 intro ro nn gl id ops B N σ aJ rs hg GW xg WR Q E a w hs hQ;obtain⟨r1,r2,r3,r4,r5,r6,r7⟩:=Amh GW hs.wf N hs.len;have aa9:Ctx P ops gl N σ aJ rs:=⟨by rw[r1];simp,λi o rec ho hr=>r7 i o rec (by rw[QG];exact ho) hr,xg,WR⟩;obtain⟨e1,e2⟩:=Aog r6;refine wpIn_region_any hm ?_;have aB:=hs.st.base;have cM:St B N E a { w with drawn:=w.drawn+1 } (A6 σ) (Ap σ.hp) :=
  hs.st.step (E':=E) (w':={ w with drawn:=w.drawn+1 }) ⟨λ_ _ h=>h,λ_ _ h=>.inl h,λ_ _ h=>h,λ_ _ h=>h,λ_ _ h=>h,λ_ _ _=>rfl⟩ ⟨aB.os,aB.tape,aB.output,aB.size,aB.old,aB.I0,aB.eJ,aB.cE,aB.dG,aB.cS⟩
   λk=>bO.keep (E:=E) (w:=w) (E':=E) (w':={ w with drawn:=w.drawn+1 }) ⟨λ_ _ h=>h,λ_ _ h=>.inl h,λ_ _ h=>h,λ_ _ h=>h,λ_ _ h=>h,λ_ _ _=>rfl⟩ (hs.st.heap k) rfl rfl rfl rfl λb hO=>⟨hO,rfl,λ_ h=>h⟩
 refine Alp (B:=B) aa9 hg (λE' a' w' SH=>?_) ops.size _ E a _ (by simp) ?_ ⟨λk o _ hk=>?_⟩ ?_
 .refine hQ E' a' w' ⟨?_,r3,r2,λk hk=>XR (hs.ge k hk) r4⟩
  rw[e1,e2];exact SH
 .unfold left
  rw[List.filter_eq_self.2]
  .simp
  .intro i hi;simp at hi;simp[hi]
 .exfalso
  simp only[lS,QM,Array.getElem?_replicate]at hk
  split at hk<;>simp at hk
 .have:xS N ops σ aJ rs (lS (Array.replicate ops.size false))=(A6 σ,Ap σ.hp):=by
   refine J6 _ _ _ λj _=>?_;simp only[lS,QM,Array.getElem?_replicate]
   split<;>rfl
  rw[this];exact cM
end
theorem Amj{P:Program}{D:Dn}{tt:List (Nat×TI)}{fC:List (Nat×aD)}{gl:List (Nat×SV)}{eqs:List TypeId}{gh:List (Nat×List Gh)}:W0 P ⟨D,tt,fC,gl,eqs,gh,[],[]⟩:=⟨λ_ h=>(by cases h),λ_ h=>(by cases h)⟩
theorem Bd{P:Program}(hm:P.follows .mixedOrders=true){tt:List (Nat×TI)}{fC:List (Nat×aD)}{gl:List (Nat×SV)}{eqs:List TypeId}{gh:List (Nat×List Gh)}(hc:Az P ⟨dn,tt,fC,gl,eqs,gh,[],[]⟩)(bT:Eh P gl fC){f:FuncId}{fn:Func}(hf:P.funcs[f]?=some fn)(eZ:(fn.name=="runtime.NumGoroutine")=false)(hb:fn.body.isSome=true){sp:aD}
  (h:∀(as:List SV) (ls:List Hl) (K:SV->List Hl->Prop),sp dn as ls K->∃r aI,K r aI/\∀D,D=dn->body ⟨D,tt,fC,gl,eqs,gh,[],[]⟩ fn as ls λr' eG=>Fin r' r eG aI):Aw P gl f sp:=by
 refine⟨?_,λas ls K hs=>?_⟩
 .obtain⟨c,hc⟩:=Option.isSome_iff_exists.1 hb
  exact⟨fn,c,hf,hc,eZ⟩
 .obtain⟨r,aI,hK,fY⟩:=h as ls K hs
  exact⟨r,aI,hK,Ta (PY hm) hc bT Amj hf (fY dn rfl)⟩
theorem MW{P:Program}(hm:P.follows .mixedOrders=true){tt:List (Nat×TI)}{fC:List (Nat×aD)}{gl:List (Nat×SV)}{eqs:List TypeId}{gh:List (Nat×List Gh)}(hc:Az P ⟨dn,tt,fC,gl,eqs,gh,[],[]⟩)(bT:Eh P gl fC){f:FuncId}{fn:Func}(hf:P.funcs[f]?=some fn)(eZ:(fn.name=="runtime.NumGoroutine")=false)(hb:fn.body.isSome=true){sp:aD}
  (h:∀(as:List SV) (ls:List Hl) (K:SV->List Hl->Prop),sp dn as ls K->∃r aI,K r aI/\∀D,D=dn->PO ⟨D,tt,fC,gl,eqs,gh,[],[]⟩ fn as ls λr' eG=>Fin r' r eG aI):Aw P gl f sp:=by
 refine⟨?_,λas ls K hs=>?_⟩
 .obtain⟨c,hc⟩:=Option.isSome_iff_exists.1 hb
  exact⟨fn,c,hf,hc,eZ⟩
 .obtain⟨r,aI,hK,fY⟩:=h as ls K hs
  exact⟨r,aI,hK,Jf (PY hm) hc bT Amj hf (fY dn rfl)⟩
theorem qd{P:Program}(hm:P.follows .mixedOrders=true){tt:List (Nat×TI)}{fC:List (Nat×aD)}{gl:List (Nat×SV)}{eqs:List TypeId}{gh:List (Nat×List Gh)}{its:List (Nat×(aD->aD))}{yl:List aD}(hc:Az P ⟨dn,tt,fC,gl,eqs,gh,its,yl⟩)(bT:Eh P gl fC)(gH:W0 P ⟨dn,tt,fC,gl,eqs,gh,its,yl⟩){f:FuncId}{fn:Func}(hf:P.funcs[f]?=some fn)(eZ:(fn.name=="runtime.NumGoroutine")=false)(hb:fn.body.isSome=true){sp:aD}
  (h:∀(as:List SV) (ls:List Hl) (K:SV->List Hl->Prop),sp dn as ls K->∃r aI,K r aI/\∀D,D=dn->PO ⟨D,tt,fC,gl,eqs,gh,its,yl⟩ fn as ls λr' eG=>Fin r' r eG aI):Aw P gl f sp:=by
 refine⟨?_,λas ls K hs=>?_⟩
 .obtain⟨c,hc⟩:=Option.isSome_iff_exists.1 hb
  exact⟨fn,c,hf,hc,eZ⟩
 .obtain⟨r,aI,hK,fY⟩:=h as ls K hs
  exact⟨r,aI,hK,Jf (PY hm) hc bT gH hf (fY dn rfl)⟩
theorem KB{P:Program}(hm:P.follows .mixedOrders=true){tt:List (Nat×TI)}{fC:List (Nat×aD)}{gl:List (Nat×SV)}{eqs:List TypeId}{gh:List (Nat×List Gh)}(hc:Az P ⟨dn,tt,fC,gl,eqs,gh,[],[]⟩)(bT:Eh P gl fC){f:FuncId}{fn:Func}(hf:P.funcs[f]?=some fn)(eZ:(fn.name=="runtime.NumGoroutine")=false){l:Nat}{pre c rest:Code}(hb:fn.body=some (.seq pre (.scope c)))(hl:findLabel c l=some rest){sp:aD}
  (h:∀(as:List SV) (ls:List Hl) (K:SV->List Hl->Prop),sp dn as ls K->∃r aI,K r aI/\∀D,D=dn->ra ⟨D,tt,fC,gl,eqs,gh,[],[]⟩ fn pre c l rest as ls λr' eG=>Fin r' r eG aI):Aw P gl f sp:=by
 refine⟨⟨fn,_,hf,hb,eZ⟩,λas ls K hs=>?_⟩;obtain⟨r,aI,hK,fY⟩:=h as ls K hs;exact⟨r,aI,hK,Q1 (PY hm) hc bT Amj hf hb hl (fY dn rfl)⟩
theorem Ai{P:Program}{gl:List (Nat×SV)}:Eh P gl []:=by intro x h;cases h
theorem Ab{P:Program}{gl:List (Nat×SV)}{fC:List (Nat×aD)}{f:Nat}{sp:aD}(h:Aw P gl f sp)(ht:Eh P gl fC)(hf:Nat.blt f 1000000=true:=by decide):Eh P gl ((f,sp) :: fC):=by
 intro x hx;rcases List.mem_cons.1 hx with rfl|hx
 .show Aw P gl (V3 f) sp
  rw[V3,QE hf];exact h
 .exact ht x hx
theorem Hh{P:Program}{gl:List (Nat×SV)}{fC:List (Nat×aD)}{f:Nat}{sp:aD}(h:Aw P gl f sp)(ht:Eh P gl fC):Eh P gl ((f+1000000,sp) :: fC):=by
 intro x hx;rcases List.mem_cons.1 hx with rfl|hx
 .show Aw P gl (V3 (f+1000000)) sp
  have e:V3 (f+1000000)=f:=by
   unfold V3;rw[QD (by rw[ZM];omega),Nat.add_sub_cancel]
  rw[e];exact h
 .exact ht x hx
theorem br{D:Dn}(hD:D=dn){b:BT}{A B:Prop}(ht:b.den=true->A)(hf:b.den=false->B):(D.b b=true->A)/\(D.b b=false->B):=by subst hD;exact⟨ht,hf⟩
theorem Ce{s s':SV}{ls aI:List Hl}(h:s=s')(hl:ls=aI):Fin s s' ls aI:=by subst h hl;exact⟨fE.refl s,vT.refl ls,QK _⟩
theorem int_eq{D:Dn}(hD:D=dn){k:IntKind}{t:ST}{n:Int}(h:t.den=n):SV.int k (.a (D.i t))=.int k (.a n):=by subst hD h;rfl
theorem ld{D:Dn}(hD:D=dn){t:BT}{b:Bool}(h:t.den=b):SV.bool (.a (D.b t))=.bool (.a b):=by subst hD h;rfl
theorem Bj{D:Dn}(hD:D=dn){k:IntKind}{t:ST}{n:Int}{ls:List Hl}(h:t.den=n):Fin (.int k (.a (D.i t))) (.int k (.a n)) ls ls:=Ce (int_eq hD h) rfl
theorem Al{D:Dn}(hD:D=dn){t:BT}{b:Bool}{ls:List Hl}(h:t.den=b):Fin (.bool (.a (D.b t))) (.bool (.a b)) ls ls:=Ce (ld hD h) rfl
@[simp] theorem at7 (n:Int):(ST.a n).den=n:=rfl
@[simp] theorem at6 (n:Int):(ST.l n).den=n:=rfl
@[simp] theorem OV (s:List UInt8):(ST.len s).den=s.length:=rfl
@[simp] theorem den_add (k:IntKind) (x y:ST):(ST.bin .add k x y).den=k.wrap (x.den+y.den):=rfl
@[simp] theorem OS (k:IntKind) (x y:ST):(ST.bin .sub k x y).den=k.wrap (x.den-y.den):=rfl
@[simp] theorem den_mul (k:IntKind) (x y:ST):(ST.bin .mul k x y).den=k.wrap (x.den * y.den):=rfl
@[simp] theorem OU (k:IntKind) (x y:ST):(ST.bin .quo k x y).den=k.wrap (x.den.tdiv y.den):=rfl
@[simp] theorem OT (k:IntKind) (x y:ST):(ST.bin .rem k x y).den=x.den.tmod y.den:=rfl
@[simp] theorem ad5 (k:IntKind) (x:ST):(ST.cv k x).den=k.wrap x.den:=rfl
@[simp] theorem ae0 (b:Bool):(BT.a b).den=b:=rfl
@[simp] theorem ad9 (b:Bool):(BT.l b).den=b:=rfl
@[simp] theorem LA (x y:ST):(BT.cmp .lss x y).den=true↔x.den<y.den:=by simp[BT.den,Bl]
@[simp] theorem CM (x y:ST):(BT.cmp .lss x y).den=false↔y.den<=x.den:=by simp[BT.den,Bl]
@[simp] theorem LB (x y:ST):(BT.cmp .leq x y).den=true↔x.den<=y.den:=by simp[BT.den,Bl]
@[simp] theorem CN (x y:ST):(BT.cmp .leq x y).den=false↔y.den<x.den:=by simp[BT.den,Bl]
@[simp] theorem LD (x y:ST):(BT.cmp .gtr x y).den=true↔y.den<x.den:=by simp[BT.den,Bl]
@[simp] theorem CP (x y:ST):(BT.cmp .gtr x y).den=false↔x.den<=y.den:=by simp[BT.den,Bl]
@[simp] theorem LF (x y:ST):(BT.cmp .geq x y).den=true↔y.den<=x.den:=by simp[BT.den,Bl]
@[simp] theorem CQ (x y:ST):(BT.cmp .geq x y).den=false↔x.den<y.den:=by simp[BT.den,Bl]
@[simp] theorem LG (x y:ST):(BT.cmp .eql x y).den=true↔x.den=y.den:=by simp[BT.den,Bl]
@[simp] theorem CR (x y:ST):(BT.cmp .eql x y).den=false↔x.den≠y.den:=by simp[BT.den,Bl]
@[simp] theorem KZ (x y:ST):(BT.cmp .neq x y).den=true↔x.den≠y.den:=by simp[BT.den,Bl]
@[simp] theorem CL (x y:ST):(BT.cmp .neq x y).den=false↔x.den=y.den:=by simp[BT.den,Bl]
@[simp] theorem KY (x:BT):(BT.not x).den=true↔x.den=false:=by simp[BT.den]
@[simp] theorem CK (x:BT):(BT.not x).den=false↔x.den=true:=by simp[BT.den]
@[simp] theorem LI (x y:BT):(BT.and x y).den=true↔x.den=true/\y.den=true:=by simp[BT.den]
@[simp] theorem CT (x y:BT):(BT.and x y).den=false↔(x.den=true->y.den=false):=by simp only[BT.den];cases x.den<;>simp
@[simp] theorem OY (x y:BT):(BT.or x y).den=true↔(x.den=false->y.den=true):=by simp only[BT.den];cases x.den<;>simp
@[simp] theorem KX (x y:BT):(BT.or x y).den=false↔x.den=false/\y.den=false:=by simp[BT.den]
@[simp] theorem LH (x y:BT):(BT.beq x y).den=true↔x.den=y.den:=by simp[BT.den]
@[simp] theorem CS (x y:BT):(BT.beq x y).den=false↔x.den=!y.den:=by simp only[BT.den];cases x.den<;>cases y.den<;>simp
@[simp] theorem KW (s t:List UInt8):(BT.seq s t).den=true↔s=t:=by simp[BT.den]
@[simp] theorem CJ (s t:List UInt8):(BT.seq s t).den=false↔s≠t:=by simp[BT.den]
theorem wrap64{n:Int}(h1:-9223372036854775808<=n)(h2:n<=9223372036854775807):IntKind.i64.wrap n=n:=IntWalk.i64_in _ ⟨by omega,by omega⟩
open Go Go.RowKit
theorem C6{P:Program}{gl:List (Nat×SV)}{f:FuncId}{as:List SV}{r:SV}
  (h:∀(E:Env) (B:Bs) (w:World) (bB:List Value),Ep B gl->B8 B E w->B.w0=w->A1 E w as bB->Calls P f ⟨bB⟩ w λe w'=>∃v,e=.returned v/\(∀E,Rel E w' r v)/\Below w.heap.size w w'):Em P gl f as [] r []:=by
 intro B E w bB xG hI eM hb hg hh hr;refine (h E B w bB hg hb xG hr).mono λe w' hq=>?_;obtain⟨v,rfl,hv,hB⟩:=hq;refine⟨v,E,rfl,?_,λh aA=>absurd aA (by simp),hv E⟩;refine⟨hB.os.trans hb.os,hB.tape.trans hb.tape,hB.output.trans hb.output,XO hb.size hB.size,λb aA hx=>?_,λb o h0=>?_,λb o hi=>XR (hb.eJ b o hi) hB.size,hb.cE,λb h ho=>⟨XR (hb.dG b h ho).1 hB.size,(hb.dG b h ho).2⟩,hb.cS⟩
 .rw[hB.block b (by rw[<-xG];exact aA)];exact hb.old b aA hx
 .have h1:=hb.I0 b o h0
  refine⟨h1.1,?_⟩;rw[hB.cell (p:=⟨b,o,none⟩) (hb.eJ b o h1.1)];exact h1.2
theorem Jx{E:Env}{w:World}{s:List UInt8}{v:Value}(h:Rel E w (.str s) v):v=.string (bytes s):=by
 cases h with
 |ro h=>cases h with
  |str h=>exact h
theorem Tj{E:Env}{w:World}{k:IntKind}{t:ST}{v:Value}(h:Rel E w (.int k t) v):v=.int k t.den:=by
 cases h with
 |ro h=>cases h with
  |int h=>rw[h]
theorem Acb{E:Env}{w:World}{a:SV}{bB:List Value}(h:A1 E w [a] bB):∃v,bB=[v]/\Rel E w a v:=by
 match bB,h with
 | [v],h=>exact⟨v,rfl,h.2 0 a v rfl rfl⟩
 | [],h=>exact absurd h.1 (by simp)
 |_ :: _ :: _,h=>exact absurd h.1 (by simp)
theorem I4{E:Env}{w:World}{a b:SV}{bB:List Value}(h:A1 E w [a,b] bB):∃v u,bB=[v,u]/\Rel E w a v/\Rel E w b u:=by
 match bB,h with
 | [v,u],h=>exact⟨v,u,rfl,h.2 0 a v rfl rfl,h.2 1 b u rfl rfl⟩
 | [],h=>exact absurd h.1 (by simp)
 | [_],h=>exact absurd h.1 (by simp)
 |_ :: _ :: _ :: _,h=>exact absurd h.1 (by simp)
def nE(cs dK:List SV):Prop:=∀(E:Env) (w:World) (vs:List Value),A1 E w cs vs->A1 E w dK vs
theorem nE.nil:nE [] []:=λ_ _ _ h=>h
theorem nE.refl(cs:List SV):nE cs cs:=λ_ _ _ h=>h
theorem nE.cons{c c':SV}{cs dK:List SV}(h:fE c c')(hs:nE cs dK):nE (c :: cs) (c' :: dK):=by
 intro E w vs hr
 match vs,hr with
 |v :: vs,hr =>
  exact .cons (h E w v (hr.2 0 c v rfl rfl)) (hs E w vs ⟨by have:=hr.1;simpa using this,λi s v a b=>hr.2 (i+1) s v (by simpa using a) (by simpa using b)⟩)
 | [],hr=>exact absurd hr.1 (by simp)
theorem fE.agg{cs dK:List SV}(h:nE cs dK):fE (.agg cs) (.agg dK):=by
 intro E w v hr;obtain⟨vs,rfl,hl⟩:=hr.cW;exact (h E w vs hl).agg
theorem fE.tup{cs dK:List SV}(h:nE cs dK):fE (.tup cs) (.tup dK):=by
 intro E w v hr;obtain⟨vs,rfl,hl⟩:=hr.gT;have:=h E w vs hl;exact .tup this.1 this.2
theorem fE.sl{nl nK:BT}{n n':ST}{sz:Nat}{f f':Nat->List SV}(h1:nl.den=nK.den)(h2:n.den=n'.den)(h:∀i:Nat,(i:Int)<n.den->f i=f' i):fE (.sl nl n sz f) (.sl nK n' sz f'):=by
 intro E w v hr;have hr:=hr.aS;rcases hr.aS with⟨rfl,e0,e1⟩|⟨a,m,cap,g,rfl,e1,e2,e3,OQ,e4,e5,yp,e6,e7⟩
 .exact .ro (.slnil (by rw[<-h1];exact e1) (by rw[<-h2];exact e0))
 .have hf:∀i,i<m->f' i=f i:=λi hi=>(h i (by omega)).symm
  exact .ro (.sl g (by rw[<-h1];exact e1) (by rw[<-h2];exact e2) e3 OQ e4 (λi hi=>by rw[hf i hi];exact e5 i hi) yp e6 (λi j s hi hs=>by rw[hf i hi]at hs;exact e7 i j s hi hs))
theorem vT.cons{l l':Hl}{ls aI:List Hl}(h:∀(k:Nat) (E:Env) (w:World),bO E w k l->bO E w k l')(hs:∀(k i:Nat) (E:Env) (w:World),bO E w k (Ap ls i)->bO E w k (Ap aI i)):∀(k i:Nat) (E:Env) (w:World),bO E w k (Ap (l :: ls) i)->bO E w k (Ap (l' :: aI) i)
 |k,0,E,w,hk=>h k E w hk
 |k,i+1,E,w,hk=>hs k i E w hk
theorem u0{ls aI:List Hl}(hs:∀(k i:Nat) (E:Env) (w:World),bO E w k (Ap ls i)->bO E w k (Ap aI i)):vT ls aI:=λh E w hk=>hs h h E w hk
theorem Fb{s s':SV}(h:fE s s'):Fin s s' [] []:=⟨h,vT.refl [],QK _⟩
theorem Add{nl nK:BT}{n n':ST}{h:Nat}(h1:nl.den=nK.den)(h2:n.den=n'.den):fE (.bY nl n h) (.bY nK n' h):=by
 intro E w v hr;obtain⟨⟨a,m,c,t1,t2,t3⟩,a0,m0,c0,q1,q2,q3⟩:=hr.iO;exact .bY ⟨a,m,c,t1,by rw[<-h2];exact t2,by rw[<-h1];exact t3⟩ ⟨a0,m0,c0,q1,by rw[<-h2];exact q2,by rw[<-h2];exact q3⟩
theorem db{ty:TypeId}{n n':ST}{sz:Nat}{gr:Bool}{f f':Nat->List SV}(h2:n.den=n'.den)(h:∀i:Nat,(i:Int)<n.den->f i=f' i)(k:Nat)(E:Env)(w:World)(hk:bO E w k (.own ty n sz gr f)):bO E w k (.own ty n' sz gr f'):=by
 obtain⟨v,m,xs,k1,kz,k2,k3,k4,k5,k6⟩:=hk;have hf:∀i,i<m->f' i=f i:=λi hi=>(h i (by omega)).symm;exact⟨v,m,xs,k1,kz,k2,by rw[<-h2];exact k3,k4,⟨λi hi=>by rw[hf i hi];exact k5.1 i hi,λi j s u hi hs=>by rw[hf i hi]at hs;exact k5.2 i j s u hi hs⟩,k6⟩
theorem V8{s s':SV}{ty:TypeId}{n n':ST}{sz:Nat}{gr:Bool}{f f':Nat->List SV}(h:fE s s')(h2:n.den=n'.den)(hf:∀i:Nat,(i:Int)<n.den->f i=f' i):Fin s s' [.own ty n sz gr f] [.own ty n' sz gr f'] :=
 ⟨h,u0 (vT.cons (db h2 hf) λ_ _ _ _ h=>h),QK _⟩
theorem Cs{k:IntKind}{t t':ST}(h:t.den=t'.den):fE (.int k t) (.int k t'):=by
 intro E w v hr;rw[hr.aW];exact .int h.symm
theorem RJ{t t':BT}(h:t.den=t'.den):fE (.bool t) (.bool t'):=by
 intro E w v hr;rw[hr.bG];exact .bool h.symm
end Go.Sx
