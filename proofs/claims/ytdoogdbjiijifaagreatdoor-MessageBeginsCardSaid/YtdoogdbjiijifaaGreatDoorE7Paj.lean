/- A part of the proof: contracts of functions, or the executor and its soundness. No conditions. -/
import Derived.CallsIn
import Derived.RangeFuncRecord
import Derived.TacticsIn
import Derived.OrdersIn
import Derived.ControlIn
import Derived.Test.YtdoogdbjiijifaaGreatDoorE7Pai
namespace Go.Sx
open Go
section
variable {P:Program} {cx:Cx} {σ:Sy} {T:List Nat} {o:Oper} {K:Out->Prop}
theorem Pu{gm:List BT}{g:Option Nat}{T:List Nat}(h:∀i,g=some i->∃c,nth gm i=some c/\c.den=true)(hT:Ba (Ac gm T)):Ba (Ac gm (g.toList++T)):=by
 cases g with
 |none=>simpa using hT
 |some i =>
  obtain⟨c,h1,h2⟩:=h i rfl;simp only[Option.toList_some,YU,Ac,YE,h1,Ba];exact⟨h2,hT⟩
theorem T6(wf:rU σ){c x y:Operand}(ho:o.op=.pick c x y)(h:T7 cx σ T c x y K):∃r,K r/\Local P cx.gl σ T o r:=by
 unfold T7 at h
 split at h
 .rename_i s
  have mc:(Operand.tmp s)∈o.op.operands.toList:=by simp[ho,Op.operands]
  have mx:x∈o.op.operands.toList:=by simp[ho,Op.operands]
  have my:y∈o.op.operands.toList:=by simp[ho,Op.operands]
  have ju:∀ {B:Bs} {N:Nat} {E:Env} {a:Act} {w:World} {ff:Nat->SG} {hf:Nat->Hl} {tg:List Nat} {gt gf:Option Nat} {ct:BT},Au σ.fr s=some ⟨tg,gt,gf,.bool ct⟩->W5 tg T=true->St B N E a w ff hf->DI σ ff o->Ba (Ac σ.gm T)->a.eval (.tmp s)=.bool ct.den:=by
   intro B N E a w ff hf tg gt gf ct iK hs st ag hT;have h1:=st.slot s;rw[Aj ag mc s (by simp[Cw]),A6,iK]at h1;simp only[QO,Bf]at h1;exact (h1.2.1 (Ae3 hs hT)).bG
  split at h
  .rename_i tg gt gf iK
   split at h
   .rename_i hs
    obtain⟨v,hv,h⟩:=Fu h;refine⟨_,h,λB N E a w ff hf hg st ag bJ hT=>?_⟩;refine Ae st (v:=a.eval x) ?_ rfl (Aa hv hg st (Aj ag mx) hT);simp[execOp,ho,ju iK hs st ag hT,asBool,BT.den]
   .exact h.elim
  .rename_i tg gt gf iK
   split at h
   .rename_i hs
    obtain⟨v,hv,h⟩:=Fu h;refine⟨_,h,λB N E a w ff hf hg st ag bJ hT=>?_⟩;refine Ae st (v:=a.eval y) ?_ rfl (Aa hv hg st (Aj ag my) hT);simp[execOp,ho,ju iK hs st ag hT,asBool,BT.den]
   .exact h.elim
  .rename_i tg gt gf ct _ _ iK
   split at h
   .rename_i hs
    have ht:∀i,gt=some i->ct.den=true->∃c,nth σ.gm i=some c/\c.den=true:=λi hi hd=>by
     obtain⟨c,q1,q2⟩:=wf.gt s _ i iK hi;cases q1;exact⟨_,q2,hd⟩
    have cR:∀i,gf=some i->ct.den=false->∃c,nth σ.gm i=some c/\c.den=true:=λi hi hd=>by
     obtain⟨c,q1,q2⟩:=wf.gf s _ i iK hi;cases q1;exact⟨_,q2,by simp[BT.den,hd]⟩
    split at h
    .rename_i bx h1 h2
     refine⟨_,h,λB N E a w ff hf hg st ag bJ hT=>?_⟩;refine Ae st (v:=.bool (ct.den&&bx.den)) ?_ rfl (.bool rfl);have hc:=ju iK hs st ag hT;cases hd:ct.den with
     |true =>
      have:=(Aa h1 hg st (Aj ag mx) (Pu (λi hi=>ht i hi hd) hT)).bG;simp[execOp,ho,hc,asBool,hd,this]
     |false =>
      have:=(Aa h2 hg st (Aj ag my) (Pu (λi hi=>cR i hi hd) hT)).bG;simp[execOp,ho,hc,asBool,hd,this,BT.den]
    .rename_i y' _ h1 h2
     refine⟨_,h,λB N E a w ff hf hg st ag bJ hT=>?_⟩;refine Ae st (v:=.bool (ct.den||y'.den)) ?_ rfl (.bool rfl);have hc:=ju iK hs st ag hT;cases hd:ct.den with
     |true =>
      have:=(Aa h1 hg st (Aj ag mx) (Pu (λi hi=>ht i hi hd) hT)).bG;simp[execOp,ho,hc,asBool,hd,this,BT.den]
     |false =>
      have:=(Aa h2 hg st (Aj ag my) (Pu (λi hi=>cR i hi hd) hT)).bG;simp[execOp,ho,hc,asBool,hd,this]
    .exact h.elim
   .exact h.elim
  .exact h.elim
 .exact h.elim
theorem SU{ro:Option Nat}{n:Nat}{o:Oper}{a:Act}{w:World}{K:Act->World->Prop}{Q:Exit->Act->World->Prop}(h:o.wp P a w K Q)(hd:∀c,o.op≠.defer c):o.wpIn (Fr ro) n P a w K Q:=by
 refine⟨λ_ _=>trivial,?_⟩;rw[show (Fr ro).round=ro from rfl,Oper.semAt_eq _ _ _ hd];unfold Oper.wp at h
 generalize (execOp a.eval o).run P w=r at *
 cases r with
 |ok nx w' =>
  cases nx with
  |value v=>exact h
  |skip=>exact h
  |defer d=>exact h
  |enter f args=>exact⟨by simp[Fr,Fence.wide],(callsIn_wide (n:=n-1)).2 h⟩
  |row row args=>exact⟨by simp[Fr,Fence.wide],λc cs _=>let ⟨v,w1,r,s⟩:=h c cs;⟨v,w1,r,stepsIn_wide.2 s⟩⟩
  |_=>exact h.elim
 |halt st w' =>
  cases st with
  |panic v=>exact h
  |_=>exact h.elim
def W1(P:Program)(gl:List (Nat×SV))(σ:Sy)(T:List Nat)(o:Oper)(r:Out):Prop :=
 ∀(B:Bs) (N:Nat) (E:Env) (a:Act) (w:World) (ff:Nat->SG) (hf:Nat->Hl),Ep B gl->St B N E a w ff hf->DI σ ff o->AQ σ.hp hf r->Ba (Ac σ.gm T)->
  ∀(ro:Option Nat) (nn:Nat) (K':Act->World->Prop) (Q:Exit->Act->World->Prop),
  (∀v w' E',Ext E w E' w'->B8 B E' w'->(∀h,bO E' w' h (Hz hf r.gF h))->Rel E' w' r.v v->K' (a.put o.dst v) w')->o.wpIn (Fr ro) nn P a w K' Q
theorem Local.toY{r:Out}(h:Local P cx.gl σ T o r)(hd:∀c,o.op≠.defer c):W1 P cx.gl σ T o r :=
 λB N E a w ff hf g st ag bJ hT _ _ K' Q hK=>SU (h B N E a w ff hf g st ag bJ hT K' Q hK) hd
theorem N7{op:Op}{h:Nat}{c:Call}(hy:yieldOf cx σ T op=some (h,c)):op=.call c/\∃s,c.callee=.value (.tmp s)/\rd cx σ T (.tmp s)=some (.yv h):=by
 unfold yieldOf at hy
 split at hy
 .split at hy
  .split at hy
   .rename_i c0 _ s hs _ h0 hr
    simp only[Option.some.injEq,Prod.mk.injEq]at hy;obtain⟨rfl,rfl⟩:=hy;exact⟨rfl,s,hs,hr⟩
   .cases hy
  .cases hy
 .cases hy
theorem Rel.wA{E:Env}{w:World}{h:Nat}{v:Value}(hr:Rel E w (.yv h) v):∃b,E.β h=some b/\v=.func (.yield b) #[] #[]:=by
 cases hr with
 |ro h=>cases h
 |yv hb hv=>exact⟨_,hb,hv⟩
theorem Ke(hc:Az P cx)(gH:W0 P cx){h:Nat}{c:Call}(hy:yieldOf cx σ T o.op=some (h,c))(hs:L5 cx σ T h c K):∃r,K r/\W1 P cx.gl σ T o r:=by
 obtain⟨ho,s,aQ,OB⟩:=N7 hy;unfold L5 at hs
 split at hs
 .rename_i vs Y hv hyl
  have hY:=gH.yl Y (by rw[hyl];exact QY ..);unfold Fl at hs;rw[hc.D]at hs;obtain⟨DM,qJ⟩:∃x,x=loose.aF (norm.aN dn (.yv h :: vs)):=⟨_,rfl⟩;simp only[<-qJ]at hs;obtain⟨cC,yH⟩:∃x,x=reach σ.hp σ.hp (Lu [] (iQ.uA DM)):=⟨_,rfl⟩;simp only[<-yH]at hs;obtain⟨BA,qT⟩:∃x,x=Vv dn σ.hp cC:=⟨_,rfl⟩;simp only[<-qT]at hs
  split at hs
  .rename_i h3
   simp only[QB]at h3;obtain⟨⟨⟨⟨⟨c1,c2⟩,c3⟩,c4⟩,c5⟩,c6⟩:=h3;obtain⟨r,aI,⟨k1,k2⟩,rO⟩:=hY _ _ _ hs;simp only[QB]at k1;obtain⟨⟨⟨k3,k4⟩,k5⟩,k6⟩:=k1;have k3:=XA k3;simp only[Af cC,Af aI,Af σ.hp,Ax,A5,J1]at k3 k5 k6 k2 rO;rw[Af]at c4;refine⟨_,k2,λB N E a w ff hf g st ag bJ hT ro nn K' Q hK=>?_⟩;have fH:∀t∈Cw (.tmp s),ff t=A6 σ t:=Aj ag (by simp[ho,Op.operands,Call.operands,aQ]);have iJ:=Ia trivial g st hT c.args.toList c.argTypes.toList vs (λx hx=>Aj ag (by simp only[ho,Op.operands,Call.operands];simp;exact .inr (by simpa using hx))) hv;have hfv:=Aa OB g st fH hT;obtain⟨b,hb,uG⟩:=hfv.wA;have hG:=Ny (cx:=cx) (G:=YG P) (hp:=σ.hp) (λus w R R' h hc=>by
    obtain⟨l,args,r,q1,q2,q3,q4⟩:=hc;exact⟨l,args,r,q1,q2,q3,λro nn=>(q4 ro nn).mono h⟩) qJ qT ((Ht _).1 c1) ((Hf _ _).1 c2) c3 ((Gd _ _).1 c4) ((Gk _ _).1 c5) rO k3 k4 ((Gd _ _).1 k5) ((Oq _ _).1 k6) g st.base st.heap bJ (.cons hfv iJ)
   obtain⟨l,args,rr,q1,q2,q3,q4⟩:=hG;rw[uG]at q1;simp only[List.cons.injEq,Value.func.injEq,Fn.yield.injEq,and_true]at q1;obtain⟨rfl,rfl⟩:=q1;have aG:(execOp a.eval o).run P w=.ok (.round b rr.fn ((rr.params.zip (⟨c.args.toList.map a.eval⟩:Array Value)).foldl (λtmps (t,a)=>tmps.setIfInBounds t a) rr.tmps) rr.assign rr.body) w:=by
    have jO:(⟨c.args.toList.map a.eval⟩:Array Value)=c.args.map a.eval:=by apply XN;simp
    rw[jO];have:=run_yield (P:=P) (args:=c.args.map a.eval) q2 (by rw[<-q3];simp);refine Eq.trans ?_ this;simp[execOp,ho,resolve,aQ,uG,Deferred.ofValue,invoke]
   refine⟨λ_ _=>trivial,?_⟩;rw[show (Fr ro).round=ro from rfl,Oper.semAt_eq _ _ _ (λc' e=>by rw[ho]at e;cases e),aG,Oper.uponIn_round];refine⟨by simp[Fr,Fence.wide],(q4 ro (nn-1)).mono ?_⟩;rintro e w' ⟨v,E',rfl,h1,h2,h3,h4⟩;exact hK v w' E' h1 h2 h3 h4
  .exact hs.elim
 .exact hs.elim
theorem Ms(hc:Az P cx)(bT:Eh P cx.gl cx.fC)(gH:W0 P cx)(wf:rU σ)(h:Tf cx σ T o K):∃r,K r/\((∀c,o.op≠.defer c)->W1 P cx.gl σ T o r):=by
 unfold Tf at h
 split at h
 .rename_i c x y ho
  obtain⟨r,k,l⟩:=T6 wf ho h;exact⟨r,k,λqR=>l.toY qR⟩
 .split at h
  .rename_i hy
   obtain⟨r,k,l⟩:=Ke hc gH hy h;exact⟨r,k,λ_=>l⟩
  .obtain⟨r,k,l⟩:=Zo hc bT h
   exact⟨r,k,λqR=>l.toY qR⟩
inductive mh(P:Program)(gl:List (Nat×SV))(all:List Oper):List Oper->Sy->List (Option (Sy×List Nat×Out))->Sy->Prop where
 |nil (σ:Sy):mh P gl all [] σ [] σ
 |skip {o:Oper} {os:List Oper} {σ aJ:Sy} {rs:List (Option (Sy×List Nat×Out))} (hg:guardOf all σ o.guard=some none) (h:mh P gl all os ⟨dA σ.fr o.dst none,σ.hp,σ.gm⟩ rs aJ):mh P gl all (o :: os) σ (none :: rs) aJ
 |step {o:Oper} {os:List Oper} {σ eI aJ:Sy} {T:List Nat} {r:Out} {rs:List (Option (Sy×List Nat×Out))} (hg:guardOf all σ o.guard=some (some (eI,T))) (hl:W1 P gl eI T o r) (he:Kj eI.hp r.gF=true) (iT:(T=[]\/r.gF=[]\/Ba (Ac eI.gm T))/\∀c,o.op≠.defer c)
   (h:mh P gl all os ⟨dA eI.fr o.dst (some ⟨T,none,none,r.v⟩),Mp eI.hp r.gF,eI.gm⟩ rs aJ):mh P gl all (o :: os) σ (some (eI,T,r) :: rs) aJ
theorem rU.dA{σ:Sy}(wf:rU σ)(d:Option Nat)(g:Option G)(hg:∀g',g=some g'->(∀i∈g'.tg,i<σ.gm.length)/\g'.gt=none/\g'.gf=none)(hp:List Hl):rU ⟨dA σ.fr d g,hp,σ.gm⟩:=by
 have key:∀s g',Au (Sx.dA σ.fr d g) s=some g'->g=some g'\/Au σ.fr s=some g':=by
  intro s g' h;cases d with
  |none=>exact .inr h
  |some k =>
   simp only[Sx.dA,Bo]at h
   split at h
   .exact .inl h
   .exact .inr h
 refine⟨λs g' h i hi=>?_,λs g' i h hi=>?_,λs g' i h hi=>?_⟩
 .rcases key s g' h with h|h
  .exact (hg g' h).1 i hi
  .exact wf.tg s g' h i hi
 .rcases key s g' h with h|h
  .rw[(hg g' h).2.1]at hi;cases hi
  .exact wf.gt s g' i h hi
 .rcases key s g' h with h|h
  .rw[(hg g' h).2.2]at hi;cases hi
  .exact wf.gf s g' i h hi
def uL:Option (Sy×List Nat×Out)->FP
 |none=>⟨[],[],[]⟩
 |some (_,_,r)=>rv r
theorem Di(hc:Az P cx)(bT:Eh P cx.gl cx.fC)(gH:W0 P cx){all:List Oper}{ops:Array Oper}(kC:ops.toList=all):∀(os:List Oper) (fs:List FP) (σ:Sy) (K:List FP->Sy->Prop),rU σ->Fz cx all os fs σ K->∃rs aJ,mh P cx.gl all os σ rs aJ/\rU aJ/\K (fs++rs.map uL) aJ
 | [],fs,σ,K,wf,h=>⟨[],σ,.nil σ,wf,by simpa[Fz] using h⟩
 |o :: os,fs,σ,K,wf,h=>by
  unfold Fz at h
  split at h
  .exact h.elim
  .rename_i hg
   obtain⟨rs,aJ,h1,h2,h3⟩:=Di hc bT gH kC os _ _ K (wf.dA o.dst none (by simp) σ.hp) h;exact⟨_,aJ,.skip hg h1,h2,by simpa[uL] using h3⟩
  .rename_i eI T hg
   obtain⟨w1,w2,w3,w4,w5,w6⟩:=G6 kC hg wf
   split at h
   .rename_i hh c i hy
    have qR:∀c,o.op≠.defer c:=λc' e=>by rw[(N7 hy).1]at e;cases e
    split at h
    .rename_i b hb
     rw[hc.D]at h;have dZ:Ac eI.gm [i]=[b]:=by simp only[Ac,YE,hb,ZN]
     by_cases sS:b.den=true
     .obtain⟨r,hk,hl⟩:=Ke hc gH hy (h.1 sS)
      split at hk
      .rename_i he
       obtain⟨rs,aJ,h1,h2,h3⟩:=Di hc bT gH kC os _ _ K (w1.dA o.dst (some ⟨[i],none,none,r.v⟩) (by rintro g' ⟨⟩;exact⟨w5,rfl,rfl⟩) _) hk;exact⟨_,aJ,.step hg hl he ⟨.inr (.inr (by rw[dZ];exact⟨sS,trivial⟩)),qR⟩ h1,h2,by simpa[uL] using h3⟩
      .exact hk.elim
     .have hk:=h.2 (by show b.den=false;simpa using sS)
      obtain⟨rs,aJ,h1,h2,h3⟩:=Di hc bT gH kC os _ _ K (w1.dA o.dst (some ⟨[i],none,none,.bool (.l true)⟩) (by rintro g' ⟨⟩;exact⟨w5,rfl,rfl⟩) _) hk;exact⟨_,aJ,.step (r:=⟨.bool (.l true),[],[],[]⟩) hg (λ_ _ _ _ _ _ _ _ _ _ _ hT=>by rw[dZ]at hT;exact absurd hT.1 sS) rfl ⟨.inr (.inl rfl),qR⟩ h1,h2,by simpa[uL] using h3⟩
    .exact h.elim
   split at h
   .rename_i d i gd _
    have qR:∀c,o.op≠.defer c:=λc' e=>by unfold Ai3 at gd;rw[e]at gd;cases gd
    split at h
    .rename_i b hb
     rw[hc.D]at h;have dZ:Ac eI.gm [i]=[b]:=by simp only[Ac,YE,hb,ZN]
     by_cases sS:b.den=true
     .obtain⟨r,hk,hl⟩:=Ms hc bT gH w1 (h.1 sS)
      split at hk
      .rename_i he
       obtain⟨rs,aJ,h1,h2,h3⟩:=Di hc bT gH kC os _ _ K (w1.dA o.dst (some ⟨[i],none,none,r.v⟩) (by rintro g' ⟨⟩;exact⟨w5,rfl,rfl⟩) _) hk;exact⟨_,aJ,.step hg (hl qR) he ⟨.inr (.inr (by rw[dZ];exact⟨sS,trivial⟩)),qR⟩ h1,h2,by simpa[uL] using h3⟩
      .exact hk.elim
     .have hk:=h.2 (by show b.den=false;simpa using sS)
      obtain⟨rs,aJ,h1,h2,h3⟩:=Di hc bT gH kC os _ _ K (w1.dA o.dst (some ⟨[i],none,none,d⟩) (by rintro g' ⟨⟩;exact⟨w5,rfl,rfl⟩) _) hk;exact⟨_,aJ,.step (r:=⟨d,[],[],[]⟩) hg (λ_ _ _ _ _ _ _ _ _ _ _ hT=>by rw[dZ]at hT;exact absurd hT.1 sS) rfl ⟨.inr (.inl rfl),qR⟩ h1,h2,by simpa[uL] using h3⟩
    .exact h.elim
   obtain⟨r,hk,hl⟩:=Ms hc bT gH w1 h
   split at hk
   .rename_i he
    simp only[QB,ZB,List.isEmpty_iff]at he;obtain⟨⟨he,iT⟩,qR⟩:=he;have qR:∀c,o.op≠.defer c:=λc e=>by unfold Acy at qR;rw[e]at qR;cases qR
    obtain⟨rs,aJ,h1,h2,h3⟩:=Di hc bT gH kC os _ _ K (w1.dA o.dst (some ⟨_,none,none,r.v⟩) (by rintro g' ⟨⟩;exact⟨w5,rfl,rfl⟩) _) hk;exact⟨_,aJ,.step hg (hl qR) he ⟨iT.elim .inl λh=>.inr (.inl h),qR⟩ h1,h2,by simpa[uL] using h3⟩
   .exact hk.elim
theorem Ae6(hp:List Hl)(r:Out):AQ hp (Ap hp) r :=
 ⟨λ_ _=>rfl,λ_ _ _ cs h=>⟨cs,h,rfl,λ_ _ _=>rfl⟩,λe _=>by cases e with
  |set h off vs=>exact λty cs h=>⟨cs,h,rfl⟩
  |put h hl=>rfl⟩
structure bX(B:Bs)(N:Nat)(E:Env)(a:Act)(w:World)(σ:Sy):Prop where
 st:St B N E a w (A6 σ) (Ap σ.hp)
 len:σ.fr.length=N
 wf:rU σ
 ge:∀h,B.cS h≠none\/B.nF h≠none\/B.nG h≠none->h<σ.hp.length
theorem La(fr:List (Option G))(d:Option Nat)(g:Option G):(dA fr d g).length=fr.length:=by
 cases d with
 |none=>rfl
 |some k=>simp[dA,Ar]
theorem da(hp:List Hl)(e:Ef):hp.length<=(zV hp e).length:=by
 cases e with
 |set h off vs =>
  simp only[zV]
  split
  .rw[Ar];simp
  .exact QK _
 |put h hl =>
  simp only[zV,DH]
  split
  .simp
  .rw[Ar];simp
theorem O1:∀(es:List Ef) (hp:List Hl),hp.length<=(Mp hp es).length
 | [],_=>QK _
 |e :: es,hp=>XO (da hp e) (O1 es (zV hp e))
theorem Ab7{ro:Option Nat}{n:Nat}{gl:List (Nat×SV)}{all:List Oper}{ops:Array Oper}(kC:ops.toList=all){B:Bs}{N:Nat}(hg:Ep B gl){Q:Exit->Act->World->Prop}{os:List Oper}{σ aJ:Sy}{rs:List (Option (Sy×List Nat×Out))}(h:mh P gl all os σ rs aJ):
  ∀(E:Env) (a:Act) (w:World),bX B N E a w σ->(∀E' a' w',bX B N E' a' w' aJ->Q .normal a' w')->wpListIn (Fr ro) n P ops Q os a w:=by
 induction h with
 |nil σ=>intro E a w hs hQ;exact hQ E a w hs
 |skip kW h ih =>
  intro E a w hs hQ;have hw:=O8 kC kW hs.st (λ_ _ _ _ _=>rfl);unfold wpListIn;rw[QD (by simp[hw])];exact⟨λ_ _=>trivial,ih E _ w ⟨hs.st.dA hs.len _ _ none (by simp) _,by rw[La];exact hs.len,hs.wf.dA _ none (by simp) _,hs.ge⟩ hQ⟩
 | @step o os σ eI aJ T r rs kW hl he iT h ih =>
  intro E a w hs hQ;obtain⟨w1,w2,w3,w4,w5,_,_,w6⟩:=G6 kC kW hs.wf;have cM:St B N E a w (A6 eI) (Ap eI.hp):=by rw[w2,w3];exact hs.st
  have qI:=w6 B N E a w _ _ hs.st (λ_ _ _ _ _=>rfl);have hlen:eI.fr.length=N:=by rw[w4];exact hs.len
  have nN:∀h,B.cS h≠none\/B.nF h≠none\/B.nG h≠none->h<(Mp eI.hp r.gF).length:=λh hb=>XR (hs.ge h hb) (by rw[<-w3];exact O1 _ _);unfold wpListIn
  by_cases hT:Ba (Ac eI.gm T)
  .rw[QE (qI.2 hT)]
   refine hl B N E a w _ _ hg cM (λ_ _=>rfl) (Ae6 _ _) hT _ _ _ _ λv w' E' x1 x2 x3 x4=>?_;refine ih E' _ w' ⟨?_,by rw[La];exact hlen,w1.dA _ _ (by rintro g' ⟨⟩;exact⟨w5,rfl,rfl⟩) _,nN⟩ hQ;have:=cM.step x1 x2 x3;rw[<-Jb _ _ he]at this;exact this.dA hlen _ _ _ (by rintro g' ⟨⟩;exact⟨λ_=>x4,λh=>absurd hT h⟩) _
  .rw[QD (λh=>hT (qI.1 h))]
   refine⟨λ_ _=>trivial,ih E _ w ⟨?_,by rw[La];exact hlen,w1.dA _ _ (by rintro g' ⟨⟩;exact⟨w5,rfl,rfl⟩) _,nN⟩ hQ⟩;have hef:r.gF=[]:=by
    rcases iT.1 with h|h|h
    .subst h;exact absurd trivial hT
    .exact h
    .exact absurd h hT
   have:=cM.dA hlen o.dst undef (some ⟨T,none,none,r.v⟩) (by rintro g' ⟨⟩;exact⟨λh=>absurd h hT,λ_=>rfl⟩) (Mp eI.hp r.gF);rw[hef]at this ⊢;exact this
theorem W4{ro:Option Nat}{n:Nat}{id:Nat}{ops:Array Oper}{Q:Exit->Act->World->Prop}{a:Act}{w:World}(h:wpListIn (Fr ro) n P ops Q ops.toList a w):(Code.region id ops false).wpIn (Fr ro) n P Q a w:=wpIn_region_list h
theorem Qv:∀(fr:List (Option G)) (s:Nat),Au (tidy fr) s=match Au fr s with
  |some ⟨[],_,_,v⟩=>some ⟨[],none,none,v⟩
  |_=>none
 | [],s=>by simp[tidy,Au]
 |g :: fr,s=>by
  have ih:=Qv fr;cases s with
  |zero =>
   cases g with
   |none=>rfl
   |some g =>
    obtain⟨tg,gt,gf,v⟩:=g;cases tg<;>rfl
  |succ s =>
   cases g with
   |none=>exact ih s
   |some g =>
    obtain⟨tg,gt,gf,v⟩:=g;cases tg<;>exact ih s
theorem Vk:∀(fr:List (Option G)),(tidy fr).length=fr.length
 | []=>rfl
 |g :: fr=>by
  cases g with
  |none=>simp[tidy,Vk fr]
  |some g =>
   obtain⟨tg,gt,gf,v⟩:=g;cases tg<;>simp[tidy,Vk fr]
theorem bX.tidy{B:Bs}{N:Nat}{E:Env}{a:Act}{w:World}{σ:Sy}(h:bX B N E a w σ):bX B N E a w ⟨Sx.tidy σ.fr,σ.hp,[]⟩:=by
 refine⟨⟨h.st.base,h.st.heap,λs=>?_,h.st.size,h.st.defers⟩,by rw[Vk];exact h.len,⟨λs g hs=>?_,λs g i hs hi=>?_,λs g i hs hi=>?_⟩,h.ge⟩
 .have h1:=h.st.slot s
  simp only[A6,Qv]at h1 ⊢;cases hs:Au σ.fr s with
  |none=>trivial
  |some g =>
   obtain⟨tg,gt,gf,v⟩:=g;rw[hs]at h1;cases tg with
   |nil=>exact h1
   |cons i tg=>trivial
 all_goals
  simp only[Qv]at hs
  split at hs
  .cases hs;simp at *
  .cases hs
end
end Go.Sx
