/- A part of the proof: contracts of functions, or the executor and its soundness. No conditions. -/
import Derived.CallsIn
import Derived.RangeFuncRecord
import Derived.TacticsIn
import Derived.OrdersIn
import Derived.ControlIn
import Derived.Test.YtdoogdbjiijifaaGreatDoorE8Pak
namespace Go.Sx
open Go
section
variable {P:Program} {cx:Cx} {σ:Sy} {T:List Nat} {o:Oper} {K:Out->Prop}
theorem Pl{gm:List BT}{g:Option Nat}{T:List Nat}(h:∀i,g=some i->∃c,nth gm i=some c/\c.den=true)(hT:Bh (Ac gm T)):Bh (Ac gm (g.toList++T)):=by
 cases g with
 |none=>simpa using hT
 |some i =>
  obtain⟨c,h1,h2⟩:=h i rfl;simp only[Option.toList_some,List.singleton_append,Ac,ZU,h1,Bh];exact⟨h2,hT⟩
theorem Te(wf:tF σ){c x y:Operand}(ho:o.op=.pick c x y)(h:Tf cx σ T c x y K):∃r,K r/\Local P cx.gl σ T o r:=by
 unfold Tf at h
 split at h
 .rename_i s
  have mc:(Operand.tmp s)∈o.op.operands.toList:=by simp[ho,Op.operands]
  have mx:x∈o.op.operands.toList:=by simp[ho,Op.operands]
  have my:y∈o.op.operands.toList:=by simp[ho,Op.operands]
  have np:∀ {B:Bs} {N:Nat} {E:Env} {a:Act} {w:World} {ff:Nat->SG} {hf:Nat->Hl} {tg:List Nat} {gt gf:Option Nat} {ct:BT},Au σ.fr s=some ⟨tg,gt,gf,.bool ct⟩->V4 tg T=true->St B N E a w ff hf->DJ σ ff o->Bh (Ac σ.gm T)->a.eval (.tmp s)=.bool ct.den:=by
   intro B N E a w ff hf tg gt gf ct iX hs st ag hT;have h1:=st.slot s;rw[Ak ag mc s (by simp[Ct]),Bd,iX]at h1;simp only[QP,Bk]at h1;exact (h1.2.1 (Adi hs hT)).bI
  split at h
  .rename_i tg gt gf iX
   split at h
   .rename_i hs
    obtain⟨v,hv,h⟩:=Gd h;refine⟨_,h,λB N E a w ff hf hg st ag bK hT=>?_⟩;refine Ad st (v:=a.eval x) ?_ rfl (Aa hv hg st (Ak ag mx) hT);simp[execOp,ho,np iX hs st ag hT,asBool,BT.den]
   .exact h.elim
  .rename_i tg gt gf iX
   split at h
   .rename_i hs
    obtain⟨v,hv,h⟩:=Gd h;refine⟨_,h,λB N E a w ff hf hg st ag bK hT=>?_⟩;refine Ad st (v:=a.eval y) ?_ rfl (Aa hv hg st (Ak ag my) hT);simp[execOp,ho,np iX hs st ag hT,asBool,BT.den]
   .exact h.elim
  .rename_i tg gt gf ct _ _ iX
   split at h
   .rename_i hs
    have ht:∀i,gt=some i->ct.den=true->∃c,nth σ.gm i=some c/\c.den=true:=λi hi hd=>by
     obtain⟨c,q1,q2⟩:=wf.gt s _ i iX hi;cases q1;exact⟨_,q2,hd⟩
    have cY:∀i,gf=some i->ct.den=false->∃c,nth σ.gm i=some c/\c.den=true:=λi hi hd=>by
     obtain⟨c,q1,q2⟩:=wf.gf s _ i iX hi;cases q1;exact⟨_,q2,by simp[BT.den,hd]⟩
    split at h
    .rename_i bx h1 h2
     refine⟨_,h,λB N E a w ff hf hg st ag bK hT=>?_⟩;refine Ad st (v:=.bool (ct.den&&bx.den)) ?_ rfl (.bool rfl);have hc:=np iX hs st ag hT;cases hd:ct.den with
     |true =>
      have:=(Aa h1 hg st (Ak ag mx) (Pl (λi hi=>ht i hi hd) hT)).bI;simp[execOp,ho,hc,asBool,hd,this]
     |false =>
      have:=(Aa h2 hg st (Ak ag my) (Pl (λi hi=>cY i hi hd) hT)).bI;simp[execOp,ho,hc,asBool,hd,this,BT.den]
    .rename_i y' _ h1 h2
     refine⟨_,h,λB N E a w ff hf hg st ag bK hT=>?_⟩;refine Ad st (v:=.bool (ct.den||y'.den)) ?_ rfl (.bool rfl);have hc:=np iX hs st ag hT;cases hd:ct.den with
     |true =>
      have:=(Aa h1 hg st (Ak ag mx) (Pl (λi hi=>ht i hi hd) hT)).bI;simp[execOp,ho,hc,asBool,hd,this,BT.den]
     |false =>
      have:=(Aa h2 hg st (Ak ag my) (Pl (λi hi=>cY i hi hd) hT)).bI;simp[execOp,ho,hc,asBool,hd,this]
    .exact h.elim
   .exact h.elim
  .exact h.elim
 .exact h.elim
theorem PS{ro:Option Nat}{n:Nat}{o:Oper}{a:Act}{w:World}{K:Act->World->Prop}{Q:Exit->Act->World->Prop}(h:o.wp P a w K Q)(hd:∀c,o.op≠.defer c):o.wpIn (Fr ro) n P a w K Q:=by
 refine⟨λ_ _=>trivial,?_⟩;rw[show (Fr ro).round=ro from rfl,Oper.semAt_eq _ _ _ hd];unfold Oper.wp at h
 generalize (execOp a.eval o).run P w=r at *
 cases r with
 |ok nx w' =>
  cases nx with
  |value v=>exact h
  |skip=>exact h
  |defer d=>exact h
  |enter f args=>exact⟨by simp[Fr,Fence.wide],(callsIn_wide (n:=n-1)).2 h⟩
  |row row args=>exact⟨by simp[Fr,Fence.wide],λc cs _=>let ⟨v,w1,r,s⟩:=h c cs;⟨v,w1,r,stepsIn_wide.2 s⟩⟩
  |_=>exact h.elim
 |halt st w' =>
  cases st with
  |panic v=>exact h
  |_=>exact h.elim
def Vx(P:Program)(gl:List (Nat×SV))(σ:Sy)(T:List Nat)(o:Oper)(r:Out):Prop :=
 ∀(B:Bs) (N:Nat) (E:Env) (a:Act) (w:World) (ff:Nat->SG) (hf:Nat->Hl),Fh B gl->St B N E a w ff hf->DJ σ ff o->AU σ.hp hf r->Bh (Ac σ.gm T)->
  ∀(ro:Option Nat) (nn:Nat) (K':Act->World->Prop) (Q:Exit->Act->World->Prop),
  (∀v w' E',Ext E w E' w'->Cl B E' w'->(∀h,bQ E' w' h (Hy hf r.fK h))->Rel E' w' r.v v->K' (a.put o.dst v) w')->o.wpIn (Fr ro) nn P a w K' Q
theorem Local.toY{r:Out}(h:Local P cx.gl σ T o r)(hd:∀c,o.op≠.defer c):Vx P cx.gl σ T o r :=
 λB N E a w ff hf g st ag bK hT _ _ K' Q hK=>PS (h B N E a w ff hf g st ag bK hT K' Q hK) hd
theorem N0{op:Op}{h:Nat}{c:Call}(hy:yieldOf cx σ T op=some (h,c)):op=.call c/\∃s,c.callee=.value (.tmp s)/\rd cx σ T (.tmp s)=some (.yv h):=by
 unfold yieldOf at hy
 split at hy
 .split at hy
  .split at hy
   .rename_i c0 _ s hs _ h0 hr
    simp only[Option.some.injEq,Prod.mk.injEq]at hy;obtain⟨rfl,rfl⟩:=hy;exact⟨rfl,s,hs,hr⟩
   .cases hy
  .cases hy
 .cases hy
theorem Rel.yI{E:Env}{w:World}{h:Nat}{v:Value}(hr:Rel E w (.yv h) v):∃b,E.β h=some b/\v=.func (.yield b) #[] #[]:=by
 cases hr with
 |ro h=>cases h
 |yv hb hv=>exact⟨_,hb,hv⟩
theorem Kt(hc:Az P cx)(fM:Vw P cx){h:Nat}{c:Call}(hy:yieldOf cx σ T o.op=some (h,c))(hs:Mc cx σ T h c K):∃r,K r/\Vx P cx.gl σ T o r:=by
 obtain⟨ho,s,aP,hrd⟩:=N0 hy;unfold Mc at hs
 split at hs
 .rename_i vs Y hv hyl
  have hY:=fM.yl Y (by rw[hyl];exact XA ..);unfold F9 at hs;rw[hc.D]at hs;obtain⟨DM,rX⟩:∃x,x=loose.aH (norm.aM dn (.yv h :: vs)):=⟨_,rfl⟩;simp only[<-rX]at hs;obtain⟨cA,bu⟩:∃x,x=reach σ.hp σ.hp (L9 [] (iA.tS DM)):=⟨_,rfl⟩;simp only[<-bu]at hs;obtain⟨BN,sB⟩:∃x,x=Ux dn σ.hp cA:=⟨_,rfl⟩;simp only[<-sB]at hs
  split at hs
  .rename_i h3
   simp only[QE]at h3;obtain⟨⟨⟨⟨c1,c2⟩,c3⟩,c4⟩,c5⟩:=h3;obtain⟨r,aK,⟨k1,k2⟩,sZ⟩:=hY _ _ _ hs;simp only[QE]at k1;obtain⟨⟨⟨k3,k4⟩,k5⟩,k6⟩:=k1;have k3:=XJ k3;simp only[Af cA,Af aK,Af σ.hp,A8,Bi,Ke]at k3 k5 k6 k2 sZ;rw[Af]at c4;refine⟨_,k2,λB N E a w ff hf g st ag bK hT ro nn K' Q hK=>?_⟩;have eT:∀t∈Ct (.tmp s),ff t=Bd σ t:=Ak ag (by simp[ho,Op.operands,Call.operands,aP]);have jB:=D9 trivial g st hT c.args.toList c.argTypes.toList vs (λx hx=>Ak ag (by simp only[ho,Op.operands,Call.operands];simp;exact .inr (by simpa using hx))) hv;have hfv:=Aa hrd g st eT hT;obtain⟨b,hb,pK⟩:=hfv.yI;have hG:=Nr (cx:=cx) (G:=YG P) (hp:=σ.hp) (λus w R R' h hc=>by
    obtain⟨l,args,r,q1,q2,q3,q4⟩:=hc;exact⟨l,args,r,q1,q2,q3,λro nn=>(q4 ro nn).mono h⟩) rX sB ((Ht _).1 c1) ((Ho _ _).1 c2) c3 ((Gv _ _).1 c4) ((G3 _ _).1 c5) sZ k3 k4 ((Gv _ _).1 k5) ((On _ _).1 k6) g st.base st.heap bK (.cons hfv jB)
   obtain⟨l,args,rr,q1,q2,q3,q4⟩:=hG;rw[pK]at q1;simp only[List.cons.injEq,Value.func.injEq,Fn.yield.injEq,and_true]at q1;obtain⟨rfl,rfl⟩:=q1;have aV:(execOp a.eval o).run P w=.ok (.round b rr.fn ((rr.params.zip (⟨c.args.toList.map a.eval⟩:Array Value)).foldl (λtmps (t,a)=>tmps.setIfInBounds t a) rr.tmps) rr.assign rr.body) w:=by
    have gP:(⟨c.args.toList.map a.eval⟩:Array Value)=c.args.map a.eval:=by apply XU;simp
    rw[gP];have:=run_yield (P:=P) (args:=c.args.map a.eval) q2 (by rw[<-q3];simp);refine Eq.trans ?_ this;simp[execOp,ho,resolve,aP,pK,Deferred.ofValue,invoke]
   refine⟨λ_ _=>trivial,?_⟩;rw[show (Fr ro).round=ro from rfl,Oper.semAt_eq _ _ _ (λc' e=>by rw[ho]at e;cases e),aV,Oper.uponIn_round];refine⟨by simp[Fr,Fence.wide],(q4 ro (nn-1)).mono ?_⟩;rintro e w' ⟨v,E',rfl,h1,h2,h3,h4⟩;exact hK v w' E' h1 h2 h3 h4
  .exact hs.elim
 .exact hs.elim
theorem Iq(hc:Az P cx)(bS:Et P cx.gl cx.eD)(fM:Vw P cx)(wf:tF σ)(h:N7 cx σ T o K):∃r,K r/\((∀c,o.op≠.defer c)->Vx P cx.gl σ T o r):=by
 unfold N7 at h
 split at h
 .rename_i c x y ho
  obtain⟨r,k,l⟩:=Te wf ho h;exact⟨r,k,λoP=>l.toY oP⟩
 .split at h
  .rename_i hy
   obtain⟨r,k,l⟩:=Kt hc fM hy h;exact⟨r,k,λ_=>l⟩
  .obtain⟨r,k,l⟩:=Yl hc bS h
   exact⟨r,k,λoP=>l.toY oP⟩
inductive Z3(P:Program)(gl:List (Nat×SV))(all:List Oper):List Oper->Sy->List (Option (Sy×List Nat×Out))->Sy->Prop where
 |nil (σ:Sy):Z3 P gl all [] σ [] σ
 |skip {o:Oper} {os:List Oper} {σ aL:Sy} {rs:List (Option (Sy×List Nat×Out))} (hg:guardOf all σ o.guard=some none) (h:Z3 P gl all os ⟨cM σ.fr o.dst none,σ.hp,σ.gm⟩ rs aL):Z3 P gl all (o :: os) σ (none :: rs) aL
 |step {o:Oper} {os:List Oper} {σ dS aL:Sy} {T:List Nat} {r:Out} {rs:List (Option (Sy×List Nat×Out))} (hg:guardOf all σ o.guard=some (some (dS,T))) (hl:Vx P gl dS T o r) (he:Jh dS.hp r.fK=true) (kJ:(T=[]\/r.fK=[]\/Bh (Ac dS.gm T))/\∀c,o.op≠.defer c)
   (h:Z3 P gl all os ⟨cM dS.fr o.dst (some ⟨T,none,none,r.v⟩),Lw dS.hp r.fK,dS.gm⟩ rs aL):Z3 P gl all (o :: os) σ (some (dS,T,r) :: rs) aL
theorem tF.cM{σ:Sy}(wf:tF σ)(d:Option Nat)(g:Option G)(hg:∀g',g=some g'->(∀i∈g'.tg,i<σ.gm.length)/\g'.gt=none/\g'.gf=none)(hp:List Hl):tF ⟨cM σ.fr d g,hp,σ.gm⟩:=by
 have key:∀s g',Au (Sx.cM σ.fr d g) s=some g'->g=some g'\/Au σ.fr s=some g':=by
  intro s g' h;cases d with
  |none=>exact .inr h
  |some k =>
   simp only[Sx.cM,B5]at h
   split at h
   .exact .inl h
   .exact .inr h
 refine⟨λs g' h i hi=>?_,λs g' i h hi=>?_,λs g' i h hi=>?_⟩
 .rcases key s g' h with h|h
  .exact (hg g' h).1 i hi
  .exact wf.tg s g' h i hi
 .rcases key s g' h with h|h
  .rw[(hg g' h).2.1]at hi;cases hi
  .exact wf.gt s g' i h hi
 .rcases key s g' h with h|h
  .rw[(hg g' h).2.2]at hi;cases hi
  .exact wf.gf s g' i h hi
def tC:Option (Sy×List Nat×Out)->FP
 |none=>⟨[],[],[]⟩
 |some (_,_,r)=>Ws r
theorem Cq(hc:Az P cx)(bS:Et P cx.gl cx.eD)(fM:Vw P cx){all:List Oper}{ops:Array Oper}(iW:ops.toList=all):∀(os:List Oper) (fs:List FP) (σ:Sy) (K:List FP->Sy->Prop),tF σ->Ey cx all os fs σ K->∃rs aL,Z3 P cx.gl all os σ rs aL/\tF aL/\K (fs++rs.map tC) aL
 | [],fs,σ,K,wf,h=>⟨[],σ,.nil σ,wf,by simpa[Ey] using h⟩
 |o :: os,fs,σ,K,wf,h=>by
  unfold Ey at h
  split at h
  .exact h.elim
  .rename_i hg
   obtain⟨rs,aL,h1,h2,h3⟩:=Cq hc bS fM iW os _ _ K (wf.cM o.dst none (by simp) σ.hp) h;exact⟨_,aL,.skip hg h1,h2,by simpa[tC] using h3⟩
  .rename_i dS T hg
   obtain⟨w1,w2,w3,w4,w5,w6⟩:=Hg iW hg wf
   split at h
   .rename_i hh c i hy
    have oP:∀c,o.op≠.defer c:=λc' e=>by rw[(N0 hy).1]at e;cases e
    split at h
    .rename_i b hb
     rw[hc.D]at h;have dD:Ac dS.gm [i]=[b]:=by simp only[Ac,ZU,hb,XZ]
     by_cases sL:b.den=true
     .obtain⟨r,hk,hl⟩:=Kt hc fM hy (h.1 sL)
      split at hk
      .rename_i he
       obtain⟨rs,aL,h1,h2,h3⟩:=Cq hc bS fM iW os _ _ K (w1.cM o.dst (some ⟨[i],none,none,r.v⟩) (by rintro g' ⟨⟩;exact⟨w5,rfl,rfl⟩) _) hk;exact⟨_,aL,.step hg hl he ⟨.inr (.inr (by rw[dD];exact⟨sL,trivial⟩)),oP⟩ h1,h2,by simpa[tC] using h3⟩
      .exact hk.elim
     .have hk:=h.2 (by show b.den=false;simpa using sL)
      obtain⟨rs,aL,h1,h2,h3⟩:=Cq hc bS fM iW os _ _ K (w1.cM o.dst (some ⟨[i],none,none,.bool (.l true)⟩) (by rintro g' ⟨⟩;exact⟨w5,rfl,rfl⟩) _) hk;exact⟨_,aL,.step (r:=⟨.bool (.l true),[],[],[]⟩) hg (λ_ _ _ _ _ _ _ _ _ _ _ hT=>by rw[dD]at hT;exact absurd hT.1 sL) rfl ⟨.inr (.inl rfl),oP⟩ h1,h2,by simpa[tC] using h3⟩
    .exact h.elim
   split at h
   .rename_i d i jL _
    have oP:∀c,o.op≠.defer c:=λc' e=>by unfold Zu at jL;rw[e]at jL;cases jL
    split at h
    .rename_i b hb
     rw[hc.D]at h;have dD:Ac dS.gm [i]=[b]:=by simp only[Ac,ZU,hb,XZ]
     by_cases sL:b.den=true
     .obtain⟨r,hk,hl⟩:=Iq hc bS fM w1 (h.1 sL)
      split at hk
      .rename_i he
       obtain⟨rs,aL,h1,h2,h3⟩:=Cq hc bS fM iW os _ _ K (w1.cM o.dst (some ⟨[i],none,none,r.v⟩) (by rintro g' ⟨⟩;exact⟨w5,rfl,rfl⟩) _) hk;exact⟨_,aL,.step hg (hl oP) he ⟨.inr (.inr (by rw[dD];exact⟨sL,trivial⟩)),oP⟩ h1,h2,by simpa[tC] using h3⟩
      .exact hk.elim
     .have hk:=h.2 (by show b.den=false;simpa using sL)
      obtain⟨rs,aL,h1,h2,h3⟩:=Cq hc bS fM iW os _ _ K (w1.cM o.dst (some ⟨[i],none,none,d⟩) (by rintro g' ⟨⟩;exact⟨w5,rfl,rfl⟩) _) hk;exact⟨_,aL,.step (r:=⟨d,[],[],[]⟩) hg (λ_ _ _ _ _ _ _ _ _ _ _ hT=>by rw[dD]at hT;exact absurd hT.1 sL) rfl ⟨.inr (.inl rfl),oP⟩ h1,h2,by simpa[tC] using h3⟩
    .exact h.elim
   .rename_i d i j jL _
    have oP:∀c,o.op≠.defer c:=λc' e=>by unfold Zu at jL;rw[e]at jL;cases jL
    split at h
    .rename_i b c hb CF
     rw[hc.D]at h;have dD:Ac dS.gm [i,j]=[b,c]:=by simp only[Ac,ZU,hb,CF,XZ]
     by_cases sL:(b.den&&c.den)=true
     .obtain⟨r,hk,hl⟩:=Iq hc bS fM w1 (h.1 sL)
      have IN:=Bool.and_eq_true_iff.1 sL
      split at hk
      .rename_i he
       obtain⟨rs,aL,h1,h2,h3⟩:=Cq hc bS fM iW os _ _ K (w1.cM o.dst (some ⟨[i,j],none,none,r.v⟩) (by rintro g' ⟨⟩;exact⟨w5,rfl,rfl⟩) _) hk;exact⟨_,aL,.step hg (hl oP) he ⟨.inr (.inr (by rw[dD];exact⟨IN.1,IN.2,trivial⟩)),oP⟩ h1,h2,by simpa[tC] using h3⟩
      .exact hk.elim
     .have hk:=h.2 (by show (b.den&&c.den)=false;simpa using sL)
      obtain⟨rs,aL,h1,h2,h3⟩:=Cq hc bS fM iW os _ _ K (w1.cM o.dst (some ⟨[i,j],none,none,d⟩) (by rintro g' ⟨⟩;exact⟨w5,rfl,rfl⟩) _) hk;exact⟨_,aL,.step (r:=⟨d,[],[],[]⟩) hg (λ_ _ _ _ _ _ _ _ _ _ _ hT=>by rw[dD]at hT;exact absurd (Bool.and_eq_true_iff.2 ⟨hT.1,hT.2.1⟩) sL) rfl ⟨.inr (.inl rfl),oP⟩ h1,h2,by simpa[tC] using h3⟩
    .exact h.elim
   obtain⟨r,hk,hl⟩:=Iq hc bS fM w1 h
   split at hk
   .rename_i he
    simp only[QE,XR,List.isEmpty_iff]at he;obtain⟨⟨he,kJ⟩,oP⟩:=he;have oP:∀c,o.op≠.defer c:=λc e=>by unfold Abh at oP;rw[e]at oP;cases oP
    obtain⟨rs,aL,h1,h2,h3⟩:=Cq hc bS fM iW os _ _ K (w1.cM o.dst (some ⟨_,none,none,r.v⟩) (by rintro g' ⟨⟩;exact⟨w5,rfl,rfl⟩) _) hk;exact⟨_,aL,.step hg (hl oP) he ⟨kJ.elim .inl λh=>.inr (.inl h),oP⟩ h1,h2,by simpa[tC] using h3⟩
   .exact hk.elim
theorem Adm(hp:List Hl)(r:Out):AU hp (Aq hp) r :=
 ⟨λ_ _=>rfl,λ_ _ _ cs h=>⟨cs,h,rfl,λ_ _ _=>rfl⟩,λe _=>by cases e with
  |set h off vs=>exact λty cs h=>⟨cs,h,rfl⟩
  |put h hl=>rfl⟩
structure bR(B:Bs)(N:Nat)(E:Env)(a:Act)(w:World)(σ:Sy):Prop where
 st:St B N E a w (Bd σ) (Aq σ.hp)
 len:σ.fr.length=N
 wf:tF σ
 ge:∀h,B.cL h≠none\/B.nX h≠none\/B.nY h≠none->h<σ.hp.length
theorem Lr(fr:List (Option G))(d:Option Nat)(g:Option G):(cM fr d g).length=fr.length:=by
 cases d with
 |none=>rfl
 |some k=>simp[cM,As]
theorem jk(hp:List Hl)(e:Ef):hp.length<=(fa hp e).length:=by
 cases e with
 |set h off vs =>
  simp only[fa]
  split
  .rw[As];simp
  .exact QH _
 |put h hl =>
  simp only[fa,DG]
  split
  .simp
  .rw[As];simp
theorem Oy:∀(es:List Ef) (hp:List Hl),hp.length<=(Lw hp es).length
 | [],_=>QH _
 |e :: es,hp=>XV (jk hp e) (Oy es (fa hp e))
theorem Aav{ro:Option Nat}{n:Nat}{gl:List (Nat×SV)}{all:List Oper}{ops:Array Oper}(iW:ops.toList=all){B:Bs}{N:Nat}(hg:Fh B gl){Q:Exit->Act->World->Prop}{os:List Oper}{σ aL:Sy}{rs:List (Option (Sy×List Nat×Out))}(h:Z3 P gl all os σ rs aL):
  ∀(E:Env) (a:Act) (w:World),bR B N E a w σ->(∀E' a' w',bR B N E' a' w' aL->Q .normal a' w')->wpListIn (Fr ro) n P ops Q os a w:=by
 induction h with
 |nil σ=>intro E a w hs hQ;exact hQ E a w hs
 |skip uD h ih =>
  intro E a w hs hQ;have hw:=O1 iW uD hs.st (λ_ _ _ _ _=>rfl);unfold wpListIn;rw[QA (by simp[hw])];exact⟨λ_ _=>trivial,ih E _ w ⟨hs.st.cM hs.len _ _ none (by simp) _,by rw[Lr];exact hs.len,hs.wf.cM _ none (by simp) _,hs.ge⟩ hQ⟩
 | @step o os σ dS aL T r rs uD hl he kJ h ih =>
  intro E a w hs hQ;obtain⟨w1,w2,w3,w4,w5,_,_,w6⟩:=Hg iW uD hs.wf;have fE:St B N E a w (Bd dS) (Aq dS.hp):=by rw[w2,w3];exact hs.st
  have rW:=w6 B N E a w _ _ hs.st (λ_ _ _ _ _=>rfl);have hlen:dS.fr.length=N:=by rw[w4];exact hs.len
  have kZ:∀h,B.cL h≠none\/B.nX h≠none\/B.nY h≠none->h<(Lw dS.hp r.fK).length:=λh hb=>XP (hs.ge h hb) (by rw[<-w3];exact Oy _ _);unfold wpListIn
  by_cases hT:Bh (Ac dS.gm T)
  .rw[QB (rW.2 hT)]
   refine hl B N E a w _ _ hg fE (λ_ _=>rfl) (Adm _ _) hT _ _ _ _ λv w' E' x1 x2 x3 x4=>?_;refine ih E' _ w' ⟨?_,by rw[Lr];exact hlen,w1.cM _ _ (by rintro g' ⟨⟩;exact⟨w5,rfl,rfl⟩) _,kZ⟩ hQ;have:=fE.step x1 x2 x3;rw[<-Jo _ _ he]at this;exact this.cM hlen _ _ _ (by rintro g' ⟨⟩;exact⟨λ_=>x4,λh=>absurd hT h⟩) _
  .rw[QA (λh=>hT (rW.1 h))]
   refine⟨λ_ _=>trivial,ih E _ w ⟨?_,by rw[Lr];exact hlen,w1.cM _ _ (by rintro g' ⟨⟩;exact⟨w5,rfl,rfl⟩) _,kZ⟩ hQ⟩;have yc:r.fK=[]:=by
    rcases kJ.1 with h|h|h
    .subst h;exact absurd trivial hT
    .exact h
    .exact absurd h hT
   have:=fE.cM hlen o.dst undef (some ⟨T,none,none,r.v⟩) (by rintro g' ⟨⟩;exact⟨λh=>absurd h hT,λ_=>rfl⟩) (Lw dS.hp r.fK);rw[yc]at this ⊢;exact this
theorem Vz{ro:Option Nat}{n:Nat}{id:Nat}{ops:Array Oper}{Q:Exit->Act->World->Prop}{a:Act}{w:World}(h:wpListIn (Fr ro) n P ops Q ops.toList a w):(Code.region id ops false).wpIn (Fr ro) n P Q a w:=wpIn_region_list h
theorem Qj:∀(fr:List (Option G)) (s:Nat),Au (tidy fr) s=match Au fr s with
  |some ⟨[],_,_,v⟩=>some ⟨[],none,none,v⟩
  |_=>none
 | [],s=>by simp[tidy,Au]
 |g :: fr,s=>by
  have ih:=Qj fr;cases s with
  |zero =>
   cases g with
   |none=>rfl
   |some g =>
    obtain⟨tg,gt,gf,v⟩:=g;cases tg<;>rfl
  |succ s =>
   cases g with
   |none=>exact ih s
   |some g =>
    obtain⟨tg,gt,gf,v⟩:=g;cases tg<;>exact ih s
theorem Ul:∀(fr:List (Option G)),(tidy fr).length=fr.length
 | []=>rfl
 |g :: fr=>by
  cases g with
  |none=>simp[tidy,Ul fr]
  |some g =>
   obtain⟨tg,gt,gf,v⟩:=g;cases tg<;>simp[tidy,Ul fr]
theorem bR.tidy{B:Bs}{N:Nat}{E:Env}{a:Act}{w:World}{σ:Sy}(h:bR B N E a w σ):bR B N E a w ⟨Sx.tidy σ.fr,σ.hp,[]⟩:=by
 refine⟨⟨h.st.base,h.st.heap,λs=>?_,h.st.size,h.st.defers⟩,by rw[Ul];exact h.len,⟨λs g hs=>?_,λs g i hs hi=>?_,λs g i hs hi=>?_⟩,h.ge⟩
 .have h1:=h.st.slot s
  simp only[Bd,Qj]at h1 ⊢;cases hs:Au σ.fr s with
  |none=>trivial
  |some g =>
   obtain⟨tg,gt,gf,v⟩:=g;rw[hs]at h1;cases tg with
   |nil=>exact h1
   |cons i tg=>trivial
 all_goals
  simp only[Qj]at hs
  split at hs
  .cases hs;simp at *
  .cases hs
end
end Go.Sx
