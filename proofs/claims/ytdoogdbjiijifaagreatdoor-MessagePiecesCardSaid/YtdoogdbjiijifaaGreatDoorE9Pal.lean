/- Lemmas of the proof; no conditions. -/
import Derived.RangeFuncRecord
import Derived.OrdersIn
import Derived.Test.YtdoogdbjiijifaaGreatDoorE9Pak
namespace Go.Sx
open Go
section
variable {P:Program} {cx:Cx} {σ:Sy} {T:List Nat} {o:Oper} {K:Out->Prop}
theorem Pq{gm:List BT}{g:Option Nat}{T:List Nat}(h:∀i,g=some i->∃c,nth gm i=some c/\c.den=true)(hT:Bk (Ac gm T)):Bk (Ac gm (g.toList++T)):=by
 cases g with
 |none=>simpa using hT
 |some i =>
  obtain⟨c,h1,h2⟩:=h i rfl;simp only[Option.toList_some,List.singleton_append,Ac,ZX,h1,Bk];exact⟨h2,hT⟩
theorem Tt(wf:tS σ){c x y:Operand}(ho:o.op=.pick c x y)(h:Tu cx σ T c x y K):∃r,K r/\Local P cx.gl σ T o r:=by
 unfold Tu at h
 split at h
 .rename_i s
  have mc:(Operand.tmp s)∈o.op.operands.toList:=by simp[ho,Op.operands]
  have mx:x∈o.op.operands.toList:=by simp[ho,Op.operands]
  have my:y∈o.op.operands.toList:=by simp[ho,Op.operands]
  have oz:∀ {B:Bs} {N:Nat} {E:Env} {a:Act} {w:World} {ff:Nat->SG} {hf:Nat->Hl} {tg:List Nat} {gt gf:Option Nat} {ct:BT},Ax σ.fr s=some ⟨tg,gt,gf,.bool ct⟩->Wr tg T=true->St B N E a w ff hf->EL σ ff o->Bk (Ac σ.gm T)->a.eval (.tmp s)=.bool ct.den:=by
   intro B N E a w ff hf tg gt gf ct jF hs st ag hT;have h1:=st.slot s;rw[Ak ag mc s (by simp[C4]),Bf,jF]at h1;simp only[QQ,Bn]at h1;exact (h1.2.1 (Ad8 hs hT)).bJ
  split at h
  .rename_i tg gt gf jF
   split at h
   .rename_i hs
    obtain⟨v,hv,h⟩:=Gi h;refine⟨_,h,λB N E a w ff hf hg st ag bL hT=>?_⟩;refine Ad st (v:=a.eval x) ?_ rfl (Ab hv hg st (Ak ag mx) hT);simp[execOp,ho,oz jF hs st ag hT,asBool,BT.den]
   .exact h.elim
  .rename_i tg gt gf jF
   split at h
   .rename_i hs
    obtain⟨v,hv,h⟩:=Gi h;refine⟨_,h,λB N E a w ff hf hg st ag bL hT=>?_⟩;refine Ad st (v:=a.eval y) ?_ rfl (Ab hv hg st (Ak ag my) hT);simp[execOp,ho,oz jF hs st ag hT,asBool,BT.den]
   .exact h.elim
  .rename_i tg gt gf ct _ _ jF
   split at h
   .rename_i hs
    have ht:∀i,gt=some i->ct.den=true->∃c,nth σ.gm i=some c/\c.den=true:=λi hi hd=>by
     obtain⟨c,q1,q2⟩:=wf.gt s _ i jF hi;cases q1;exact⟨_,q2,hd⟩
    have dA:∀i,gf=some i->ct.den=false->∃c,nth σ.gm i=some c/\c.den=true:=λi hi hd=>by
     obtain⟨c,q1,q2⟩:=wf.gf s _ i jF hi;cases q1;exact⟨_,q2,by simp[BT.den,hd]⟩
    split at h
    .rename_i bx h1 h2
     refine⟨_,h,λB N E a w ff hf hg st ag bL hT=>?_⟩;refine Ad st (v:=.bool (ct.den&&bx.den)) ?_ rfl (.bool rfl);have hc:=oz jF hs st ag hT;cases hd:ct.den with
     |true =>
      have:=(Ab h1 hg st (Ak ag mx) (Pq (λi hi=>ht i hi hd) hT)).bJ;simp[execOp,ho,hc,asBool,hd,this]
     |false =>
      have:=(Ab h2 hg st (Ak ag my) (Pq (λi hi=>dA i hi hd) hT)).bJ;simp[execOp,ho,hc,asBool,hd,this,BT.den]
    .rename_i y' _ h1 h2
     refine⟨_,h,λB N E a w ff hf hg st ag bL hT=>?_⟩;refine Ad st (v:=.bool (ct.den||y'.den)) ?_ rfl (.bool rfl);have hc:=oz jF hs st ag hT;cases hd:ct.den with
     |true =>
      have:=(Ab h1 hg st (Ak ag mx) (Pq (λi hi=>ht i hi hd) hT)).bJ;simp[execOp,ho,hc,asBool,hd,this,BT.den]
     |false =>
      have:=(Ab h2 hg st (Ak ag my) (Pq (λi hi=>dA i hi hd) hT)).bJ;simp[execOp,ho,hc,asBool,hd,this]
    .exact h.elim
   .exact h.elim
  .exact h.elim
 .exact h.elim
theorem TA{ro:Option Nat}{n:Nat}{o:Oper}{a:Act}{w:World}{K:Act->World->Prop}{Q:Exit->Act->World->Prop}(h:o.wp P a w K Q)(hd:∀c,o.op≠.defer c):o.wpIn (Fr ro) n P a w K Q:=by
 refine⟨λ_ _=>trivial,?_⟩;rw[show (Fr ro).round=ro from rfl,Oper.semAt_eq _ _ _ hd];unfold Oper.wp at h
 generalize (execOp a.eval o).run P w=r at *
 cases r with
 |ok nx w' =>
  cases nx with
  |value v=>exact h
  |skip=>exact h
  |defer d=>exact h
  |enter f args=>exact⟨by simp[Fr,Fence.wide],(callsIn_wide (n:=n-1)).2 h⟩
  |row row args=>exact⟨by simp[Fr,Fence.wide],λc cs _=>let ⟨v,w1,r,s⟩:=h c cs;⟨v,w1,r,stepsIn_wide.2 s⟩⟩
  |_=>exact h.elim
 |halt st w' =>
  cases st with
  |panic v=>exact h
  |_=>exact h.elim
def Wo(P:Program)(gl:List (Nat×SV))(σ:Sy)(T:List Nat)(o:Oper)(r:Out):Prop :=
 ∀(B:Bs) (N:Nat) (E:Env) (a:Act) (w:World) (ff:Nat->SG) (hf:Nat->Hl),Fm B gl->St B N E a w ff hf->EL σ ff o->CB σ.hp hf r->Bk (Ac σ.gm T)->
  ∀(ro:Option Nat) (nn:Nat) (K':Act->World->Prop) (Q:Exit->Act->World->Prop),
  (∀v w' E',Ext E w E' w'->Cr B E' w'->(∀h,bR E' w' h (H8 hf r.fR h))->Rel E' w' r.v v->K' (a.put o.dst v) w')->o.wpIn (Fr ro) nn P a w K' Q
theorem Local.toY{r:Out}(h:Local P cx.gl σ T o r)(hd:∀c,o.op≠.defer c):Wo P cx.gl σ T o r :=
 λB N E a w ff hf g st ag bL hT _ _ K' Q hK=>TA (h B N E a w ff hf g st ag bL hT K' Q hK) hd
theorem N9{op:Op}{h:Nat}{c:Call}(hy:yieldOf cx σ T op=some (h,c)):op=.call c/\∃s,c.callee=.value (.tmp s)/\rd cx σ T (.tmp s)=some (.yv h):=by
 unfold yieldOf at hy
 split at hy
 .split at hy
  .split at hy
   .rename_i c0 _ s hs _ h0 hr
    simp only[Option.some.injEq,Prod.mk.injEq]at hy;obtain⟨rfl,rfl⟩:=hy;exact⟨rfl,s,hs,hr⟩
   .cases hy
  .cases hy
 .cases hy
theorem Rel.zJ{E:Env}{w:World}{h:Nat}{v:Value}(hr:Rel E w (.yv h) v):∃b,E.β h=some b/\v=.func (.yield b) #[] #[]:=by
 cases hr with
 |ro h=>cases h
 |yv hb hv=>exact⟨_,hb,hv⟩
theorem K0(hc:A4 P cx)(fT:Wn P cx){h:Nat}{c:Call}(hy:yieldOf cx σ T o.op=some (h,c))(hs:Mj cx σ T h c K):∃r,K r/\Wo P cx.gl σ T o r:=by
 obtain⟨ho,s,aR,hrd⟩:=N9 hy;unfold Mj at hs
 split at hs
 .rename_i vs Y hv hyl
  have hY:=fT.yl Y (by rw[hyl];exact XB ..);unfold Gd at hs;rw[hc.D]at hs;obtain⟨EO,sO⟩:∃x,x=loose.aH (norm.aO dn (.yv h :: vs)):=⟨_,rfl⟩;simp only[<-sO]at hs;obtain⟨cC,du⟩:∃x,x=reach σ.hp σ.hp (Mg [] (iJ.uI EO)):=⟨_,rfl⟩;simp only[<-du]at hs;obtain⟨CM,sT⟩:∃x,x=Vg dn σ.hp cC:=⟨_,rfl⟩;simp only[<-sT]at hs
  split at hs
  .rename_i h3
   simp only[QE]at h3;obtain⟨⟨⟨⟨c1,c2⟩,c3⟩,c4⟩,c5⟩:=h3;obtain⟨r,aK,⟨k1,k2⟩,tO⟩:=hY _ _ _ hs;simp only[QE]at k1;obtain⟨⟨⟨k3,k4⟩,k5⟩,k6⟩:=k1;have k3:=XK k3;simp only[Ag cC,Ag aK,Ag σ.hp,Ba,Bl,Km]at k3 k5 k6 k2 tO;rw[Ag]at c4;refine⟨_,k2,λB N E a w ff hf g st ag bL hT ro nn K' Q hK=>?_⟩;have fC:∀t∈C4 (.tmp s),ff t=Bf σ t:=Ak ag (by simp[ho,Op.operands,Call.operands,aR]);have jM:=Ej trivial g st hT c.args.toList c.argTypes.toList vs (λx hx=>Ak ag (by simp only[ho,Op.operands,Call.operands];simp;exact .inr (by simpa using hx))) hv;have hfv:=Ab hrd g st fC hT;obtain⟨b,hb,rI⟩:=hfv.zJ;have hG:=Nz (cx:=cx) (G:=YG P) (hp:=σ.hp) (λus w R R' h hc=>by
    obtain⟨l,args,r,q1,q2,q3,q4⟩:=hc;exact⟨l,args,r,q1,q2,q3,λro nn=>(q4 ro nn).mono h⟩) sO sT ((H3 _).1 c1) ((Hu _ _).1 c2) c3 ((Gy _ _).1 c4) ((G8 _ _).1 c5) tO k3 k4 ((Gy _ _).1 k5) ((Ow _ _).1 k6) g st.base st.heap bL (.cons hfv jM)
   obtain⟨l,args,rr,q1,q2,q3,q4⟩:=hG;rw[rI]at q1;simp only[List.cons.injEq,Value.func.injEq,Fn.yield.injEq,and_true]at q1;obtain⟨rfl,rfl⟩:=q1;have aW:(execOp a.eval o).run P w=.ok (.round b rr.fn ((rr.params.zip (⟨c.args.toList.map a.eval⟩:Array Value)).foldl (λtmps (t,a)=>tmps.setIfInBounds t a) rr.tmps) rr.assign rr.body) w:=by
    have iA:(⟨c.args.toList.map a.eval⟩:Array Value)=c.args.map a.eval:=by apply XV;simp
    rw[iA];have:=run_yield (P:=P) (args:=c.args.map a.eval) q2 (by rw[<-q3];simp);refine Eq.trans ?_ this;simp[execOp,ho,resolve,aR,rI,Deferred.ofValue,invoke]
   refine⟨λ_ _=>trivial,?_⟩;rw[show (Fr ro).round=ro from rfl,Oper.semAt_eq _ _ _ (λc' e=>by rw[ho]at e;cases e),aW,Oper.uponIn_round];refine⟨by simp[Fr,Fence.wide],(q4 ro (nn-1)).mono ?_⟩;rintro e w' ⟨v,E',rfl,h1,h2,h3,h4⟩;exact hK v w' E' h1 h2 h3 h4
  .exact hs.elim
 .exact hs.elim
theorem I4(hc:A4 P cx)(bU:E8 P cx.gl cx.eG)(fT:Wn P cx)(wf:tS σ)(h:Of cx σ T o K):∃r,K r/\((∀c,o.op≠.defer c)->Wo P cx.gl σ T o r):=by
 unfold Of at h
 split at h
 .rename_i c x y ho
  obtain⟨r,k,l⟩:=Tt wf ho h;exact⟨r,k,λpF=>l.toY pF⟩
 .split at h
  .rename_i hy
   obtain⟨r,k,l⟩:=K0 hc fT hy h;exact⟨r,k,λ_=>l⟩
  .obtain⟨r,k,l⟩:=Zc hc bU h
   exact⟨r,k,λpF=>l.toY pF⟩
inductive qc(P:Program)(gl:List (Nat×SV))(all:List Oper):List Oper->Sy->List (Option (Sy×List Nat×Out))->Sy->Prop where
 |nil (σ:Sy):qc P gl all [] σ [] σ
 |skip {o:Oper} {os:List Oper} {σ aL:Sy} {rs:List (Option (Sy×List Nat×Out))} (hg:guardOf all σ o.guard=some none) (h:qc P gl all os ⟨cP σ.fr o.dst none,σ.hp,σ.gm⟩ rs aL):qc P gl all (o :: os) σ (none :: rs) aL
 |step {o:Oper} {os:List Oper} {σ dQ aL:Sy} {T:List Nat} {r:Out} {rs:List (Option (Sy×List Nat×Out))} (hg:guardOf all σ o.guard=some (some (dQ,T))) (hl:Wo P gl dQ T o r) (he:Jr dQ.hp r.fR=true) (iI:(T=[]\/r.fR=[]\/Bk (Ac dQ.gm T))/\∀c,o.op≠.defer c)
   (h:qc P gl all os ⟨cP dQ.fr o.dst (some ⟨T,none,none,r.v⟩),L7 dQ.hp r.fR,dQ.gm⟩ rs aL):qc P gl all (o :: os) σ (some (dQ,T,r) :: rs) aL
theorem tS.cP{σ:Sy}(wf:tS σ)(d:Option Nat)(g:Option G)(hg:∀g',g=some g'->(∀i∈g'.tg,i<σ.gm.length)/\g'.gt=none/\g'.gf=none)(hp:List Hl):tS ⟨cP σ.fr d g,hp,σ.gm⟩:=by
 have key:∀s g',Ax (Sx.cP σ.fr d g) s=some g'->g=some g'\/Ax σ.fr s=some g':=by
  intro s g' h;cases d with
  |none=>exact .inr h
  |some k =>
   simp only[Sx.cP,B9]at h
   split at h
   .exact .inl h
   .exact .inr h
 refine⟨λs g' h i hi=>?_,λs g' i h hi=>?_,λs g' i h hi=>?_⟩
 .rcases key s g' h with h|h
  .exact (hg g' h).1 i hi
  .exact wf.tg s g' h i hi
 .rcases key s g' h with h|h
  .rw[(hg g' h).2.1]at hi;cases hi
  .exact wf.gt s g' i h hi
 .rcases key s g' h with h|h
  .rw[(hg g' h).2.2]at hi;cases hi
  .exact wf.gf s g' i h hi
def tQ:Option (Sy×List Nat×Out)->FP
 |none=>⟨[],[],[]⟩
 |some (_,_,r)=>Xe r
theorem Cw(hc:A4 P cx)(bU:E8 P cx.gl cx.eG)(fT:Wn P cx){all:List Oper}{ops:Array Oper}(jD:ops.toList=all):∀(os:List Oper) (fs:List FP) (σ:Sy) (K:List FP->Sy->Prop),tS σ->E9 cx all os fs σ K->∃rs aL,qc P cx.gl all os σ rs aL/\tS aL/\K (fs++rs.map tQ) aL
 | [],fs,σ,K,wf,h=>⟨[],σ,.nil σ,wf,by simpa[E9] using h⟩
 |o :: os,fs,σ,K,wf,h=>by
  unfold E9 at h
  split at h
  .exact h.elim
  .rename_i hg
   obtain⟨rs,aL,h1,h2,h3⟩:=Cw hc bU fT jD os _ _ K (wf.cP o.dst none (by simp) σ.hp) h;exact⟨_,aL,.skip hg h1,h2,by simpa[tQ] using h3⟩
  .rename_i dQ T hg
   obtain⟨w1,w2,w3,w4,w5,w6⟩:=Hm jD hg wf
   split at h
   .rename_i hh c i hy
    have pF:∀c,o.op≠.defer c:=λc' e=>by rw[(N9 hy).1]at e;cases e
    split at h
    .rename_i b hb
     rw[hc.D]at h;have dE:Ac dQ.gm [i]=[b]:=by simp only[Ac,ZX,hb,ZC]
     by_cases tC:b.den=true
     .obtain⟨r,hk,hl⟩:=K0 hc fT hy (h.1 tC)
      split at hk
      .rename_i he
       obtain⟨rs,aL,h1,h2,h3⟩:=Cw hc bU fT jD os _ _ K (w1.cP o.dst (some ⟨[i],none,none,r.v⟩) (by rintro g' ⟨⟩;exact⟨w5,rfl,rfl⟩) _) hk;exact⟨_,aL,.step hg hl he ⟨.inr (.inr (by rw[dE];exact⟨tC,trivial⟩)),pF⟩ h1,h2,by simpa[tQ] using h3⟩
      .exact hk.elim
     .have hk:=h.2 (by show b.den=false;simpa using tC)
      obtain⟨rs,aL,h1,h2,h3⟩:=Cw hc bU fT jD os _ _ K (w1.cP o.dst (some ⟨[i],none,none,.bool (.l true)⟩) (by rintro g' ⟨⟩;exact⟨w5,rfl,rfl⟩) _) hk;exact⟨_,aL,.step (r:=⟨.bool (.l true),[],[],[]⟩) hg (λ_ _ _ _ _ _ _ _ _ _ _ hT=>by rw[dE]at hT;exact absurd hT.1 tC) rfl ⟨.inr (.inl rfl),pF⟩ h1,h2,by simpa[tQ] using h3⟩
    .exact h.elim
   split at h
   .rename_i d i jH _
    have pF:∀c,o.op≠.defer c:=λc' e=>by unfold Aan at jH;rw[e]at jH;cases jH
    split at h
    .rename_i b hb
     rw[hc.D]at h;have dE:Ac dQ.gm [i]=[b]:=by simp only[Ac,ZX,hb,ZC]
     by_cases tC:b.den=true
     .obtain⟨r,hk,hl⟩:=I4 hc bU fT w1 (h.1 tC)
      split at hk
      .rename_i he
       obtain⟨rs,aL,h1,h2,h3⟩:=Cw hc bU fT jD os _ _ K (w1.cP o.dst (some ⟨[i],none,none,r.v⟩) (by rintro g' ⟨⟩;exact⟨w5,rfl,rfl⟩) _) hk;exact⟨_,aL,.step hg (hl pF) he ⟨.inr (.inr (by rw[dE];exact⟨tC,trivial⟩)),pF⟩ h1,h2,by simpa[tQ] using h3⟩
      .exact hk.elim
     .have hk:=h.2 (by show b.den=false;simpa using tC)
      obtain⟨rs,aL,h1,h2,h3⟩:=Cw hc bU fT jD os _ _ K (w1.cP o.dst (some ⟨[i],none,none,d⟩) (by rintro g' ⟨⟩;exact⟨w5,rfl,rfl⟩) _) hk;exact⟨_,aL,.step (r:=⟨d,[],[],[]⟩) hg (λ_ _ _ _ _ _ _ _ _ _ _ hT=>by rw[dE]at hT;exact absurd hT.1 tC) rfl ⟨.inr (.inl rfl),pF⟩ h1,h2,by simpa[tQ] using h3⟩
    .exact h.elim
   .rename_i d i j jH _
    have pF:∀c,o.op≠.defer c:=λc' e=>by unfold Aan at jH;rw[e]at jH;cases jH
    split at h
    .rename_i b c hb DA
     rw[hc.D]at h;have dE:Ac dQ.gm [i,j]=[b,c]:=by simp only[Ac,ZX,hb,DA,ZC]
     by_cases tC:(b.den&&c.den)=true
     .obtain⟨r,hk,hl⟩:=I4 hc bU fT w1 (h.1 tC)
      have JT:=Bool.and_eq_true_iff.1 tC
      split at hk
      .rename_i he
       obtain⟨rs,aL,h1,h2,h3⟩:=Cw hc bU fT jD os _ _ K (w1.cP o.dst (some ⟨[i,j],none,none,r.v⟩) (by rintro g' ⟨⟩;exact⟨w5,rfl,rfl⟩) _) hk;exact⟨_,aL,.step hg (hl pF) he ⟨.inr (.inr (by rw[dE];exact⟨JT.1,JT.2,trivial⟩)),pF⟩ h1,h2,by simpa[tQ] using h3⟩
      .exact hk.elim
     .have hk:=h.2 (by show (b.den&&c.den)=false;simpa using tC)
      obtain⟨rs,aL,h1,h2,h3⟩:=Cw hc bU fT jD os _ _ K (w1.cP o.dst (some ⟨[i,j],none,none,d⟩) (by rintro g' ⟨⟩;exact⟨w5,rfl,rfl⟩) _) hk;exact⟨_,aL,.step (r:=⟨d,[],[],[]⟩) hg (λ_ _ _ _ _ _ _ _ _ _ _ hT=>by rw[dE]at hT;exact absurd (Bool.and_eq_true_iff.2 ⟨hT.1,hT.2.1⟩) tC) rfl ⟨.inr (.inl rfl),pF⟩ h1,h2,by simpa[tQ] using h3⟩
    .exact h.elim
   obtain⟨r,hk,hl⟩:=I4 hc bU fT w1 h
   split at hk
   .rename_i he
    simp only[QE,XS,List.isEmpty_iff]at he;obtain⟨⟨he,iI⟩,pF⟩:=he;have pF:∀c,o.op≠.defer c:=λc e=>by unfold Aca at pF;rw[e]at pF;cases pF
    obtain⟨rs,aL,h1,h2,h3⟩:=Cw hc bU fT jD os _ _ K (w1.cP o.dst (some ⟨_,none,none,r.v⟩) (by rintro g' ⟨⟩;exact⟨w5,rfl,rfl⟩) _) hk;exact⟨_,aL,.step hg (hl pF) he ⟨iI.elim .inl λh=>.inr (.inl h),pF⟩ h1,h2,by simpa[tQ] using h3⟩
   .exact hk.elim
theorem Aec(hp:List Hl)(r:Out):CB hp (Aq hp) r :=
 ⟨λ_ _=>rfl,λ_ _ _ cs h=>⟨cs,h,rfl,λ_ _ _=>rfl⟩,λe _=>by cases e with
  |set h off vs=>exact λty cs h=>⟨cs,h,rfl⟩
  |put h hl=>rfl⟩
structure bS(B:Bs)(N:Nat)(E:Env)(a:Act)(w:World)(σ:Sy):Prop where
 st:St B N E a w (Bf σ) (Aq σ.hp)
 len:σ.fr.length=N
 wf:tS σ
 ge:∀h,B.cO h≠none\/B.oN h≠none\/B.oO h≠none->h<σ.hp.length
theorem Lz(fr:List (Option G))(d:Option Nat)(g:Option G):(cP fr d g).length=fr.length:=by
 cases d with
 |none=>rfl
 |some k=>simp[cP,Av]
theorem ll(hp:List Hl)(e:Ef):hp.length<=(gx hp e).length:=by
 cases e with
 |set h off vs =>
  simp only[gx]
  split
  .rw[Av];simp
  .exact QK _
 |put h hl =>
  simp only[gx,EE]
  split
  .simp
  .rw[Av];simp
theorem O5:∀(es:List Ef) (hp:List Hl),hp.length<=(L7 hp es).length
 | [],_=>QK _
 |e :: es,hp=>XP (ll hp e) (O5 es (gx hp e))
theorem Abq{ro:Option Nat}{n:Nat}{gl:List (Nat×SV)}{all:List Oper}{ops:Array Oper}(jD:ops.toList=all){B:Bs}{N:Nat}(hg:Fm B gl){Q:Exit->Act->World->Prop}{os:List Oper}{σ aL:Sy}{rs:List (Option (Sy×List Nat×Out))}(h:qc P gl all os σ rs aL):
  ∀(E:Env) (a:Act) (w:World),bS B N E a w σ->(∀E' a' w',bS B N E' a' w' aL->Q .normal a' w')->wpListIn (Fr ro) n P ops Q os a w:=by
 induction h with
 |nil σ=>intro E a w hs hQ;exact hQ E a w hs
 |skip fQ h ih =>
  intro E a w hs hQ;have hw:=O8 jD fQ hs.st (λ_ _ _ _ _=>rfl);unfold wpListIn;rw[QA (by simp[hw])];exact⟨λ_ _=>trivial,ih E _ w ⟨hs.st.cP hs.len _ _ none (by simp) _,by rw[Lz];exact hs.len,hs.wf.cP _ none (by simp) _,hs.ge⟩ hQ⟩
 | @step o os σ dQ aL T r rs fQ hl he iI h ih =>
  intro E a w hs hQ;obtain⟨w1,w2,w3,w4,w5,_,_,w6⟩:=Hm jD fQ hs.wf;have eY:St B N E a w (Bf dQ) (Aq dQ.hp):=by rw[w2,w3];exact hs.st
  have sN:=w6 B N E a w _ _ hs.st (λ_ _ _ _ _=>rfl);have hlen:dQ.fr.length=N:=by rw[w4];exact hs.len
  have lS:∀h,B.cO h≠none\/B.oN h≠none\/B.oO h≠none->h<(L7 dQ.hp r.fR).length:=λh hb=>XQ (hs.ge h hb) (by rw[<-w3];exact O5 _ _);unfold wpListIn
  by_cases hT:Bk (Ac dQ.gm T)
  .rw[QC (sN.2 hT)]
   refine hl B N E a w _ _ hg eY (λ_ _=>rfl) (Aec _ _) hT _ _ _ _ λv w' E' x1 x2 x3 x4=>?_;refine ih E' _ w' ⟨?_,by rw[Lz];exact hlen,w1.cP _ _ (by rintro g' ⟨⟩;exact⟨w5,rfl,rfl⟩) _,lS⟩ hQ;have:=eY.step x1 x2 x3;rw[<-J0 _ _ he]at this;exact this.cP hlen _ _ _ (by rintro g' ⟨⟩;exact⟨λ_=>x4,λh=>absurd hT h⟩) _
  .rw[QA (λh=>hT (sN.1 h))]
   refine⟨λ_ _=>trivial,ih E _ w ⟨?_,by rw[Lz];exact hlen,w1.cP _ _ (by rintro g' ⟨⟩;exact⟨w5,rfl,rfl⟩) _,lS⟩ hQ⟩;have zj:r.fR=[]:=by
    rcases iI.1 with h|h|h
    .subst h;exact absurd trivial hT
    .exact h
    .exact absurd h hT
   have:=eY.cP hlen o.dst undef (some ⟨T,none,none,r.v⟩) (by rintro g' ⟨⟩;exact⟨λh=>absurd h hT,λ_=>rfl⟩) (L7 dQ.hp r.fR);rw[zj]at this ⊢;exact this
theorem Wq{ro:Option Nat}{n:Nat}{id:Nat}{ops:Array Oper}{Q:Exit->Act->World->Prop}{a:Act}{w:World}(h:wpListIn (Fr ro) n P ops Q ops.toList a w):(Code.region id ops false).wpIn (Fr ro) n P Q a w:=wpIn_region_list h
theorem Qt:∀(fr:List (Option G)) (s:Nat),Ax (tidy fr) s=match Ax fr s with
  |some ⟨[],_,_,v⟩=>some ⟨[],none,none,v⟩
  |_=>none
 | [],s=>by simp[tidy,Ax]
 |g :: fr,s=>by
  have ih:=Qt fr;cases s with
  |zero =>
   cases g with
   |none=>rfl
   |some g =>
    obtain⟨tg,gt,gf,v⟩:=g;cases tg<;>rfl
  |succ s =>
   cases g with
   |none=>exact ih s
   |some g =>
    obtain⟨tg,gt,gf,v⟩:=g;cases tg<;>exact ih s
theorem U4:∀(fr:List (Option G)),(tidy fr).length=fr.length
 | []=>rfl
 |g :: fr=>by
  cases g with
  |none=>simp[tidy,U4 fr]
  |some g =>
   obtain⟨tg,gt,gf,v⟩:=g;cases tg<;>simp[tidy,U4 fr]
theorem bS.tidy{B:Bs}{N:Nat}{E:Env}{a:Act}{w:World}{σ:Sy}(h:bS B N E a w σ):bS B N E a w ⟨Sx.tidy σ.fr,σ.hp,[]⟩:=by
 refine⟨⟨h.st.base,h.st.heap,λs=>?_,h.st.size,h.st.defers⟩,by rw[U4];exact h.len,⟨λs g hs=>?_,λs g i hs hi=>?_,λs g i hs hi=>?_⟩,h.ge⟩
 .have h1:=h.st.slot s
  simp only[Bf,Qt]at h1 ⊢;cases hs:Ax σ.fr s with
  |none=>trivial
  |some g =>
   obtain⟨tg,gt,gf,v⟩:=g;rw[hs]at h1;cases tg with
   |nil=>exact h1
   |cons i tg=>trivial
 all_goals
  simp only[Qt]at hs
  split at hs
  .cases hs;simp at *
  .cases hs
end
end Go.Sx
