/- A part of the proof: contracts of functions, or the executor and its soundness. No conditions. -/
import Derived.CallsIn
import Derived.RangeFuncNested
import Derived.Lib.BytesEntry
import Derived.Orders
import Derived.Test.YtdoogdbjiijifaaGreatDoorE7Pas
namespace Go.Cv
open Go Go.RowKit
section
variable {S:Sg} {D:DD} {D':Kp} {base:Nat} {w0 w w':World} {bA cs:List Frame} {f0:Nat} {ι bI:Ip} {U:Nat->Option CO} {V:Nat->Nat->Option CO} {n:Nat} {hp:Tr CO} {nx fn:Nat} {fr:Tr CV} {td t:TD} {ds:List Nat} {ro:Option Nat} {k:gJ} {m:AM} {f f':Frame}
structure N3(S:Sg)(D:DD):Prop where
 xA:∀ {ι bI:Ip} {U ops l is fr tmps},Ex ι bI->D.d0 ι U ops l is fr tmps->D.d0 bI U ops l is fr tmps
 rdF:∀ {base:Nat} {w0 w:World} {bA cs:List Frame} {f0:Nat} {ι:Ip} {U:Nat->Option CO} {V:Nat->Nat->Option CO} {n:Nat} {hp:Tr CO} {nx fn:Nat} {fr:Tr CV} {ops:Array Oper} {l:List PE} {t:TD} {ds:List Nat} {ro:Option Nat} {k:gJ} {f:Frame} {v:CV} {u:Value},
  HR S base w0 U ι hp nx w->UV U V->GR S ι->iI S D.d0 ι (V n) fn fr (.rd ops l t) ds ro f->Eb S D.d0 ι V bA f0 n fn k cs->VR ι v u->Xw S D base w0 bA f0 (finish S.en v fn fr (.rd ops l t) ds ro k hp nx) (lone (f.finish u) cs w)
theorem CX.mono(x:Ex ι bI){df:List Deferred}(h:CX ι ds df):CX bI ds df:=⟨h.1,λi r d a b=>let ⟨L,h1,h2⟩:=h.2 i r d a b;⟨L,x _ _ _ h1,h2⟩⟩
theorem LS.mono(x:Ex ι bI){mo:Option Nat}(h:LS ι ro mo):LS bI ro mo:=by
 cases ro with
 |none=>exact h
 |some l=>obtain⟨L,h1,h2⟩:=h;exact⟨L,x _ _ _ h1,h2⟩
theorem iI.mono(hD:∀ {U ops l is fr tmps},D' ι U ops l is fr tmps->D' bI U ops l is fr tmps)(x:Ex ι bI){U:Nat->Option CO}(h:iI S D' ι U fn fr td ds ro f):iI S D' bI U fn fr td ds ro f:=by
 refine⟨h.nA,h.size,h.kind,h.df.mono x,h.ro.mono x,?_⟩;rcases h.at_ with⟨a,b,c,d⟩|⟨a,b,c⟩|⟨a,ops,l,t,is,k,b,c,d,e⟩
 .exact .inl ⟨a,b,c,d.mono x⟩
 .exact .inr (.inl ⟨a,b.mono x,c.mono x⟩)
 .exact .inr (.inr ⟨a,ops,l,t,is,k,b,c,d.mono x,hD e⟩)
theorem Eb.mono(hD:N3 S D)(x:Ex ι bI)(h:Eb S D.d0 ι V bA f0 n fn k cs):Eb S D.d0 bI V bA f0 n fn k cs:=by
 induction h with
 |nil=>exact .nil
 |cons h _ ih=>exact .cons (h.mono (λe=>hD.xA x e) x) ih
theorem Eu(hD:N3 S D){v:CV}{u:Value}(hh:HR S base w0 U ι hp nx w)(hu:UV U V)(hg:GR S ι)(h:iI S D.d0 ι (V n) fn fr td ds ro f)(hs:Eb S D.d0 ι V bA f0 n fn k cs)(hv:VR ι v u):
  Xw S D base w0 bA f0 (finish S.en v fn fr td ds ro k hp nx) (lone (f.finish u) cs w):=by
 cases td with
 |rd ops l t=>exact hD.rdF hh hu hg h hs hv
 |rl ops l t =>
  cases l with
  |nil=>trivial
  |cons o l =>
   rcases h.at_ with⟨a,_⟩|⟨hm,ht,hf⟩|⟨_,_,_,_,_,_,b,_⟩
   .cases a
   .generalize dF:f.todo=todo at ht
    cases ht with
    | @rl _ _ is _ kk ht hl hi =>
     cases is with
     |nil=>cases hl
     |cons i is =>
      have ho:ops[i]?=some o:=hi 0 i o rfl rfl;have o7:gI ι (.rl ops l t) (.inRegion ops is :: kk):=.rl ht (by simpa using hl) λj i' o' h1 h2=>hi (j+1) i' o' (by simpa using h1) (by simpa using h2);show Xw S D base w0 bA f0 (MO (.bad 1) (Qc S.en fn) fr o.dst v λfr=>.run fn fr (.rl ops l t) ds ro k hp nx) _;unfold MO;cases hd:o.dst with
      |none =>
       have iN:f.finish u={ f with todo:=.inRegion ops is :: kk }:=by
        simp[Frame.finish,dF,ho,hd]
       rw[iN];exact⟨ι,U,V,n,_,cs,w,rfl,hh,hu,hg,⟨h.nA,h.size,h.kind,h.df,h.ro,.inr (.inl ⟨hm,o7,hf⟩)⟩,hs⟩
      |some d =>
       have iN:f.finish u={ f with tmps:=f.tmps.setIfInBounds d u,todo:=.inRegion ops is :: kk }:=by
        simp[Frame.finish,dF,ho,hd]
       rw[iN];cases hb:(Nat.ble (Nat.succ d) (Qc S.en fn)&&Nat.ble (Nat.succ d) aH)
       .simp only[hb];trivial
       .simp only[hb]
        simp only[QB,As]at hb;show Xw S D base w0 bA f0 (rS v λv=>Tr.dL fr d v λfr=>.run fn fr (.rl ops l t) ds ro k hp nx) _;rw[Vw,Tr.bS];exact⟨ι,U,V,n,_,cs,w,rfl,hh,hu,hg,⟨h.nA,by simpa using h.size,h.kind,h.df,h.ro,.inr (.inl ⟨hm,o7,hf.set hv (by rw[h.size];exact hb.1) hb.2⟩)⟩,hs⟩
   .cases b
 |rf l t =>
  rcases h.at_ with⟨a,_⟩|⟨hm,ht,hf⟩|⟨_,_,_,_,_,_,b,_⟩
  .cases a
  .generalize dF:f.todo=todo at ht
   cases ht with
   | @rf _ L _ kk hL ht =>
    have iN:f.finish u={ f with todo:=.endRangeFunc L.aE :: kk }:=by simp[Frame.finish,dF]
    rw[iN];exact⟨ι,U,V,n,_,cs,w,rfl,hh,hu,hg,⟨h.nA,h.size,h.kind,h.df,h.ro,.inr (.inl ⟨hm,.vN hL ht,hf⟩)⟩,hs⟩
  .cases b
 |_=>trivial
theorem Ks{P:Program}{ops:Array Oper}{i:Nat}{rest:List Nat}{kk:List Item}{o:Oper}{u:Value}(hm:f.mode=.run)(dF:f.todo=.inRegion ops (i :: rest) :: kk)(ho:ops[i]?=some o)(hd:∀c,o.op≠.defer c)
  (hw:Region.wanted o (yielded ops f.tmps)=true) (hr:Res ((execOp (Br f).eval o).run P w) u w'):Go.step P (lone f cs w)=.next (lone (f.finish u) cs w'):=by
 have hg:=stepGR_op (P:=P) (b:=f) (a:=Br f) (k:=kk) (cs:=cs) (w:=w) (rest:=rest) ho hw;rw[<-dF,Gl hm,Oper.semAt_eq _ _ _ hd]at hg;rcases hr with hr|⟨hr,rfl⟩
 .exact step_lone_go (by rw[hg];simp[stepG.apply,hr])
 .exact step_lone_go (by rw[hg];simp[stepG.apply,hr])
theorem step_skip{P:Program}{ops:Array Oper}{i:Nat}{rest:List Nat}{kk:List Item}{o:Oper}(hm:f.mode=.run)(dF:f.todo=.inRegion ops (i :: rest) :: kk)(ho:ops[i]?=some o)
  (hw:Region.wanted o (yielded ops f.tmps)=false):Go.step P (lone f cs w)=.next (lone (f.finish undef) cs w):=by
 have:=stepR_op_skip (P:=P) (b:=f) (a:=Br f) (k:=kk) (cs:=cs) (w:=w) (ops:=ops) (i:=i) (rest:=rest) (by simp[ho];exact hw);rw[<-Frame.finish_atR,<-dF,Gl hm]at this;exact this
end
section
variable {S:Sg} {D:DD} {base:Nat} {w0 w w':World} {bA cs:List Frame} {f0:Nat} {ι bI:Ip} {U:Nat->Option CO} {V:Nat->Nat->Option CO} {n:Nat} {hp:Tr CO} {nx fn:Nat} {fr aO:Tr CV} {td t:TD} {ds:List Nat} {ro:Option Nat} {k:gJ} {m:AM} {f f':Frame}
theorem VR.mu{v:Value}(h:VR ι .u v):v=undef:=by cases h;rfl
theorem Q7(m:AM):(∃n,m=.bad n)\/nb m:=by
 cases m with
 |bad n=>exact .inl ⟨n,rfl⟩
 |_=>exact .inr λn e=>by cases e
theorem Aed{ops:Array Oper}{g t:Nat}(h:Dp ops.toList g=some t):(ops[g]?).bind (·.dst)=some t:=by
 unfold Dp at h;rw[Ah,QG]at h;cases ho:ops[g]? with
 |none=>rw[ho]at h;cases h
 |some o=>rw[ho]at h;exact h
theorem Alz{s:Bool}:undef≠.bool s:=by intro e;cases e
theorem Ahk{ops:Array Oper}{g t:Nat}{tmps:Array Value}{s:Bool}(h:Dp ops.toList g=some t)(hv:tmps.getD t undef=.bool s):yielded ops tmps g=some s:=by
 unfold yielded;rw[Aed h];show (match tmps[t]? with|some (.bool b)=>some b|_=>none)=_;rw[QM]at hv;cases ht:tmps[t]? with
 |none=>rw[ht]at hv;exact (Alz hv).elim
 |some v=>rw[ht]at hv;have hv:v=.bool s:=hv;rw[hv]
theorem Ahj{ops:Array Oper}{g t:Nat}{tmps:Array Value}(h:Dp ops.toList g=some t)(hv:tmps.getD t undef=undef):yielded ops tmps g=none:=by
 unfold yielded;rw[Aed h];show (match tmps[t]? with|some (.bool b)=>some b|_=>none)=_;rw[QM]at hv;cases ht:tmps[t]? with
 |none=>rfl
 |some v=>rw[ht]at hv;have hv:v=undef:=hv;rw[hv];rfl
theorem qs(hS:eH S)(hD:N3 S D){fin:KA}{o:Oper}{ops:Array Oper}{i:Nat}{is:List Nat}{kk:List Item}(hh:HR S base w0 U ι hp nx w)(hu:UV U V)(hg:GR S ι)(h:iI S D.d0 ι (V n) fn fr td ds ro f)(hm:f.mode=.run)(dF:f.todo=.inRegion ops (i :: is) :: kk)(ho:ops[i]?=some o)
  (hf:FR ι aO f.tmps) (jB:Alike S.en fr aO o.op.operands.toList) (hs:Eb S D.d0 ι V bA f0 n fn k cs) (iN:∀v hp nx,fin v hp nx=finish S.en v fn fr td ds ro k hp nx) (hw:Region.wanted o (yielded ops f.tmps)=true)
  (dO:∀x c,o.op=.call c->c.callee=.value x->Bb S D base w0 bA f0 (lone f cs w) (PR S.en (ev S.en fr x) (c.args.toList.map (ev S.en fr)) fn fr td ds ro k hp nx)):
  Bb S D base w0 bA f0 (lone f cs w) ((vM S.en o.op).f fin fn fr td ds ro k hp nx):=by
 have main:Bb S D base w0 bA f0 (lone f cs w) (yZ (.bad (Nat.add 1000 fn)) S.en hp nx fr o fin):=by
  rw[Ali jB];rcases Q7 (yZ (.bad (Nat.add 1000 fn)) S.en hp nx aO o fin) with⟨b,hb⟩|eY
  .rw[hb];exact .bad
  .have hd:∀c,o.op≠.defer c:=λc e=>eY (Nat.add 1000 fn) (by unfold yZ;rw[e];rfl)
   obtain⟨v,dS,gN,e,bI,u,w',hx,fk,hr,hv⟩:=yx (a:=Br f) hS hh hg hf eY ⟨_,rfl⟩ rfl;rw[e,iN];exact .head (Ks hm dF ho hd hw hr) (.stay (Eu hD fk hu (hg.mono hx) (h.mono (λe=>hD.xA hx e) hx) (hs.mono hD hx) hv))
 unfold vM;cases pE:o.op with
 |call c =>
  show Bb S D base w0 bA f0 (lone f cs w) ((KG S.en c).f fin fn fr td ds ro k hp nx);unfold KG;cases hc:c.callee with
  |value x=>exact dO x c pE hc
  |builtin b =>
   have:yZ (.bad (Nat.add 1000 fn)) S.en hp nx fr o fin=(MG S.en b c.args.toList c.argTypes.toList).f (.bad (Nat.add 1000 fn)) hp nx fr fin:=by
    unfold yZ;rw[pE];simp only[MH,hc]
   rw[this]at main;exact main
  |invoke r nm=>exact .bad
 |_ =>
  unfold yZ at main;rw[pE]at main;exact main
theorem oc(hS:eH S)(hD:N3 S D){fin:KA}{o:Oper}{ops:Array Oper}{i:Nat}{is:List Nat}{kk:List Item}(hh:HR S base w0 U ι hp nx w)(hu:UV U V)(hg:GR S ι)(h:iI S D.d0 ι (V n) fn fr td ds ro f)(hm:f.mode=.run)(dF:f.todo=.inRegion ops (i :: is) :: kk)(ho:ops[i]?=some o)
  (hf:FR ι aO f.tmps) (jB:Alike S.en fr aO o.op.operands.toList) (kW:∀g wt t,o.guard=some (g,wt)->Dp ops.toList g=some t->aX fr t=aX aO t) (hs:Eb S D.d0 ι V bA f0 n fn k cs) (iN:∀v hp nx,fin v hp nx=finish S.en v fn fr td ds ro k hp nx)
  (dO:∀x c,o.op=.call c->c.callee=.value x->Region.wanted o (yielded ops f.tmps)=true->Bb S D base w0 bA f0 (lone f cs w) (PR S.en (ev S.en fr x) (c.args.toList.map (ev S.en fr)) fn fr td ds ro k hp nx)):
  Bb S D base w0 bA f0 (lone f cs w) ((um S.en ops.toList o).f fin fn fr td ds ro k hp nx):=by
 unfold um;cases vD:o.guard with
 |none =>
  have hw:Region.wanted o (yielded ops f.tmps)=true:=by simp[Region.wanted,vD]
  exact qs hS hD hh hu hg h hm dF ho hf jB hs iN hw λx c a b=>dO x c a b hw
 |some q =>
  obtain⟨g,wt⟩:=q;show Bb S D base w0 bA f0 (lone f cs w) ((match Dp ops.toList g with
   |none=>(⟨λ_ _ _ _ _ _ _ _ _=>.bad 23⟩:XE)
   |some t=>⟨λfin fn fr td ds ro k hp nx=>match Fh wt (aX fr t) with
    |some true=>(vM S.en o.op).f fin fn fr td ds ro k hp nx
    |some false=>fin .u hp nx
    |none=>.bad 24⟩).f fin fn fr td ds ro k hp nx)
  cases pq:Dp ops.toList g with
  |none=>exact .bad
  |some t =>
   show Bb S D base w0 bA f0 (lone f cs w) (match Fh wt (aX fr t) with
    |some true=>(vM S.en o.op).f fin fn fr td ds ro k hp nx
    |some false=>fin .u hp nx
    |none=>.bad 24)
   have hv:=hf.aX t;rw[<-kW g wt t vD pq]at hv;have qN:Region.wanted o (yielded ops f.tmps)=false->Bb S D base w0 bA f0 (lone f cs w) (fin .u hp nx):=λhw=>by
    rw[iN];exact .head (step_skip hm dF ho hw) (.stay (Eu hD hh hu hg h hs .u))
   generalize hq:aX fr t=q at hv
   cases q with
   |b s =>
    have hy:=Ahk pq hv.jD;have ve:Region.wanted o (yielded ops f.tmps)=(bif wt then s else !s):=by
     simp only[Region.wanted,vD,hy];cases wt<;>cases s<;>rfl
    show Bb S D base w0 bA f0 (lone f cs w) (match some (bif wt then s else !s) with
     |some true=>(vM S.en o.op).f fin fn fr td ds ro k hp nx
     |some false=>fin .u hp nx
     |none=>.bad 24)
    rw[<-ve];cases hw:Region.wanted o (yielded ops f.tmps) with
    |true=>exact qs hS hD hh hu hg h hm dF ho hf jB hs iN hw λx c a b=>dO x c a b hw
    |false=>exact qN hw
   |u =>
    have hy:=Ahj pq hv.mu;exact qN (by simp[Region.wanted,vD,hy])
   |_=>exact .bad
end
structure vZ(S:Sg):Prop where
 F:∀f fi,S.en.F f=some fi->∃fn,S.P.funcs[f]?=some fn/\fn.body=some fi.body/\fn.ntmps=fi.ntmps/\fn.results.toList=fi.results/\(fn.name=="runtime.NumGoroutine")=false
section
variable {S:Sg} {D:DD} {base:Nat} {w0 w w':World} {bA cs:List Frame} {f0:Nat} {ι bI:Ip} {U:Nat->Option CO} {V:Nat->Nat->Option CO} {n:Nat} {hp:Tr CO} {nx fn:Nat} {fr aO:Tr CV} {td t:TD} {ds:List Nat} {ro:Option Nat} {k:gJ} {m:AM} {f f':Frame}
noncomputable def Im(tmps:Array Value)(r:ResultVar):Sem Value:=match r with
 |.tmp t=>pure (tmps.getD t undef)
 |.cell a t=>do loadVar t (<-asAddr (tmps.getD a undef))
theorem Jw(fn:Func)(tmps:Array Value):results fn tmps=(do let vs<-fn.results.mapM (Im tmps);pure (if h:vs.size=1 then vs[0] else .tuple vs)):=by
 unfold results;congr 2
theorem Akb{α β:Type}(g:α->Option β)(x:α)(l:List α):sd g (x :: l)=match g x with|none=>none|some y=>match sd g l with|none=>none|some ys=>some (y :: ys):=rfl
theorem Ahx(hS:eH S)(hR:Rd S ι hp w)(hf:FR ι fr f.tmps):∀(rs:List ResultVar) (vs:List CV),sd (Hp S.en fr hp) rs=some vs->∃us,(rs.mapM (Im f.tmps)).run S.P w=.ok us w/\cF ι vs us
 | [],vs,h=>by cases h;exact⟨[],rfl,.nil⟩
 |r :: rs,vs,h=>by
  rw[Akb]at h
  split at h
  .cases h
  .rename_i v hv
   split at h
   .cases h
   .rename_i ys sG
    cases h;obtain⟨us,h1,h2⟩:=Ahx hS hR hf rs ys sG;have fO:∃u,(Im f.tmps r).run S.P w=.ok u w/\VR ι v u:=by
     cases r with
     |tmp t =>
      have hv:some (aX fr t)=some v:=hv;cases hv;exact⟨_,rfl,hf.aX t⟩
     |cell a t =>
      replace hv:(match aX fr a with|.p r g off=>Rw S.en t hp r g off|_=>none)=some v:=hv
      have ha:=hf.aX a
      split at hv
      .rename_i r g off hq
       rw[hq]at ha;obtain⟨L,hL,cZ,he⟩:=ha.fL;obtain⟨u,h1,h2⟩:=Adb hS hR hv hL cZ;exact⟨u,by simp only[Im,Sem.run_bind,he,asAddr,Sem.run_pure,Result.andThen_ok];exact h1,h2⟩
      .cases hv
    obtain⟨u,h3,h4⟩:=fO;exact⟨u :: us,by simp only[VM,Sem.run_bind,h3,h1,Result.andThen_ok,Sem.run_pure],.cons h4 h2⟩
theorem cq{vs:List CV}{us:List Value}(h:cF ι vs us):VR ι (FM vs) (if h:(⟨us⟩:Array Value).size=1 then (⟨us⟩:Array Value)[0] else .tuple ⟨us⟩):=by
 match vs,h with
 | [v],h =>
  obtain⟨u,lC,rfl,h1,h2⟩:=h.cons_inv;have:=h2.fU;subst this;exact h1
 | [],h =>
  have:=h.fU;subst this;exact .nS h
 |v :: v' :: vs,h =>
  obtain⟨u,lC,rfl,h1,h2⟩:=h.cons_inv;obtain⟨u',DN,rfl,h3,h4⟩:=h2.cons_inv;rw[dif_neg (by simp)];exact .nS h
theorem tc(hS:eH S)(hD:N3 S D)(hF:vZ S)(hh:HR S base w0 U ι hp nx w)(hu:UV U V)(hg:GR S ι){D':Kp}(h:iI S D' ι (V n) fn fr .rt ds ro f)(hs:Eb S D.d0 ι V bA f0 n fn k cs):
  Bb S D base w0 bA f0 (lone f cs w) (unw S.en fn fr ds ro k hp nx):=by
 obtain⟨hm,eW,hf⟩:f.mode=.returning/\f.roundOf=none/\FR ι fr f.tmps:=by
  rcases h.at_ with⟨_,a,b,c⟩|⟨_,b,_⟩|⟨_,_,_,_,_,_,b,_⟩
  .exact⟨a,b,c⟩
  .cases b
  .cases b
 cases ds with
 |cons r ds =>
  show Bb S D base w0 bA f0 (lone f cs w) (match hp.get r with
   |some .df=>Tr.dL hp r .dead λhp=>.run fn fr .rt ds ro k hp nx
   |_=>.bad 14)
  split
  .rename_i hr
   rw[Tr.bS];cases xk:f.defers with
   |nil=>have:=h.df.1;rw[xk]at this;cases this
   |cons d df =>
    obtain⟨L,hL,rfl⟩:=h.df.2 0 r d rfl (by rw[xk];rfl);obtain⟨_,hb⟩:=hh.rd.of hL hr;have aA:L.aE<w.heap.size:=(Array.getElem?_eq_some_iff.1 hb).1;have cM:Go.step S.P (lone f cs w)=.next (lone { f with defers:=df } cs (w.putObj L.aE (.deferred none))) :=
     step_lone_go (by simp[stepG,hm,unwind,xk,run_takeDeferred hb])
    have bV:=hh.setObj (o':=.dead) (ob:=.deferred none) hL hr rfl trivial;refine .head cM (.stay ⟨ι,U,V,n,_,cs,_,rfl,bV,hu,hg,⟨h.nA,h.size,h.kind,⟨?_,λi r' d' a b=>?_⟩,h.ro,.inl ⟨rfl,hm,eW,hf⟩⟩,hs⟩)
    .have:=h.df.1;rw[xk]at this;simpa using this
    .exact h.df.2 (i+1) r' d' (by simpa using a) (by rw[xk];simpa using b)
  .exact .bad
 |nil =>
  have xk:f.defers=[]:=QQ h.df.1.symm;show Bb S D base w0 bA f0 (lone f cs w) (uf S.en fn fr k hp nx);unfold uf
  split
  .exact .bad
  .rename_i fi iL
   split
   .exact .bad
   .rename_i vs kL
    obtain⟨F,hF1,hF2,hF3,hF4,hF5⟩:=hF.F fn fi iL;rw[<-hF4]at kL;obtain⟨us,h1,h2⟩:=Ahx hS hh.rd hf _ vs kL;have kU:(results F f.tmps).run S.P w=.ok (if h:(⟨us⟩:Array Value).size=1 then (⟨us⟩:Array Value)[0] else .tuple ⟨us⟩) w:=by
     rw[Jw];simp only[Array.mapM_eq_mapM_toList,Sem.run_bind,Sem.run_map,h1,Result.andThen_ok,Sem.run_pure]
    have hv:=cq h2
    generalize (if h:(⟨us⟩:Array Value).size=1 then (⟨us⟩:Array Value)[0] else .tuple ⟨us⟩)=u at kU hv
    have gC:f.leaving S.P w (.returned u):=⟨hm,xk,h.kind,F,by rw[h.nA];exact hF1,kU⟩;unfold back;cases hs with
    |nil=>exact .stay ⟨ι,U,f,w,u,rfl,hh,gC,h.nA,hv⟩
    |cons cI hs=>exact .head (step_leave_returned gC) (.stay (Eu hD hh hu hg cI hs hv))
end
section
variable {S:Sg} {D:DD} {base:Nat} {w0 w w':World} {bA cs:List Frame} {f0:Nat} {ι bI:Ip} {U:Nat->Option CO} {V:Nat->Nat->Option CO} {n:Nat} {hp:Tr CO} {nx fn:Nat} {fr aO:Tr CV} {td t:TD} {ds:List Nat} {ro:Option Nat} {k:gJ} {m:AM} {f f':Frame}
def Lv(f:Frame)(jump:Option Code):Prop:=(jump=none/\f.todo=[])\/∃j k',jump=some j/\f.todo=.code j :: k'/\(j=.ret\/(∃id,j=.exit id/\exitTo id k'=none)\/∃l,j=.goto l/\gotoIn l k'=none)
theorem Adc(hD:N3 S D){jump:Option Code}(hh:HR S base w0 U ι hp nx w)(hu:UV U V)(hg:GR S ι){D':Kp}(h:iI S D' ι (V n) fn fr td ds ro f)(hm:f.mode=.run)(hf:FR ι fr f.tmps)(hs:Eb S D.d0 ι V bA f0 n fn k cs)(hl:Lv f jump):
  Bb S D base w0 bA f0 (lone f cs w) (leave S.en jump fn fr ds ro k hp nx):=by
 have lH:=Gl hm;cases ro with
 |none =>
  have eW:f.roundOf=none:=h.ro;have GZ:Go.step S.P (lone f cs w)=.next (lone { f with mode:=.returning } cs w)->Bb S D base w0 bA f0 (lone f cs w) (.run fn fr .rt ds none k hp nx):=λcM =>
   .head cM (.stay ⟨ι,U,V,n,_,cs,w,rfl,hh,hu,hg,⟨h.nA,h.size,h.kind,h.df,h.ro,.inl ⟨rfl,rfl,eW,hf⟩⟩,hs⟩)
  rcases hl with⟨rfl,ht⟩|⟨j,k',rfl,ht,hj⟩
  .have:=stepR_end (P:=S.P) (a:=Br f) (cs:=cs) (w:=w) eW
   rw[<-ht,lH]at this;exact GZ this
  .rcases hj with rfl|⟨id,rfl,_⟩|⟨l,rfl,_⟩
   .have:=stepR_ret (P:=S.P) (a:=Br f) (k:=k') (cs:=cs) (w:=w) eW
    rw[<-ht,lH]at this;exact GZ this
   .exact .bad
   .exact .bad
 |some l =>
  obtain⟨L,hL,eW⟩:=h.ro;show Bb S D base w0 bA f0 (lone f cs w) (Agj S.en l jump k hp nx);unfold Agj
  split
  .rename_i st pd gL aO ps dQ body df hr
   cases hs with
   |nil=>exact .bad
   | @cons n2 _ CE p9 AV CH AW k2 f2 jy cI eE =>
    obtain⟨_,Ld,tmps,yS,aM,iM,hb⟩:=hh.rd.of hL hr;have aA:L.aE<w.heap.size:=(Array.getElem?_eq_some_iff.1 hb).1;have aG:=run_endRound (P:=S.P) jump hb;have cM:Go.step S.P (lone f (f2 :: jy) w)=.next (lone (f2.finish (.bool jump.isNone)) jy (w.putObj L.aE (.loop { state:=if jump.isNone then .ready else .done,pending:=jump,fn:=gL,tmps,params:=ps.toArray,assign:=dQ,body,defers:=Ld.aE }))):=by
     rcases hl with⟨rfl,ht⟩|⟨j,k',rfl,ht,hj⟩
     .have:=stepR_round_end (P:=S.P) (b:=f) (a:=Br f) (c:=f2) (cs:=jy) (w:=w) eW h.kind aG
      rw[<-ht,lH]at this;exact this
     .rcases hj with rfl|⟨id,rfl,hx⟩|⟨q,rfl,hx⟩
      .have:=stepR_round_ret (P:=S.P) (b:=f) (a:=Br f) (k:=k') (c:=f2) (cs:=jy) (w:=w) eW h.kind aG
       rw[<-ht,lH]at this;exact this
      .have:=stepR_round_exit (P:=S.P) (b:=f) (a:=Br f) (k:=k') (c:=f2) (cs:=jy) (w:=w) eW h.kind hx aG
       rw[<-ht,lH]at this;exact this
      .have:=stepR_round_goto (P:=S.P) (b:=f) (a:=Br f) (k:=k') (c:=f2) (cs:=jy) (w:=w) eW h.kind hx aG
       rw[<-ht,lH]at this;exact this
    cases jump with
    |none =>
     show Bb S D base w0 bA f0 (lone f (f2 :: jy) w) (Tr.dL hp l (.lp 0 none gL aO ps dQ body df) λhp=>finish S.en (.b true) CE p9 AV CH AW k2 hp nx);rw[Tr.bS];have bV:=hh.setObj (o':=.lp 0 none gL aO ps dQ body df) (ob:=.loop { state:=.ready,pending:=none,fn:=gL,tmps,params:=ps.toArray,assign:=dQ,body,defers:=Ld.aE }) hL hr rfl
      ⟨rfl,Ld,tmps,yS,aM,iM,World.putObj_heap_same aA⟩
     exact .head cM (.stay (Eu hD bV hu hg cI eE (.b _)))
    |some j =>
     show Bb S D base w0 bA f0 (lone f (f2 :: jy) w) (Tr.dL hp l (.lp 2 (some j) gL aO ps dQ body df) λhp=>finish S.en (.b false) CE p9 AV CH AW k2 hp nx);rw[Tr.bS];have bV:=hh.setObj (o':=.lp 2 (some j) gL aO ps dQ body df) (ob:=.loop { state:=.done,pending:=(some j),fn:=gL,tmps,params:=ps.toArray,assign:=dQ,body,defers:=Ld.aE }) hL hr rfl
      ⟨rfl,Ld,tmps,yS,aM,iM,World.putObj_heap_same aA⟩
     exact .head cM (.stay (Eu hD bV hu hg cI eE (.b _)))
  .exact .bad
theorem zc(hh:HR S base w0 U ι hp nx w)(hu:UV U V)(hg:GR S ι){D':Kp}(h:iI S D' ι (V n) fn fr (.br t) ds ro f)(hm:f.mode=.run)(hf:FR ι fr f.tmps)(ht:gI ι (.br t) f.todo)(hs:Eb S D.d0 ι V bA f0 n fn k cs):
  Bb S D base w0 bA f0 (lone f cs w) (zd t fn fr ds ro k hp nx):=by
 unfold zd;cases ro with
 |none=>exact .bad
 |some l =>
  obtain⟨L,hL,eW⟩:=h.ro;show Bb S D base w0 bA f0 (lone f cs w) (match hp.get l with
   |some (.lp st pd gL aO ps dQ body df)=>bif Nat.beq st 0 then Tr.dL hp l (.lp 1 pd gL aO ps dQ body df) λhp=>.run fn fr t ds (some l) k hp nx else .bad 28
   |_=>.bad 28)
  split
  .rename_i st pd gL aO ps dQ body df hr
   cases gQ:Nat.beq st 0
   .exact .bad
   .rw[beq_iff]at gQ
    subst gQ;show Bb S D base w0 bA f0 (lone f cs w) (Tr.dL hp l (.lp 1 pd gL aO ps dQ body df) λhp=>.run fn fr t ds (some l) k hp nx);rw[Tr.bS];obtain⟨_,Ld,tmps,yS,aM,iM,hb⟩:=hh.rd.of hL hr;have aA:L.aE<w.heap.size:=(Array.getElem?_eq_some_iff.1 hb).1;have aG:=run_beginRound (P:=S.P) hb rfl
    generalize dF:f.todo=todo at ht
    cases ht with
    | @br _ kk ht =>
     have:=stepR_beginRound (P:=S.P) (b:=f) (a:=Br f) (k:=kk) (cs:=cs) (w:=w) eW aG;rw[<-dF,Gl hm]at this;have bV:=hh.setObj (o':=.lp 1 pd gL aO ps dQ body df) (ob:=.loop { state:=.busy,pending:=pd,fn:=gL,tmps,params:=ps.toArray,assign:=dQ,body,defers:=Ld.aE }) hL hr rfl
      ⟨rfl,Ld,tmps,yS,aM,iM,World.putObj_heap_same aA⟩
     exact .head this (.stay ⟨ι,U,V,n,_,cs,_,rfl,bV,hu,hg,⟨h.nA,h.size,h.kind,h.df,⟨L,hL,eW⟩,.inr (.inl ⟨rfl,ht,hf⟩)⟩,hs⟩)
  .exact .bad
theorem ym{l:Nat}(hh:HR S base w0 U ι hp nx w)(hu:UV U V)(hg:GR S ι){D':Kp}(h:iI S D' ι (V n) fn fr (.vN l t) ds ro f)(hm:f.mode=.run)(hf:FR ι fr f.tmps)(ht:gI ι (.vN l t) f.todo)(hs:Eb S D.d0 ι V bA f0 n fn k cs):
  Bb S D base w0 bA f0 (lone f cs w) (yn l t fn fr ds ro k hp nx):=by
 unfold yn
 split
 .rename_i st pd gL aO ps dQ body df hr
  cases gQ:Nat.beq st 1
  .have iK:Bb S D base w0 bA f0 (lone f cs w) (match pd with
     |none=>.run fn fr t ds ro k (hp.set l (.lp 3 pd gL aO ps dQ body df)) nx
     |some c=>.run fn fr (.code c t) ds ro k (hp.set l (.lp 3 pd gL aO ps dQ body df)) nx):=by
    generalize dF:f.todo=todo at ht
    cases ht with
    | @vN _ L _ kk hL ht =>
     obtain⟨_,Ld,tmps,yS,aM,iM,hb⟩:=hh.rd.of hL hr;have aA:L.aE<w.heap.size:=(Array.getElem?_eq_some_iff.1 hb).1;have aG:=run_endLoop (P:=S.P) hb (by
      have:st≠1:=λe=>by rw[e]at gQ;cases gQ
      show se st≠.busy
      match st,this with
      |0,_=>intro e;cases e
      |2,_=>intro e;cases e
      |_+3,_=>intro e;cases e)
     have cM:Go.step S.P (lone f cs w)=.next (lone { f with todo:=(pd.map Item.code).toList++kk } cs (w.putObj L.aE (.loop { state:=.exhausted,pending:=pd,fn:=gL,tmps,params:=ps.toArray,assign:=dQ,body,defers:=Ld.aE }))) :=
      step_lone_go (by simp[stepG,stepG.exec,hm,dF,Sem.runT_eq,aG])
     have bV:=hh.setObj (o':=.lp 3 pd gL aO ps dQ body df) (ob:=.loop { state:=.exhausted,pending:=pd,fn:=gL,tmps,params:=ps.toArray,assign:=dQ,body,defers:=Ld.aE }) hL hr rfl
       ⟨rfl,Ld,tmps,yS,aM,iM,World.putObj_heap_same aA⟩
     cases pd with
     |none=>exact .head cM (.stay ⟨ι,U,V,n,_,cs,_,rfl,bV,hu,hg,⟨h.nA,h.size,h.kind,h.df,h.ro,.inr (.inl ⟨hm,ht,hf⟩)⟩,hs⟩)
     |some c=>exact .head cM (.stay ⟨ι,U,V,n,_,cs,_,rfl,bV,hu,hg,⟨h.nA,h.size,h.kind,h.df,h.ro,.inr (.inl ⟨hm,.code ht,hf⟩)⟩,hs⟩)
   cases pd with
   |none =>
    show Bb S D base w0 bA f0 (lone f cs w) (Tr.dL hp l (.lp 3 none gL aO ps dQ body df) λhp=>.run fn fr t ds ro k hp nx);rw[Tr.bS];exact iK
   |some c =>
    show Bb S D base w0 bA f0 (lone f cs w) (Tr.dL hp l (.lp 3 (some c) gL aO ps dQ body df) λhp=>.run fn fr (.code c t) ds ro k hp nx);rw[Tr.bS];exact iK
  .exact .bad
 .exact .bad
end
def zW(S:Sg)(base:Nat)(w0:World):Prop:=∀f args v,Uq args (S.en.M f)=some v->∀(ι:Ip) (us:List Value) (w:World),cF ι args us->Below base w0 w->base<=w.heap.size->
 (callFunc f us.toArray).run S.P w=.ok (.enter f us.toArray) w/\∃u,VR ι v u/\Calls S.P f us.toArray w λe w'=>e=.returned u/\Below w.heap.size w w'
section
variable {S:Sg} {D:DD} {base:Nat} {w0 w w':World} {bA cs:List Frame} {f0:Nat} {ι bI:Ip} {U:Nat->Option CO} {V:Nat->Nat->Option CO} {n:Nat} {hp:Tr CO} {nx fn:Nat} {fr aO:Tr CV} {td t:TD} {ds:List Nat} {ro:Option Nat} {k:gJ} {m:AM} {f f' fw:Frame}
theorem M8{tmps:Array Value}:∀(args:List CV) (us:List Value) (fr:Tr CV) (i:Nat) (K:Tr CV->AM),cF ι args us->FR ι fr tmps->(∀(j:Nat) (u:Value),us[j]?=some u->tmps.getD (i+j) undef=u)->i+args.length<=aH->
  ∃aO,setArgs args fr i K=K aO/\FR ι aO tmps
 | [],us,fr,i,K,_,hf,_,_=>⟨fr,rfl,hf⟩
 |v :: args,us,fr,i,K,h,hf,ht,hk=>by
  obtain⟨u,lC,rfl,h1,h2⟩:=h.cons_inv;simp only[QT]at hk;obtain⟨aO,e,cR⟩:=M8 args lC (fr.set i v) (i+1) K h2 (λt v' e=>by
    rw[Tr.cH _ _ (by omega)]at e
    split at e
    .rename_i he;cases e;subst he
     have:=ht 0 u rfl;rw[ZA]at this;rw[this];exact h1
    .exact hf t v' e) (λj u' hj=>by
    have:=ht (j+1) u' (by simpa using hj);rw[show i+1+j=i+(j+1) by omega];exact this) (by omega)
  refine⟨aO,?_,cR⟩;show rS v (λv=>Tr.dL fr i v λfr=>setArgs args fr (i+1) K)=_;rw[Vw,Tr.bS];exact e
theorem Ab4:∀(ps:List Nat) (vs:List CV) (us:List Value) (fr:Tr CV) (tmps:Array Value) (K:Tr CV->AM) (z:AM),cF ι vs us->FR ι fr tmps->(D6 tmps.size ps vs fr K z=z)\/(us.length=ps.length/\∃aO,D6 tmps.size ps vs fr K z=K aO/\FR ι aO ((ps.zip us).foldl (λ(tmps:Array Value) (q:Nat×Value)=>tmps.setIfInBounds q.1 q.2) tmps))
 | [],vs,us,fr,tmps,K,z,h,hf=>by
  cases vs with
  |nil =>
   have:=h.fU;subst this;exact .inr ⟨rfl,fr,rfl,hf⟩
  |cons v vs=>exact .inl rfl
 |p :: ps,vs,us,fr,tmps,K,z,h,hf=>by
  cases vs with
  |nil=>exact .inl rfl
  |cons v vs =>
   obtain⟨u,lC,rfl,h1,h2⟩:=h.cons_inv;have he0:D6 tmps.size (p :: ps) (v :: vs) fr K z=bif Nat.ble (Nat.succ p) aH&&Nat.ble (Nat.succ p) tmps.size then rS v λv=>Tr.dL fr p v λfr=>D6 tmps.size ps vs fr K z else z:=rfl
   rw[he0];cases hb:(Nat.ble (Nat.succ p) aH&&Nat.ble (Nat.succ p) tmps.size)
   .exact .inl rfl
   .simp only[QB,As]at hb
    have aM:(tmps.setIfInBounds p u).size=tmps.size:=by simp
    have:=Ab4 ps vs lC (fr.set p v) (tmps.setIfInBounds p u) K z h2 (hf.set h1 hb.2 hb.1);rw[aM]at this;show (rS v (λv=>Tr.dL fr p v λfr=>D6 tmps.size ps vs fr K z)=z)\/_/\∃aO,rS v (λv=>Tr.dL fr p v λfr=>D6 tmps.size ps vs fr K z)=_/\_;rw[Vw,Tr.bS];rcases this with h3|⟨h3,aO,e1,e2⟩
    .exact .inl h3
    .exact .inr ⟨by simp[h3],aO,e1,by simpa using e2⟩
theorem Aeu(hD:N3 S D)(hF:vZ S)(hM:zW S base w0){cD:Nat}{args:List CV}{us:List Value}{M:Machine}(hh:HR S base w0 U ι hp nx w)(hu:UV U V)(hg:GR S ι)(BZ:iI S D.d0 ι (V n) fn fr td ds ro fw)(hs:Eb S D.d0 ι V bA f0 n fn k cs)(eQ:cF ι args us)
  (hE:(callFunc cD us.toArray).run S.P w=.ok (.enter cD us.toArray) w->Go.step S.P M=.next (lone (Frame.enter S.P cD us.toArray .normal) (fw :: cs) w))
  (jN:∀code,cD<1000000->S.en.X cD=some code->Bb S D base w0 bA f0 M (AL S.en cD code args fn fr td ds ro k hp nx)):
  Bb S D base w0 bA f0 M (Zb S.en cD args fn fr td ds ro k hp nx):=by
 unfold Zb;cases hr:Uq args (S.en.M cD) with
 |some v =>
  obtain⟨h1,u,h2,h3⟩:=hM cD args v hr ι us w eQ hh.below hh.top;obtain⟨e,w'',ad2,⟨rfl,yP⟩,xl,oO,gC⟩:=h3 (fw :: cs);have cM:Steps S.P M (lone ad2 (fw :: cs) w''):=.head (hE h1) xl;have w9:=hh.other yP rfl;exact⟨_,Steps.trans cM (.one (step_leave_returned gC)),Eu hD w9 hu hg BZ hs h2⟩
 |none =>
  cases hx:S.en.X cD with
  |some code =>
   show Bb S D base w0 bA f0 M (bif Nat.ble 1000000 cD then .bad 31 else AL S.en cD code args fn fr td ds ro k hp nx);cases hb:Nat.ble 1000000 cD
   .have:¬1000000<=cD:=λhle=>by have:=(As _ _).2 hle;rw[hb]at this;cases this
    exact jN code (by omega) hx
   .exact .bad
  |none =>
   cases iL:S.en.F cD with
   |none=>exact .bad
   |some fi =>
    show Bb S D base w0 bA f0 M (Agy fi cD args fn fr td ds ro k hp nx);unfold Agy;cases hb:(Nat.ble (len args) fi.ntmps&&Nat.ble (len args) 1000000)
    .exact .bad
    .simp only[QB,As,B7]at hb
     obtain⟨F,g1,g2,g3,g4,g5⟩:=hF.F cD fi iL;have rP:(callFunc cD us.toArray).run S.P w=.ok (.enter cD us.toArray) w:=by
      have g5':¬F.name="runtime.NumGoroutine":=by simpa using g5
      simp[callFunc,g1,g5',g2]
     have fY:(S.P.funcs[cD]?.bind (·.body))=some fi.body:=by rw[g1];exact g2
     let tm:Array Value:=us.toArray++Array.replicate (F.ntmps-us.toArray.size) undef
     have fR:Frame.enter S.P cD us.toArray .normal={ fn:=cD,tmps:=tm,todo:=[.code fi.body],defers:=[],mode:=.run,kind:=.normal }:=by
      simp[Frame.enter,g1,g2,tm]
     show Bb S D base w0 bA f0 M (setArgs args .e 0 λaO=>.run cD aO (.code fi.body .nil) [] none (.cons fn fr td ds ro k) hp nx);obtain⟨aO,e1,e2⟩:=M8 (tmps:=tm) args us .e 0 (λaO=>.run cD aO (.code fi.body .nil) [] none (.cons fn fr td ds ro k) hp nx) eQ (λt v e=>by cases e) (λj u hj=>by
      have aA:=(List.getElem?_eq_some_iff.1 hj).1;rw[XD,QM,YB (by simpa using aA)];simp[hj]) (by unfold aH;omega)
     rw[e1];have cM:=hE rP;rw[fR]at cM;refine .head cM (.stay ⟨ι,U,V,n+1,_,fw :: cs,w,rfl,hh,hu,hg,⟨rfl,?_,rfl,⟨rfl,λi r d a=>by cases a⟩,rfl,.inr (.inl ⟨rfl,.code .nil,e2⟩)⟩,.cons BZ hs⟩);show tm.size=S.nt cD;have:us.length<=F.ntmps:=by rw[g3,<-eQ.1];exact hb.1
     simp[tm,Sg.nt,Qc,iL,g3];omega
end
section
variable {S:Sg} {D:DD} {base:Nat} {w0 w w':World} {bA cs:List Frame} {f0:Nat} {ι bI:Ip} {U:Nat->Option CO} {V:Nat->Nat->Option CO} {n:Nat} {hp:Tr CO} {nx fn:Nat} {fr aO:Tr CV} {td t:TD} {ds:List Nat} {ro:Option Nat} {k:gJ} {m:AM} {f f' fw:Frame}
theorem VR.sj{l:Nat}{v:Value}(h:VR ι (.yl l) v):∃L,ι l 0=some L/\v=.func (.yield L.aE) #[] #[]:=by cases h with|yl h=>exact⟨_,h,rfl⟩
theorem Abi(ps:List Nat)(us:List Value)(tmps:Array Value):(ps.toArray.zip us.toArray).foldl (λ(tmps:Array Value) (q:Nat×Value)=>tmps.setIfInBounds q.1 q.2) tmps=(ps.zip us).foldl (λ(tmps:Array Value) (q:Nat×Value)=>tmps.setIfInBounds q.1 q.2) tmps:=by
 simp
theorem Apf(_hD:N3 S D){l:Nat}{L:Loc}{args:List CV}{us:List Value}{M:Machine}(hh:HR S base w0 U ι hp nx w)(hu:UV U V)(hg:GR S ι)(BZ:iI S D.d0 ι (V n) fn fr td ds ro fw)(hs:Eb S D.d0 ι V bA f0 n fn k cs)(hL:ι l 0=some L)(eQ:cF ι args us)
  (hR:∀gL tmps dQ body,(Instr.yield L.aE us.toArray).run S.P w=.ok (.round L.aE gL tmps dQ body) w->Go.step S.P M=.next (lone (Frame.round L.aE gL tmps dQ body .normal) (fw :: cs) w)):
  Bb S D base w0 bA f0 M (Apg S.en l args fn fr td ds ro k hp nx):=by
 unfold Apg
 split
 .rename_i st pd gL frL ps dQ body df hr
  cases gQ:Nat.beq st 0
  .exact .bad
  .rw[beq_iff]at gQ
   subst gQ;obtain⟨_,Ld,tmps,yS,aM,iM,hb⟩:=hh.rd.of hL hr;show Bb S D base w0 bA f0 M (D6 (Qc S.en gL) ps args frL (λaO=>.run gL aO (.code dQ (.br (.code body .nil))) [] (some l) (.cons fn fr td ds ro k) hp nx) (.bad 8));have nW:Qc S.en gL=tmps.size:=aM.symm;rw[nW];rcases Ab4 ps args us frL tmps (λaO=>.run gL aO (.code dQ (.br (.code body .nil))) [] (some l) (.cons fn fr td ds ro k) hp nx) (.bad 8) eQ iM with h3|⟨h3,p9,e1,e2⟩
   .rw[h3];exact .bad
   .rw[e1]
    have aG:=run_yield (P:=S.P) (args:=us.toArray) hb (by simp[h3]);have cM:=hR _ _ _ _ aG;refine .head cM (.stay ⟨ι,U,V,n+1,_,fw :: cs,w,rfl,hh,hu,hg,⟨rfl,?_,rfl,⟨rfl,λi r d a=>by cases a⟩,⟨L,hL,rfl⟩,.inr (.inl ⟨rfl,.code (.br (.code .nil)),?_⟩)⟩,.cons BZ hs⟩)
    .show (Array.foldl _ tmps _).size=S.nt gL
     rw[<-aM];have:∀(l:List (Nat×Value)) (tm:Array Value),(l.foldl (λ(tmps:Array Value) (q:Nat×Value)=>tmps.setIfInBounds q.1 q.2) tm).size=tm.size:=by
      intro l
      induction l with
      |nil=>intro tm;rfl
      |cons q l ih=>intro tm;simp only[UA];rw[ih];simp
     have hz:=Abi ps us tmps;exact (congrArg Array.size hz).trans (this _ _)
    .have hz:=Abi ps us tmps
     show FR ι p9 (Array.foldl _ tmps _);exact hz ▸ e2
 .exact .bad
theorem Afm{P:Program}{ops:Array Oper}{i:Nat}{rest:List Nat}{kk:List Item}{o:Oper}{g:Nat}{as:Array Value}(hm:f.mode=.run)(dF:f.todo=.inRegion ops (i :: rest) :: kk)(ho:ops[i]?=some o)(hd:∀c,o.op≠.defer c)
  (hw:Region.wanted o (yielded ops f.tmps)=true) (hr:(execOp (Br f).eval o).run P w=.ok (.enter g as) w'):Go.step P (lone f cs w)=.next (lone (Frame.enter P g as .normal) (f :: cs) w'):=by
 have hg:=stepGR_op (P:=P) (b:=f) (a:=Br f) (k:=kk) (cs:=cs) (w:=w) (rest:=rest) ho hw;rw[<-dF,Gl hm,Oper.semAt_eq _ _ _ hd]at hg;exact step_lone_go (by rw[hg];simp[stepG.apply,hr,dF])
theorem Afk{P:Program}{ops:Array Oper}{i:Nat}{rest:List Nat}{kk:List Item}{o:Oper}{l g:Nat}{tm:Array Value}{dQ body:Code}(hm:f.mode=.run)(dF:f.todo=.inRegion ops (i :: rest) :: kk)(ho:ops[i]?=some o)(hd:∀c,o.op≠.defer c)
  (hw:Region.wanted o (yielded ops f.tmps)=true) (hr:(execOp (Br f).eval o).run P w=.ok (.round l g tm dQ body) w'):Go.step P (lone f cs w)=.next (lone (Frame.round l g tm dQ body .normal) (f :: cs) w'):=by
 have hg:=stepGR_op (P:=P) (b:=f) (a:=Br f) (k:=kk) (cs:=cs) (w:=w) (rest:=rest) ho hw;rw[<-dF,Gl hm,Oper.semAt_eq _ _ _ hd]at hg;exact step_lone_go (by rw[hg];simp[stepG.apply,hr])
theorem Aet(hD:N3 S D)(hF:vZ S)(hM:zW S base w0){ops:Array Oper}{i:Nat}{rest:List Nat}{kk:List Item}{o:Oper}{x:Operand}{c:Call}(hh:HR S base w0 U ι hp nx w)(hu:UV U V)(hg:GR S ι)(h:iI S D.d0 ι (V n) fn fr td ds ro f)(hs:Eb S D.d0 ι V bA f0 n fn k cs)
  (hm:f.mode=.run) (dF:f.todo=.inRegion ops (i :: rest) :: kk) (ho:ops[i]?=some o) (hw:Region.wanted o (yielded ops f.tmps)=true) (pE:o.op=.call c) (aQ:c.callee=.value x) (hf:FR ι aO f.tmps) (jB:Alike S.en fr aO o.op.operands.toList)
  (jN:∀cD args us code,cF ι args us->cD<1000000->S.en.X cD=some code->(execOp (Br f).eval o=callFunc cD us.toArray)->Bb S D base w0 bA f0 (lone f cs w) (AL S.en cD code args fn fr td ds ro k hp nx)):
  Bb S D base w0 bA f0 (lone f cs w) (PR S.en (ev S.en fr x) (c.args.toList.map (ev S.en fr)) fn fr td ds ro k hp nx):=by
 have jU:ev S.en fr x=ev S.en aO x:=jB x (by simp[pE,Op.operands,Call.operands,aQ]);have kB:Alike S.en fr aO c.args.toList:=jB.sub λy hy=>by simp[pE,Op.operands,Call.operands,aQ]at hy ⊢;exact .inr hy
 rw[kB.map,jU];have hX:=Ay (a:=Br f) hg hf x;have hA:=Pm (a:=Br f) hg hf c.args.toList;have eQ:c.args.map (Br f).eval=(c.args.toList.map (Br f).eval).toArray:=Jg;have hd:∀q,o.op≠.defer q:=λq e=>by rw[pE]at e;cases e
 generalize hv:ev S.en aO x=v at hX
 cases v with
 |f g xs ys =>
  obtain⟨NJ,DN,he,r1,r2⟩:=hX.rH;have jP:cF ι (xs++(c.args.toList.map (ev S.en aO)++ys)) (NJ++(c.args.toList.map (Br f).eval++DN)):=r1.app (hA.app r2);have uF:execOp (Br f).eval o=callFunc g (NJ++(c.args.toList.map (Br f).eval++DN)).toArray:=by
   simp only[execOp,pE,resolve,aQ,he,Deferred.ofValue];simp only[pure_bind,invoke];rw[eQ];congr 1;apply XN;simp
  show Bb S D base w0 bA f0 (lone f cs w) (Zb S.en g (app xs (app (c.args.toList.map (ev S.en aO)) ys)) fn fr td ds ro k hp nx);rw[Ls,Ls];exact Aeu hD hF hM hh hu hg h hs jP (λrP=>Afm hm dF ho hd hw (by rw[uF];exact rP)) λcode aA hc=>jN _ _ _ code jP aA hc uF
 |yl l =>
  obtain⟨L,hL,he⟩:=hX.sj;have uF:execOp (Br f).eval o=Instr.yield L.aE (c.args.toList.map (Br f).eval).toArray:=by
   simp only[execOp,pE,resolve,aQ,he,Deferred.ofValue];simp only[pure_bind,invoke];rw[eQ];congr 1;apply XN;simp
  exact Apf hD hh hu hg h hs hL hA λgL tmps dQ body hr=>Afk hm dF ho hd hw (by rw[uF];exact hr)
 |_=>exact .bad
end
section
variable {S:Sg} {D:DD} {base:Nat} {w0 w w':World} {bA cs:List Frame} {f0:Nat} {ι bI:Ip} {U:Nat->Option CO} {V:Nat->Nat->Option CO} {n:Nat} {hp:Tr CO} {nx fn:Nat} {fr aO:Tr CV} {td t:TD} {ds:List Nat} {ro:Option Nat} {k:gJ} {m:AM} {f f' fw:Frame}
theorem Afl{P:Program}{x:Operand}{ps:Array Tmp}{dQ body:Code}{k':List Item}{l g:Nat}{mark:List Deferred}{first cap as:Array Value}{w2:World}(hm:f.mode=.run)(dF:f.todo=.code (.rangeFunc x ps dQ body) :: k')
  (aG:(Instr.enterLoop f.fn f.tmps ps dQ body f.roundOf).run P w=.ok (l,mark) w2) (he:(Br f).eval x=.func (.func g) first cap) (ha:as=first++#[.func (.yield l) #[] #[]]++cap) (rP:(callFunc g as).run P w2=.ok (.enter g as) w2):
  Go.step P (lone f cs w)=.next (lone (Frame.enter P g as .normal) ({ f with todo:=.inRangeFunc l :: k',defers:=mark++f.defers } :: cs) w2):=by
 obtain⟨ffn,p8,as8,uM,as9,qe,yW⟩:=f;simp only at hm dF aG;subst hm dF;have uG:(⟨ffn,p8,.inRangeFunc l :: k',mark++uM,.run,qe,yW⟩:Frame).eval x=.func (.func g) first cap:=by
  rw[<-he];cases x<;>rfl
 have dO:(do let d<-resolve (⟨ffn,p8,.inRangeFunc l :: k',mark++uM,.run,qe,yW⟩:Frame).eval { callee:=.value x,args:=#[.const (.func (.yield l) #[] #[])],argTypes:=#[] } 0;invoke d.target d.args)=callFunc g as:=by
  simp only[resolve,uG,Deferred.ofValue,pure_bind,invoke];rw[ha];congr 2;simp[Frame.eval]
 refine step_lone_go ?_;simp only[stepG,stepG.exec,Sem.runT_eq,aG,GStep.bare_after];rw[dO];simp[stepG.apply,rP]
theorem Aml(hD:N3 S D)(hF:vZ S)(hM:zW S base w0){x:Operand}{ps:Array Tmp}{dQ body:Code}{k':List Item}(hh:HR S base w0 U ι hp nx w)(hu:UV U V)(hg:GR S ι){D':Kp}(h:iI S D' ι (V n) fn fr (.code (.rangeFunc x ps dQ body) t) ds ro f)(hm:f.mode=.run)(hf:FR ι fr f.tmps)(hs:Eb S D.d0 ι V bA f0 n fn k cs)(dF:f.todo=.code (.rangeFunc x ps dQ body) :: k')(ht:gI ι t k'):
  Bb S D base w0 bA f0 (lone f cs w) (Z3 S.en (ev S.en fr x) ps.toList dQ body t fn fr ds ro k hp nx):=by
 have hX:=Ay (a:=Br f) hg hf x;unfold Z3
 split
 .rename_i g xs ys hq
  rw[hq]at hX;obtain⟨NJ,DN,he,r1,r2⟩:=hX.rH;have ep:ps.toList.toArray=ps:=by simp
  -- from rY record on
  have main:∀(tB:Ip) (uB:Tr CO) (sC:Nat) (w1:World) (df:Nat) (Ld:Loc) (KN:List Nat) (mark:List Deferred),Ex ι tB->HR S base w0 U tB uB sC w1->tB df 0=some Ld->CX tB KN (mark++f.defers)->
    (Instr.enterLoop f.fn f.tmps ps dQ body f.roundOf).run S.P w=.ok (w1.heap.size,mark) (w1.alloc (.loop { state:=.ready,pending:=none,fn:=f.fn,tmps:=f.tmps,params:=ps,assign:=dQ,body,defers:=Ld.aE }))->
    Bb S D base w0 bA f0 (lone f cs w) (Ng S.en g xs ys ps.toList dQ body t df fn fr KN ro k uB sC):=by
   intro tB uB sC w1 df Ld KN mark BG xa yS mV aG;unfold Ng
   generalize e8:Ot (.bad 19) (.lp 0 none fn fr ps.toList dQ body df) uB sC _=mm
   rcases Q7 mm with⟨b,hb⟩|eY
   .rw[hb];exact .bad
   obtain⟨hk,e⟩:=Mb eY ⟨19,rfl⟩ e8;rw[e];obtain⟨q1,q2⟩:=xa.new (en:=0) (ob:=.loop { state:=.ready,pending:=none,fn:=f.fn,tmps:=f.tmps,params:=ps,assign:=dQ,body,defers:=Ld.aE }) (o:=.lp 0 none fn fr ps.toList dQ body df) hk (by
    have sH:Ex tB (tB.add sC 0 ⟨w1.heap.size,0,0⟩):=Ip.gZ (by
     cases e:tB sC 0 with
     |none=>rfl
     |some L=>have:=xa.oB sC 0 L e;omega)
    refine⟨rfl,Ld,f.tmps,sH _ _ _ yS,h.size,(hf.mono BG).mono sH,?_⟩;show (w1.alloc _).heap[w1.heap.size]?=_;rw[World.alloc_heap_new,h.nA,ep];rfl)
   have hL2:(tB.add sC 0 ⟨w1.heap.size,0,0⟩) sC 0=some ⟨w1.heap.size,0,0⟩:=Ip.bW _ _ _ _;have jU:=BG.trans q2;cases hXg:S.en.X g with
   |some _=>exact .bad
   |none =>
   show Bb S D base w0 bA f0 (lone f cs w) (Zb S.en g (app xs (app [.yl sC] ys)) fn fr (.rf sC t) KN ro k _ _);rw[Ls,Ls];have eQ:cF (tB.add sC 0 ⟨w1.heap.size,0,0⟩) (xs++([.yl sC]++ys)) (NJ++([.func (.yield w1.heap.size) #[] #[]]++DN)):=(r1.mono jU).app ((cF.cons (.yl hL2) .nil).app (r2.mono jU));have BZ:iI S D.d0 (tB.add sC 0 ⟨w1.heap.size,0,0⟩) (V n) fn fr (.rf sC t) KN ro { f with todo:=.inRangeFunc w1.heap.size :: k',defers:=mark++f.defers } :=
    ⟨h.nA,h.size,h.kind,mV.mono q2,h.ro.mono jU,.inr (.inl ⟨hm,.rf hL2 (ht.mono jU),hf.mono jU⟩)⟩
   exact Aeu hD hF hM q1 hu (hg.mono jU) BZ (hs.mono hD jU) eQ (λrP=>Afl hm dF aG he (by apply XN;simp) rP) λcode _ hc=>by rw[hXg]at hc;cases hc
  cases eW:ro with
  |none =>
   subst eW;show Bb S D base w0 bA f0 (lone f cs w) (Ot (.bad 19) .df hp nx λhp gN=>Ng S.en g xs ys ps.toList dQ body t nx fn fr (nx :: ds) none k hp gN);rcases Q7 (Ot (.bad 19) .df hp nx λhp gN=>Ng S.en g xs ys ps.toList dQ body t nx fn fr (nx :: ds) none k hp gN) with⟨b,hb⟩|eY
   .rw[hb];exact .bad
   obtain⟨hk,e⟩:=Mb eY ⟨19,rfl⟩ rfl;rw[e];obtain⟨q1,q2⟩:=hh.new (en:=0) (ob:=.deferred (some [])) (o:=.df) hk ⟨rfl,World.alloc_heap_new _ _⟩;have cI:f.roundOf=none:=h.ro;refine main _ _ _ _ nx ⟨w.heap.size,0,0⟩ (nx :: ds) [{ target:=.collected w.heap.size,args:=#[] }] q2 q1 (Ip.bW _ _ _ _) ?_ ?_
   .have hd:=h.df.mono q2
    refine⟨by simp[hd.1],λi r d a b=>?_⟩;cases i with
    |zero =>
     cases a;cases b;exact⟨_,Ip.bW _ _ _ _,rfl⟩
    |succ i=>exact hd.2 i r d (by simpa using a) (by simpa using b)
   .rw[cI,run_enterLoop_outer]
    simp
  |some l =>
   subst eW;show Bb S D base w0 bA f0 (lone f cs w) (match hp.get l with
    |some (.lp _ _ _ _ _ _ _ df)=>Ng S.en g xs ys ps.toList dQ body t df fn fr ds (some l) k hp nx
    |_=>.bad 20)
   split
   .rename_i st pd gL frL ps' aV6 au1 df hr
    obtain⟨L,hL,cI⟩:=h.ro;obtain⟨_,Ld,tmps,yS,aM,iM,hb⟩:=hh.rd.of hL hr;refine main ι hp nx w df Ld ds [] Ex.refl hh yS (by simpa using h.df) ?_;rw[cI,run_enterLoop_inner hb]
   .exact .bad
 .exact .bad
end
section
variable {S:Sg} {D:DD} {base:Nat} {w0 w w':World} {bA cs:List Frame} {f0:Nat} {ι bI:Ip} {U:Nat->Option CO} {V:Nat->Nat->Option CO} {n:Nat} {hp:Tr CO} {nx fn:Nat} {fr aO:Tr CV} {td t:TD} {ds:List Nat} {ro:Option Nat} {k:gJ} {m:AM} {f f' fw:Frame}
structure Rest(S:Sg)(D:DD)(base:Nat)(w0:World)(bA:List Frame)(f0:Nat):Prop where
 ext:∀ {ι U V n hp nx fn fr td ds ro k f cs w} {ops:Array Oper} {i:Nat} {rest:List Nat} {kk:List Item} {o:Oper},HR S base w0 U ι hp nx w->UV U V->GR S ι->iI S D.d0 ι (V n) fn fr td ds ro f->Eb S D.d0 ι V bA f0 n fn k cs->f.mode=.run->f.todo=.inRegion ops (i :: rest) :: kk->ops[i]?=some o->
  Region.wanted o (yielded ops f.tmps)=true->(∀c,o.op≠.defer c)->∀cD args us code,cF ι args us->cD<1000000->S.en.X cD=some code->(execOp (Br f).eval o=callFunc cD us.toArray)->Bb S D base w0 bA f0 (lone f cs w) (AL S.en cD code args fn fr td ds ro k hp nx)
 draw:∀ {ι U V n hp nx fn fr t ds ro k f cs w} {id:Nat} {ops:Array Oper} {k':List Item},HR S base w0 U ι hp nx w->UV U V->GR S ι->iI S (D.d1 hp) ι (V n) fn fr (.code (.region id ops true) t) ds ro f->FR ι fr f.tmps->Eb S D.d0 ι V bA f0 n fn k cs->f.mode=.run->f.todo=.code (.region id ops true) :: k'->gI ι t k'->
  Bb S D base w0 bA f0 (lone f cs w) ((MU S.en ops).f fn fr t ds ro k hp nx)
 rd:∀ {ι U V n hp nx fn fr ops l t ds ro k f cs w} {is:List Nat} {k':List Item},HR S base w0 U ι hp nx w->UV U V->GR S ι->iI S (D.d1 hp) ι (V n) fn fr (.rd ops l t) ds ro f->Eb S D.d0 ι V bA f0 n fn k cs->f.mode=.run->f.todo=.inRegion ops is :: k'->gI ι t k'->D.d1 hp ι (V n) ops l is fr f.tmps->
  Bb S D base w0 bA f0 (lone f cs w) (T5 S.en ops l t fn fr ds ro k hp nx)
theorem iI.to0{D':Kp}{U:Nat->Option CO}(h:iI S D' ι U fn fr td ds ro f)(hm:f.mode=.run)(ht:gI ι td f.todo)(hf:FR ι fr f.tmps){D2:Kp}:iI S D2 ι U fn fr td ds ro f :=
 ⟨h.nA,h.size,h.kind,h.df,h.ro,.inr (.inl ⟨hm,ht,hf⟩)⟩
theorem au(hS:eH S)(hD:N3 S D)(hF:vZ S)(hM:zW S base w0)(hR:Rest S D base w0 bA f0){M:Machine}(h:Xw S D base w0 bA f0 m M):Bb S D base w0 bA f0 M (Cv.step S.en m):=by
 cases m with
 |fin v hp nx=>exact .stay h
 |bad b=>exact .bad
 |run fn fr td ds ro k hp nx =>
  obtain⟨ι,U,V,n,f,cs,w,rfl,hh,hu,hg,cI,hs⟩:=h;show Bb S D base w0 bA f0 (lone f cs w) (step1 S.en fn fr td ds ro k hp nx);rcases cI.at_ with⟨rfl,hm,eW,hf⟩|⟨hm,ht,hf⟩|⟨hm,ops,l,t,is,k',rfl,dF,ht,hd⟩
  .exact tc hS hD hF hh hu hg cI hs
  .have uE:=dv (f0:=f0) hh hu hg cI hm hf hs ht
   generalize dF:f.todo=todo at ht
   have GS:gI ι td f.todo:=by rw[dF];exact ht
   cases ht with
   |nil=>exact Adc hD hh hu hg cI hm hf hs (.inl ⟨rfl,dF⟩)
   | @code c t k' ht =>
    exact jz hh hu hg cI hm hf hs dF ht (λj hj e=>Adc hD hh hu hg cI hm hf hs (.inr ⟨j,k',rfl,by rw[dF,e],hj⟩))
     (λid ops e=>by subst e;exact hR.draw hh hu hg cI hf hs hm dF ht) (λx ps dQ body e=>by subst e;exact Aml hD hF hM hh hu hg cI hm hf hs dF ht)
   | @aE id t k' ht=>exact uE.1 id t rfl
   | @scope c t k' ht=>exact uE.2.1 c t rfl
   | @loop c t k' ht=>exact uE.2.2.1 c t rfl
   | @rl ops l is t k' ht hl hi =>
    show Bb S D base w0 bA f0 (lone f cs w) (Al7 S.en ops l t fn fr ds ro k hp nx);cases l with
    |nil=>exact uE.2.2.2 ops t rfl
    |cons o l =>
     cases is with
     |nil=>cases hl
     |cons i is =>
      have ho:ops[i]?=some o:=hi 0 i o rfl rfl;have h0:iI S D.d0 ι (V n) fn fr (.rl ops (o :: l) t) ds ro f:=cI.to0 hm GS hf;exact oc hS hD hh hu hg h0 hm dF ho hf (λ_ _=>rfl) (λ_ _ _ _ _=>rfl) hs (λ_ _ _=>rfl)
       λx c pE aQ hw=>Aet hD hF hM hh hu hg h0 hs hm dF ho hw pE aQ hf (λ_ _=>rfl)
        λcD args us code ha aA hx he=>hR.ext hh hu hg h0 hs hm dF ho hw (λc e=>by rw[pE]at e;cases e) cD args us code ha aA hx he
   | @rf l L t k' hL ht=>exact .bad
   | @vN l L t k' hL ht=>exact ym hh hu hg cI hm hf GS hs
   | @br t k' ht=>exact zc hh hu hg cI hm hf GS hs
  .exact hR.rd hh hu hg cI hs hm dF ht hd
theorem Bb.trans{M M1:Machine}(h:Steps S.P M M1)(h':Bb S D base w0 bA f0 M1 m):Bb S D base w0 bA f0 M m:=by
 obtain⟨M',h1,h2⟩:=h';exact⟨M',Steps.trans h h1,h2⟩
theorem Ahw(hS:eH S)(hD:N3 S D)(hF:vZ S)(hM:zW S base w0)(hR:Rest S D base w0 bA f0):∀(q:Nat) (m:AM) (M:Machine),Xw S D base w0 bA f0 m M->Bb S D base w0 bA f0 M (runs S.en q m)
 |0,m,M,h=>.stay h
 |q+1,m,M,h=>by
  cases m with
  |fin v hp nx=>exact .stay h
  |bad b=>exact .bad
  |run fn fr td ds ro k hp nx =>
   obtain⟨M',h1,h2⟩:=au hS hD hF hM hR h;exact .trans h1 (Ahw hS hD hF hM hR q _ M' h2)
theorem Ape(hS:eH S)(hD:N3 S D)(hF:vZ S)(hM:zW S base w0){fi:FI}{args:List CV}{us:List Value}(hR:∀bA,Rest S D base w0 bA f0)(iL:S.en.F f0=some fi)(hh:HR S base w0 U ι hp nx w)(hu:UV U V)(hg:GR S ι)(eQ:cF ι args us)(hn:args.length<=fi.ntmps)(hk:args.length<=1000000){q:Nat}{v:CV}{dS:Tr CO}{gN:Nat}
  (aG:setArgs args .e 0 (λfr=>runs S.en q (.run f0 fr (.code fi.body .nil) [] none .nil hp nx))=.fin v dS gN):
  Calls S.P f0 us.toArray w λe w'=>∃bI u,e=.returned u/\VR bI v u/\Below base w0 w':=by
 intro bA;obtain⟨F,g1,g2,g3,g4,g5⟩:=hF.F f0 fi iL
 let tm:Array Value:=us.toArray++Array.replicate (F.ntmps-us.toArray.size) undef
 have fR:Frame.enter S.P f0 us.toArray .normal={ fn:=f0,tmps:=tm,todo:=[.code fi.body],defers:=[],mode:=.run,kind:=.normal }:=by
  simp[Frame.enter,g1,g2,tm]
 obtain⟨aO,e1,e2⟩:=M8 (tmps:=tm) args us .e 0 (λfr=>runs S.en q (.run f0 fr (.code fi.body .nil) [] none .nil hp nx)) eQ (λt v e=>by cases e) (λj u hj=>by
  have aA:=(List.getElem?_eq_some_iff.1 hj).1;rw[XD,QM,YB (by simpa using aA)];simp[hj]) (by unfold aH;omega)
 rw[e1]at aG;have VU:Xw S D base w0 bA f0 (.run f0 aO (.code fi.body .nil) [] none .nil hp nx) (lone (Frame.enter S.P f0 us.toArray .normal) bA w):=by
  rw[fR];refine⟨ι,U,V,0,_,bA,w,rfl,hh,hu,hg,⟨rfl,?_,rfl,⟨rfl,λi r d a=>by cases a⟩,rfl,.inr (.inl ⟨rfl,.code .nil,e2⟩)⟩,.nil⟩;show tm.size=S.nt f0;have:us.length<=F.ntmps:=by rw[g3,<-eQ.1];exact hn
  simp[tm,Sg.nt,Qc,iL,g3];omega
 obtain⟨M',h1,h2⟩:=Ahw hS hD hF hM (hR bA) q _ _ VU;rw[aG]at h2;obtain⟨bI,U',f,w',u,rfl,fk,gC,oO,hv⟩:=h2;exact⟨.returned u,w',f,⟨bI,u,rfl,hv,fk.below⟩,h1,oO,gC⟩
end
structure zy(S:Sg):Prop where
 ib:∀f,f<1000000->(S.en.X f=some 1\/S.en.X f=some 2)->∀as w r,(Extern.BytealgIndexByte.indexByte as).run S.P w=.ok r w->(callFunc f as).run S.P w=.ok (.value r) w
 ne:∀f,f<1000000->S.en.X f=some 3->∀x w,(callFunc f #[x]).run S.P w=.ok (.value x) w
 mz:∀f e,f<1000000->S.en.X f=some 4->S.en.X (3000000+f)=some e->∀(n:Nat) (w:World),n<=1000000000->∃cap arr,n<=cap/\arr.size=cap/\(callFunc f #[.int .i64 n]).run S.P w=.ok (.value (.slice (some ⟨w.heap.size,0,none⟩) n cap)) (w.drew.drew.alloc (.cells arr e))
section
variable {S:Sg} {D:DD} {base:Nat} {w0 w w':World} {bA cs:List Frame} {f0:Nat} {ι bI:Ip} {U:Nat->Option CO} {V:Nat->Nat->Option CO} {n:Nat} {hp:Tr CO} {nx fn:Nat} {fr aO:Tr CV} {td t:TD} {ds:List Nat} {ro:Option Nat} {k:gJ} {m:AM} {f f' fw:Frame}
theorem Adx(n c:Nat):∀(l i:Nat),V7 n c l i=(List.range' i l).find? λj=>Nat.beq (Ea n j) c
 |0,i=>rfl
 |l+1,i=>by
  have e:V7 n c (l+1) i=bif Nat.beq (Ea n i) c then some i else V7 n c l (i+1):=rfl
  rw[e,Adx n c l (i+1),List.range'_succ,List.find?_cons];cases Nat.beq (Ea n i) c<;>rfl
theorem find_congr{p q:Nat->Bool}:∀(xs:List Nat),(∀j∈xs,p j=q j)->xs.find? p=xs.find? q
 | [],_=>rfl
 |x :: xs,h=>by
  rw[List.find?_cons,List.find?_cons,h x (by simp),find_congr xs λj hj=>h j (by simp[hj])]
theorem Aoc{l n c:Nat}(hc:c<256):((List.range (strOf l n).size).find? λi=>(strOf l n)[i]! ==(c:Int).toNat.toUInt8)=V7 n c l 0:=by
 rw[Adx,A7,List.range_eq_range'];refine find_congr _ λj hj=>?_;have hj:j<l:=by have:=List.mem_range'_1.1 hj;omega
 have h1:=X2! (n:=n) hj;have h2:(strOf l n)[j]! = (strOf l n).get! j:=by
  rw[getElem!_pos (strOf l n) j (by rw[A7];exact hj)];show _=(strOf l n).data[j]!;rw[getElem!_pos (strOf l n).data j (by show j<(strOf l n).size;rw[A7];exact hj)];rfl
 rw[h2];have h3:(c:Int).toNat.toUInt8.toNat=c:=by
  rw[ZP];show (UInt8.ofNat c).toNat=c;rw[UT];omega
 cases hb:Nat.beq (Ea n j) c
 .rw[beq_eq_false_iff_ne]
  intro e;rw[e,h3]at h1;rw[(beq_iff _ _).2 h1.symm]at hb;cases hb
 .rw[XI]
  apply UInt8.toNat_inj.1;rw[h1,h3];exact (beq_iff _ _).1 hb
theorem u5{o:Option Nat}:VR ι (TG o) (match o with|some i=>goInt i|none=>goInt (-1)):=by
 cases o with
 |none=>exact .i _ _
 |some i=>exact .i _ _
theorem Anx{l n c:Nat}{b:Value}(hc:c<256)(hb:(Extern.Bytes.bytesOf b).run S.P w=.ok (strOf l n) w):(Extern.BytealgIndexByte.indexByte #[b,.int .u8 c]).run S.P w=.ok (match V7 n c l 0 with|some i=>goInt i|none=>goInt (-1)) w:=by
 have e:Extern.BytealgIndexByte.indexByte #[b,.int .u8 c]=(do
   let b<-Extern.Bytes.bytesOf b
   let c<-Extern.Bytes.asByte (.int .u8 c)
   match (List.range b.size).find? λi=>b[i]! ==c with
   |some i=>pure (goInt i)
   |none=>pure (goInt (-1))):=rfl
 rw[e];simp only[Sem.run_bind,hb,Extern.Bytes.asByte,Sem.run_pure,Result.andThen_ok];rw[Aoc hc];cases V7 n c l 0<;>rfl
theorem Aio{l n:Nat}{c v:CV}{b u:Value}(h:jf l n c=some v)(hc:VR ι c u)(hb:(Extern.Bytes.bytesOf b).run S.P w=.ok (strOf l n) w):∃r,(Extern.BytealgIndexByte.indexByte #[b,u]).run S.P w=.ok r w/\VR ι v r:=by
 unfold jf at h
 split at h
 .rename_i m hm
  cases h;obtain⟨rfl,aA⟩:=Q5 hm;rw[hc.fM];exact⟨_,Anx aA hb,u5⟩
 .cases h
theorem jg(hX:zy S)(hR:Rd S ι hp w){g code:Nat}{args:List CV}{us:List Value}{v:CV}(aA:g<1000000)(hx:S.en.X g=some code)(ha:cF ι args us)(h:jh hp code args=some v):∃r,(callFunc g us.toArray).run S.P w=.ok (.value r) w/\VR ι v r:=by
 unfold jh at h
 split at h
 .split at h
  .rename_i x c
   obtain⟨u,lC,rfl,h1,h2⟩:=ha.cons_inv;obtain⟨u2,lC,rfl,h3,h4⟩:=h2.cons_inv;have:=h4.fU;subst this
   split at h
   .rename_i l n
    obtain⟨rfl,hn⟩:=h1.fJ;obtain⟨r,q1,q2⟩:=Aio (b:=.string (strOf l n)) h h3 (by simp[Extern.Bytes.bytesOf]);exact⟨r,hX.ib g aA (.inl hx) _ w r q1,q2⟩
   .cases h
  .cases h
 .split at h
  .rename_i x c
   obtain⟨u,lC,rfl,h1,h2⟩:=ha.cons_inv;obtain⟨u2,lC,rfl,h3,h4⟩:=h2.cons_inv;have:=h4.fU;subst this;unfold KE at h
   split at h
   .split at h
    .rename_i m hm
     cases h;obtain⟨rfl,eC⟩:=Q5 hm;rw[h1.eR,h3.fM];have:=Anx (S:=S) (w:=w) (l:=0) (n:=0) (c:=m) (b:=.slice none 0 0) eC (by simp[Extern.Bytes.bytesOf];rfl);exact⟨_,hX.ib g aA (.inr hx) _ w _ this,.i _ _⟩
    .cases h
   .rename_i r g' off l sz cap
    split at h
    .rename_i n hn
     obtain⟨L,ad,c',hL,cZ,hz,fR,fQ,qW,_,_,rfl⟩:=h1.aS;obtain⟨ns,p1,rfl,p3⟩:=Zx hR hn hL cZ;have sS:∀m∈ns,m<256:=λm hm=>by
      obtain⟨i,hi⟩:=List.mem_iff_getElem?.1 hm;exact (p3 i m hi).2
     obtain⟨d1,d2⟩:=Ic ns sS;have yA:(Extern.Bytes.bytesOf (.slice (some ad) l c')).run S.P w=.ok (strOf l (Kr ns)) w:=by
      show (Extern.Bytes.loadBytes ad l .empty).run S.P w=_
      by_cases sQ:l=0
      .subst sQ
       have:ns=[]:=QQ p1;subst this;rfl
      .have:=fQ (by omega)
       subst this;have aG:=Lib.run_loadBytesX (P:=S.P) (w:=w) (ns.map λ(m:Nat)=>(m:Int)) ⟨L.aE,off-L.lo,none⟩ .empty (λj x hj=>by
        rw[QP]at hj;cases hm:ns[j]? with
        |none=>rw[hm]at hj;cases hj
        |some m =>
         rw[hm]at hj;cases hj;rw[Ff];exact (p3 j m hm).1)
       rw[XW,p1]at aG;rw[aG];congr 1;apply ByteArray.ext;show _=(iH l (Kr ns)).toArray;rw[<-p1,d2];simp[Lib.bytesOf]
     obtain⟨r,q1,q2⟩:=Aio (b:=.slice (some ad) l c') h h3 yA;exact⟨r,hX.ib g aA (.inr hx) _ w r q1,q2⟩
    .cases h
   .cases h
  .cases h
 .split at h
  .rename_i x
   cases h;obtain⟨u,lC,rfl,h1,h2⟩:=ha.cons_inv;have:=h2.fU;subst this;exact⟨u,hX.ne g aA hx u w,h1⟩
  .cases h
 .cases h
theorem gu(hh:HR S base w0 U ι hp nx w):HR S base w0 U ι hp nx w.drew.drew:=hh.drew.drew
theorem Aoi(hD:N3 S D)(hX:zy S){ops:Array Oper}{i:Nat}{rest:List Nat}{kk:List Item}{o:Oper}(hh:HR S base w0 U ι hp nx w)(hu:UV U V)(hg:GR S ι)(h:iI S D.d0 ι (V n) fn fr td ds ro f)(hs:Eb S D.d0 ι V bA f0 n fn k cs)(hm:f.mode=.run)(dF:f.todo=.inRegion ops (i :: rest) :: kk)(ho:ops[i]?=some o)
  (hw:Region.wanted o (yielded ops f.tmps)=true) (hd:∀c,o.op≠.defer c) (cD:Nat) (args:List CV) (us:List Value) (code:Nat) (ha:cF ι args us) (aA:cD<1000000) (hx:S.en.X cD=some code) (he:execOp (Br f).eval o=callFunc cD us.toArray):Bb S D base w0 bA f0 (lone f cs w) (AL S.en cD code args fn fr td ds ro k hp nx):=by
 unfold AL;cases hb:Nat.beq code 4
 .show Bb S D base w0 bA f0 (lone f cs w) (match jh hp code args with|some v=>finish S.en v fn fr td ds ro k hp nx|none=>.bad 5)
  split
  .rename_i v hv
   obtain⟨r,q1,q2⟩:=jg hX hh.rd aA hx ha hv;exact .head (Ks (w':=w) hm dF ho hd hw (.inl (by rw[he];exact q1))) (.stay (Eu hD hh hu hg h hs q2))
  .exact .bad
 .have h4:code=4:=(beq_iff _ _).1 hb
  subst h4;show Bb S D base w0 bA f0 (lone f cs w) (Am8 S.en cD args fn fr td ds ro k hp nx);unfold Am8
  split
  .rename_i x e hXe
   split
   .rename_i q hq
    obtain⟨u,lC,rfl,h1,h2⟩:=ha.cons_inv;have:=h2.fU;subst this;have hxv:=Adj hq h1;subst hxv;cases hb9:Nat.ble q 1000000000
    .exact .bad
    .have hq9:=(As _ _).1 hb9
     show Bb S D base w0 bA f0 (lone f cs w) (Ot (.bad 5) (.c e .e 0 0 0 false false) hp nx λhp gN=>finish S.en (.sl nx 0 0 q 1 0) fn fr td ds ro k hp gN)
     generalize e8:Ot (.bad 5) (.c e .e 0 0 0 false false) hp nx _=mm
     rcases Q7 mm with⟨b,hb⟩|eY
     .rw[hb];exact .bad
     obtain⟨hk,e1⟩:=Mb eY ⟨5,rfl⟩ e8;rw[e1];obtain⟨cap,arr,r1,r2,r3⟩:=hX.mz cD e aA hx hXe q w hq9;have lX:HR S base w0 U ι hp nx w.drew.drew:=gu hh;obtain⟨q1,q2⟩:=lX.new (en:=cap) (ob:=.cells arr e) (o:=.c e .e 0 0 0 false false) hk ⟨QK _,arr,(0,0),World.alloc_heap_new _ _,by rw[r2];show cap<=0+cap;omega,λi c hc=>(by cases hc),λ_=>⟨ZD _,rfl,ZD _⟩⟩;exact .head (Ks hm dF ho hd hw (.inl (by rw[he];exact r3))) (.stay (Eu hD q1 hu (hg.mono q2) (h.mono (λe=>hD.xA q2 e) q2) (hs.mono hD q2)
      (.sl (Ip.bW _ _ _ _) (QK _) (by omega) (by show 0+cap * 1<=cap;omega) (λ_=>rfl) r1 (λ_=>by show cap=(cap-0) / 1;simp) (λk e=>by cases e))))
   .exact .bad
  .exact .bad
end
def kO(ops:Array Oper)(done:Nat->Bool)(i:Nat):Prop:=i<ops.size/\done i=false/\∀o,ops[i]?=some o->∀e∈o.after,Region.binds .any e=true->done e.on=true
def aL(done:Nat->Bool)(i:Nat):Nat->Bool:=λj=>if j=i then true else done j
inductive Jk(ops:Array Oper):(Nat->Bool)->List Nat->Prop
 |nil {done:Nat->Bool} (h:∀i,¬kO ops done i):Jk ops done []
 |cons {done:Nat->Bool} {i:Nat} {is:List Nat} (h:kO ops done i) (hs:Jk ops (aL done i) is):Jk ops done (i :: is)
theorem mem_ready{ops:Array Oper}{listed:Array Bool}(aM:listed.size=ops.size)(i:Nat):i∈Region.ready .any ops listed↔kO ops (λj=>listed.getD j false) i:=by
 unfold Region.ready kO;rw[List.mem_filter,List.mem_range];constructor
 .rintro⟨h1,h2⟩
  rw[QB,XK]at h2;refine⟨h1,?_,λo ho e he hb=>?_⟩
  .have:=h2.1
   show listed.getD i false=false;rw[QM,XP (by omega)]at this ⊢;exact this
  .have:=h2.2
   rw[ho]at this;simp only[QO,XB,YP]at this;have:=this e he;rw[hb]at this;simpa using this
 .rintro⟨h1,h2,h3⟩
  refine⟨h1,?_⟩;rw[QB,XK];constructor
  .replace h2:listed.getD i false=false:=h2
   rw[QM,XP (by omega)]at h2 ⊢;exact h2
  .rw[XP h1]
   simp only[QO,XB,YP];intro e he;cases hb:Region.binds .any e
   .rfl
   .simpa using h3 _ (XP h1) e he hb
theorem Rh{ops:Array Oper}{done nD:Nat->Bool}{is:List Nat}(h:Jk ops done is)(e:∀j,done j=nD j):Jk ops nD is:=by
 have:done=nD:=funext e;exact this ▸ h
def left(listed:Array Bool):Nat:=(listed.toList.filter λb=>!b).length
theorem Vm{listed:Array Bool}{i:Nat}(hi:i<listed.size)(h:listed.getD i false=false):left (listed.setIfInBounds i true)+1=left listed:=by
 unfold left;rw[Array.toList_setIfInBounds];have aA:i<listed.toList.length:=by simpa using hi
 have hv:listed.toList[i]?=some false:=by
  rw[QG,XP hi];rw[QM,XP hi]at h;exact congrArg some h
 generalize listed.toList=l at aA hv
 clear h hi
 induction l generalizing i with
 |nil=>cases hv
 |cons b l ih =>
  cases i with
  |zero=>cases hv;simp
  |succ i =>
   have:=ih (i:=i) (by simpa using aA) (by simpa using hv);cases b<;>simp only[List.set_cons_succ,YL,Bool.not_false,YN,if_true,if_false,QT,QR]<;>omega
theorem Adp(ops:Array Oper):∀(fuel t:Nat) (listed:Array Bool),listed.size=ops.size->left listed<=fuel->Jk ops (λj=>listed.getD j false) (Region.linearise.go .any ops fuel t listed [])
 |0,t,listed,aM,hl=>by
  refine .nil λi hr=>?_;have h0:left listed=0:=by omega
  unfold left at h0;rw[List.length_eq_zero_iff,List.filter_eq_nil_iff]at h0;have hi:i<listed.size:=by rw[aM];exact hr.1
  have:=h0 listed[i] (by simp);have h2:listed.getD i false=false:=hr.2.1;rw[QM,XP hi]at h2;have h2:listed[i]=false:=h2;rw[h2]at this;exact this rfl
 |fuel+1,t,listed,aM,hl=>by
  show Jk ops _ (match (Region.ready .any ops listed)[t % (Region.ready .any ops listed).length]? with
   |some i=>Region.linearise.go .any ops fuel (t / (Region.ready .any ops listed).length) (listed.setIfInBounds i true) [i]
   |none=>[].reverse)
  cases hi:(Region.ready .any ops listed)[t % (Region.ready .any ops listed).length]? with
  |none =>
   refine .nil λi hr=>?_;have hm:=(mem_ready aM i).2 hr;have mR:0<(Region.ready .any ops listed).length:=List.length_pos_of_mem hm;have:=YF t mR;rw[QA this]at hi;cases hi
  |some i =>
   have hr:=(mem_ready aM i).1 (QF hi);show Jk ops _ (Region.linearise.go .any ops fuel _ (listed.setIfInBounds i true) [i]);rw[linearise_go_acc,List.reverse_singleton,YU];have aA:i<listed.size:=by rw[aM];exact hr.1
   have lI:=Vm aA hr.2.1;refine .cons hr (Rh (Adp ops fuel _ _ (by simpa using aM) (by omega)) λj=>?_);unfold aL;rw[QM]
   by_cases hj:j=i
   .subst hj;rw[QE rfl];simp[aA]
   .rw[QD hj,XX (Ne.symm hj),<-QM]
theorem Ue{P:Program}(hm:P.follows .mixedOrders=true)(ops:Array Oper)(t:Nat):Jk ops (λ_=>false) (Region.schedule (P.follows .mixedOrders) ops t):=by
 simp only[Region.schedule,hm,VP,if_true];have aM:(Array.replicate ops.size false).size=ops.size:=by simp
 refine Rh (Adp ops ops.size t _ aM (by unfold left;refine XO (ZX _ _) ?_;simp)) λj=>?_;rw[QM,Array.getElem?_replicate]
 split<;>rfl
end Go.Cv
