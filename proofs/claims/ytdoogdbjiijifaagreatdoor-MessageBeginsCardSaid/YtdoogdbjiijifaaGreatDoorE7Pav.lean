/- A part of the proof: contracts of functions, or the executor and its soundness. No conditions. -/
import Derived.Laws.Externs
import Derived.Room.MakeNoZero
import Derived.KernelRfl
import Derived.LaidLaws
import Derived.LaidHandle
import Derived.LaidMore
import Derived.Lay
import Derived.Stop.Joined
import Derived.Stop.LaidErr
import Derived.ProofKit
import Derived.Below
import Derived.Carry
import Derived.ChangeOld
import Derived.ChangeArms
import Derived.OpenShut
import Derived.MakeChecks
import Derived.Lib.SmallJoins
import Derived.Test.YtdoogdbjiijifaaGreatDoorE7Pau
namespace Go.Cv
noncomputable section
open Go Go.RowKit
section
variable {S:Sg} {D:DD} {base:Nat} {w0 w:World} {bA cs:List Frame} {f0:Nat} {ι bI:Ip} {U Un Un':Nat->Option CO} {V V':Nat->Nat->Option CO} {n:Nat} {hp dS:Tr CO} {nx fn:Nat} {fr aO:Tr CV} {td t:TD} {ds:List Nat} {ro:Option Nat} {k:gJ} {m:AM} {f:Frame} {ops:Array Oper} {e:PE} {l:List PE} {i:Nat} {is:List Nat} {k':List Item} {dm de:Nat->Bool} {own:Nat->Option Nat}
theorem Eb.congr{top:Nat}(h:Eb S D.d0 ι V bA f0 n top k cs):(∀d,d<n->V' d=V d)->Eb S D.d0 ι V' bA f0 n top k cs:=by
 induction h with
 |nil=>exact λ_=>.nil
 | @cons n top fn fr td ds ro k f cs h _ ih =>
  intro hV;refine .cons ?_ (ih λd hd=>hV d (by omega));rw[hV n (by omega)];exact h
theorem jk{en:En}{o:Oper}{fin:KA}(hk:Bq en o.op=1):(vM en o.op).f fin fn fr td ds ro k hp nx=match oU en hp fr o with|some v=>fin v hp nx|none=>.bad (Nat.add 1000 fn):=by
 unfold oU;cases ho:o.op<;>rw[ho]at hk<;>first|rfl|(cases hk;done)|skip
 case convert s d x =>
  have hk:Lc en s d=1:=hk;show Si en s d x (.bad (Nat.add 1000 fn)) hp nx fr fin=_;unfold Si;cases hs:Hk en d with
  |none=>rfl
  |some e =>
   unfold Lc at hk;rw[hs]at hk;exfalso;revert hk;show (match en.T s with|some ⟨.string,_,_,_⟩=>2|_=>0)=1->False
   split<;>intro h<;>cases h
 case call c =>
  cases hc:c.callee with
  |value x=>simp only[Bq,hc]at hk;cases hk
  |invoke r nm=>simp only[Bq,hc]at hk;cases hk
  |builtin b =>
   simp only[Bq,hc]at hk;show (KG en c).f fin fn fr td ds ro k hp nx=_;simp only[KG,hc,ru];cases b<;>first|rfl|cases hk
theorem jj(hS:eH S){o:Oper}{fin:KA}(hk:Bq S.en o.op=2)(hm:nb m)(h:(vM S.en o.op).f fin fn fr td ds ro k hp nx=m):∃co cv,nx+2<=aH/\m=fin cv (hp.set nx co) (nx+1)/\tA S fr o nx co cv:=by
 cases ho:o.op<;>rw[ho]at hk h<;>first|(cases hk;done)|skip
 case alloc t =>
  have h:Wm S.en t (.bad (Nat.add 1000 fn)) hp nx fin=m:=h;unfold Wm at h
  split at h
  .rename_i kd sz b zr hT
   obtain⟨h1,h2,h3⟩:=E6 hm ⟨_,rfl⟩ h;exact⟨_,_,h2,h3,Agk hS hT h1 ho⟩
  .exact (hm _ h.symm).elim
 case convert s d x =>
  have hk:Lc S.en s d=2:=hk;have h:Si S.en s d x (.bad (Nat.add 1000 fn)) hp nx fr fin=m:=h;unfold Si at h;cases hs:Hk S.en d with
  |none=>unfold Lc at hk;rw[hs]at hk;cases hk
  |some e =>
   rw[hs]at h;have h:ak S.en s d e (ev S.en fr x) (.bad (Nat.add 1000 fn)) hp nx fin=m:=h;unfold Lc at hk;rw[hs]at hk;have hk:(match S.en.T s with|some ⟨.string,_,_,_⟩=>2|_=>0)=2:=hk;unfold ak at h
   split at h
   .rename_i n1 b1 z1 n2 b2 z2 gw jC
    split at h
    .rename_i l n hx
     unfold ar at h;cases hb:Nat.ble l 1000000000<;>rw[hb]at h
     .exact (hm _ h.symm).elim
     .obtain⟨_,h2,h3⟩:=E6 hm ⟨_,rfl⟩ h
      exact⟨_,_,h2,h3,Ako hS ho hs gw jC hx ((As _ _).1 hb)⟩
    .exact (hm _ h.symm).elim
   .rename_i gw jC
    rw[gw]at hk;cases hk
   .exact (hm _ h.symm).elim
 case call c =>
  exfalso;revert hk;simp only[Bq];cases c.callee with
  |builtin b=>cases b<;>simp[RI]
  |_=>simp
theorem Amz{en:En}{rJ:List Oper}{o:Oper}{fin:KA}(hm:nb m)(h:(um en rJ o).f fin fn fr td ds ro k hp nx=m):(want fr rJ o=some false/\m=fin .u hp nx)\/(want fr rJ o=some true/\(vM en o.op).f fin fn fr td ds ro k hp nx=m):=by
 unfold um at h;unfold want;cases vD:o.guard with
 |none=>rw[vD]at h;exact .inr ⟨rfl,h⟩
 |some q =>
  obtain⟨g,wt⟩:=q;rw[vD]at h;show ((match Dp rJ g with|none=>none|some t=>Fh wt (aX fr t))=some false/\_)\/((match Dp rJ g with|none=>none|some t=>Fh wt (aX fr t))=some true/\_);cases hd:Dp rJ g with
  |none =>
   have h:(match Dp rJ g with
    |none=>(⟨λ_ _ _ _ _ _ _ _ _=>.bad 23⟩:XE)
    |some t=>⟨λfin fn fr td ds ro k hp nx=>match Fh wt (aX fr t) with
     |some true=>(vM en o.op).f fin fn fr td ds ro k hp nx
     |some false=>fin .u hp nx
     |none=>.bad 24⟩).f fin fn fr td ds ro k hp nx=m:=h
   rw[hd]at h;exact (hm 23 h.symm).elim
  |some t =>
   have h:(match Dp rJ g with
    |none=>(⟨λ_ _ _ _ _ _ _ _ _=>.bad 23⟩:XE)
    |some t=>⟨λfin fn fr td ds ro k hp nx=>match Fh wt (aX fr t) with
     |some true=>(vM en o.op).f fin fn fr td ds ro k hp nx
     |some false=>fin .u hp nx
     |none=>.bad 24⟩).f fin fn fr td ds ro k hp nx=m:=h
   rw[hd]at h;have h:(match Fh wt (aX fr t) with
    |some true=>(vM en o.op).f fin fn fr td ds ro k hp nx
    |some false=>fin .u hp nx
    |none=>.bad 24)=m:=h
   show (Fh wt (aX fr t)=some false/\_)\/(Fh wt (aX fr t)=some true/\_);cases hw:Fh wt (aX fr t) with
   |none=>rw[hw]at h;exact (hm 24 h.symm).elim
   |some b =>
    rw[hw]at h;cases b
    .exact .inl ⟨rfl,h.symm⟩
    .exact .inr ⟨rfl,h⟩
def AD(en:En)(fn:Nat)(fr aO:Tr CV)(d:Option Nat)(v:CV):Prop:=∀t,(d=some t->aO.get t=some v/\t<Qc en fn/\t<aH)/\(d≠some t->aO.get t=fr.get t)
theorem Tm{en:En}{d:Option Nat}{rJ re:List Oper}{v:CV}(hm:nb m)(h:AN en d rJ re v fn fr td ds ro k hp nx=m):∃aO,AD en fn fr aO d v/\Cg (again en hp aO rJ) re=true/\m=.run fn aO td ds ro k hp nx:=by
 unfold AN MO at h;have key:∀aO,(bif Cg (again en hp aO rJ) re then AM.run fn aO td ds ro k hp nx else .bad 3)=m->Cg (again en hp aO rJ) re=true/\m=.run fn aO td ds ro k hp nx:=λaO h=>by
  cases hb:Cg (again en hp aO rJ) re<;>rw[hb]at h
  .exact (hm 3 h.symm).elim
  .exact⟨rfl,h.symm⟩
 cases d with
 |none=>exact⟨fr,λt=>⟨λe=>(by cases e),λ_=>rfl⟩,key fr h⟩
 |some t =>
  have h:(bif Nat.ble (Nat.succ t) (Qc en fn)&&Nat.ble (Nat.succ t) aH then rS v λv=>Tr.dL fr t v λfr=>bif Cg (again en hp fr rJ) re then AM.run fn fr td ds ro k hp nx else .bad 3 else .bad 2)=m:=h;cases hb:(Nat.ble (Nat.succ t) (Qc en fn)&&Nat.ble (Nat.succ t) aH)<;>rw[hb]at h
  .exact (hm 2 h.symm).elim
  .rw[QB,As,As]at hb
   have h:(rS v λv=>Tr.dL fr t v λfr=>bif Cg (again en hp fr rJ) re then AM.run fn fr td ds ro k hp nx else .bad 3)=m:=h;rw[Vw,Tr.bS]at h;refine⟨fr.set t v,λt'=>⟨λe=>?_,λe=>?_⟩,key _ h⟩
   .cases e
    exact⟨by rw[Tr.cH _ _ hb.2,QE rfl],hb⟩
   .rw[Tr.cH _ _ hb.2,QD λhe=>e (by rw[he])]
theorem AD.mZ{en:En}{d:Option Nat}{v:CV}(h:AD en fn fr aO d v){t:Nat}(ht:d≠some t):aX fr t=aX aO t:=by
 unfold aX;rw[(h t).2 ht]
theorem AD.get_eq{en:En}{d:Option Nat}{v:CV}(h:AD en fn fr aO d v){t:Nat}(ht:d=some t):aX aO t=v:=by
 unfold aX;rw[((h t).1 ht).1]
theorem X5{j:Nat}(hr:kO ops de j)(hc:Is ops de)(h:∃(rk:Nat->Nat) (N:Nat),(∀i,de i=true->rk i<N)/\∀i b,de i=true->mb ops i b->rk b<rk i):
  ∃(rk:Nat->Nat) (N:Nat),(∀i,aL de j i=true->rk i<N)/\∀i b,aL de j i=true->mb ops i b->rk b<rk i:=by
 obtain⟨rk,N,h1,h2⟩:=h;have hj:=hr.2.1;have aV:∀b,de b=true->b≠j:=λb hb e=>by rw[e,hj]at hb;cases hb
 refine⟨λi=>if i=j then N else rk i,N+1,λi hi=>?_,λi b hi hd=>?_⟩
 .by_cases he:i=j
  .show (if i=j then N else rk i)<N+1
   rw[QE he];exact US _
  .rw[Hg he]at hi
   show (if i=j then N else rk i)<N+1;rw[QD he];exact Nat.lt_succ_of_lt (h1 i hi)
 .show (if b=j then N else rk b)<(if i=j then N else rk i)
  by_cases he:i=j
  .subst he
   have hb:=hr.dep hd;rw[QE rfl,QD (aV b hb)];exact h1 b hb
  .rw[Hg he]at hi
   have hb:=hc i b hi hd;rw[QD he,QD (aV b hb)];exact h2 i b hi hd
theorem mg.move{o:Oper}{ow:Option Nat}(h:mg S Un fr ops.toList o ow)(hU:∀r co,Un r=some co->Un' r=some co)(ha:∀t∈reads ops.toList o,aX fr t=aX aO t)(hd:∀t,o.dst=some t->aX fr t=aX aO t):mg S Un' aO ops.toList o ow:=by
 obtain⟨h1,h2⟩:=Ji (en:=S.en) ha;cases h with
 |no hw hv=>exact .no (by rw[<-C2 h2];exact hw) λt ht=>by rw[<-hd t ht];exact hv t ht
 |yes hw hl hu hv=>exact .yes (by rw[<-C2 h2];exact hw) (hl.move h1) (hU _ _ hu) λt ht=>by rw[<-hd t ht];exact hv t ht
theorem rV.grow(h:rV S hp ι Un fn fr ops (e :: l) t ds ro f is k' dm de own)(hr:kO ops de e.j)(ho:ops[e.j]?=some e.o)(hk:Bq S.en e.o.op≠0)(gB:Lx S.en ops (B5 S.en ops.toList .e 0) (aL de e.j) l)(M:lB hp dS)(hUn:∀r co,Un r=some co->Un' r=some co){ow:Option Nat}{v:CV}
  (cI:AD S.en fn fr aO e.o.dst v) (bV:(Bq S.en e.o.op=1/\N4 S.en dS aO ops.toList e.o)\/(Bq S.en e.o.op=2/\mg S Un' aO ops.toList e.o ow)) (OD:∀r,ow=some r->Un r=none/\∃co,Un' r=some co):
  rV S dS ι Un' fn aO ops l t ds ro f is k' dm (aL de e.j) (λj=>if j=e.j then ow else own j):=by
 have d:=h.dr;have OK:=hr.2.1;have hold:∀j,aL de e.j j=true->j≠e.j->de j=true:=λj a b=>by rw[Hg b]at a;exact a
 have OB:∀j oj,j≠e.j->de j=true->ops[j]?=some oj->(∀t∈reads ops.toList oj,aX fr t=aX aO t)/\∀t,oj.dst=some t->aX fr t=aX aO t:=λj oj hj fx OE=>by
  refine⟨λt ht=>cI.mZ λe1=>?_,λt ht=>cI.mZ λe1=>?_⟩
  .have:=(Pi d.key d.nB OE ho (Ne.symm hj) hk e1).1 ht
   rw[d.j8.zk fx this]at OK;cases OK
  .exact (Pi d.key d.nB OE ho (Ne.symm hj) hk e1).2 ht
 refine⟨h.nA,h.size,h.kind,h.df,h.ro,h.mode,h.todo,h.ES,?_,λj oj a b c HS=>?_⟩
 .refine⟨d.sched,d.yy,d.j8.aL hr,λj hj=>?_,λj hj=>?_,X5 hr d.j8 d.wY,d.key,gB,d.nB,λj oj a b c=>?_,λj j' r a b a' b' q q'=>?_,λj r a b q=>?_,λj oj t a b c q=>?_,λt v' q=>?_⟩
  .unfold aL
   split
   .rfl
   .exact d.sub j hj
  .by_cases he:j=e.j
   .rw[he];exact hr.1
   .exact d.lt j (hold j hj he)
  .by_cases he:j=e.j
   .subst he
    rw[ho]at c;cases c;rw[QE rfl];exact bV.imp (·.1) id
   .rw[QD he]
    rcases d.fl j oj (hold j a he) b c with q|⟨q1,q2⟩
    .exact .inl q
    .obtain⟨r1,r2⟩:=OB j oj he (hold j a he) c
     exact .inr ⟨q1,q2.move hUn r1 r2⟩
  .by_cases he:j=e.j<;>by_cases po:j'=e.j
   .rw[he,po]
   .simp only[QE he]at q
    simp only[QD po]at q';obtain⟨co,hc⟩:=d.qD j' r (hold j' a' po) b' q';rw[(OD r q).1]at hc;cases hc
   .simp only[QD he]at q
    simp only[QE po]at q';obtain⟨co,hc⟩:=d.qD j r (hold j a he) b q;rw[(OD r q').1]at hc;cases hc
   .simp only[QD he]at q
    simp only[QD po]at q';exact d.one j j' r (hold j a he) b (hold j' a' po) b' q q'
  .by_cases he:j=e.j
   .simp only[QE he]at q
    exact (OD r q).2
   .simp only[QD he]at q
    obtain⟨co,hc⟩:=d.qD j r (hold j a he) b q;exact⟨co,hUn _ _ hc⟩
  .by_cases he:j=e.j
   .subst he
    rw[ho]at c;cases c;have:=(cI t).1 q;exact⟨by rw[h.size];exact this.2.1,this.2.2⟩
   .exact d.slot j oj t (hold j a he) b c q
  .by_cases hd:e.o.dst=some t
   .refine .inl ⟨e.j,e.o,Ty,?_,ho,hd⟩
    cases hq:dm e.j
    .rfl
    .rw[d.sub _ hq]at OK;cases OK
   .rw[(cI t).2 hd]at q
    rcases d.bB t v' q with⟨j,oj,a,b,c⟩|q
    .refine .inl ⟨j,oj,?_,b,c⟩
     unfold aL
     split
     .rfl
     .exact a
    .exact .inr q
 .by_cases he:j=e.j
  .subst he
   rw[ho]at c;cases c;rcases bV with q|q
   .exact q.2
   .rw[q.1]at HS;cases HS
  .obtain⟨r1,r2⟩:=OB j oj he (hold j a he) c
   obtain⟨r3,r4⟩:=Ji (en:=S.en) r1;exact (h.again j oj (hold j a he) b c HS).move M r3 r4 r2
theorem FD(hS:eH S)(hh:HR S base w0 U ι hp nx w)(hu:UV U V)(hg:GR S ι)(hs:Eb S (rT S).d0 ι V bA f0 n fn k cs)(h:rV S hp ι (V n) fn fr ops (e :: l) t ds ro f is k' dm de own)(hr:kO ops de e.j)(ho:ops[e.j]?=some e.o)(hk:Bq S.en e.o.op≠0)(_zQ:e.re=[])(gB:Lx S.en ops (B5 S.en ops.toList .e 0) (aL de e.j) l):
  Bb S (rT S) base w0 bA f0 (lone f cs w) (T5 S.en ops (e :: l) t fn fr ds ro k hp nx):=by
 generalize e8:T5 S.en ops (e :: l) t fn fr ds ro k hp nx=m
 rcases Q7 m with⟨b,rfl⟩|hm
 .exact .bad
 have e8:(um S.en ops.toList e.o).f (λv hp nx=>AN S.en e.o.dst ops.toList e.re v fn fr (.rd ops l t) ds ro k hp nx) fn fr (.rd ops (e :: l) t) ds ro k hp nx=m:=e8;have xV:∀ {v:CV} {aO:Tr CV},AD S.en fn fr aO e.o.dst v->∀t∈reads ops.toList e.o,aX fr t=aX aO t:=λhp t ht=>hp.mZ λe1=>An8 h.dr.key h.dr.nB ho hk e1 ht;have more:lB hp hp:=λ_ _ h=>h;rcases Amz hm e8 with⟨hw,pf⟩|⟨hw,pf⟩
 .obtain⟨aO,p1,_,p3⟩:=Tm hm pf.symm
  rw[p3];obtain⟨q1,q2⟩:=Ji (en:=S.en) (xV p1);have iV:want aO ops.toList e.o=some false:=by rw[<-C2 q2];exact hw
  have bD:Bq S.en e.o.op=1\/Bq S.en e.o.op=2:=by
   have hle:Bq S.en e.o.op<=2:=by
    unfold Bq
    split<;>first|omega|skip
    .unfold Lc
     split
     .omega
     .split<;>omega
    .split
     .rename_i b _;cases b<;>simp[RI]
     .omega
   omega
  refine .stay ⟨ι,U,V,n,f,cs,w,rfl,hh,hu,hg,(h.grow (ow:=none) hr ho hk gB more (λ_ _ h=>h) p1 ?_ λr e=>by cases e).JY,hs⟩;rcases bD with q|q
  .exact .inl ⟨q,.inl ⟨iV,λt ht=>p1.get_eq ht⟩⟩
  .exact .inr ⟨q,.no iV λt ht=>p1.get_eq ht⟩
 .by_cases jW:Bq S.en e.o.op=1
  .rw[jk jW]at pf
   cases hv:oU S.en hp fr e.o with
   |none=>rw[hv]at pf;exact (hm _ pf.symm).elim
   |some v =>
    rw[hv]at pf;obtain⟨aO,p1,_,p3⟩:=Tm hm pf;rw[p3];obtain⟨q1,q2⟩:=Ji (en:=S.en) (xV p1);exact .stay ⟨ι,U,V,n,f,cs,w,rfl,hh,hu,hg,(h.grow (ow:=none) hr ho hk gB more (λ_ _ h=>h) p1 (.inl ⟨jW,.inr ⟨by rw[<-C2 q2];exact hw,v,by rw[<-Me q1];exact hv,λt ht=>p1.get_eq ht⟩⟩) λr e=>by cases e).JY,hs⟩
  .have aR:Bq S.en e.o.op=2:=by
    have hle:Bq S.en e.o.op<=2:=by
     unfold Bq
     split<;>first|omega|skip
     .unfold Lc
      split
      .omega
      .split<;>omega
     .split
      .rename_i b _;cases b<;>simp[RI]
      .omega
    omega
   obtain⟨co,cv,OF,hm3,hl⟩:=jj hS aR hm pf;obtain⟨aO,p1,_,p3⟩:=Tm hm hm3.symm;rw[p3];obtain⟨q1,q2⟩:=Ji (en:=S.en) (xV p1);have kD:U nx=none:=by
    cases hq:U nx with
    |none=>rfl
    |some o=>have:=(hh.zI nx o hq).2.2;omega
   have sU:∀d,V d nx=none:=λd=>by
    cases hq:V d nx with
    |none=>rfl
    |some o=>rw[(hu.1 nx o).2 ⟨d,hq⟩]at kD;cases kD
   have hM:lB hp (hp.set nx co):=λr o e=>by
    rw[Tr.cH _ _ (by omega),QD (by have:=hh.lt r o e;omega)];exact e
   have VY:∀r,r≠nx->Sn V n nx co n r=V n r:=λr he=>by unfold Sn;rw[QD λe=>he e.2]
   have o9:Sn V n nx co n nx=some co:=by unfold Sn;rw[QE ⟨rfl,rfl⟩]
   have oN:=h.grow (Un':=Sn V n nx co n) (ow:=some nx) hr ho hk gB hM (λr co' e1=>by
    rw[VY r λhe=>by rw[he,sU]at e1;cases e1];exact e1) p1 (.inr ⟨aR,.yes (by rw[<-C2 q2];exact hw) (hl.move q1) o9 λt ht=>p1.get_eq ht⟩) (λr e1=>by
    cases e1;exact⟨sU n,co,o9⟩)
   exact .stay ⟨ι,_,Sn V n nx co,n,f,cs,w,rfl,hh.draw co OF,hu.put sU,hg,oN.JY,hs.congr λd hd=>funext λr=>by unfold Sn;rw[QD λe=>by omega]⟩
end
section
variable {S:Sg} {base:Nat} {w0 w:World} {bA cs:List Frame} {f0:Nat} {ι bI:Ip} {U:Nat->Option CO} {V V':Nat->Nat->Option CO} {n:Nat} {hp dS:Tr CO} {nx fn:Nat} {fr aO:Tr CV} {t:TD} {ds:List Nat} {ro:Option Nat} {k:gJ} {m:AM} {f:Frame} {ops:Array Oper} {l:List PE} {is:List Nat} {k':List Item} {dm de:Nat->Bool} {own:Nat->Option Nat}
theorem Ajz{v:CV}{u:Value}(hh:HR S base w0 U ι hp nx w)(hu:UV U V)(hg:GR S ι)(h:iI S (rT S).d0 ι (V n) fn fr (.rd ops l t) ds ro f)(hs:Eb S (rT S).d0 ι V bA f0 n fn k cs)(hv:VR ι v u):
  Xw S (rT S) base w0 bA f0 (finish S.en v fn fr (.rd ops l t) ds ro k hp nx) (lone (f.finish u) cs w):=by
 rcases h.at_ with⟨a,_⟩|⟨_,a,_⟩|⟨hm,aL7,l',t',is,k',he,dF,ht,hd0⟩
 .cases a
 .generalize f.todo=q at a
  cases a
 cases he;obtain⟨dm,de,own,e,l',tY,rfl,rfl,hk,d,ho⟩:=hd0;have hfe:finish S.en v fn fr (.rd ops (e :: l') t) ds ro k hp nx=AN S.en e.o.dst ops.toList e.re v fn fr (.rd ops l' t) ds ro k hp nx:=rfl;rw[hfe]
 generalize e8:AN S.en e.o.dst ops.toList e.re v fn fr (.rd ops l' t) ds ro k hp nx=m
 rcases Q7 m with⟨b,rfl⟩|eY
 .trivial
 obtain⟨aO,p1,p2,p3⟩:=Tm eY e8;rw[p3,Mf dF ho];obtain⟨pD,fF⟩:kO ops dm e.j/\Jk ops (aL dm e.j) tY:=by
  have:=d.sched;cases this with|cons a b=>exact⟨a,b⟩
 obtain⟨hr,a,ha,zQ,gB⟩:kO ops de e.j/\∃a,(B5 S.en ops.toList .e 0)[e.j]?=some a/\(∀b∈B5 S.en ops.toList .e 0,de b.j=true->b.kd=1->bit a.tm b.j=false->b.o∈e.re)/\Lx S.en ops (B5 S.en ops.toList .e 0) (aL de e.j) l':=by
  have:=d.pB;cases this with
  |fl hr ho gP zQ h=>exact (gP hk).elim
  |so hr ho gP hu ha zQ h=>exact⟨hr,_,ha,zQ,h⟩
 have pw:=pD.2.1;have fx:=hr.2.1;have hX:∀j,aL de e.j j=true->aL dm e.j j=false->j≠e.j/\de j=true/\dm j=false:=λj a b=>by
  obtain⟨b1,b2⟩:=Er b;rw[Hg b1]at a;exact⟨b1,a,b2⟩
 have hA:∀b,bit a.tm b=true->uQ ops e.j b:=by
  have A:=Ww S.en ops;have dT:=QF ha;have haj:a.j=e.j:=by
   obtain⟨a',ha',hj⟩:=A.get e.j hr.1;have:=(A.mem a' ha').2.2.2;rw[hj,ha]at this;cases this;exact hj
  intro b hb;have:=Wv S.en (ops:=ops) ops.toList .e 0 (by have:=d.key;omega) (λi o h=>by rw[XD,<-QG];exact h) (λk m h=>by cases h) a dT b hb;rw[haj]at this;exact this
 have xi:∀j oj,j≠e.j->de j=true->dm j=false->ops[j]?=some oj->∀t,oj.dst=some t->e.o.dst≠some t:=λj oj hj a b c t ht =>
  (Pi d.key d.nB ho c hj (d.kd a b c) ht).2
 refine⟨ι,U,V,n,_,cs,w,rfl,hh,hu,hg,rV.JY (is:=tY) (k':=k') (dm:=aL dm e.j) (de:=aL de e.j) (own:=own) ?_,hs⟩;refine⟨h.nA,by rw[<-h.size];exact L7 _ _ _,h.kind,h.df,h.ro,hm,rfl,ht,?_,λj oj a' b' c HS=>?_⟩
 .refine⟨fF,d.yy.aL pD,d.j8.aL hr,λj hj=>?_,λj hj=>?_,X5 hr d.j8 d.wY,d.key,gB,d.nB,λj oj a b c=>?_,λj j' r a b a' b' q q'=>?_,λj r a b q=>?_,λj oj t a b c q=>?_,λt v' q=>?_⟩
  .by_cases he:j=e.j
   .rw[he];exact Ty
   .rw[Hg he]at hj ⊢;exact d.sub j hj
  .by_cases he:j=e.j
   .rw[he];exact hr.1
   .rw[Hg he]at hj;exact d.lt j hj
  .obtain⟨x1,x2,x3⟩:=hX j a b
   rcases d.fl j oj x2 x3 c with q|⟨q1,q2⟩
   .exact .inl q
   .refine .inr ⟨q1,q2.move (λ_ _ h=>h) (λt ht=>p1.mZ λe1=>?_) (λt ht=>p1.mZ (xi j oj x1 x2 x3 c t ht))⟩
    rcases yb d.key d.nB c ho (Ne.symm x1) hk q1 e1 ht with q|q
    .rw[d.j8.zk x2 q]at fx;cases fx
    .rw[pD.zk d.yy q]at x3;cases x3
  .obtain⟨_,x2,x3⟩:=hX j a b
   obtain⟨_,y2,y3⟩:=hX j' a' b';exact d.one j j' r x2 x3 y2 y3 q q'
  .obtain⟨_,x2,x3⟩:=hX j a b
   exact d.qD j r x2 x3 q
  .obtain⟨_,x2,x3⟩:=hX j a b
   have:=d.slot j oj t x2 x3 c q;exact⟨by show t<(Nh _ _ _).size;rw[L7];exact this.1,this.2⟩
  .by_cases hd:e.o.dst=some t
   .right
    have:=(p1 t).1 hd;rw[this.1]at q;cases q;show VR ι v ((Nh e.o.dst u f.tmps).getD t undef);rw[hd,Ah8 (by rw[h.size];exact this.2.1)];exact hv
   .rw[(p1 t).2 hd]at q
    rcases d.bB t v' q with⟨j,oj,a,b,c⟩|q
    .have aV:j≠e.j:=λhe=>by rw[he,fx]at a;cases a
     exact .inl ⟨j,oj,by rw[Hg aV];exact a,by rw[Hg aV];exact b,c⟩
    .right
     show VR ι v' ((Nh e.o.dst u f.tmps).getD t undef);rw[Ah7 hd];exact q
 .obtain⟨x1,x2,x3⟩:=hX j a' b'
  obtain⟨b,hb,hbj,gd,iE,_⟩:=Zi (en:=S.en) d.key c;have dT:=zQ b hb (by rw[hbj];exact x2) (by rw[iE];exact HS) (by
   cases hq:bit a.tm b.j
   .rfl
   .have:=pD.zk d.yy (hA _ hq)
    rw[hbj,x3]at this;cases this)
  rw[gd]at dT;exact Apy ((Cz _ _).1 p2 _ dT)
theorem Ag5(S:Sg):N3 S (rT S):=⟨λx h=>Aow x h,λhh hu hg h hs hv=>Ajz hh hu hg h hs hv⟩
theorem FC(hS:eH S)(hF:vZ S)(hM:zW S base w0)(hX:zy S)(hh:HR S base w0 U ι hp nx w)(hu:UV U V)(hg:GR S ι)(hs:Eb S (rT S).d0 ι V bA f0 n fn k cs)(h:rV S hp ι (V n) fn fr ops l t ds ro f is k' dm de own):
  Bb S (rT S) base w0 bA f0 (lone f cs w) (T5 S.en ops l t fn fr ds ro k hp nx):=by
 have hD:=Ag5 S;cases l with
 |nil =>
  have jP:∀i,i<ops.size->de i=true:=by
   have:=h.dr.pB;cases this with|nil h=>exact h
  obtain⟨f',w',bI,U',V',tY,jq,a1,x,fk,ek,hV,h',xe⟩:=Aa1 (cs:=cs) hS is f w ι U V dm hh hu hg h;have cJ:=(hs.mono hD x).congr hV;rcases xe with rfl|⟨i,rest,rfl,hi⟩
  .refine .trans a1 ?_
   have hf:FR bI fr f'.tmps:=λt v e=>by
    rcases h'.dr.bB t v e with⟨j,o,a,b,_⟩|q
    .rw[h'.dr.zF j a]at b;cases b
    .exact q
   exact .jG fk ek (hg.mono x) h'.JY h'.mode hf cJ h'.todo stepR_region_end h'.ES
  .have:=h'.dr.sched
   cases this with
   |cons hr _=>rw[jP i hr.1]at hi;cases hi
 |cons e l =>
  have gB:=h.dr.pB;cases gB with
  |fl hr ho hk zQ hp=>exact FD hS hh hu hg hs h hr ho hk zQ hp
  |so hr ho hk hun ha zQ hp =>
   obtain⟨f',w',bI,U',V',tY,jq,a1,x,fk,ek,hV,h',xe⟩:=Aa1 (cs:=cs) hS is f w ι U V dm hh hu hg h;have cJ:=(hs.mono hD x).congr hV;have sR:=hg.mono x;refine .trans a1 ?_;have d:=h'.dr;rcases xe with rfl|⟨i,rest,rfl,hi⟩
   .have hn:∀i,¬kO ops jq i:=by have:=d.sched;cases this;assumption
    refine (hn e.j (hr.more (λj hj=>d.zF j hj) ?_)).elim;cases hq:jq e.j
    .rfl
    .have:=d.sub _ hq
     rw[hr.2.1]at this;cases this
   .have pD:kO ops jq i:=by
     have:=d.sched;cases this with|cons a _=>exact a
    have IG:i=e.j:=hun i (pD.more d.sub hi);subst IG;obtain⟨aO,hf,cI⟩:=d.drop;obtain⟨jB,kW⟩:=d.alike ho pD cI;have h0:iI S (rT S).d0 bI (V' n) fn fr (.rd ops (e :: l) t) ds ro f':=⟨h'.nA,h'.size,h'.kind,h'.df,h'.ro,.inr (.inr ⟨h'.mode,ops,e :: l,t,_,k',rfl,h'.todo,h'.ES,jq,de,own,e,l,rest,rfl,rfl,hk,d,ho⟩)⟩;exact oc hS hD fk ek sR h0 h'.mode h'.todo ho hf jB kW cJ (λ_ _ _=>rfl)
     λx c pE aQ hw=>Aet hD hF hM fk ek sR h0 cJ h'.mode h'.todo ho hw pE aQ hf jB
      λcD args us code ha aA hx he=>Aoi hD hX fk ek sR h0 cJ h'.mode h'.todo ho hw (λc e=>by rw[pE]at e;cases e) cD args us code ha aA hx he
theorem bq(hS:eH S)(hF:vZ S)(hM:zW S base w0)(hX:zy S):Rest S (rT S) base w0 bA f0 where
 ext hh hu hg h hs hm dF ho hw hd cD args us code ha aA hx he:=Aoi (Ag5 S) hX hh hu hg h hs hm dF ho hw hd cD args us code ha aA hx he
 draw hh hu hg h hf hs hm dF ht:=jo hS hh hu hg h hf hs hm dF ht
 rd {ι U V n hp nx fn fr ops l t ds ro k f cs w is k'} hh hu hg h hs hm dF ht hd:=by
  obtain⟨dm,de,own,d,fH⟩:=hd;exact FC hS hF hM hX hh hu hg hs ⟨h.nA,h.size,h.kind,h.df,h.ro,hm,dF,ht,d,fH⟩
end
def S9(d:Nat):CV->Bool :=
 @Nat.rec (λ_=>CV->Bool) (λ_=>false) (λ_ ih x=>match x with
  |.b _|.i _ _|.s _ _|.np|.ns|.nm|.nf|.ni|.u=>true
  |.agg xs=>Cg ih xs
  |.tup xs=>Cg ih xs
  |_=>false) d
section
variable {ι bI:Ip}
theorem cF.sD{xs:List CV}{us:List Value}(h:cF ι xs us)(hx:∀x∈xs,∀v,VR ι x v->VR bI x v):cF bI xs us :=
 ⟨h.1,λi x v a b=>hx x (QF a) v (h.2 i x v a b)⟩
theorem Pp:∀(d:Nat) (x:CV) (v:Value),S9 d x=true->VR ι x v->VR bI x v
 |0,x,v,h,_=>by cases h
 |d+1,x,v,h,hv=>by
  cases x with
  |u=>cases hv;exact .u
  |b t=>cases hv;exact .b t
  |i k n=>cases hv;exact .i k n
  |s l n=>cases hv with|s hh=>exact .s hh
  |np=>cases hv;exact .np
  |ns=>cases hv;exact .ns
  |nm=>cases hv;exact .nm
  |nf=>cases hv;exact .nf
  |ni=>cases hv;exact .ni
  |agg xs =>
   have h:Cg (S9 d) xs=true:=h;obtain⟨us,rfl,hl⟩:=hv.cW;exact .sY (hl.sD λx hx v=>Pp d x v ((Cz _ _).1 h x hx))
  |tup xs =>
   have h:Cg (S9 d) xs=true:=h;obtain⟨us,rfl,hl⟩:=hv.gT;exact .nS (hl.sD λx hx v=>Pp d x v ((Cz _ _).1 h x hx))
  |_=>cases h
theorem Aep:∀(d:Nat) (x:CV) (v v':Value),S9 d x=true->VR ι x v->VR bI x v'->v=v'
 |0,x,v,v',h,_,_=>by cases h
 |d+1,x,v,v',h,hv,qK=>by
  have key:∀(xs:List CV) (us lC:List Value),Cg (S9 d) xs=true->cF ι xs us->cF bI xs lC->us=lC:=λxs us lC h hl iA=>by
   apply UZ;intro i;cases hx:xs[i]? with
   |none =>
    have hi:=List.getElem?_eq_none_iff.1 hx;rw[QV (by rw[<-hl.1];exact hi),QV (by rw[<-iA.1];exact hi)]
   |some x =>
    obtain⟨u,hu,q⟩:=hl.get hx;obtain⟨u',ek,q'⟩:=iA.get hx;rw[hu,ek,Aep d x u u' ((Cz _ _).1 h x (QF hx)) q q']
  cases x with
  |agg xs =>
   obtain⟨us,rfl,hl⟩:=hv.cW;obtain⟨lC,rfl,iA⟩:=qK.cW;rw[key xs us lC h hl iA]
  |tup xs =>
   obtain⟨us,rfl,hl⟩:=hv.gT;obtain⟨lC,rfl,iA⟩:=qK.gT;rw[key xs us lC h hl iA]
  |bot=>cases h
  |p=>cases h
  |sl=>cases h
  |m=>cases h
  |f=>cases h
  |yl=>cases h
  |ifc=>cases h
  |_=>cases hv;cases qK;rfl
theorem Alh{d:Nat}{xs:List CV}{us:List Value}(h:Cg (S9 d) xs=true)(hl:cF ι xs us):cF bI xs us :=
 hl.sD λx hx v=>Pp d x v ((Cz _ _).1 h x hx)
end
theorem yk{l n l' n':Nat}(h:vO l n l' n'=true):l=l'/\n=n':=by
 unfold vO at h;rw[QB,beq_iff,beq_iff]at h;exact h
def eqQ(ih:CV->CV->Option Bool)(xs:List CV):List CV->Option Bool:=@List.rec CV (λ_=>List CV->Option Bool) (λys=>match ys with | []=>some true|_=>none)
    (λx _ rec ys=>match ys with | []=>none|y :: ys=>match ih x y with|some true=>rec ys|some false=>some false|none=>none) xs
theorem Aon{ih:CV->CV->Option Bool}(hi:∀x y,ih x y=some true->x=y):∀xs ys:List CV,eqQ ih xs ys=some true->xs=ys
 | [],[],_=>rfl
 | [],_ :: _,h=>by cases h
 |_ :: _,[],h=>by cases h
 |x :: xs,y :: ys,h=>by
  have h:(match ih x y with|some true=>eqQ ih xs ys|some false=>some false|none=>none)=some true:=h
  split at h
  .rename_i hq
   rw[hi x y hq,Aon hi xs ys h]
  .cases h
  .cases h
theorem Aoo:∀(d:Nat) (x y:CV),jn d x y=some true->x=y
 |0,x,y,h=>by cases h
 |d+1,x,y,h=>by
  cases x<;>cases y<;>first|(cases h;done)|rfl|skip
  case b.b s t=>cases s<;>cases t<;>first|rfl|cases h
  case i.i j a k c =>
   replace h:(bif pT j k then some (vP a c) else none)=some true:=h
   cases hb:pT j k<;>rw[hb]at h
   .cases h
   .have h:some (vP a c)=some true:=h
    have h:=Option.some.inj h;rw[Nu,XI]at h;rw[J8.1 hb,h]
  case s.s l n l' n' =>
   have h:some (vO l n l' n')=some true:=h;obtain⟨rfl,rfl⟩:=yk (Option.some.inj h);rfl
  case agg.agg xs ys =>
   have h:eqQ (jn d) xs ys=some true:=h;rw[Aon (Aoo d) xs ys h]
theorem Aoq:∀(xs ys:List CV),KL xs ys=true->xs=ys
 | [],[],_=>rfl
 | [],_ :: _,h=>by cases h
 |_ :: _,[],h=>by cases h
 |x :: xs,y :: ys,h=>by
  have h:(match jn 6 x y with|some true=>KL xs ys|_=>false)=true:=h
  split at h
  .rename_i hq
   rw[Aoo 6 x y hq,Aoq xs ys h]
  .cases h
theorem Up{args:List CV}{v:CV}:∀ {l:List (List CV×CV)},Uq args l=some v->(args,v)∈l
 | [],h=>by cases h
 |e :: l,h=>by
  have h:(bif KL e.1 args then some e.2 else Uq args l)=some v:=h;cases hb:KL e.1 args<;>rw[hb]at h
  .exact QX _ (Up h)
  .cases h
   rw[<-Aoq _ _ hb];exact QY
def Fact(P:Program)(base:Nat)(w0:World)(f:Nat)(args:List CV)(v:CV):Prop:=∀(ι:Ip) (us:List Value) (w:World),cF ι args us->Below base w0 w->base<=w.heap.size->
 (callFunc f us.toArray).run P w=.ok (.enter f us.toArray) w/\∃u,VR ι v u/\Calls P f us.toArray w λe w'=>e=.returned u/\Below w.heap.size w w'
abbrev MT:=List (Nat×List (List CV×CV))
def NF(f:Nat)(l:MT):List (List CV×CV):=@List.rec (Nat×List (List CV×CV)) (λ_=>List (List CV×CV)) [] (λe _ ih=>bif Nat.beq e.1 f then e.2 else ih) l
def Bv(P:Program)(base:Nat)(w0:World)(l:MT):Prop:=∀p∈l,∀e∈p.2,Fact P base w0 p.1 e.1 e.2
theorem Bv.nil{P:Program}{base:Nat}{w0:World}:Bv P base w0 []:=λp h=>by cases h
theorem Bv.cons{P:Program}{base:Nat}{w0:World}{f:Nat}{es:List (List CV×CV)}{l:MT}(h:∀e∈es,Fact P base w0 f e.1 e.2)(hs:Bv P base w0 l):Bv P base w0 ((f,es) :: l):=λp hp=>by
 rcases List.mem_cons.1 hp with rfl|hp
 .exact h
 .exact hs p hp
theorem mr{P:Program}{base:Nat}{w0:World}{f:Nat}:∀e∈([]:List (List CV×CV)),Fact P base w0 f e.1 e.2:=λe h=>by cases h
theorem Gi{P:Program}{base:Nat}{w0:World}{f:Nat}{args:List CV}{v:CV}{es:List (List CV×CV)}(h:Fact P base w0 f args v)(hs:∀e∈es,Fact P base w0 f e.1 e.2):∀e∈(args,v) :: es,Fact P base w0 f e.1 e.2:=λe he=>by
 rcases List.mem_cons.1 he with rfl|he
 .exact h
 .exact hs e he
theorem Ym{f:Nat}{e:List CV×CV}:∀ {l:MT},e∈NF f l->∃p∈l,p.1=f/\e∈p.2
 | [],h=>by cases h
 |p :: l,h=>by
  have h:e∈(bif Nat.beq p.1 f then p.2 else NF f l):=h;cases hb:Nat.beq p.1 f<;>rw[hb]at h
  .obtain⟨q,h1,h2⟩:=Ym h
   exact⟨q,QX _ h1,h2⟩
  .exact⟨p,QY,(beq_iff _ _).1 hb,h⟩
theorem Ak7{S:Sg}{base:Nat}{w0:World}{l:MT}(hM:S.en.M=λf=>NF f l)(h:Bv S.P base w0 l):zW S base w0:=λf args v hr=>by
 rw[hM]at hr;obtain⟨p,hp,rfl,he⟩:=Ym (Up hr);exact h p hp _ he
theorem Fact.mono{P:Program}{base rI:Nat}{w0 w1:World}{f:Nat}{args:List CV}{v:CV}(h:Fact P base w0 f args v)(hb:Below base w0 w1)(hle:base<=rI):Fact P rI w1 f args v :=
 λι us w ha hw hs=>h ι us w ha (hb.trans (hw.mono hle)) (by omega)
theorem Bv.mono{P:Program}{base rI:Nat}{w0 w1:World}{l:MT}(h:Bv P base w0 l)(hb:Below base w0 w1)(hle:base<=rI):Bv P rI w1 l:=λp hp e he=>(h p hp e he).mono hb hle
def Init(S:Sg)(base:Nat)(w0:World)(H0:Tr CO)(nx0:Nat):Prop:=∀w,Below base w0 w->base<=w.heap.size->∃ι,HR S w.heap.size w (λ_=>none) ι H0 nx0 w/\GR S ι
def jb(v:CV)(m:AM):Bool:=match m with
 |.fin v' _ _=>Ri 9 v' v
 |_=>false
def CI(en:En)(H0:Tr CO)(nx0 q f:Nat)(args:List CV)(v:CV):Bool:=match en.F f with
 |some fi=>bif Nat.ble (len args) fi.ntmps&&Nat.ble (len args) 1000000&&Cg (S9 6) args&&S9 6 v then jb v (setArgs args .e 0 λfr=>runs en q (.run f fr (.code fi.body .nil) [] none .nil H0 nx0)) else false
 |none=>false
theorem ja{v:CV}{m:AM}(h:jb v m=true):∃hp nx,m=.fin v hp nx:=by
 unfold jb at h
 split at h
 .rw[<-Of _ _ _ h];exact⟨_,_,rfl⟩
 .cases h
theorem Eg{S:Sg}{base:Nat}{w0:World}{l:MT}{H0:Tr CO}{nx0 q f:Nat}{args:List CV}{v:CV}(hS:eH S)(hF:vZ S)(hX:zy S)(hM:S.en.M=λf=>NF f l)(hl:Bv S.P base w0 l)(hI:Init S base w0 H0 nx0)(h:CI S.en H0 nx0 q f args v=true):Fact S.P base w0 f args v:=by
 intro ι us w ha hw hs;unfold CI at h;cases iL:S.en.F f with
 |none=>rw[iL]at h;cases h
 |some fi =>
  rw[iL]at h;have h:(bif Nat.ble (len args) fi.ntmps&&Nat.ble (len args) 1000000&&Cg (S9 6) args&&S9 6 v then jb v (setArgs args .e 0 λfr=>runs S.en q (.run f fr (.code fi.body .nil) [] none .nil H0 nx0)) else false)=true:=h;cases hb:(Nat.ble (len args) fi.ntmps&&Nat.ble (len args) 1000000&&Cg (S9 6) args&&S9 6 v)<;>rw[hb]at h
  .cases h
  .simp only[QB,As,B7]at hb
   obtain⟨⟨⟨b1,b2⟩,b3⟩,b4⟩:=hb;obtain⟨dS,gN,aG⟩:=ja h;obtain⟨F,g1,g2,g3,g4,g5⟩:=hF.F f fi iL;have rP:(callFunc f us.toArray).run S.P w=.ok (.enter f us.toArray) w:=by
    have g5':¬F.name="runtime.NumGoroutine":=by simpa using g5
    simp[callFunc,g1,g5',g2]
   refine⟨rP,?_⟩;obtain⟨ι0,hH,hG⟩:=hI w hw hs;have hM':zW S w.heap.size w:=Ak7 hM (hl.mono hw hs);have pK:=Ape (V:=λ_ _=>none) hS (Ag5 S) hF hM' (λbA=>bq hS hF hM' hX) iL hH ⟨λr o=>⟨λe=>(by cases e),λ⟨d,e⟩=>(by cases e)⟩,λd d' r o o' e=>by cases e⟩ hG (Alh b3 ha) b1 b2 aG;obtain⟨e0,w0',f0,⟨tB,u,rfl,hv,_⟩,_⟩:=pK [];refine⟨u,Pp 6 v u b4 hv,pK.mono λe w' hq=>?_⟩;obtain⟨ι2,u2,rfl,iW,yP⟩:=hq;rw[Aep 6 v u2 u b4 iW hv];exact⟨rfl,yP⟩
def FK{α:Type}(p:α->Bool):Option α->Bool
 |some x=>p x
 |none=>true
def Jh{α:Type}:Nat->(Nat->α->Bool)->Tr α->Bool
 |_,_,.e=>true
 |0,_,.n _ _ _=>false
 |d+1,p,.n v l r=>FK (p 0) v&&(Jh d (λq=>p (2 * q+1)) l&&Jh d (λq=>p (2 * q+2)) r)
theorem Wx{α:Type}:∀(d:Nat) (p:Nat->α->Bool) (t:Tr α),Jh d p t=true->∀k v,t.oA (Ga d k)=some v->p k v=true
 |d,p,.e,_,k,v,h=>by cases hp:Ga d k<;>rw[hp]at h<;>cases h
 |0,p,.n x l r,h,k,v,e=>by cases h
 |d+1,p,.n x l r,h,k,v,e=>by
  have h:(FK (p 0) x&&(Jh d (λq=>p (2 * q+1)) l&&Jh d (λq=>p (2 * q+2)) r))=true:=h;rw[QB,QB]at h;cases k with
  |zero =>
   have e:x=some v:=e;rw[e]at h;exact h.1
  |succ m =>
   have hp:Ga (d+1) (m+1)=bif Nat.beq (Nat.mod m 2) 0 then .l (Ga d (Nat.div m 2)) else .r (Ga d (Nat.div m 2)):=by
    show @Bool.rec (λ_=>Pa) (.r (Ga d (Nat.div m 2))) (.l (Ga d (Nat.div m 2))) (Nat.beq (Nat.mod m 2) 0)=_;cases Nat.beq (Nat.mod m 2) 0<;>rfl
   rw[hp]at e;cases hb:Nat.beq (Nat.mod m 2) 0<;>rw[hb]at e
   .have e:r.oA (Ga d (Nat.div m 2))=some v:=e
    have:=Wx d _ r h.2.2 _ _ e;have hm:m % 2=1:=by
     rcases Nat.mod_two_eq_zero_or_one m with h0|h0
     .have:=(beq_iff (Nat.mod m 2) 0).2 h0
      rw[this]at hb;cases hb
     .exact h0
    have hk:2 * Nat.div m 2+2=m+1:=by have:=UU m 2;show 2 * (m / 2)+2=m+1;omega
    rw[hk]at this;exact this
   .have e:l.oA (Ga d (Nat.div m 2))=some v:=e
    have:=Wx d _ l h.2.1 _ _ e;have hm:m % 2=0:=(beq_iff _ _).1 hb;have hk:2 * Nat.div m 2+1=m+1:=by have:=UU m 2;show 2 * (m / 2)+1=m+1;omega
    rw[hk]at this;exact this
theorem Ml{α:Type}{p:Nat->α->Bool}{t:Tr α}(h:Jh 40 p t=true){k:Nat}{v:α}(e:t.get k=some v):p k v=true:=Wx 40 p t h k v e
def yc(P:Program)(f:Nat):Option FI:=match P.funcs[f]? with
 |some fn=>match fn.body with
  |some c=>some ⟨fn.ntmps,fn.results.toList,c⟩
  |none=>none
 |none=>none
theorem x9{S:Sg}(hF:S.en.F=yc S.P)(h:(S.P.funcs.toList.all λfn=>!(fn.name=="runtime.NumGoroutine"))=true):vZ S:=⟨λf fi e=>by
 rw[hF]at e;unfold yc at e
 split at e
 .rename_i fn oO
  split at e
  .rename_i c hc
   cases e;have:=List.all_eq_true.1 h fn (by
    rw[<-QG]at oO;exact QF oO)
   exact⟨fn,oO,hc,rfl,rfl,by simpa using this⟩
  .cases e
 .cases e⟩
def CZ(P:Program)(t:Nat):Bool:=!P.stoodInHeld t&&!P.eqGuardType P.depth t&&(P.fieldsOf t).toList.all λf=>f.name != "_"
theorem j7{P:Program}{t:Nat}(h:CZ P t=true):P.stoodInHeld t=false/\P.eqGuardType P.depth t=false/\∀f∈(P.fieldsOf t).toList,f.name≠"_":=by
 unfold CZ at h;simp only[QB,XK,VD,bne_iff_ne]at h;exact⟨h.1.1,h.1.2,h.2⟩
theorem tu{S:Sg}{TT:Tr TI}{XT:Tr Nat}(h0:S.P.follows .mixedOrders=true)(hT:S.en.T=TT.get)(hX:S.en.X=XT.get)(h1:Jh 40 (λt ti=>zJ S.P t ti) TT=true)(h2:Jh 40 (λk _=>bif Nat.ble 1000000 k then CZ S.P (k-1000000) else true) XT=true):eH S where
 mixed:=h0
 T t ti e:=by
  rw[hT]at e;exact Afe (Ml (p:=λt ti=>zJ S.P t ti) h1 e)
 cmp t h:=by
  rw[hX]at h;cases hx:XT.get (1000000+t) with
  |none=>rw[hx]at h;cases h
  |some v =>
   have:=Ml (p:=λk _=>bif Nat.ble 1000000 k then CZ S.P (k-1000000) else true) h2 hx;have hb:Nat.ble 1000000 (1000000+t)=true:=(As _ _).2 (YM _ _);have:(bif Nat.ble 1000000 (1000000+t) then CZ S.P (1000000+t-1000000) else true)=true:=this;rw[hb,ZI]at this;exact j7 this
inductive Pv(S:Sg)(f:Nat):Nat->Prop
 |ib {c:Nat} {fn:Func} (hc:c=1\/c=2) (hf:S.P.funcs[f]?=some fn) (hn:(fn.name=="runtime.NumGoroutine")=false) (hb:fn.body.isNone=true) (h1:Extern.findNext fn=none) (h2:Extern.find fn=some Extern.BytealgIndexByte.indexByte):Pv S f c
 |ne {fn:Func} (hf:S.P.funcs[f]?=some fn) (hn:(fn.name=="runtime.NumGoroutine")=false) (hb:fn.body.isNone=true) (h1:Extern.findNext fn=none) (h2:Extern.find fn=some Extern.AbiNoEscape.same):Pv S f 3
 |mz {fn:Func} {ps:Array TypeId} {t e:TypeId} (hf:S.P.funcs[f]?=some fn) (hn:(fn.name=="runtime.NumGoroutine")=false) (hb:fn.body.isNone=true) (h1:Extern.findNext fn=none) (h2:Extern.find fn=some (Extern.BytealgMakeNoZero.makeNoZero ps #[t])) (ht:S.P.underlying t=some (.slice e)) (hx:S.en.X (3000000+f)=some e):Pv S f 4
def DE(l:List (Nat×Nat))(k v:Nat):Bool:=l.any λp=>Nat.beq p.1 k&&Nat.beq p.2 v
theorem cz{l:List (Nat×Nat)}{k v:Nat}(h:DE l k v=true):(k,v)∈l:=by
 unfold DE at h;obtain⟨p,hp,hq⟩:=List.any_eq_true.1 h;rw[QB,beq_iff,beq_iff]at hq;rw[<-hq.1,<-hq.2];exact hp
theorem sk{S:Sg}{XT:Tr Nat}{l:List (Nat×Nat)}(hX:S.en.X=XT.get)(h1:Jh 40 (λk v=>bif Nat.ble 1000000 k then true else DE l k v) XT=true)(hl:∀p∈l,Pv S p.1 p.2):zy S:=by
 have key:∀f c,f<1000000->S.en.X f=some c->Pv S f c:=λf c aA e=>by
  rw[hX]at e;have:=Ml (p:=λk v=>bif Nat.ble 1000000 k then true else DE l k v) h1 e;have hb:Nat.ble 1000000 f=false:=by
   cases hb:Nat.ble 1000000 f
   .rfl
   .have:=(As _ _).1 hb;omega
  have:(bif Nat.ble 1000000 f then true else DE l f c)=true:=this;rw[hb]at this;exact hl _ (cz this)
 constructor
 .intro f aA hx as w r hr
  have hE:∃c,(c=1\/c=2)/\Pv S f c:=hx.elim (λe=>⟨1,.inl rfl,key f 1 aA e⟩) (λe=>⟨2,.inr rfl,key f 2 aA e⟩);obtain⟨c,hc,hE⟩:=hE;cases hE with
  |ib _ hf hn hb h1 h2=>rw[run_callFunc_extern hf hn hb h1 h2,hr];rfl
  |ne=>rcases hc with hc|hc<;>cases hc
  |mz=>rcases hc with hc|hc<;>cases hc
 .intro f aA hx x w
  have hE:=key f 3 aA hx
  generalize hc:(3:Nat)=c at hE
  cases hE with
  |ib hq=>rcases hq with hq|hq<;>rw[hq]at hc<;>cases hc
  |ne hf hn hb h1 h2=>rw[run_callFunc_extern hf hn hb h1 h2];rfl
  |mz=>cases hc
 .intro f e aA hx sH n w hn9
  have hE:=key f 4 aA hx
  generalize hc:(4:Nat)=c at hE
  cases hE with
  |ib hq=>rcases hq with hq|hq<;>rw[hq]at hc<;>cases hc
  |ne=>cases hc
  | @mz fn ps t e' hf hn hb h1 h2 ht vd =>
   rw[sH]at vd;cases vd;obtain⟨cs,r1,r2,_,_⟩:=Lib.run_makeNoZero_cap (P:=S.P) w ps t e ht n (by omega);refine⟨cs.size,cs,r2,rfl,?_⟩;rw[run_callFunc_extern hf hn hb h1 h2,r1];rfl
theorem Aor{S:Sg}:∀p∈([]:List (Nat×Nat)),Pv S p.1 p.2:=λp h=>by cases h
theorem Mh{S:Sg}{f c:Nat}{l:List (Nat×Nat)}(h:Pv S f c)(hs:∀p∈l,Pv S p.1 p.2):∀p∈(f,c) :: l,Pv S p.1 p.2:=λp hp=>by
 rcases List.mem_cons.1 hp with rfl|hp
 .exact h
 .exact hs p hp
abbrev GL:=List (Nat×Nat×List CV)
def ew:GL->Nat->Tr CO
 | [],_=>.e
 |(_,ty,cs) :: l,r=>(ew l (r+1)).set r (.c ty (oZ cs 0) (len cs) 1 0 true false)
def dw(l:GL):Ip:=λr g=>if g=0 then (match l[r]? with|some x=>some ⟨x.1,0,x.2.2.length⟩|none=>none) else none
def Ly(w:World)(l:GL):Prop:=∀x∈l,∃arr fz us,w.heap[x.1]?=some (.cells arr x.2.1 fz)/\cF (λ_ _=>none) x.2.2 us/\(∀u∈us,u.oneCell'=true)/\∀(i:Nat) (u:Value),us[i]?=some u->arr[i]?=some u
theorem uw{n:Nat}:∀x∈([]:GL),x.1<n:=λx h=>by cases h
theorem tV{n g ty:Nat}{cs:List CV}{l:GL}(h:g<n)(hs:∀x∈l,x.1<n):∀x∈(g,ty,cs) :: l,x.1<n:=λx hx=>by
 rcases List.mem_cons.1 hx with rfl|hx
 .exact h
 .exact hs x hx
theorem Adk:∀(l:GL) (r k:Nat),r+l.length<aH->((ew l r).get k=if r<=k then (match l[k-r]? with|some x=>some (.c x.2.1 (oZ x.2.2 0) (len x.2.2) 1 0 true false)|none=>none) else none)
 | [],r,k,_=>by
  show (Tr.e:Tr CO).get k=_;rw[Tr.JQ]
  split
  .simp
  .rfl
 |(g,ty,cs) :: l,r,k,h=>by
  simp only[QT]at h;show ((ew l (r+1)).set r (.c ty (oZ cs 0) (len cs) 1 0 true false)).get k=_;rw[Tr.cH _ _ (by omega),Adk l (r+1) k (by omega)]
  by_cases h1:k=r
  .subst h1
   rw[QE rfl,QE (QK _),UC];rfl
  .rw[QD h1]
   by_cases h2:r<=k
   .rw[QE h2,QE (by omega:r+1<=k),show k-r=(k-(r+1))+1 by omega,ZJ]
   .rw[QD h2,QD (by omega)]
theorem dx{S:Sg}{base:Nat}{w0:World}{H0:Tr CO}{nx0:Nat}{l:GL}{GT:Tr Nat}(hG:S.en.G=GT.get)(hH:H0=ew l 0)(hn:nx0=l.length)(hk:l.length<=1000)(hg:Jh 40 (λg r=>match l[r]? with|some x=>Nat.beq x.1 g|none=>false) GT=true)
  (hd:(l.map (·.1)).Nodup) (hlen:∀x∈l,x.2.2.length<=100000) (hb:∀x∈l,x.1<base) (hw:Ly w0 l):Init S base w0 H0 nx0:=by
 intro w yP aM;have fg:l.length<aH:=by unfold aH;omega
 have aU:∀k,H0.get k=match l[k]? with|some x=>some (.c x.2.1 (oZ x.2.2 0) (len x.2.2) 1 0 true false)|none=>none:=λk=>by
  rw[hH,Adk l 0 k (by omega),QE (ZD _),Nat.sub_zero]
 have OI:∀r g L,dw l r g=some L->g=0/\∃x,l[r]?=some x/\L=⟨x.1,0,x.2.2.length⟩:=λr g L e=>by
  unfold dw at e
  split at e
  .rename_i lJ
   split at e
   .rename_i x hx
    cases e;exact⟨lJ,x,hx,rfl⟩
   .cases e
  .cases e
 refine⟨dw l,⟨Below.refl _ _,QK _,by rw[hn];omega,λr g L e=>?_,λr g L r' g' L' e e' he=>?_,λr g L e=>?_,λr o e=>(by cases e),λr o e=>?_⟩,λg r e=>?_⟩
 .obtain⟨rfl,x,hx,rfl⟩:=OI r g L e
  have hm:=QF hx;obtain⟨arr,fz,us,q1,q2,q3,q4⟩:=hw x hm;have q1':w.heap[x.1]?=some (.cells arr x.2.1 fz):=by rw[yP.block x.1 (hb x hm)];exact q1
  have aA:x.1<w.heap.size:=(Array.getElem?_eq_some_iff.1 q1').1;have hle:x.2.2.length<=arr.size:=by
   cases hl:us.length with
   |zero=>rw[q2.1,hl];exact ZD _
   |succ m =>
    have hu:us[m]?=some us[m]:=QA (by omega);have:=(Array.getElem?_eq_some_iff.1 (q4 m _ hu)).1;rw[q2.1,hl];omega
  refine⟨_,by rw[aU,hx],?_,aA,λ_=>rfl⟩;refine⟨ZD _,arr,fz,q1',by show x.2.2.length<=0+arr.size;omega,λi c hc=>?_,λh=>by cases h⟩;have hlx:=hlen x hm;rw[Zn _ _ _ (by unfold aH;omega)]at hc
  split at hc
  .rename_i hi
   cases kF:x.2.2[i-0]? with
   |none=>rw[kF]at hc;cases hc
   |some y =>
    rw[kF]at hc;cases hc;refine⟨ZD _,by rw[B7];omega,by unfold aH;omega,λ_ _=>?_⟩;obtain⟨u,hu,hr⟩:=q2.get kF;exact⟨u,q4 _ u hu,hr.mono (λr g L e=>by cases e),q3 u (QF hu)⟩
  .cases hc
 .obtain⟨rfl,x,hx,rfl⟩:=OI r g L e
  obtain⟨rfl,x',qH,rfl⟩:=OI r' g' L' e';have he:x.1=x'.1:=he;have h1:(l.map (·.1))[r]?=some x.1:=by rw[QP,hx];rfl
  have h2:(l.map (·.1))[r']?=some x'.1:=by rw[QP,qH];rfl
  have hr:r=r':=by
   obtain⟨a1,a2⟩:=List.getElem?_eq_some_iff.1 h1;obtain⟨b1,b2⟩:=List.getElem?_eq_some_iff.1 h2;rcases UL r r' with aA|aA|aA
   .exact (List.pairwise_iff_getElem.1 hd r r' a1 b1 aA (by rw[a2,b2,he])).elim
   .exact aA
   .exact (List.pairwise_iff_getElem.1 hd r' r b1 a1 aA (by rw[a2,b2,he])).elim
  subst hr;rw[hx]at qH;cases qH;exact⟨rfl,rfl⟩
 .obtain⟨rfl,x,hx,rfl⟩:=OI r g L e
  rw[hn];exact (List.getElem?_eq_some_iff.1 hx).1
 .rw[aU]at e
  split at e
  .rename_i x hx
   rw[hn];exact (List.getElem?_eq_some_iff.1 hx).1
  .cases e
 .rw[hG]at e
  have:=Ml (p:=λg r=>match l[r]? with|some x=>Nat.beq x.1 g|none=>false) hg e;have:(match l[r]? with|some x=>Nat.beq x.1 g|none=>false)=true:=this
  split at this
  .rename_i x hx
   refine⟨x.2.2.length,?_⟩;unfold dw;rw[QE rfl,hx,<-(beq_iff _ _).1 this]
  .cases this
open Go Go.ChangeShapes Go.WideShapes Go.RowKit
def M3(c:TypeId->Nat)(r:TypeId->DataW Unit->Option (List Value)):Nat->List (Nat×TypeId)->List (DataW Unit)->Option (List Value×Nat)
 |off,[],[]=>some ([],off)
 |off,(o,t) :: l,d :: ds=>bif Nat.beq o off then (match r t d with
  |some v=>match M3 c r (off+c t) l ds with
   |some (vs,e)=>some (v++vs,e)
   |none=>none
  |none=>none) else none
 |_,_,_=>none
def Py(rX:Nat):Option (List Value×Nat)->Option (List Value)
 |some (vs,e)=>bif Nat.beq e rX then some vs else none
 |none=>none
def kK(P:Program):Nat->TypeId->DataW Unit->Option (List Value)
 |0,_,_=>none
 |n+1,t,d=>match P.underlying t with
  |some (.int _)=>match d with
   |.lit (.int k m)=>some [.int k m]
   |_=>none
  |some .bool=>match d with
   |.lit (.bool b)=>some [.bool b]
   |_=>none
  |some .string=>match d with
   |.lit (.string s)=>some [.string ⟨s.toArray⟩]
   |_=>none
  |some (.array m e)=>match d with
   |.agg ds=>Py (P.cellsOf t) (M3 P.cellsOf (kK P n) 0 ((List.range m).map λi=>(i * P.cellsOf e,e)) ds)
   |_=>none
  |some (.struct fs)=>match d with
   |.agg ds=>Py (P.cellsOf t) (M3 P.cellsOf (kK P n) 0 (fs.toList.map λf=>(f.offset,f.type)) ds)
   |_=>none
  |_=>none
theorem V5{c:TypeId->Nat}{r:TypeId->DataW Unit->Option (List Value)}{cs:List Value}:∀(l:List (Nat×TypeId)) (ds:List (DataW Unit)) (off:Nat) (vs:List Value) (e:Nat),M3 c r off l ds=some (vs,e)->
  (∀(i o:Nat) (t:TypeId) (d:DataW Unit) (v:List Value),l[i]?=some (o,t)->ds[i]?=some d->r t d=some v->(cs.drop o).take (c t)=v)->cs.length=e->cs.drop off=vs
 | [],[],off,vs,e,h,_,hl=>by
  cases h;exact XM (by omega)
 | [],_ :: _,_,_,_,h,_,_=>by cases h
 |_ :: _,[],_,_,_,h,_,_=>by cases h
 |(o,t) :: l,d :: ds,off,vs,e,h,hr,hl=>by
  have h:(bif Nat.beq o off then (match r t d with
   |some v=>match M3 c r (off+c t) l ds with
    |some (vs,e)=>some (v++vs,e)
    |none=>none
   |none=>none) else none)=some (vs,e):=h
  cases hb:Nat.beq o off<;>rw[hb]at h
  .cases h
  .have ho:=(beq_iff _ _).1 hb
   subst ho;have h:(match r t d with
    |some v=>match M3 c r (o+c t) l ds with
     |some (vs,e)=>some (v++vs,e)
     |none=>none
    |none=>none)=some (vs,e):=h
   cases hv:r t d with
   |none=>rw[hv]at h;cases h
   |some v =>
    rw[hv]at h;have h:(match M3 c r (o+c t) l ds with
     |some (vs,e)=>some (v++vs,e)
     |none=>none)=some (vs,e):=h
    cases hq:M3 c r (o+c t) l ds with
    |none=>rw[hq]at h;cases h
    |some x =>
     obtain⟨af,e'⟩:=x;rw[hq]at h;cases h;have ih:=V5 (cs:=cs) l ds (o+c t) af _ hq (λi o' t' d' v' a b=>hr (i+1) o' t' d' v' (by simpa using a) (by simpa using b)) hl;have h0:=hr 0 o t d v rfl rfl hv;rw[<-ih,<-h0,<-UR,UY]
theorem Tv{rX:Nat}{o:Option (List Value×Nat)}{vs:List Value}(h:Py rX o=some vs):o=some (vs,rX):=by
 unfold Py at h
 split at h
 .rename_i af e
  cases hb:Nat.beq e rX<;>rw[hb]at h
  .cases h
  .cases h
   rw[(beq_iff _ _).1 hb]
 .cases h
theorem Pz{P:Program}{w:World}{base:Nat}{spare:Nat->Bool}{held:Bool}:∀(n:Nat) (t:TypeId) (d:DataW Unit) (vs:List Value) (fuel:Nat) (cs:List Value) (p:List MemPlace),kK P n t d=some vs->DataW.trod (λ_=>()) P w base spare held fuel t cs=some (d,p)->cs=vs
 |0,_,_,_,_,_,_,h,_=>by cases h
 |n+1,t,d,vs,fuel,cs,p,h,ht=>by
  unfold kK at h
  split at h
  .rename_i k hu
   obtain⟨m,rfl,hx,_⟩:=DataW.trod_int hu ht;cases hx;cases h;rfl
  .rename_i hu
   obtain⟨b,rfl,hx⟩:=DataW.trod_bool hu ht;cases hx;cases h;rfl
  .rename_i hu
   obtain⟨s,rfl,hx,_⟩:=DataW.trod_string hu ht;cases hx;cases h;simp
  .rename_i m e hu
   obtain⟨xs,fu,rfl,hx,hl,mQ,vE⟩:=DataW.trod_array hu ht;cases hx;have h:Py (P.cellsOf t) (M3 P.cellsOf (kK P n) 0 ((List.range m).map λi=>(i * P.cellsOf e,e)) (xs.map (·.1)))=some vs:=h;refine (List.drop_zero (l:=cs)).symm.trans (V5 (cs:=cs) _ _ 0 vs _ (Tv h) (λi o t' d' v a b c=>?_) hl);rw[QP]at a b;cases hr:(List.range m)[i]? with
   |none=>rw[hr]at a;cases a
   |some j =>
    rw[hr]at a;cases a;have hi:i<m:=by have:=(List.getElem?_eq_some_iff.1 hr).1;simpa using this
    rw[UO hi]at hr;cases hr;cases zO:xs[i]? with
    |none=>rw[zO]at b;cases b
    |some x =>
     rw[zO]at b;cases b;have:=vE i hi;rw[zO]at this;exact Pz n e x.1 v fu _ x.2 c this
  .rename_i fs hu
   obtain⟨xs,fu,rfl,hx,hl,mQ,vE⟩:=DataW.trod_struct hu ht;cases hx;have h:Py (P.cellsOf t) (M3 P.cellsOf (kK P n) 0 (fs.toList.map λf=>(f.offset,f.type)) (xs.map (·.1)))=some vs:=h;refine (List.drop_zero (l:=cs)).symm.trans (V5 (cs:=cs) _ _ 0 vs _ (Tv h) (λi o t' d' v a b c=>?_) hl);rw[QP]at a b;cases hr:fs.toList[i]? with
   |none=>rw[hr]at a;cases a
   |some f =>
    rw[hr]at a;cases a;cases zO:xs[i]? with
    |none=>rw[zO]at b;cases b
    |some x =>
     rw[zO]at b;cases b;have:=vE i f (by rw[<-QG];exact hr);rw[zO]at this;exact Pz n f.type x.1 v fu _ x.2 c this
  .cases h
theorem oI{P:Program}{nm:String}{d:DataW Unit}{r:List (String×DataW Unit)}{W:World}{g t:Nat}{vs:List Value}(h:laidMet P ((nm,d) :: r) W)(hg:P.globalNamed nm=some g)(ht:(P.globals[g]?).map (·.type)=some t)(hf:kK P 10 t d=some vs):
  ∃arr ty fz,W.heap[g]?=some (.cells arr ty fz)/\arr.toList=vs:=by
 obtain⟨ps,⟨g0,t0,bA,f0,p0,q0,lJ,GS,BI,hd0,_,_⟩,_,_⟩:=h;obtain rfl:=Option.some.inj (hg.symm.trans lJ);obtain rfl:=Option.some.inj (ht.symm.trans GS);have cV:=Pz 10 t d vs f0 _ p0 hf hd0;unfold World.var? at BI;rw[hg]at BI;simp only[YD]at BI
 split at BI
 .rename_i cs ty fz hc
  cases BI;exact⟨_,ty,fz,hc,cV⟩
 .cases BI
def PB:CV->Value->Bool
 |.i k n,.int k' n'=>pT k k'&&vP n n'
 |.b b,.bool b'=>b==b'
 |.s l n,.string s=>Nat.beq l (ofBytes s).1&&Nat.beq n (ofBytes s).2
 |_,_=>false
def lA:List CV->List Value->Bool
 | [],[]=>true
 |c :: cs,v :: vs=>PB c v&&lA cs vs
 |_,_=>false
theorem Apd{ι:Ip}{c:CV}{v:Value}(h:PB c v=true):VR ι c v/\v.oneCell'=true:=by
 unfold PB at h
 split at h
 .rw[QB,Nu,XI]at h
  rw[J8.1 h.1,h.2];exact⟨.i _ _,rfl⟩
 .rw[XI]at h
  rw[h];exact⟨.b _,rfl⟩
 .rename_i l n s
  rw[QB,beq_iff,beq_iff]at h;refine⟨?_,rfl⟩;have:=U3 (ι:=ι) (.string s);have this:VR ι (.s (ofBytes s).1 (ofBytes s).2) (.string s):=this;rw[h.1,h.2];exact this
 .cases h
theorem oV{ι:Ip}:∀ {cs:List CV} {vs:List Value},lA cs vs=true->cF ι cs vs/\∀v∈vs,v.oneCell'=true
 | [],[],_=>⟨.nil,by simp⟩
 | [],_ :: _,h=>by cases h
 |_ :: _,[],h=>by cases h
 |c :: cs,v :: vs,h=>by
  have h:(PB c v&&lA cs vs)=true:=h;rw[QB]at h;obtain⟨h1,h2⟩:=Apd (ι:=ι) h.1;obtain⟨h3,h4⟩:=oV (ι:=ι) h.2;exact⟨.cons h1 h3,by simpa using⟨h2,h4⟩⟩
def wD(W:World)(g:Nat):Nat:=match W.heap[g]? with
 |some (.cells _ ty _)=>ty
 |_=>0
theorem yV{W:World}:Ly W []:=λx h=>by cases h
theorem oT{W:World}{x:Nat×Nat×List CV}{l:GL}(h:∃arr fz us,W.heap[x.1]?=some (.cells arr x.2.1 fz)/\cF (λ_ _=>none) x.2.2 us/\(∀u∈us,u.oneCell'=true)/\∀(i:Nat) (u:Value),us[i]?=some u->arr[i]?=some u)(hs:Ly W l):Ly W (x :: l):=λy hy=>by
 rcases List.mem_cons.1 hy with rfl|hy
 .exact h
 .exact hs y hy
section
variable {P:Program} {H:Type} {enc:TypeId×Value->H}
end
theorem xB{P:Program}{f:FuncId}{W:World}(h:Fact P W.heap.size W f [] (.b true)):Calls P f #[] W λe W'=>e=.returned (.bool true)/\Below W.heap.size W W':=by
 obtain⟨_,u,hu,hc⟩:=h (λ_ _=>none) [] W cF.nil (Below.refl _ _) (QK _);have:=hu.jD;subst this;exact hc
end
end Go.Cv
