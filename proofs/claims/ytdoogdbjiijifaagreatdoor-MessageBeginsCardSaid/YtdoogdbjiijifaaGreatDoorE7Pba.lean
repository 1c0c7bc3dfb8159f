/- A part of the proof: contracts of functions, or the executor and its soundness. No conditions. -/
import Derived.Lib.Strings
import Derived.Lib.Slices
import Derived.Lib.Walk
import Derived.Lib.Builder
import Derived.Lib.AppendStr
import Derived.Lib.UnsafeStr
import Derived.WalkKit
import Derived.Laws.Externs
import Derived.Laws.IdiomCopy
import Derived.Shelf.Bytes.SlIndexAt
import Derived.Test.YtdoogdbjiijifaaGreatDoorE7Pay
import Derived.Test.YtdoogdbjiijifaaGreatDoorE7Paz
namespace Go.Proofs.YtdoogdbjiijifaaGreatDoor
open Go Go.Sx Go.ChangeShapes Go.WideShapes Go.RowKit
set_option maxRecDepth 100000
theorem oa:Fk Tryz.prog 3 (λn:Int=>[.int .i64 (.a n)]):=.int Tryz.underlying3
theorem Yi:Fk Tryz.prog 9 (λs:{s:List UInt8 // s.length<=maxLen}=>[.str s.1]):=.str Tryz.underlying9
variable {v:Value}{r:Rq}{nl b2:Bool}{n n2:Int}{f g f2:Nat->List SV}{x:BT}{y:ST}{l:List HF}{w:World}{xs:List Value}
theorem ro3{I:Nat->Nat->Prop}{W:World}{s t r:SV}{u x:Value}(h:RO I W s v)(k:RO I W t u)(l:RO I W r x):∀(i:Nat) (s':SV) (v':Value),[s,t,r][i]?=some s'->[v,u,x][i]?=some v'->RO I W s' v'
 |0,_,_,a,b=>by simp at a b;subst a b;exact h
 |1,_,_,a,b=>by simp at a b;subst a b;exact k
 |2,_,_,a,b=>by simp at a b;subst a b;exact l
 |_+3,_,_,a,_=>by simp at a
abbrev z8:={s:List UInt8 // s.length<=maxLen}
abbrev MB:={n:Int // (Lit.int .i64 n).wf=true}
abbrev OZ:=z8×z8×Unit
def IN(x:OZ):List SV:=[.str x.1.1]++([.str x.2.1.1]++[])
abbrev FsD:={x:Bool×List OZ // x.2.length<=maxLen/\(x.1=true->x.2=[])}
abbrev LR:=MB×z8×z8×z8×FsD×z8×Unit
def rqC(x:LR):List SV:=[.int .i64 (.a x.1.1)]++([.str x.2.1.1]++([.str x.2.2.1.1]++([.str x.2.2.2.1.1]++(rZ 2 IN x.2.2.2.2.1.1++([.str x.2.2.2.2.2.1.1]++[])))))
theorem FL:Fk Tryz.prog 2 (λn:MB=>[.int .i64 (.a n.1)]):=.TH Tryz.underlying2
theorem cm:Fk Tryz.prog 100 IN:=.struct (fs:=[(0,9),(1,9)]) (len:=2) Tryz.underlying100 (by rfl) (by kernel_rfl) (Gz.cons 0 1 1 (by kernel_rfl) Yi (Gz.cons 1 1 0 (by kernel_rfl) Yi Gz.nil))
theorem uk:Fk Tryz.prog 23 (λx:FsD=>rZ 2 IN x.1):=.tx Tryz.underlying23 (by kernel_rfl) (by decide) cm
theorem uj:Fk Tryz.prog 55 rqC:=.struct (fs:=[(0,2),(1,9),(2,9),(3,9),(4,23),(5,9)]) (len:=6) Tryz.underlying55 (by rfl) (by kernel_rfl)
 (Gz.cons 0 1 5 (by kernel_rfl) FL (Gz.cons 1 1 4 (by kernel_rfl) Yi (Gz.cons 2 1 3 (by kernel_rfl) Yi (Gz.cons 3 1 2 (by kernel_rfl) Yi (Gz.cons 4 1 1 (by kernel_rfl) uk (Gz.cons 5 1 0 (by kernel_rfl) Yi Gz.nil))))))
def Ap(x:OZ):HF:=⟨x.1.1,x.2.1.1⟩
def FB(x:LR):Rq:=⟨x.1.1,x.2.1.1,x.2.2.1.1,x.2.2.2.1.1,x.2.2.2.2.1.1.2.map Ap,x.2.2.2.2.2.1.1⟩
theorem Iv(x:z8):x.1.length<=9223372036854775807:=XO x.2 (by decide)
theorem bm(l:List OZ)(h:l.length<=maxLen):A3 (P6 IN l) (l.length:Int) (l.map Ap):=by
 refine⟨by rw[XW],λi hi=>?_,by rw[XW];exact XO h (by decide),λi hi=>?_⟩
 .rw[XW]at hi
  unfold P6;rw[QA hi,QC,QP,QA hi];rfl
 .rw[XW]at hi
  rw[QC,QP,QA hi];exact⟨Iv l[i].1,Iv l[i].2.1⟩
def rqF(x:LR):Nat->List SV:=P6 IN x.2.2.2.2.1.1.2
theorem bl(x:LR):Rc (FB x) x.2.2.2.2.1.1.1 (x.2.2.2.2.1.1.2.length:Int) (rqF x):=by
 have hw:=x.1.2;simp only[Lit.wf,QB,QN]at hw;refine⟨?_,?_,Iv _,Iv _,Iv _,Iv _,bm _ x.2.2.2.2.1.2.1,λe=>?_⟩
 .exact hw.1
 .exact hw.2
 .show List.map Ap _=[]
  rw[x.2.2.2.2.1.2.2 e];rfl
def SK(x:LR):SV:=.agg (rqC x)
open Go Go.Sx
set_option maxHeartbeats 16000000
def Kd(l:List HF):Bool:=l.any λx=>r9 (Bg x.name)
def A9(r:Rq):List HF×Int :=
 if Bh r.fields≠0 then ([],Bh r.fields) else if Kd r.fields then ([],8) else
 if (A2 r).2≠0 then ([],(A2 r).2) else ((A2 r).1,Bh (A2 r).1)
def nq:aD:=λ_ xs ls K=>∃(r:Rq) (nl:Bool) (n:Int) (f:Nat->List SV),xs=[.agg [.int .i64 (.a r.id),.str r.method,.str r.target,.str r.host,.sl (.a nl) (.a n) 2 f,.str r.body]]/\ls=[]/\Rc r nl n f/\
 ∀l e nb n' g,(l,e)=A9 r->A3 g n' l->nb=l.isEmpty->K (.tup [.sl (.a nb) (.a n') 2 g,.int .i64 (.a e)]) []
structure OwJ(l:List HF)(k:Bool)(i:Nat)(I:Int)(m:Nat):Prop where
 aZ:AtR l i I m
 k:k=Kd (l.drop i)
theorem Rf(r:Rq)(h:(A2 r).2=0):(A2 r).1.isEmpty=false:=by
 unfold A2 at h ⊢
 split
 .rename_i h1;rw[QE h1]at h;exact absurd h h1
 .rfl
theorem ov(n:Int)(h1:-9223372036854775808<=n)(h2:n<=9223372036854775807)(a:List UInt8)(ha:a.length<=100):HF.small ⟨a,Lib.itoa n⟩:=⟨by show a.length<=_;omega,Lf h1 h2⟩
theorem Jm(R:Rc r nl n f):∃g n',A3 g n' (A2 r).1:=by
 unfold A2
 split
 .exact rowOf [] (by simp) (λi hi=>absurd hi (by simp))
 .rename_i h1
  have h1:(Ci r.fields).2=0:=by simpa using h1
  have h2:=Hi _ h1;refine rowOf _ ?_ (D3 (D3 (λi hi=>?_) (Jr R.row.small)) ?_)
  .simp only[QW]
   split<;>simp<;>omega
  .match i,hi with
   |0,_=>exact⟨by show Kg.length<=_;decide,R.host⟩
   |1,_=>exact ov _ R.BE R.BD _ (by decide)
  .split
   .intro i hi
    have:i=0:=by simpa using hi
    subst this;exact ov _ (by omega) (by have:=R.body;omega) _ (by decide)
   .intro i hi;simp at hi
theorem Ds:A3 (λ_=>[]) 0 []:=⟨rfl,λi hi=>absurd hi (by simp),by simp,λi hi=>absurd hi (by simp)⟩
def owJ(r:Rq)(k:Bool)(nl:Bool)(n:Int)(f:Nat->List SV)(m:Nat)(vs:List (Option SV))(hp:List Hl):Prop :=
 ∃(i:Nat) (I:Int),vs=[some (.ptr 0 0),some (.sl (.a nl) (.a n) 2 f),some (.int .i64 (.a n)),some (.int .i64 (.a I))]/\hp=[.aE 55 [.int .i64 (.a r.id),.str r.method,.str r.target,.str r.host,.sl (.a nl) (.a n) 2 f,.str r.body]]/\OwJ r.fields k i I m
theorem yw:Aw Tryz.prog gl 200 nq:=by
 refine Bd (gh:=[]) mixed Be (Ab Wl (Ab Anr (Ab Ae7 Ai))) Tryz.func200 (by kernel_rfl) (by kernel_rfl) ?_;intro xs ls K h;unfold nq at h;obtain⟨r,nl,n,f,rfl,rfl,R,h⟩:=h;obtain⟨k,hk⟩:∃k,k=A9 r:=⟨_,rfl⟩;obtain⟨kl,ke⟩:=k;have hg:∃g n',A3 g n' kl:=by
  unfold A9 at hk
  split at hk
  .simp only[Prod.mk.injEq]at hk;rw[hk.1];exact⟨_,_,Ds⟩
  .split at hk
   .simp only[Prod.mk.injEq]at hk;rw[hk.1];exact⟨_,_,Ds⟩
   .split at hk
    .simp only[Prod.mk.injEq]at hk;rw[hk.1];exact⟨_,_,Ds⟩
    .simp only[Prod.mk.injEq]at hk;rw[hk.1];exact Jm R
 obtain⟨g,n2,R2⟩:=hg;obtain⟨nb,eY⟩:∃nb,nb=kl.isEmpty:=⟨_,rfl⟩;refine⟨_,_,h kl ke nb n2 g hk R2 eY,λD hD=>?_⟩;clear h;unfold A9 at hk;obtain⟨wl,ei⟩:∃w,w=A2 r:=⟨_,rfl⟩;have BH:=Rf r;rw[<-ei]at hk BH;obtain⟨wl,we⟩:=wl;simp only at hk BH;obtain⟨J,hJ⟩:∃J,J=owJ r (Kd r.fields) nl n f:=⟨_,rfl⟩;obtain⟨ao,gp⟩:∃a,a=Kd r.fields:=⟨_,rfl⟩;rw[<-gp]at hk hJ;obtain⟨id,me,ta,ho,fs,bo⟩:=r;simp only at R hJ gp hk;cbv;refine⟨fs,_,_,f,rfl,rfl,by subst hD;exact R.row,λe he=>?_⟩;cbv;rw[<-he]at hk;clear he;refine br hD (λh=>?_) (λh=>?_)<;>cbv
 .have h1:e≠0:=by simpa using h
  rw[QE h1]at hk;simp only[Prod.mk.injEq]at hk;obtain⟨cT,bE⟩:=hk;subst cT bE;exact Km hD (by rw[eY];rfl) Ds rfl rfl R2
 have h1:e=0:=by simpa using h
 rw[QD (by simp[h1])]at hk;clear h h1;refine⟨[1,16,17,18],J,⟨rfl,fs.length,?_⟩,?_⟩
 .rw[hJ]
  subst hD;exact⟨0,0,rfl,rfl,AtR.zero R.row.len,gp⟩
 clear gp;intro m vs hp hj;rw[hJ]at hj;obtain⟨i,I,rfl,rfl,V⟩:=hj;simp only at V;cbv;refine br hD (λh=>?_) (λh=>?_)<;>cbv
 .have aA:=V.aZ.lt R.row.n (QS (p:=I<n) h)
  clear h;refine⟨V.aZ.mP hD R.row.n aA,λj hj=>?_⟩;cbv;obtain rfl:=V.aZ.j hD hj;clear hj;have e1:=R.row.f j aA;have fF:=R.row.small j aA;have aR:=V.k;rw[Pn (d:=default) aA]at aR;obtain⟨x,hx⟩:∃x,x=fs.getD j default:=⟨_,rfl⟩;rw[<-hx]at e1 aR fF;obtain⟨a,b⟩:=x;rw[e1];cbv;refine⟨a,rfl,rfl,fF.1,λt ht=>?_⟩;cbv;have ht:t=r9 (Bg a):=ht;have mH:ao=(t||Kd (fs.drop (j+1))):=by rw[aR,ht];rfl
  clear ht aR;refine br hD (λh=>?_) (λh=>?_)<;>cbv
  .have h1:t=true:=h
   have hk4:ao=true:=by rw[mH,h1];rfl
   rw[QE hk4]at hk;simp only[Prod.mk.injEq]at hk;obtain⟨cT,bE⟩:=hk;subst cT bE;exact Km hD (by rw[eY];rfl) Ds rfl rfl R2
  .have h1:t=false:=h
   obtain⟨g1,g2⟩:=V.aZ.step hD aA;refine⟨_,g1,?_⟩;rw[hJ];unfold owJ;subst hD;exact⟨j+1,_,rfl,rfl,g2,by rw[mH,h1];rfl⟩
 .have hi:=V.aZ.eq R.row.n (QZ (p:=I<n) h)
  have aR:=V.k;rw[hi,ZR]at aR;have mH:ao=false:=aR;rw[QD (by rw[mH];simp)]at hk;clear h aR;refine⟨⟨id,me,ta,ho,fs,bo⟩,nl,n,f,by subst hD;rfl,rfl,R,λl e2 uq n3 g3 hw R3 sO=>?_⟩;cbv;rw[<-ei]at hw;simp only[Prod.mk.injEq]at hw;obtain⟨cT,bE⟩:=hw;subst cT bE;refine br hD (λh=>?_) (λh=>?_)<;>cbv
  .have h1:e2≠0:=by simpa using h
   rw[QE h1]at hk;simp only[Prod.mk.injEq]at hk;obtain⟨cT,bE⟩:=hk;subst cT bE;exact Km hD (by rw[eY];rfl) Ds rfl rfl R2
  .have h1:e2=0:=by simpa using h
   rw[QD (by simp[h1])]at hk;have aV:=BH h1;refine⟨l,_,_,g3,rfl,rfl,by subst hD;exact R3,λc hc=>?_⟩;cbv;rw[<-hc]at hk;clear hc;simp only[Prod.mk.injEq]at hk;obtain⟨cT,bE⟩:=hk;subst cT bE;refine Km hD ?_ R3 rfl rfl R2;rw[eY,aV,sO,h1];rfl
def Av(r:Rq):List UInt8×List HF×Int :=
 if r.id<1\/1000000000<r.id then (sId,[],7) else if !Dq r.method then (Ahv,[],6) else if r.method=eN then (Ahv,[],9) else
 if (Xe r.target).2≠0 then (bg,[],(Xe r.target).2) else if !O7 r.host then (ua,[],6) else
 if (A9 r).2≠0 then (bh,[],(A9 r).2) else if 65536<r.body.length then (nu,[],3) else if (r.body != []&&Sj r.method)=true then (nu,[],2) else ([],(A9 r).1,0)
def wP:aD:=λ_ xs ls K=>∃(r:Rq) (nl:Bool) (n:Int) (f:Nat->List SV),xs=[.agg [.int .i64 (.a r.id),.str r.method,.str r.target,.str r.host,.sl (.a nl) (.a n) 2 f,.str r.body]]/\ls=[]/\Rc r nl n f/\
 ∀p l e nb n' g,(p,l,e)=Av r->A3 g n' l->nb=l.isEmpty->K (.tup [.str p,.sl (.a nb) (.a n') 2 g,.int .i64 (.a e)]) []
theorem Pk{D:Dn}(hD:D=dn){p p':List UInt8}{nb:Bool}{e:Int}{g2:Nat->List SV}{z:ST}(hp:p'=p)(h1:x.den=nb)(R:A3 g2 n2 l)(h2:y.den=n2)(h3:z.den=e)(R2:A3 g n l):
  Fin (.tup [.str p',.sl (.a (D.b x)) (.a (D.i y)) 2 g2,.int .i64 (.a (D.i z))]) (.tup [.str p,.sl (.a nb) (.a n) 2 g,.int .i64 (.a e)]) [] []:=by
 subst hD h1 h3 hp;have hn:n2=n:=by rw[R.n,R2.n]
 refine Fb (fE.tup (nE.cons (fE.refl _) (nE.cons (fE.sl rfl (by show y.den=n;rw[h2,hn]) λi hi=>?_) (nE.refl _))));have hi:(i:Int)<y.den:=hi;have:=R.n;rw[R.f i (by omega),R2.f i (by omega)]
theorem Wk(R:Rc r nl n f):∃g n',A3 g n' (A9 r).1:=by
 unfold A9
 split
 .exact⟨_,_,Ds⟩
 .split
  .exact⟨_,_,Ds⟩
  .split
   .exact⟨_,_,Ds⟩
   .exact Jm R
theorem ji:Aw Tryz.prog yU 145 wP:=by
 refine Bd (gh:=[]) mixed Be (Ab (Gt Adh) (Ab (Gt Aj4) (Ab (Gt Aks) (Ab (Gt yw) (Ab Akt Ai))))) Tryz.func145 (by kernel_rfl) (by kernel_rfl) ?_;intro xs ls K h;unfold wP at h;obtain⟨r,nl,n,f,rfl,rfl,R,h⟩:=h;obtain⟨k,hk⟩:∃k,k=Av r:=⟨_,rfl⟩;obtain⟨kp,kl,ke⟩:=k;have hg:∃g n',A3 g n' kl:=by
  unfold Av at hk
  repeat' split at hk
  all_goals (simp only[Prod.mk.injEq]at hk;rw[hk.2.1])
  all_goals first|exact⟨_,_,Ds⟩|exact Wk R
 obtain⟨g,n2,R2⟩:=hg;obtain⟨nb,eY⟩:∃nb,nb=kl.isEmpty:=⟨_,rfl⟩;refine⟨_,_,h kp kl ke nb n2 g hk R2 eY,λD hD=>?_⟩;clear h;unfold Av at hk;obtain⟨ck,pS⟩:∃w,w=A9 r:=⟨_,rfl⟩;rw[<-pS]at hk;obtain⟨cl,ce⟩:=ck;obtain⟨id,me,ta,ho,fs,bo⟩:=r;have AB:=R.method;have LQ:=R.target;have LU:=R.host;simp only at hk AB LQ LU;cbv;refine br hD (λh=>?_) (λh=>?_)<;>cbv
 .have h1:id<1\/1000000000<id:=by
   have h:(decide (id<1)||decide (1000000000<id))=true:=h;simpa using h
  rw[QE h1]at hk;simp only[Prod.mk.injEq]at hk;obtain⟨cT,bE,gV⟩:=hk;subst cT bE gV;exact Pk hD rfl (by rw[eY];rfl) Ds rfl rfl R2
 have h1:¬(id<1\/1000000000<id):=by
  have h:(decide (id<1)||decide (1000000000<id))=false:=h;simp only[XU,XG]at h;omega
 rw[QD h1]at hk;clear h h1;refine⟨me,rfl,rfl,AB,λim ID=>?_⟩;cbv;rw[<-ID]at hk;clear ID;refine br hD (λh=>?_) (λh=>?_)<;>cbv
 .have h1:(!im)=true:=h
  rw[QE h1]at hk;simp only[Prod.mk.injEq]at hk;obtain⟨cT,bE,gV⟩:=hk;subst cT bE gV;exact Pk hD rfl (by rw[eY];rfl) Ds rfl rfl R2
 have h1:(!im)=false:=h;rw[QD (by rw[h1];simp)]at hk;clear h h1;refine br hD (λh=>?_) (λh=>?_)<;>cbv
 .have h1:me=eN:=eq_of_beq (show (me==eN)=true from h)
  rw[QE h1]at hk;simp only[Prod.mk.injEq]at hk;obtain⟨cT,bE,gV⟩:=hk;subst cT bE gV;exact Pk hD rfl (by rw[eY];rfl) Ds rfl rfl R2
 have h1:¬me=eN:=by
  have h:(me==eN)=false:=h;intro e;rw[e]at h;simp at h
 rw[QD h1]at hk;clear h h1;refine⟨ta,rfl,rfl,LQ,λoi oe BO=>?_⟩;cbv;rw[<-BO]at hk;simp only at hk;clear BO;refine br hD (λh=>?_) (λh=>?_)<;>cbv
 .have h1:oe≠0:=by simpa using h
  rw[QE h1]at hk;simp only[Prod.mk.injEq]at hk;obtain⟨cT,bE,gV⟩:=hk;subst cT bE gV;exact Pk hD rfl (by rw[eY];rfl) Ds rfl rfl R2
 have h1:¬oe≠0:=by simpa using h
 rw[QD h1]at hk;clear h h1;refine⟨ho,rfl,rfl,LU,λhh IH=>?_⟩;cbv;rw[<-IH]at hk;clear IH;refine br hD (λh=>?_) (λh=>?_)<;>cbv
 .have h1:(!hh)=true:=h
  rw[QE h1]at hk;simp only[Prod.mk.injEq]at hk;obtain⟨cT,bE,gV⟩:=hk;subst cT bE gV;exact Pk hD rfl (by rw[eY];rfl) Ds rfl rfl R2
 have h1:(!hh)=false:=h;rw[QD (by rw[h1];simp)]at hk;clear h h1;refine⟨⟨id,me,ta,ho,fs,bo⟩,nl,n,f,by subst hD;rfl,rfl,R,λl e uq n3 g3 hc R3 sO=>?_⟩;cbv;rw[<-pS]at hc;simp only[Prod.mk.injEq]at hc;obtain⟨cT,bE⟩:=hc;subst cT bE;refine br hD (λh=>?_) (λh=>?_)<;>cbv
 .have h1:e≠0:=by simpa using h
  rw[QE h1]at hk;simp only[Prod.mk.injEq]at hk;obtain⟨cT,bE,gV⟩:=hk;subst cT bE gV;exact Pk hD rfl (by rw[eY];rfl) Ds rfl rfl R2
 have h1:¬e≠0:=by simpa using h
 rw[QD h1]at hk;clear h h1;refine br hD (λh=>?_) (λh=>?_)<;>cbv
 .have h1:65536<bo.length:=by have h:decide ((65536:Int)<(bo.length:Int))=true:=h;simp only[QN]at h;omega
  rw[QE h1]at hk;simp only[Prod.mk.injEq]at hk;obtain⟨cT,bE,gV⟩:=hk;subst cT bE gV;exact Pk hD rfl (by rw[eY];rfl) Ds rfl rfl R2
 have h1:¬65536<bo.length:=by have h:decide ((65536:Int)<(bo.length:Int))=false:=h;simp only[XG]at h;omega
 rw[QD h1]at hk;clear h h1;refine⟨me,rfl,rfl,AB,λb hb=>?_⟩;cbv;rw[<-hb]at hk;clear hb;refine br hD (λh=>?_) (λh=>?_)<;>cbv
 .have h1:(bo != []&&b)=true:=h
  rw[QE h1]at hk;simp only[Prod.mk.injEq]at hk;obtain⟨cT,bE,gV⟩:=hk;subst cT bE gV;exact Pk hD rfl (by rw[eY];rfl) Ds rfl rfl R2
 .have h1:¬(bo != []&&b)=true:=by
   have h:(bo != []&&b)=false:=h;rw[h];simp
  rw[QD h1]at hk;simp only[Prod.mk.injEq]at hk;obtain⟨cT,bE,gV⟩:=hk;subst cT bE gV;exact Pk hD rfl (by rw[eY,<-sO];rfl) R3 rfl rfl R2
def Aa0(r:Rq):List UInt8×Int:=((Av r).1,(Av r).2.2)
def qC:aD:=λ_ xs ls K=>∃(r:Rq) (nl:Bool) (n:Int) (f:Nat->List SV),xs=[.agg [.int .i64 (.a r.id),.str r.method,.str r.target,.str r.host,.sl (.a nl) (.a n) 2 f,.str r.body]]/\ls=[]/\Rc r nl n f/\
 ∀p e,(p,e)=Aa0 r->K (.tup [.str p,.int .i64 (.a e)]) []
open Go Go.RowKit Go.Sx
set_option maxHeartbeats 2000000
theorem rb:(Tryz.prog.info? 180).map (·.size)=some 2:=by kernel_rfl
theorem LK:liesAt Tryz.prog Tryz.prog.depth 180 (2 / Tryz.prog.cellsOf 180) 0 180 1=true:=by kernel_rfl
theorem zf:Tryz.prog.underlying 178=some (.pointer 180):=by kernel_rfl
theorem Ai6:Tryz.prog.underlying 259=some .unsafePointer:=by kernel_rfl
theorem LL:(Tryz.prog.info? 5).map (λi=>(i.zero,i.size,i.bytes))=some (some (.int .u8 0),1,1):=by kernel_rfl
theorem Wr:Tryz.prog.underlying 22=some (.slice 5):=by kernel_rfl
theorem Wj(b:Nat)(w:World)(h0:w.cell? ⟨b,0,none⟩=some (.pointer (some ⟨b,0,none⟩))):
  Calls Tryz.prog 196 #[.pointer (some ⟨b,0,none⟩)] w λe w'=>e=.returned (.tuple #[])/\w'=w:=by
 obtain⟨j,hj,_⟩:=Option.map_eq_some_iff.1 rb
 go_enter Tryz.func196,Tryz.ntmps196
 go_wp2
 rw[Lib.run_neq_ptr_same w _ zf hj]
 go_wp2
 go_end0
 exact⟨rfl,rfl⟩
theorem S7(b:Nat)(w:World)(h0:w.cell? ⟨b,0,none⟩=some (.pointer none))(pC:w.shape? b=some (180,2))(IJ:w.frozen? ⟨b,0,none⟩=false):
  Calls Tryz.prog 196 #[.pointer (some ⟨b,0,none⟩)] w λe w'=>e=.returned (.tuple #[])/\w'=w.setCell ⟨b,0,none⟩ (.pointer (some ⟨b,0,none⟩)):=by
 obtain⟨j,hj,hjs⟩:=Option.map_eq_some_iff.1 rb
 go_enter Tryz.func196,Tryz.ntmps196
 go_wp2
 rw[Lib.run_to_unsafe w ⟨b,0,none⟩ zf Ai6 hj (by rw[hjs];decide) pC (Nat.zero_lt_succ 1)];simp only[Result.andThen];rw[Oper.upon_value]
 go_wp2
 rw[run_callFunc_extern Tryz.func251 (by kernel_rfl) (by kernel_rfl) (by kernel_rfl) (e:=Extern.AbiNoEscape.same) (by kernel_rfl)];rw[Lib.run_noEscape];simp only[Result.andThen];rw[Oper.upon_value]
 go_wp2
 rw[Lib.run_from_unsafe w ⟨b,0,none⟩ Ai6 zf hj pC LK];simp only[Result.andThen];rw[Oper.upon_value]
 go_wp2
 go_end0
 exact⟨rfl,rfl⟩
structure Ap8(b:Nat)(v v':Value)(w w':World):Prop where
 os:w'.os=w.os
 tape:w'.tape=w.tape
 output:w'.output=w.output
 size:w.heap.size<=w'.heap.size
 block:∀k,k<w.heap.size->k≠b->some k≠v.ownBlock->w'.heap[k]?=w.heap[k]?
 new:∀k,v'.ownBlock=some k->v.ownBlock=some k\/w.heap.size<=k
theorem Xu(b:Nat)(p v:Value)(s:List UInt8)(w:World)(iE:w.heap[b]?=some (.cells #[p,v] 180 (0,0)))(hp:p=.pointer none\/p=.pointer (some ⟨b,0,none⟩))(bU:w.ownsRow 0 5 1 v s.length (Lib.byteCells s))(aV:v.ownBlock≠some b):
  Calls Tryz.prog 196 #[.pointer (some ⟨b,0,none⟩)] w λe w'=>e=.returned (.tuple #[])/\w'.heap[b]?=some (.cells #[.pointer (some ⟨b,0,none⟩),v] 180 (0,0))/\w'.ownsRow 0 5 1 v s.length (Lib.byteCells s)/\w'.os=w.os/\w'.tape=w.tape/\w'.output=w.output/\w'.heap.size=w.heap.size/\∀k,k≠b->w'.heap[k]?=w.heap[k]?:=by
 rcases hp with rfl|rfl
 .have aA:b<w.heap.size:=by
   rcases ZS b w.heap.size with h'|h'
   .exact h'
   .simp[Array.getElem?_eq_none h']at iE
  refine (S7 b w (by rw[Lib.cell_of_heap iE];rfl) (by simp[World.shape?,iE]) (Lib.frozen_of_heap iE 0)).mono ?_;rintro e w' ⟨rfl,rfl⟩;refine⟨rfl,by simp[World.setCell,XZ,iE],?_,rfl,rfl,rfl,by simp[World.setCell],λk hk=>RowKit.Below.heap_setCell _ _ _ _ (λe=>hk (by simp[e]))⟩;refine bU.kept (row:=some b) ⟨rfl,rfl,rfl,by simp[World.setCell],λk _ hk=>RowKit.Below.heap_setCell _ _ _ _ (λe=>hk (by simp[e]))⟩ (Or.inr aV)
 .refine (Wj b w (by rw[Lib.cell_of_heap iE];rfl)).mono ?_
  rintro e w' ⟨rfl,rfl⟩;exact⟨rfl,iE,bU,rfl,rfl,rfl,rfl,λ_ _=>rfl⟩
structure Ap7(w:World)(b:Nat)(p v:Value)(s:List UInt8):Prop where
 pp:p=.pointer none\/p=.pointer (some ⟨b,0,none⟩)
 at_:w.heap[b]?=some (.cells #[p,v] 180 (0,0))
 own:w.ownsRow 0 5 1 v s.length (Lib.byteCells s)
 ne:v.ownBlock≠some b
def lg(w':World)(b:Nat)(v':Value):Hl->Prop
 |.lZ T e s'=>T=180/\e=5/\∃p',Ap7 w' b p' v' s'
 |.gone=>v'.ownBlock=none
 |_=>False
theorem Sh{gl:List (Nat×SV)}{f:FuncId}{as1:List SV}{s:List UInt8}{r:SV}{hl:Hl}
  (run:∀(E:Env) (b:Nat) (p v:Value) (w:World) (bB:List Value),Ap7 w b p v s->A1 E w as1 bB->Calls Tryz.prog f ⟨.pointer (some ⟨b,0,none⟩) :: bB⟩ w λe w'=>∃ev v',e=.returned ev/\(∀E,Rel E w' r ev)/\Ap8 b v v' w w'/\lg w' b v' hl):
  Em Tryz.prog gl f (.ptr 0 0 :: as1) [.lZ 180 5 s] r [hl]:=by
 intro B E w bB xG JK eM hb hg hh hr;have h0:=hh 0;obtain⟨b,p,v,h1,h2,h3,h4,h5,h6,h7,h8⟩:=h0
 match bB,hr with
 |u :: bB,hr =>
  obtain⟨b',rR,hu⟩:=(hr.2 0 _ u rfl rfl).dW;obtain rfl:b=b':=Option.some.inj (h1.symm.trans rR);subst hu;refine (run E b p v w bB ⟨h3,h4,h5,h6⟩ ⟨by have:=hr.1;simpa using this,λi s' u' a c=>hr.2 (i+1) s' u' a c⟩).mono ?_;rintro e w' ⟨ev,v',rfl,uG,K,qO⟩
  let E':Env:=⟨E.β,E.τ,λk=>if v'.ownBlock=some k then some 0 else E.O k,E.κ,E.ζ,E.I⟩
  have hX:∀k,E.O k=some 0->B.w0.heap.size<=k\/B.X k:=λk hk=>(hb.dG k 0 hk).2;have qX:∀k,k<w.heap.size->(∀j,E.O k=some j->j≠0)->w'.heap[k]?=w.heap[k]?:=by
   intro k hk hn;refine K.block k hk (λe=>?_) (λe=>?_)
   .subst e;exact hn 0 h2 rfl
   .exact hn 0 (h8 k e.symm).1 rfl
  have aK:∀b2 o,E.I b2 o->w'.cell? ⟨b2,o,none⟩=w.cell? ⟨b2,o,none⟩:=by
   intro b2 o hi;simp only[World.cell?];rw[K.block b2 (hb.eJ b2 o hi) (λe=>by subst e;exact h7 o hi) (λe=>(h8 b2 e.symm).2 o hi)]
  have cA:∀k,v'.ownBlock=some k->B.w0.heap.size<=k\/B.X k:=by
   intro k hk;rcases K.new k hk with h|h
   .exact hX k (h8 k h).1
   .left;have:=hb.size;omega
  refine⟨ev,E',rfl,⟨K.os.trans hb.os,K.tape.trans hb.tape,K.output.trans hb.output,XO hb.size K.size,λb2 aA kN=>?_,λb2 o hi=>?_,λb2 o hi=>XR (hb.eJ b2 o hi) K.size,hb.cE,λb2 j hO=>?_,⟨hb.cS.β,hb.cS.τ,hb.cS.ζ⟩⟩,λk hk=>?_,uG E'⟩
  .rw[qX b2 (by have:=hb.size;omega) (λj hj e=>?_)]
   .exact hb.old b2 aA kN
   .subst e
    rcases hX b2 hj with h|h
    .omega
    .exact kN h
  .obtain⟨i1,i2⟩:=hb.I0 b2 o hi
   exact⟨i1,by rw[aK b2 o i1];exact i2⟩
  .have hO:(if v'.ownBlock=some b2 then some 0 else E.O b2)=some j:=hO
   split at hO
   .rename_i hv
    refine⟨?_,cA b2 hv⟩;cases hl with
    |lZ T e s' =>
     obtain⟨_,_,p',hA⟩:=qO;exact (hA.own.lt b2 hv).2
    |gone =>
     have hn:v'.ownBlock=none:=qO;rw[hn]at hv;cases hv
    |_=>exact qO.elim
   .obtain⟨o1,o2⟩:=hb.dG b2 j hO
    exact⟨XR o1 K.size,o2⟩
  .obtain rfl:k=0:=by simpa using hk
   cases hl with
   |lZ T e s' =>
    obtain⟨rfl,rfl,p',hA⟩:=qO;have hI:∀g,v'.ownBlock=some g->∀o,¬E.I g o:=by
     intro g hg o hi;rcases K.new g hg with h|h
     .exact (h8 g h).2 o hi
     .have:=hb.eJ g o hi;omega
    refine⟨b,p',v',h1,?_,hA.pp,hA.at_,hA.own,hA.ne,h7,λg hg=>⟨?_,hI g hg⟩⟩
    .show (if v'.ownBlock=some b then some 0 else E.O b)=some 0
     rw[QD hA.ne];exact h2
    .show (if v'.ownBlock=some g then some 0 else E.O g)=some 0
     rw[QE hg]
   |gone=>trivial
   |_=>exact qO.elim
 | [],hr=>exact absurd hr.1 (by simp)
theorem LJ:Tryz.prog.underlying 225=some (.pointer 5):=by kernel_rfl
theorem zg:Tryz.prog.cellsOf 5=1:=by kernel_rfl
structure Jl(v:Value)(w w':World):Prop where
 os:w'.os=w.os
 tape:w'.tape=w.tape
 output:w'.output=w.output
 size:w.heap.size<=w'.heap.size
 block:∀k,k<w.heap.size->some k≠v.ownBlock->w'.heap[k]?=w.heap[k]?
theorem Jl.drew(v:Value)(w:World):Jl v w w.drew:=⟨rfl,rfl,rfl,QK _,λ_ _ _=>rfl⟩
theorem unsafeString_none(W:World)(q:Option Addr):(Builtin.unsafeString_ #[225,3] 9 #[.pointer q,.int .i64 0]).run Tryz.prog W=.ok (.string .empty) W :=
 Lib.run_unsafeString_none W _ _ _ q
theorem Abv(b g cap:Nat)(p:Value)(cur:Array Value)(l:List UInt8)(w:World)(h0:l≠[])(iE:w.heap[b]?=some (.cells #[p,.slice (some ⟨g,0,none⟩) l.length cap] 180 (0,0)))(hg:w.heap[g]?=some (.cells cur 5 (0,0)))
  (bU:w.ownsRow 0 5 1 (.slice (some ⟨g,0,none⟩) l.length cap) l.length (Lib.byteCells l)) (qS:l.length<=cap) (fX:cap<=maxLen) (cV:cur.size=cap * 1):
  Calls Tryz.prog 143 #[.pointer (some ⟨b,0,none⟩)] w λe w'=>e=.returned (.string ⟨l.toArray⟩)/\Jl (.slice (some ⟨g,0,none⟩) l.length cap) w w':=by
 have sQ:l.length≠0:=by simpa using h0
 have c1:w.drew.cell? ⟨b,1,none⟩=some (.slice (some ⟨g,0,none⟩) l.length cap):=by
  have:w.drew.heap[b]?=some (.cells #[p,.slice (some ⟨g,0,none⟩) l.length cap] 180 (0,0)):=iE;rw[Lib.cell_of_heap this];rfl
 have hSD:(Builtin.unsafeSliceData_ #[22] 225 #[.slice (some ⟨g,0,none⟩) l.length cap]).run Tryz.prog w.drew=.ok (.pointer (some ⟨g,0,none⟩)) w.drew :=
  Lib.run_unsafeSliceData_row _ _ _ _ _ _ (by omega)
 have hUS:(Builtin.unsafeString_ #[225,3] 9 #[.pointer (some ⟨g,0,none⟩),.int .i64 l.length]).run Tryz.prog w.drew=.ok (.string ⟨l.toArray⟩) (w.drew.freeze ⟨g,0,none⟩ l.length):=by
  refine Lib.run_unsafeString_row w.drew 225 3 9 5 LJ zg g cur.size (by have sR:w.drew.heap[g]?=some (.cells cur 5 (0,0)):=hg;simp[World.shape?,sR]) l h0 (by omega) (by unfold maxLen at fX;omega) ?_;intro j x hx;have:=bU.cells (g:=g) rfl j (.int .u8 x.toNat) (by simp[Lib.byteCells,hx]);exact this
 have IJ:Jl (.slice (some ⟨g,0,none⟩) l.length cap) w (w.drew.freeze ⟨g,0,none⟩ l.length):=by
  unfold World.freeze;rw[QD sQ];refine⟨rfl,rfl,rfl,by simp,λk hk aV=>?_⟩;simp only[XZ];rw[QD (λe=>aV (by rw[<-e];rfl))];rfl
 go_enter Tryz.func143,Tryz.ntmps143
 go_wp2
 go_region
 all_goals (go_wp2;go_ret;exact⟨rfl,IJ⟩)
theorem Afi(b:Nat)(p:Value)(w:World)(iE:w.heap[b]?=some (.cells #[p,.slice none 0 0] 180 (0,0))):
  Calls Tryz.prog 143 #[.pointer (some ⟨b,0,none⟩)] w λe w'=>e=.returned (.string ⟨#[]⟩)/\Jl (.slice none 0 0) w w':=by
 have hUS:=unsafeString_none;have c1:w.drew.cell? ⟨b,1,none⟩=some (.slice none 0 0):=by
  have:w.drew.heap[b]?=some (.cells #[p,.slice none 0 0] 180 (0,0)):=iE;rw[Lib.cell_of_heap this];rfl
 have hSD:(Builtin.unsafeSliceData_ #[22] 225 #[.slice none 0 0]).run Tryz.prog w.drew=.ok (.pointer none) w.drew:=rfl
 go_enter Tryz.func143,Tryz.ntmps143
 go_wp2
 go_region
 all_goals (go_wp2;go_ret;exact⟨rfl,Jl.drew _ w⟩)
theorem Abw(b g cap:Nat)(p:Value)(w:World)(lY:cap≠0)(iE:w.heap[b]?=some (.cells #[p,.slice (some ⟨g,0,none⟩) 0 cap] 180 (0,0))):
  Calls Tryz.prog 143 #[.pointer (some ⟨b,0,none⟩)] w λe w'=>e=.returned (.string ⟨#[]⟩)/\Jl (.slice (some ⟨g,0,none⟩) 0 cap) w w':=by
 have hUS:=unsafeString_none;have c1:w.drew.cell? ⟨b,1,none⟩=some (.slice (some ⟨g,0,none⟩) 0 cap):=by
  have:w.drew.heap[b]?=some (.cells #[p,.slice (some ⟨g,0,none⟩) 0 cap] 180 (0,0)):=iE;rw[Lib.cell_of_heap this];rfl
 have hSD:(Builtin.unsafeSliceData_ #[22] 225 #[.slice (some ⟨g,0,none⟩) 0 cap]).run Tryz.prog w.drew=.ok (.pointer (some ⟨g,0,none⟩)) w.drew :=
  Lib.run_unsafeSliceData_row _ _ _ _ _ _ lY
 clear lY
 go_enter Tryz.func143,Tryz.ntmps143
 go_wp2
 go_region
 all_goals (go_wp2;go_ret;exact⟨rfl,Jl.drew _ w⟩)
theorem W6(b g:Nat)(p:Value)(cur:Array Value)(w:World)(iE:w.heap[b]?=some (.cells #[p,.slice (some ⟨g,0,none⟩) 0 0] 180 (0,0)))(hg:w.heap[g]?=some (.cells cur 5 (0,0))):
  Calls Tryz.prog 143 #[.pointer (some ⟨b,0,none⟩)] w λe w'=>e=.returned (.string ⟨#[]⟩)/\Jl (.slice (some ⟨g,0,none⟩) 0 0) w w':=by
 have hUS:=unsafeString_none;have aA:b<w.heap.size:=by
  rcases ZS b w.heap.size with h'|h'
  .exact h'
  .simp[Array.getElem?_eq_none h']at iE
 have c1:w.drew.cell? ⟨b,1,none⟩=some (.slice (some ⟨g,0,none⟩) 0 0):=by
  have:w.drew.heap[b]?=some (.cells #[p,.slice (some ⟨g,0,none⟩) 0 0] 180 (0,0)):=iE;rw[Lib.cell_of_heap this];rfl
 have hSD:(Builtin.unsafeSliceData_ #[22] 225 #[.slice (some ⟨g,0,none⟩) 0 0]).run Tryz.prog w.drew=.ok (.pointer (some ⟨w.drew.heap.size,0,none⟩)) (w.drew.alloc (.view ⟨g,0,none⟩ 5)) :=
  Lib.run_unsafeSliceData_zero w.drew _ _ 5 LJ ⟨g,0,none⟩ 0 (5,cur.size) (by have sR:w.drew.heap[g]?=some (.cells cur 5 (0,0)):=hg;simp[World.shape?,sR])
 have c2:(w.drew.alloc (.view ⟨g,0,none⟩ 5)).cell? ⟨b,1,none⟩=some (.slice (some ⟨g,0,none⟩) 0 0):=by
  have:(w.drew.alloc (.view ⟨g,0,none⟩ 5)).heap[b]?=_:=(Lib.alloc_old w.drew _ b aA).trans iE;rw[Lib.cell_of_heap this];rfl
 have c3:(w.alloc (.view ⟨g,0,none⟩ 5)).drew.cell? ⟨b,1,none⟩=some (.slice (some ⟨g,0,none⟩) 0 0):=c2;have c0:w.cell? ⟨b,1,none⟩=some (.slice (some ⟨g,0,none⟩) 0 0):=c1;have hk:Jl (.slice (some ⟨g,0,none⟩) 0 0) w (w.alloc (.view ⟨g,0,none⟩ 5)).drew:=⟨rfl,rfl,rfl,by show w.heap.size<=(w.heap.push _).size;simp,λk hk _=>Lib.alloc_old w _ k hk⟩
 go_enter Tryz.func143,Tryz.ntmps143
 go_wp2
 go_region
 all_goals (go_wp2;go_ret;exact⟨rfl,hk⟩)
theorem Jl.b{v:Value}{b:Nat}{w w':World}(h:Jl v w w'):Ap8 b v .nilIface w w' :=
 ⟨h.os,h.tape,h.output,h.size,λk h1 _ h3=>h.block k h1 h3,λk hk=>by simp[Value.ownBlock]at hk⟩
theorem Afh(b:Nat)(p v:Value)(s:List UInt8)(w:World)(A:Ap7 w b p v s):
  Calls Tryz.prog 143 #[.pointer (some ⟨b,0,none⟩)] w λe w'=>e=.returned (.string (Sx.bytes s))/\Jl v w w':=by
 have bU:=A.own;have iE:=A.at_;rcases bU.2 with⟨rfl,h0⟩|⟨g,cap,cur,rfl,_,hg,qS,fX,cV,_⟩
 .obtain rfl:s=[]:=QQ h0
  exact Afi b p w iE
 .by_cases h0:s=[]
  .subst h0
   by_cases hc:cap=0
   .subst hc;exact W6 b g p cur w iE hg
   .exact Abw b g cap p w hc iE
  .exact Abv b g cap p cur s w h0 iE hg bU qS fX cV
def SJ:aD:=λ_ xs ls K=>∃(s:List UInt8),xs=[.ptr 0 0]/\ls=[.lZ 180 5 s]/\K (.str s) [.gone]
theorem Aji:Aw Tryz.prog gl 143 SJ:=by
 refine⟨⟨Tryz.f143,_,Tryz.func143,rfl,by kernel_rfl⟩,λxs ls K h=>?_⟩;obtain⟨s,rfl,rfl,h⟩:=h;refine⟨_,_,h,Sh (as1:=[]) λE b p v w bB A hr=>?_⟩;obtain rfl:bB=[]:=QQ (by have:=hr.1;simpa using this.symm);refine (Afh b p v s w A).mono ?_;rintro e w' ⟨rfl,k⟩;exact⟨_,.nilIface,rfl,λE=>.ro (.str rfl),k.b,rfl⟩
theorem ME:Tryz.prog.underlying 9=some .string:=by kernel_rfl
theorem zh:∃i,Tryz.prog.info? 5=some i/\i.zero=some (.int .u8 0)/\i.size=1/\i.bytes=1:=by
 obtain⟨i,hi,h⟩:=Option.map_eq_some_iff.1 LL;simp only[Prod.mk.injEq]at h;exact⟨i,hi,h.1,h.2.1,h.2.2⟩
theorem aq{n:Nat}(bU:w.ownsRow 0 5 1 v n xs)(s:ByteArray)(hb:n+s.size<=140737488355328):
  ∃v' w',(Builtin.append_ #[22,9] 22 #[v,.string s]).run Tryz.prog w=.ok v' w'/\w'.ownsRow 0 5 1 v' (n+s.size) (xs++Lib.strCells s)/\w.grownBy w' v.ownBlock/\(v'.ownBlock=v.ownBlock\/v'.ownBlock=some w.heap.size):=by
 obtain⟨i,hi,hz,cC,vJ⟩:=zh;have sV:n+s.size<=maxLen:=by unfold maxLen;omega
 obtain⟨v',w',hr,h2,h3,_⟩:=Lib.run_append_own_string (P:=Tryz.prog) w 0 22 9 22 5 i Wr ME hi hz cC vJ v n xs bU s sV hb (ZD _);refine⟨v',w',hr,h2,h3,?_⟩;have mQ:xs.length=n:=by simpa using bU.1
 rcases bU.2 with⟨rfl,rfl⟩|⟨g,cap,cur,rfl,hbg,hg,qS,fX,cV,bZ⟩
 .by_cases hm:s.size=0
  .have hf:=Lib.run_firstCells_string (P:=Tryz.prog) w 1 s
   rw[hm]at hf;simp[Builtin.append_,run_underlying Wr,run_underlying ME,sizeOf,typeInfo,hi,cC,Builtin.lenOf,hm,hf]at hr
   left;rw[<-hr.1]
  .have cP:=run_append_nil_string (P:=Tryz.prog) w 22 9 22 5 i (.int .u8 0) Wr ME hi hz s (by omega) (by unfold maxLen at sV;omega) (by rw[vJ];omega)
   rw[hr]at cP
   injection cP with e1 e2
   right;rw[e1];rfl
 .by_cases fD:n+s.size<=cap
  .have vG:cur.size=cap:=by simpa using cV
   have cP:=Lib.run_append_room_string (P:=Tryz.prog) w 22 9 22 5 i Wr ME hi cC g n cap cur hg s fD (by omega);rw[hr]at cP
   injection cP with e1 e2
   left;rw[e1];rfl
  .have holds:∀j u,xs[j]?=some u->w.cell? ((⟨g,0,none⟩:Addr).add j)=some u:=bU.cells (g:=g) rfl
   have cP:=Lib.run_append_grow_string (P:=Tryz.prog) w 22 9 22 5 i (.int .u8 0) Wr ME hi hz ⟨g,0,none⟩ n cap xs (by rw[cC];simpa using mQ) holds s (by omega) (by unfold maxLen at sV;omega) (by rw[vJ];exact growslice_fits (by omega) (by omega));rw[hr]at cP
   injection cP with e1 e2
   right;rw[e1];rfl
theorem X2{ops:Array Oper}{rest:List Oper}{o:Oper}{a:Act}{Q:Exit->Act->World->Prop}(kW:o.guard=none)(sl x:Operand)
  (ho:o.op=.call { callee:=.builtin .append,args:=#[sl,x],argTypes:=#[22,9] }) (hty:o.type=22)  {n:Nat}  (hs:a.eval sl=v) (bU:w.ownsRow 0 5 1 v n xs) (s:ByteArray) (hx:a.eval x=.string s) (hb:n+s.size<=140737488355328)
  (h:∀v' w',w'.ownsRow 0 5 1 v' (n+s.size) (xs++Lib.strCells s)->w.grownBy w' v.ownBlock->(v'.ownBlock=v.ownBlock\/v'.ownBlock=some w.heap.size)->wpList Tryz.prog ops Q rest (a.put o.dst v') w'):wpList Tryz.prog ops Q (o :: rest) a w:=by
 refine wpList_plain kW λK hK=>?_;obtain⟨v',w',hr,h2,h3,h4⟩:=aq bU s hb;unfold Oper.wp execOp;simp only[ho,hty,resolve,invoke,builtin,Sem.run_bind,Sem.run_pure,Result.andThen_ok,List.map_toArray,UE,List.map_nil,hs,hx,hr];exact hK _ _ (h v' w' h2 h3 h4)
theorem Sl(b:Nat)(p v:Value)(s t:List UInt8)(w:World)(iE:w.heap[b]?=some (.cells #[p,v] 180 (0,0)))(hp:p=.pointer none\/p=.pointer (some ⟨b,0,none⟩))(bU:w.ownsRow 0 5 1 v s.length (Lib.byteCells s))(aV:v.ownBlock≠some b)(hlen:s.length+t.length<=140737488355328):
  Calls Tryz.prog 142 #[.pointer (some ⟨b,0,none⟩),.string (Sx.bytes t)] w λe w'=>e=.returned (.tuple #[.int .i64 t.length,.nilIface])/\∃v',w'.heap[b]?=some (.cells #[.pointer (some ⟨b,0,none⟩),v'] 180 (0,0))/\w'.ownsRow 0 5 1 v' (s.length+t.length) (Lib.byteCells s++Lib.strCells (Sx.bytes t))/\v'.ownBlock≠some b/\Ap8 b v v' w w':=by
 have vq:(Sx.bytes t).size=t.length:=rfl
 go_enter Tryz.func142,Tryz.ntmps142
 go_wp2_with (go_at_call 196;refine (Xu b p v s _ iE hp bU aV).mono ?_)
 rintro e w1 ⟨rfl,gi,HH,k1,k2,k3,k4,k5⟩;have c0:w1.cell? ⟨b,0,none⟩=some (.pointer (some ⟨b,0,none⟩)):=by rw[Lib.cell_of_heap gi];rfl
 have c1:w1.cell? ⟨b,1,none⟩=some v:=by rw[Lib.cell_of_heap gi];rfl
 go_wp2_with (at_builtin;refine X2 (v:=v) (n:=s.length) (xs:=Lib.byteCells s) rfl _ _ rfl rfl rfl HH (Sx.bytes t) rfl (by rw[vq];exact hlen) ?_)
 intro v' w2 pb hg dN;have aA:b<w1.heap.size:=by
  rcases ZS b w1.heap.size with h'|h'
  .exact h'
  .simp[Array.getElem?_eq_none h']at gi
 have hold:∀k,k<w1.heap.size->some k≠v.ownBlock->w2.heap[k]?=w1.heap[k]?:=λk hk qQ=>hg.block k hk qQ;have aM:w1.heap.size<=w2.heap.size:=hg.size;have fG:w2.os=w1.os/\w2.tape=w1.tape/\w2.output=w1.output:=⟨hg.os,hg.tape,hg.output⟩;have qQ:v'.ownBlock≠some b:=by
  rcases dN with h|h
  .rw[h];exact aV
  .rw[h];intro e;simp at e;omega
 have eA:w2.heap[b]?=some (.cells #[.pointer (some ⟨b,0,none⟩),v] 180 (0,0)):=by rw[hold b aA (λe=>aV e.symm)];exact gi
 have d0:w2.cell? ⟨b,0,none⟩=some (.pointer (some ⟨b,0,none⟩)):=by rw[Lib.cell_of_heap eA];rfl
 have d1:w2.cell? ⟨b,1,none⟩=some v:=by rw[Lib.cell_of_heap eA];rfl
 have f1:w2.frozen? ⟨b,1,none⟩=false:=Lib.frozen_of_heap eA 1;have bV:∀k,v'.ownBlock=some k->v.ownBlock=some k\/w.heap.size<=k:=by
  intro k hk;rcases dN with h|h
  .left;rw[<-h];exact hk
  .right;rw[h]at hk;simp at hk;omega
 obtain⟨v2,iW⟩:∃v2,v2=v':=⟨_,rfl⟩;have pC:∃a c,v'=.slice a (s.length+t.length) c:=by
  rcases pb.2 with⟨h,h2⟩|⟨g,cap,cur,h,_⟩
  .have h2:s.length+t.length=0:=h2
   rw[h,h2];exact⟨_,_,rfl⟩
  .exact⟨_,_,h⟩
 obtain⟨ao,co,rfl⟩:=pC
 go_wp2
 go_ret2
 refine⟨by simp,_,by simp[World.setCell,XZ,eA],?_,qQ,⟨?_,?_,?_,by simp[World.setCell];omega,λk h1 h2 h3=>?_,bV⟩⟩
 .exact pb.kept (row:=some b) ⟨rfl,rfl,rfl,by simp[World.setCell],λk _ hk=>RowKit.Below.heap_setCell _ _ _ _ (λe=>hk (by simp[e]))⟩ (Or.inr qQ)
 .exact fG.1.trans k1
 .exact fG.2.1.trans k2
 .exact fG.2.2.trans k3
 .rw[RowKit.Below.heap_setCell _ _ _ _ (λe=>h2 (by simp[e])),hold k (by omega) h3]
  exact k5 k h2
def SI:aD:=λ_ xs ls K=>∃(s t:List UInt8),xs=[.ptr 0 0,.str t]/\ls=[.lZ 180 5 s]/\s.length+t.length<=140737488355328/\∀r n,r=s++t->n=(t.length:Int)->K (.tup [.int .i64 (.a n),.raw .nilIface]) [.lZ 180 5 r]
theorem Tu:Aw Tryz.prog gl 142 SI:=by
 refine⟨⟨Tryz.f142,_,Tryz.func142,rfl,by kernel_rfl⟩,λxs ls K h=>?_⟩;obtain⟨s,t,rfl,rfl,hs,h⟩:=h;refine⟨_,_,h _ _ rfl rfl,Sh λE b p v w bB A hr=>?_⟩;obtain⟨u,rfl,hu⟩:=Acb hr;rw[Jx hu];refine (Sl b p v s t w A.at_ A.pp A.own A.ne hs).mono ?_;rintro e w' ⟨rfl,v',k1,k2,k3,k4⟩;refine⟨_,v',rfl,λE=>?_,k4,rfl,rfl,_,.inr rfl,k1,?_,k3⟩
 .refine .tup rfl λi x y a b=>?_
  match i,a,b with
  |0,a,b=>cases a;cases b;exact .ro (.int rfl)
  |1,a,b=>cases a;cases b;exact .ro (.raw rfl)
 .have:Lib.byteCells (s++t)=Lib.byteCells s++Lib.strCells (Sx.bytes t):=by simp[Lib.byteCells,Lib.strCells,Sx.bytes]
  rw[this,QW];exact k2
set_option maxHeartbeats 16000000
def Yn(x:HF):List UInt8:=((x.name++[58,32])++x.value)++[13,10]
def Gs(l:List HF):List UInt8:=l.flatMap Yn++[13,10]
def Fs(l:List HF):List UInt8×Int:=if Bh l≠0 then ([],Bh l) else (Gs l,0)
theorem Pq:∀ {l:List HF} {n:Int},Dz l n=0->∀x∈l,x.name.length<=64/\x.value.length<=2000
 | [],_,_,x,hx=>by cases hx
 |y :: l,n,h,x,hx=>by
  unfold Dz at h
  split at h
  .cases h
  .rename_i hb
   split at h
   .cases h
   .rename_i hv
    rcases List.mem_cons.1 hx with rfl|hx
    .refine⟨?_,by omega⟩
     have hb:rq x=false:=by simpa using hb
     unfold rq at hb;simp only[XU,YJ]at hb;have:=hb.1;unfold Cc at this;simp only[QB,QN]at this;exact this.2.2
    .exact Pq h x hx
theorem G9(h:Bh l=0):∀x∈l,x.name.length<=64/\x.value.length<=2000:=by
 unfold Bh at h
 split at h
 .cases h
 .exact Pq h
def mD:aD:=λ_ xs ls K=>∃(l:List HF) (nl:Bool) (n:Int) (f:Nat->List SV),xs=[.sl (.a nl) (.a n) 2 f]/\ls=[]/\A3 f n l/\∀t e,(t,e)=Fs l->K (.tup [.str t,.int .i64 (.a e)]) []
structure PrJ(l:List HF)(k t:List UInt8)(i:Nat)(I:Int)(m:Nat):Prop where
 aZ:AtR l i I m
 k:k=t++Gs (l.drop i)
 len:t.length<=3000 * i
def prJ(l:List HF)(k:List UInt8)(nl:Bool)(n:Int)(f:Nat->List SV)(m:Nat)(vs:List (Option SV))(hp:List Hl):Prop :=
 ∃(t:List UInt8) (i:Nat) (I:Int),vs=[some (.ptr 0 0),some (.sl (.a nl) (.a n) 2 f),some (.int .i64 (.a n)),some (.int .i64 (.a I))]/\hp=[.lZ 180 5 t]/\PrJ l k t i I m
theorem Amv:Aw Tryz.prog gl 86 mD:=by
 refine Bd (gh:=[(4,[.lZ 5 5])]) mixed Be (Ab Wl (Ab Tu (Ab Aji Ai))) Tryz.func86 (by kernel_rfl) (by kernel_rfl) ?_;intro xs ls K h;unfold mD at h;obtain⟨l,nl,n,f,rfl,rfl,R,h⟩:=h;obtain⟨k,hk⟩:∃k,k=Fs l:=⟨_,rfl⟩;obtain⟨kt,ke⟩:=k;refine⟨_,_,h kt ke hk,λD hD=>?_⟩;clear h;unfold Fs at hk;obtain⟨J,hJ⟩:∃J,J=prJ l kt nl n f:=⟨_,rfl⟩;cbv;refine⟨l,_,_,f,rfl,rfl,by subst hD;exact R,λe he=>?_⟩;cbv;have rP:=G9 (l:=l);have yM:=Dl (l:=l);rw[<-he]at hk rP yM;clear he;refine br hD (λh=>?_) (λh=>?_)<;>cbv
 .have h1:e≠0:=by simpa using h
  rw[QE h1]at hk;simp only[Prod.mk.injEq]at hk;obtain⟨cT,bE⟩:=hk;subst cT bE;subst hD;exact Ce rfl rfl
 have h1:e=0:=by simpa using h
 rw[QD (by simp[h1])]at hk;simp only[Prod.mk.injEq]at hk;obtain⟨cT,bE⟩:=hk;have rP:=rP h1;have yM:=yM h1;clear h;refine⟨[5,13,14,15],J,⟨rfl,l.length,?_⟩,?_⟩
 .rw[hJ]
  subst hD;exact⟨[],0,0,rfl,rfl,AtR.zero R.len,cT,by simp⟩
 clear cT;intro m vs hp hj;rw[hJ]at hj;obtain⟨t,i,I,rfl,rfl,V⟩:=hj;cbv;refine br hD (λh=>?_) (λh=>?_)<;>cbv
 .have aA:=V.aZ.lt R.n (QS (p:=I<n) h)
  clear h;refine⟨V.aZ.mP hD R.n aA,λj hj=>?_⟩;obtain rfl:=V.aZ.j hD hj;clear hj;have e1:=R.f j aA;have fF:=rP (l.getD j default) (by rw[QC,QA aA];exact XQ aA);have aR:=V.k;have hlen:=V.len;rw[Pn (d:=default) aA]at aR;obtain⟨x,hx⟩:∃x,x=l.getD j default:=⟨_,rfl⟩;rw[<-hx]at e1 aR fF;obtain⟨a,b⟩:=x;simp only at fF;cbv;rw[e1];cbv;refine⟨⟨by simp only[QT,XV];omega⟩,λs1 cC=>?_⟩;cbv;have cC:s1=a++[58,32]:=cC.h;have l1:s1.length<=66:=by rw[cC];simp;omega
  refine⟨⟨by omega⟩,λs2 eE=>?_⟩;cbv;have eE:s2=s1++b:=eE.h;have l2:s2.length<=2066:=by rw[eE];simp;omega
  refine⟨⟨by simp only[QT,XV];omega⟩,λs3 kT=>?_⟩;cbv;have kT:s3=s2++[13,10]:=kT.h;have l3:s3.length<=2068:=by rw[kT];simp;omega
  have yB:s3=Yn ⟨a,b⟩:=by rw[kT,eE,cC];rfl
  clear cC eE kT;refine⟨t,s3,rfl,rfl,by omega,λr nn hr vA=>?_⟩;cbv;obtain⟨g1,g2⟩:=V.aZ.step hD aA;refine⟨_,g1,?_⟩;rw[hJ];unfold prJ;subst hD;refine⟨r,j+1,_,rfl,rfl,g2,?_,?_⟩
  .rw[aR,hr,yB];simp[Gs]
  .rw[hr,QW];omega
 .have hi:=V.aZ.eq R.n (QZ (p:=I<n) h)
  have aR:=V.k;have hlen:=V.len;rw[hi,ZR]at aR;clear h;refine⟨t,[13,10],rfl,rfl,by simp only[QT,XV];omega,λr nn hr vA=>?_⟩;cbv;have mH:r=kt:=by rw[hr,aR];rfl
  refine⟨r,rfl,rfl,?_⟩;cbv;rw[mH,bE];subst hD;exact Ce rfl rfl
set_option maxHeartbeats 4000000
def sA:List UInt8:=[32,72,84,84,80,47,49,46,49,13,10]
def Cy(r:Rq):List UInt8×Int :=
 if (Av r).2.2≠0 then ([],(Av r).2.2) else if (Fs (Av r).2.1).2≠0 then ([],(Fs (Av r).2.1).2) else
 (((((r.method++[32])++r.target)++sA)++(Fs (Av r).2.1).1)++r.body,0)
structure AG(r:Rq):Prop where
 method:Dq r.method=true
 org:(Xe r.target).2=0
 CI:(A9 r).2=0
 host:O7 r.host=true
 body:r.body.length<=65536
 fields:(Av r).2.1=(A9 r).1
 BE:1<=r.id
 BD:r.id<=1000000000
 part:(Av r).1=[]
theorem Gj(h:(Av r).2.2=0):AG r:=by
 have h0:=h;unfold Av at h
 split at h
 .cases h
 .rename_i g1
  split at h
  .cases h
  .rename_i g2
   split at h
   .cases h
   .rename_i g3
    split at h
    .rename_i g4;exact absurd h g4
    .rename_i g4
     split at h
     .cases h
     .rename_i g5
      split at h
      .rename_i g6;exact absurd h g6
      .rename_i g6
       split at h
       .cases h
       .rename_i g7
        split at h
        .cases h
        .rename_i g8
         refine⟨by simpa using g2,by simpa using g4,by simpa using g6,by simpa using g5,by omega,?_,by omega,by omega,?_⟩
         .unfold Av
          rw[QD g1,QD g2,QD g3,QD g4,QD g5,QD g6,QD g7,QD g8]
         .unfold Av
          rw[QD g1,QD g2,QD g3,QD g4,QD g5,QD g6,QD g7,QD g8]
theorem AG.mN(E:AG r):r.method.length<=16:=by
 have:=E.method;unfold Dq at this;simp only[QB,QN]at this;exact this.1
theorem Agh(h:∀x∈l,x.name.length<=64/\x.value.length<=2000):(Gs l).length<=3000 * l.length+2:=by
 have:(l.flatMap Yn).length<=3000 * l.length:=by
  induction l with
  |nil=>simp
  |cons x l ih =>
   have h1:=h x (QY ..);have h2:=ih λy hy=>h y (QX _ hy);simp only[List.flatMap_cons,QW,QT,Yn,XV];omega
 unfold Gs;simp only[QW,QT,XV];omega
theorem Us:(Fs l).1.length<=400000:=by
 unfold Fs
 split
 .simp
 .rename_i h
  have h:Bh l=0:=by simpa using h
  have h1:=Agh (G9 h);have h2:=Dl h;simp only;omega
def tS:aD:=λ_ xs ls K=>∃(r:Rq) (nl:Bool) (n:Int) (f:Nat->List SV),xs=[.agg [.int .i64 (.a r.id),.str r.method,.str r.target,.str r.host,.sl (.a nl) (.a n) 2 f,.str r.body]]/\ls=[]/\Rc r nl n f/\
 ∀t e,(t,e)=Cy r->K (.tup [.str t,.int .i64 (.a e)]) []
theorem Ak9:Aw Tryz.prog yU 90 tS:=by
 refine Bd (gh:=[]) mixed Be (Ab ji (Ab (Gt Amv) Ai)) Tryz.func90 (by kernel_rfl) (by kernel_rfl) ?_;intro xs ls K h;unfold tS at h;obtain⟨r,nl,n,f,rfl,rfl,R,h⟩:=h;obtain⟨k,hk⟩:∃k,k=Cy r:=⟨_,rfl⟩;obtain⟨kt,ke⟩:=k;refine⟨_,_,h kt ke hk,λD hD=>?_⟩;clear h;unfold Cy at hk;have hE:=Gj (r:=r);have hM:(Av r).2.2=0->r.method.length<=16:=λh=>(hE h).mN;have hT:(Av r).2.2=0->r.target.length<=500:=λh=>Acv (hE h).org;have hB:(Av r).2.2=0->r.body.length<=65536:=λh=>(hE h).body;clear hE;obtain⟨ck,pS⟩:∃w,w=Av r:=⟨_,rfl⟩;rw[<-pS]at hk hM hT hB;obtain⟨cp,cl,ce⟩:=ck;obtain⟨id,me,ta,ho,fs,bo⟩:=r;simp only at hk hM hT hB;cbv;refine⟨⟨id,me,ta,ho,fs,bo⟩,nl,n,f,by subst hD;rfl,rfl,R,λp l e uq n3 g3 hc R3 sO=>?_⟩;cbv;rw[<-pS]at hc;simp only[Prod.mk.injEq]at hc;obtain⟨cT,bE,gV⟩:=hc;subst cT bE gV;clear pS;refine br hD (λh=>?_) (λh=>?_)<;>cbv
 .have h1:e≠0:=by simpa using h
  rw[QE h1]at hk;simp only[Prod.mk.injEq]at hk;obtain⟨cT,bE⟩:=hk;subst cT bE;subst hD;exact Ce rfl rfl
 have h1:e=0:=by simpa using h
 rw[QD (by simp[h1])]at hk;have hM:=hM h1;have hT:=hT h1;have hB:=hB h1;clear h;refine⟨l,_,_,g3,rfl,rfl,by subst hD;exact R3,λt e2 ht=>?_⟩;cbv;have JI:=Us (l:=l);rw[<-ht]at hk JI;simp only at hk JI;clear ht;refine br hD (λh=>?_) (λh=>?_)<;>cbv
 .have h1:e2≠0:=by simpa using h
  rw[QE h1]at hk;simp only[Prod.mk.injEq]at hk;obtain⟨cT,bE⟩:=hk;subst cT bE;subst hD;exact Ce rfl rfl
 have h1:e2=0:=by simpa using h
 rw[QD (by simp[h1])]at hk;simp only[Prod.mk.injEq]at hk;obtain⟨cT,bE⟩:=hk;clear h;refine⟨⟨by simp only[QT,XV];omega⟩,λs1 cC=>?_⟩;cbv;have cC:s1=me++[32]:=cC.h;have l1:s1.length<=17:=by rw[cC];simp;omega
 refine⟨⟨by omega⟩,λs2 eE=>?_⟩;cbv;have eE:s2=s1++ta:=eE.h;have l2:s2.length<=517:=by rw[eE];simp;omega
 refine⟨⟨by simp only[QT,XV];omega⟩,λs3 kT=>?_⟩;cbv;have kT:s3=s2++sA:=kT.h;have l3:s3.length<=528:=by rw[kT,QW];have:sA.length=11:=rfl;omega
 refine⟨⟨by omega⟩,λs4 sI=>?_⟩;cbv;have sI:s4=s3++t:=sI.h;have l4:s4.length<=400528:=by rw[sI,QW];omega
 refine⟨⟨by omega⟩,λs5 wh=>?_⟩;cbv;have wh:s5=s4++bo:=wh.h;have:s5=kt:=by rw[wh,sI,kT,eE,cC,cT]
 rw[this,bE];subst hD;exact Ce rfl rfl
theorem Kn(p:UInt8->Bool):∀l:List UInt8,(l.dropWhile p).dropWhile p=l.dropWhile p
 | []=>rfl
 |c :: r=>by
  by_cases h:p c=true
  .rw[YQ h,Kn p r]
  .rw[ZH h,ZH h]
theorem dropWhile_nil(p:UInt8->Bool):∀l:List UInt8,l.dropWhile p=[]↔∀x∈l,p x=true
 | []=>by simp
 |c :: r=>by
  by_cases h:p c=true
  .rw[YQ h,dropWhile_nil p r]
   simp[h]
  .rw[ZH h]
   simp[h]
theorem Ajf{l cs:List UInt8}(h:Lib.trimS l cs=[]):∀c∈l,cs.contains c=true:=by
 have h:((l.reverse.dropWhile (λx=>cs.contains x)).reverse).dropWhile (λx=>cs.contains x)=[]:=h;rw[dropWhile_nil]at h;have h2:(l.reverse.dropWhile (λx=>cs.contains x)).dropWhile (λx=>cs.contains x)=[]:=by
  rw[dropWhile_nil];exact λx hx=>h x (List.mem_reverse.2 hx)
 rw[Kn,dropWhile_nil]at h2;exact λc hc=>h2 c (List.mem_reverse.2 hc)
set_option maxHeartbeats 8000000
structure uO(f:Nat->List SV)(n:Int)(nl:Bool)(l:List (List UInt8)):Prop where
 row:Bz f n l
 nl:nl=l.isEmpty
structure uP(f:Nat->List SV)(n:Int)(nl:Bool)(l:List HF):Prop where
 row:A3 f n l
 nl:nl=l.isEmpty
theorem Ma:A3 (λ_=>[]) 0 []:=⟨rfl,λi hi=>absurd hi (by simp),by simp,λi hi=>absurd hi (by simp)⟩
theorem uO.nil:uO (λ_=>[]) 0 true []:=⟨Bz.nil,rfl⟩
theorem uP.nil:uP (λ_=>[]) 0 true []:=⟨Ma,rfl⟩
theorem uP.more{f':Nat->List SV}{n':Int}{nK:Bool}{x:HF}(G:uP f n nl l)(hg:g 0=Dk x)(hs:x.small)(h:Ts f' n' n 1 f g)(hl:l.length<=100)(hb:nK=false):uP f' n' nK (l++[x]) :=
 ⟨G.row.app (A3.one hg hs) h (by simp only[QT,XV];omega),by rw[hb];simp⟩
theorem A3.tw(R:A3 f n l)(x:HF)(hx:x∈l):x.small:=by
 obtain⟨k,hk,e⟩:=List.mem_iff_getElem.1 hx;have:=R.small k hk
 rwa [QC,QA hk,XB,e]at this
theorem PJ{b:Bool}{l:List (List UInt8)}(G:uO f n b l)(G2:uO f2 n2 b2 l)(hx:x.den=b:=by rfl)(hy:y.den=n:=by rfl):fE (.sl x y 1 f) (.sl (.a b2) (.a n2) 1 f2):=by
 refine fE.sl (by rw[hx,G.nl,G2.nl.symm];rfl) (by rw[hy,G.row.n,G2.row.n.symm];rfl) λi hi=>?_;rw[hy]at hi;have:=G.row.n;rw[G.row.f i (by omega),G2.row.f i (by omega)]
theorem Anl{b:Bool}(G:uP f n b l)(G2:uP f2 n2 b2 l)(hx:x.den=b:=by rfl)(hy:y.den=n:=by rfl):fE (.sl x y 2 f) (.sl (.a b2) (.a n2) 2 f2):=by
 refine fE.sl (by rw[hx,G.nl,G2.nl.symm];rfl) (by rw[hy,G.row.n,G2.row.n.symm];rfl) λi hi=>?_;rw[hy]at hi;have:=G.row.n;rw[G.row.f i (by omega),G2.row.f i (by omega)]
set_option maxHeartbeats 4000000
instance:DecidableEq HF:=λa b=>decidable_of_iff (a.name=b.name/\a.value=b.value) (by cases a;cases b;simp)
instance:DecidableEq Rq:=λa b=>decidable_of_iff (a.id=b.id/\a.method=b.method/\a.target=b.target/\a.host=b.host/\a.fields=b.fields/\a.body=b.body) (by cases a;cases b;simp)
def nj:aD:=λ_ xs ls K=>∃(a b:List HF) (na nb:Bool) (A B:Int) (f g:Nat->List SV),xs=[.sl (.a na) (.a A) 2 f,.sl (.a nb) (.a B) 2 g]/\ls=[]/\A3 f A a/\A3 g B b/\∀r:Bool,r=decide (a=b)->K (.bool (.a r)) []
structure EqJ(k:Bool)(a b:List HF)(i:Nat)(I:Int)(m:Nat):Prop where
 at_:AtR a i I m
 k:k=decide (a.drop i=b.drop i)
def eqJ(k:Bool)(a b:List HF)(na nb:Bool)(A B:Int)(f g:Nat->List SV)(m:Nat)(vs:List (Option SV))(hp:List Hl):Prop :=
 ∃(i:Nat) (I:Int),vs=[some (.sl (.a na) (.a A) 2 f),some (.sl (.a nb) (.a B) 2 g),some (.int .i64 (.a I))]/\hp=[]/\EqJ k a b i I m
theorem MV{i:Nat}(h:i<l.length):l.drop i=l.getD i default :: l.drop (i+1):=by
 rw[QC,QA h,XB,XY h]
theorem Wb:Aw Tryz.prog gl 28 nj:=by
 refine Bd (gh:=[]) mixed Be Ai Tryz.func28 (by kernel_rfl) (by kernel_rfl) ?_;intro xs ls K h;unfold nj at h;obtain⟨a,b,na,nb,A,B,f,g,rfl,rfl,RA,RB,h⟩:=h;obtain⟨k,hk⟩:∃k,k=decide (a=b):=⟨_,rfl⟩;refine⟨_,_,h k hk,λD hD=>?_⟩;cbv;clear h;refine br hD (λh=>?_) (λh=>?_)<;>cbv
 .have h2:A≠B:=by simpa using h
  refine Al hD ?_;rw[hk];have h3:a≠b:=λe=>h2 (by rw[RA.n,RB.n,e]);show false=_
  symm
  exact UW h3
 have h2:A=B:=by simpa using h
 have aP9:a.length=b.length:=by have:=RA.n;have:=RB.n;omega
 clear h;obtain⟨J,hJ⟩:∃J,J=eqJ k a b na nb A B f g:=⟨_,rfl⟩;refine⟨[0,1,5],J,⟨rfl,a.length,?_⟩,?_⟩
 .rw[hJ]
  subst hD;exact⟨0,0,rfl,rfl,AtR.zero RA.len,hk⟩
 intro m vs dS hv;rw[hJ]at hv;unfold eqJ at hv;obtain⟨i,I,rfl,rfl,V⟩:=hv;clear hk;cbv;refine br hD (λh=>?_) (λh=>?_)<;>cbv
 .have aA:=V.at_.lt RA.n (QS (p:=I<A) h)
  clear h;have HL:i<b.length:=by omega
  have oJ:=V.at_.mP hD RA.n aA;have TJ:Sx.zX (D.i (.a I)) (D.i (.a B)):=by have:=V.at_.I;have:=RB.n;subst hD;exact⟨by show 0<=I;omega,by show I<B;omega⟩
  have aR:=V.k;rw[MV aA,MV HL]at aR;have e1:=RA.f i aA;have d1:=RB.f i HL;obtain⟨x,hx⟩:∃x,x=a.getD i default:=⟨_,rfl⟩;obtain⟨y,hy⟩:∃y,y=b.getD i default:=⟨_,rfl⟩;rw[<-hx]at e1 aR;rw[<-hy]at d1 aR;clear hx hy;obtain⟨x1,x2⟩:=x;obtain⟨y1,y2⟩:=y;have cM:=V.at_.step hD aA;refine⟨oJ,λj hj=>?_⟩;have hj:=V.at_.j hD hj;cbv;rw[hj,e1];cbv;refine⟨TJ,λj2 iZ=>?_⟩;have iZ:=V.at_.j hD iZ;cbv;rw[iZ,d1];cbv;refine br hD (λh=>?_) (λh=>?_)<;>cbv
  .have h:(!((x1==y1)&&(x2==y2)))=true:=h
   refine Al hD ?_;show false=k;rw[aR]
   symm
   apply UW;intro e
   injection e with e1 e2
   injection e1 with e3 e4
   rw[e3,e4]at h;simp at h
  .have h:(!((x1==y1)&&(x2==y2)))=false:=h
   simp only[YJ,QB,XI]at h;refine⟨_,cM.1,?_⟩;rw[hJ];unfold eqJ;subst hD;refine⟨i+1,_,rfl,rfl,⟨cM.2,?_⟩⟩;rw[aR,h.1,h.2];simp
 .have he:=V.at_.eq RA.n (QZ (p:=I<A) h)
  refine Al hD ?_;show true=k;rw[V.k,XM (by omega),XM (by omega)];rfl
def tI:aD:=λ_ xs ls K=>∃(a b:Rq) (na nb:Bool) (A B:Int) (f g:Nat->List SV),xs=[.agg [.int .i64 (.a a.id),.str a.method,.str a.target,.str a.host,.sl (.a na) (.a A) 2 f,.str a.body],.agg [.int .i64 (.a b.id),.str b.method,.str b.target,.str b.host,.sl (.a nb) (.a B) 2 g,.str b.body]]/\ls=[]/\A3 f A a.fields/\A3 g B b.fields/\∀r:Bool,r=decide (a=b)->K (.bool (.a r)) []
theorem Amd:Aw Tryz.prog gl 95 tI:=by
 refine Bd (gh:=[]) mixed Be (Ab Wb Ai) Tryz.func95 (by kernel_rfl) (by kernel_rfl) ?_;intro xs ls K h;unfold tI at h;obtain⟨a,b,na,nb,A,B,f,g,rfl,rfl,RA,RB,h⟩:=h;obtain⟨k,hk⟩:∃k,k=decide (a=b):=⟨_,rfl⟩;refine⟨_,_,h k hk,λD hD=>?_⟩;obtain⟨i1,m1,t1,h1,l1,b1⟩:=a;obtain⟨i2,m2,t2,h2,l2,b2⟩:=b;cbv;clear h;refine⟨l1,l2,na,nb,A,B,f,g,by subst hD;rfl,rfl,RA,RB,λr hr=>?_⟩;cbv;refine Al hD ?_;show ((((((i1==i2)&&(m1==m2))&&(t1==t2))&&(h1==h2))&&(b1==b2))&&r)=k;rw[hk,hr,ZC];simp only[QB,XI,QN,Rq.mk.injEq]
 grind
open Go Go.Sx Go.RowKit
set_option maxHeartbeats 16000000
def NQ:Rq:=⟨0,[],[],[],[],[]⟩
set_option maxHeartbeats 400000
set_option maxHeartbeats 4000000
def DP:List (Nat×TI):=[
 (3,⟨.int .i64,1,8,[.int .i64 (.l 0)]⟩),
 (4,⟨.bool,1,1,[.bool (.l false)]⟩),
 (9,⟨.string,1,16,[.str []]⟩),
 (28,⟨.int .i64,1,8,[.int .i64 (.l 0)]⟩),
 (2,⟨.int .i64,1,8,[.int .i64 (.l 0)]⟩),
 (57,⟨.int .i64,1,8,[.int .i64 (.l 0)]⟩),
 (23,⟨.slice 100,1,24,[(.sl (.l true) (.l 0) 2 λ_=>[])]⟩),
 (100,⟨.struct [(0,9),(1,9)],2,32,[.str [],.str []]⟩),
 (55,⟨.struct [(0,2),(1,9),(2,9),(3,9),(4,23),(5,9)],6,96,[.int .i64 (.l 0),.str [],.str [],.str [],(.sl (.l true) (.l 0) 2 λ_=>[]),.str []]⟩),
 (36,⟨.struct [(0,3),(1,9),(2,9),(3,3),(4,23)],5,72,[.int .i64 (.l 0),.str [],.str [],.int .i64 (.l 0),(.sl (.l true) (.l 0) 2 λ_=>[])]⟩),
 (25,⟨.struct [(0,3),(1,3),(2,9),(3,23)],4,56,[.int .i64 (.l 0),.int .i64 (.l 0),.str [],(.sl (.l true) (.l 0) 2 λ_=>[])]⟩),
 (38,⟨.struct [(0,9),(1,3),(2,3),(3,9),(4,25),(8,3),(9,9),(10,3),(11,36)],16,208,[.str [],.int .i64 (.l 0),.int .i64 (.l 0),.str [],.int .i64 (.l 0),.int .i64 (.l 0),.str [],(.sl (.l true) (.l 0) 2 λ_=>[]),.int .i64 (.l 0),.str [],.int .i64 (.l 0),.int .i64 (.l 0),.str [],.str [],.int .i64 (.l 0),(.sl (.l true) (.l 0) 2 λ_=>[])]⟩),
 (59,⟨.struct [(0,55),(6,9),(7,3),(8,38),(24,3),(25,3),(26,3),(27,4),(28,57)],29,368,[.int .i64 (.l 0),.str [],.str [],.str [],(.sl (.l true) (.l 0) 2 λ_=>[]),.str [],.str [],.int .i64 (.l 0),.str [],.int .i64 (.l 0),.int .i64 (.l 0),.str [],.int .i64 (.l 0),.int .i64 (.l 0),.str [],(.sl (.l true) (.l 0) 2 λ_=>[]),.int .i64 (.l 0),.str [],.int .i64 (.l 0),.int .i64 (.l 0),.str [],.str [],.int .i64 (.l 0),(.sl (.l true) (.l 0) 2 λ_=>[]),.int .i64 (.l 0),.int .i64 (.l 0),.int .i64 (.l 0),.bool (.l false),.int .i64 (.l 0)]⟩)]
theorem ah:Sx.nc Tryz.prog DP=true:=by kernel_rfl
theorem Fy{fC:List (Nat×aD)}{gl:List (Nat×SV)}{gh:List (Nat×List Gh)}{its:List (Nat×(aD->aD))}{yl:List aD}:Az Tryz.prog ⟨dn,DP,fC,gl,eqs,gh,its,yl⟩:=by
 refine⟨rfl,ah,λt ht=>?_⟩;simp only[eqs,ZO,List.mem_nil_iff,or_false]at ht;rcases ht with rfl
 all_goals
  refine⟨?_,?_,?_⟩
  .kernel_rfl
  .kernel_rfl
  .decide
def DA(a b:Int):Bool:=((decide (64<=a)&&decide (a<=65536))&&decide (0<=b))&&decide (b<=65536)
def tQ:aD:=λ_ xs ls K=>∃(a b:Int),xs=[.int .i64 (.a a),.int .i64 (.a b)]/\ls=[]/\∀r,r=DA a b->K (.bool (.a r)) []
theorem u9:Aw Tryz.prog gl 91 tQ:=by
 refine Bd (gh:=[]) mixed Fy Ai Tryz.func91 (by kernel_rfl) (by kernel_rfl) ?_;intro xs ls K h;unfold tQ at h;obtain⟨a,b,rfl,rfl,h⟩:=h;obtain⟨k,hk⟩:∃k,k=DA a b:=⟨_,rfl⟩;refine⟨_,_,h k hk,λD hD=>?_⟩;clear h;cbv;exact Al hD (by rw[hk];rfl)
theorem Akj:Aw Tryz.prog gl 93 tQ:=by
 refine Bd (gh:=[]) mixed Fy Ai Tryz.func93 (by kernel_rfl) (by kernel_rfl) ?_;intro xs ls K h;unfold tQ at h;obtain⟨a,b,rfl,rfl,h⟩:=h;obtain⟨k,hk⟩:∃k,k=DA a b:=⟨_,rfl⟩;refine⟨_,_,h k hk,λD hD=>?_⟩;clear h;cbv;exact Al hD (by rw[hk];rfl)
structure RsC where
 m:List UInt8
 ph:Int
 inf:Int
 ln:List UInt8
 mi:Int
 st:Int
 re:List UInt8
 fb:Bool
 fl:Int
 ff:Nat->List SV
 fr:Int
 bo:List UInt8
 lf:Int
 cp:Int
 cl:List UInt8
 cd:List UInt8
 cf:Int
 cb:Bool
 ct:Int
 ctf:Nat->List SV
def NP(x:RsC):SV:=.agg [.str x.m,.int .i64 (.a x.ph),.int .i64 (.a x.inf),.str x.ln,.int .i64 (.a x.mi),.int .i64 (.a x.st),.str x.re,.sl (.a x.fb) (.a x.fl) 2 x.ff,.int .i64 (.a x.fr),.str x.bo,.int .i64 (.a x.lf),
  .int .i64 (.a x.cp),.str x.cl,.str x.cd,.int .i64 (.a x.cf),.sl (.a x.cb) (.a x.ct) 2 x.ctf]
def Zv(m:List UInt8):RsC:=⟨m,0,0,[],0,0,[],true,0,λ_=>[],0,[],0,0,[],[],0,true,0,λ_=>[]⟩
def mC:aD:=λ_ xs ls K=>∃(m:List UInt8),xs=[.str m]/\ls=[]/\m.length<=9223372036854775807/\
 ∀y e,y=(if Cc m then Zv m else Zv [])->e=(if Cc m then 0 else 2)->K (.tup [NP y,.int .i64 (.a e)]) []
theorem Al8:Aw Tryz.prog gl 22 mC:=by
 refine Bd (gh:=[]) mixed Fy (Ab N9 Ai) Tryz.func22 (by kernel_rfl) (by kernel_rfl) ?_;intro xs ls K h;unfold mC at h;obtain⟨m,rfl,rfl,hm,h⟩:=h;obtain⟨tk,tZ⟩:∃tk,tk=Cc m:=⟨_,rfl⟩;obtain⟨y,hy⟩:∃y,y=(if tk then Zv m else Zv []):=⟨_,rfl⟩;obtain⟨e,he⟩:∃e:Int,e=(if tk then 0 else 2):=⟨_,rfl⟩;have h:=h y e (by rw[<-tZ];exact hy) (by rw[<-tZ];exact he);refine⟨_,_,h,λD hD=>?_⟩;clear h;cbv;refine⟨m,rfl,rfl,hm,λx hx=>?_⟩;cbv;obtain rfl:x=tk:=hx.trans tZ.symm;refine br hD (λhb=>?_) (λhb=>?_)<;>cbv
 .have hb:(!x)=true:=by subst hD;exact hb
  rw[QD (by simpa using hb)]at hy he;subst hy he;subst hD;exact Fb (.tup (.cons (fE.refl _) (.cons (Cs rfl) .nil)))
 .have hb:(!x)=false:=by subst hD;exact hb
  rw[QE (by simpa using hb)]at hy he;subst hy he;subst hD;exact Fb (.tup (.cons (fE.refl _) (.cons (Cs rfl) .nil)))
def pW:aD:=λ_ xs ls K=>xs=[.agg [.int .i64 (.a 0),.int .i64 (.a 0),.str [],.sl (.a true) (.a 0) 2 λ_=>[]],.agg [.int .i64 (.a 0),.int .i64 (.a 0),.str [],.sl (.a true) (.a 0) 2 λ_=>[]]]/\ls=[]/\K (.bool (.a true)) []
theorem Ajs:Aw Tryz.prog gl 21 pW:=by
 refine Bd (gh:=[]) mixed Fy (Ab Wb Ai) Tryz.func21 (by kernel_rfl) (by kernel_rfl) ?_;intro xs ls K h;unfold pW at h;obtain⟨rfl,rfl,h⟩:=h;refine⟨_,_,h,λD hD=>?_⟩;cbv;refine⟨[],[],_,_,_,_,λ_=>[],λ_=>[],rfl,rfl,by subst hD;exact Ma,by subst hD;exact Ma,λz hz=>?_⟩;cbv;refine Al hD ?_;rw[hz];rfl
def pX:aD:=λ_ xs ls K=>xs=[.agg [.int .i64 (.a 0),.str [],.str [],.int .i64 (.a 0),.sl (.a true) (.a 0) 2 λ_=>[]],.agg [.int .i64 (.a 0),.str [],.str [],.int .i64 (.a 0),.sl (.a true) (.a 0) 2 λ_=>[]]]/\ls=[]/\K (.bool (.a true)) []
theorem Ajt:Aw Tryz.prog gl 81 pX:=by
 refine Bd (gh:=[]) mixed Fy (Ab Wb Ai) Tryz.func81 (by kernel_rfl) (by kernel_rfl) ?_;intro xs ls K h;unfold pX at h;obtain⟨rfl,rfl,h⟩:=h;refine⟨_,_,h,λD hD=>?_⟩;cbv;refine⟨[],[],_,_,_,_,λ_=>[],λ_=>[],rfl,rfl,by subst hD;exact Ma,by subst hD;exact Ma,λz hz=>?_⟩;cbv;refine Al hD ?_;rw[hz];rfl
def tK:aD:=λ_ xs ls K=>∃(m:List UInt8),xs=[NP (Zv m),NP (Zv m)]/\ls=[]/\K (.bool (.a true)) []
theorem Amf:Aw Tryz.prog gl 26 tK:=by
 refine Bd (gh:=[]) mixed Fy (Ab Ajs (Ab Ajt Ai)) Tryz.func26 (by kernel_rfl) (by kernel_rfl) ?_;intro xs ls K h;unfold tK at h;obtain⟨m,rfl,rfl,h⟩:=h;refine⟨_,_,h,λD hD=>?_⟩;clear h;unfold NP Zv;cbv;refine⟨by subst hD;rfl,by subst hD;rfl,?_⟩;refine Al hD ?_;show ((((((((m==m)&&((0:Int)==0))&&((0:Int)==0))&&(([]:List UInt8)==[]))&&true)&&((0:Int)==0))&&(([]:List UInt8)==[]))&&((0:Int)==0)&&true)=true;simp
theorem Ajl:Aw Tryz.prog gl 94 mC:=by
 refine Bd (gh:=[]) mixed Fy (Ab H9 Ai) Tryz.func94 (by kernel_rfl) (by kernel_rfl) ?_;intro xs ls K h;unfold mC at h;obtain⟨m,rfl,rfl,hm,h⟩:=h;obtain⟨tk,tZ⟩:∃tk,tk=Cc m:=⟨_,rfl⟩;obtain⟨y,hy⟩:∃y,y=(if tk then Zv m else Zv []):=⟨_,rfl⟩;obtain⟨e,he⟩:∃e:Int,e=(if tk then 0 else 2):=⟨_,rfl⟩;have h:=h y e (by rw[<-tZ];exact hy) (by rw[<-tZ];exact he);refine⟨_,_,h,λD hD=>?_⟩;clear h;cbv;refine⟨m,rfl,rfl,hm,λx hx=>?_⟩;cbv;obtain rfl:x=tk:=by rw[hx,tZ,Oa]
 refine br hD (λhb=>?_) (λhb=>?_)<;>cbv
 .have hb:(!x)=true:=by subst hD;exact hb
  rw[QD (by simpa using hb)]at hy he;subst hy he;subst hD;exact Fb (.tup (.cons (fE.refl _) (.cons (Cs rfl) .nil)))
 .have hb:(!x)=false:=by subst hD;exact hb
  rw[QE (by simpa using hb)]at hy he;subst hy he;subst hD;exact Fb (.tup (.cons (fE.refl _) (.cons (Cs rfl) .nil)))
end Go.Proofs.YtdoogdbjiijifaaGreatDoor
