/- Lemmas of the proof; no conditions. -/
import Derived.Lib.ItoaLen
import Derived.Test.YtdoogdbjiijifaaGreatDoorE9Pas
namespace Go.Proofs.YtdoogdbjiijifaaGreatDoor
open Go Go.Sx
set_option maxRecDepth 100000
set_option maxHeartbeats 8000000
def M7(l:List HF)(i:Nat):List SV:=match l[i]? with
 |some x=>D3 x
 |none=>[]
variable {l a:List HF}{i c m e:Nat}{I n':Int}{f f' g:Nat->List SV}{D:Dn}{x y:ST}{s t:List UInt8}
theorem Anj(h:i<l.length):M7 l i=D3 (l.getD i default):=by
 unfold M7;rw[QB h,QD,QB h];rfl
theorem A0.row(h:l.length<=9223372036854775807)(hs:∀i,i<l.length->(l.getD i default).small):A0 (M7 l) l.length l:=⟨rfl,λ_ hi=>Anj hi,h,hs⟩
def sB:aB:=λ_ xs ls K=>∃(l:List HF) (nl:Bool) (n:Int) (f:Nat->List SV),xs=[.sl (.a nl) (.a n) 2 f]/\ls=[]/\A0 f n l/\l.length<=100000/\(nl=true->l=[])/\
 ∀g n',A0 g n' l->K (.bV (.a nl) (.a n') 0) [.own 100 (.a n') 2 true g]
theorem Aob:Ap Tryz.prog gl 82 sB:=by
 refine Bq (gh:=[(2,[.own 2 100]),(3,[]),(999985,[])]) mixed Ck Ae Tryz.func82 (by kernel_rfl) (by kernel_rfl) ?_;intro xs ls K h;unfold sB at h;obtain⟨l,nl,n,f,rfl,rfl,R,hl,hn,h⟩:=h;obtain⟨g,hg⟩:∃g,g=M7 l:=⟨_,rfl⟩;obtain⟨n0,oR⟩:∃n0:Int,n0=l.length:=⟨_,rfl⟩;have R0:A0 g n0 l:=by rw[hg,oR];exact A0.row R.len R.small
 refine⟨_,_,h g n0 R0,λD hD=>?_⟩;clear h oR hg;cbv;refine br hD (λh=>?_) (λh=>?_)<;>cbv
 .have h2:nl=true:=h
  have h3:=hn h2;subst h2 h3;subst hD;have oR:n0=0:=R0.n;subst oR;exact SD (X9 rfl rfl) rfl λi hi=>absurd hi (by show ¬((i:Int)<0);omega)
 .have h2:nl=false:=h
  subst h2;intro f0 h0;clear h0;cbv;refine⟨?_,λf1 n1 hm=>?_⟩
  .subst hD;exact⟨rfl,by have:=R.n;show ((0:Int)+n) * 32<=_;omega,by have:=R.n;show (0:Int)+n<=_;omega⟩
  cbv;have e1:n1=n0:=by subst hD;have:=R.n;have:=R0.n;have h5:n1=0+n:=hm.len;omega
  have e2:∀i,i<l.length->f1 i=g i:=by
   intro i hi;rw[hm.hi i i (by subst hD;show (i:Int)=0+i;omega) (by subst hD;have:=R.n;show (i:Int)<n;omega),R.f i hi,R0.f i hi]
  clear hm;subst hD;refine SD (X9 rfl ?_) ?_ λi hi=>e2 i (by have:=R0.n;have hi:(i:Int)<n1:=hi;omega)
  .exact e1
  .exact e1
def ar:aB:=λ_ xs ls K=>∃(a b:List UInt8) (F:List UInt8->Bool),xs=[.agg [.str a,.str b],.ptr 0 0]/\ls=[.aF 314 [.bQ 1],.dB F]/\a.length<=9223372036854775807/\
 ∀r,r=F (bH a)->K (.bool (.a r)) [.aF 314 [.bQ 1],.dB F]
theorem An4:Ap Tryz.prog gl 309 ar:=by
 refine Bu (gh:=[]) mixed Ck (Aa Kp Ae) Tryz.func309 (by kernel_rfl) (by kernel_rfl) ?_;intro xs ls K h;unfold ar at h;obtain⟨a,b,F,rfl,rfl,ha,h⟩:=h;refine⟨_,_,h _ rfl,λD hD=>?_⟩;clear h;obtain⟨k,hk⟩:∃k,k=F (bH a):=⟨_,rfl⟩;rw[<-hk];cbv;refine⟨a,rfl,rfl,ha,λt ht=>?_⟩;have ht:t=bH a:=ht;cbv;rw[ht,<-hk];subst hD;exact By rfl rfl
def Rv(F:List UInt8->Bool)(x:HF):Bool:=!F (bH x.name)
def Vd(p:HF->Bool):List HF->Int->Int
 | [],_=>-1
 |x :: l,i=>if p x then i else Vd p l (i+1)
def Afv(F:List UInt8->Bool)(l:List HF):Int:=Vd (λx=>F (bH x.name)) l 0
def zW:aB:=λ_ xs ls K=>∃(l:List HF) (F:List UInt8->Bool) (nl:Bool) (n:Int) (f:Nat->List SV),xs=[.bV (.a nl) (.a n) 0,.fJ 309 [.ptr 1 0]]/\ls=[.own 100 (.a n) 2 true f,.aF 314 [.bQ 2],.dB F]/\A0 f n l/\
 ∀r,r=Afv F l->K (.int .i64 (.a r)) [.own 100 (.a n) 2 true f,.aF 314 [.bQ 2],.dB F]
structure IxJ(k:Int)(F:List UInt8->Bool)(l:List HF)(i:Nat)(I:Int)(m:Nat):Prop where
 cG:AtR l i I m
 k:k=Vd (λx=>F (bH x.name)) (l.drop i) I
def ixJ(k:Int)(F:List UInt8->Bool)(l:List HF)(nl:Bool)(n:Int)(f:Nat->List SV)(m:Nat)(vs:List (Option SV))(hp:List Hl):Prop :=
 ∃(i:Nat) (I:Int),vs=[some (.bV (.a nl) (.a n) 0),some (.fJ 309 [.ptr 1 0]),some (.int .i64 (.a n)),some (.int .i64 (.a I))]/\hp=[.own 100 (.a n) 2 true f,.aF 314 [.bQ 2],.dB F]/\IxJ k F l i I m
theorem ma:Ap Tryz.prog gl 246 zW:=by
 refine Bu (gh:=[]) mixed Ck (Al An4 Ae) Tryz.func246 (by kernel_rfl) (by kernel_rfl) ?_;intro xs ls K h;unfold zW at h;obtain⟨l,F,nl,n,f,rfl,rfl,R,h⟩:=h;obtain⟨k,hk⟩:∃k,k=Afv F l:=⟨_,rfl⟩;refine⟨_,_,h k hk,λD hD=>?_⟩;clear h;obtain⟨J,hJ⟩:∃J,J=ixJ k F l nl n f:=⟨_,rfl⟩;cbv;refine⟨[0,1,7,8],J,⟨rfl,l.length,?_⟩,?_⟩
 .rw[hJ]
  subst hD;exact⟨0,0,rfl,rfl,AtR.zero R.len,hk⟩
 intro m vs hp hj;rw[hJ]at hj;obtain⟨i,I,rfl,rfl,V⟩:=hj;clear hk;cbv;refine br hD (λh=>?_) (λh=>?_)<;>cbv
 .have aC:=V.cG.lt R.n (QT (p:=I<n) h)
  clear h;refine⟨⟨by subst hD;rfl⟩,V.cG.lY hD R.n aC,λj hj=>?_⟩;obtain rfl:=V.cG.j hD hj;clear hj;have e1:=R.f j aC;have eC:=R.small j aC;have aY:=V.k;rw[Hg (d:=default) aC]at aY;obtain⟨x,hx⟩:∃x,x=l.getD j default:=⟨_,rfl⟩;rw[<-hx]at e1 aY eC;obtain⟨a,b⟩:=x;cbv;rw[e1];cbv;refine⟨⟨by subst hD;rfl⟩,⟨by subst hD;have:=R.n;show (j:Int)<n;omega⟩,?_⟩;refine⟨a,b,F,?_,?_,eC.1,λt ht=>?_⟩
  .rfl
  .rfl
  cbv;refine br hD (λh=>?_) (λh=>?_)<;>cbv
  .have h3:F (bH a)=true:=by rw[<-ht];simpa using h
   subst hD;rw[aY,Vd,QC h3];exact By rfl rfl
  .have h3:F (bH a)=false:=by rw[<-ht];simpa using h
   clear h;obtain⟨g1,g2⟩:=V.cG.step hD aC;refine⟨_,g1,?_⟩;rw[hJ];unfold ixJ;subst hD;refine⟨j+1,_,rfl,rfl,g2,?_⟩;rw[aY,Vd,QA (by rw[h3];simp)];have h6:=g2.I;have h7:=V.cG.I;rw[h6,h7];rfl
 .have hi:=V.cG.eq R.n (XA (p:=I<n) h)
  have aY:=V.k;rw[hi,XR]at aY;clear h;subst hD;rw[aY];exact By rfl rfl
def Fj(F:List UInt8->Bool)(l:List HF):List HF:=l.filter (Rv F)
def au:aB:=λ_ xs ls K=>∃(l:List HF) (F:List UInt8->Bool) (nl:Bool) (n:Int) (f:Nat->List SV),xs=[.bV (.a nl) (.a n) 0,.fJ 309 [.ptr 1 0]]/\ls=[.own 100 (.a n) 2 true f,.aF 314 [.bQ 2],.dB F]/\A0 f n l/\
 ∀g n',A0 g n' (Fj F l)->K (.sl (.a nl) (.a n') 2 g) [.gone,.aF 314 [.bQ 2],.dB F]
structure ak8(F:List UInt8->Bool)(l:List HF)(f:Nat->List SV)(j:Nat)(I J:Int)(m:Nat):Prop where
 cG:AtR l j J m
 I:I=((Fj F (l.take j)).length:Int)
 row:∀k,k<(Fj F (l.take j)).length->f k=D3 ((Fj F (l.take j)).getD k default)
 rest:∀k,j<=k->k<l.length->f k=D3 (l.getD k default)
 iu:∀k,k<l.length->∃x,f k=D3 x
 lt:(Fj F (l.take j)).length<j
def AQ(F:List UInt8->Bool)(l:List HF)(nl:Bool)(n:Int)(m:Nat)(vs:List (Option SV))(hp:List Hl):Prop :=
 ∃(j:Nat) (I J:Int) (f:Nat->List SV),vs=[some (.bV (.a nl) (.a n) 0),some (.fJ 309 [.ptr 1 0]),some (.int .i64 (.a I)),some (.int .i64 (.a J))]/\hp=[.own 100 (.a n) 2 true f,.aF 314 [.bQ 2],.dB F]/\ak8 F l f j I J m
theorem U8(F:List UInt8->Bool)(l:List HF){j:Nat}(h:j<l.length):Fj F (l.take (j+1))=Fj F (l.take j)++(if Rv F (l.getD j default) then [l.getD j default] else []):=by
 unfold Fj;rw[List.take_succ_eq_append_getElem h,List.filter_append,QD,QB h];congr 1;simp only[XD,UQ,List.filter_nil]
theorem Yh{p:HF->Bool}:∀ {l:List HF} {i:Int},0<=i->Vd p l i=-1->l.filter (λx=>!p x)=l
 | [],_,_,_=>rfl
 |x :: l,i,hi,h=>by
  unfold Vd at h
  split at h
  .omega
  .rename_i hp
   rw[UQ,QC (by simpa using hp),Yh (by omega) h]
theorem Yg{p:HF->Bool}:∀ {l:List HF} {i:Int},0<=i->Vd p l i≠-1->∃j:Nat,Vd p l i=i+j/\j<l.length/\p (l.getD j default)=true/\(l.take j).filter (λx=>!p x)=l.take j
 | [],_,_,h=>absurd rfl h
 |x :: l,i,hi,h=>by
  unfold Vd at h ⊢
  split at h
  .rename_i hp
   exact⟨0,by rw[QC hp];omega,by simp,by simpa using hp,by simp⟩
  .rename_i hp
   rw[QA hp];obtain⟨j,h1,h2,h3,h4⟩:=Yg (by omega) h;refine⟨j+1,by rw[h1];omega,by simp;omega,by simpa using h3,?_⟩;rw[YE,UQ,QC (by simpa using hp),h4]
theorem Mo(F:List UInt8->Bool)(l:List HF):(Fj F l).length<=l.length:=YV _ _
theorem L0{F:List UInt8->Bool}(h:∀i,i<l.length->(l.getD i default).small):∀i,i<(Fj F l).length->((Fj F l).getD i default).small:=by
 intro i hi;have hm:(Fj F l).getD i default∈l:=by
  rw[QD,QB hi];exact (List.mem_filter.1 (XO hi)).1
 obtain⟨k,hk,e⟩:=List.mem_iff_getElem.1 hm;have:=h k hk
 rwa [QD,QB hk,XD,e]at this
theorem oy:Ap Tryz.prog gl 308 au:=by
 refine Bu (gh:=[(3,[.share 4])]) mixed Ck (Al ma (Al An4 Ae)) Tryz.func308 (by kernel_rfl) (by kernel_rfl) ?_;intro xs ls K h;unfold au at h;obtain⟨l,F,nl,n,f,rfl,rfl,R,h⟩:=h;obtain⟨l2,iU⟩:∃l2,l2=Fj F l:=⟨_,rfl⟩;obtain⟨g,hg⟩:∃g,g=M7 l2:=⟨_,rfl⟩;obtain⟨n2,iT⟩:∃n2:Int,n2=l2.length:=⟨_,rfl⟩;have R2:A0 g n2 l2:=by
  rw[hg,iT];refine A0.row ?_ ?_
  .have:=Mo F l;have:=R.len;rw[iU];omega
  .rw[iU];exact L0 R.small
 refine⟨_,_,h g n2 (by rw[<-iU];exact R2),λD hD=>?_⟩;clear h iT hg;obtain⟨J,hJ⟩:∃J,J=AQ F l nl n:=⟨_,rfl⟩;cbv;refine⟨l,F,nl,n,f,?_,?_,R,λi hi=>?_⟩
 .subst hD;rfl
 .subst hD;rfl
 cbv;refine br hD (λh=>?_) (λh=>?_)<;>cbv
 .have h2:i=-1:=by simpa using h
  clear h;have h3:Fj F l=l:=Yh (ZE 0) (show Afv F l=-1 by rw[<-hi];exact h2);rw[h3]at iU;subst iU;refine⟨⟨by subst hD;rfl⟩,?_⟩;subst hD;refine⟨aM.sl rfl ?_ λk hk=>?_,cL.refl _,QK _⟩
  .show n=n2;rw[R.n,R2.n]
  .have hk:(k:Int)<n:=hk
   have:=R.n;rw[R.f k (by omega),R2.f k (by omega)]
 have h2:i≠-1:=by simpa using h
 clear h;obtain⟨i0,h3,h4,h5,h6⟩:=Yg (ZE 0) (by rw[hi]at h2;exact h2);have h3:i=(i0:Int):=by rw[hi];show Vd _ l 0=_;rw[h3];omega
 have fD:Fj F (l.take (i0+1))=l.take i0:=by
  rw[U8 F l h4];have:Rv F (l.getD i0 default)=false:=by unfold Rv;rw[h5];rfl
  rw[this,QA (by simp),YT];exact h6
 clear hi h2;refine⟨[0,1,5,6],J,⟨rfl,l.length-(i0+1),?_⟩,?_⟩
 .rw[hJ]
  subst hD;refine⟨i0+1,_,_,f,rfl,rfl,⟨by omega,?_,rfl,R.len⟩,?_,λk hk=>?_,λk _ hk=>R.f k hk,λk hk=>⟨_,R.f k hk⟩,?_⟩
  .have:=R.len
   show IntKind.i64.wrap (i+1)=_;rw[h3,wrap64 (by omega) (by omega)];omega
  .rw[fD,QW];show i=_;omega
  .rw[fD]at hk ⊢
   rw[QW]at hk;rw[R.f k (by omega),QD,QD,QN,QC (by omega)]
  .rw[fD,QW];omega
 clear h3 h4 h5 h6 fD;intro m vs hp hj;rw[hJ]at hj;obtain⟨j,I,Jv,f1,rfl,rfl,V⟩:=hj;cbv;refine br hD (λh=>?_) (λh=>?_)<;>cbv
 .have aC:=V.cG.lt R.n (QT (p:=Jv<n) h)
  clear h;refine⟨⟨by subst hD;rfl⟩,V.cG.lY hD R.n aC,λq hq=>?_⟩;obtain rfl:=V.cG.j hD hq;clear hq;have e1:=V.rest q (QK q) aC;have eC:=R.small q aC;have tc:=U8 F l aC;obtain⟨x,hx⟩:∃x,x=l.getD q default:=⟨_,rfl⟩;rw[<-hx]at e1 tc eC;obtain⟨a,b⟩:=x;cbv;rw[e1];cbv;refine⟨⟨by subst hD;rfl⟩,⟨by subst hD;have:=R.n;show (q:Int)<n;omega⟩,?_⟩;refine⟨a,b,F,?_,?_,eC.1,λt ht=>?_⟩
  .rfl
  .rfl
  cbv;refine br hD (λh=>?_) (λh=>?_)<;>cbv
  .have h3:Rv F ⟨a,b⟩=true:=by
    have h:(!t)=true:=h;unfold Rv;rw[<-h,ht]
   clear h;rw[QC h3]at tc;refine⟨⟨by subst hD;rfl⟩,?_,λp hp=>?_⟩
   .subst hD
    have h1:=V.I;have h2:=V.lt;have:=R.n;exact⟨by show 0<=I;omega,by show I<n;omega⟩
   have pU:p=(Fj F (l.take q)).length:=by
    have hp:(p:Int)=I:=by subst hD;exact hp.h
    have:=V.I;omega
   clear hp;have WI:p<l.length:=by have:=V.lt;omega
   obtain⟨y,hy⟩:=V.iu p WI;obtain⟨c,d⟩:=y;cbv;refine⟨⟨by subst hD;rfl⟩,⟨by subst hD;have:=R.n;show (p:Int)<n;omega⟩,?_⟩;rw[hy];cbv;intro f2 fB;cbv;obtain⟨g1,g2⟩:=V.cG.step hD aC
   generalize hgm:l.length-(q+1)=m' at g1 g2
   refine⟨m',g1,?_⟩;rw[hJ];unfold AQ;subst hD;have ns:f2 p=D3 ⟨a,b⟩:=fB.at_;have fN:(Fj F (l.take (q+1))).length=p+1:=by rw[tc,QF,<-pU];rfl
   refine⟨q+1,_,_,f2,rfl,rfl,g2,?_,λk hk=>?_,λk hk aY=>?_,λk hk=>?_,?_⟩
   .rw[fN]
    have h1:=V.I;have h3:=R.len;show IntKind.i64.wrap (I+1)=_;rw[wrap64 (by omega) (by omega)];omega
   .rw[fN]at hk
    rw[tc]
    by_cases e:k=p
    .subst e
     rw[ns,QD,QP (by omega),<-pU,UH];rfl
    .rw[fB.other k e,V.row k (by omega),QD,QD,QM (by omega)]
   .have h4:=V.lt
    rw[fB.other k (by omega)];exact V.rest k (by omega) aY
   .by_cases e:k=p
    .subst e;exact⟨_,ns⟩
    .rw[fB.other k e];exact V.iu k hk
   .rw[fN];have:=V.lt;omega
  .have h3:Rv F ⟨a,b⟩=false:=by
    have h:(!t)=false:=h;unfold Rv;rw[<-h,ht]
   clear h;rw[QA (by rw[h3];simp),YT]at tc;obtain⟨g1,g2⟩:=V.cG.step hD aC
   generalize hgm:l.length-(q+1)=m' at g1 g2
   refine⟨m',g1,?_⟩;rw[hJ];unfold AQ;subst hD;refine⟨q+1,_,_,f1,rfl,rfl,g2,?_,?_,λk hk=>V.rest k (by omega),V.iu,?_⟩
   .rw[tc];exact V.I
   .rw[tc];exact V.row
   .rw[tc];have:=V.lt;omega
 .have hi:=V.cG.eq R.n (XA (p:=Jv<n) h)
  clear h;have aY:Fj F (l.take j)=l2:=by rw[hi,YC,iU]
  have hI:I=(l2.length:Int):=by rw[<-aY];exact V.I
  have hle:l2.length<=l.length:=by rw[iU];exact Mo F l
  have aJ:∀k,k<l2.length->f1 k=D3 (l2.getD k default):=by rw[<-aY];exact V.row
  have R1:I=n2:=by rw[R2.n];exact hI
  have R3:0<=n2/\n2<=n:=by have:=R2.n;have:=R.n;omega
  clear aY hI V;refine⟨⟨by subst hD;rfl⟩,by subst hD;exact⟨by show 0<=I;omega,by show I<=n;omega,ZE _⟩,?_⟩;refine⟨⟨by subst hD;rfl⟩,λf3 eV=>?_⟩;cbv;refine⟨⟨by subst hD;rfl⟩,by subst hD;exact⟨ZE _,by show 0<=I;omega,by show I<=n;omega⟩,?_⟩;subst hD;refine⟨aM.sl rfl R1 λk hk=>?_,cL.refl _,QK _⟩;have hk:(k:Int)<I:=hk;have h4:k<l2.length:=by have:=R2.n;omega
  rw[eV.lo k hk,aJ k h4,R2.f k h4]
def Ev(l:List HF):List HF×Int :=
 if A9 l≠0 then ([],A9 l) else if (Jz l).2 then (Fj (Jz l).1 l,0) else ([],6)
structure ai9(l:List HF)(nb:Bool)(n:Int)(f:Nat->List SV):Prop where
 row:A0 f n l
 nil:nb=true->l=[]
def vR:aB:=λ_ xs ls K=>∃(l:List HF) (nl:Bool) (n:Int) (f:Nat->List SV),xs=[.sl (.a nl) (.a n) 2 f]/\ls=[]/\A0 f n l/\(nl=true->l=[])/\
 ∀r e nb n' g,(r,e)=Ev l->ai9 r nb n' g->(nb=(nl||e != 0))->K (.aI [.sl (.a nb) (.a n') 2 g,.int .i64 (.a e)]) []
theorem D6(h:A9 l=0):l.length<=100:=by
 unfold A9 at h
 split at h
 .cases h
 .omega
theorem Alc:Ap Tryz.prog gl 288 vR:=by
 refine Bu (gh:=[]) mixed Ck (Al mr (Al Aob (Al oy Ae))) Tryz.func288 (by kernel_rfl) (by kernel_rfl) ?_;intro xs ls K h;unfold vR at h;obtain⟨l,nl,n,f,rfl,rfl,R,eQ,h⟩:=h;obtain⟨k,hk⟩:∃k,k=Ev l:=⟨_,rfl⟩;obtain⟨kr,ke⟩:=k;obtain⟨g,hg⟩:∃g,g=M7 kr:=⟨_,rfl⟩;obtain⟨n2,iT⟩:∃n2:Int,n2=kr.length:=⟨_,rfl⟩;have xA:kr=[]\/kr=Fj (Jz l).1 l:=by
  unfold Ev at hk
  split at hk
  .simp only[Prod.mk.injEq]at hk;exact .inl hk.1
  .split at hk
   .simp only[Prod.mk.injEq]at hk;exact .inr hk.1
   .simp only[Prod.mk.injEq]at hk;exact .inl hk.1
 have R2:A0 g n2 kr:=by
  rw[hg,iT];rcases xA with rfl|rfl
  .exact⟨rfl,λi hi=>absurd hi (by simp),by simp,λi hi=>absurd hi (by simp)⟩
  .refine A0.row ?_ (L0 R.small)
   have:=Mo (Jz l).1 l;have:=R.len;omega
 obtain⟨nb,iK⟩:∃nb,nb=(nl||ke != 0):=⟨_,rfl⟩;refine⟨_,_,h kr ke nb n2 g hk ⟨R2,λhb=>?_⟩ iK,λD hD=>?_⟩
 .rcases xA with h1|h1
  .exact h1
  .rw[iK]at hb
   simp only[XS,bne_iff_ne,ne_eq]at hb;rcases hb with hb|hb
   .rw[h1,eQ hb];rfl
   .unfold Ev at hk
    split at hk
    .simp only[Prod.mk.injEq]at hk;exact hk.1
    .split at hk
     .simp only[Prod.mk.injEq]at hk;exact absurd hk.2 hb
     .simp only[Prod.mk.injEq]at hk;exact hk.1
 clear h hg iT;unfold Ev at hk;cbv;refine⟨l,_,_,f,rfl,rfl,by subst hD;exact R,λk bD=>?_⟩;unfold NT at bD;obtain⟨ce,hce⟩:∃ce,ce=A9 l:=⟨_,rfl⟩;rw[<-hce]at bD hk
 by_cases h1:ce≠0
 .rw[QC h1]at bD hk
  rw[bD];cbv;refine br hD (λh=>?_) (λh=>?_)
  .cbv
   simp only[Prod.mk.injEq]at hk;obtain⟨rfl,rfl⟩:=hk;subst hD;refine⟨aM.aI (jS.cons (aM.sl ?_ ?_ λi hi=>absurd hi (by show ¬((i:Int)<0);omega)) (jS.refl _)),cL.refl _,QK _⟩
   .show true=nb
    rw[iK];simp[h1]
   .show 0=n2;rw[R2.n];rfl
  .cbv
   exact absurd h (by simp[BT.den,B6,h1])
 .have nA:A9 l=0:=by rw[<-hce];simpa using h1
  rw[QA h1]at bD hk
  by_cases h2:(Jz l).2=true
  .rw[QC h2]at bD hk
   simp only[Prod.mk.injEq]at hk;obtain⟨rfl,rfl⟩:=hk;obtain⟨F,hF⟩:∃F,F=(Jz l).1:=⟨_,rfl⟩;rw[<-hF]at bD R2;rw[bD];cbv;refine br hD (λh=>?_) (λh=>?_)
   .cbv
    exact absurd h (by simp[BT.den,B6])
   cbv;refine⟨l,nl,n,f,?_,rfl,R,by have:=D6 nA;omega,eQ,λg1 n1 R1=>?_⟩
   .subst hD;rfl
   cbv;refine⟨l,F,nl,n1,g1,?_,?_,R1,λg3 n3 R3=>?_⟩
   .subst hD;rfl
   .subst hD;rfl
   cbv;subst hD;refine⟨aM.aI (jS.cons (aM.sl ?_ ?_ λi hi=>?_) (jS.refl _)),cL.refl _,QK _⟩
   .show nl=nb
    rw[iK];simp
   .show n3=n2;rw[R2.n,R3.n]
   .have hi:(i:Int)<n3:=hi
    have:=R3.n;rw[R3.f i (by omega),R2.f i (by omega)]
  .rw[QA h2]at bD hk
   simp only[Prod.mk.injEq]at hk;obtain⟨rfl,rfl⟩:=hk;rw[bD];cbv;refine br hD (λh=>?_) (λh=>?_)
   .cbv
    subst hD;refine⟨aM.aI (jS.cons (aM.sl ?_ ?_ λi hi=>absurd hi (by show ¬((i:Int)<0);omega)) (jS.refl _)),cL.refl _,QK _⟩
    .show true=nb
     rw[iK];simp
    .show 0=n2;rw[R2.n];rfl
   .cbv
    exact absurd h (by simp[BT.den,B6])
set_option maxHeartbeats 40000000
def jd:aB:=λ_ xs ls K=>xs=[]/\ls=[]/\∀R,R=dV->K (.agg R) []
def ttK(Z:List SV):List (Nat×TI):=[
 (3,⟨.int .i64,1,8,[.int .i64 (.l 0)]⟩),
 (4,⟨.bool,1,1,[.bool (.l false)]⟩),
 (5,⟨.int .u8,1,1,[.int .u8 (.l 0)]⟩),
 (9,⟨.string,1,16,[.str []]⟩),
 (28,⟨.int .i64,1,8,[.int .i64 (.l 0)]⟩),
 (22,⟨.slice 5,1,24,[(.sl (.l true) (.l 0) 1 λ_=>[])]⟩),
 (261,⟨.array 256 5,256,256,Z⟩)]
def lL:List SV:=List.replicate 256 (.int .u8 (.l 0))
theorem vm:yN Tryz.prog (ttK lL)=true:=by kernel_rfl
theorem uq{Z:List SV}(hZ:Z=lL){eG:List (Nat×aB)}{gl:List (Nat×SV)}{gh:List (Nat×List Gh)}{its:List (Nat×(aB->aB))}{yl:List aB}:A4 Tryz.prog ⟨dn,ttK Z,eG,gl,[],gh,its,yl⟩:=by
 subst hZ;exact⟨rfl,vm,λ_ h=>(by cases h)⟩
def Wz:List Nat:=[33,36,38,39,40,41,42,43,44,59,61,58,64,47]
def lj(i:Nat)(c:Nat):ST:=if c∈Wz.take i then .a 2 else .l 0
def vf(_:Nat):List SV:=[.int .u8 (.l 0)]
theorem Ti:BH vf 256 1 lL:=by
 refine⟨⟨λi r h=>?_⟩⟩;unfold lL at h;have h2:=Nx 256 i _ r h;have hi:i<256:=by
  rcases ZK i 256 with h3|h3
  .exact h3
  .have:(chunks 1 256 (List.replicate 256 (.int .u8 (.l 0)))).length=256:=by kernel_rfl
   rw[QY (by omega)]at h;cases h
 rw[h2,Ba,Bl,Nat.mul_one,List.drop_replicate,List.take_replicate];have:min 1 (256-i)=1:=by omega
 rw[this];rfl
structure KaV(i:Nat)(I:Int)(f:Nat->List SV)(m:Nat):Prop where
 I:I=i
 le:i<=14
 m:m=14-i
 row:∀c,c<256->f c=[.int .u8 (lj i c)]
def kaJ(z fl:Nat->List SV)(m:Nat)(vs:List (Option SV))(hp:List Hl):Prop :=
 ∃(i:Nat) (I:Int) (f:Nat->List SV),vs=[some (.ptr 0 0),some (.ptr 1 0),some (.bV (.a false) (.a 14) 2),some (.int .i64 (.a 14)),some (.int .i64 (.a I))]/\
  hp=[.row 261 (.a 256) 1 z,.row 261 (.a 256) 1 f,.own 5 (.a 14) 1 false fl]/\KaV i I f m
def gg(n c:Nat):ST:=if c<n/\Dz c=1 then .a 1 else lj 14 c
structure fu(c:Nat)(I:Int)(f:Nat->List SV)(m:Nat):Prop where
 I:I=c
 le:c<=256
 m:m=256-c
 row:∀k,k<256->f k=[.int .u8 (gg c k)]
theorem fu.lo(V:fu c I f m):0<=I:=by have:=V.I;omega
theorem fu.jV(V:fu c I f m)(h:c<256):∃X,f c=[.int .u8 X]:=⟨_,V.row c h⟩
theorem fu.yes{f2:Nat->List SV}(V:fu c I f m)(h:c<256)(hf:Aoq f2 f c [.int .u8 (.a 1)])(hk:Dz c=1):fu (c+1) (dn.i (.bin .add .i64 (.a I) (.l 1))) f2 (256-(c+1)):=by
 refine⟨?_,by omega,rfl,λk aY=>?_⟩
 .have:=V.I
  show IntKind.i64.wrap (I+1)=_;rw[wrap64 (by omega) (by omega)];omega
 .by_cases e:k=c
  .subst e
   rw[hf.at_,gg,QC ⟨by omega,hk⟩]
  .rw[hf.other k e,V.row k aY]
   unfold gg;have:(k<c/\Dz k=1)↔(k<c+1/\Dz k=1):=by constructor<;>rintro⟨a,b⟩<;>exact⟨by omega,b⟩
   simp only[this]
theorem fu.no(V:fu c I f m)(h:c<256)(hk:Dz c≠1):fu (c+1) (dn.i (.bin .add .i64 (.a I) (.l 1))) f (256-(c+1)):=by
 refine⟨?_,by omega,rfl,λk aY=>?_⟩
 .have:=V.I
  show IntKind.i64.wrap (I+1)=_;rw[wrap64 (by omega) (by omega)];omega
 .rw[V.row k aY]
  unfold gg;have:(k<c/\Dz k=1)↔(k<c+1/\Dz k=1):=by
   constructor
   .rintro⟨a,b⟩;exact⟨by omega,b⟩
   .rintro⟨a,b⟩
    refine⟨?_,b⟩;rcases ZK k c with h|h
    .exact h
    .obtain rfl:k=c:=by omega
     exact absurd b hk
  simp only[this]
def CN(z fl:Nat->List SV)(m:Nat)(vs:List (Option SV))(hp:List Hl):Prop :=
 ∃(c:Nat) (I:Int) (f:Nat->List SV),vs=[some (.ptr 0 0),some (.ptr 1 0),some (.int .i64 (.a I))]/\hp=[.row 261 (.a 256) 1 z,.row 261 (.a 256) 1 f,.own 5 (.a 14) 1 false fl]/\fu c I f m
theorem TU:∀c:Fin 256,decide (0<=Lib.indexByte [45,46,95,126] (UInt8.ofNat c.1))=decide (c.1=45\/c.1=46\/c.1=95\/c.1=126):=by decide
def iZ:List SV:=(List.range 256).map λk=>.int .u8 (gg 256 k)
theorem Zz(h:∀k,k<256->f k=[.int .u8 (gg 256 k)]):Flat f 256 1 iZ:=by
 refine⟨by simp[iZ],λi hi=>?_⟩;have hi:i<256:=by omega
 have hl:iZ.length=256:=by simp[iZ]
 rw[h i hi,Nat.mul_one,ZS (by rw[hl];exact hi)];simp[iZ]
structure aj9(fl:Nat->List SV):Prop where
 h:∀j,j<14->fl j=[.int .u8 (.a ((Wz.getD j 0:Nat):Int))]
structure VI(vi:Int)(v:Nat):Prop where
 h:vi=(v:Int)
abbrev kdz:SV:=.int .u8 (.l 0)
abbrev kdo(n:Int):SV:=.int .u8 (.a n)
def wX:List SV:=[kdz,kdz,kdz,kdz,kdz,kdz,kdz,kdz,kdz,kdz,kdz,kdz,kdz,kdz,kdz,kdz,kdz,kdz,kdz,kdz,kdz,kdz,kdz,kdz,kdz,kdz,kdz,kdz,kdz,kdz,kdz,kdz,kdz,kdo 2,kdz,kdz,kdo 2,kdz,kdo 2,kdo 2,kdo 2,kdo 2,kdo 2,kdo 2,kdo 2,kdo 1,kdo 1,kdo 2,kdo 1,kdo 1,kdo 1,kdo 1,kdo 1,kdo 1,kdo 1,kdo 1,kdo 1,kdo 1,kdo 2,kdo 2,kdz,kdo 2,kdz,kdz,kdo 2,kdo 1,kdo 1,kdo 1,kdo 1,kdo 1,kdo 1,kdo 1,kdo 1,kdo 1,kdo 1,kdo 1,kdo 1,kdo 1,kdo 1,kdo 1,kdo 1,kdo 1,kdo 1,kdo 1,kdo 1,kdo 1,kdo 1,kdo 1,kdo 1,kdo 1,kdo 1,kdz,kdz,kdz,kdz,kdo 1,kdz,kdo 1,kdo 1,kdo 1,kdo 1,kdo 1,kdo 1,kdo 1,kdo 1,kdo 1,kdo 1,kdo 1,kdo 1,kdo 1,kdo 1,kdo 1,kdo 1,kdo 1,kdo 1,kdo 1,kdo 1,kdo 1,kdo 1,kdo 1,kdo 1,kdo 1,kdo 1,kdz,kdz,kdz,kdo 1,kdz,kdz,kdz,kdz,kdz,kdz,kdz,kdz,kdz,kdz,kdz,kdz,kdz,kdz,kdz,kdz,kdz,kdz,kdz,kdz,kdz,kdz,kdz,kdz,kdz,kdz,kdz,kdz,kdz,kdz,kdz,kdz,kdz,kdz,kdz,kdz,kdz,kdz,kdz,kdz,kdz,kdz,kdz,kdz,kdz,kdz,kdz,kdz,kdz,kdz,kdz,kdz,kdz,kdz,kdz,kdz,kdz,kdz,kdz,kdz,kdz,kdz,kdz,kdz,kdz,kdz,kdz,kdz,kdz,kdz,kdz,kdz,kdz,kdz,kdz,kdz,kdz,kdz,kdz,kdz,kdz,kdz,kdz,kdz,kdz,kdz,kdz,kdz,kdz,kdz,kdz,kdz,kdz,kdz,kdz,kdz,kdz,kdz,kdz,kdz,kdz,kdz,kdz,kdz,kdz,kdz,kdz,kdz,kdz,kdz,kdz,kdz,kdz,kdz,kdz,kdz,kdz,kdz,kdz,kdz,kdz,kdz,kdz,kdz,kdz,kdz,kdz,kdz,kdz]
theorem U9:wX=iZ:=by kernel_rfl
theorem Acu:Agp wX:=⟨by kernel_rfl,by kernel_rfl⟩
theorem Am6:Ap Tryz.prog [] 253 jd:=by
 obtain⟨Z,hZ⟩:∃Z,Z=lL:=⟨_,rfl⟩;refine Bq (gh:=[(3000000,[]),(3000001,[]),(999985,[]),(16,[.pL 0])]) mixed (uq hZ) (Aa Ahq Ae) Tryz.func253 (by kernel_rfl) (by kernel_rfl) ?_;rintro xs ls K ⟨rfl,rfl,h⟩;obtain⟨R,hR⟩:∃R,R=dV:=⟨_,rfl⟩;refine⟨_,_,h R hR,λD hD=>?_⟩;clear h;obtain⟨z,hz⟩:∃z,z=vf:=⟨_,rfl⟩;have hzb:BH z 256 1 Z:=by rw[hz,hZ];exact Ti
 have uE:∀k,z k=[.int .u8 (.l 0)]:=λk=>by rw[hz];rfl
 cbv;refine⟨z,hzb,?_⟩;cbv;refine⟨z,hzb,?_⟩;cbv;intro fl hf;have lT:aj9 fl:=by
  subst hD;refine⟨λj hj=>?_⟩
  match j,hj with
  |0,_=>exact hf.h 0 _ rfl
  |1,_=>exact hf.h 1 _ rfl
  |2,_=>exact hf.h 2 _ rfl
  |3,_=>exact hf.h 3 _ rfl
  |4,_=>exact hf.h 4 _ rfl
  |5,_=>exact hf.h 5 _ rfl
  |6,_=>exact hf.h 6 _ rfl
  |7,_=>exact hf.h 7 _ rfl
  |8,_=>exact hf.h 8 _ rfl
  |9,_=>exact hf.h 9 _ rfl
  |10,_=>exact hf.h 10 _ rfl
  |11,_=>exact hf.h 11 _ rfl
  |12,_=>exact hf.h 12 _ rfl
  |13,_=>exact hf.h 13 _ rfl
 clear hf;cbv;refine⟨⟨by subst hD;rfl⟩,?_⟩;obtain⟨J,hJ⟩:∃J,J=kaJ z fl:=⟨_,rfl⟩;cbv;refine⟨[0,1,6,7,8],J,⟨rfl,14,?_⟩,?_⟩
 .rw[hJ]
  subst hD;refine⟨0,0,z,rfl,rfl,rfl,by omega,rfl,λc _=>?_⟩;rw[uE];rfl
 intro m vs hp hj;rw[hJ]at hj;obtain⟨i,I,f,rfl,rfl,V⟩:=hj;cbv;refine br hD (λh=>?_) (λh=>?_)<;>cbv
 .have aC:i<14:=by
   have h:decide (I<14)=true:=h;simp only[QG]at h;have:=V.I;omega
  clear h;refine⟨⟨by subst hD;rfl⟩,by subst hD;exact⟨by show 0<=I;have:=V.I;omega,by show I<14;have:=V.I;omega⟩,λj hj=>?_⟩;have rH:j=i:=by
   have hj:(j:Int)=I:=by subst hD;exact hj.h
   have:=V.I;omega
  subst rH;clear hj;have e1:=lT.h j aC;obtain⟨v,hv⟩:∃v,v=Wz.getD j 0:=⟨_,rfl⟩;rw[<-hv]at e1;have bz:v<256:=by
   have:∀j:Fin 14,Wz.getD j.1 0<256:=by decide
   rw[hv];exact this ⟨j,aC⟩
  obtain⟨vi,OL⟩:∃vi:Int,VI vi v:=⟨_,⟨rfl⟩⟩;rw[<-OL.h]at e1;cbv;refine⟨⟨by subst hD;rfl⟩,⟨by subst hD;show (j:Int)<14;omega⟩,?_⟩;rw[e1];cbv;refine⟨by subst hD;exact⟨by show 0<=vi;rw[OL.h];exact Int.natCast_nonneg v,by show vi<256;rw[OL.h];exact_mod_cast bz⟩,λq hq=>?_⟩;have dC:q=v:=by
   have hq:(q:Int)=vi:=by subst hD;exact hq.h
   rw[OL.h]at hq;exact_mod_cast hq
  subst dC;clear hq;obtain⟨X,e2⟩:∃X,f q=[.int .u8 X]:=⟨_,V.row q bz⟩;cbv;refine⟨⟨by subst hD;show (q:Int)<256;exact_mod_cast bz⟩,?_⟩;rw[e2];cbv;intro f2 fB;cbv;refine⟨14-(j+1),by have:=V.m;omega,?_⟩;rw[hJ];unfold kaJ;subst hD;refine⟨j+1,_,f2,rfl,rfl,?_,by omega,rfl,λc hc=>?_⟩
  .have:=V.I
   show IntKind.i64.wrap (I+1)=_;rw[wrap64 (by omega) (by omega)];omega
  .have tJ:∀x,x∈Wz.take (j+1)↔x∈Wz.take j\/x=q:=by
    intro x;have hl:j<Wz.length:=aC;rw[List.take_succ_eq_append_getElem hl,YB,YQ];have:Wz[j]=q:=by rw[hv,QD,QB hl];rfl
    rw[this]
   by_cases e:c=q
   .subst e
    rw[fB.at_,lj,QC ((tJ c).2 (.inr rfl))];rfl
   .rw[fB.other c e,V.row c hc]
    unfold lj;have:(c∈Wz.take (j+1))↔c∈Wz.take j:=by rw[tJ];exact⟨λh=>h.resolve_right e,.inl⟩
    simp only[this]
 have hi:i=14:=by
  have h:decide (I<14)=false:=h;simp only[QJ]at h;have:=V.I;have:=V.le;omega
 have aJ:=V.row;rw[hi]at aJ;clear h V hJ J hi;obtain⟨J,hJ⟩:∃J,J=CN z fl:=⟨_,rfl⟩;refine⟨[0,1,15],J,⟨rfl,256,?_⟩,?_⟩
 .rw[hJ]
  subst hD;refine⟨0,0,f,rfl,rfl,rfl,by omega,rfl,λk hk=>?_⟩;rw[aJ k hk,gg,QA (by omega)]
 clear aJ;intro m vs hp hj;rw[hJ]at hj;obtain⟨c,I,f,rfl,rfl,V⟩:=hj;cbv;refine br hD (λh=>?_) (λh=>?_)<;>cbv
 .have aC:c<256:=by
   have h:decide (I<256)=true:=h;simp only[QG]at h;have:=V.I;omega
  clear h;refine br hD (λh=>?_) (λh=>?_)<;>cbv
  .have fH:Dz c=1:=by
    have h:(decide (48<=I)&&decide (I<=57))=true:=h;simp only[QE,QG]at h;have:=V.I;unfold Dz;rw[QC (by omega)]
   clear h;refine⟨by subst hD;exact⟨by show 0<=I;have:=V.lo;omega,by show I<256;have:=V.I;omega⟩,λq hq=>?_⟩;have dC:q=c:=by
    have hq:(q:Int)=I:=by subst hD;exact hq.h
    have:=V.I;omega
   subst dC;clear hq;cbv;obtain⟨X,hX⟩:=V.jV aC;refine⟨by subst hD;exact⟨by show (q:Int)<256;omega⟩,?_⟩;rw[hX];cbv;intro f2 fB;cbv;refine⟨256-(q+1),by have:=V.m;omega,?_⟩;rw[hJ];unfold CN;subst hD;exact⟨q+1,_,f2,rfl,rfl,V.yes aC fB fH⟩
  have n1:¬(48<=c/\c<=57):=by
   have h:(decide (48<=I)&&decide (I<=57))=false:=h;have hI:=V.I;rintro⟨a,b⟩;have a':decide (48<=I)=true:=by rw[QG];omega
   have b':decide (I<=57)=true:=by rw[QG];omega
   rw[a',b']at h;cases h
  clear h;refine br hD (λh=>?_) (λh=>?_)<;>cbv
  .have fH:Dz c=1:=by
    have h:(decide (65<=I)&&decide (I<=90))=true:=h;simp only[QE,QG]at h;have:=V.I;unfold Dz;rw[QC (by omega)]
   clear h;refine⟨by subst hD;exact⟨by show 0<=I;have:=V.lo;omega,by show I<256;have:=V.I;omega⟩,λq hq=>?_⟩;have dC:q=c:=by
    have hq:(q:Int)=I:=by subst hD;exact hq.h
    have:=V.I;omega
   subst dC;clear hq;cbv;obtain⟨X,hX⟩:=V.jV aC;refine⟨by subst hD;exact⟨by show (q:Int)<256;omega⟩,?_⟩;rw[hX];cbv;intro f2 fB;cbv;refine⟨256-(q+1),by have:=V.m;omega,?_⟩;rw[hJ];unfold CN;subst hD;exact⟨q+1,_,f2,rfl,rfl,V.yes aC fB fH⟩
  have n2:¬(65<=c/\c<=90):=by
   have h:(decide (65<=I)&&decide (I<=90))=false:=h;have hI:=V.I;rintro⟨a,b⟩;have a':decide (65<=I)=true:=by rw[QG];omega
   have b':decide (I<=90)=true:=by rw[QG];omega
   rw[a',b']at h;cases h
  clear h;refine br hD (λh=>?_) (λh=>?_)<;>cbv
  .have fH:Dz c=1:=by
    have h:(decide (97<=I)&&decide (I<=122))=true:=h;simp only[QE,QG]at h;have:=V.I;unfold Dz;rw[QC (by omega)]
   clear h;refine⟨by subst hD;exact⟨by show 0<=I;have:=V.lo;omega,by show I<256;have:=V.I;omega⟩,λq hq=>?_⟩;have dC:q=c:=by
    have hq:(q:Int)=I:=by subst hD;exact hq.h
    have:=V.I;omega
   subst dC;clear hq;cbv;obtain⟨X,hX⟩:=V.jV aC;refine⟨by subst hD;exact⟨by show (q:Int)<256;omega⟩,?_⟩;rw[hX];cbv;intro f2 fB;cbv;refine⟨256-(q+1),by have:=V.m;omega,?_⟩;rw[hJ];unfold CN;subst hD;exact⟨q+1,_,f2,rfl,rfl,V.yes aC fB fH⟩
  have n3:¬(97<=c/\c<=122):=by
   have h:(decide (97<=I)&&decide (I<=122))=false:=h;have hI:=V.I;rintro⟨a,b⟩;have a':decide (97<=I)=true:=by rw[QG];omega
   have b':decide (I<=122)=true:=by rw[QG];omega
   rw[a',b']at h;cases h
  clear h;have hw:IntKind.u8.wrap I=I:=IntWalk.u8_in _ ⟨V.lo,by have:=V.I;omega⟩;refine⟨_,_,rfl,rfl,by subst hD;show 0<=IntKind.u8.wrap I/\IntKind.u8.wrap I<=255;rw[hw];exact⟨V.lo,by have:=V.I;omega⟩,λr hr=>?_⟩;have bZ:decide (0<=r)=decide (c=45\/c=46\/c=95\/c=126):=by
   have e:r=Lib.indexByte [45,46,95,126] (UInt8.ofNat c):=by
    have hr:r=Lib.indexByte [45,46,95,126] (UInt8.ofNat (IntKind.u8.wrap I).toNat):=by subst hD;exact hr
    rw[hr,hw,V.I];rfl
   rw[e];exact TU ⟨c,aC⟩
  clear hr;cbv;refine br hD (λh=>?_) (λh=>?_)<;>cbv
  .have fH:Dz c=1:=by
    have h:decide (0<=r)=true:=h;rw[bZ,QG]at h;unfold Dz;rw[QC (by omega)]
   clear h;refine⟨by subst hD;exact⟨by show 0<=I;have:=V.lo;omega,by show I<256;have:=V.I;omega⟩,λq hq=>?_⟩;have dC:q=c:=by
    have hq:(q:Int)=I:=by subst hD;exact hq.h
    have:=V.I;omega
   subst dC;clear hq;cbv;obtain⟨X,hX⟩:=V.jV aC;refine⟨by subst hD;exact⟨by show (q:Int)<256;omega⟩,?_⟩;rw[hX];cbv;intro f2 fB;cbv;refine⟨256-(q+1),by have:=V.m;omega,?_⟩;rw[hJ];unfold CN;subst hD;exact⟨q+1,_,f2,rfl,rfl,V.yes aC fB fH⟩
  .have fH:Dz c≠1:=by
    have h:decide (0<=r)=false:=h;rw[bZ,QJ]at h;unfold Dz;rw[QA (by omega)]
    split<;>decide
   clear h;refine⟨256-(c+1),by have:=V.m;omega,?_⟩;rw[hJ];unfold CN;subst hD;exact⟨c+1,_,f,rfl,rfl,V.no aC fH⟩
 have hc:c=256:=by
  have h:decide (I<256)=false:=h;simp only[QJ]at h;have:=V.I;have:=V.le;omega
 have aJ:=V.row;rw[hc]at aJ;clear h V hJ hc;obtain⟨cs,cY⟩:∃cs,cs=wX:=⟨_,rfl⟩;refine⟨⟨by subst hD;rfl⟩,cs,by subst hD;rw[cY,U9];exact Zz aJ,?_⟩;clear aJ;cbv;refine⟨⟨by subst hD;rfl⟩,by rw[cY];exact Acu,λk=>[.int .u8 (gg 256 k)],by subst hD;rw[cY,U9];exact Zz λ_ _=>rfl,?_⟩;refine⟨wX,by subst hD;rw[U9];exact Zz λ_ _=>rfl,?_⟩;clear cY;cbv;subst hD;rw[hR];exact By (by kernel_rfl) rfl
set_option maxHeartbeats 8000000
def Gb(c:Int):Int:=if 48<=c/\c<=57 then c-48 else if 65<=c/\c<=70 then c-55 else if 97<=c/\c<=102 then c-87 else -1
theorem Pu(c:Int):-1<=Gb c/\Gb c<=15:=by
 unfold Gb
 split
 .omega
 .split
  .omega
  .split<;>omega
def vM:aB:=λ_ xs ls K=>∃(c:Int),xs=[.int .u8 (.a c)]/\ls=[]/\(0<=c/\c<=255)/\∀r,r=Gb c->K (.int .i64 (.a r)) []
theorem Ak6:Ap Tryz.prog gl 287 vM:=by
 refine Bq (gh:=[]) mixed Ck Ae Tryz.func287 (by kernel_rfl) (by kernel_rfl) ?_;intro xs ls K h;unfold vM at h;obtain⟨c,rfl,rfl,hc,h⟩:=h;obtain⟨k,hk⟩:∃k,k=Gb c:=⟨_,rfl⟩;refine⟨_,_,h k hk,λD hD=>?_⟩;clear h;unfold Gb at hk;cbv;have w:∀n:Int,-1000<=n->n<=1000->IntKind.i64.wrap n=n:=λn a b=>wrap64 (by omega) (by omega);refine br hD (λh=>?_) (λh=>?_)<;>cbv
 .have h2:48<=c/\c<=57:=by simpa using h
  refine Bj hD ?_;rw[hk,QC h2];show IntKind.i64.wrap (IntKind.i64.wrap c-48)=_;rw[w c (by omega) (by omega),w _ (by omega) (by omega)]
 have h2:¬(48<=c/\c<=57):=by simpa using h
 rw[QA h2]at hk;clear h h2;refine br hD (λh=>?_) (λh=>?_)<;>cbv
 .have h2:65<=c/\c<=70:=by simpa using h
  refine Bj hD ?_;rw[hk,QC h2];show IntKind.i64.wrap (IntKind.i64.wrap (IntKind.i64.wrap c-65)+10)=_;rw[w c (by omega) (by omega),w (c-65) (by omega) (by omega),w _ (by omega) (by omega)];omega
 have h2:¬(65<=c/\c<=70):=by simpa using h
 rw[QA h2]at hk;clear h h2;refine br hD (λh=>?_) (λh=>?_)<;>cbv
 .have h2:97<=c/\c<=102:=by simpa using h
  refine Bj hD ?_;rw[hk,QC h2];show IntKind.i64.wrap (IntKind.i64.wrap (IntKind.i64.wrap c-97)+10)=_;rw[w c (by omega) (by omega),w (c-97) (by omega) (by omega),w _ (by omega) (by omega)];omega
 have h2:¬(97<=c/\c<=102):=by simpa using h
 rw[QA h2]at hk;refine Bj hD ?_;rw[hk];rfl
def Ve(s:List UInt8)(i:Nat):Prop:=i+2<s.length/\aG s i=37/\0<=Gb (aG s (i+1))/\0<=Gb (aG s (i+2))
instance (s:List UInt8) (i:Nat):Decidable (Ve s i):=by unfold Ve;exact inferInstance
def G7(s:List UInt8)(i:Nat):Bool:=decide (Ve s i)
def MW(s:List UInt8)(i:Nat):Int:=if Ve s i then 16 * Gb (aG s (i+1))+Gb (aG s (i+2)) else 0
theorem Ny(s:List UInt8)(i j:Nat):aG (s.drop i) j=aG s (i+j):=by
 unfold aG;rw[QD,XG,<-QD]
theorem Aj6(s:List UInt8)(i:Nat):Ve (s.drop i) 0↔Ve s i:=by
 unfold Ve;rw[Ny,Ny,Ny,QX];simp only[ZB,XF];constructor<;>rintro⟨a,b⟩<;>exact⟨by omega,b⟩
theorem Af8(s:List UInt8)(i:Nat):G7 (s.drop i) 0=G7 s i:=by
 unfold G7;rw[UF];exact Aj6 s i
def vO:aB:=λ_ xs ls K=>∃(s:List UInt8),xs=[.str s]/\ls=[]/\s.length<=9223372036854775807/\∀v b,v=MW s 0->b=G7 s 0->K (.aI [.int .u8 (.a v),.bool (.a b)]) []
theorem SZ:∀a b:Fin 16,En .or .i64 (IntKind.i64.wrap ((a.1:Int) * 16)) (b.1:Int)=16 * a.1+b.1:=by decide
theorem Ann(hD:D=dn){v:Int}{b:Bool}{y:BT}(h1:x.den=v)(h2:y.den=b):Fin (.aI [.int .u8 (.a (D.i x)),.bool (.a (D.b y))]) (.aI [.int .u8 (.a v),.bool (.a b)]) [] []:=by
 subst hD h1 h2;exact Cm (aM.refl _)
theorem Aa3:Ap Tryz.prog gl 254 vO:=by
 refine Bq (gh:=[]) mixed Ck (Aa Ak6 Ae) Tryz.func254 (by kernel_rfl) (by kernel_rfl) ?_;intro xs ls K h;unfold vO at h;obtain⟨s,rfl,rfl,hs,h⟩:=h;obtain⟨kv,CW⟩:∃k,k=MW s 0:=⟨_,rfl⟩;obtain⟨kb,lR⟩:∃k,k=G7 s 0:=⟨_,rfl⟩;refine⟨_,_,h kv kb CW lR,λD hD=>?_⟩;clear h;cbv;refine⟨λhg=>?_,λc hc=>?_⟩
 .subst hD;exact⟨by decide,by have hg:(!decide ((s.length:Int)<3))=true:=hg;simp at hg;show (0:Int)<_;omega⟩
 have gC:Ey c s 0:=by subst hD;exact⟨hc.h⟩
 clear hc;cbv;refine br hD (λh=>?_) (λh=>?_)<;>cbv
 .have h2:¬Ve s 0:=by
   rintro⟨h1,h2,_⟩;rw[<-gC.aG]at h2;have h:(decide ((s.length:Int)<3)||(c != 37))=true:=h;simp only[XS,QG,bne_iff_ne,ne_eq]at h;omega
  exact Ann hD (by rw[CW,MW,QA h2];rfl) (by rw[lR,G7,UL h2];rfl)
 have h2:3<=s.length/\c=37:=by
  have h:(decide ((s.length:Int)<3)||(c != 37))=false:=h;simp only[QU,QJ,bne_eq_false_iff_eq]at h;omega
 clear h;obtain⟨h3,rfl⟩:=h2;refine⟨by subst hD;exact⟨by decide,by show (1:Int)<_;omega⟩,λx hx=>?_⟩;have xX:Ey x s 1:=by subst hD;exact⟨hx.h⟩
 clear hx;cbv;refine⟨_,rfl,rfl,by subst hD;exact xX.le,λa ha=>?_⟩;have ha:a=Gb x:=by subst hD;exact ha
 cbv;refine⟨by subst hD;exact⟨by decide,by show (2:Int)<_;omega⟩,λy hy=>?_⟩;have TW:Ey y s 2:=by subst hD;exact⟨hy.h⟩
 clear hy;cbv;refine⟨_,rfl,rfl,by subst hD;exact TW.le,λb hb=>?_⟩;have hb:b=Gb y:=by subst hD;exact hb
 cbv;have hP:Ve s 0↔0<=a/\0<=b:=by
  unfold Ve;simp only[XF];rw[<-gC.aG,<-xX.aG,<-TW.aG,<-ha,<-hb];constructor
  .exact λh=>h.2.2
  .exact λh=>⟨by omega,rfl,h⟩
 refine br hD (λh=>?_) (λh=>?_)<;>cbv
 .have h2:¬Ve s 0:=by
   rw[hP];have h:(decide (a<0)||decide (b<0))=true:=h;simp only[XS,QG]at h;omega
  exact Ann hD (by rw[CW,MW,QA h2];rfl) (by rw[lR,G7,UL h2];rfl)
 have h2:0<=a/\0<=b:=by
  have h:(decide (a<0)||decide (b<0))=false:=h;simp only[QU,QJ]at h;omega
 have la:=(Pu x).2;have lb:=(Pu y).2;rw[<-ha]at la;rw[<-hb]at lb;refine⟨⟨by subst hD;decide⟩,?_⟩;refine Ann hD ?_ ?_
 rotate_left
 .rw[lR,G7,YI (hP.2 h2)];rfl
 rw[CW,MW,QC (hP.2 h2)];simp only[XF];rw[<-xX.aG,<-TW.aG,<-ha,<-hb];have e:=SZ ⟨a.toNat,by omega⟩ ⟨b.toNat,by omega⟩;simp only at e;rw[Int.toNat_of_nonneg h2.1,Int.toNat_of_nonneg h2.2]at e;show IntKind.u8.wrap (En .or .i64 (IntKind.i64.wrap (a * 16)) b)=_;rw[e];have:∀n:Int,0<=n->n<=255->IntKind.u8.wrap n=n:=λn h0 h1=>by
  have:=IntWalk.u8_in n ⟨by omega,by omega⟩;exact this
 exact this _ (by omega) (by omega)
set_option maxHeartbeats 16000000
def Kk(s:List UInt8)(i e:Nat):Option Nat :=
 if h:i<s.length then
  if G7 s i then Kk s (i+3) e
  else if aG s i=63 then Kk s (i+1) (min e i)
  else if Dz (aG s i).toNat=0 then none
  else Kk s (i+1) e
 else some e
 termination_by s.length-i
def vd(s:List UInt8):Int×Int :=
 if 500<s.length then (0,3) else if !Lib.hasPrefix s [47] then (0,6) else match Kk s 0 s.length with
  |some e=>((e:Int),0)
  |none=>(0,6)
def qo:aB:=λ_ xs ls K=>∃(s:List UInt8),xs=[.str s]/\ls=[]/\s.length<=9223372036854775807/\∀e r,(e,r)=vd s->K (.aI [.int .i64 (.a e),.int .i64 (.a r)]) []
structure MH(f:Nat->List SV):Prop where
 h:∀i,i<256->f i=[.int .u8 (.a (Dz i))]
theorem Ajx(h:MH f):Flat f 256 1 dV:=by
 refine⟨by simp[dV],λi hi=>?_⟩;have hi:i<256:=by omega
 have hl:dV.length=256:=by simp[dV]
 rw[h.h i hi,Nat.mul_one,ZS (by rw[hl];exact hi)];simp[dV]
theorem U6:Agp dV:=⟨by kernel_rfl,by kernel_rfl⟩
theorem PZ(hD:D=dn){e r:Int}(h1:x.den=e)(h2:y.den=r):Fin (.aI [.int .i64 (.a (D.i x)),.int .i64 (.a (D.i y))]) (.aI [.int .i64 (.a e),.int .i64 (.a r)]) [] []:=by
 subst hD h1 h2;exact Cm (aM.refl _)
structure aj1(s:List UInt8)(k:Option Nat)(i e:Nat)(I E:Int)(m:Nat):Prop where
 cG:At s i I m
 E:E=e
 k:k=Kk s i e
 len:s.length<=500
def kh(s:List UInt8)(kr:Nat->List SV)(k:Option Nat)(m:Nat)(vs:List (Option SV))(hp:List Hl):Prop :=
 ∃(i e:Nat) (I E:Int),vs=[some (.str s),some (.ptr 0 0),some (.int .i64 (.a E)),some (.int .i64 (.a I))]/\hp=[.row 261 (.a 256) 1 kr]/\aj1 s k i e I E m
theorem Ami(h:i<s.length)(h1:G7 s i=true):Kk s i e=Kk s (i+3) e:=by
 rw[Kk,dif_pos h,QC h1]
theorem Ajg(h:i<s.length)(h1:G7 s i=false)(h2:aG s i=63):Kk s i e=Kk s (i+1) (min e i):=by
 rw[Kk,dif_pos h,QA (by simp[h1]),QC h2]
theorem Amk(h:i<s.length)(h1:G7 s i=false)(h2:aG s i≠63)(h3:Dz (aG s i).toNat=0):Kk s i e=none:=by
 rw[Kk,dif_pos h,QA (by simp[h1]),QA h2,QC h3]
theorem Ajf(h:i<s.length)(h1:G7 s i=false)(h2:aG s i≠63)(h3:Dz (aG s i).toNat≠0):Kk s i e=Kk s (i+1) e:=by
 rw[Kk,dif_pos h,QA (by simp[h1]),QA h2,QA h3]
theorem Amj(h:i=s.length):Kk s i e=some e:=by
 rw[Kk,dif_neg (by omega)]
theorem Ake(h:G7 s i=true):i+2<s.length:=(QT h).1
theorem Aje:Ap Tryz.prog gl 198 qo:=by
 obtain⟨Z,hZ⟩:∃Z,Z=lL:=⟨_,rfl⟩;refine Bq (gh:=[(3000004,[])]) mixed (uq hZ) (Aa Aj8 (Aa (Adb Am6) (Aa Aa3 Ae))) Tryz.func198 (by kernel_rfl) (by kernel_rfl) ?_;intro xs ls K h;unfold qo at h;obtain⟨s,rfl,rfl,hs,h⟩:=h;obtain⟨k,hk⟩:∃k,k=vd s:=⟨_,rfl⟩;obtain⟨ke,kr⟩:=k;refine⟨_,_,h ke kr hk,λD hD=>?_⟩;clear h;unfold vd at hk;cbv;refine br hD (λh=>?_) (λh=>?_)<;>cbv
 .have h2:500<s.length:=by have h:decide ((500:Int)<(s.length:Int))=true:=h;simp only[QG]at h;omega
  rw[QC h2]at hk;simp only[Prod.mk.injEq]at hk;exact PZ hD hk.1.symm hk.2.symm
 have hlen:s.length<=500:=by have h:decide ((500:Int)<(s.length:Int))=false:=h;simp only[QJ]at h;omega
 rw[QA (by omega)]at hk;clear h;refine⟨s,_,rfl,rfl,λb hb=>?_⟩;have hb:b=Lib.hasPrefix s [47]:=hb;cbv;refine br hD (λh=>?_) (λh=>?_)<;>cbv
 .have h2:(!b)=true:=h
  rw[<-hb,QC h2]at hk;simp only[Prod.mk.injEq]at hk;exact PZ hD hk.1.symm hk.2.symm
 have h2:(!b)=false:=h;rw[<-hb,QA (by rw[h2];simp)]at hk;clear h h2 hb;intro R hR;obtain⟨kr0,JC⟩:∃f,MH f:=⟨λi=>[.int .u8 (.a (Dz i))],⟨λ_ _=>rfl⟩⟩;cbv;refine⟨by rw[hR];exact U6.plain,vf,by rw[hZ];exact Ti,?_⟩;cbv;refine⟨⟨by subst hD;rfl⟩,by rw[hR];exact U6,kr0,by subst hD;rw[hR];exact Ajx JC,?_⟩;clear hR;obtain⟨kk,bD⟩:∃kk,kk=Kk s 0 s.length:=⟨_,rfl⟩;rw[<-bD]at hk;obtain⟨J,hJ⟩:∃J,J=kh s kr0 kk:=⟨_,rfl⟩;cbv;refine⟨[0,4,5,6],J,⟨rfl,s.length,?_⟩,?_⟩
 .rw[hJ]
  subst hD;exact⟨0,s.length,_,_,rfl,rfl,At.zero hs,rfl,bD,hlen⟩
 clear bD;intro m vs hp hj;rw[hJ]at hj;obtain⟨i,e,I,E,rfl,rfl,V⟩:=hj;cbv;refine br hD (λh=>?_) (λh=>?_)<;>cbv
 .have aC:=V.cG.lt (QT (p:=I<(s.length:Int)) h)
  clear h;refine⟨by subst hD;exact⟨by show 0<=I;have:=V.cG.I;omega,by show I<=s.length;have:=V.cG.I;omega,ZE _⟩,λt ht=>?_⟩;have lZ:t=s.drop i:=by
   have h1:t=(s.drop I.toNat).take ((s.length:Int).toNat-I.toNat):=by subst hD;exact ht.h
   have h2:=V.cG.I;have h3:I.toNat=i:=by omega
   rw[h1,h3,XJ (by rw[QX];omega)]
  clear ht;cbv;refine⟨t,rfl,rfl,by rw[lZ,QX];omega,λv b hv hb=>?_⟩;have gH:b=G7 s i:=by rw[hb,lZ,Af8]
  clear hv hb lZ;cbv;refine br hD (λh=>?_) (λh=>?_)<;>cbv
  .have h2:G7 s i=true:=by rw[<-gH];exact h
   have h3:=Ake h2;clear h;refine⟨s.length-(i+3),by have:=V.cG.m;omega,?_⟩;rw[hJ];unfold kh;subst hD;refine⟨i+3,e,_,_,rfl,rfl,⟨by omega,?_,rfl,V.cG.len⟩,V.E,by rw[V.k,Ami aC h2],hlen⟩;have:=V.cG.I;show IntKind.i64.wrap (IntKind.i64.wrap (I+2)+1)=_;rw[wrap64 (n:=I+2) (by omega) (by omega),wrap64 (by omega) (by omega)];omega
  have he:G7 s i=false:=by rw[<-gH];exact h
  clear h;refine⟨V.cG.TS hD aC,λc hc=>?_⟩;have gC:=Agh hD V.cG.I hc;clear hc;have hle:=gC.le;cbv;refine br hD (λh=>?_) (λh=>?_)<;>cbv
  .have qS:aG s i=63:=by rw[<-gC.aG];have h:(c==63)=true:=h;simpa using h
   clear h;intro mn IY;have WV:mn=min E I:=by subst hD;exact IY.h
   clear IY;cbv;refine⟨s.length-(i+1),by have:=V.cG.m;omega,?_⟩;rw[hJ];unfold kh;subst hD;refine⟨i+1,min e i,_,_,rfl,rfl,(V.cG.step rfl aC).2,?_,by rw[V.k,Ajg aC he qS],hlen⟩;have:=V.cG.I;have:=V.E;show mn=_;rw[WV];omega
  have qS:aG s i≠63:=by rw[<-gC.aG];have h:(c==63)=false:=h;simpa using h
  clear h;refine⟨V.cG.TS hD aC,λd hd=>?_⟩;have ua:d=c:=by have:=Agh hD V.cG.I hd;rw[this.h,gC.h]
  subst ua;clear hd;cbv;refine⟨by subst hD;exact⟨by show 0<=d;omega,by show d<256;omega⟩,λq hq=>?_⟩;have dC:(q:Int)=d:=by subst hD;exact hq.h
  clear hq;have IN:q<256:=by omega
  have hkq:=JC.h q IN;have kU:Dz q=Dz (aG s i).toNat:=by
   have:q=(aG s i).toNat:=by rw[<-gC.aG];omega
   rw[this]
  obtain⟨kq,aa6⟩:∃kq,kq=Dz q:=⟨_,rfl⟩;rw[<-aa6]at hkq kU;cbv;refine⟨⟨by subst hD;show (q:Int)<256;omega⟩,?_⟩;rw[hkq];cbv;refine br hD (λh=>?_) (λh=>?_)<;>cbv
  .have h0:kq=0:=by have h:(kq==0)=true:=h;simpa using h
   rw[V.k,Amk aC he qS (by rw[<-kU];exact h0)]at hk;simp only[Prod.mk.injEq]at hk;exact PZ hD hk.1.symm hk.2.symm
  .have h0:kq≠0:=by have h:(kq==0)=false:=h;simpa using h
   refine⟨s.length-(i+1),by have:=V.cG.m;omega,?_⟩;rw[hJ];unfold kh;subst hD;exact⟨i+1,e,_,_,rfl,rfl,(V.cG.step rfl aC).2,V.E,by rw[V.k,Ajf aC he qS (by rw[<-kU];exact h0)],hlen⟩
 .have hi:=V.cG.eq (XA (p:=I<(s.length:Int)) h)
  rw[V.k,Amj hi]at hk;simp only[Prod.mk.injEq]at hk;exact PZ hD (by have:=V.E;rw[hk.1];exact this) hk.2.symm
theorem Ab6(h:(vd s).2=0):s.length<=500:=by
 unfold vd at h
 split at h
 .cases h
 .omega
structure Bo(f:Nat->List SV)(n:Int)(t:List UInt8):Prop where
 n:n=t.length
 f:∀i,i<t.length->f i=[.int .u8 (.a ((t.getD i 0).toNat:Int))]
theorem Bo.more{n m:Int}{u:List UInt8}(R:Bo f n t)(hm:m=u.length)(hg:∀i,i<u.length->g i=[.int .u8 (.a ((u.getD i 0).toNat:Int))])(h:Mw f' n' n m f g):Bo f' n' (t++u):=by
 have hn:=R.n;refine⟨by rw[h.len,hn,hm,QF];omega,λi hi=>?_⟩;rw[QF]at hi;rw[QD,YR]
 split
 .rename_i h1
  rw[h.lo i (by omega),R.f i h1,QD]
 .rename_i h1
  rw[h.hi i (i-t.length) (by omega) (by omega),hg _ (by omega),QD]
theorem Bo.str{n:Int}{r:List UInt8}(R:Bo f n t)(h:Ky r n f):r=t:=by
 have hn:=R.n;have hl:r.length=t.length:=by have:=h.len;omega
 refine List.ext_getElem hl λi h1 h2=>?_;have:=h.row i _ (by omega) (R.f i h2);have h5:((r.getD i 0).toNat:Int)=((t.getD i 0).toNat:Int):=this;have this:(r.getD i 0).toNat=(t.getD i 0).toNat:=by omega
 rw[QD,QB h1,QD,QB h2]at this;exact UInt8.toNat_inj.1 this
theorem Bo.byte{n:Int}(R:Bo f n t):Fz n f:=by
 refine⟨by rw[R.n];omega,λi hi=>⟨_,R.f i (by have:=R.n;omega),?_,?_⟩⟩
 .show (0:Int)<=((t.getD i 0).toNat:Int);omega
 .have:=(t.getD i 0).toNat_lt;show ((t.getD i 0).toNat:Int)<256;omega
open Go Go.Sx Go.RowKit
set_option maxHeartbeats 2000000
set_option maxHeartbeats 40000000
structure oZ(a b:Int):Prop where
 h:a=b
set_option maxHeartbeats 2000000
structure Rq where
 id:Int
 method:List UInt8
 target:List UInt8
 host:List UInt8
 fields:List HF
 body:List UInt8
structure M1(r:Rq)(nl:Bool)(n:Int)(f:Nat->List SV):Prop where
 xv:-9223372036854775808<=r.id
 xu:r.id<=9223372036854775807
 method:r.method.length<=9223372036854775807
 target:r.target.length<=9223372036854775807
 host:r.host.length<=9223372036854775807
 body:r.body.length<=9223372036854775807
 row:A0 f n r.fields
 nil:nl=true->r.fields=[]
def T4:List UInt8:=[72,111,115,116]
def EJ:List UInt8:=[88,45,82,101,113,117,101,115,116,45,73,100]
def OF:List UInt8:=[67,111,110,116,101,110,116,45,76,101,110,103,116,104]
def FD:List UInt8:=[80,79,83,84]
def SN:List UInt8:=[80,85,84]
def wa:List UInt8:=[80,65,84,67,72]
def iN:List UInt8:=[67,79,78,78,69,67,84]
def sId:List UInt8:=[105,100]
def Ag0:List UInt8:=[109,101,116,104,111,100]
def jl:List UInt8:=[116,97,114,103,101,116]
def wb:List UInt8:=[104,111,115,116]
def jm:List UInt8:=[102,105,101,108,100,115]
def rj:List UInt8:=[98,111,100,121]
def Z4(r:Rq):Bool:=((r.body != []||r.method==FD)||r.method==SN)||r.method==wa
def Cn(r:Rq):List HF×Int :=
 if (Ev r.fields).2≠0 then ([],(Ev r.fields).2) else
 (([⟨T4,r.host⟩,⟨EJ,Lib.itoa r.id⟩]++(Ev r.fields).1)++(if Z4 r then [⟨OF,Lib.itoa r.body.length⟩] else []),0)
theorem A0.app{n m:Int}{b:List HF}(R:A0 f n a)(S:A0 g m b)(h:Mw f' n' n m f g)(hl:a.length+b.length<=9223372036854775807):A0 f' n' (a++b):=by
 have hn:=R.n;have hm:=S.n;refine⟨by rw[h.len,hn,hm,QF];omega,λi hi=>?_,by rw[QF];exact hl,λi hi=>?_⟩
 .rw[QF]at hi
  rw[QD,YR]
  split
  .rename_i h1
   rw[h.lo i (by omega),R.f i h1,QD]
  .rename_i h1
   rw[h.hi i (i-a.length) (by omega) (by omega),S.f _ (by omega),QD]
 .rw[QF]at hi
  rw[QD,YR]
  split
  .rename_i h1
   have:=R.small i h1
   rwa [QD]at this
  .rename_i h1
   have:=S.small (i-a.length) (by omega)
   rwa [QD]at this
theorem A0.one{x:HF}(h:f 0=D3 x)(hs:x.small):A0 f 1 [x]:=by
 refine⟨rfl,λi hi=>?_,by simp,λi hi=>?_⟩
 .have:i=0:=by simpa using hi
  subst this;exact h
 .have:i=0:=by simpa using hi
  subst this;exact hs
theorem A0.two{x y:HF}(h:f 0=D3 x)(h1:f 1=D3 y)(hs:x.small)(cC:y.small):A0 f 2 [x,y]:=by
 refine⟨rfl,λi hi=>?_,by simp,λi hi=>?_⟩
 .match i,hi with
  |0,_=>exact h
  |1,_=>exact h1
 .match i,hi with
  |0,_=>exact hs
  |1,_=>exact cC
theorem Nf(l:List HF):(Ev l).2=0->(Ev l).1.length<=100:=by
 intro h;unfold Ev at h ⊢
 split
 .simp
 .rename_i h1
  rw[QA h1]at h;have h1:A9 l=0:=by simpa using h1
  have:=D6 h1
  split
  .have:=Mo (Jz l).1 l
   simp only;omega
  .simp
theorem Va{n:Int}(h1:-9223372036854775808<=n)(h2:n<=9223372036854775807):(Lib.itoa n).length<=9223372036854775807:=by
 have:=Lib.itoa_length_le n h1 h2;omega
def pM:aB:=λ_ xs ls K=>∃(r:Rq) (nl:Bool) (n:Int) (f:Nat->List SV),xs=[.agg [.int .i64 (.a r.id),.str r.method,.str r.target,.str r.host,.sl (.a nl) (.a n) 2 f,.str r.body]]/\ls=[]/\M1 r nl n f/\
 ∀l e nb n' g,(l,e)=Cn r->A0 g n' l->nb=(e != 0)->K (.aI [.sl (.a nb) (.a n') 2 g,.int .i64 (.a e)]) []
theorem rowOf(l:List HF)(h:l.length<=9223372036854775807)(hs:∀i,i<l.length->(l.getD i default).small):∃g n,A0 g n l:=⟨_,_,A0.row h hs⟩
theorem Hi{b:List HF}(h:∀i,i<a.length->(a.getD i default).small)(h2:∀i,i<b.length->(b.getD i default).small):∀i,i<(a++b).length->((a++b).getD i default).small:=by
 intro i hi;rw[QF]at hi;rw[QD,YR]
 split
 .rename_i h1
  have:=h i h1
  rwa [QD]at this
 .rename_i h1
  have:=h2 (i-a.length) (by omega)
  rwa [QD]at this
theorem Oe(h:∀i,i<l.length->(l.getD i default).small):∀i,i<(Ev l).1.length->((Ev l).1.getD i default).small:=by
 unfold Ev
 split
 .intro i hi;simp at hi
 .split
  .exact L0 h
  .intro i hi;simp at hi
theorem Vl(hD:D=dn){nb:Bool}{n n2 e:Int}{g2:Nat->List SV}{x:BT}{z:ST}(h1:x.den=nb)(R:A0 g2 n2 l)(h2:y.den=n2)(h3:z.den=e)(R2:A0 g n l):
  Fin (.aI [.sl (.a (D.b x)) (.a (D.i y)) 2 g2,.int .i64 (.a (D.i z))]) (.aI [.sl (.a nb) (.a n) 2 g,.int .i64 (.a e)]) [] []:=by
 subst hD h1 h3;have hn:n2=n:=by rw[R.n,R2.n]
 refine Cm (aM.aI (jS.cons (aM.sl rfl (by show y.den=n;rw[h2,hn]) λi hi=>?_) (jS.refl _)));have hi:(i:Int)<y.den:=hi;have:=R.n;rw[R.f i (by omega),R2.f i (by omega)]
theorem Aed:Ap Tryz.prog gl 256 pM:=by
 refine Bq (gh:=[]) mixed Ck (Aa Alc (Aa z6 (Aa lz Ae))) Tryz.func256 (by kernel_rfl) (by kernel_rfl) ?_;intro xs ls K h;unfold pM at h;obtain⟨r,nl,n,f,rfl,rfl,R,h⟩:=h;obtain⟨k,hk⟩:∃k,k=Cn r:=⟨_,rfl⟩;obtain⟨kl,ke⟩:=k;have jO:∀x:HF,∀(a b:List UInt8),x=⟨a,b⟩->a.length<=100->b.length<=9223372036854775807->x.small:=λx a b e h1 h2=>by subst e;exact⟨by show a.length<=_;omega,h2⟩
 have nZ:HF.small ⟨T4,r.host⟩:=jO _ _ _ rfl (by decide) R.host;have xw:HF.small ⟨EJ,Lib.itoa r.id⟩:=jO _ _ _ rfl (by decide) (Va R.xv R.xu);have tI:HF.small ⟨OF,Lib.itoa r.body.length⟩:=jO _ _ _ rfl (by decide) (Va (by omega) (by have:=R.body;omega));have hg:∃g n',A0 g n' kl:=by
  unfold Cn at hk
  split at hk
  .simp only[Prod.mk.injEq]at hk
   rw[hk.1];exact rowOf [] (by simp) (λi hi=>absurd hi (by simp))
  .rename_i h1
   have h1:(Ev r.fields).2=0:=by simpa using h1
   have h2:=Nf _ h1;simp only[Prod.mk.injEq]at hk;rw[hk.1];refine rowOf _ ?_ (Hi (Hi (λi hi=>?_) (Oe R.row.small)) ?_)
   .simp only[QF]
    split<;>simp<;>omega
   .match i,hi with
    |0,_=>exact nZ
    |1,_=>exact xw
   .split
    .intro i hi
     have:i=0:=by simpa using hi
     subst this;exact tI
    .intro i hi;simp at hi
 obtain⟨g,n2,R2⟩:=hg;obtain⟨nb,iK⟩:∃nb,nb=(ke != 0):=⟨_,rfl⟩;refine⟨_,_,h kl ke nb n2 g hk R2 iK,λD hD=>?_⟩;clear h;obtain⟨id,me,ta,ho,fs,bo⟩:=r;simp only at R nZ xw tI;unfold Cn at hk;simp only at hk;cbv;refine⟨fs,_,_,f,rfl,rfl,by subst hD;exact R.row,by subst hD;exact R.nil,λl e TF n3 g3 hl RR uQ=>?_⟩;have iU:=Nf fs;rw[<-hl]at iU hk;simp only at iU hk;have R3:=RR.row;clear RR hl;cbv;refine br hD (λh=>?_) (λh=>?_)<;>cbv
 .have h1:e≠0:=by simpa using h
  rw[QC h1]at hk;simp only[Prod.mk.injEq]at hk;obtain⟨rfl,rfl⟩:=hk;exact Vl hD (by rw[iK];simp[h1]) (l:=[]) ⟨rfl,λi hi=>absurd hi (by simp),by simp,λi hi=>absurd hi (by simp)⟩ rfl rfl R2
 have h1:e=0:=by simpa using h
 rw[QA (by simp[h1])]at hk;have hl3:=iU h1;clear h iU;refine⟨_,_,rfl,rfl,by subst hD;exact R.xv,by subst hD;exact R.xu,by subst hD;rfl,λids nd=>?_⟩;cbv;have nd:ids=Lib.itoa id:=by subst hD;exact nd
 rw[<-nd]at hk xw;clear nd;intro f2 fB;cbv;have hR2:A0 f2 2 [⟨T4,ho⟩,⟨EJ,ids⟩]:=A0.two (fB.h 0 _ rfl) (fB.h 1 _ rfl) nZ xw;clear fB;have IX:=R3.n;refine⟨?_,λf4 n4 hm=>?_⟩
 .subst hD
  refine⟨rfl,?_,?_⟩
  .show ((2:Int)+n3) * 32<=140737488355328
   omega
  .show (2:Int)+n3<=9223372036854775807
   omega
 cbv;have R4:A0 f4 n4 ([⟨T4,ho⟩,⟨EJ,ids⟩]++l):=hR2.app R3 (by subst hD;exact hm) (by simp only[QH,QV];omega);clear hm hR2 IX;have ON:(([⟨T4,ho⟩,⟨EJ,ids⟩]:List HF)++l).length<=102:=by simp;omega
 obtain⟨l4,JB⟩:∃l4,l4=([⟨T4,ho⟩,⟨EJ,ids⟩]:List HF)++l:=⟨_,rfl⟩;rw[<-JB]at hk R4 ON;clear JB;refine br hD (λh=>?_) (λh=>?_)<;>cbv
 .have hb:Z4 ⟨id,me,ta,ho,fs,bo⟩=true:=h
  rw[QC hb]at hk;clear h hb;refine⟨_,rfl,rfl,by subst hD;show -9223372036854775808<=(bo.length:Int);omega,by subst hD;show (bo.length:Int)<=_;have:=R.body;simp only at this;omega,λbs yY=>?_⟩;cbv;have yY:bs=Lib.itoa (bo.length:Int):=by subst hD;exact yY
  rw[<-yY]at hk tI;clear yY;intro f5 hf5;cbv;have hR5:A0 f5 1 [⟨OF,bs⟩]:=A0.one (hf5.h 0 _ rfl) tI;clear hf5;refine⟨by subst hD;exact⟨rfl,by have:=R4.n;show (n4+1) * 32<=_;omega,by have:=R4.n;show n4+1<=_;omega⟩,λf6 n6 hm=>?_⟩;cbv;have R6:A0 f6 n6 (l4++[⟨OF,bs⟩]):=R4.app hR5 (by subst hD;exact hm) (by simp only[QH,QV];omega);clear hm;simp only[Prod.mk.injEq]at hk;obtain⟨eZ,dC⟩:=hk;subst eZ dC;exact Vl hD (by rw[iK];rfl) R6 rfl rfl R2
 .have hb:Z4 ⟨id,me,ta,ho,fs,bo⟩=false:=h
  rw[QA (by rw[hb];simp),YT]at hk;simp only[Prod.mk.injEq]at hk;obtain⟨eZ,dC⟩:=hk;subst eZ dC;exact Vl hD (by rw[iK];rfl) R4 rfl rfl R2
set_option maxHeartbeats 4000000
def BZ:List UInt8:=[48,49,50,51,52,53,54,55,56,57]
theorem AN(c:UInt8):BZ.contains c=true↔48<=c.toNat/\c.toNat<=57:=by
 have:∀n:Fin 256,BZ.contains (UInt8.ofNat n.1)=true↔48<=n.1/\n.1<=57:=by decide
 have h:=this ⟨c.toNat,c.toNat_lt⟩;simpa using h
theorem Lb(p:UInt8->Bool):∀l:List UInt8,(l.dropWhile p).dropWhile p=l.dropWhile p
 | []=>rfl
 |c :: r=>by
  by_cases h:p c=true
  .rw[YU h,Lb p r]
  .rw[ZQ h,ZQ h]
theorem dropWhile_nil(p:UInt8->Bool):∀l:List UInt8,l.dropWhile p=[]↔∀x∈l,p x=true
 | []=>by simp
 |c :: r=>by
  by_cases h:p c=true
  .rw[YU h,dropWhile_nil p r]
   simp[h]
  .rw[ZQ h]
   simp[h]
theorem Aiq{l cs:List UInt8}(h:Lib.trimS l cs=[]):∀c∈l,cs.contains c=true:=by
 have h:((l.reverse.dropWhile (λx=>cs.contains x)).reverse).dropWhile (λx=>cs.contains x)=[]:=h;rw[dropWhile_nil]at h;have h2:(l.reverse.dropWhile (λx=>cs.contains x)).dropWhile (λx=>cs.contains x)=[]:=by
  rw[dropWhile_nil];exact λx hx=>h x (List.mem_reverse.2 hx)
 rw[Lb,dropWhile_nil]at h2;exact λc hc=>h2 c (List.mem_reverse.2 hc)
theorem Bo.sub{n:Int}{a b:Nat}{A B:Int}(R:Bo f n t)(h:Aoo f' n' f A B)(hA:A=a)(hB:B=b)(hab:a<=b)(hb:b<=t.length):Bo f' n' ((t.drop a).take (b-a)):=by
 refine⟨by rw[h.len,hA,hB,QW,QX];omega,λi hi=>?_⟩;rw[QW,QX]at hi;rw[h.row i (i+a) (by rw[hA];omega),R.f (i+a) (by omega)];rw[QD,QD,QN,QC (by omega),XG,Nat.add_comm a i]
theorem Qz(c:UInt8)(s:List UInt8):(Bh c s).1.length<=s.length/\(Bh c s).2.1.length<=s.length:=by
 induction s with
 |nil=>exact⟨QK _,QK _⟩
 |cons b r ih=>unfold Bh;split<;>simp<;>omega
end Go.Proofs.YtdoogdbjiijifaaGreatDoor
