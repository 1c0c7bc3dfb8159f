/- A part of the proof: contracts of functions, or the executor and its soundness. No conditions. -/
import Derived.Lib.ItoaLen
import Derived.Test.YtdoogdbjiijifaaGreatDoorE7Pay
namespace Go.Proofs.YtdoogdbjiijifaaGreatDoor
open Go Go.Sx
set_option maxRecDepth 100000
set_option maxHeartbeats 8000000
def Vs(l:List HF)(i:Nat):List SV:=match l[i]? with
 |some x=>Dk x
 |none=>[]
variable {l a b:List HF}{i c m e:Nat}{I n:Int}{f g:Nat->List SV}{D:Dn}{x y:ST}{s t:List UInt8}
theorem Anz(h:i<l.length):Vs l i=Dk (l.getD i default):=by
 unfold Vs;rw[QA h,QC,QA h];rfl
theorem A3.row(h:l.length<=9223372036854775807)(hs:∀i,i<l.length->(l.getD i default).small):A3 (Vs l) l.length l:=⟨rfl,λ_ hi=>Anz hi,h,hs⟩
def qB:aD:=λ_ xs ls K=>∃(l:List HF) (nl:Bool) (n:Int) (f:Nat->List SV),xs=[.sl (.a nl) (.a n) 2 f]/\ls=[]/\A3 f n l/\l.length<=100000/\(nl=true->l=[])/\
 ∀g n',A3 g n' l->K (.bY (.a nl) (.a n') 0) [.own 100 (.a n') 2 true g]
theorem Ao8:Aw Tryz.prog gl 82 qB:=by
 refine Bd (gh:=[(2,[.own 2 100]),(3,[]),(999985,[])]) mixed Be Ai Tryz.func82 (by kernel_rfl) (by kernel_rfl) ?_;intro xs ls K h;unfold qB at h;obtain⟨l,nl,n,f,rfl,rfl,R,hl,hn,h⟩:=h;obtain⟨g,hg⟩:∃g,g=Vs l:=⟨_,rfl⟩;obtain⟨n0,jL⟩:∃n0:Int,n0=l.length:=⟨_,rfl⟩;have R0:A3 g n0 l:=by rw[hg,jL];exact A3.row R.len R.small
 refine⟨_,_,h g n0 R0,λD hD=>?_⟩;clear h jL hg;cbv;refine br hD (λh=>?_) (λh=>?_)<;>cbv
 .have h2:nl=true:=h
  have h3:=hn h2;subst h2 h3;subst hD;have jL:n0=0:=R0.n;subst jL;exact V8 (Add rfl rfl) rfl λi hi=>absurd hi (by show ¬((i:Int)<0);omega)
 .have h2:nl=false:=h
  subst h2;intro f0 h0;clear h0;cbv;refine⟨?_,λf1 n1 hm=>?_⟩
  .subst hD;exact⟨rfl,by have:=R.n;show ((0:Int)+n) * 32<=_;omega,by have:=R.n;show (0:Int)+n<=_;omega⟩
  cbv;have e1:n1=n0:=by subst hD;have:=R.n;have:=R0.n;have h5:n1=0+n:=hm.len;omega
  have e2:∀i,i<l.length->f1 i=g i:=by
   intro i hi;rw[hm.hi i i (by subst hD;show (i:Int)=0+i;omega) (by subst hD;have:=R.n;show (i:Int)<n;omega),R.f i hi,R0.f i hi]
  clear hm;subst hD;refine V8 (Add rfl ?_) ?_ λi hi=>e2 i (by have:=R0.n;have hi:(i:Int)<n1:=hi;omega)
  .exact e1
  .exact e1
def wS:aD:=λ_ xs ls K=>∃(a b:List UInt8) (F:List UInt8->Bool),xs=[.agg [.str a,.str b],.ptr 0 0]/\ls=[.aE 314 [.bP 1],.dC F]/\a.length<=9223372036854775807/\
 ∀r,r=F (Bg a)->K (.bool (.a r)) [.aE 314 [.bP 1],.dC F]
theorem Ao0:Aw Tryz.prog gl 309 wS:=by
 refine MW (gh:=[]) mixed Be (Ab Pg Ai) Tryz.func309 (by kernel_rfl) (by kernel_rfl) ?_;intro xs ls K h;unfold wS at h;obtain⟨a,b,F,rfl,rfl,ha,h⟩:=h;refine⟨_,_,h _ rfl,λD hD=>?_⟩;clear h;obtain⟨k,hk⟩:∃k,k=F (Bg a):=⟨_,rfl⟩;rw[<-hk];cbv;refine⟨a,rfl,rfl,ha,λt ht=>?_⟩;have ht:t=Bg a:=ht;cbv;rw[ht,<-hk];subst hD;exact Ce rfl rfl
def O4(F:List UInt8->Bool)(x:HF):Bool:=!F (Bg x.name)
def Vr(p:HF->Bool):List HF->Int->Int
 | [],_=>-1
 |x :: l,i=>if p x then i else Vr p l (i+1)
def Agr(F:List UInt8->Bool)(l:List HF):Int:=Vr (λx=>F (Bg x.name)) l 0
def wM:aD:=λ_ xs ls K=>∃(l:List HF) (F:List UInt8->Bool) (nl:Bool) (n:Int) (f:Nat->List SV),xs=[.bY (.a nl) (.a n) 0,.fI 309 [.ptr 1 0]]/\ls=[.own 100 (.a n) 2 true f,.aE 314 [.bP 2],.dC F]/\A3 f n l/\
 ∀r,r=Agr F l->K (.int .i64 (.a r)) [.own 100 (.a n) 2 true f,.aE 314 [.bP 2],.dC F]
structure IxJ(k:Int)(F:List UInt8->Bool)(l:List HF)(i:Nat)(I:Int)(m:Nat):Prop where
 aZ:AtR l i I m
 k:k=Vr (λx=>F (Bg x.name)) (l.drop i) I
def ixJ(k:Int)(F:List UInt8->Bool)(l:List HF)(nl:Bool)(n:Int)(f:Nat->List SV)(m:Nat)(vs:List (Option SV))(hp:List Hl):Prop :=
 ∃(i:Nat) (I:Int),vs=[some (.bY (.a nl) (.a n) 0),some (.fI 309 [.ptr 1 0]),some (.int .i64 (.a n)),some (.int .i64 (.a I))]/\hp=[.own 100 (.a n) 2 true f,.aE 314 [.bP 2],.dC F]/\IxJ k F l i I m
theorem eb:Aw Tryz.prog gl 246 wM:=by
 refine MW (gh:=[]) mixed Be (Hh Ao0 Ai) Tryz.func246 (by kernel_rfl) (by kernel_rfl) ?_;intro xs ls K h;unfold wM at h;obtain⟨l,F,nl,n,f,rfl,rfl,R,h⟩:=h;obtain⟨k,hk⟩:∃k,k=Agr F l:=⟨_,rfl⟩;refine⟨_,_,h k hk,λD hD=>?_⟩;clear h;obtain⟨J,hJ⟩:∃J,J=ixJ k F l nl n f:=⟨_,rfl⟩;cbv;refine⟨[0,1,7,8],J,⟨rfl,l.length,?_⟩,?_⟩
 .rw[hJ]
  subst hD;exact⟨0,0,rfl,rfl,AtR.zero R.len,hk⟩
 intro m vs hp hj;rw[hJ]at hj;obtain⟨i,I,rfl,rfl,V⟩:=hj;clear hk;cbv;refine br hD (λh=>?_) (λh=>?_)<;>cbv
 .have aA:=V.aZ.lt R.n (QS (p:=I<n) h)
  clear h;refine⟨⟨by subst hD;rfl⟩,V.aZ.mP hD R.n aA,λj hj=>?_⟩;obtain rfl:=V.aZ.j hD hj;clear hj;have e1:=R.f j aA;have fF:=R.small j aA;have aR:=V.k;rw[Pn (d:=default) aA]at aR;obtain⟨x,hx⟩:∃x,x=l.getD j default:=⟨_,rfl⟩;rw[<-hx]at e1 aR fF;obtain⟨a,b⟩:=x;cbv;rw[e1];cbv;refine⟨⟨by subst hD;rfl⟩,⟨by subst hD;have:=R.n;show (j:Int)<n;omega⟩,?_⟩;refine⟨a,b,F,?_,?_,fF.1,λt ht=>?_⟩
  .rfl
  .rfl
  cbv;refine br hD (λh=>?_) (λh=>?_)<;>cbv
  .have h3:F (Bg a)=true:=by rw[<-ht];simpa using h
   subst hD;rw[aR,Vr,QE h3];exact Ce rfl rfl
  .have h3:F (Bg a)=false:=by rw[<-ht];simpa using h
   clear h;obtain⟨g1,g2⟩:=V.aZ.step hD aA;refine⟨_,g1,?_⟩;rw[hJ];unfold ixJ;subst hD;refine⟨j+1,_,rfl,rfl,g2,?_⟩;rw[aR,Vr,QD (by rw[h3];simp)];have h6:=g2.I;have h7:=V.aZ.I;rw[h6,h7];rfl
 .have hi:=V.aZ.eq R.n (QZ (p:=I<n) h)
  have aR:=V.k;rw[hi,ZR]at aR;clear h;subst hD;rw[aR];exact Ce rfl rfl
def Ee(F:List UInt8->Bool)(l:List HF):List HF:=l.filter (O4 F)
def wT:aD:=λ_ xs ls K=>∃(l:List HF) (F:List UInt8->Bool) (nl:Bool) (n:Int) (f:Nat->List SV),xs=[.bY (.a nl) (.a n) 0,.fI 309 [.ptr 1 0]]/\ls=[.own 100 (.a n) 2 true f,.aE 314 [.bP 2],.dC F]/\A3 f n l/\
 ∀g n',A3 g n' (Ee F l)->K (.sl (.a nl) (.a n') 2 g) [.gone,.aE 314 [.bP 2],.dC F]
structure af2(F:List UInt8->Bool)(l:List HF)(f:Nat->List SV)(j:Nat)(I J:Int)(m:Nat):Prop where
 aZ:AtR l j J m
 I:I=((Ee F (l.take j)).length:Int)
 row:∀k,k<(Ee F (l.take j)).length->f k=Dk ((Ee F (l.take j)).getD k default)
 rest:∀k,j<=k->k<l.length->f k=Dk (l.getD k default)
 rX:∀k,k<l.length->∃x,f k=Dk x
 lt:(Ee F (l.take j)).length<j
def yr(F:List UInt8->Bool)(l:List HF)(nl:Bool)(n:Int)(m:Nat)(vs:List (Option SV))(hp:List Hl):Prop :=
 ∃(j:Nat) (I J:Int) (f:Nat->List SV),vs=[some (.bY (.a nl) (.a n) 0),some (.fI 309 [.ptr 1 0]),some (.int .i64 (.a I)),some (.int .i64 (.a J))]/\hp=[.own 100 (.a n) 2 true f,.aE 314 [.bP 2],.dC F]/\af2 F l f j I J m
theorem Vp(F:List UInt8->Bool)(l:List HF){j:Nat}(h:j<l.length):Ee F (l.take (j+1))=Ee F (l.take j)++(if O4 F (l.getD j default) then [l.getD j default] else []):=by
 unfold Ee;rw[List.take_succ_eq_append_getElem h,List.filter_append,QC,QA h];congr 1;simp only[XB,YL,List.filter_nil]
theorem Yu{p:HF->Bool}:∀ {l:List HF} {i:Int},0<=i->Vr p l i=-1->l.filter (λx=>!p x)=l
 | [],_,_,_=>rfl
 |x :: l,i,hi,h=>by
  unfold Vr at h
  split at h
  .omega
  .rename_i hp
   rw[YL,QE (by simpa using hp),Yu (by omega) h]
theorem Yt{p:HF->Bool}:∀ {l:List HF} {i:Int},0<=i->Vr p l i≠-1->∃j:Nat,Vr p l i=i+j/\j<l.length/\p (l.getD j default)=true/\(l.take j).filter (λx=>!p x)=l.take j
 | [],_,_,h=>absurd rfl h
 |x :: l,i,hi,h=>by
  unfold Vr at h ⊢
  split at h
  .rename_i hp
   exact⟨0,by rw[QE hp];omega,by simp,by simpa using hp,by simp⟩
  .rename_i hp
   rw[QD hp];obtain⟨j,h1,h2,h3,h4⟩:=Yt (by omega) h;refine⟨j+1,by rw[h1];omega,by simp;omega,by simpa using h3,?_⟩;rw[UB,YL,QE (by simpa using hp),h4]
theorem Mc(F:List UInt8->Bool)(l:List HF):(Ee F l).length<=l.length:=ZX _ _
theorem Le{F:List UInt8->Bool}(h:∀i,i<l.length->(l.getD i default).small):∀i,i<(Ee F l).length->((Ee F l).getD i default).small:=by
 intro i hi;have hm:(Ee F l).getD i default∈l:=by
  rw[QC,QA hi];exact (List.mem_filter.1 (XQ hi)).1
 obtain⟨k,hk,e⟩:=List.mem_iff_getElem.1 hm;have:=h k hk
 rwa [QC,QA hk,XB,e]at this
theorem jt:Aw Tryz.prog gl 308 wT:=by
 refine MW (gh:=[(3,[.share 4])]) mixed Be (Hh eb (Hh Ao0 Ai)) Tryz.func308 (by kernel_rfl) (by kernel_rfl) ?_;intro xs ls K h;unfold wT at h;obtain⟨l,F,nl,n,f,rfl,rfl,R,h⟩:=h;obtain⟨l2,gW⟩:∃l2,l2=Ee F l:=⟨_,rfl⟩;obtain⟨g,hg⟩:∃g,g=Vs l2:=⟨_,rfl⟩;obtain⟨n2,wu⟩:∃n2:Int,n2=l2.length:=⟨_,rfl⟩;have R2:A3 g n2 l2:=by
  rw[hg,wu];refine A3.row ?_ ?_
  .have:=Mc F l;have:=R.len;rw[gW];omega
  .rw[gW];exact Le R.small
 refine⟨_,_,h g n2 (by rw[<-gW];exact R2),λD hD=>?_⟩;clear h wu hg;obtain⟨J,hJ⟩:∃J,J=yr F l nl n:=⟨_,rfl⟩;cbv;refine⟨l,F,nl,n,f,?_,?_,R,λi hi=>?_⟩
 .subst hD;rfl
 .subst hD;rfl
 cbv;refine br hD (λh=>?_) (λh=>?_)<;>cbv
 .have h2:i=-1:=by simpa using h
  clear h;have h3:Ee F l=l:=Yu (YK 0) (show Agr F l=-1 by rw[<-hi];exact h2);rw[h3]at gW;subst gW;refine⟨⟨by subst hD;rfl⟩,?_⟩;subst hD;refine⟨fE.sl rfl ?_ λk hk=>?_,vT.refl _,QK _⟩
  .show n=n2;rw[R.n,R2.n]
  .have hk:(k:Int)<n:=hk
   have:=R.n;rw[R.f k (by omega),R2.f k (by omega)]
 have h2:i≠-1:=by simpa using h
 clear h;obtain⟨i0,h3,h4,h5,h6⟩:=Yt (YK 0) (by rw[hi]at h2;exact h2);have h3:i=(i0:Int):=by rw[hi];show Vr _ l 0=_;rw[h3];omega
 have lW:Ee F (l.take (i0+1))=l.take i0:=by
  rw[Vp F l h4];have:O4 F (l.getD i0 default)=false:=by unfold O4;rw[h5];rfl
  rw[this,QD (by simp),YS];exact h6
 clear hi h2;refine⟨[0,1,5,6],J,⟨rfl,l.length-(i0+1),?_⟩,?_⟩
 .rw[hJ]
  subst hD;refine⟨i0+1,_,_,f,rfl,rfl,⟨by omega,?_,rfl,R.len⟩,?_,λk hk=>?_,λk _ hk=>R.f k hk,λk hk=>⟨_,R.f k hk⟩,?_⟩
  .have:=R.len
   show IntKind.i64.wrap (i+1)=_;rw[h3,wrap64 (by omega) (by omega)];omega
  .rw[lW,ZF];show i=_;omega
  .rw[lW]at hk ⊢
   rw[ZF]at hk;rw[R.f k (by omega),QC,QC,QL,QE (by omega)]
  .rw[lW,ZF];omega
 clear h3 h4 h5 h6 lW;intro m vs hp hj;rw[hJ]at hj;obtain⟨j,I,Jv,f1,rfl,rfl,V⟩:=hj;cbv;refine br hD (λh=>?_) (λh=>?_)<;>cbv
 .have aA:=V.aZ.lt R.n (QS (p:=Jv<n) h)
  clear h;refine⟨⟨by subst hD;rfl⟩,V.aZ.mP hD R.n aA,λq hq=>?_⟩;obtain rfl:=V.aZ.j hD hq;clear hq;have e1:=V.rest q (QK q) aA;have fF:=R.small q aA;have fg:=Vp F l aA;obtain⟨x,hx⟩:∃x,x=l.getD q default:=⟨_,rfl⟩;rw[<-hx]at e1 fg fF;obtain⟨a,b⟩:=x;cbv;rw[e1];cbv;refine⟨⟨by subst hD;rfl⟩,⟨by subst hD;have:=R.n;show (q:Int)<n;omega⟩,?_⟩;refine⟨a,b,F,?_,?_,fF.1,λt ht=>?_⟩
  .rfl
  .rfl
  cbv;refine br hD (λh=>?_) (λh=>?_)<;>cbv
  .have h3:O4 F ⟨a,b⟩=true:=by
    have h:(!t)=true:=h;unfold O4;rw[<-h,ht]
   clear h;rw[QE h3]at fg;refine⟨⟨by subst hD;rfl⟩,?_,λp hp=>?_⟩
   .subst hD
    have h1:=V.I;have h2:=V.lt;have:=R.n;exact⟨by show 0<=I;omega,by show I<n;omega⟩
   have rK:p=(Ee F (l.take q)).length:=by
    have hp:(p:Int)=I:=by subst hD;exact hp.h
    have:=V.I;omega
   clear hp;have VZ:p<l.length:=by have:=V.lt;omega
   obtain⟨y,hy⟩:=V.rX p VZ;obtain⟨c,d⟩:=y;cbv;refine⟨⟨by subst hD;rfl⟩,⟨by subst hD;have:=R.n;show (p:Int)<n;omega⟩,?_⟩;rw[hy];cbv;intro f2 iR;cbv;obtain⟨g1,g2⟩:=V.aZ.step hD aA
   generalize hgm:l.length-(q+1)=m' at g1 g2
   refine⟨m',g1,?_⟩;rw[hJ];unfold yr;subst hD;have xr:f2 p=Dk ⟨a,b⟩:=iR.at_;have WK:(Ee F (l.take (q+1))).length=p+1:=by rw[fg,QW,<-rK];rfl
   refine⟨q+1,_,_,f2,rfl,rfl,g2,?_,λk hk=>?_,λk hk aR=>?_,λk hk=>?_,?_⟩
   .rw[WK]
    have h1:=V.I;have h3:=R.len;show IntKind.i64.wrap (I+1)=_;rw[wrap64 (by omega) (by omega)];omega
   .rw[WK]at hk
    rw[fg]
    by_cases e:k=p
    .subst e
     rw[xr,QC,QU (by omega),<-rK,UC];rfl
    .rw[iR.other k e,V.row k (by omega),QC,QC,QJ (by omega)]
   .have h4:=V.lt
    rw[iR.other k (by omega)];exact V.rest k (by omega) aR
   .by_cases e:k=p
    .subst e;exact⟨_,xr⟩
    .rw[iR.other k e];exact V.rX k hk
   .rw[WK];have:=V.lt;omega
  .have h3:O4 F ⟨a,b⟩=false:=by
    have h:(!t)=false:=h;unfold O4;rw[<-h,ht]
   clear h;rw[QD (by rw[h3];simp),YS]at fg;obtain⟨g1,g2⟩:=V.aZ.step hD aA
   generalize hgm:l.length-(q+1)=m' at g1 g2
   refine⟨m',g1,?_⟩;rw[hJ];unfold yr;subst hD;refine⟨q+1,_,_,f1,rfl,rfl,g2,?_,?_,λk hk=>V.rest k (by omega),V.rX,?_⟩
   .rw[fg];exact V.I
   .rw[fg];exact V.row
   .rw[fg];have:=V.lt;omega
 .have hi:=V.aZ.eq R.n (QZ (p:=Jv<n) h)
  clear h;have aR:Ee F (l.take j)=l2:=by rw[hi,List.take_length,gW]
  have hI:I=(l2.length:Int):=by rw[<-aR];exact V.I
  have hle:l2.length<=l.length:=by rw[gW];exact Mc F l
  have aP:∀k,k<l2.length->f1 k=Dk (l2.getD k default):=by rw[<-aR];exact V.row
  have R1:I=n2:=by rw[R2.n];exact hI
  have R3:0<=n2/\n2<=n:=by have:=R2.n;have:=R.n;omega
  clear aR hI V;refine⟨⟨by subst hD;rfl⟩,by subst hD;exact⟨by show 0<=I;omega,by show I<=n;omega,YK _⟩,?_⟩;refine⟨⟨by subst hD;rfl⟩,λf3 IP=>?_⟩;cbv;refine⟨⟨by subst hD;rfl⟩,by subst hD;exact⟨YK _,by show 0<=I;omega,by show I<=n;omega⟩,?_⟩;subst hD;refine⟨fE.sl rfl R1 λk hk=>?_,vT.refl _,QK _⟩;have hk:(k:Int)<I:=hk;have h4:k<l2.length:=by have:=R2.n;omega
  rw[IP.lo k hk,aP k h4,R2.f k h4]
def Ci(l:List HF):List HF×Int :=
 if Bh l≠0 then ([],Bh l) else if (Ie l).2 then (Ee (Ie l).1 l,0) else ([],6)
structure ae5(l:List HF)(nb:Bool)(n:Int)(f:Nat->List SV):Prop where
 row:A3 f n l
 nil:nb=true->l=[]
def tG:aD:=λ_ xs ls K=>∃(l:List HF) (nl:Bool) (n:Int) (f:Nat->List SV),xs=[.sl (.a nl) (.a n) 2 f]/\ls=[]/\A3 f n l/\(nl=true->l=[])/\
 ∀r e nb n' g,(r,e)=Ci l->ae5 r nb n' g->(nb=(nl||e != 0))->K (.tup [.sl (.a nb) (.a n') 2 g,.int .i64 (.a e)]) []
theorem Dl(h:Bh l=0):l.length<=100:=by
 unfold Bh at h
 split at h
 .cases h
 .omega
theorem Al5:Aw Tryz.prog gl 288 tG:=by
 refine MW (gh:=[]) mixed Be (Hh ey (Hh Ao8 (Hh jt Ai))) Tryz.func288 (by kernel_rfl) (by kernel_rfl) ?_;intro xs ls K h;unfold tG at h;obtain⟨l,nl,n,f,rfl,rfl,R,iX,h⟩:=h;obtain⟨k,hk⟩:∃k,k=Ci l:=⟨_,rfl⟩;obtain⟨kr,ke⟩:=k;obtain⟨g,hg⟩:∃g,g=Vs kr:=⟨_,rfl⟩;obtain⟨n2,wu⟩:∃n2:Int,n2=kr.length:=⟨_,rfl⟩;have gO:kr=[]\/kr=Ee (Ie l).1 l:=by
  unfold Ci at hk
  split at hk
  .simp only[Prod.mk.injEq]at hk;exact .inl hk.1
  .split at hk
   .simp only[Prod.mk.injEq]at hk;exact .inr hk.1
   .simp only[Prod.mk.injEq]at hk;exact .inl hk.1
 have R2:A3 g n2 kr:=by
  rw[hg,wu];rcases gO with rfl|rfl
  .exact⟨rfl,λi hi=>absurd hi (by simp),by simp,λi hi=>absurd hi (by simp)⟩
  .refine A3.row ?_ (Le R.small)
   have:=Mc (Ie l).1 l;have:=R.len;omega
 obtain⟨nb,eY⟩:∃nb,nb=(nl||ke != 0):=⟨_,rfl⟩;refine⟨_,_,h kr ke nb n2 g hk ⟨R2,λhb=>?_⟩ eY,λD hD=>?_⟩
 .rcases gO with h1|h1
  .exact h1
  .rw[eY]at hb
   simp only[ZB,bne_iff_ne,ne_eq]at hb;rcases hb with hb|hb
   .rw[h1,iX hb];rfl
   .unfold Ci at hk
    split at hk
    .simp only[Prod.mk.injEq]at hk;exact hk.1
    .split at hk
     .simp only[Prod.mk.injEq]at hk;exact absurd hk.2 hb
     .simp only[Prod.mk.injEq]at hk;exact hk.1
 clear h hg wu;unfold Ci at hk;cbv;refine⟨l,_,_,f,rfl,rfl,by subst hD;exact R,λk bD=>?_⟩;unfold MY at bD;obtain⟨ce,hce⟩:∃ce,ce=Bh l:=⟨_,rfl⟩;rw[<-hce]at bD hk
 by_cases h1:ce≠0
 .rw[QE h1]at bD hk
  rw[bD];cbv;refine br hD (λh=>?_) (λh=>?_)
  .cbv
   simp only[Prod.mk.injEq]at hk;obtain⟨rfl,rfl⟩:=hk;subst hD;refine⟨fE.tup (nE.cons (fE.sl ?_ ?_ λi hi=>absurd hi (by show ¬((i:Int)<0);omega)) (nE.refl _)),vT.refl _,QK _⟩
   .show true=nb
    rw[eY];simp[h1]
   .show 0=n2;rw[R2.n];rfl
  .cbv
   exact absurd h (by simp[BT.den,Bl,h1])
 .have lY:Bh l=0:=by rw[<-hce];simpa using h1
  rw[QD h1]at bD hk
  by_cases h2:(Ie l).2=true
  .rw[QE h2]at bD hk
   simp only[Prod.mk.injEq]at hk;obtain⟨rfl,rfl⟩:=hk;obtain⟨F,hF⟩:∃F,F=(Ie l).1:=⟨_,rfl⟩;rw[<-hF]at bD R2;rw[bD];cbv;refine br hD (λh=>?_) (λh=>?_)
   .cbv
    exact absurd h (by simp[BT.den,Bl])
   cbv;refine⟨l,nl,n,f,?_,rfl,R,by have:=Dl lY;omega,iX,λg1 n1 R1=>?_⟩
   .subst hD;rfl
   cbv;refine⟨l,F,nl,n1,g1,?_,?_,R1,λg3 n3 R3=>?_⟩
   .subst hD;rfl
   .subst hD;rfl
   cbv;subst hD;refine⟨fE.tup (nE.cons (fE.sl ?_ ?_ λi hi=>?_) (nE.refl _)),vT.refl _,QK _⟩
   .show nl=nb
    rw[eY];simp
   .show n3=n2;rw[R2.n,R3.n]
   .have hi:(i:Int)<n3:=hi
    have:=R3.n;rw[R3.f i (by omega),R2.f i (by omega)]
  .rw[QD h2]at bD hk
   simp only[Prod.mk.injEq]at hk;obtain⟨rfl,rfl⟩:=hk;rw[bD];cbv;refine br hD (λh=>?_) (λh=>?_)
   .cbv
    subst hD;refine⟨fE.tup (nE.cons (fE.sl ?_ ?_ λi hi=>absurd hi (by show ¬((i:Int)<0);omega)) (nE.refl _)),vT.refl _,QK _⟩
    .show true=nb
     rw[eY];simp
    .show 0=n2;rw[R2.n];rfl
   .cbv
    exact absurd h (by simp[BT.den,Bl])
set_option maxHeartbeats 40000000
def aw:aD:=λ_ xs ls K=>xs=[]/\ls=[]/\∀R,R=eK->K (.agg R) []
def ttK(Z:List SV):List (Nat×TI):=[
 (3,⟨.int .i64,1,8,[.int .i64 (.l 0)]⟩),
 (4,⟨.bool,1,1,[.bool (.l false)]⟩),
 (5,⟨.int .u8,1,1,[.int .u8 (.l 0)]⟩),
 (9,⟨.string,1,16,[.str []]⟩),
 (28,⟨.int .i64,1,8,[.int .i64 (.l 0)]⟩),
 (22,⟨.slice 5,1,24,[(.sl (.l true) (.l 0) 1 λ_=>[])]⟩),
 (261,⟨.array 256 5,256,256,Z⟩)]
def kP:List SV:=List.replicate 256 (.int .u8 (.l 0))
theorem th:nc Tryz.prog (ttK kP)=true:=by kernel_rfl
theorem q8{Z:List SV}(hZ:Z=kP){fC:List (Nat×aD)}{gl:List (Nat×SV)}{gh:List (Nat×List Gh)}{its:List (Nat×(aD->aD))}{yl:List aD}:Az Tryz.prog ⟨dn,ttK Z,fC,gl,[],gh,its,yl⟩:=by
 subst hZ;exact⟨rfl,th,λ_ h=>(by cases h)⟩
def Xg:List Nat:=[33,36,38,39,40,41,42,43,44,59,61,58,64,47]
def c7(i:Nat)(c:Nat):ST:=if c∈Xg.take i then .a 2 else .l 0
def sh(_:Nat):List SV:=[.int .u8 (.l 0)]
theorem Tt:zx sh 256 1 kP:=by
 refine⟨⟨λi r h=>?_⟩⟩;unfold kP at h;have h2:=Nw 256 i _ r h;have hi:i<256:=by
  rcases ZS i 256 with h3|h3
  .exact h3
  .have:(chunks 1 256 (List.replicate 256 (.int .u8 (.l 0)))).length=256:=by kernel_rfl
   rw[QV (by omega)]at h;cases h
 rw[h2,Ax,A5,VS,List.drop_replicate,List.take_replicate];have:min 1 (256-i)=1:=by omega
 rw[this];rfl
structure KaV(i:Nat)(I:Int)(f:Nat->List SV)(m:Nat):Prop where
 I:I=i
 le:i<=14
 m:m=14-i
 row:∀c,c<256->f c=[.int .u8 (c7 i c)]
def kaJ(z fl:Nat->List SV)(m:Nat)(vs:List (Option SV))(hp:List Hl):Prop :=
 ∃(i:Nat) (I:Int) (f:Nat->List SV),vs=[some (.ptr 0 0),some (.ptr 1 0),some (.bY (.a false) (.a 14) 2),some (.int .i64 (.a 14)),some (.int .i64 (.a I))]/\
  hp=[.row 261 (.a 256) 1 z,.row 261 (.a 256) 1 f,.own 5 (.a 14) 1 false fl]/\KaV i I f m
def oh(n c:Nat):ST:=if c<n/\Ct c=1 then .a 1 else c7 14 c
structure zG(c:Nat)(I:Int)(f:Nat->List SV)(m:Nat):Prop where
 I:I=c
 le:c<=256
 m:m=256-c
 row:∀k,k<256->f k=[.int .u8 (oh c k)]
theorem zG.lo(V:zG c I f m):0<=I:=by have:=V.I;omega
theorem zG.bn(V:zG c I f m)(h:c<256):∃X,f c=[.int .u8 X]:=⟨_,V.row c h⟩
theorem zG.yes{f2:Nat->List SV}(V:zG c I f m)(h:c<256)(hf:Ap3 f2 f c [.int .u8 (.a 1)])(hk:Ct c=1):zG (c+1) (dn.i (.bin .add .i64 (.a I) (.l 1))) f2 (256-(c+1)):=by
 refine⟨?_,by omega,rfl,λk aR=>?_⟩
 .have:=V.I
  show IntKind.i64.wrap (I+1)=_;rw[wrap64 (by omega) (by omega)];omega
 .by_cases e:k=c
  .subst e
   rw[hf.at_,oh,QE ⟨by omega,hk⟩]
  .rw[hf.other k e,V.row k aR]
   unfold oh;have:(k<c/\Ct k=1)↔(k<c+1/\Ct k=1):=by constructor<;>rintro⟨a,b⟩<;>exact⟨by omega,b⟩
   simp only[this]
theorem zG.no(V:zG c I f m)(h:c<256)(hk:Ct c≠1):zG (c+1) (dn.i (.bin .add .i64 (.a I) (.l 1))) f (256-(c+1)):=by
 refine⟨?_,by omega,rfl,λk aR=>?_⟩
 .have:=V.I
  show IntKind.i64.wrap (I+1)=_;rw[wrap64 (by omega) (by omega)];omega
 .rw[V.row k aR]
  unfold oh;have:(k<c/\Ct k=1)↔(k<c+1/\Ct k=1):=by
   constructor
   .rintro⟨a,b⟩;exact⟨by omega,b⟩
   .rintro⟨a,b⟩
    refine⟨?_,b⟩;rcases ZS k c with h|h
    .exact h
    .obtain rfl:k=c:=by omega
     exact absurd b hk
  simp only[this]
def BB(z fl:Nat->List SV)(m:Nat)(vs:List (Option SV))(hp:List Hl):Prop :=
 ∃(c:Nat) (I:Int) (f:Nat->List SV),vs=[some (.ptr 0 0),some (.ptr 1 0),some (.int .i64 (.a I))]/\hp=[.row 261 (.a 256) 1 z,.row 261 (.a 256) 1 f,.own 5 (.a 14) 1 false fl]/\zG c I f m
theorem TL:∀c:Fin 256,decide (0<=Lib.indexByte [45,46,95,126] (UInt8.ofNat c.1))=decide (c.1=45\/c.1=46\/c.1=95\/c.1=126):=by decide
def iP:List SV:=(List.range 256).map λk=>.int .u8 (oh 256 k)
theorem Aah(h:∀k,k<256->f k=[.int .u8 (oh 256 k)]):Flat f 256 1 iP:=by
 refine⟨by simp[iP],λi hi=>?_⟩;have hi:i<256:=by omega
 have hl:iP.length=256:=by simp[iP]
 rw[h i hi,VS,XY (by rw[hl];exact hi)];simp[iP]
structure af1(fl:Nat->List SV):Prop where
 h:∀j,j<14->fl j=[.int .u8 (.a ((Xg.getD j 0:Nat):Int))]
structure VI(vi:Int)(v:Nat):Prop where
 h:vi=(v:Int)
def tX:List SV:=[.int .u8 (.l 0),.int .u8 (.l 0),.int .u8 (.l 0),.int .u8 (.l 0),.int .u8 (.l 0),.int .u8 (.l 0),.int .u8 (.l 0),.int .u8 (.l 0),.int .u8 (.l 0),.int .u8 (.l 0),.int .u8 (.l 0),.int .u8 (.l 0),.int .u8 (.l 0),.int .u8 (.l 0),.int .u8 (.l 0),.int .u8 (.l 0),.int .u8 (.l 0),.int .u8 (.l 0),.int .u8 (.l 0),.int .u8 (.l 0),.int .u8 (.l 0),.int .u8 (.l 0),.int .u8 (.l 0),.int .u8 (.l 0),.int .u8 (.l 0),.int .u8 (.l 0),.int .u8 (.l 0),.int .u8 (.l 0),.int .u8 (.l 0),.int .u8 (.l 0),.int .u8 (.l 0),.int .u8 (.l 0),.int .u8 (.l 0),.int .u8 (.a 2),.int .u8 (.l 0),.int .u8 (.l 0),.int .u8 (.a 2),.int .u8 (.l 0),.int .u8 (.a 2),.int .u8 (.a 2),.int .u8 (.a 2),.int .u8 (.a 2),.int .u8 (.a 2),.int .u8 (.a 2),.int .u8 (.a 2),.int .u8 (.a 1),.int .u8 (.a 1),.int .u8 (.a 2),.int .u8 (.a 1),.int .u8 (.a 1),.int .u8 (.a 1),.int .u8 (.a 1),.int .u8 (.a 1),.int .u8 (.a 1),.int .u8 (.a 1),.int .u8 (.a 1),.int .u8 (.a 1),.int .u8 (.a 1),.int .u8 (.a 2),.int .u8 (.a 2),.int .u8 (.l 0),.int .u8 (.a 2),.int .u8 (.l 0),.int .u8 (.l 0),.int .u8 (.a 2),.int .u8 (.a 1),.int .u8 (.a 1),.int .u8 (.a 1),.int .u8 (.a 1),.int .u8 (.a 1),.int .u8 (.a 1),.int .u8 (.a 1),.int .u8 (.a 1),.int .u8 (.a 1),.int .u8 (.a 1),.int .u8 (.a 1),.int .u8 (.a 1),.int .u8 (.a 1),.int .u8 (.a 1),.int .u8 (.a 1),.int .u8 (.a 1),.int .u8 (.a 1),.int .u8 (.a 1),.int .u8 (.a 1),.int .u8 (.a 1),.int .u8 (.a 1),.int .u8 (.a 1),.int .u8 (.a 1),.int .u8 (.a 1),.int .u8 (.a 1),.int .u8 (.a 1),.int .u8 (.l 0),.int .u8 (.l 0),.int .u8 (.l 0),.int .u8 (.l 0),.int .u8 (.a 1),.int .u8 (.l 0),.int .u8 (.a 1),.int .u8 (.a 1),.int .u8 (.a 1),.int .u8 (.a 1),.int .u8 (.a 1),.int .u8 (.a 1),.int .u8 (.a 1),.int .u8 (.a 1),.int .u8 (.a 1),.int .u8 (.a 1),.int .u8 (.a 1),.int .u8 (.a 1),.int .u8 (.a 1),.int .u8 (.a 1),.int .u8 (.a 1),.int .u8 (.a 1),.int .u8 (.a 1),.int .u8 (.a 1),.int .u8 (.a 1),.int .u8 (.a 1),.int .u8 (.a 1),.int .u8 (.a 1),.int .u8 (.a 1),.int .u8 (.a 1),.int .u8 (.a 1),.int .u8 (.a 1),.int .u8 (.l 0),.int .u8 (.l 0),.int .u8 (.l 0),.int .u8 (.a 1),.int .u8 (.l 0),.int .u8 (.l 0),.int .u8 (.l 0),.int .u8 (.l 0),.int .u8 (.l 0),.int .u8 (.l 0),.int .u8 (.l 0),.int .u8 (.l 0),.int .u8 (.l 0),.int .u8 (.l 0),.int .u8 (.l 0),.int .u8 (.l 0),.int .u8 (.l 0),.int .u8 (.l 0),.int .u8 (.l 0),.int .u8 (.l 0),.int .u8 (.l 0),.int .u8 (.l 0),.int .u8 (.l 0),.int .u8 (.l 0),.int .u8 (.l 0),.int .u8 (.l 0),.int .u8 (.l 0),.int .u8 (.l 0),.int .u8 (.l 0),.int .u8 (.l 0),.int .u8 (.l 0),.int .u8 (.l 0),.int .u8 (.l 0),.int .u8 (.l 0),.int .u8 (.l 0),.int .u8 (.l 0),.int .u8 (.l 0),.int .u8 (.l 0),.int .u8 (.l 0),.int .u8 (.l 0),.int .u8 (.l 0),.int .u8 (.l 0),.int .u8 (.l 0),.int .u8 (.l 0),.int .u8 (.l 0),.int .u8 (.l 0),.int .u8 (.l 0),.int .u8 (.l 0),.int .u8 (.l 0),.int .u8 (.l 0),.int .u8 (.l 0),.int .u8 (.l 0),.int .u8 (.l 0),.int .u8 (.l 0),.int .u8 (.l 0),.int .u8 (.l 0),.int .u8 (.l 0),.int .u8 (.l 0),.int .u8 (.l 0),.int .u8 (.l 0),.int .u8 (.l 0),.int .u8 (.l 0),.int .u8 (.l 0),.int .u8 (.l 0),.int .u8 (.l 0),.int .u8 (.l 0),.int .u8 (.l 0),.int .u8 (.l 0),.int .u8 (.l 0),.int .u8 (.l 0),.int .u8 (.l 0),.int .u8 (.l 0),.int .u8 (.l 0),.int .u8 (.l 0),.int .u8 (.l 0),.int .u8 (.l 0),.int .u8 (.l 0),.int .u8 (.l 0),.int .u8 (.l 0),.int .u8 (.l 0),.int .u8 (.l 0),.int .u8 (.l 0),.int .u8 (.l 0),.int .u8 (.l 0),.int .u8 (.l 0),.int .u8 (.l 0),.int .u8 (.l 0),.int .u8 (.l 0),.int .u8 (.l 0),.int .u8 (.l 0),.int .u8 (.l 0),.int .u8 (.l 0),.int .u8 (.l 0),.int .u8 (.l 0),.int .u8 (.l 0),.int .u8 (.l 0),.int .u8 (.l 0),.int .u8 (.l 0),.int .u8 (.l 0),.int .u8 (.l 0),.int .u8 (.l 0),.int .u8 (.l 0),.int .u8 (.l 0),.int .u8 (.l 0),.int .u8 (.l 0),.int .u8 (.l 0),.int .u8 (.l 0),.int .u8 (.l 0),.int .u8 (.l 0),.int .u8 (.l 0),.int .u8 (.l 0),.int .u8 (.l 0),.int .u8 (.l 0),.int .u8 (.l 0),.int .u8 (.l 0),.int .u8 (.l 0),.int .u8 (.l 0),.int .u8 (.l 0),.int .u8 (.l 0),.int .u8 (.l 0),.int .u8 (.l 0),.int .u8 (.l 0),.int .u8 (.l 0),.int .u8 (.l 0),.int .u8 (.l 0),.int .u8 (.l 0),.int .u8 (.l 0),.int .u8 (.l 0),.int .u8 (.l 0),.int .u8 (.l 0),.int .u8 (.l 0),.int .u8 (.l 0),.int .u8 (.l 0)]
theorem Vq:tX=iP:=by kernel_rfl
theorem Adf:Ahf tX:=⟨by kernel_rfl,by kernel_rfl⟩
theorem Ann:Aw Tryz.prog [] 253 aw:=by
 obtain⟨Z,hZ⟩:∃Z,Z=kP:=⟨_,rfl⟩;refine Bd (gh:=[(3000000,[]),(3000001,[]),(999985,[]),(16,[.oD 0])]) mixed (q8 hZ) (Ab ec Ai) Tryz.func253 (by kernel_rfl) (by kernel_rfl) ?_;rintro xs ls K ⟨rfl,rfl,h⟩;obtain⟨R,hR⟩:∃R,R=eK:=⟨_,rfl⟩;refine⟨_,_,h R hR,λD hD=>?_⟩;clear h;obtain⟨z,hz⟩:∃z,z=sh:=⟨_,rfl⟩;have hzb:zx z 256 1 Z:=by rw[hz,hZ];exact Tt
 have nM:∀k,z k=[.int .u8 (.l 0)]:=λk=>by rw[hz];rfl
 cbv;refine⟨z,hzb,?_⟩;cbv;refine⟨z,hzb,?_⟩;cbv;intro fl hf;have pJ:af1 fl:=by
  subst hD;refine⟨λj hj=>?_⟩
  match j,hj with
  |0,_=>exact hf.h 0 _ rfl
  |1,_=>exact hf.h 1 _ rfl
  |2,_=>exact hf.h 2 _ rfl
  |3,_=>exact hf.h 3 _ rfl
  |4,_=>exact hf.h 4 _ rfl
  |5,_=>exact hf.h 5 _ rfl
  |6,_=>exact hf.h 6 _ rfl
  |7,_=>exact hf.h 7 _ rfl
  |8,_=>exact hf.h 8 _ rfl
  |9,_=>exact hf.h 9 _ rfl
  |10,_=>exact hf.h 10 _ rfl
  |11,_=>exact hf.h 11 _ rfl
  |12,_=>exact hf.h 12 _ rfl
  |13,_=>exact hf.h 13 _ rfl
 clear hf;cbv;refine⟨⟨by subst hD;rfl⟩,?_⟩;obtain⟨J,hJ⟩:∃J,J=kaJ z fl:=⟨_,rfl⟩;cbv;refine⟨[0,1,6,7,8],J,⟨rfl,14,?_⟩,?_⟩
 .rw[hJ]
  subst hD;refine⟨0,0,z,rfl,rfl,rfl,by omega,rfl,λc _=>?_⟩;rw[nM];rfl
 intro m vs hp hj;rw[hJ]at hj;obtain⟨i,I,f,rfl,rfl,V⟩:=hj;cbv;refine br hD (λh=>?_) (λh=>?_)<;>cbv
 .have aA:i<14:=by
   have h:decide (I<14)=true:=h;simp only[QN]at h;have:=V.I;omega
  clear h;refine⟨⟨by subst hD;rfl⟩,by subst hD;exact⟨by show 0<=I;have:=V.I;omega,by show I<14;have:=V.I;omega⟩,λj hj=>?_⟩;have iZ:j=i:=by
   have hj:(j:Int)=I:=by subst hD;exact hj.h
   have:=V.I;omega
  subst iZ;clear hj;have e1:=pJ.h j aA;obtain⟨v,hv⟩:∃v,v=Xg.getD j 0:=⟨_,rfl⟩;rw[<-hv]at e1;have xI:v<256:=by
   have:∀j:Fin 14,Xg.getD j.1 0<256:=by decide
   rw[hv];exact this ⟨j,aA⟩
  obtain⟨vi,NX⟩:∃vi:Int,VI vi v:=⟨_,⟨rfl⟩⟩;rw[<-NX.h]at e1;cbv;refine⟨⟨by subst hD;rfl⟩,⟨by subst hD;show (j:Int)<14;omega⟩,?_⟩;rw[e1];cbv;refine⟨by subst hD;exact⟨by show 0<=vi;rw[NX.h];exact Int.natCast_nonneg v,by show vi<256;rw[NX.h];exact_mod_cast xI⟩,λq hq=>?_⟩;have bE:q=v:=by
   have hq:(q:Int)=vi:=by subst hD;exact hq.h
   rw[NX.h]at hq;exact_mod_cast hq
  subst bE;clear hq;obtain⟨X,e2⟩:∃X,f q=[.int .u8 X]:=⟨_,V.row q xI⟩;cbv;refine⟨⟨by subst hD;show (q:Int)<256;exact_mod_cast xI⟩,?_⟩;rw[e2];cbv;intro f2 iR;cbv;refine⟨14-(j+1),by have:=V.m;omega,?_⟩;rw[hJ];unfold kaJ;subst hD;refine⟨j+1,_,f2,rfl,rfl,?_,by omega,rfl,λc hc=>?_⟩
  .have:=V.I
   show IntKind.i64.wrap (I+1)=_;rw[wrap64 (by omega) (by omega)];omega
  .have tZ:∀x,x∈Xg.take (j+1)↔x∈Xg.take j\/x=q:=by
    intro x;have hl:j<Xg.length:=aA;rw[List.take_succ_eq_append_getElem hl,YH,UH];have:Xg[j]=q:=by rw[hv,QC,QA hl];rfl
    rw[this]
   by_cases e:c=q
   .subst e
    rw[iR.at_,c7,QE ((tZ c).2 (.inr rfl))];rfl
   .rw[iR.other c e,V.row c hc]
    unfold c7;have:(c∈Xg.take (j+1))↔c∈Xg.take j:=by rw[tZ];exact⟨λh=>h.resolve_right e,.inl⟩
    simp only[this]
 have hi:i=14:=by
  have h:decide (I<14)=false:=h;simp only[XG]at h;have:=V.I;have:=V.le;omega
 have aP:=V.row;rw[hi]at aP;clear h V hJ J hi;obtain⟨J,hJ⟩:∃J,J=BB z fl:=⟨_,rfl⟩;refine⟨[0,1,15],J,⟨rfl,256,?_⟩,?_⟩
 .rw[hJ]
  subst hD;refine⟨0,0,f,rfl,rfl,rfl,by omega,rfl,λk hk=>?_⟩;rw[aP k hk,oh,QD (by omega)]
 clear aP;intro m vs hp hj;rw[hJ]at hj;obtain⟨c,I,f,rfl,rfl,V⟩:=hj;cbv;refine br hD (λh=>?_) (λh=>?_)<;>cbv
 .have aA:c<256:=by
   have h:decide (I<256)=true:=h;simp only[QN]at h;have:=V.I;omega
  clear h;refine br hD (λh=>?_) (λh=>?_)<;>cbv
  .have jW:Ct c=1:=by
    have h:(decide (48<=I)&&decide (I<=57))=true:=h;simp only[QB,QN]at h;have:=V.I;unfold Ct;rw[QE (by omega)]
   clear h;refine⟨by subst hD;exact⟨by show 0<=I;have:=V.lo;omega,by show I<256;have:=V.I;omega⟩,λq hq=>?_⟩;have bE:q=c:=by
    have hq:(q:Int)=I:=by subst hD;exact hq.h
    have:=V.I;omega
   subst bE;clear hq;cbv;obtain⟨X,hX⟩:=V.bn aA;refine⟨by subst hD;exact⟨by show (q:Int)<256;omega⟩,?_⟩;rw[hX];cbv;intro f2 iR;cbv;refine⟨256-(q+1),by have:=V.m;omega,?_⟩;rw[hJ];unfold BB;subst hD;exact⟨q+1,_,f2,rfl,rfl,V.yes aA iR jW⟩
  have n1:¬(48<=c/\c<=57):=by
   have h:(decide (48<=I)&&decide (I<=57))=false:=h;have hI:=V.I;rintro⟨a,b⟩;have a':decide (48<=I)=true:=by rw[QN];omega
   have b':decide (I<=57)=true:=by rw[QN];omega
   rw[a',b']at h;cases h
  clear h;refine br hD (λh=>?_) (λh=>?_)<;>cbv
  .have jW:Ct c=1:=by
    have h:(decide (65<=I)&&decide (I<=90))=true:=h;simp only[QB,QN]at h;have:=V.I;unfold Ct;rw[QE (by omega)]
   clear h;refine⟨by subst hD;exact⟨by show 0<=I;have:=V.lo;omega,by show I<256;have:=V.I;omega⟩,λq hq=>?_⟩;have bE:q=c:=by
    have hq:(q:Int)=I:=by subst hD;exact hq.h
    have:=V.I;omega
   subst bE;clear hq;cbv;obtain⟨X,hX⟩:=V.bn aA;refine⟨by subst hD;exact⟨by show (q:Int)<256;omega⟩,?_⟩;rw[hX];cbv;intro f2 iR;cbv;refine⟨256-(q+1),by have:=V.m;omega,?_⟩;rw[hJ];unfold BB;subst hD;exact⟨q+1,_,f2,rfl,rfl,V.yes aA iR jW⟩
  have n2:¬(65<=c/\c<=90):=by
   have h:(decide (65<=I)&&decide (I<=90))=false:=h;have hI:=V.I;rintro⟨a,b⟩;have a':decide (65<=I)=true:=by rw[QN];omega
   have b':decide (I<=90)=true:=by rw[QN];omega
   rw[a',b']at h;cases h
  clear h;refine br hD (λh=>?_) (λh=>?_)<;>cbv
  .have jW:Ct c=1:=by
    have h:(decide (97<=I)&&decide (I<=122))=true:=h;simp only[QB,QN]at h;have:=V.I;unfold Ct;rw[QE (by omega)]
   clear h;refine⟨by subst hD;exact⟨by show 0<=I;have:=V.lo;omega,by show I<256;have:=V.I;omega⟩,λq hq=>?_⟩;have bE:q=c:=by
    have hq:(q:Int)=I:=by subst hD;exact hq.h
    have:=V.I;omega
   subst bE;clear hq;cbv;obtain⟨X,hX⟩:=V.bn aA;refine⟨by subst hD;exact⟨by show (q:Int)<256;omega⟩,?_⟩;rw[hX];cbv;intro f2 iR;cbv;refine⟨256-(q+1),by have:=V.m;omega,?_⟩;rw[hJ];unfold BB;subst hD;exact⟨q+1,_,f2,rfl,rfl,V.yes aA iR jW⟩
  have n3:¬(97<=c/\c<=122):=by
   have h:(decide (97<=I)&&decide (I<=122))=false:=h;have hI:=V.I;rintro⟨a,b⟩;have a':decide (97<=I)=true:=by rw[QN];omega
   have b':decide (I<=122)=true:=by rw[QN];omega
   rw[a',b']at h;cases h
  clear h;have hw:IntKind.u8.wrap I=I:=IntWalk.u8_in _ ⟨V.lo,by have:=V.I;omega⟩;refine⟨_,_,rfl,rfl,by subst hD;show 0<=IntKind.u8.wrap I/\IntKind.u8.wrap I<=255;rw[hw];exact⟨V.lo,by have:=V.I;omega⟩,λr hr=>?_⟩;have cP:decide (0<=r)=decide (c=45\/c=46\/c=95\/c=126):=by
   have e:r=Lib.indexByte [45,46,95,126] (UInt8.ofNat c):=by
    have hr:r=Lib.indexByte [45,46,95,126] (UInt8.ofNat (IntKind.u8.wrap I).toNat):=by subst hD;exact hr
    rw[hr,hw,V.I];rfl
   rw[e];exact TL ⟨c,aA⟩
  clear hr;cbv;refine br hD (λh=>?_) (λh=>?_)<;>cbv
  .have jW:Ct c=1:=by
    have h:decide (0<=r)=true:=h;rw[cP,QN]at h;unfold Ct;rw[QE (by omega)]
   clear h;refine⟨by subst hD;exact⟨by show 0<=I;have:=V.lo;omega,by show I<256;have:=V.I;omega⟩,λq hq=>?_⟩;have bE:q=c:=by
    have hq:(q:Int)=I:=by subst hD;exact hq.h
    have:=V.I;omega
   subst bE;clear hq;cbv;obtain⟨X,hX⟩:=V.bn aA;refine⟨by subst hD;exact⟨by show (q:Int)<256;omega⟩,?_⟩;rw[hX];cbv;intro f2 iR;cbv;refine⟨256-(q+1),by have:=V.m;omega,?_⟩;rw[hJ];unfold BB;subst hD;exact⟨q+1,_,f2,rfl,rfl,V.yes aA iR jW⟩
  .have jW:Ct c≠1:=by
    have h:decide (0<=r)=false:=h;rw[cP,XG]at h;unfold Ct;rw[QD (by omega)]
    split<;>decide
   clear h;refine⟨256-(c+1),by have:=V.m;omega,?_⟩;rw[hJ];unfold BB;subst hD;exact⟨c+1,_,f,rfl,rfl,V.no aA jW⟩
 have hc:c=256:=by
  have h:decide (I<256)=false:=h;simp only[XG]at h;have:=V.I;have:=V.le;omega
 have aP:=V.row;rw[hc]at aP;clear h V hJ hc;obtain⟨cs,cV⟩:∃cs,cs=tX:=⟨_,rfl⟩;refine⟨⟨by subst hD;rfl⟩,cs,by subst hD;rw[cV,Vq];exact Aah aP,?_⟩;clear aP;cbv;refine⟨⟨by subst hD;rfl⟩,by rw[cV];exact Adf,λk=>[.int .u8 (oh 256 k)],by subst hD;rw[cV,Vq];exact Aah λ_ _=>rfl,?_⟩;refine⟨tX,by subst hD;rw[Vq];exact Aah λ_ _=>rfl,?_⟩;clear cV;cbv;subst hD;rw[hR];exact Ce (by kernel_rfl) rfl
set_option maxHeartbeats 8000000
def Ch(c:Int):Int:=if 48<=c/\c<=57 then c-48 else if 65<=c/\c<=70 then c-55 else if 97<=c/\c<=102 then c-87 else -1
theorem Xx(c:Int):-1<=Ch c/\Ch c<=15:=by
 unfold Ch
 split
 .omega
 .split
  .omega
  .split<;>omega
def mB:aD:=λ_ xs ls K=>∃(c:Int),xs=[.int .u8 (.a c)]/\ls=[]/\(0<=c/\c<=255)/\∀r,r=Ch c->K (.int .i64 (.a r)) []
theorem Aly:Aw Tryz.prog gl 287 mB:=by
 refine Bd (gh:=[]) mixed Be Ai Tryz.func287 (by kernel_rfl) (by kernel_rfl) ?_;intro xs ls K h;unfold mB at h;obtain⟨c,rfl,rfl,hc,h⟩:=h;obtain⟨k,hk⟩:∃k,k=Ch c:=⟨_,rfl⟩;refine⟨_,_,h k hk,λD hD=>?_⟩;clear h;unfold Ch at hk;cbv;have w:∀n:Int,-1000<=n->n<=1000->IntKind.i64.wrap n=n:=λn a b=>wrap64 (by omega) (by omega);refine br hD (λh=>?_) (λh=>?_)<;>cbv
 .have h2:48<=c/\c<=57:=by simpa using h
  refine Bj hD ?_;rw[hk,QE h2];show IntKind.i64.wrap (IntKind.i64.wrap c-48)=_;rw[w c (by omega) (by omega),w _ (by omega) (by omega)]
 have h2:¬(48<=c/\c<=57):=by simpa using h
 rw[QD h2]at hk;clear h h2;refine br hD (λh=>?_) (λh=>?_)<;>cbv
 .have h2:65<=c/\c<=70:=by simpa using h
  refine Bj hD ?_;rw[hk,QE h2];show IntKind.i64.wrap (IntKind.i64.wrap (IntKind.i64.wrap c-65)+10)=_;rw[w c (by omega) (by omega),w (c-65) (by omega) (by omega),w _ (by omega) (by omega)];omega
 have h2:¬(65<=c/\c<=70):=by simpa using h
 rw[QD h2]at hk;clear h h2;refine br hD (λh=>?_) (λh=>?_)<;>cbv
 .have h2:97<=c/\c<=102:=by simpa using h
  refine Bj hD ?_;rw[hk,QE h2];show IntKind.i64.wrap (IntKind.i64.wrap (IntKind.i64.wrap c-97)+10)=_;rw[w c (by omega) (by omega),w (c-97) (by omega) (by omega),w _ (by omega) (by omega)];omega
 have h2:¬(97<=c/\c<=102):=by simpa using h
 rw[QD h2]at hk;refine Bj hD ?_;rw[hk];rfl
def Qt(s:List UInt8)(i:Nat):Prop:=i+2<s.length/\aC s i=37/\0<=Ch (aC s (i+1))/\0<=Ch (aC s (i+2))
instance (s:List UInt8) (i:Nat):Decidable (Qt s i):=by unfold Qt;exact inferInstance
def Du(s:List UInt8)(i:Nat):Bool:=decide (Qt s i)
def MK(s:List UInt8)(i:Nat):Int:=if Qt s i then 16 * Ch (aC s (i+1))+Ch (aC s (i+2)) else 0
theorem Nx(s:List UInt8)(i j:Nat):aC (s.drop i) j=aC s (i+j):=by
 unfold aC;rw[QC,XL,<-QC]
theorem Ak0(s:List UInt8)(i:Nat):Qt (s.drop i) 0↔Qt s i:=by
 unfold Qt;rw[Nx,Nx,Nx,ZQ];simp only[ZA,XD];constructor<;>rintro⟨a,b⟩<;>exact⟨by omega,b⟩
theorem Agu(s:List UInt8)(i:Nat):Du (s.drop i) 0=Du s i:=by
 unfold Du;rw[decide_eq_decide];exact Ak0 s i
def tE:aD:=λ_ xs ls K=>∃(s:List UInt8),xs=[.str s]/\ls=[]/\s.length<=9223372036854775807/\∀v b,v=MK s 0->b=Du s 0->K (.tup [.int .u8 (.a v),.bool (.a b)]) []
theorem SS:∀a b:Fin 16,Cp .or .i64 (IntKind.i64.wrap ((a.1:Int) * 16)) (b.1:Int)=16 * a.1+b.1:=by decide
theorem Aod(hD:D=dn){v:Int}{b:Bool}{y:BT}(h1:x.den=v)(h2:y.den=b):Fin (.tup [.int .u8 (.a (D.i x)),.bool (.a (D.b y))]) (.tup [.int .u8 (.a v),.bool (.a b)]) [] []:=by
 subst hD h1 h2;exact Fb (fE.refl _)
theorem Abn:Aw Tryz.prog gl 254 tE:=by
 refine Bd (gh:=[]) mixed Be (Ab Aly Ai) Tryz.func254 (by kernel_rfl) (by kernel_rfl) ?_;intro xs ls K h;unfold tE at h;obtain⟨s,rfl,rfl,hs,h⟩:=h;obtain⟨kv,BR⟩:∃k,k=MK s 0:=⟨_,rfl⟩;obtain⟨kb,jV⟩:∃k,k=Du s 0:=⟨_,rfl⟩;refine⟨_,_,h kv kb BR jV,λD hD=>?_⟩;clear h;cbv;refine⟨λhg=>?_,λc hc=>?_⟩
 .subst hD;exact⟨by decide,by have hg:(!decide ((s.length:Int)<3))=true:=hg;simp at hg;show (0:Int)<_;omega⟩
 have cQ:Cq c s 0:=by subst hD;exact⟨hc.h⟩
 clear hc;cbv;refine br hD (λh=>?_) (λh=>?_)<;>cbv
 .have h2:¬Qt s 0:=by
   rintro⟨h1,h2,_⟩;rw[<-cQ.aC]at h2;have h:(decide ((s.length:Int)<3)||(c != 37))=true:=h;simp only[ZB,QN,bne_iff_ne,ne_eq]at h;omega
  exact Aod hD (by rw[BR,MK,QD h2];rfl) (by rw[jV,Du,UW h2];rfl)
 have h2:3<=s.length/\c=37:=by
  have h:(decide ((s.length:Int)<3)||(c != 37))=false:=h;simp only[XU,XG,bne_eq_false_iff_eq]at h;omega
 clear h;obtain⟨h3,rfl⟩:=h2;refine⟨by subst hD;exact⟨by decide,by show (1:Int)<_;omega⟩,λx hx=>?_⟩;have sH:Cq x s 1:=by subst hD;exact⟨hx.h⟩
 clear hx;cbv;refine⟨_,rfl,rfl,by subst hD;exact sH.le,λa ha=>?_⟩;have ha:a=Ch x:=by subst hD;exact ha
 cbv;refine⟨by subst hD;exact⟨by decide,by show (2:Int)<_;omega⟩,λy hy=>?_⟩;have BF:Cq y s 2:=by subst hD;exact⟨hy.h⟩
 clear hy;cbv;refine⟨_,rfl,rfl,by subst hD;exact BF.le,λb hb=>?_⟩;have hb:b=Ch y:=by subst hD;exact hb
 cbv;have hP:Qt s 0↔0<=a/\0<=b:=by
  unfold Qt;simp only[XD];rw[<-cQ.aC,<-sH.aC,<-BF.aC,<-ha,<-hb];constructor
  .exact λh=>h.2.2
  .exact λh=>⟨by omega,rfl,h⟩
 refine br hD (λh=>?_) (λh=>?_)<;>cbv
 .have h2:¬Qt s 0:=by
   rw[hP];have h:(decide (a<0)||decide (b<0))=true:=h;simp only[ZB,QN]at h;omega
  exact Aod hD (by rw[BR,MK,QD h2];rfl) (by rw[jV,Du,UW h2];rfl)
 have h2:0<=a/\0<=b:=by
  have h:(decide (a<0)||decide (b<0))=false:=h;simp only[XU,XG]at h;omega
 have la:=(Xx x).2;have lb:=(Xx y).2;rw[<-ha]at la;rw[<-hb]at lb;refine⟨⟨by subst hD;decide⟩,?_⟩;refine Aod hD ?_ ?_
 rotate_left
 .rw[jV,Du,decide_eq_true (hP.2 h2)];rfl
 rw[BR,MK,QE (hP.2 h2)];simp only[XD];rw[<-sH.aC,<-BF.aC,<-ha,<-hb];have e:=SS ⟨a.toNat,by omega⟩ ⟨b.toNat,by omega⟩;simp only at e;rw[Int.toNat_of_nonneg h2.1,Int.toNat_of_nonneg h2.2]at e;show IntKind.u8.wrap (Cp .or .i64 (IntKind.i64.wrap (a * 16)) b)=_;rw[e];have:∀n:Int,0<=n->n<=255->IntKind.u8.wrap n=n:=λn h0 h1=>by
  have:=IntWalk.u8_in n ⟨by omega,by omega⟩;exact this
 exact this _ (by omega) (by omega)
set_option maxHeartbeats 16000000
def I8(s:List UInt8)(i e:Nat):Option Nat :=
 if h:i<s.length then
  if Du s i then I8 s (i+3) e
  else if aC s i=63 then I8 s (i+1) (min e i)
  else if Ct (aC s i).toNat=0 then none
  else I8 s (i+1) e
 else some e
 termination_by s.length-i
def Xe(s:List UInt8):Int×Int :=
 if 500<s.length then (0,3) else if !Lib.hasPrefix s [47] then (0,6) else match I8 s 0 s.length with
  |some e=>((e:Int),0)
  |none=>(0,6)
def tM:aD:=λ_ xs ls K=>∃(s:List UInt8),xs=[.str s]/\ls=[]/\s.length<=9223372036854775807/\∀e r,(e,r)=Xe s->K (.tup [.int .i64 (.a e),.int .i64 (.a r)]) []
structure MA(f:Nat->List SV):Prop where
 h:∀i,i<256->f i=[.int .u8 (.a (Ct i))]
theorem Akq(h:MA f):Flat f 256 1 eK:=by
 refine⟨by simp[eK],λi hi=>?_⟩;have hi:i<256:=by omega
 have hl:eK.length=256:=by simp[eK]
 rw[h.h i hi,VS,XY (by rw[hl];exact hi)];simp[eK]
theorem Vn:Ahf eK:=⟨by kernel_rfl,by kernel_rfl⟩
theorem R9(hD:D=dn){e r:Int}(h1:x.den=e)(h2:y.den=r):Fin (.tup [.int .i64 (.a (D.i x)),.int .i64 (.a (D.i y))]) (.tup [.int .i64 (.a e),.int .i64 (.a r)]) [] []:=by
 subst hD h1 h2;exact Fb (fE.refl _)
structure LW(s:List UInt8)(k:Option Nat)(i e:Nat)(I E:Int)(m:Nat):Prop where
 aZ:At s i I m
 E:E=e
 k:k=I8 s i e
 len:s.length<=500
def cj(s:List UInt8)(kr:Nat->List SV)(k:Option Nat)(m:Nat)(vs:List (Option SV))(hp:List Hl):Prop :=
 ∃(i e:Nat) (I E:Int),vs=[some (.str s),some (.ptr 0 0),some (.int .i64 (.a E)),some (.int .i64 (.a I))]/\hp=[.row 261 (.a 256) 1 kr]/\LW s k i e I E m
theorem Acr(h:i<s.length)(h1:Du s i=true):I8 s i e=I8 s (i+3) e:=by
 rw[I8,dif_pos h,QE h1]
theorem Yh(h:i<s.length)(h1:Du s i=false)(h2:aC s i=63):I8 s i e=I8 s (i+1) (min e i):=by
 rw[I8,dif_pos h,QD (by simp[h1]),QE h2]
theorem Acu(h:i<s.length)(h1:Du s i=false)(h2:aC s i≠63)(h3:Ct (aC s i).toNat=0):I8 s i e=none:=by
 rw[I8,dif_pos h,QD (by simp[h1]),QD h2,QE h3]
theorem Yg(h:i<s.length)(h1:Du s i=false)(h2:aC s i≠63)(h3:Ct (aC s i).toNat≠0):I8 s i e=I8 s (i+1) e:=by
 rw[I8,dif_pos h,QD (by simp[h1]),QD h2,QD h3]
theorem Acs(h:i=s.length):I8 s i e=some e:=by
 rw[I8,dif_neg (by omega)]
theorem Y6(h:Du s i=true):i+2<s.length:=(QS h).1
theorem Aj4:Aw Tryz.prog gl 198 tM:=by
 obtain⟨Z,hZ⟩:∃Z,Z=kP:=⟨_,rfl⟩;refine Bd (gh:=[(3000004,[])]) mixed (q8 hZ) (Ab Ak1 (Ab (An4 Ann) (Ab Abn Ai))) Tryz.func198 (by kernel_rfl) (by kernel_rfl) ?_;intro xs ls K h;unfold tM at h;obtain⟨s,rfl,rfl,hs,h⟩:=h;obtain⟨k,hk⟩:∃k,k=Xe s:=⟨_,rfl⟩;obtain⟨ke,kr⟩:=k;refine⟨_,_,h ke kr hk,λD hD=>?_⟩;clear h;unfold Xe at hk;cbv;refine br hD (λh=>?_) (λh=>?_)<;>cbv
 .have h2:500<s.length:=by have h:decide ((500:Int)<(s.length:Int))=true:=h;simp only[QN]at h;omega
  rw[QE h2]at hk;simp only[Prod.mk.injEq]at hk;exact R9 hD hk.1.symm hk.2.symm
 have hlen:s.length<=500:=by have h:decide ((500:Int)<(s.length:Int))=false:=h;simp only[XG]at h;omega
 rw[QD (by omega)]at hk;clear h;refine⟨s,_,rfl,rfl,λb hb=>?_⟩;have hb:b=Lib.hasPrefix s [47]:=hb;cbv;refine br hD (λh=>?_) (λh=>?_)<;>cbv
 .have h2:(!b)=true:=h
  rw[<-hb,QE h2]at hk;simp only[Prod.mk.injEq]at hk;exact R9 hD hk.1.symm hk.2.symm
 have h2:(!b)=false:=h;rw[<-hb,QD (by rw[h2];simp)]at hk;clear h h2 hb;intro R hR;obtain⟨kr0,HQ⟩:∃f,MA f:=⟨λi=>[.int .u8 (.a (Ct i))],⟨λ_ _=>rfl⟩⟩;cbv;refine⟨by rw[hR];exact Vn.plain,sh,by rw[hZ];exact Tt,?_⟩;cbv;refine⟨⟨by subst hD;rfl⟩,by rw[hR];exact Vn,kr0,by subst hD;rw[hR];exact Akq HQ,?_⟩;clear hR;obtain⟨kk,bD⟩:∃kk,kk=I8 s 0 s.length:=⟨_,rfl⟩;rw[<-bD]at hk;obtain⟨J,hJ⟩:∃J,J=cj s kr0 kk:=⟨_,rfl⟩;cbv;refine⟨[0,4,5,6],J,⟨rfl,s.length,?_⟩,?_⟩
 .rw[hJ]
  subst hD;exact⟨0,s.length,_,_,rfl,rfl,At.zero hs,rfl,bD,hlen⟩
 clear bD;intro m vs hp hj;rw[hJ]at hj;obtain⟨i,e,I,E,rfl,rfl,V⟩:=hj;cbv;refine br hD (λh=>?_) (λh=>?_)<;>cbv
 .have aA:=V.aZ.lt (QS (p:=I<(s.length:Int)) h)
  clear h;refine⟨by subst hD;exact⟨by show 0<=I;have:=V.aZ.I;omega,by show I<=s.length;have:=V.aZ.I;omega,YK _⟩,λt ht=>?_⟩;have uY:t=s.drop i:=by
   have h1:t=(s.drop I.toNat).take ((s.length:Int).toNat-I.toNat):=by subst hD;exact ht.h
   have h2:=V.aZ.I;have h3:I.toNat=i:=by omega
   rw[h1,h3,ZT (by rw[ZQ];omega)]
  clear ht;cbv;refine⟨t,rfl,rfl,by rw[uY,ZQ];omega,λv b hv hb=>?_⟩;have eA:b=Du s i:=by rw[hb,uY,Agu]
  clear hv hb uY;cbv;refine br hD (λh=>?_) (λh=>?_)<;>cbv
  .have h2:Du s i=true:=by rw[<-eA];exact h
   have h3:=Y6 h2;clear h;refine⟨s.length-(i+3),by have:=V.aZ.m;omega,?_⟩;rw[hJ];unfold cj;subst hD;refine⟨i+3,e,_,_,rfl,rfl,⟨by omega,?_,rfl,V.aZ.len⟩,V.E,by rw[V.k,Acr aA h2],hlen⟩;have:=V.aZ.I;show IntKind.i64.wrap (IntKind.i64.wrap (I+2)+1)=_;rw[wrap64 (n:=I+2) (by omega) (by omega),wrap64 (by omega) (by omega)];omega
  have he:Du s i=false:=by rw[<-eA];exact h
  clear h;refine⟨V.aZ.nU hD aA,λc hc=>?_⟩;have cQ:=D0 hD V.aZ.I hc;clear hc;have hle:=cQ.le;cbv;refine br hD (λh=>?_) (λh=>?_)<;>cbv
  .have sV:aC s i=63:=by rw[<-cQ.aC];have h:(c==63)=true:=h;simpa using h
   clear h;intro mn pe;have wx:mn=min E I:=by subst hD;exact pe.h
   clear pe;cbv;refine⟨s.length-(i+1),by have:=V.aZ.m;omega,?_⟩;rw[hJ];unfold cj;subst hD;refine⟨i+1,min e i,_,_,rfl,rfl,(V.aZ.step rfl aA).2,?_,by rw[V.k,Yh aA he sV],hlen⟩;have:=V.aZ.I;have:=V.E;show mn=_;rw[wx];omega
  have sV:aC s i≠63:=by rw[<-cQ.aC];have h:(c==63)=false:=h;simpa using h
  clear h;refine⟨V.aZ.nU hD aA,λd hd=>?_⟩;have hcd:d=c:=by have:=D0 hD V.aZ.I hd;rw[this.h,cQ.h]
  subst hcd;clear hd;cbv;refine⟨by subst hD;exact⟨by show 0<=d;omega,by show d<256;omega⟩,λq hq=>?_⟩;have bE:(q:Int)=d:=by subst hD;exact hq.h
  clear hq;have HD:q<256:=by omega
  have hkq:=HQ.h q HD;have fW:Ct q=Ct (aC s i).toNat:=by
   have:q=(aC s i).toNat:=by rw[<-cQ.aC];omega
   rw[this]
  obtain⟨kq,WO⟩:∃kq,kq=Ct q:=⟨_,rfl⟩;rw[<-WO]at hkq fW;cbv;refine⟨⟨by subst hD;show (q:Int)<256;omega⟩,?_⟩;rw[hkq];cbv;refine br hD (λh=>?_) (λh=>?_)<;>cbv
  .have h0:kq=0:=by have h:(kq==0)=true:=h;simpa using h
   rw[V.k,Acu aA he sV (by rw[<-fW];exact h0)]at hk;simp only[Prod.mk.injEq]at hk;exact R9 hD hk.1.symm hk.2.symm
  .have h0:kq≠0:=by have h:(kq==0)=false:=h;simpa using h
   refine⟨s.length-(i+1),by have:=V.aZ.m;omega,?_⟩;rw[hJ];unfold cj;subst hD;exact⟨i+1,e,_,_,rfl,rfl,(V.aZ.step rfl aA).2,V.E,by rw[V.k,Yg aA he sV (by rw[<-fW];exact h0)],hlen⟩
 .have hi:=V.aZ.eq (QZ (p:=I<(s.length:Int)) h)
  rw[V.k,Acs hi]at hk;simp only[Prod.mk.injEq]at hk;exact R9 hD (by have:=V.E;rw[hk.1];exact this) hk.2.symm
theorem Acv(h:(Xe s).2=0):s.length<=500:=by
 unfold Xe at h
 split at h
 .cases h
 .omega
structure Alt(f:Nat->List SV)(n:Int)(t:List UInt8):Prop where
 n:n=t.length
 f:∀i,i<t.length->f i=[.int .u8 (.a ((t.getD i 0).toNat:Int))]
theorem Alt.str{r:List UInt8}(R:Alt f n t)(h:Lw r n f):r=t:=by
 have hn:=R.n;have hl:r.length=t.length:=by have:=h.len;omega
 refine List.ext_getElem hl λi h1 h2=>?_;have:=h.row i _ (by omega) (R.f i h2);have h5:((r.getD i 0).toNat:Int)=((t.getD i 0).toNat:Int):=this;have this:(r.getD i 0).toNat=(t.getD i 0).toNat:=by omega
 rw[QC,QA h1,QC,QA h2]at this;exact UInt8.toNat_inj.1 this
theorem Alt.byte(R:Alt f n t):Hc n f:=by
 refine⟨by rw[R.n];omega,λi hi=>⟨_,R.f i (by have:=R.n;omega),?_,?_⟩⟩
 .show (0:Int)<=((t.getD i 0).toNat:Int);omega
 .have:=(t.getD i 0).toNat_lt;show ((t.getD i 0).toNat:Int)<256;omega
open Go Go.Sx Go.RowKit
set_option maxHeartbeats 2000000
set_option maxHeartbeats 40000000
set_option maxHeartbeats 2000000
structure Rq where
 id:Int
 method:List UInt8
 target:List UInt8
 host:List UInt8
 fields:List HF
 body:List UInt8
structure Rc(r:Rq)(nl:Bool)(n:Int)(f:Nat->List SV):Prop where
 BE:-9223372036854775808<=r.id
 BD:r.id<=9223372036854775807
 method:r.method.length<=9223372036854775807
 target:r.target.length<=9223372036854775807
 host:r.host.length<=9223372036854775807
 body:r.body.length<=9223372036854775807
 row:A3 f n r.fields
 nil:nl=true->r.fields=[]
def Kg:List UInt8:=[72,111,115,116]
def Uh:List UInt8:=[88,45,82,101,113,117,101,115,116,45,73,100]
def bj:List UInt8:=[67,111,110,116,101,110,116,45,76,101,110,103,116,104]
def Ui:List UInt8:=[80,79,83,84]
def AR:List UInt8:=[80,85,84]
def Nb:List UInt8:=[80,65,84,67,72]
def eN:List UInt8:=[67,79,78,78,69,67,84]
def sId:List UInt8:=[105,100]
def Ahv:List UInt8:=[109,101,116,104,111,100]
def bg:List UInt8:=[116,97,114,103,101,116]
def ua:List UInt8:=[104,111,115,116]
def bh:List UInt8:=[102,105,101,108,100,115]
def nu:List UInt8:=[98,111,100,121]
def Fa(r:Rq):Bool:=((r.body != []||r.method==Ui)||r.method==AR)||r.method==Nb
def A2(r:Rq):List HF×Int :=
 if (Ci r.fields).2≠0 then ([],(Ci r.fields).2) else
 (([⟨Kg,r.host⟩,⟨Uh,Lib.itoa r.id⟩]++(Ci r.fields).1)++(if Fa r then [⟨bj,Lib.itoa r.body.length⟩] else []),0)
theorem A3.app{f':Nat->List SV}{m n':Int}(R:A3 f n a)(S:A3 g m b)(h:Ts f' n' n m f g)(hl:a.length+b.length<=9223372036854775807):A3 f' n' (a++b):=by
 have hn:=R.n;have hm:=S.n;refine⟨by rw[h.len,hn,hm,QW];omega,λi hi=>?_,by rw[QW];exact hl,λi hi=>?_⟩
 .rw[QW]at hi
  rw[QC,YC]
  split
  .rename_i h1
   rw[h.lo i (by omega),R.f i h1,QC]
  .rename_i h1
   rw[h.hi i (i-a.length) (by omega) (by omega),S.f _ (by omega),QC]
 .rw[QW]at hi
  rw[QC,YC]
  split
  .rename_i h1
   have:=R.small i h1
   rwa [QC]at this
  .rename_i h1
   have:=S.small (i-a.length) (by omega)
   rwa [QC]at this
theorem A3.one{x:HF}(h:f 0=Dk x)(hs:x.small):A3 f 1 [x]:=by
 refine⟨rfl,λi hi=>?_,by simp,λi hi=>?_⟩
 .have:i=0:=by simpa using hi
  subst this;exact h
 .have:i=0:=by simpa using hi
  subst this;exact hs
theorem A3.two{x y:HF}(h:f 0=Dk x)(h1:f 1=Dk y)(hs:x.small)(cC:y.small):A3 f 2 [x,y]:=by
 refine⟨rfl,λi hi=>?_,by simp,λi hi=>?_⟩
 .match i,hi with
  |0,_=>exact h
  |1,_=>exact h1
 .match i,hi with
  |0,_=>exact hs
  |1,_=>exact cC
theorem Hi(l:List HF):(Ci l).2=0->(Ci l).1.length<=100:=by
 intro h;unfold Ci at h ⊢
 split
 .simp
 .rename_i h1
  rw[QD h1]at h;have h1:Bh l=0:=by simpa using h1
  have:=Dl h1
  split
  .have:=Mc (Ie l).1 l
   simp only;omega
  .simp
theorem Lf(h1:-9223372036854775808<=n)(h2:n<=9223372036854775807):(Lib.itoa n).length<=9223372036854775807:=by
 have:=Lib.itoa_length_le n h1 h2;omega
def oE:aD:=λ_ xs ls K=>∃(r:Rq) (nl:Bool) (n:Int) (f:Nat->List SV),xs=[.agg [.int .i64 (.a r.id),.str r.method,.str r.target,.str r.host,.sl (.a nl) (.a n) 2 f,.str r.body]]/\ls=[]/\Rc r nl n f/\
 ∀l e nb n' g,(l,e)=A2 r->A3 g n' l->nb=(e != 0)->K (.tup [.sl (.a nb) (.a n') 2 g,.int .i64 (.a e)]) []
theorem rowOf(l:List HF)(h:l.length<=9223372036854775807)(hs:∀i,i<l.length->(l.getD i default).small):∃g n,A3 g n l:=⟨_,_,A3.row h hs⟩
theorem D3(h:∀i,i<a.length->(a.getD i default).small)(h2:∀i,i<b.length->(b.getD i default).small):∀i,i<(a++b).length->((a++b).getD i default).small:=by
 intro i hi;rw[QW]at hi;rw[QC,YC]
 split
 .rename_i h1
  have:=h i h1
  rwa [QC]at this
 .rename_i h1
  have:=h2 (i-a.length) (by omega)
  rwa [QC]at this
theorem Jr(h:∀i,i<l.length->(l.getD i default).small):∀i,i<(Ci l).1.length->((Ci l).1.getD i default).small:=by
 unfold Ci
 split
 .intro i hi;simp at hi
 .split
  .exact Le h
  .intro i hi;simp at hi
theorem Km(hD:D=dn){nb:Bool}{n2 e:Int}{g2:Nat->List SV}{x:BT}{z:ST}(h1:x.den=nb)(R:A3 g2 n2 l)(h2:y.den=n2)(h3:z.den=e)(R2:A3 g n l):
  Fin (.tup [.sl (.a (D.b x)) (.a (D.i y)) 2 g2,.int .i64 (.a (D.i z))]) (.tup [.sl (.a nb) (.a n) 2 g,.int .i64 (.a e)]) [] []:=by
 subst hD h1 h3;have hn:n2=n:=by rw[R.n,R2.n]
 refine Fb (fE.tup (nE.cons (fE.sl rfl (by show y.den=n;rw[h2,hn]) λi hi=>?_) (nE.refl _)));have hi:(i:Int)<y.den:=hi;have:=R.n;rw[R.f i (by omega),R2.f i (by omega)]
theorem Ae7:Aw Tryz.prog gl 256 oE:=by
 refine Bd (gh:=[]) mixed Be (Ab Al5 (Ab ya (Ab du Ai))) Tryz.func256 (by kernel_rfl) (by kernel_rfl) ?_;intro xs ls K h;unfold oE at h;obtain⟨r,nl,n,f,rfl,rfl,R,h⟩:=h;obtain⟨k,hk⟩:∃k,k=A2 r:=⟨_,rfl⟩;obtain⟨kl,ke⟩:=k;have xM:∀x:HF,∀(a b:List UInt8),x=⟨a,b⟩->a.length<=100->b.length<=9223372036854775807->x.small:=λx a b e h1 h2=>by subst e;exact⟨by show a.length<=_;omega,h2⟩
 have kB:HF.small ⟨Kg,r.host⟩:=xM _ _ _ rfl (by decide) R.host;have sG:HF.small ⟨Uh,Lib.itoa r.id⟩:=xM _ _ _ rfl (by decide) (Lf R.BE R.BD);have jI:HF.small ⟨bj,Lib.itoa r.body.length⟩:=xM _ _ _ rfl (by decide) (Lf (by omega) (by have:=R.body;omega));have hg:∃g n',A3 g n' kl:=by
  unfold A2 at hk
  split at hk
  .simp only[Prod.mk.injEq]at hk
   rw[hk.1];exact rowOf [] (by simp) (λi hi=>absurd hi (by simp))
  .rename_i h1
   have h1:(Ci r.fields).2=0:=by simpa using h1
   have h2:=Hi _ h1;simp only[Prod.mk.injEq]at hk;rw[hk.1];refine rowOf _ ?_ (D3 (D3 (λi hi=>?_) (Jr R.row.small)) ?_)
   .simp only[QW]
    split<;>simp<;>omega
   .match i,hi with
    |0,_=>exact kB
    |1,_=>exact sG
   .split
    .intro i hi
     have:i=0:=by simpa using hi
     subst this;exact jI
    .intro i hi;simp at hi
 obtain⟨g,n2,R2⟩:=hg;obtain⟨nb,eY⟩:∃nb,nb=(ke != 0):=⟨_,rfl⟩;refine⟨_,_,h kl ke nb n2 g hk R2 eY,λD hD=>?_⟩;clear h;obtain⟨id,me,ta,ho,fs,bo⟩:=r;simp only at R kB sG jI;unfold A2 at hk;simp only at hk;cbv;refine⟨fs,_,_,f,rfl,rfl,by subst hD;exact R.row,by subst hD;exact R.nil,λl e uq n3 g3 hl RR sO=>?_⟩;have gW:=Hi fs;rw[<-hl]at gW hk;simp only at gW hk;have R3:=RR.row;clear RR hl;cbv;refine br hD (λh=>?_) (λh=>?_)<;>cbv
 .have h1:e≠0:=by simpa using h
  rw[QE h1]at hk;simp only[Prod.mk.injEq]at hk;obtain⟨rfl,rfl⟩:=hk;exact Km hD (by rw[eY];simp[h1]) (l:=[]) ⟨rfl,λi hi=>absurd hi (by simp),by simp,λi hi=>absurd hi (by simp)⟩ rfl rfl R2
 have h1:e=0:=by simpa using h
 rw[QD (by simp[h1])]at hk;have WM:=gW h1;clear h gW;refine⟨_,_,rfl,rfl,by subst hD;exact R.BE,by subst hD;exact R.BD,by subst hD;rfl,λids pH=>?_⟩;cbv;have pH:ids=Lib.itoa id:=by subst hD;exact pH
 rw[<-pH]at hk sG;clear pH;intro f2 iR;cbv;have JG:A3 f2 2 [⟨Kg,ho⟩,⟨Uh,ids⟩]:=A3.two (iR.h 0 _ rfl) (iR.h 1 _ rfl) kB sG;clear iR;have BP:=R3.n;refine⟨?_,λf4 n4 hm=>?_⟩
 .subst hD
  refine⟨rfl,?_,?_⟩
  .show ((2:Int)+n3) * 32<=140737488355328
   omega
  .show (2:Int)+n3<=9223372036854775807
   omega
 cbv;have R4:A3 f4 n4 ([⟨Kg,ho⟩,⟨Uh,ids⟩]++l):=JG.app R3 (by subst hD;exact hm) (by simp only[QT,XV];omega);clear hm JG BP;have WL:(([⟨Kg,ho⟩,⟨Uh,ids⟩]:List HF)++l).length<=102:=by simp;omega
 obtain⟨l4,yD⟩:∃l4,l4=([⟨Kg,ho⟩,⟨Uh,ids⟩]:List HF)++l:=⟨_,rfl⟩;rw[<-yD]at hk R4 WL;clear yD;refine br hD (λh=>?_) (λh=>?_)<;>cbv
 .have hb:Fa ⟨id,me,ta,ho,fs,bo⟩=true:=h
  rw[QE hb]at hk;clear h hb;refine⟨_,rfl,rfl,by subst hD;show -9223372036854775808<=(bo.length:Int);omega,by subst hD;show (bo.length:Int)<=_;have:=R.body;simp only at this;omega,λbs lL=>?_⟩;cbv;have lL:bs=Lib.itoa (bo.length:Int):=by subst hD;exact lL
  rw[<-lL]at hk jI;clear lL;intro f5 pn;cbv;have JF:A3 f5 1 [⟨bj,bs⟩]:=A3.one (pn.h 0 _ rfl) jI;clear pn;refine⟨by subst hD;exact⟨rfl,by have:=R4.n;show (n4+1) * 32<=_;omega,by have:=R4.n;show n4+1<=_;omega⟩,λf6 n6 hm=>?_⟩;cbv;have R6:A3 f6 n6 (l4++[⟨bj,bs⟩]):=R4.app JF (by subst hD;exact hm) (by simp only[QT,XV];omega);clear hm;simp only[Prod.mk.injEq]at hk;obtain⟨cT,bE⟩:=hk;subst cT bE;exact Km hD (by rw[eY];rfl) R6 rfl rfl R2
 .have hb:Fa ⟨id,me,ta,ho,fs,bo⟩=false:=h
  rw[QD (by rw[hb];simp),YS]at hk;simp only[Prod.mk.injEq]at hk;obtain⟨cT,bE⟩:=hk;subst cT bE;exact Km hD (by rw[eY];rfl) R4 rfl rfl R2
end Go.Proofs.YtdoogdbjiijifaaGreatDoor
