/- A part of the proof: contracts of functions, or the executor and its soundness. No conditions. -/
import Derived.Lib.ItoaLen
import Derived.Test.YtdoogdbjiijifaaGreatDoorE8Pas
import Derived.Test.YtdoogdbjiijifaaGreatDoorE8Paq
namespace Go.Proofs.YtdoogdbjiijifaaGreatDoor
open Go Go.Sx
set_option maxRecDepth 100000
set_option maxHeartbeats 8000000
def Mz(l:List HF)(i:Nat):List SV:=match l[i]? with
 |some x=>Dw x
 |none=>[]
variable {l a:List HF}{i c m e:Nat}{I n n':Int}{f f' g:Nat->List SV}{D:Dn}{x y:ST}{s t:List UInt8}
theorem Amc(h:i<l.length):Mz l i=Dw (l.getD i default):=by
 unfold Mz;rw[QC h,QD,QC h];rfl
theorem A5.row(h:l.length<=9223372036854775807)(hs:∀i,i<l.length->(l.getD i default).small):A5 (Mz l) l.length l:=⟨rfl,λ_ hi=>Amc hi,h,hs⟩
def rK:aB:=λ_ xs ls K=>∃(l:List HF) (nl:Bool) (n:Int) (f:Nat->List SV),xs=[.sl (.a nl) (.a n) 2 f]/\ls=[]/\A5 f n l/\l.length<=100000/\(nl=true->l=[])/\
 ∀g n',A5 g n' l->K (.bV (.a nl) (.a n') 0) [.own 100 (.a n') 2 true g]
theorem Amz:Ap Tryz.prog gl 82 rK:=by
 refine Bv (gh:=[(2,[.own 2 100]),(3,[]),(999985,[])]) mixed Ck Ae Tryz.func82 (by kernel_rfl) (by kernel_rfl) ?_;intro xs ls K h;unfold rK at h;obtain⟨l,nl,n,f,rfl,rfl,R,hl,hn,h⟩:=h;obtain⟨g,hg⟩:∃g,g=Mz l:=⟨_,rfl⟩;obtain⟨n0,oB⟩:∃n0:Int,n0=l.length:=⟨_,rfl⟩;have R0:A5 g n0 l:=by rw[hg,oB];exact A5.row R.len R.small
 refine⟨_,_,h g n0 R0,λD hD=>?_⟩;clear h oB hg;cbv;refine br hD (λh=>?_) (λh=>?_)<;>cbv
 .have h2:nl=true:=h
  have h3:=hn h2;subst h2 h3;subst hD;have oB:n0=0:=R0.n;subst oB;exact Zm (Xl rfl rfl) rfl λi hi=>absurd hi (by show ¬((i:Int)<0);omega)
 .have h2:nl=false:=h
  subst h2;intro f0 h0;clear h0;cbv;refine⟨?_,λf1 n1 hm=>?_⟩
  .subst hD;exact⟨rfl,by have:=R.n;show ((0:Int)+n) * 32<=_;omega,by have:=R.n;show (0:Int)+n<=_;omega⟩
  cbv;have e1:n1=n0:=by subst hD;have:=R.n;have:=R0.n;have h5:n1=0+n:=hm.len;omega
  have e2:∀i,i<l.length->f1 i=g i:=by
   intro i hi;rw[hm.hi i i (by subst hD;show (i:Int)=0+i;omega) (by subst hD;have:=R.n;show (i:Int)<n;omega),R.f i hi,R0.f i hi]
  clear hm;subst hD;refine Zm (Xl rfl ?_) ?_ λi hi=>e2 i (by have:=R0.n;have hi:(i:Int)<n1:=hi;omega)
  .exact e1
  .exact e1
def zL:aB:=λ_ xs ls K=>∃(a b:List UInt8) (F:List UInt8->Bool),xs=[.agg [.str a,.str b],.ptr 0 0]/\ls=[.aG 314 [.bP 1],.cZ F]/\a.length<=9223372036854775807/\
 ∀r,r=F (bG a)->K (.bool (.a r)) [.aG 314 [.bP 1],.cZ F]
theorem Amt:Ap Tryz.prog gl 309 zL:=by
 refine Bq (gh:=[]) mixed Ck (Ab Kh Ae) Tryz.func309 (by kernel_rfl) (by kernel_rfl) ?_;intro xs ls K h;unfold zL at h;obtain⟨a,b,F,rfl,rfl,ha,h⟩:=h;refine⟨_,_,h _ rfl,λD hD=>?_⟩;clear h;obtain⟨k,hk⟩:∃k,k=F (bG a):=⟨_,rfl⟩;rw[<-hk];cbv;refine⟨a,rfl,rfl,ha,λt ht=>?_⟩;have ht:t=bG a:=ht;cbv;rw[ht,<-hk];subst hD;exact Bt rfl rfl
def Re(F:List UInt8->Bool)(x:HF):Bool:=!F (bG x.name)
def Uu(p:HF->Bool):List HF->Int->Int
 | [],_=>-1
 |x :: l,i=>if p x then i else Uu p l (i+1)
def Ae0(F:List UInt8->Bool)(l:List HF):Int:=Uu (λx=>F (bG x.name)) l 0
def yZ:aB:=λ_ xs ls K=>∃(l:List HF) (F:List UInt8->Bool) (nl:Bool) (n:Int) (f:Nat->List SV),xs=[.bV (.a nl) (.a n) 0,.eZ 309 [.ptr 1 0]]/\ls=[.own 100 (.a n) 2 true f,.aG 314 [.bP 2],.cZ F]/\A5 f n l/\
 ∀r,r=Ae0 F l->K (.int .i64 (.a r)) [.own 100 (.a n) 2 true f,.aG 314 [.bP 2],.cZ F]
structure IxJ(k:Int)(F:List UInt8->Bool)(l:List HF)(i:Nat)(I:Int)(m:Nat):Prop where
 bY:AtR l i I m
 k:k=Uu (λx=>F (bG x.name)) (l.drop i) I
def ixJ(k:Int)(F:List UInt8->Bool)(l:List HF)(nl:Bool)(n:Int)(f:Nat->List SV)(m:Nat)(vs:List (Option SV))(hp:List Hl):Prop :=
 ∃(i:Nat) (I:Int),vs=[some (.bV (.a nl) (.a n) 0),some (.eZ 309 [.ptr 1 0]),some (.int .i64 (.a n)),some (.int .i64 (.a I))]/\hp=[.own 100 (.a n) 2 true f,.aG 314 [.bP 2],.cZ F]/\IxJ k F l i I m
theorem jv:Ap Tryz.prog gl 246 yZ:=by
 refine Bq (gh:=[]) mixed Ck (Al Amt Ae) Tryz.func246 (by kernel_rfl) (by kernel_rfl) ?_;intro xs ls K h;unfold yZ at h;obtain⟨l,F,nl,n,f,rfl,rfl,R,h⟩:=h;obtain⟨k,hk⟩:∃k,k=Ae0 F l:=⟨_,rfl⟩;refine⟨_,_,h k hk,λD hD=>?_⟩;clear h;obtain⟨J,hJ⟩:∃J,J=ixJ k F l nl n f:=⟨_,rfl⟩;cbv;refine⟨[0,1,7,8],J,⟨rfl,l.length,?_⟩,?_⟩
 .rw[hJ]
  subst hD;exact⟨0,0,rfl,rfl,AtR.zero R.len,hk⟩
 intro m vs hp hj;rw[hJ]at hj;obtain⟨i,I,rfl,rfl,V⟩:=hj;clear hk;cbv;refine br hD (λh=>?_) (λh=>?_)<;>cbv
 .have aC:=V.bY.lt R.n (QT (p:=I<n) h)
  clear h;refine⟨⟨by subst hD;rfl⟩,V.bY.fS hD R.n aC,λj hj=>?_⟩;obtain rfl:=V.bY.j hD hj;clear hj;have e1:=R.f j aC;have eF:=R.small j aC;have aZ:=V.k;rw[Hb (d:=default) aC]at aZ;obtain⟨x,hx⟩:∃x,x=l.getD j default:=⟨_,rfl⟩;rw[<-hx]at e1 aZ eF;obtain⟨a,b⟩:=x;cbv;rw[e1];cbv;refine⟨⟨by subst hD;rfl⟩,⟨by subst hD;have:=R.n;show (j:Int)<n;omega⟩,?_⟩;refine⟨a,b,F,?_,?_,eF.1,λt ht=>?_⟩
  .rfl
  .rfl
  cbv;refine br hD (λh=>?_) (λh=>?_)<;>cbv
  .have h3:F (bG a)=true:=by rw[<-ht];simpa using h
   subst hD;rw[aZ,Uu,QB h3];exact Bt rfl rfl
  .have h3:F (bG a)=false:=by rw[<-ht];simpa using h
   clear h;obtain⟨g1,g2⟩:=V.bY.step hD aC;refine⟨_,g1,?_⟩;rw[hJ];unfold ixJ;subst hD;refine⟨j+1,_,rfl,rfl,g2,?_⟩;rw[aZ,Uu,QA (by rw[h3];simp)];have h6:=g2.I;have h7:=V.bY.I;rw[h6,h7];rfl
 .have hi:=V.bY.eq R.n (QW (p:=I<n) h)
  have aZ:=V.k;rw[hi,XQ]at aZ;clear h;subst hD;rw[aZ];exact Bt rfl rfl
def Fe(F:List UInt8->Bool)(l:List HF):List HF:=l.filter (Re F)
def zM:aB:=λ_ xs ls K=>∃(l:List HF) (F:List UInt8->Bool) (nl:Bool) (n:Int) (f:Nat->List SV),xs=[.bV (.a nl) (.a n) 0,.eZ 309 [.ptr 1 0]]/\ls=[.own 100 (.a n) 2 true f,.aG 314 [.bP 2],.cZ F]/\A5 f n l/\
 ∀g n',A5 g n' (Fe F l)->K (.sl (.a nl) (.a n') 2 g) [.gone,.aG 314 [.bP 2],.cZ F]
structure af0(F:List UInt8->Bool)(l:List HF)(f:Nat->List SV)(j:Nat)(I J:Int)(m:Nat):Prop where
 bY:AtR l j J m
 I:I=((Fe F (l.take j)).length:Int)
 row:∀k,k<(Fe F (l.take j)).length->f k=Dw ((Fe F (l.take j)).getD k default)
 rest:∀k,j<=k->k<l.length->f k=Dw (l.getD k default)
 fw:∀k,k<l.length->∃x,f k=Dw x
 lt:(Fe F (l.take j)).length<j
def zm(F:List UInt8->Bool)(l:List HF)(nl:Bool)(n:Int)(m:Nat)(vs:List (Option SV))(hp:List Hl):Prop :=
 ∃(j:Nat) (I J:Int) (f:Nat->List SV),vs=[some (.bV (.a nl) (.a n) 0),some (.eZ 309 [.ptr 1 0]),some (.int .i64 (.a I)),some (.int .i64 (.a J))]/\hp=[.own 100 (.a n) 2 true f,.aG 314 [.bP 2],.cZ F]/\af0 F l f j I J m
theorem Up(F:List UInt8->Bool)(l:List HF){j:Nat}(h:j<l.length):Fe F (l.take (j+1))=Fe F (l.take j)++(if Re F (l.getD j default) then [l.getD j default] else []):=by
 unfold Fe;rw[List.take_succ_eq_append_getElem h,List.filter_append,QD,QC h];congr 1;simp only[XG,UN,List.filter_nil]
theorem Xr{p:HF->Bool}:∀ {l:List HF} {i:Int},0<=i->Uu p l i=-1->l.filter (λx=>!p x)=l
 | [],_,_,_=>rfl
 |x :: l,i,hi,h=>by
  unfold Uu at h
  split at h
  .omega
  .rename_i hp
   rw[UN,QB (by simpa using hp),Xr (by omega) h]
theorem Xq{p:HF->Bool}:∀ {l:List HF} {i:Int},0<=i->Uu p l i≠-1->∃j:Nat,Uu p l i=i+j/\j<l.length/\p (l.getD j default)=true/\(l.take j).filter (λx=>!p x)=l.take j
 | [],_,_,h=>absurd rfl h
 |x :: l,i,hi,h=>by
  unfold Uu at h ⊢
  split at h
  .rename_i hp
   exact⟨0,by rw[QB hp];omega,by simp,by simpa using hp,by simp⟩
  .rename_i hp
   rw[QA hp];obtain⟨j,h1,h2,h3,h4⟩:=Xq (by omega) h;refine⟨j+1,by rw[h1];omega,by simp;omega,by simpa using h3,?_⟩;rw[YE,UN,QB (by simpa using hp),h4]
theorem Mh(F:List UInt8->Bool)(l:List HF):(Fe F l).length<=l.length:=YX _ _
theorem Ls{F:List UInt8->Bool}(h:∀i,i<l.length->(l.getD i default).small):∀i,i<(Fe F l).length->((Fe F l).getD i default).small:=by
 intro i hi;have hm:(Fe F l).getD i default∈l:=by
  rw[QD,QC hi];exact (List.mem_filter.1 (XL hi)).1
 obtain⟨k,hk,e⟩:=List.mem_iff_getElem.1 hm;have:=h k hk
 rwa [QD,QC hk,XG,e]at this
theorem nk:Ap Tryz.prog gl 308 zM:=by
 refine Bq (gh:=[(3,[.share 4])]) mixed Ck (Al jv (Al Amt Ae)) Tryz.func308 (by kernel_rfl) (by kernel_rfl) ?_;intro xs ls K h;unfold zM at h;obtain⟨l,F,nl,n,f,rfl,rfl,R,h⟩:=h;obtain⟨l2,iJ⟩:∃l2,l2=Fe F l:=⟨_,rfl⟩;obtain⟨g,hg⟩:∃g,g=Mz l2:=⟨_,rfl⟩;obtain⟨n2,kW⟩:∃n2:Int,n2=l2.length:=⟨_,rfl⟩;have R2:A5 g n2 l2:=by
  rw[hg,kW];refine A5.row ?_ ?_
  .have:=Mh F l;have:=R.len;rw[iJ];omega
  .rw[iJ];exact Ls R.small
 refine⟨_,_,h g n2 (by rw[<-iJ];exact R2),λD hD=>?_⟩;clear h kW hg;obtain⟨J,hJ⟩:∃J,J=zm F l nl n:=⟨_,rfl⟩;cbv;refine⟨l,F,nl,n,f,?_,?_,R,λi hi=>?_⟩
 .subst hD;rfl
 .subst hD;rfl
 cbv;refine br hD (λh=>?_) (λh=>?_)<;>cbv
 .have h2:i=-1:=by simpa using h
  clear h;have h3:Fe F l=l:=Xr (ZC 0) (show Ae0 F l=-1 by rw[<-hi];exact h2);rw[h3]at iJ;subst iJ;refine⟨⟨by subst hD;rfl⟩,?_⟩;subst hD;refine⟨aO.sl rfl ?_ λk hk=>?_,cI.refl _,QH _⟩
  .show n=n2;rw[R.n,R2.n]
  .have hk:(k:Int)<n:=hk
   have:=R.n;rw[R.f k (by omega),R2.f k (by omega)]
 have h2:i≠-1:=by simpa using h
 clear h;obtain⟨i0,h3,h4,h5,h6⟩:=Xq (ZC 0) (by rw[hi]at h2;exact h2);have h3:i=(i0:Int):=by rw[hi];show Uu _ l 0=_;rw[h3];omega
 have fG:Fe F (l.take (i0+1))=l.take i0:=by
  rw[Up F l h4];have:Re F (l.getD i0 default)=false:=by unfold Re;rw[h5];rfl
  rw[this,QA (by simp),YT];exact h6
 clear hi h2;refine⟨[0,1,5,6],J,⟨rfl,l.length-(i0+1),?_⟩,?_⟩
 .rw[hJ]
  subst hD;refine⟨i0+1,_,_,f,rfl,rfl,⟨by omega,?_,rfl,R.len⟩,?_,λk hk=>?_,λk _ hk=>R.f k hk,λk hk=>⟨_,R.f k hk⟩,?_⟩
  .have:=R.len
   show IntKind.i64.wrap (i+1)=_;rw[h3,wrap64 (by omega) (by omega)];omega
  .rw[fG,QZ];show i=_;omega
  .rw[fG]at hk ⊢
   rw[QZ]at hk;rw[R.f k (by omega),QD,QD,QN,QB (by omega)]
  .rw[fG,QZ];omega
 clear h3 h4 h5 h6 fG;intro m vs hp hj;rw[hJ]at hj;obtain⟨j,I,Jv,f1,rfl,rfl,V⟩:=hj;cbv;refine br hD (λh=>?_) (λh=>?_)<;>cbv
 .have aC:=V.bY.lt R.n (QT (p:=Jv<n) h)
  clear h;refine⟨⟨by subst hD;rfl⟩,V.bY.fS hD R.n aC,λq hq=>?_⟩;obtain rfl:=V.bY.j hD hq;clear hq;have e1:=V.rest q (QH q) aC;have eF:=R.small q aC;have qy:=Up F l aC;obtain⟨x,hx⟩:∃x,x=l.getD q default:=⟨_,rfl⟩;rw[<-hx]at e1 qy eF;obtain⟨a,b⟩:=x;cbv;rw[e1];cbv;refine⟨⟨by subst hD;rfl⟩,⟨by subst hD;have:=R.n;show (q:Int)<n;omega⟩,?_⟩;refine⟨a,b,F,?_,?_,eF.1,λt ht=>?_⟩
  .rfl
  .rfl
  cbv;refine br hD (λh=>?_) (λh=>?_)<;>cbv
  .have h3:Re F ⟨a,b⟩=true:=by
    have h:(!t)=true:=h;unfold Re;rw[<-h,ht]
   clear h;rw[QB h3]at qy;refine⟨⟨by subst hD;rfl⟩,?_,λp hp=>?_⟩
   .subst hD
    have h1:=V.I;have h2:=V.lt;have:=R.n;exact⟨by show 0<=I;omega,by show I<n;omega⟩
   have pE:p=(Fe F (l.take q)).length:=by
    have hp:(p:Int)=I:=by subst hD;exact hp.h
    have:=V.I;omega
   clear hp;have SU:p<l.length:=by have:=V.lt;omega
   obtain⟨y,hy⟩:=V.fw p SU;obtain⟨c,d⟩:=y;cbv;refine⟨⟨by subst hD;rfl⟩,⟨by subst hD;have:=R.n;show (p:Int)<n;omega⟩,?_⟩;rw[hy];cbv;intro f2 eS;cbv;obtain⟨g1,g2⟩:=V.bY.step hD aC
   generalize hgm:l.length-(q+1)=m' at g1 g2
   refine⟨m',g1,?_⟩;rw[hJ];unfold zm;subst hD;have lu:f2 p=Dw ⟨a,b⟩:=eS.at_;have gD:(Fe F (l.take (q+1))).length=p+1:=by rw[qy,QF,<-pE];rfl
   refine⟨q+1,_,_,f2,rfl,rfl,g2,?_,λk hk=>?_,λk hk aZ=>?_,λk hk=>?_,?_⟩
   .rw[gD]
    have h1:=V.I;have h3:=R.len;show IntKind.i64.wrap (I+1)=_;rw[wrap64 (by omega) (by omega)];omega
   .rw[gD]at hk
    rw[qy]
    by_cases e:k=p
    .subst e
     rw[lu,QD,QO (by omega),<-pE,UE];rfl
    .rw[eS.other k e,V.row k (by omega),QD,QD,QM (by omega)]
   .have h4:=V.lt
    rw[eS.other k (by omega)];exact V.rest k (by omega) aZ
   .by_cases e:k=p
    .subst e;exact⟨_,lu⟩
    .rw[eS.other k e];exact V.fw k hk
   .rw[gD];have:=V.lt;omega
  .have h3:Re F ⟨a,b⟩=false:=by
    have h:(!t)=false:=h;unfold Re;rw[<-h,ht]
   clear h;rw[QA (by rw[h3];simp),YT]at qy;obtain⟨g1,g2⟩:=V.bY.step hD aC
   generalize hgm:l.length-(q+1)=m' at g1 g2
   refine⟨m',g1,?_⟩;rw[hJ];unfold zm;subst hD;refine⟨q+1,_,_,f1,rfl,rfl,g2,?_,?_,λk hk=>V.rest k (by omega),V.fw,?_⟩
   .rw[qy];exact V.I
   .rw[qy];exact V.row
   .rw[qy];have:=V.lt;omega
 .have hi:=V.bY.eq R.n (QW (p:=Jv<n) h)
  clear h;have aZ:Fe F (l.take j)=l2:=by rw[hi,YQ,iJ]
  have hI:I=(l2.length:Int):=by rw[<-aZ];exact V.I
  have hle:l2.length<=l.length:=by rw[iJ];exact Mh F l
  have aI:∀k,k<l2.length->f1 k=Dw (l2.getD k default):=by rw[<-aZ];exact V.row
  have R1:I=n2:=by rw[R2.n];exact hI
  have R3:0<=n2/\n2<=n:=by have:=R2.n;have:=R.n;omega
  clear aZ hI V;refine⟨⟨by subst hD;rfl⟩,by subst hD;exact⟨by show 0<=I;omega,by show I<=n;omega,ZC _⟩,?_⟩;refine⟨⟨by subst hD;rfl⟩,λf3 eN=>?_⟩;cbv;refine⟨⟨by subst hD;rfl⟩,by subst hD;exact⟨ZC _,by show 0<=I;omega,by show I<=n;omega⟩,?_⟩;subst hD;refine⟨aO.sl rfl R1 λk hk=>?_,cI.refl _,QH _⟩;have hk:(k:Int)<I:=hk;have h4:k<l2.length:=by have:=R2.n;omega
  rw[eN.lo k hk,aI k h4,R2.f k h4]
def El(l:List HF):List HF×Int :=
 if Bb l≠0 then ([],Bb l) else if (Jn l).2 then (Fe (Jn l).1 l,0) else ([],6)
structure ad5(l:List HF)(nb:Bool)(n:Int)(f:Nat->List SV):Prop where
 row:A5 f n l
 nil:nb=true->l=[]
def vF:aB:=λ_ xs ls K=>∃(l:List HF) (nl:Bool) (n:Int) (f:Nat->List SV),xs=[.sl (.a nl) (.a n) 2 f]/\ls=[]/\A5 f n l/\(nl=true->l=[])/\
 ∀r e nb n' g,(r,e)=El l->ad5 r nb n' g->(nb=(nl||e != 0))->K (.aJ [.sl (.a nb) (.a n') 2 g,.int .i64 (.a e)]) []
theorem Dz(h:Bb l=0):l.length<=100:=by
 unfold Bb at h
 split at h
 .cases h
 .omega
theorem Aj8:Ap Tryz.prog gl 288 vF:=by
 refine Bq (gh:=[]) mixed Ck (Al kh (Al Amz (Al nk Ae))) Tryz.func288 (by kernel_rfl) (by kernel_rfl) ?_;intro xs ls K h;unfold vF at h;obtain⟨l,nl,n,f,rfl,rfl,R,eK,h⟩:=h;obtain⟨k,hk⟩:∃k,k=El l:=⟨_,rfl⟩;obtain⟨kr,ke⟩:=k;obtain⟨g,hg⟩:∃g,g=Mz kr:=⟨_,rfl⟩;obtain⟨n2,kW⟩:∃n2:Int,n2=kr.length:=⟨_,rfl⟩;have wJ:kr=[]\/kr=Fe (Jn l).1 l:=by
  unfold El at hk
  split at hk
  .simp only[Prod.mk.injEq]at hk;exact .inl hk.1
  .split at hk
   .simp only[Prod.mk.injEq]at hk;exact .inr hk.1
   .simp only[Prod.mk.injEq]at hk;exact .inl hk.1
 have R2:A5 g n2 kr:=by
  rw[hg,kW];rcases wJ with rfl|rfl
  .exact⟨rfl,λi hi=>absurd hi (by simp),by simp,λi hi=>absurd hi (by simp)⟩
  .refine A5.row ?_ (Ls R.small)
   have:=Mh (Jn l).1 l;have:=R.len;omega
 obtain⟨nb,iB⟩:∃nb,nb=(nl||ke != 0):=⟨_,rfl⟩;refine⟨_,_,h kr ke nb n2 g hk ⟨R2,λhb=>?_⟩ iB,λD hD=>?_⟩
 .rcases wJ with h1|h1
  .exact h1
  .rw[iB]at hb
   simp only[XR,bne_iff_ne,ne_eq]at hb;rcases hb with hb|hb
   .rw[h1,eK hb];rfl
   .unfold El at hk
    split at hk
    .simp only[Prod.mk.injEq]at hk;exact hk.1
    .split at hk
     .simp only[Prod.mk.injEq]at hk;exact absurd hk.2 hb
     .simp only[Prod.mk.injEq]at hk;exact hk.1
 clear h hg kW;unfold El at hk;cbv;refine⟨l,_,_,f,rfl,rfl,by subst hD;exact R,λk bC=>?_⟩;unfold MG at bC;obtain⟨ce,hce⟩:∃ce,ce=Bb l:=⟨_,rfl⟩;rw[<-hce]at bC hk
 by_cases h1:ce≠0
 .rw[QB h1]at bC hk
  rw[bC];cbv;refine br hD (λh=>?_) (λh=>?_)
  .cbv
   simp only[Prod.mk.injEq]at hk;obtain⟨rfl,rfl⟩:=hk;subst hD;refine⟨aO.aJ (iM.cons (aO.sl ?_ ?_ λi hi=>absurd hi (by show ¬((i:Int)<0);omega)) (iM.refl _)),cI.refl _,QH _⟩
   .show true=nb
    rw[iB];simp[h1]
   .show 0=n2;rw[R2.n];rfl
  .cbv
   exact absurd h (by simp[BT.den,Bz,h1])
 .have mL:Bb l=0:=by rw[<-hce];simpa using h1
  rw[QA h1]at bC hk
  by_cases h2:(Jn l).2=true
  .rw[QB h2]at bC hk
   simp only[Prod.mk.injEq]at hk;obtain⟨rfl,rfl⟩:=hk;obtain⟨F,hF⟩:∃F,F=(Jn l).1:=⟨_,rfl⟩;rw[<-hF]at bC R2;rw[bC];cbv;refine br hD (λh=>?_) (λh=>?_)
   .cbv
    exact absurd h (by simp[BT.den,Bz])
   cbv;refine⟨l,nl,n,f,?_,rfl,R,by have:=Dz mL;omega,eK,λg1 n1 R1=>?_⟩
   .subst hD;rfl
   cbv;refine⟨l,F,nl,n1,g1,?_,?_,R1,λg3 n3 R3=>?_⟩
   .subst hD;rfl
   .subst hD;rfl
   cbv;subst hD;refine⟨aO.aJ (iM.cons (aO.sl ?_ ?_ λi hi=>?_) (iM.refl _)),cI.refl _,QH _⟩
   .show nl=nb
    rw[iB];simp
   .show n3=n2;rw[R2.n,R3.n]
   .have hi:(i:Int)<n3:=hi
    have:=R3.n;rw[R3.f i (by omega),R2.f i (by omega)]
  .rw[QA h2]at bC hk
   simp only[Prod.mk.injEq]at hk;obtain⟨rfl,rfl⟩:=hk;rw[bC];cbv;refine br hD (λh=>?_) (λh=>?_)
   .cbv
    subst hD;refine⟨aO.aJ (iM.cons (aO.sl ?_ ?_ λi hi=>absurd hi (by show ¬((i:Int)<0);omega)) (iM.refl _)),cI.refl _,QH _⟩
    .show true=nb
     rw[iB];simp
    .show 0=n2;rw[R2.n];rfl
   .cbv
    exact absurd h (by simp[BT.den,Bz])
set_option maxHeartbeats 40000000
def gb:aB:=λ_ xs ls K=>xs=[]/\ls=[]/\∀R,R=dX->K (.agg R) []
def ttK(Z:List SV):List (Nat×TI):=[
 (3,⟨.int .i64,1,8,[.int .i64 (.l 0)]⟩),
 (4,⟨.bool,1,1,[.bool (.l false)]⟩),
 (5,⟨.int .u8,1,1,[.int .u8 (.l 0)]⟩),
 (9,⟨.string,1,16,[.str []]⟩),
 (28,⟨.int .i64,1,8,[.int .i64 (.l 0)]⟩),
 (22,⟨.slice 5,1,24,[(.sl (.l true) (.l 0) 1 λ_=>[])]⟩),
 (261,⟨.array 256 5,256,256,Z⟩)]
def kQ:List SV:=List.replicate 256 (.int .u8 (.l 0))
theorem uj:yK Tryz.prog (ttK kQ)=true:=by kernel_rfl
theorem si{Z:List SV}(hZ:Z=kQ){eD:List (Nat×aB)}{gl:List (Nat×SV)}{gh:List (Nat×List Gh)}{its:List (Nat×(aB->aB))}{yl:List aB}:Az Tryz.prog ⟨dn,ttK Z,eD,gl,[],gh,its,yl⟩:=by
 subst hZ;exact⟨rfl,uj,λ_ h=>(by cases h)⟩
def Wd:List Nat:=[33,36,38,39,40,41,42,43,44,59,61,58,64,47]
def jh(i:Nat)(c:Nat):ST:=if c∈Wd.take i then .a 2 else .l 0
def ud(_:Nat):List SV:=[.int .u8 (.l 0)]
theorem S3:AA ud 256 1 kQ:=by
 refine⟨⟨λi r h=>?_⟩⟩;unfold kQ at h;have h2:=Np 256 i _ r h;have hi:i<256:=by
  rcases ZJ i 256 with h3|h3
  .exact h3
  .have:(chunks 1 256 (List.replicate 256 (.int .u8 (.l 0)))).length=256:=by kernel_rfl
   rw[QV (by omega)]at h;cases h
 rw[h2,A8,Bi,Nat.mul_one,List.drop_replicate,List.take_replicate];have:min 1 (256-i)=1:=by omega
 rw[this];rfl
structure KaV(i:Nat)(I:Int)(f:Nat->List SV)(m:Nat):Prop where
 I:I=i
 le:i<=14
 m:m=14-i
 row:∀c,c<256->f c=[.int .u8 (jh i c)]
def kaJ(z fl:Nat->List SV)(m:Nat)(vs:List (Option SV))(hp:List Hl):Prop :=
 ∃(i:Nat) (I:Int) (f:Nat->List SV),vs=[some (.ptr 0 0),some (.ptr 1 0),some (.bV (.a false) (.a 14) 2),some (.int .i64 (.a 14)),some (.int .i64 (.a I))]/\
  hp=[.row 261 (.a 256) 1 z,.row 261 (.a 256) 1 f,.own 5 (.a 14) 1 false fl]/\KaV i I f m
def ec(n c:Nat):ST:=if c<n/\Dr c=1 then .a 1 else jh 14 c
structure dm(c:Nat)(I:Int)(f:Nat->List SV)(m:Nat):Prop where
 I:I=c
 le:c<=256
 m:m=256-c
 row:∀k,k<256->f k=[.int .u8 (ec c k)]
theorem dm.lo(V:dm c I f m):0<=I:=by have:=V.I;omega
theorem dm.jG(V:dm c I f m)(h:c<256):∃X,f c=[.int .u8 X]:=⟨_,V.row c h⟩
theorem dm.yes{f2:Nat->List SV}(V:dm c I f m)(h:c<256)(hf:Ang f2 f c [.int .u8 (.a 1)])(hk:Dr c=1):dm (c+1) (dn.i (.bin .add .i64 (.a I) (.l 1))) f2 (256-(c+1)):=by
 refine⟨?_,by omega,rfl,λk aZ=>?_⟩
 .have:=V.I
  show IntKind.i64.wrap (I+1)=_;rw[wrap64 (by omega) (by omega)];omega
 .by_cases e:k=c
  .subst e
   rw[hf.at_,ec,QB ⟨by omega,hk⟩]
  .rw[hf.other k e,V.row k aZ]
   unfold ec;have:(k<c/\Dr k=1)↔(k<c+1/\Dr k=1):=by constructor<;>rintro⟨a,b⟩<;>exact⟨by omega,b⟩
   simp only[this]
theorem dm.no(V:dm c I f m)(h:c<256)(hk:Dr c≠1):dm (c+1) (dn.i (.bin .add .i64 (.a I) (.l 1))) f (256-(c+1)):=by
 refine⟨?_,by omega,rfl,λk aZ=>?_⟩
 .have:=V.I
  show IntKind.i64.wrap (I+1)=_;rw[wrap64 (by omega) (by omega)];omega
 .rw[V.row k aZ]
  unfold ec;have:(k<c/\Dr k=1)↔(k<c+1/\Dr k=1):=by
   constructor
   .rintro⟨a,b⟩;exact⟨by omega,b⟩
   .rintro⟨a,b⟩
    refine⟨?_,b⟩;rcases ZJ k c with h|h
    .exact h
    .obtain rfl:k=c:=by omega
     exact absurd b hk
  simp only[this]
def BP(z fl:Nat->List SV)(m:Nat)(vs:List (Option SV))(hp:List Hl):Prop :=
 ∃(c:Nat) (I:Int) (f:Nat->List SV),vs=[some (.ptr 0 0),some (.ptr 1 0),some (.int .i64 (.a I))]/\hp=[.row 261 (.a 256) 1 z,.row 261 (.a 256) 1 f,.own 5 (.a 14) 1 false fl]/\dm c I f m
theorem RM:∀c:Fin 256,decide (0<=Lib.indexByte [45,46,95,126] (UInt8.ofNat c.1))=decide (c.1=45\/c.1=46\/c.1=95\/c.1=126):=by decide
def iP:List SV:=(List.range 256).map λk=>.int .u8 (ec 256 k)
theorem Y7(h:∀k,k<256->f k=[.int .u8 (ec 256 k)]):Flat f 256 1 iP:=by
 refine⟨by simp[iP],λi hi=>?_⟩;have hi:i<256:=by omega
 have hl:iP.length=256:=by simp[iP]
 rw[h i hi,Nat.mul_one,YC (by rw[hl];exact hi)];simp[iP]
structure ae4(fl:Nat->List SV):Prop where
 h:∀j,j<14->fl j=[.int .u8 (.a ((Wd.getD j 0:Nat):Int))]
structure VI(vi:Int)(v:Nat):Prop where
 h:vi=(v:Int)
def wG:List SV:=[.int .u8 (.l 0),.int .u8 (.l 0),.int .u8 (.l 0),.int .u8 (.l 0),.int .u8 (.l 0),.int .u8 (.l 0),.int .u8 (.l 0),.int .u8 (.l 0),.int .u8 (.l 0),.int .u8 (.l 0),.int .u8 (.l 0),.int .u8 (.l 0),.int .u8 (.l 0),.int .u8 (.l 0),.int .u8 (.l 0),.int .u8 (.l 0),.int .u8 (.l 0),.int .u8 (.l 0),.int .u8 (.l 0),.int .u8 (.l 0),.int .u8 (.l 0),.int .u8 (.l 0),.int .u8 (.l 0),.int .u8 (.l 0),.int .u8 (.l 0),.int .u8 (.l 0),.int .u8 (.l 0),.int .u8 (.l 0),.int .u8 (.l 0),.int .u8 (.l 0),.int .u8 (.l 0),.int .u8 (.l 0),.int .u8 (.l 0),.int .u8 (.a 2),.int .u8 (.l 0),.int .u8 (.l 0),.int .u8 (.a 2),.int .u8 (.l 0),.int .u8 (.a 2),.int .u8 (.a 2),.int .u8 (.a 2),.int .u8 (.a 2),.int .u8 (.a 2),.int .u8 (.a 2),.int .u8 (.a 2),.int .u8 (.a 1),.int .u8 (.a 1),.int .u8 (.a 2),.int .u8 (.a 1),.int .u8 (.a 1),.int .u8 (.a 1),.int .u8 (.a 1),.int .u8 (.a 1),.int .u8 (.a 1),.int .u8 (.a 1),.int .u8 (.a 1),.int .u8 (.a 1),.int .u8 (.a 1),.int .u8 (.a 2),.int .u8 (.a 2),.int .u8 (.l 0),.int .u8 (.a 2),.int .u8 (.l 0),.int .u8 (.l 0),.int .u8 (.a 2),.int .u8 (.a 1),.int .u8 (.a 1),.int .u8 (.a 1),.int .u8 (.a 1),.int .u8 (.a 1),.int .u8 (.a 1),.int .u8 (.a 1),.int .u8 (.a 1),.int .u8 (.a 1),.int .u8 (.a 1),.int .u8 (.a 1),.int .u8 (.a 1),.int .u8 (.a 1),.int .u8 (.a 1),.int .u8 (.a 1),.int .u8 (.a 1),.int .u8 (.a 1),.int .u8 (.a 1),.int .u8 (.a 1),.int .u8 (.a 1),.int .u8 (.a 1),.int .u8 (.a 1),.int .u8 (.a 1),.int .u8 (.a 1),.int .u8 (.a 1),.int .u8 (.a 1),.int .u8 (.l 0),.int .u8 (.l 0),.int .u8 (.l 0),.int .u8 (.l 0),.int .u8 (.a 1),.int .u8 (.l 0),.int .u8 (.a 1),.int .u8 (.a 1),.int .u8 (.a 1),.int .u8 (.a 1),.int .u8 (.a 1),.int .u8 (.a 1),.int .u8 (.a 1),.int .u8 (.a 1),.int .u8 (.a 1),.int .u8 (.a 1),.int .u8 (.a 1),.int .u8 (.a 1),.int .u8 (.a 1),.int .u8 (.a 1),.int .u8 (.a 1),.int .u8 (.a 1),.int .u8 (.a 1),.int .u8 (.a 1),.int .u8 (.a 1),.int .u8 (.a 1),.int .u8 (.a 1),.int .u8 (.a 1),.int .u8 (.a 1),.int .u8 (.a 1),.int .u8 (.a 1),.int .u8 (.a 1),.int .u8 (.l 0),.int .u8 (.l 0),.int .u8 (.l 0),.int .u8 (.a 1),.int .u8 (.l 0),.int .u8 (.l 0),.int .u8 (.l 0),.int .u8 (.l 0),.int .u8 (.l 0),.int .u8 (.l 0),.int .u8 (.l 0),.int .u8 (.l 0),.int .u8 (.l 0),.int .u8 (.l 0),.int .u8 (.l 0),.int .u8 (.l 0),.int .u8 (.l 0),.int .u8 (.l 0),.int .u8 (.l 0),.int .u8 (.l 0),.int .u8 (.l 0),.int .u8 (.l 0),.int .u8 (.l 0),.int .u8 (.l 0),.int .u8 (.l 0),.int .u8 (.l 0),.int .u8 (.l 0),.int .u8 (.l 0),.int .u8 (.l 0),.int .u8 (.l 0),.int .u8 (.l 0),.int .u8 (.l 0),.int .u8 (.l 0),.int .u8 (.l 0),.int .u8 (.l 0),.int .u8 (.l 0),.int .u8 (.l 0),.int .u8 (.l 0),.int .u8 (.l 0),.int .u8 (.l 0),.int .u8 (.l 0),.int .u8 (.l 0),.int .u8 (.l 0),.int .u8 (.l 0),.int .u8 (.l 0),.int .u8 (.l 0),.int .u8 (.l 0),.int .u8 (.l 0),.int .u8 (.l 0),.int .u8 (.l 0),.int .u8 (.l 0),.int .u8 (.l 0),.int .u8 (.l 0),.int .u8 (.l 0),.int .u8 (.l 0),.int .u8 (.l 0),.int .u8 (.l 0),.int .u8 (.l 0),.int .u8 (.l 0),.int .u8 (.l 0),.int .u8 (.l 0),.int .u8 (.l 0),.int .u8 (.l 0),.int .u8 (.l 0),.int .u8 (.l 0),.int .u8 (.l 0),.int .u8 (.l 0),.int .u8 (.l 0),.int .u8 (.l 0),.int .u8 (.l 0),.int .u8 (.l 0),.int .u8 (.l 0),.int .u8 (.l 0),.int .u8 (.l 0),.int .u8 (.l 0),.int .u8 (.l 0),.int .u8 (.l 0),.int .u8 (.l 0),.int .u8 (.l 0),.int .u8 (.l 0),.int .u8 (.l 0),.int .u8 (.l 0),.int .u8 (.l 0),.int .u8 (.l 0),.int .u8 (.l 0),.int .u8 (.l 0),.int .u8 (.l 0),.int .u8 (.l 0),.int .u8 (.l 0),.int .u8 (.l 0),.int .u8 (.l 0),.int .u8 (.l 0),.int .u8 (.l 0),.int .u8 (.l 0),.int .u8 (.l 0),.int .u8 (.l 0),.int .u8 (.l 0),.int .u8 (.l 0),.int .u8 (.l 0),.int .u8 (.l 0),.int .u8 (.l 0),.int .u8 (.l 0),.int .u8 (.l 0),.int .u8 (.l 0),.int .u8 (.l 0),.int .u8 (.l 0),.int .u8 (.l 0),.int .u8 (.l 0),.int .u8 (.l 0),.int .u8 (.l 0),.int .u8 (.l 0),.int .u8 (.l 0),.int .u8 (.l 0),.int .u8 (.l 0),.int .u8 (.l 0),.int .u8 (.l 0),.int .u8 (.l 0),.int .u8 (.l 0),.int .u8 (.l 0),.int .u8 (.l 0),.int .u8 (.l 0),.int .u8 (.l 0),.int .u8 (.l 0),.int .u8 (.l 0),.int .u8 (.l 0),.int .u8 (.l 0),.int .u8 (.l 0),.int .u8 (.l 0),.int .u8 (.l 0),.int .u8 (.l 0),.int .u8 (.l 0),.int .u8 (.l 0),.int .u8 (.l 0)]
theorem Uq:wG=iP:=by kernel_rfl
theorem Ab8:Afr wG:=⟨by kernel_rfl,by kernel_rfl⟩
theorem Al0:Ap Tryz.prog [] 253 gb:=by
 obtain⟨Z,hZ⟩:∃Z,Z=kQ:=⟨_,rfl⟩;refine Bv (gh:=[(3000000,[]),(3000001,[]),(999985,[]),(16,[.oU 0])]) mixed (si hZ) (Ab Agu Ae) Tryz.func253 (by kernel_rfl) (by kernel_rfl) ?_;rintro xs ls K ⟨rfl,rfl,h⟩;obtain⟨R,hR⟩:∃R,R=dX:=⟨_,rfl⟩;refine⟨_,_,h R hR,λD hD=>?_⟩;clear h;obtain⟨z,hz⟩:∃z,z=ud:=⟨_,rfl⟩;have hzb:AA z 256 1 Z:=by rw[hz,hZ];exact S3
 have qo:∀k,z k=[.int .u8 (.l 0)]:=λk=>by rw[hz];rfl
 cbv;refine⟨z,hzb,?_⟩;cbv;refine⟨z,hzb,?_⟩;cbv;intro fl hf;have lE:ae4 fl:=by
  subst hD;refine⟨λj hj=>?_⟩
  match j,hj with
  |0,_=>exact hf.h 0 _ rfl
  |1,_=>exact hf.h 1 _ rfl
  |2,_=>exact hf.h 2 _ rfl
  |3,_=>exact hf.h 3 _ rfl
  |4,_=>exact hf.h 4 _ rfl
  |5,_=>exact hf.h 5 _ rfl
  |6,_=>exact hf.h 6 _ rfl
  |7,_=>exact hf.h 7 _ rfl
  |8,_=>exact hf.h 8 _ rfl
  |9,_=>exact hf.h 9 _ rfl
  |10,_=>exact hf.h 10 _ rfl
  |11,_=>exact hf.h 11 _ rfl
  |12,_=>exact hf.h 12 _ rfl
  |13,_=>exact hf.h 13 _ rfl
 clear hf;cbv;refine⟨⟨by subst hD;rfl⟩,?_⟩;obtain⟨J,hJ⟩:∃J,J=kaJ z fl:=⟨_,rfl⟩;cbv;refine⟨[0,1,6,7,8],J,⟨rfl,14,?_⟩,?_⟩
 .rw[hJ]
  subst hD;refine⟨0,0,z,rfl,rfl,rfl,by omega,rfl,λc _=>?_⟩;rw[qo];rfl
 intro m vs hp hj;rw[hJ]at hj;obtain⟨i,I,f,rfl,rfl,V⟩:=hj;cbv;refine br hD (λh=>?_) (λh=>?_)<;>cbv
 .have aC:i<14:=by
   have h:decide (I<14)=true:=h;simp only[QJ]at h;have:=V.I;omega
  clear h;refine⟨⟨by subst hD;rfl⟩,by subst hD;exact⟨by show 0<=I;have:=V.I;omega,by show I<14;have:=V.I;omega⟩,λj hj=>?_⟩;have sV:j=i:=by
   have hj:(j:Int)=I:=by subst hD;exact hj.h
   have:=V.I;omega
  subst sV;clear hj;have e1:=lE.h j aC;obtain⟨v,hv⟩:∃v,v=Wd.getD j 0:=⟨_,rfl⟩;rw[<-hv]at e1;have aj:v<256:=by
   have:∀j:Fin 14,Wd.getD j.1 0<256:=by decide
   rw[hv];exact this ⟨j,aC⟩
  obtain⟨vi,NA⟩:∃vi:Int,VI vi v:=⟨_,⟨rfl⟩⟩;rw[<-NA.h]at e1;cbv;refine⟨⟨by subst hD;rfl⟩,⟨by subst hD;show (j:Int)<14;omega⟩,?_⟩;rw[e1];cbv;refine⟨by subst hD;exact⟨by show 0<=vi;rw[NA.h];exact Int.natCast_nonneg v,by show vi<256;rw[NA.h];exact_mod_cast aj⟩,λq hq=>?_⟩;have dA:q=v:=by
   have hq:(q:Int)=vi:=by subst hD;exact hq.h
   rw[NA.h]at hq;exact_mod_cast hq
  subst dA;clear hq;obtain⟨X,e2⟩:∃X,f q=[.int .u8 X]:=⟨_,V.row q aj⟩;cbv;refine⟨⟨by subst hD;show (q:Int)<256;exact_mod_cast aj⟩,?_⟩;rw[e2];cbv;intro f2 eS;cbv;refine⟨14-(j+1),by have:=V.m;omega,?_⟩;rw[hJ];unfold kaJ;subst hD;refine⟨j+1,_,f2,rfl,rfl,?_,by omega,rfl,λc hc=>?_⟩
  .have:=V.I
   show IntKind.i64.wrap (I+1)=_;rw[wrap64 (by omega) (by omega)];omega
  .have sR:∀x,x∈Wd.take (j+1)↔x∈Wd.take j\/x=q:=by
    intro x;have hl:j<Wd.length:=aC;rw[List.take_succ_eq_append_getElem hl,ZZ,YP];have:Wd[j]=q:=by rw[hv,QD,QC hl];rfl
    rw[this]
   by_cases e:c=q
   .subst e
    rw[eS.at_,jh,QB ((sR c).2 (.inr rfl))];rfl
   .rw[eS.other c e,V.row c hc]
    unfold jh;have:(c∈Wd.take (j+1))↔c∈Wd.take j:=by rw[sR];exact⟨λh=>h.resolve_right e,.inl⟩
    simp only[this]
 have hi:i=14:=by
  have h:decide (I<14)=false:=h;simp only[QL]at h;have:=V.I;have:=V.le;omega
 have aI:=V.row;rw[hi]at aI;clear h V hJ J hi;obtain⟨J,hJ⟩:∃J,J=BP z fl:=⟨_,rfl⟩;refine⟨[0,1,15],J,⟨rfl,256,?_⟩,?_⟩
 .rw[hJ]
  subst hD;refine⟨0,0,f,rfl,rfl,rfl,by omega,rfl,λk hk=>?_⟩;rw[aI k hk,ec,QA (by omega)]
 clear aI;intro m vs hp hj;rw[hJ]at hj;obtain⟨c,I,f,rfl,rfl,V⟩:=hj;cbv;refine br hD (λh=>?_) (λh=>?_)<;>cbv
 .have aC:c<256:=by
   have h:decide (I<256)=true:=h;simp only[QJ]at h;have:=V.I;omega
  clear h;refine br hD (λh=>?_) (λh=>?_)<;>cbv
  .have fJ:Dr c=1:=by
    have h:(decide (48<=I)&&decide (I<=57))=true:=h;simp only[QE,QJ]at h;have:=V.I;unfold Dr;rw[QB (by omega)]
   clear h;refine⟨by subst hD;exact⟨by show 0<=I;have:=V.lo;omega,by show I<256;have:=V.I;omega⟩,λq hq=>?_⟩;have dA:q=c:=by
    have hq:(q:Int)=I:=by subst hD;exact hq.h
    have:=V.I;omega
   subst dA;clear hq;cbv;obtain⟨X,hX⟩:=V.jG aC;refine⟨by subst hD;exact⟨by show (q:Int)<256;omega⟩,?_⟩;rw[hX];cbv;intro f2 eS;cbv;refine⟨256-(q+1),by have:=V.m;omega,?_⟩;rw[hJ];unfold BP;subst hD;exact⟨q+1,_,f2,rfl,rfl,V.yes aC eS fJ⟩
  have n1:¬(48<=c/\c<=57):=by
   have h:(decide (48<=I)&&decide (I<=57))=false:=h;have hI:=V.I;rintro⟨a,b⟩;have a':decide (48<=I)=true:=by rw[QJ];omega
   have b':decide (I<=57)=true:=by rw[QJ];omega
   rw[a',b']at h;cases h
  clear h;refine br hD (λh=>?_) (λh=>?_)<;>cbv
  .have fJ:Dr c=1:=by
    have h:(decide (65<=I)&&decide (I<=90))=true:=h;simp only[QE,QJ]at h;have:=V.I;unfold Dr;rw[QB (by omega)]
   clear h;refine⟨by subst hD;exact⟨by show 0<=I;have:=V.lo;omega,by show I<256;have:=V.I;omega⟩,λq hq=>?_⟩;have dA:q=c:=by
    have hq:(q:Int)=I:=by subst hD;exact hq.h
    have:=V.I;omega
   subst dA;clear hq;cbv;obtain⟨X,hX⟩:=V.jG aC;refine⟨by subst hD;exact⟨by show (q:Int)<256;omega⟩,?_⟩;rw[hX];cbv;intro f2 eS;cbv;refine⟨256-(q+1),by have:=V.m;omega,?_⟩;rw[hJ];unfold BP;subst hD;exact⟨q+1,_,f2,rfl,rfl,V.yes aC eS fJ⟩
  have n2:¬(65<=c/\c<=90):=by
   have h:(decide (65<=I)&&decide (I<=90))=false:=h;have hI:=V.I;rintro⟨a,b⟩;have a':decide (65<=I)=true:=by rw[QJ];omega
   have b':decide (I<=90)=true:=by rw[QJ];omega
   rw[a',b']at h;cases h
  clear h;refine br hD (λh=>?_) (λh=>?_)<;>cbv
  .have fJ:Dr c=1:=by
    have h:(decide (97<=I)&&decide (I<=122))=true:=h;simp only[QE,QJ]at h;have:=V.I;unfold Dr;rw[QB (by omega)]
   clear h;refine⟨by subst hD;exact⟨by show 0<=I;have:=V.lo;omega,by show I<256;have:=V.I;omega⟩,λq hq=>?_⟩;have dA:q=c:=by
    have hq:(q:Int)=I:=by subst hD;exact hq.h
    have:=V.I;omega
   subst dA;clear hq;cbv;obtain⟨X,hX⟩:=V.jG aC;refine⟨by subst hD;exact⟨by show (q:Int)<256;omega⟩,?_⟩;rw[hX];cbv;intro f2 eS;cbv;refine⟨256-(q+1),by have:=V.m;omega,?_⟩;rw[hJ];unfold BP;subst hD;exact⟨q+1,_,f2,rfl,rfl,V.yes aC eS fJ⟩
  have n3:¬(97<=c/\c<=122):=by
   have h:(decide (97<=I)&&decide (I<=122))=false:=h;have hI:=V.I;rintro⟨a,b⟩;have a':decide (97<=I)=true:=by rw[QJ];omega
   have b':decide (I<=122)=true:=by rw[QJ];omega
   rw[a',b']at h;cases h
  clear h;have hw:IntKind.u8.wrap I=I:=IntWalk.u8_in _ ⟨V.lo,by have:=V.I;omega⟩;refine⟨_,_,rfl,rfl,by subst hD;show 0<=IntKind.u8.wrap I/\IntKind.u8.wrap I<=255;rw[hw];exact⟨V.lo,by have:=V.I;omega⟩,λr hr=>?_⟩;have cO:decide (0<=r)=decide (c=45\/c=46\/c=95\/c=126):=by
   have e:r=Lib.indexByte [45,46,95,126] (UInt8.ofNat c):=by
    have hr:r=Lib.indexByte [45,46,95,126] (UInt8.ofNat (IntKind.u8.wrap I).toNat):=by subst hD;exact hr
    rw[hr,hw,V.I];rfl
   rw[e];exact RM ⟨c,aC⟩
  clear hr;cbv;refine br hD (λh=>?_) (λh=>?_)<;>cbv
  .have fJ:Dr c=1:=by
    have h:decide (0<=r)=true:=h;rw[cO,QJ]at h;unfold Dr;rw[QB (by omega)]
   clear h;refine⟨by subst hD;exact⟨by show 0<=I;have:=V.lo;omega,by show I<256;have:=V.I;omega⟩,λq hq=>?_⟩;have dA:q=c:=by
    have hq:(q:Int)=I:=by subst hD;exact hq.h
    have:=V.I;omega
   subst dA;clear hq;cbv;obtain⟨X,hX⟩:=V.jG aC;refine⟨by subst hD;exact⟨by show (q:Int)<256;omega⟩,?_⟩;rw[hX];cbv;intro f2 eS;cbv;refine⟨256-(q+1),by have:=V.m;omega,?_⟩;rw[hJ];unfold BP;subst hD;exact⟨q+1,_,f2,rfl,rfl,V.yes aC eS fJ⟩
  .have fJ:Dr c≠1:=by
    have h:decide (0<=r)=false:=h;rw[cO,QL]at h;unfold Dr;rw[QA (by omega)]
    split<;>decide
   clear h;refine⟨256-(c+1),by have:=V.m;omega,?_⟩;rw[hJ];unfold BP;subst hD;exact⟨c+1,_,f,rfl,rfl,V.no aC fJ⟩
 have hc:c=256:=by
  have h:decide (I<256)=false:=h;simp only[QL]at h;have:=V.I;have:=V.le;omega
 have aI:=V.row;rw[hc]at aI;clear h V hJ hc;obtain⟨cs,cX⟩:∃cs,cs=wG:=⟨_,rfl⟩;refine⟨⟨by subst hD;rfl⟩,cs,by subst hD;rw[cX,Uq];exact Y7 aI,?_⟩;clear aI;cbv;refine⟨⟨by subst hD;rfl⟩,by rw[cX];exact Ab8,λk=>[.int .u8 (ec 256 k)],by subst hD;rw[cX,Uq];exact Y7 λ_ _=>rfl,?_⟩;refine⟨wG,by subst hD;rw[Uq];exact Y7 λ_ _=>rfl,?_⟩;clear cX;cbv;subst hD;rw[hR];exact Bt (by kernel_rfl) rfl
set_option maxHeartbeats 8000000
def Fz(c:Int):Int:=if 48<=c/\c<=57 then c-48 else if 65<=c/\c<=70 then c-55 else if 97<=c/\c<=102 then c-87 else -1
theorem Ps(c:Int):-1<=Fz c/\Fz c<=15:=by
 unfold Fz
 split
 .omega
 .split
  .omega
  .split<;>omega
def uZ:aB:=λ_ xs ls K=>∃(c:Int),xs=[.int .u8 (.a c)]/\ls=[]/\(0<=c/\c<=255)/\∀r,r=Fz c->K (.int .i64 (.a r)) []
theorem Aj2:Ap Tryz.prog gl 287 uZ:=by
 refine Bv (gh:=[]) mixed Ck Ae Tryz.func287 (by kernel_rfl) (by kernel_rfl) ?_;intro xs ls K h;unfold uZ at h;obtain⟨c,rfl,rfl,hc,h⟩:=h;obtain⟨k,hk⟩:∃k,k=Fz c:=⟨_,rfl⟩;refine⟨_,_,h k hk,λD hD=>?_⟩;clear h;unfold Fz at hk;cbv;have w:∀n:Int,-1000<=n->n<=1000->IntKind.i64.wrap n=n:=λn a b=>wrap64 (by omega) (by omega);refine br hD (λh=>?_) (λh=>?_)<;>cbv
 .have h2:48<=c/\c<=57:=by simpa using h
  refine B6 hD ?_;rw[hk,QB h2];show IntKind.i64.wrap (IntKind.i64.wrap c-48)=_;rw[w c (by omega) (by omega),w _ (by omega) (by omega)]
 have h2:¬(48<=c/\c<=57):=by simpa using h
 rw[QA h2]at hk;clear h h2;refine br hD (λh=>?_) (λh=>?_)<;>cbv
 .have h2:65<=c/\c<=70:=by simpa using h
  refine B6 hD ?_;rw[hk,QB h2];show IntKind.i64.wrap (IntKind.i64.wrap (IntKind.i64.wrap c-65)+10)=_;rw[w c (by omega) (by omega),w (c-65) (by omega) (by omega),w _ (by omega) (by omega)];omega
 have h2:¬(65<=c/\c<=70):=by simpa using h
 rw[QA h2]at hk;clear h h2;refine br hD (λh=>?_) (λh=>?_)<;>cbv
 .have h2:97<=c/\c<=102:=by simpa using h
  refine B6 hD ?_;rw[hk,QB h2];show IntKind.i64.wrap (IntKind.i64.wrap (IntKind.i64.wrap c-97)+10)=_;rw[w c (by omega) (by omega),w (c-97) (by omega) (by omega),w _ (by omega) (by omega)];omega
 have h2:¬(97<=c/\c<=102):=by simpa using h
 rw[QA h2]at hk;refine B6 hD ?_;rw[hk];rfl
def Uv(s:List UInt8)(i:Nat):Prop:=i+2<s.length/\aF s i=37/\0<=Fz (aF s (i+1))/\0<=Fz (aF s (i+2))
instance (s:List UInt8) (i:Nat):Decidable (Uv s i):=by unfold Uv;exact inferInstance
def Gz(s:List UInt8)(i:Nat):Bool:=decide (Uv s i)
def LP(s:List UInt8)(i:Nat):Int:=if Uv s i then 16 * Fz (aF s (i+1))+Fz (aF s (i+2)) else 0
theorem Nq(s:List UInt8)(i j:Nat):aF (s.drop i) j=aF s (i+j):=by
 unfold aF;rw[QD,XF,<-QD]
theorem Ai6(s:List UInt8)(i:Nat):Uv (s.drop i) 0↔Uv s i:=by
 unfold Uv;rw[Nq,Nq,Nq,QY];simp only[XY,XE];constructor<;>rintro⟨a,b⟩<;>exact⟨by omega,b⟩
theorem Afb(s:List UInt8)(i:Nat):Gz (s.drop i) 0=Gz s i:=by
 unfold Gz;rw[YV];exact Ai6 s i
def vC:aB:=λ_ xs ls K=>∃(s:List UInt8),xs=[.str s]/\ls=[]/\s.length<=9223372036854775807/\∀v b,v=LP s 0->b=Gz s 0->K (.aJ [.int .u8 (.a v),.bool (.a b)]) []
theorem PR:∀a b:Fin 16,Eg .or .i64 (IntKind.i64.wrap ((a.1:Int) * 16)) (b.1:Int)=16 * a.1+b.1:=by decide
theorem Amg(hD:D=dn){v:Int}{b:Bool}{y:BT}(h1:x.den=v)(h2:y.den=b):Fin (.aJ [.int .u8 (.a (D.i x)),.bool (.a (D.b y))]) (.aJ [.int .u8 (.a v),.bool (.a b)]) [] []:=by
 subst hD h1 h2;exact C6 (aO.refl _)
theorem Aac:Ap Tryz.prog gl 254 vC:=by
 refine Bv (gh:=[]) mixed Ck (Ab Aj2 Ae) Tryz.func254 (by kernel_rfl) (by kernel_rfl) ?_;intro xs ls K h;unfold vC at h;obtain⟨s,rfl,rfl,hs,h⟩:=h;obtain⟨kv,CB⟩:∃k,k=LP s 0:=⟨_,rfl⟩;obtain⟨kb,kY⟩:∃k,k=Gz s 0:=⟨_,rfl⟩;refine⟨_,_,h kv kb CB kY,λD hD=>?_⟩;clear h;cbv;refine⟨λhg=>?_,λc hc=>?_⟩
 .subst hD;exact⟨by decide,by have hg:(!decide ((s.length:Int)<3))=true:=hg;simp at hg;show (0:Int)<_;omega⟩
 have fR:En c s 0:=by subst hD;exact⟨hc.h⟩
 clear hc;cbv;refine br hD (λh=>?_) (λh=>?_)<;>cbv
 .have h2:¬Uv s 0:=by
   rintro⟨h1,h2,_⟩;rw[<-fR.aF]at h2;have h:(decide ((s.length:Int)<3)||(c != 37))=true:=h;simp only[XR,QJ,bne_iff_ne,ne_eq]at h;omega
  exact Amg hD (by rw[CB,LP,QA h2];rfl) (by rw[kY,Gz,YI h2];rfl)
 have h2:3<=s.length/\c=37:=by
  have h:(decide ((s.length:Int)<3)||(c != 37))=false:=h;simp only[XC,QL,bne_eq_false_iff_eq]at h;omega
 clear h;obtain⟨h3,rfl⟩:=h2;refine⟨by subst hD;exact⟨by decide,by show (1:Int)<_;omega⟩,λx hx=>?_⟩;have ae:En x s 1:=by subst hD;exact⟨hx.h⟩
 clear hx;cbv;refine⟨_,rfl,rfl,by subst hD;exact ae.le,λa ha=>?_⟩;have ha:a=Fz x:=by subst hD;exact ha
 cbv;refine⟨by subst hD;exact⟨by decide,by show (2:Int)<_;omega⟩,λy hy=>?_⟩;have RP:En y s 2:=by subst hD;exact⟨hy.h⟩
 clear hy;cbv;refine⟨_,rfl,rfl,by subst hD;exact RP.le,λb hb=>?_⟩;have hb:b=Fz y:=by subst hD;exact hb
 cbv;have hP:Uv s 0↔0<=a/\0<=b:=by
  unfold Uv;simp only[XE];rw[<-fR.aF,<-ae.aF,<-RP.aF,<-ha,<-hb];constructor
  .exact λh=>h.2.2
  .exact λh=>⟨by omega,rfl,h⟩
 refine br hD (λh=>?_) (λh=>?_)<;>cbv
 .have h2:¬Uv s 0:=by
   rw[hP];have h:(decide (a<0)||decide (b<0))=true:=h;simp only[XR,QJ]at h;omega
  exact Amg hD (by rw[CB,LP,QA h2];rfl) (by rw[kY,Gz,YI h2];rfl)
 have h2:0<=a/\0<=b:=by
  have h:(decide (a<0)||decide (b<0))=false:=h;simp only[XC,QL]at h;omega
 have la:=(Ps x).2;have lb:=(Ps y).2;rw[<-ha]at la;rw[<-hb]at lb;refine⟨⟨by subst hD;decide⟩,?_⟩;refine Amg hD ?_ ?_
 rotate_left
 .rw[kY,Gz,ZN (hP.2 h2)];rfl
 rw[CB,LP,QB (hP.2 h2)];simp only[XE];rw[<-ae.aF,<-RP.aF,<-ha,<-hb];have e:=PR ⟨a.toNat,by omega⟩ ⟨b.toNat,by omega⟩;simp only at e;rw[Int.toNat_of_nonneg h2.1,Int.toNat_of_nonneg h2.2]at e;show IntKind.u8.wrap (Eg .or .i64 (IntKind.i64.wrap (a * 16)) b)=_;rw[e];have:∀n:Int,0<=n->n<=255->IntKind.u8.wrap n=n:=λn h0 h1=>by
  have:=IntWalk.u8_in n ⟨by omega,by omega⟩;exact this
 exact this _ (by omega) (by omega)
set_option maxHeartbeats 16000000
def Kc(s:List UInt8)(i e:Nat):Option Nat :=
 if h:i<s.length then
  if Gz s i then Kc s (i+3) e
  else if aF s i=63 then Kc s (i+1) (min e i)
  else if Dr (aF s i).toNat=0 then none
  else Kc s (i+1) e
 else some e
 termination_by s.length-i
def tz(s:List UInt8):Int×Int :=
 if 500<s.length then (0,3) else if !Lib.hasPrefix s [47] then (0,6) else match Kc s 0 s.length with
  |some e=>((e:Int),0)
  |none=>(0,6)
def oy:aB:=λ_ xs ls K=>∃(s:List UInt8),xs=[.str s]/\ls=[]/\s.length<=9223372036854775807/\∀e r,(e,r)=tz s->K (.aJ [.int .i64 (.a e),.int .i64 (.a r)]) []
structure KY(f:Nat->List SV):Prop where
 h:∀i,i<256->f i=[.int .u8 (.a (Dr i))]
theorem Aix(h:KY f):Flat f 256 1 dX:=by
 refine⟨by simp[dX],λi hi=>?_⟩;have hi:i<256:=by omega
 have hl:dX.length=256:=by simp[dX]
 rw[h.h i hi,Nat.mul_one,YC (by rw[hl];exact hi)];simp[dX]
theorem Un:Afr dX:=⟨by kernel_rfl,by kernel_rfl⟩
theorem OS(hD:D=dn){e r:Int}(h1:x.den=e)(h2:y.den=r):Fin (.aJ [.int .i64 (.a (D.i x)),.int .i64 (.a (D.i y))]) (.aJ [.int .i64 (.a e),.int .i64 (.a r)]) [] []:=by
 subst hD h1 h2;exact C6 (aO.refl _)
structure ad6(s:List UInt8)(k:Option Nat)(i e:Nat)(I E:Int)(m:Nat):Prop where
 bY:At s i I m
 E:E=e
 k:k=Kc s i e
 len:s.length<=500
def ja(s:List UInt8)(kr:Nat->List SV)(k:Option Nat)(m:Nat)(vs:List (Option SV))(hp:List Hl):Prop :=
 ∃(i e:Nat) (I E:Int),vs=[some (.str s),some (.ptr 0 0),some (.int .i64 (.a E)),some (.int .i64 (.a I))]/\hp=[.row 261 (.a 256) 1 kr]/\ad6 s k i e I E m
theorem Alb(h:i<s.length)(h1:Gz s i=true):Kc s i e=Kc s (i+3) e:=by
 rw[Kc,dif_pos h,QB h1]
theorem Aig(h:i<s.length)(h1:Gz s i=false)(h2:aF s i=63):Kc s i e=Kc s (i+1) (min e i):=by
 rw[Kc,dif_pos h,QA (by simp[h1]),QB h2]
theorem Ald(h:i<s.length)(h1:Gz s i=false)(h2:aF s i≠63)(h3:Dr (aF s i).toNat=0):Kc s i e=none:=by
 rw[Kc,dif_pos h,QA (by simp[h1]),QA h2,QB h3]
theorem Aif(h:i<s.length)(h1:Gz s i=false)(h2:aF s i≠63)(h3:Dr (aF s i).toNat≠0):Kc s i e=Kc s (i+1) e:=by
 rw[Kc,dif_pos h,QA (by simp[h1]),QA h2,QA h3]
theorem Alc(h:i=s.length):Kc s i e=some e:=by
 rw[Kc,dif_neg (by omega)]
theorem Ajc(h:Gz s i=true):i+2<s.length:=(QT h).1
theorem Aie:Ap Tryz.prog gl 198 oy:=by
 obtain⟨Z,hZ⟩:∃Z,Z=kQ:=⟨_,rfl⟩;refine Bv (gh:=[(3000004,[])]) mixed (si hZ) (Ab Ai8 (Ab (Acn Al0) (Ab Aac Ae))) Tryz.func198 (by kernel_rfl) (by kernel_rfl) ?_;intro xs ls K h;unfold oy at h;obtain⟨s,rfl,rfl,hs,h⟩:=h;obtain⟨k,hk⟩:∃k,k=tz s:=⟨_,rfl⟩;obtain⟨ke,kr⟩:=k;refine⟨_,_,h ke kr hk,λD hD=>?_⟩;clear h;unfold tz at hk;cbv;refine br hD (λh=>?_) (λh=>?_)<;>cbv
 .have h2:500<s.length:=by have h:decide ((500:Int)<(s.length:Int))=true:=h;simp only[QJ]at h;omega
  rw[QB h2]at hk;simp only[Prod.mk.injEq]at hk;exact OS hD hk.1.symm hk.2.symm
 have hlen:s.length<=500:=by have h:decide ((500:Int)<(s.length:Int))=false:=h;simp only[QL]at h;omega
 rw[QA (by omega)]at hk;clear h;refine⟨s,_,rfl,rfl,λb hb=>?_⟩;have hb:b=Lib.hasPrefix s [47]:=hb;cbv;refine br hD (λh=>?_) (λh=>?_)<;>cbv
 .have h2:(!b)=true:=h
  rw[<-hb,QB h2]at hk;simp only[Prod.mk.injEq]at hk;exact OS hD hk.1.symm hk.2.symm
 have h2:(!b)=false:=h;rw[<-hb,QA (by rw[h2];simp)]at hk;clear h h2 hb;intro R hR;obtain⟨kr0,HQ⟩:∃f,KY f:=⟨λi=>[.int .u8 (.a (Dr i))],⟨λ_ _=>rfl⟩⟩;cbv;refine⟨by rw[hR];exact Un.plain,ud,by rw[hZ];exact S3,?_⟩;cbv;refine⟨⟨by subst hD;rfl⟩,by rw[hR];exact Un,kr0,by subst hD;rw[hR];exact Aix HQ,?_⟩;clear hR;obtain⟨kk,bC⟩:∃kk,kk=Kc s 0 s.length:=⟨_,rfl⟩;rw[<-bC]at hk;obtain⟨J,hJ⟩:∃J,J=ja s kr0 kk:=⟨_,rfl⟩;cbv;refine⟨[0,4,5,6],J,⟨rfl,s.length,?_⟩,?_⟩
 .rw[hJ]
  subst hD;exact⟨0,s.length,_,_,rfl,rfl,At.zero hs,rfl,bC,hlen⟩
 clear bC;intro m vs hp hj;rw[hJ]at hj;obtain⟨i,e,I,E,rfl,rfl,V⟩:=hj;cbv;refine br hD (λh=>?_) (λh=>?_)<;>cbv
 .have aC:=V.bY.lt (QT (p:=I<(s.length:Int)) h)
  clear h;refine⟨by subst hD;exact⟨by show 0<=I;have:=V.bY.I;omega,by show I<=s.length;have:=V.bY.I;omega,ZC _⟩,λt ht=>?_⟩;have sS:t=s.drop i:=by
   have h1:t=(s.drop I.toNat).take ((s.length:Int).toNat-I.toNat):=by subst hD;exact ht.h
   have h2:=V.bY.I;have h3:I.toNat=i:=by omega
   rw[h1,h3,XI (by rw[QY];omega)]
  clear ht;cbv;refine⟨t,rfl,rfl,by rw[sS,QY];omega,λv b hv hb=>?_⟩;have fX:b=Gz s i:=by rw[hb,sS,Afb]
  clear hv hb sS;cbv;refine br hD (λh=>?_) (λh=>?_)<;>cbv
  .have h2:Gz s i=true:=by rw[<-fX];exact h
   have h3:=Ajc h2;clear h;refine⟨s.length-(i+3),by have:=V.bY.m;omega,?_⟩;rw[hJ];unfold ja;subst hD;refine⟨i+3,e,_,_,rfl,rfl,⟨by omega,?_,rfl,V.bY.len⟩,V.E,by rw[V.k,Alb aC h2],hlen⟩;have:=V.bY.I;show IntKind.i64.wrap (IntKind.i64.wrap (I+2)+1)=_;rw[wrap64 (n:=I+2) (by omega) (by omega),wrap64 (by omega) (by omega)];omega
  have he:Gz s i=false:=by rw[<-fX];exact h
  clear h;refine⟨V.bY.RJ hD aC,λc hc=>?_⟩;have fR:=Afk hD V.bY.I hc;clear hc;have hle:=fR.le;cbv;refine br hD (λh=>?_) (λh=>?_)<;>cbv
  .have qE:aF s i=63:=by rw[<-fR.aF];have h:(c==63)=true:=h;simpa using h
   clear h;intro mn HC;have TJ:mn=min E I:=by subst hD;exact HC.h
   clear HC;cbv;refine⟨s.length-(i+1),by have:=V.bY.m;omega,?_⟩;rw[hJ];unfold ja;subst hD;refine⟨i+1,min e i,_,_,rfl,rfl,(V.bY.step rfl aC).2,?_,by rw[V.k,Aig aC he qE],hlen⟩;have:=V.bY.I;have:=V.E;show mn=_;rw[TJ];omega
  have qE:aF s i≠63:=by rw[<-fR.aF];have h:(c==63)=false:=h;simpa using h
  clear h;refine⟨V.bY.RJ hD aC,λd hd=>?_⟩;have yf:d=c:=by have:=Afk hD V.bY.I hd;rw[this.h,fR.h]
  subst yf;clear hd;cbv;refine⟨by subst hD;exact⟨by show 0<=d;omega,by show d<256;omega⟩,λq hq=>?_⟩;have dA:(q:Int)=d:=by subst hD;exact hq.h
  clear hq;have GN:q<256:=by omega
  have hkq:=HQ.h q GN;have kB:Dr q=Dr (aF s i).toNat:=by
   have:q=(aF s i).toNat:=by rw[<-fR.aF];omega
   rw[this]
  obtain⟨kq,TV⟩:∃kq,kq=Dr q:=⟨_,rfl⟩;rw[<-TV]at hkq kB;cbv;refine⟨⟨by subst hD;show (q:Int)<256;omega⟩,?_⟩;rw[hkq];cbv;refine br hD (λh=>?_) (λh=>?_)<;>cbv
  .have h0:kq=0:=by have h:(kq==0)=true:=h;simpa using h
   rw[V.k,Ald aC he qE (by rw[<-kB];exact h0)]at hk;simp only[Prod.mk.injEq]at hk;exact OS hD hk.1.symm hk.2.symm
  .have h0:kq≠0:=by have h:(kq==0)=false:=h;simpa using h
   refine⟨s.length-(i+1),by have:=V.bY.m;omega,?_⟩;rw[hJ];unfold ja;subst hD;exact⟨i+1,e,_,_,rfl,rfl,(V.bY.step rfl aC).2,V.E,by rw[V.k,Aif aC he qE (by rw[<-kB];exact h0)],hlen⟩
 .have hi:=V.bY.eq (QW (p:=I<(s.length:Int)) h)
  rw[V.k,Alc hi]at hk;simp only[Prod.mk.injEq]at hk;exact OS hD (by have:=V.E;rw[hk.1];exact this) hk.2.symm
theorem Abd(h:(tz s).2=0):s.length<=500:=by
 unfold tz at h
 split at h
 .cases h
 .omega
structure Bl(f:Nat->List SV)(n:Int)(t:List UInt8):Prop where
 n:n=t.length
 f:∀i,i<t.length->f i=[.int .u8 (.a ((t.getD i 0).toNat:Int))]
theorem Bl.more{m:Int}{u:List UInt8}(R:Bl f n t)(hm:m=u.length)(hg:∀i,i<u.length->g i=[.int .u8 (.a ((u.getD i 0).toNat:Int))])(h:Mn f' n' n m f g):Bl f' n' (t++u):=by
 have hn:=R.n;refine⟨by rw[h.len,hn,hm,QF];omega,λi hi=>?_⟩;rw[QF]at hi;rw[QD,YR]
 split
 .rename_i h1
  rw[h.lo i (by omega),R.f i h1,QD]
 .rename_i h1
  rw[h.hi i (i-t.length) (by omega) (by omega),hg _ (by omega),QD]
theorem Bl.str{r:List UInt8}(R:Bl f n t)(h:Kr r n f):r=t:=by
 have hn:=R.n;have hl:r.length=t.length:=by have:=h.len;omega
 refine List.ext_getElem hl λi h1 h2=>?_;have:=h.row i _ (by omega) (R.f i h2);have h5:((r.getD i 0).toNat:Int)=((t.getD i 0).toNat:Int):=this;have this:(r.getD i 0).toNat=(t.getD i 0).toNat:=by omega
 rw[QD,QC h1,QD,QC h2]at this;exact UInt8.toNat_inj.1 this
theorem Bl.byte(R:Bl f n t):Fv n f:=by
 refine⟨by rw[R.n];omega,λi hi=>⟨_,R.f i (by have:=R.n;omega),?_,?_⟩⟩
 .show (0:Int)<=((t.getD i 0).toNat:Int);omega
 .have:=(t.getD i 0).toNat_lt;show ((t.getD i 0).toNat:Int)<256;omega
open Go Go.Sx Go.RowKit
set_option maxHeartbeats 2000000
set_option maxHeartbeats 40000000
structure oH(a b:Int):Prop where
 h:a=b
set_option maxHeartbeats 2000000
structure Rq where
 id:Int
 method:List UInt8
 target:List UInt8
 host:List UInt8
 fields:List HF
 body:List UInt8
structure Pn(r:Rq)(nl:Bool)(n:Int)(f:Nat->List SV):Prop where
 BU:-9223372036854775808<=r.id
 BS:r.id<=9223372036854775807
 method:r.method.length<=9223372036854775807
 target:r.target.length<=9223372036854775807
 host:r.host.length<=9223372036854775807
 body:r.body.length<=9223372036854775807
 row:A5 f n r.fields
 nil:nl=true->r.fields=[]
def Tn:List UInt8:=[72,111,115,116]
def DI:List UInt8:=[88,45,82,101,113,117,101,115,116,45,73,100]
def MV:List UInt8:=[67,111,110,116,101,110,116,45,76,101,110,103,116,104]
def DX:List UInt8:=[80,79,83,84]
def PF:List UInt8:=[80,85,84]
def ux:List UInt8:=[80,65,84,67,72]
def iD:List UInt8:=[67,79,78,78,69,67,84]
def sId:List UInt8:=[105,100]
def Af3:List UInt8:=[109,101,116,104,111,100]
def gp:List UInt8:=[116,97,114,103,101,116]
def uy:List UInt8:=[104,111,115,116]
def gq:List UInt8:=[102,105,101,108,100,115]
def pf:List UInt8:=[98,111,100,121]
def Zc(r:Rq):Bool:=((r.body != []||r.method==DX)||r.method==PF)||r.method==ux
def Cg(r:Rq):List HF×Int :=
 if (El r.fields).2≠0 then ([],(El r.fields).2) else
 (([⟨Tn,r.host⟩,⟨DI,Lib.itoa r.id⟩]++(El r.fields).1)++(if Zc r then [⟨MV,Lib.itoa r.body.length⟩] else []),0)
theorem A5.app{m:Int}{b:List HF}(R:A5 f n a)(S:A5 g m b)(h:Mn f' n' n m f g)(hl:a.length+b.length<=9223372036854775807):A5 f' n' (a++b):=by
 have hn:=R.n;have hm:=S.n;refine⟨by rw[h.len,hn,hm,QF];omega,λi hi=>?_,by rw[QF];exact hl,λi hi=>?_⟩
 .rw[QF]at hi
  rw[QD,YR]
  split
  .rename_i h1
   rw[h.lo i (by omega),R.f i h1,QD]
  .rename_i h1
   rw[h.hi i (i-a.length) (by omega) (by omega),S.f _ (by omega),QD]
 .rw[QF]at hi
  rw[QD,YR]
  split
  .rename_i h1
   have:=R.small i h1
   rwa [QD]at this
  .rename_i h1
   have:=S.small (i-a.length) (by omega)
   rwa [QD]at this
theorem A5.one{x:HF}(h:f 0=Dw x)(hs:x.small):A5 f 1 [x]:=by
 refine⟨rfl,λi hi=>?_,by simp,λi hi=>?_⟩
 .have:i=0:=by simpa using hi
  subst this;exact h
 .have:i=0:=by simpa using hi
  subst this;exact hs
theorem A5.two{x y:HF}(h:f 0=Dw x)(h1:f 1=Dw y)(hs:x.small)(cA:y.small):A5 f 2 [x,y]:=by
 refine⟨rfl,λi hi=>?_,by simp,λi hi=>?_⟩
 .match i,hi with
  |0,_=>exact h
  |1,_=>exact h1
 .match i,hi with
  |0,_=>exact hs
  |1,_=>exact cA
theorem M6(l:List HF):(El l).2=0->(El l).1.length<=100:=by
 intro h;unfold El at h ⊢
 split
 .simp
 .rename_i h1
  rw[QA h1]at h;have h1:Bb l=0:=by simpa using h1
  have:=Dz h1
  split
  .have:=Mh (Jn l).1 l
   simp only;omega
  .simp
theorem Ur(h1:-9223372036854775808<=n)(h2:n<=9223372036854775807):(Lib.itoa n).length<=9223372036854775807:=by
 have:=Lib.itoa_length_le n h1 h2;omega
def oW:aB:=λ_ xs ls K=>∃(r:Rq) (nl:Bool) (n:Int) (f:Nat->List SV),xs=[.agg [.int .i64 (.a r.id),.str r.method,.str r.target,.str r.host,.sl (.a nl) (.a n) 2 f,.str r.body]]/\ls=[]/\Pn r nl n f/\
 ∀l e nb n' g,(l,e)=Cg r->A5 g n' l->nb=(e != 0)->K (.aJ [.sl (.a nb) (.a n') 2 g,.int .i64 (.a e)]) []
theorem rowOf(l:List HF)(h:l.length<=9223372036854775807)(hs:∀i,i<l.length->(l.getD i default).small):∃g n,A5 g n l:=⟨_,_,A5.row h hs⟩
theorem Hd{b:List HF}(h:∀i,i<a.length->(a.getD i default).small)(h2:∀i,i<b.length->(b.getD i default).small):∀i,i<(a++b).length->((a++b).getD i default).small:=by
 intro i hi;rw[QF]at hi;rw[QD,YR]
 split
 .rename_i h1
  have:=h i h1
  rwa [QD]at this
 .rename_i h1
  have:=h2 (i-a.length) (by omega)
  rwa [QD]at this
theorem N6(h:∀i,i<l.length->(l.getD i default).small):∀i,i<(El l).1.length->((El l).1.getD i default).small:=by
 unfold El
 split
 .intro i hi;simp at hi
 .split
  .exact Ls h
  .intro i hi;simp at hi
theorem U2(hD:D=dn){nb:Bool}{n2 e:Int}{g2:Nat->List SV}{x:BT}{z:ST}(h1:x.den=nb)(R:A5 g2 n2 l)(h2:y.den=n2)(h3:z.den=e)(R2:A5 g n l):
  Fin (.aJ [.sl (.a (D.b x)) (.a (D.i y)) 2 g2,.int .i64 (.a (D.i z))]) (.aJ [.sl (.a nb) (.a n) 2 g,.int .i64 (.a e)]) [] []:=by
 subst hD h1 h3;have hn:n2=n:=by rw[R.n,R2.n]
 refine C6 (aO.aJ (iM.cons (aO.sl rfl (by show y.den=n;rw[h2,hn]) λi hi=>?_) (iM.refl _)));have hi:(i:Int)<y.den:=hi;have:=R.n;rw[R.f i (by omega),R2.f i (by omega)]
theorem Adn:Ap Tryz.prog gl 256 oW:=by
 refine Bv (gh:=[]) mixed Ck (Ab Aj8 (Ab yy (Ab jr Ae))) Tryz.func256 (by kernel_rfl) (by kernel_rfl) ?_;intro xs ls K h;unfold oW at h;obtain⟨r,nl,n,f,rfl,rfl,R,h⟩:=h;obtain⟨k,hk⟩:∃k,k=Cg r:=⟨_,rfl⟩;obtain⟨kl,ke⟩:=k;have kU:∀x:HF,∀(a b:List UInt8),x=⟨a,b⟩->a.length<=100->b.length<=9223372036854775807->x.small:=λx a b e h1 h2=>by subst e;exact⟨by show a.length<=_;omega,h2⟩
 have nH:HF.small ⟨Tn,r.host⟩:=kU _ _ _ rfl (by decide) R.host;have wa:HF.small ⟨DI,Lib.itoa r.id⟩:=kU _ _ _ rfl (by decide) (Ur R.BU R.BS);have sQ:HF.small ⟨MV,Lib.itoa r.body.length⟩:=kU _ _ _ rfl (by decide) (Ur (by omega) (by have:=R.body;omega));have hg:∃g n',A5 g n' kl:=by
  unfold Cg at hk
  split at hk
  .simp only[Prod.mk.injEq]at hk
   rw[hk.1];exact rowOf [] (by simp) (λi hi=>absurd hi (by simp))
  .rename_i h1
   have h1:(El r.fields).2=0:=by simpa using h1
   have h2:=M6 _ h1;simp only[Prod.mk.injEq]at hk;rw[hk.1];refine rowOf _ ?_ (Hd (Hd (λi hi=>?_) (N6 R.row.small)) ?_)
   .simp only[QF]
    split<;>simp<;>omega
   .match i,hi with
    |0,_=>exact nH
    |1,_=>exact wa
   .split
    .intro i hi
     have:i=0:=by simpa using hi
     subst this;exact sQ
    .intro i hi;simp at hi
 obtain⟨g,n2,R2⟩:=hg;obtain⟨nb,iB⟩:∃nb,nb=(ke != 0):=⟨_,rfl⟩;refine⟨_,_,h kl ke nb n2 g hk R2 iB,λD hD=>?_⟩;clear h;obtain⟨id,me,ta,ho,fs,bo⟩:=r;simp only at R nH wa sQ;unfold Cg at hk;simp only at hk;cbv;refine⟨fs,_,_,f,rfl,rfl,by subst hD;exact R.row,by subst hD;exact R.nil,λl e PX n3 g3 hl RR uA=>?_⟩;have iJ:=M6 fs;rw[<-hl]at iJ hk;simp only at iJ hk;have R3:=RR.row;clear RR hl;cbv;refine br hD (λh=>?_) (λh=>?_)<;>cbv
 .have h1:e≠0:=by simpa using h
  rw[QB h1]at hk;simp only[Prod.mk.injEq]at hk;obtain⟨rfl,rfl⟩:=hk;exact U2 hD (by rw[iB];simp[h1]) (l:=[]) ⟨rfl,λi hi=>absurd hi (by simp),by simp,λi hi=>absurd hi (by simp)⟩ rfl rfl R2
 have h1:e=0:=by simpa using h
 rw[QA (by simp[h1])]at hk;have hl3:=iJ h1;clear h iJ;refine⟨_,_,rfl,rfl,by subst hD;exact R.BU,by subst hD;exact R.BS,by subst hD;rfl,λids ld=>?_⟩;cbv;have ld:ids=Lib.itoa id:=by subst hD;exact ld
 rw[<-ld]at hk wa;clear ld;intro f2 eS;cbv;have hR2:A5 f2 2 [⟨Tn,ho⟩,⟨DI,ids⟩]:=A5.two (eS.h 0 _ rfl) (eS.h 1 _ rfl) nH wa;clear eS;have HA:=R3.n;refine⟨?_,λf4 n4 hm=>?_⟩
 .subst hD
  refine⟨rfl,?_,?_⟩
  .show ((2:Int)+n3) * 32<=140737488355328
   omega
  .show (2:Int)+n3<=9223372036854775807
   omega
 cbv;have R4:A5 f4 n4 ([⟨Tn,ho⟩,⟨DI,ids⟩]++l):=hR2.app R3 (by subst hD;exact hm) (by simp only[QG,QU];omega);clear hm hR2 HA;have NF:(([⟨Tn,ho⟩,⟨DI,ids⟩]:List HF)++l).length<=102:=by simp;omega
 obtain⟨l4,HM⟩:∃l4,l4=([⟨Tn,ho⟩,⟨DI,ids⟩]:List HF)++l:=⟨_,rfl⟩;rw[<-HM]at hk R4 NF;clear HM;refine br hD (λh=>?_) (λh=>?_)<;>cbv
 .have hb:Zc ⟨id,me,ta,ho,fs,bo⟩=true:=h
  rw[QB hb]at hk;clear h hb;refine⟨_,rfl,rfl,by subst hD;show -9223372036854775808<=(bo.length:Int);omega,by subst hD;show (bo.length:Int)<=_;have:=R.body;simp only at this;omega,λbs xZ=>?_⟩;cbv;have xZ:bs=Lib.itoa (bo.length:Int):=by subst hD;exact xZ
  rw[<-xZ]at hk sQ;clear xZ;intro f5 hf5;cbv;have hR5:A5 f5 1 [⟨MV,bs⟩]:=A5.one (hf5.h 0 _ rfl) sQ;clear hf5;refine⟨by subst hD;exact⟨rfl,by have:=R4.n;show (n4+1) * 32<=_;omega,by have:=R4.n;show n4+1<=_;omega⟩,λf6 n6 hm=>?_⟩;cbv;have R6:A5 f6 n6 (l4++[⟨MV,bs⟩]):=R4.app hR5 (by subst hD;exact hm) (by simp only[QG,QU];omega);clear hm;simp only[Prod.mk.injEq]at hk;obtain⟨eQ,dA⟩:=hk;subst eQ dA;exact U2 hD (by rw[iB];rfl) R6 rfl rfl R2
 .have hb:Zc ⟨id,me,ta,ho,fs,bo⟩=false:=h
  rw[QA (by rw[hb];simp),YT]at hk;simp only[Prod.mk.injEq]at hk;obtain⟨eQ,dA⟩:=hk;subst eQ dA;exact U2 hD (by rw[iB];rfl) R4 rfl rfl R2
structure bN where
 m:List UInt8
 ph:Int
 inf:Int
 ln:List UInt8
 mi:Int
 st:Int
 re:List UInt8
 fb:Bool
 fl:Int
 ff:Nat->List SV
 fr:Int
 bo:List UInt8
 lf:Int
 cp:Int
 cl:List UInt8
 cd:List UInt8
 cf:Int
 cb:Bool
 ct:Int
 ctf:Nat->List SV
def nZ(x:bN):SV:=.agg [.str x.m,.int .i64 (.a x.ph),.int .i64 (.a x.inf),.str x.ln,.int .i64 (.a x.mi),.int .i64 (.a x.st),.str x.re,.sl (.a x.fb) (.a x.fl) 2 x.ff,.int .i64 (.a x.fr),.str x.bo,.int .i64 (.a x.lf),
  .int .i64 (.a x.cp),.str x.cl,.str x.cd,.int .i64 (.a x.cf),.sl (.a x.cb) (.a x.ct) 2 x.ctf]
def Oc(m:List UInt8):bN:=⟨m,0,0,[],0,0,[],true,0,λ_=>[],0,[],0,0,[],[],0,true,0,λ_=>[]⟩
end Go.Proofs.YtdoogdbjiijifaaGreatDoor
