/- Lemmas of the proof; no conditions. -/
import Derived.Test.YtdoogdbjiijifaaGreatDoorE9Pba
namespace Go.Proofs.YtdoogdbjiijifaaGreatDoor
open Go Go.Sx
set_option maxRecDepth 100000
set_option maxHeartbeats 8000000
structure NG(k:Bool)(c:fG):Prop where
 h:k=Bp c
def sJ:aB:=λ_ xs ls K=>∃c:fG,xs=[.ptr 0 0]/\ls=[.aF 144 (bT c)]/\∀r,NG r c->K (.bool (.a r)) [.aF 144 (bT c)]
theorem Hf{b k:Bool}{c:fG}(h:b=k):Sx.Fin (.bool (.a b)) (.bool (.a k)) [.aF 144 (bT c)] [.aF 144 (bT c)]:=By (by rw[h]) rfl
theorem Ak2:Ap Tryz.prog gl 99 sJ:=by
 refine Bu (gh:=[(8000151,[]),(8000098,[])]) mixed D0 (Al Xk (Al Qx Ae)) Tryz.func99 (by kernel_rfl) (by kernel_rfl) ?_;intro xs ls K h;unfold sJ at h;obtain⟨c,rfl,rfl,h⟩:=h;obtain⟨k,hk⟩:∃k,NG k c:=⟨_,⟨rfl⟩⟩;refine⟨_,_,h k hk,λD hD=>?_⟩;clear h;unfold bT;cbv;refine br hD (λh0=>?_) (λh0=>?_)<;>cbv
 .have h0:(c.ph==0)=true:=by subst hD;exact h0
  refine br hD (λg=>?_) (λg=>?_)<;>cbv
  .refine⟨c,by subst hD;rfl,by subst hD;rfl,λr hr=>?_⟩
   cbv;subst hD;refine Hf ?_;show (((c.why==0)&&!c.en)&&!r)=k;rw[hk.h,Bp,QC h0];rw[hr]
  .have g:((c.why==0)&&!c.en)=false:=by subst hD;exact g
   subst hD;refine Hf ?_;show (((c.why==0)&&!c.en)&&false)=k;rw[hk.h,Bp,QC h0,g];rfl
 have h0:(c.ph==0)=false:=by subst hD;exact h0
 refine br hD (λh1=>?_) (λh1=>?_)<;>cbv
 .have h1:(c.ph==1)=true:=by subst hD;exact h1
  refine br hD (λg=>?_) (λg=>?_)<;>cbv
  .refine⟨c,by subst hD;rfl,by subst hD;rfl,λr hr=>?_⟩
   cbv;subst hD;refine Hf ?_;show ((c.why==0)&&r)=k;rw[hk.h,Bp,QA (by rw[h0];simp),QC h1];rw[hr]
  .have g:(c.why==0)=false:=by subst hD;exact g
   subst hD;refine Hf ?_;show ((c.why==0)&&true)=k;rw[hk.h,Bp,QA (by rw[h0];simp),QC h1,g];rfl
 have h1:(c.ph==1)=false:=by subst hD;exact h1
 refine br hD (λh2=>?_) (λh2=>?_)<;>cbv
 rotate_left
 .have h2:(c.ph==2)=false:=by subst hD;exact h2
  subst hD;refine Hf ?_;show false=k;rw[hk.h,Bp,QA (by rw[h0];simp),QA (by rw[h1];simp),QA (by rw[h2];simp)]
 have h2:(c.ph==2)=true:=by subst hD;exact h2
 refine br hD (λmI=>?_) (λmI=>?_)<;>cbv
 .have mI:(c.why==10)=true:=by subst hD;exact mI
  refine br hD (λg=>?_) (λg=>?_)<;>cbv
  .refine⟨c,by subst hD;rfl,by subst hD;rfl,λr hr=>?_⟩
   cbv;subst hD;refine Hf ?_;show (!c.en&&!r)=k;rw[hk.h,Bp,QA (by rw[h0];simp),QA (by rw[h1];simp),QC h2,Ij,QC mI,M0];rw[hr]
  .have g:(!c.en)=false:=by subst hD;exact g
   subst hD;refine Hf ?_;show (!c.en&&false)=k;rw[hk.h,Bp,QA (by rw[h0];simp),QA (by rw[h1];simp),QC h2,Ij,QC mI,M0,g];rfl
 have mI:(c.why==10)=false:=by subst hD;exact mI
 refine br hD (λnJ=>?_) (λnJ=>?_)<;>cbv
 .have nJ:(c.why==11)=true:=by subst hD;exact nJ
  refine br hD (λg=>?_) (λg=>?_)<;>cbv
  .refine⟨c,by subst hD;rfl,by subst hD;rfl,λr hr=>?_⟩
   cbv;subst hD;refine Hf ?_;show (!c.en&&!r)=k;rw[hk.h,Bp,QA (by rw[h0];simp),QA (by rw[h1];simp),QC h2,Ij,QA (by rw[mI];simp),QC nJ,M0];rw[hr]
  .have g:(!c.en)=false:=by subst hD;exact g
   subst hD;refine Hf ?_;show (!c.en&&false)=k;rw[hk.h,Bp,QA (by rw[h0];simp),QA (by rw[h1];simp),QC h2,Ij,QA (by rw[mI];simp),QC nJ,M0,g];rfl
 have nJ:(c.why==11)=false:=by subst hD;exact nJ
 refine br hD (λw4=>?_) (λw4=>?_)<;>cbv
 .have w4:(c.why==4)=true:=by subst hD;exact w4
  refine br hD (λg=>?_) (λg=>?_)<;>cbv
  .refine⟨c,by subst hD;rfl,by subst hD;rfl,λr hr=>?_⟩
   cbv;subst hD;refine Hf ?_;show (!c.en&&!r)=k;rw[hk.h,Bp,QA (by rw[h0];simp),QA (by rw[h1];simp),QC h2,Ij,QA (by rw[mI];simp),QA (by rw[nJ];simp),QC w4,M0];rw[hr]
  .have g:(!c.en)=false:=by subst hD;exact g
   subst hD;refine Hf ?_;show (!c.en&&false)=k;rw[hk.h,Bp,QA (by rw[h0];simp),QA (by rw[h1];simp),QC h2,Ij,QA (by rw[mI];simp),QA (by rw[nJ];simp),QC w4,M0,g];rfl
 have w4:(c.why==4)=false:=by subst hD;exact w4
 refine br hD (λw5=>?_) (λw5=>?_)<;>cbv
 .have w5:(c.why==5)=true:=by subst hD;exact w5
  refine br hD (λg=>?_) (λg=>?_)<;>cbv
  .refine⟨c,by subst hD;rfl,by subst hD;rfl,λr hr=>?_⟩
   cbv;subst hD;refine Hf ?_;show (!c.en&&!r)=k;rw[hk.h,Bp,QA (by rw[h0];simp),QA (by rw[h1];simp),QC h2,Ij,QA (by rw[mI];simp),QA (by rw[nJ];simp),QA (by rw[w4];simp),QC w5,M0];rw[hr]
  .have g:(!c.en)=false:=by subst hD;exact g
   subst hD;refine Hf ?_;show (!c.en&&false)=k;rw[hk.h,Bp,QA (by rw[h0];simp),QA (by rw[h1];simp),QC h2,Ij,QA (by rw[mI];simp),QA (by rw[nJ];simp),QA (by rw[w4];simp),QC w5,M0,g];rfl
 have w5:(c.why==5)=false:=by subst hD;exact w5
 refine br hD (λw1=>?_) (λw1=>?_)<;>cbv
 .have w1:(c.why==1)=true:=by subst hD;exact w1
  refine br hD (λg=>?_) (λg=>?_)<;>cbv
  .refine⟨c,by subst hD;rfl,by subst hD;rfl,λr hr=>?_⟩
   cbv;subst hD;refine Hf ?_;show (!c.en&&!r)=k;rw[hk.h,Bp,QA (by rw[h0];simp),QA (by rw[h1];simp),QC h2,Ij,QA (by rw[mI];simp),QA (by rw[nJ];simp),QA (by rw[w4];simp),QA (by rw[w5];simp),QC w1,M0];rw[hr]
  .have g:(!c.en)=false:=by subst hD;exact g
   subst hD;refine Hf ?_;show (!c.en&&false)=k;rw[hk.h,Bp,QA (by rw[h0];simp),QA (by rw[h1];simp),QC h2,Ij,QA (by rw[mI];simp),QA (by rw[nJ];simp),QA (by rw[w4];simp),QA (by rw[w5];simp),QC w1,M0,g];rfl
 have w1:(c.why==1)=false:=by subst hD;exact w1
 refine br hD (λtU=>?_) (λtU=>?_)<;>cbv
 .have tU:(c.why==12)=true:=by subst hD;exact tU
  refine br hD (λg=>?_) (λg=>?_)<;>cbv
  .refine⟨c,by subst hD;rfl,by subst hD;rfl,λr hr=>?_⟩
   cbv;subst hD;refine Hf ?_;show (!c.en&&(r||(c.aN==0)))=k;rw[hk.h,Bp,QA (by rw[h0];simp),QA (by rw[h1];simp),QC h2,Ij,QA (by rw[mI];simp),QA (by rw[nJ];simp),QA (by rw[w4];simp),QA (by rw[w5];simp),QA (by rw[w1];simp),QC tU];rw[hr]
  .have g:(!c.en)=false:=by subst hD;exact g
   subst hD;refine Hf ?_;rw[hk.h,Bp,QA (by rw[h0];simp),QA (by rw[h1];simp),QC h2,Ij,QA (by rw[mI];simp),QA (by rw[nJ];simp),QA (by rw[w4];simp),QA (by rw[w5];simp),QA (by rw[w1];simp),QC tU,g];show (!c.en&&_)=_;rw[g];rfl
 have tU:(c.why==12)=false:=by subst hD;exact tU
 refine br hD (λxO=>?_) (λxO=>?_)<;>cbv
 .have xO:(c.why==15)=true:=by subst hD;exact xO
  refine br hD (λg=>?_) (λg=>?_)<;>cbv
  .refine⟨c,by subst hD;rfl,by subst hD;rfl,λr hr=>?_⟩
   cbv;subst hD;refine Hf ?_;show (c.en&&r)=k;rw[hk.h,Bp,QA (by rw[h0];simp),QA (by rw[h1];simp),QC h2,Ij,QA (by rw[mI];simp),QA (by rw[nJ];simp),QA (by rw[w4];simp),QA (by rw[w5];simp),QA (by rw[w1];simp),QA (by rw[tU];simp),QC xO];rw[hr]
  .have g:(c.en)=false:=by subst hD;exact g
   subst hD;refine Hf ?_;show (c.en&&true)=k;rw[hk.h,Bp,QA (by rw[h0];simp),QA (by rw[h1];simp),QC h2,Ij,QA (by rw[mI];simp),QA (by rw[nJ];simp),QA (by rw[w4];simp),QA (by rw[w5];simp),QA (by rw[w1];simp),QA (by rw[tU];simp),QC xO,g];rfl
 have xO:(c.why==15)=false:=by subst hD;exact xO
 refine br hD (λw9=>?_) (λw9=>?_)<;>cbv
 .have w9:(c.why==9)=true:=by subst hD;exact w9
  refine br hD (λg=>?_) (λg=>?_)<;>cbv
  .refine⟨c,by subst hD;rfl,by subst hD;rfl,λr hr=>?_⟩
   cbv;refine br hD (λg2=>?_) (λg2=>?_)<;>cbv
   .refine⟨c,by subst hD;rfl,by subst hD;rfl,λq hq=>?_⟩
    cbv;subst hD;refine Hf ?_;show ((c.en&&!r)&&!q)=k;rw[hk.h,Bp,QA (by rw[h0];simp),QA (by rw[h1];simp),QC h2,Ij,QA (by rw[mI];simp),QA (by rw[nJ];simp),QA (by rw[w4];simp),QA (by rw[w5];simp),QA (by rw[w1];simp),QA (by rw[tU];simp),QA (by rw[xO];simp),QC w9];rw[hr,hq]
   .have g2:(c.en&&!r)=false:=by subst hD;exact g2
    subst hD;refine Hf ?_;rw[hk.h,Bp,QA (by rw[h0];simp),QA (by rw[h1];simp),QC h2,Ij,QA (by rw[mI];simp),QA (by rw[nJ];simp),QA (by rw[w4];simp),QA (by rw[w5];simp),QA (by rw[w1];simp),QA (by rw[tU];simp),QA (by rw[xO];simp),QC w9];rw[<-hr,g2];show ((c.en&&!r)&&_)=_;rw[g2];rfl
  .have g:c.en=false:=by subst hD;exact g
   refine br hD (λg2=>?_) (λg2=>?_)<;>cbv
   .have g2:(c.en&&false)=true:=by subst hD;exact g2
    rw[g]at g2;cases g2
   .clear g2
    subst hD;refine Hf ?_;rw[hk.h,Bp,QA (by rw[h0];simp),QA (by rw[h1];simp),QC h2,Ij,QA (by rw[mI];simp),QA (by rw[nJ];simp),QA (by rw[w4];simp),QA (by rw[w5];simp),QA (by rw[w1];simp),QA (by rw[tU];simp),QA (by rw[xO];simp),QC w9,g];show ((c.en&&_)&&_)=_;rw[g];rfl
 have w9:(c.why==9)=false:=by subst hD;exact w9
 refine br hD (λw8=>?_) (λw8=>?_)<;>cbv
 .have w8:(c.why==8)=true:=by subst hD;exact w8
  refine br hD (λg=>?_) (λg=>?_)<;>cbv
  .refine⟨c,by subst hD;rfl,by subst hD;rfl,λr hr=>?_⟩
   cbv;subst hD;refine Hf ?_;show (c.en&&!r)=k;rw[hk.h,Bp,QA (by rw[h0];simp),QA (by rw[h1];simp),QC h2,Ij,QA (by rw[mI];simp),QA (by rw[nJ];simp),QA (by rw[w4];simp),QA (by rw[w5];simp),QA (by rw[w1];simp),QA (by rw[tU];simp),QA (by rw[xO];simp),QA (by rw[w9];simp),QC w8];rw[hr]
  .have g:(c.en)=false:=by subst hD;exact g
   subst hD;refine Hf ?_;show (c.en&&false)=k;rw[hk.h,Bp,QA (by rw[h0];simp),QA (by rw[h1];simp),QC h2,Ij,QA (by rw[mI];simp),QA (by rw[nJ];simp),QA (by rw[w4];simp),QA (by rw[w5];simp),QA (by rw[w1];simp),QA (by rw[tU];simp),QA (by rw[xO];simp),QA (by rw[w9];simp),QC w8,g];rfl
 have w8:(c.why==8)=false:=by subst hD;exact w8
 subst hD;refine Hf ?_;show false=k;rw[hk.h,Bp,QA (by rw[h0];simp),QA (by rw[h1];simp),QC h2,Ij,QA (by rw[mI];simp),QA (by rw[nJ];simp),QA (by rw[w4];simp),QA (by rw[w5];simp),QA (by rw[w1];simp),QA (by rw[tU];simp),QA (by rw[xO];simp),QA (by rw[w9];simp),QA (by rw[w8];simp)]
structure fO where
 kind:Int
 n:Int
 bytes:List UInt8
 why:Int
def kY(x:fO):SV:=.agg [.int .i64 (.a x.kind),.int .i64 (.a x.n),.str x.bytes,.int .i64 (.a x.why)]
structure LV(a b:Int):Prop where
 lo:-9223372036854775808<=a+b
 hi:a+b<=9223372036854775807
def zP:aB:=λ_ xs ls K=>∃(c:fG) (x:fO),xs=[.ptr 0 0,kY x]/\ls=[.aF 144 (bT c)]/\LV c.aN x.n/\∀c':fG,c'={ c with aN:=c.aN+x.n }->K (.aI []) [.aF 144 (bT c')]
theorem jj:Ap Tryz.prog gl 214 zP:=by
 refine Bu (gh:=[]) mixed D0 Ae Tryz.func214 (by kernel_rfl) (by kernel_rfl) ?_;intro xs ls K h;unfold zP at h;obtain⟨c,x,rfl,rfl,V,h⟩:=h;have h:=h _ rfl;refine⟨_,_,h,λD hD=>?_⟩;clear h;unfold bT kY;cbv;have e:IntKind.i64.wrap (c.aN+x.n)=c.aN+x.n:=by have:=V.lo;have:=V.hi;exact wrap64 (by omega) (by omega)
 subst hD;refine By rfl ?_;show [Hl.aF 144 (bT { c with aN:=IntKind.i64.wrap (c.aN+x.n) })]=_;rw[e];rfl
def Ud(c:fG):fG:=if c.ph==0 then { c with en:=true,ph:=2,why:=8 } else { c with en:=true }
structure jJ(c d:fG):Prop where
 h:c=d
def wF:aB:=λ_ xs ls K=>∃(c:fG) (x:fO),xs=[.ptr 0 0,kY x]/\ls=[.aF 144 (bT c)]/\∀c':fG,jJ c' (Ud c)->K (.aI []) [.aF 144 (bT c')]
theorem Al3:Ap Tryz.prog gl 217 wF:=by
 refine Bu (gh:=[]) mixed D0 (Al Ph Ae) Tryz.func217 (by kernel_rfl) (by kernel_rfl) ?_;intro xs ls K h;unfold wF at h;obtain⟨c,x,rfl,rfl,h⟩:=h;obtain⟨d,hd⟩:∃d,jJ d (Ud c):=⟨_,⟨rfl⟩⟩;refine⟨_,_,h d hd,λD hD=>?_⟩;clear h;unfold bT kY;cbv;refine br hD (λhb=>?_) (λhb=>?_)<;>cbv
 .refine⟨{ c with en:=true },8,by subst hD;rfl,by subst hD;rfl,?_⟩
  cbv;have hb:(c.ph==0)=true:=by subst hD;exact hb
  subst hD;refine By rfl ?_;rw[hd.h,Ud,QC hb];rfl
 .have hb:(c.ph==0)=false:=by subst hD;exact hb
  subst hD;refine By rfl ?_;rw[hd.h,Ud,QA (by rw[hb];simp)];rfl
def wU:aB:=λ_ xs ls K=>∃(c:fG) (x:fO),xs=[.ptr 0 0,kY x]/\ls=[.aF 144 (bT c)]/\∀c':fG,jJ c' { c with ph:=2,why:=x.why }->K (.aI []) [.aF 144 (bT c')]
theorem Aon:Ap Tryz.prog gl 218 wU:=by
 refine Bu (gh:=[]) mixed D0 (Al Ph Ae) Tryz.func218 (by kernel_rfl) (by kernel_rfl) ?_;intro xs ls K h;unfold wU at h;obtain⟨c,x,rfl,rfl,h⟩:=h;obtain⟨d,hd⟩:∃d,jJ d { c with ph:=2,why:=x.why }:=⟨_,⟨rfl⟩⟩;refine⟨_,_,h d hd,λD hD=>?_⟩;clear h;unfold bT kY;cbv;refine⟨c,x.why,by subst hD;rfl,by subst hD;rfl,?_⟩;cbv;subst hD;refine By rfl ?_;rw[hd.h];rfl
structure Ha(g:Nat->List SV)(n:Int)(l:List HF):Prop where
 g:g=M7 l
 n:n=l.length
theorem Ha.row{g f:Nat->List SV}{n m:Int}{l:List HF}(C:Ha g n l)(R:A0 f m l):A0 g n l:=by rw[C.g,C.n];exact A0.row R.len R.small
variable {g qf:Nat->List SV}{s r t:Rs}{c:UInt8}{m ql:Int}{l u:List UInt8}{x y z:bB}{qb:Bool}
theorem Ha.eq{g':Nat->List SV}{n n':Int}{l:List HF}(C:Ha g n l)(C':Ha g' n' l):g=g'/\n=n':=⟨C.g.trans C'.g.symm,C.n.trans C'.n.symm⟩
def sA:aB:=λ_ xs ls K=>∃(l:List HF) (nl:Bool) (n:Int) (f:Nat->List SV),xs=[.sl (.a nl) (.a n) 2 f]/\ls=[]/\A0 f n l/\l.length<=100000/\(nl=true->l=[])/\
 ∀g n',Ha g n' l->K (.sl (.a nl) (.a n') 2 g) []
theorem Akk:Ap Tryz.prog gl 82 sA:=by
 refine Bq (gh:=[]) mixed Ck Ae Tryz.func82 (by kernel_rfl) (by kernel_rfl) ?_;intro xs ls K h;unfold sA at h;obtain⟨l,nl,n,f,rfl,rfl,R,hl,hn,h⟩:=h;obtain⟨g,hg⟩:∃g,g=M7 l:=⟨_,rfl⟩;obtain⟨n0,oR⟩:∃n0:Int,n0=l.length:=⟨_,rfl⟩;have C0:Ha g n0 l:=⟨hg,oR⟩;have R0:A0 g n0 l:=C0.row R;have h:=h g n0 C0;clear C0;clear oR hg;refine⟨_,_,h,λD hD=>?_⟩;clear h;cbv;refine br hD (λh=>?_) (λh=>?_)<;>cbv
 .have h2:nl=true:=h
  have h3:=hn h2;subst h2 h3;subst hD;have oR:n0=0:=R0.n;subst oR;exact Cm (.sl rfl rfl λi hi=>absurd hi (by show ¬((i:Int)<0);omega))
 .have h2:nl=false:=h
  subst h2;intro f0 h0;clear h0;cbv;refine⟨?_,λf1 n1 hm=>?_⟩
  .subst hD;exact⟨rfl,by have:=R.n;show ((0:Int)+n) * 32<=_;omega,by have:=R.n;show (0:Int)+n<=_;omega⟩
  cbv;have e1:n1=n0:=by subst hD;have:=R.n;have:=R0.n;have h5:n1=0+n:=hm.len;omega
  have e2:∀i,i<l.length->f1 i=g i:=by
   intro i hi;rw[hm.hi i i (by subst hD;show (i:Int)=0+i;omega) (by subst hD;have:=R.n;show (i:Int)<n;omega),R.f i hi,R0.f i hi]
  clear hm;subst hD;exact Cm (.sl rfl e1 λi hi=>e2 i (by have:=R0.n;have hi:(i:Int)<n1:=hi;omega))
def SY(c:fG)(g1:Nat->List SV)(n1:Int)(g2:Nat->List SV)(n2:Int)(g3:Nat->List SV)(n3:Int):fG:={ c with qf:=g1,ql:=n1,x:={ c.x with ff:=g2,fl:=n2,ctf:=g3,ct:=n3 } }
structure MD(c:fG)(lq lf lt:List HF):Prop where
 q:A0 c.qf c.ql lq
 f:A0 c.x.ff c.x.fl lf
 t:A0 c.x.ctf c.x.ct lt
 ql:lq.length<=100000
 fl:lf.length<=100000
 tl:lt.length<=100000
 qn:c.qb=true->lq=[]
 fn:c.x.fb=true->lf=[]
 tn:c.x.cb=true->lt=[]
def zR:aB:=λ_ xs ls K=>∃(c:fG) (lq lf lt:List HF),xs=[.agg (bT c)]/\ls=[]/\MD c lq lf lt/\
 ∀g1 n1 g2 n2 g3 n3,Ha g1 n1 lq->Ha g2 n2 lf->Ha g3 n3 lt->K (.ptr 0 0) [.aF 144 (bT (SY c g1 n1 g2 n2 g3 n3))]
theorem Ahc:Ap Tryz.prog gl 105 zR:=by
 refine Bu (gh:=[]) mixed D0 (Aa Akk Ae) Tryz.func105 (by kernel_rfl) (by kernel_rfl) ?_;intro xs ls K h;unfold zR at h;obtain⟨c,lq,lf,lt,rfl,rfl,V,h⟩:=h;obtain⟨g1,n1,C1⟩:∃g n,Ha g n lq:=⟨_,_,⟨rfl,rfl⟩⟩;obtain⟨g2,n2,C2⟩:∃g n,Ha g n lf:=⟨_,_,⟨rfl,rfl⟩⟩;obtain⟨g3,n3,C3⟩:∃g n,Ha g n lt:=⟨_,_,⟨rfl,rfl⟩⟩;have h:=h g1 n1 g2 n2 g3 n3 C1 C2 C3;refine⟨_,_,h,λD hD=>?_⟩;clear h;unfold bT;cbv;refine⟨lq,_,_,_,rfl,rfl,by subst hD;exact V.q,V.ql,by subst hD;exact V.qn,λa1 m1 A1=>?_⟩;cbv;obtain⟨rfl,rfl⟩:=A1.eq C1;refine⟨lf,_,_,_,rfl,rfl,by subst hD;exact V.f,V.fl,by subst hD;exact V.fn,λa2 m2 A2=>?_⟩;cbv;obtain⟨rfl,rfl⟩:=A2.eq C2;refine⟨lt,_,_,_,rfl,rfl,by subst hD;exact V.t,V.tl,by subst hD;exact V.tn,λa3 m3 A3=>?_⟩;cbv;obtain⟨rfl,rfl⟩:=A3.eq C3;subst hD;exact By rfl rfl
def Gc(c:fG)(y:bB):fG:=if y.ph==2 then { c with x:=y,ph:=1 } else { c with x:=y }
def vQ:aB:=λ_ xs ls K=>∃(c:fG) (y:bB),xs=[.ptr 0 0,kL y]/\ls=[.aF 144 (bT c)]/\∀c':fG,jJ c' (Gc c y)->K (.aI []) [.aF 144 (bT c')]
theorem Aa7:Ap Tryz.prog gl 296 vQ:=by
 refine Bu (gh:=[]) mixed D0 (Al Xk Ae) Tryz.func296 (by kernel_rfl) (by kernel_rfl) ?_;intro xs ls K h;unfold vQ at h;obtain⟨c,y,rfl,rfl,h⟩:=h;obtain⟨d,hd⟩:∃d,jJ d (Gc c y):=⟨_,⟨rfl⟩⟩;refine⟨_,_,h d hd,λD hD=>?_⟩;clear h;unfold bT kL;cbv;refine⟨{ c with x:=y },by subst hD;rfl,by subst hD;rfl,λr hr=>?_⟩;cbv;refine br hD (λhb=>?_) (λhb=>?_)<;>cbv
 .have hb:(y.ph==2)=true:=by rw[<-hr];subst hD;exact hb
  subst hD;refine By rfl ?_;rw[hd.h,Gc,QC hb];rfl
 .have hb:(y.ph==2)=false:=by rw[<-hr];subst hD;exact hb
  subst hD;refine By rfl ?_;rw[hd.h,Gc,QA (by rw[hb];simp)];rfl
def uj(i:Nat):List SV:=[.int .i64 (.a ((i:Int)+1)),.fn (214+i)]
def rX:aB:=λ_ xs ls K=>xs=[]/\ls=[]/\K (.sl (.a false) (.a 5) 2 uj) []
theorem Akd:Ap Tryz.prog gl 154 rX:=by
 refine Bu (gh:=[]) mixed D0 Ae Tryz.func154 (by kernel_rfl) (by kernel_rfl) ?_;intro xs ls K h;unfold rX at h;obtain⟨rfl,rfl,h⟩:=h;refine⟨_,_,h,λD hD=>?_⟩;clear h;cbv;intro g hg;cbv;subst hD;refine Cm (aM.sl rfl rfl λi hi=>?_);have hi:(i:Int)<5:=hi;have e:i=0\/i=1\/i=2\/i=3\/i=4:=by omega
 rcases e with rfl|rfl|rfl|rfl|rfl<;>exact hg.h _ _ rfl
set_option maxHeartbeats 400000
def Bw(s:Ms)(r:Rs):Ms:={ s with inn:=r,phase:=if r.phase=2 then 1 else s.phase }
def Fh(s:Ms)(c:UInt8):Ms :=
 if s.inn.phase=0/\s.aS<=(s.inn.line.length:Int) then broken s 11 else
 if (Ah s.inn [c]).2.2=6 then broken s 10 else
 if (Ah s.inn [c]).2.2≠0\/¬Cl (Ah s.inn [c]).1 s.cM then broken s 11 else Bw s (Ah s.inn [c]).1
def B4(s:Ms):List UInt8->Ms
 | []=>s
 |c :: b=>if s.phase≠0 then s else B4 (Fh s c) b
theorem FG(h:s.phase≠2):(Ah s [c]).2.2=(aZ s c).2/\((aZ s c).2=0->(Ah s [c]).1=(aZ s c).1):=by
 unfold Ah;rw[QA h]
 by_cases g:(aZ s c).2=0
 .rw[QA (by simpa using g)]
  exact⟨by simp[Ah,g],λ_=>rfl⟩
 .rw[QC g]
  exact⟨rfl,λe=>absurd e g⟩
theorem Amw{s:Ms}(h:s.inn.phase≠2)(hl:(s.inn.line.length:Int)<=s.aS):A6 s [c]=Fh s c:=by
 obtain⟨q1,q2⟩:=FG (c:=c) h;rw[Dy,QA h];unfold Fh
 by_cases g:s.inn.phase=0/\(s.inn.line.length:Int)=s.aS
 .rw[QC g,QC ⟨g.1,by omega⟩]
 rw[QA g,QA (c:=s.inn.phase=0/\s.aS<=_) (λe=>g ⟨e.1,by omega⟩),q1]
 by_cases g2:(aZ s.inn c).2=6
 .rw[QC g2,QC g2]
 rw[QA g2,QA g2]
 by_cases g3:(aZ s.inn c).2=0
 .rw[q2 g3];rfl
 .rw[QC (.inl g3),QC (.inl g3)]
theorem Aoc(s:Ch)(c:UInt8):s.data.length<=(cF s c).1.data.length:=by
 unfold cF
 split
 .split
  .split
   .exact QK _
   .split<;>exact QK _
  .split<;>exact QK _
 split
 .show _<=(s.data++[c]).length;simp
 split
 .split
  .exact QK _
  .split<;>exact QK _
 .split
  .exact QK _
  split
  .exact QK _
  split
  .exact QK _
  split
  .exact QK _
  .exact QK _
theorem jr(h:Ce s)(hf:Cl (aZ s c).1 m):Cl s m:=by
 by_cases h0:s.phase=0
 .obtain⟨_,_,_,p4,p5,p6⟩:=h.p0 h0
  have:0<=m:=by unfold Cl at hf;have:=hf.1;omega
  unfold Cl;rw[p4,p5,p6];simp[qZ];omega
 obtain⟨_,_,_,_,_,_,_,p8⟩:=h.p1 h0;unfold aZ at hf;rw[QA h0]at hf
 split at hf
 .rename_i f2
  split at hf
  .exact hf
  .have:=Aoc s.chunks c
   have hl:=p8 (by rw[f2];decide);unfold Cl at hf ⊢;simp only at hf;omega
 split at hf
 .exact hf
 split at hf
 .unfold Cl at hf ⊢
  simp only[QF,QH,QV]at hf;omega
 .unfold Cl at hf ⊢
  simp only[QF,QH,QV]at hf;omega
theorem jo(l:List UInt8):∀(s:Rs) (m:Int),Ce s->(Ah s l).2.2=0->Cl (Ah s l).1 m->Cl s m:=by
 induction l with
 |nil=>intro s m _ _ h;exact h
 |cons c l ih =>
  intro s m hs he hf;unfold Ah at he hf
  by_cases h2:s.phase=2
  .rw[QC h2]at hf;exact hf
  rw[QA h2]at he hf
  by_cases h3:(aZ s c).2=0
  .rw[QA (by simpa using h3)]at he hf
   exact jr hs (ih _ m (Kf hs h2 (by rw[<-h3])) he hf)
  .rw[QC h3]at he;exact absurd he h3
theorem wc(h:s.phase=1):(aZ s c).1.phase=1\/(aZ s c).1.phase=2:=by
 unfold aZ;rw[QA (by omega)]
 split
 .split
  .exact .inl h
  .by_cases e:(cF s.chunks c).1.phase=4<;>simp[e,h]
 split
 .exact .inl h
 split
 .by_cases e:s.left-1=0<;>simp[e,h]
 .exact .inl h
structure Ps(s:Ms)(l:List UInt8):Prop where
 p:s.phase=0
 i:s.inn.phase≠2
 ok:Ce s.inn
 fit:Cl s.inn s.cM
 room:s.inn.phase=0->(s.inn.line.length:Int)+l.length<=s.aS
theorem Ps.next{s:Ms}(h:Ps s (c :: l))(h0:(aZ s.inn c).2=0)(hf:Cl (aZ s.inn c).1 s.cM)(h2:(aZ s.inn c).1.phase≠2):Ps (Bw s (aZ s.inn c).1) l:=by
 refine⟨by unfold Bw;simp only[QA h2];exact h.p,h2,Kf (c:=c) h.ok h.i (show aZ s.inn c=((aZ s.inn c).1,0) by rw[<-h0]),hf,λe=>?_⟩;show ((aZ s.inn c).1.line.length:Int)+l.length<=s.aS;have h1:s.inn.phase=0:=by
  rcases h.ok.ph with g|g|g
  .exact g
  .have e:(aZ s.inn c).1.phase=0:=e
   rcases wc (c:=c) g with q|q<;>omega
  .exact absurd g h.i
 have:=h.room h1;simp only[QH]at this;rcases Oj (s:=s.inn) (c:=c) (λg=>(h.ok.p1 g).1) with g|g|g
 .rw[g];omega
 .rw[g];simp;omega
 .rw[g.2,QF];simp only[QH,QV];omega
theorem Ps.step{s:Ms}(h:Ps s (c :: l)):A6 s (c :: u) =
  if (aZ s.inn c).2=6 then broken s 10 else if (aZ s.inn c).2≠0\/¬Cl (aZ s.inn c).1 s.cM then broken s 11 else A6 (Bw s (aZ s.inn c).1) u:=by
 rw[Dy,QA h.i,QA]
 .rfl
 .rintro⟨g,e⟩
  have:=h.room g;simp only[QH]at this;omega
theorem Y3:∀(l u:List UInt8) (s:Ms),Ps s l->(Ah s.inn l).2.2=0->Cl (Ah s.inn l).1 s.cM->A6 s (l++u)=A6 (Bw s (Ah s.inn l).1) (l.drop (Ah s.inn l).2.1++u)
 | [],u,s,h,_,_=>by
  show A6 s u=A6 (Bw s s.inn) u;have:Bw s s.inn=s:=by unfold Bw;rw[QA h.i]
  rw[this]
 |c :: l,u,s,h,he,hf=>by
  have hr:Ah s.inn (c :: l)=if s.inn.phase=2 then (s.inn,0,0) else if (aZ s.inn c).2≠0 then (s.inn,0,(aZ s.inn c).2) else ((Ah (aZ s.inn c).1 l).1,(Ah (aZ s.inn c).1 l).2.1+1,(Ah (aZ s.inn c).1 l).2.2):=rfl
  rw[QA h.i]at hr
  by_cases h0:(aZ s.inn c).2=0
  case neg=>rw[QC h0]at hr;rw[hr]at he;exact absurd he h0
  rw[QA (by simpa using h0)]at hr;rw[hr]at he hf ⊢;simp only at he hf;have gE:=Kf h.ok h.i (show aZ s.inn c=((aZ s.inn c).1,0) by rw[<-h0]);have fV:=jo l _ _ gE he hf;rw[UE,h.step,QA (by omega),QA (by simp[h0,fV])];show _=A6 (Bw s (Ah (aZ s.inn c).1 l).1) (l.drop (Ah (aZ s.inn c).1 l).2.1++u)
  by_cases h2:(aZ s.inn c).1.phase=2
  .have:Ah (aZ s.inn c).1 l=((aZ s.inn c).1,0,0):=by
    cases l with
    |nil=>rfl
    |cons d l=>unfold Ah;rw[QC h2]
   rw[this];rfl
  .have hn:=h.next h0 fV h2
   have:=Y3 l u _ hn he hf;rw[this];have e:Bw (Bw s (aZ s.inn c).1) (Ah (aZ s.inn c).1 l).1=Bw s (Ah (aZ s.inn c).1 l).1:=by
    unfold Bw;simp only[QA h2]
   rw[<-e];rfl
theorem Ad3:∀(l u:List UInt8) (s:Ms),Ps s l->((Ah s.inn l).2.2≠0\/¬Cl (Ah s.inn l).1 s.cM)->(s.inn.line.length:Int)<=s.aS->A6 s (l++u)=B4 s l/\(B4 s l).phase=2
 | [],u,s,h,hb,_=>by
  rcases hb with g|g
  .exact absurd rfl g
  .exact absurd h.fit g
 |c :: l,u,s,h,hb,hl=>by
  have hr:Ah s.inn (c :: l)=if s.inn.phase=2 then (s.inn,0,0) else if (aZ s.inn c).2≠0 then (s.inn,0,(aZ s.inn c).2) else ((Ah (aZ s.inn c).1 l).1,(Ah (aZ s.inn c).1 l).2.1+1,(Ah (aZ s.inn c).1 l).2.2):=rfl
  rw[QA h.i]at hr;have he:B4 s (c :: l)=B4 (Fh s c) l:=by
   show (if s.phase≠0 then s else _)=_;rw[QA (by simp[h.p])]
  have eE:∀(s:Ms) (w:Int) (l:List UInt8),B4 (broken s w) l=broken s w:=λs w l=>by
   cases l with
   |nil=>rfl
   |cons d l=>show (if (broken s w).phase≠0 then _ else _)=_;rw[QC (by show (2:Int)≠0;decide)]
  have h1:=Amw (c:=c) h.i hl;rw[h.step (u:=[])]at h1;rw[UE,h.step,he,<-h1]
  by_cases h6:(aZ s.inn c).2=6
  .rw[QC h6,QC h6,eE];exact⟨rfl,rfl⟩
  rw[QA h6,QA h6]
  by_cases hx:(aZ s.inn c).2≠0\/¬Cl (aZ s.inn c).1 s.cM
  .rw[QC hx,QC hx,eE];exact⟨rfl,rfl⟩
  rw[QA hx,QA hx];simp only[not_or,Decidable.not_not]at hx;have h0:(aZ s.inn c).2=0:=by simpa using hx.1
  rw[QA (by simpa using h0)]at hr;rw[hr]at hb;have h2:(aZ s.inn c).1.phase≠2:=λh2=>by
   have:Ah (aZ s.inn c).1 l=((aZ s.inn c).1,0,0):=by
    cases l with
    |nil=>rfl
    |cons d l=>unfold Ah;rw[QC h2]
   rw[this]at hb;rcases hb with g|g
   .exact absurd rfl g
   .exact g hx.2
  have hn:=h.next h0 hx.2 h2;have iU:((Bw s (aZ s.inn c).1).inn.line.length:Int)<=(Bw s (aZ s.inn c).1).aS:=by
   show ((aZ s.inn c).1.line.length:Int)<=s.aS;rcases Oj (s:=s.inn) (c:=c) (λg=>(h.ok.p1 g).1) with g|g|g
   .rw[g];exact hl
   .rw[g];simp;omega
   .rw[g.2,QF];have:=h.room g.1;simp only[QH,QV]at this ⊢;omega
  exact Ad3 l u _ hn hb iU
theorem Akr{s:Ms}(hp:s.phase=0)(hi:s.inn.phase=0)(hl:(s.inn.line.length:Int)=s.aS):A6 s (c :: u)=B4 s [c]/\(B4 s [c]).phase=2:=by
 have e:B4 s [c]=broken s 11:=by
  show (if s.phase≠0 then s else Fh s c)=_;rw[QA (by simp[hp])];unfold Fh;rw[QC ⟨hi,by omega⟩]
 rw[Dy,QA (by omega),QC ⟨hi,hl⟩,e];exact⟨rfl,rfl⟩
set_option maxHeartbeats 8000000
structure pw(r:Rs)(x:bB):Prop where
 v:gD r x
 ok:Ce r
 met:r.method.length<=9223372036854775807
 fn:x.fb=true->r.head.fields=[]
 tn:x.cb=true->r.chunks.aE=[]
 bd:r.body.length<=65536
theorem T6(l:List UInt8):∀s:Rs,s.phase≠0->(Ah s l).1.head=s.head/\(Ah s l).1.phase≠0:=by
 induction l with
 |nil=>intro s h;exact⟨rfl,h⟩
 |cons c l ih =>
  intro s h;unfold Ah
  split
  .exact⟨rfl,h⟩
  split
  .exact⟨rfl,h⟩
  have h1:(aZ s c).1.head=s.head/\(aZ s c).1.phase≠0:=by
   unfold aZ;rw[QA h]
   split
   .split
    .exact⟨rfl,h⟩
    .refine⟨rfl,?_⟩
     show (if _ then (2:Int) else s.phase)≠0
     split
     .decide
     .exact h
   split
   .exact⟨rfl,h⟩
   split
   .refine⟨rfl,?_⟩
    show (if _ then (2:Int) else s.phase)≠0
    split
    .decide
    .exact h
   .exact⟨rfl,h⟩
  obtain⟨q1,q2⟩:=ih _ h1.2;exact⟨q1.trans h1.1,q2⟩
theorem Ae4(l:List UInt8):∀s:Rs,(Ah s l).1.method=s.method:=by
 induction l with
 |nil=>intro s;rfl
 |cons c l ih =>
  intro s;unfold Ah
  split
  .rfl
  split
  .rfl
  .exact (ih _).trans (Kg s c)
theorem wg(h:s.body.length<=65536):(aZ s c).1.body.length<=65536:=by
 unfold aZ
 split
 .split
  .exact h
  split
  .exact h
  split
  .exact h
  split
  .unfold Cd;split<;>exact h
  split<;>exact h
 split
 .split<;>exact h
 split
 .exact h
 rename_i g;have:(s.body++[c]).length<=65536:=by rw[QF];simp only[QH,QV];omega
 split<;>exact this
theorem Alz(l:List UInt8):∀s:Rs,s.body.length<=65536->(Ah s l).1.body.length<=65536:=by
 induction l with
 |nil=>intro s h;exact h
 |cons c l ih =>
  intro s h;unfold Ah
  split
  .exact h
  split
  .exact h
  .exact ih _ (wg h)
theorem jq(h:Ce r):r.chunks.data.length<=65536:=by
 by_cases h0:r.phase=0
 .obtain⟨_,_,_,_,_,p⟩:=h.p0 h0
  rw[p];decide
 by_cases h2:r.aD=2
 .exact (h.f2 h0 h2).2.1.data
 .obtain⟨_,_,_,_,_,_,p,_⟩:=h.p1 h0
  rw[p h2];decide
theorem pw.next{b:List UInt8}(G:pw s x)(e:(Ah s b).2.2=0)(V:gD (Ah s b).1 y)(N:pK s (Ah s b).1 y x):pw (Ah s b).1 y:=by
 have O:=Ok b s G.ok e;refine⟨V,O,by rw[Ae4];exact G.met,λh=>?_,λh=>?_,Alz b s G.bd⟩
 .rw[N.f]at h
  split at h
  .exact List.isEmpty_iff.mp h
  .rename_i g
   by_cases h0:s.phase=0
   .have:(Ah s b).1.phase=0:=Decidable.byContradiction λq=>g ⟨q,h0⟩
    rw[(O.p0 this).2.1];rfl
   .rw[(T6 b s h0).1];exact G.fn h
 .rw[N.c]at h
  unfold kJ at h
  split at h
  .exact List.isEmpty_iff.mp h
  .rename_i g
   by_cases t0:(Ah s b).1.phase=0
   .rw[(O.p0 t0).2.2.2.2.2];rfl
   by_cases t2:(Ah s b).1.aD=2
   case neg=>rw[(O.p1 t0).2.2.2.2.2.2.1 t2];rfl
   obtain⟨_,k,_⟩:=O.f2 t0 t2;rcases k.gN with k4|k4
   .have h4:s.chunks.phase=4:=Decidable.byContradiction λq=>g ⟨k4,q⟩
    have jO:s.phase≠0:=λz=>by
     rw[(G.ok.p0 z).2.2.2.2.2]at h4;cases h4
    have eK:s.aD=2:=Decidable.byContradiction λz=>by
     rw[(G.ok.p1 jO).2.2.2.2.2.2.1 z]at h4;cases h4
    have hp:=(G.ok.f2 jO eK).2.2.2 h4;have:Ah s b=(s,0,0):=by
     cases b with
     |nil=>rfl
     |cons c b=>unfold Ah;rw[QC hp]
    rw[this];exact G.tn h
   .exact k4
def Aw(s:Ms)(qb:Bool)(ql:Int)(qf:Nat->List SV)(x:bB):fG:=⟨s.eU.id,s.eU.method,s.eU.target,s.eU.host,qb,ql,qf,s.eU.body,s.out,s.aN,x,s.aS,s.cM,s.phase,s.ended,s.why⟩
theorem Gk(V:gD r y):(R8 m y=true)↔Cl r m:=by
 unfold R8 Cl;rw[V.bo,V.cd,V.lf,QE,decide_eq_true_iff,decide_eq_true_iff];omega
theorem pw.z8(G:pw r y)(h0:0<=m)(h1:m<=65536):BP m y:=by
 refine⟨h0,h1,?_,?_⟩
 .rw[G.v.bo];have:=G.bd;omega
 .rw[G.v.cd];have:=jq G.ok;omega
theorem Ae8{n:Int}{t:List UInt8}(h:Sj g (t.map λb=>[.int .u8 (.a (b.toNat:Int))]))(hn:n=t.length):Bo g n t:=by
 refine⟨hn,λi hi=>h.h i _ ?_⟩;rw[QS,QB hi,QD,QB hi];rfl
structure Twin(r:Rs)(y y0:bB):Prop where
 v:gD r y
 w:gD r y0
 f:y.fb=y0.fb
 c:y.cb=y0.cb
theorem Ya{c:fG}{y0:bB}(T:Twin r y y0):jS (bT { c with x:=y }) (bT { c with x:=y0 }):=by
 obtain⟨V,W,hf,hc⟩:=T;have e1:=V.m.trans W.m.symm;have e2:=V.ph.trans W.ph.symm;have e3:=V.inf.trans W.inf.symm;have e4:=V.ln.trans W.ln.symm;have e5:=V.mi.trans W.mi.symm;have e6:=V.st.trans W.st.symm;have e7:=V.re.trans W.re.symm;have e8:=V.fr.trans W.fr.symm;have e9:=V.bo.trans W.bo.symm;have DE:=V.lf.trans W.lf.symm;have e11:=V.cl.trans W.cl.symm;have PD:=V.cd.trans W.cd.symm;have e13:=V.cv.gM.trans W.cv.gM.symm;have e14:=V.cv.iG.trans W.cv.iG.symm;have R1:=V.fl;have R2:=W.fl;have R3:=V.cv.tr;have R4:=W.cv.tr;clear V W;obtain⟨m,ph,inf,ln,mi,st,re,fb,fl,ff,fr,bo,lf,cp,cl,cd,cf,cb,ct,ctf⟩:=y;obtain⟨m,ph,inf,ln,mi,st,re,fb,fl,ff,fr,bo,lf,cp,cl,cd,cf,cb,ct,ctf⟩:=y0;simp only at e1 e2 e3 e4 e5 e6 e7 e8 e9 DE e11 PD e13 e14 hf hc R1 R2 R3 R4;subst e1 e2 e3 e4 e5 e6 e7 e8 e9 DE e11 PD e13 e14 hf hc;have z:∀v,aM v v:=aM.refl;exact .cons (z _) (.cons (z _) (.cons (z _) (.cons (z _) (.cons (z _) (.cons (z _) (.cons (z _) (.cons (z _) (.cons (z _) (.cons (z _) (.cons (z _) (.cons (z _) (.cons (z _) (.cons (z _) (.cons (z _) (.cons (Fe R1 R2 rfl rfl rfl)
  (.cons (z _) (.cons (z _) (.cons (z _) (.cons (z _) (.cons (z _) (.cons (z _) (.cons (z _) (.cons (Fe R3 R4 rfl rfl rfl) (.cons (z _) (.cons (z _) (.cons (z _) (.cons (z _) (.cons (z _) .nil))))))))))))))))))))))))))))
structure cZ(s:Rs)(x:bB)(t:Rs)(y:bB):Prop where
 g:pw t y
 n:pK s t y x
 a:s.phase≠0->t.phase≠0/\t.head=s.head
 c:s.chunks.phase=4->t.chunks=s.chunks
theorem cZ.refl(G:pw s x):cZ s x s x:=by
 refine⟨G,⟨?_,?_⟩,λh=>⟨h,rfl⟩,λ_=>rfl⟩
 .rw[QA (λh=>h.1 h.2)]
 .unfold kJ;rw[QA (λh=>h.2 h.1)]
theorem Xv(h:Ce s)(h4:s.chunks.phase=4):s.phase=2:=by
 have jO:s.phase≠0:=λz=>by
  rw[(h.p0 z).2.2.2.2.2]at h4;cases h4
 have eK:s.aD=2:=Decidable.byContradiction λz=>by
  rw[(h.p1 jO).2.2.2.2.2.2.1 z]at h4;cases h4
 exact (h.f2 jO eK).2.2.2 h4
theorem Abu{b:List UInt8}(h:s.phase=2):Ah s b=(s,0,0):=by
 cases b with
 |nil=>rfl
 |cons c b=>unfold Ah;rw[QC h]
theorem cZ.step{b:List UInt8}(Q:cZ s x t y)(e:(Ah t b).2.2=0)(V:gD (Ah t b).1 z)(N:pK t (Ah t b).1 z y):cZ s x (Ah t b).1 z:=by
 have P:=T6 b t;refine⟨Q.g.next e V N,⟨?_,?_⟩,λh=>?_,λh=>?_⟩
 .rw[N.f,Q.n.f]
  by_cases ht:t.phase=0
  .have hs:s.phase=0:=Decidable.byContradiction λg=>(Q.a g).1 ht
   by_cases hu:(Ah t b).1.phase=0
   .rw[QA (λh=>h.1 hu),QA (λh=>h.1 ht),QA (λh=>h.1 hu)]
   .rw[QC ⟨hu,ht⟩,QC ⟨hu,hs⟩]
  .obtain⟨p1,p2⟩:=P ht
   rw[QA (λh=>ht h.2)]
   by_cases hs:s.phase=0
   .rw[QC ⟨ht,hs⟩,QC ⟨p2,hs⟩,p1]
   .rw[QA (λh=>hs h.2),QA (λh=>hs h.2)]
 .rw[N.c,Q.n.c]
  unfold kJ
  by_cases ht:t.chunks.phase=4
  .rw[Abu (Xv Q.g.ok ht)]
   rw[QA (λh=>h.2 ht)]
  .have hs:s.chunks.phase≠4:=λg=>ht (by rw[Q.c g];exact g)
   by_cases hu:(Ah t b).1.chunks.phase=4
   .rw[QC ⟨hu,ht⟩,QC ⟨hu,hs⟩]
   .rw[QA (λh=>hu h.1),QA (λh=>ht h.1),QA (λh=>hu h.1)]
 .obtain⟨q1,q2⟩:=Q.a h
  obtain⟨p1,p2⟩:=P q1;exact⟨p2,p1.trans q2⟩
 .have h4:t.chunks.phase=4:=by rw[Q.c h];exact h
  rw[Abu (Xv Q.g.ok h4)];exact Q.c h
theorem cZ.eM(Q:cZ s x t y)(R:cZ s x t z):Twin t y z :=
 ⟨Q.g.v,R.g.v,Q.n.f.trans R.n.f.symm,Q.n.c.trans R.n.c.symm⟩
theorem cZ.ex{b:List UInt8}(Q:cZ s x t y)(e:(Ah t b).2.2=0):∃z,cZ s x (Ah t b).1 z:=by
 obtain⟨z,V,N⟩:=Alx (x:=y) Q.g.ok (Ah t b) rfl e;exact⟨z,Q.step e V N⟩
theorem Amn{t:Ms}(c:UInt8)(Q:cZ s x t.inn y):∃z,cZ s x (Fh t c).inn z:=by
 unfold Fh
 split
 .exact⟨y,Q⟩
 split
 .exact⟨y,Q⟩
 split
 .exact⟨y,Q⟩
 .rename_i h
  have h0:(Ah t.inn [c]).2.2=0:=Decidable.byContradiction λg=>h (.inl g);exact Q.ex h0
theorem Ah6{s:Rs}{x:bB}:∀(l:List UInt8) (t:Ms) (y:bB),cZ s x t.inn y->∃z,cZ s x (B4 t l).inn z
 | [],t,y,Q=>⟨y,Q⟩
 |c :: l,t,y,Q=>by
  unfold B4
  split
  .exact⟨y,Q⟩
  .obtain⟨z,R⟩:=Amn c Q
   exact Ah6 l _ z R
theorem Ahm{s:Rs}{x:bB}:∀(l:List UInt8) (t:Ms) (y:bB),cZ s x t.inn y->∃z,cZ s x (A6 t l).inn z
 | [],t,y,Q=>⟨y,Q⟩
 |c :: l,t,y,Q=>by
  rw[Dy]
  split
  .exact⟨y,Q⟩
  rename_i h2
  split
  .exact⟨y,Q⟩
  split
  .exact⟨y,Q⟩
  split
  .exact⟨y,Q⟩
  .rename_i h
   have h0:(aZ t.inn c).2=0:=Decidable.byContradiction λg=>h (.inl g);obtain⟨q1,q2⟩:=FG (c:=c) h2;obtain⟨z,R⟩:=Q.ex (b:=[c]) (by rw[q1];exact h0);rw[q2 h0]at R;exact Ahm l _ z R
theorem S9{b:List UInt8}{t:Ms}(Q:cZ s x t.inn y):∃z,cZ s x (Az t b).inn z:=by
 unfold Az
 split
 .exact⟨y,Q⟩
 .exact Ahm b t y Q
set_option maxHeartbeats 4000000
def ET:List (Nat×TI):=[
 (3,⟨.int .i64,1,8,[.int .i64 (.l 0)]⟩),
 (4,⟨.bool,1,1,[.bool (.l false)]⟩),
 (9,⟨.string,1,16,[.str []]⟩),
 (28,⟨.int .i64,1,8,[.int .i64 (.l 0)]⟩),
 (2,⟨.int .i64,1,8,[.int .i64 (.l 0)]⟩),
 (57,⟨.int .i64,1,8,[.int .i64 (.l 0)]⟩),
 (23,⟨.slice 100,1,24,[(.sl (.l true) (.l 0) 2 λ_=>[])]⟩),
 (100,⟨.struct [(0,9),(1,9)],2,32,[.str [],.str []]⟩),
 (55,⟨.struct [(0,2),(1,9),(2,9),(3,9),(4,23),(5,9)],6,96,[.int .i64 (.l 0),.str [],.str [],.str [],(.sl (.l true) (.l 0) 2 λ_=>[]),.str []]⟩),
 (36,⟨.struct [(0,3),(1,9),(2,9),(3,3),(4,23)],5,72,[.int .i64 (.l 0),.str [],.str [],.int .i64 (.l 0),(.sl (.l true) (.l 0) 2 λ_=>[])]⟩),
 (25,⟨.struct [(0,3),(1,3),(2,9),(3,23)],4,56,[.int .i64 (.l 0),.int .i64 (.l 0),.str [],(.sl (.l true) (.l 0) 2 λ_=>[])]⟩),
 (38,⟨.struct [(0,9),(1,3),(2,3),(3,9),(4,25),(8,3),(9,9),(10,3),(11,36)],16,208,[.str [],.int .i64 (.l 0),.int .i64 (.l 0),.str [],.int .i64 (.l 0),.int .i64 (.l 0),.str [],(.sl (.l true) (.l 0) 2 λ_=>[]),.int .i64 (.l 0),.str [],.int .i64 (.l 0),.int .i64 (.l 0),.str [],.str [],.int .i64 (.l 0),(.sl (.l true) (.l 0) 2 λ_=>[])]⟩),
 (59,⟨.struct [(0,55),(6,9),(7,3),(8,38),(24,3),(25,3),(26,3),(27,4),(28,57)],29,368,[.int .i64 (.l 0),.str [],.str [],.str [],(.sl (.l true) (.l 0) 2 λ_=>[]),.str [],.str [],.int .i64 (.l 0),.str [],.int .i64 (.l 0),.int .i64 (.l 0),.str [],.int .i64 (.l 0),.int .i64 (.l 0),.str [],(.sl (.l true) (.l 0) 2 λ_=>[]),.int .i64 (.l 0),.str [],.int .i64 (.l 0),.int .i64 (.l 0),.str [],.str [],.int .i64 (.l 0),(.sl (.l true) (.l 0) 2 λ_=>[]),.int .i64 (.l 0),.int .i64 (.l 0),.int .i64 (.l 0),.bool (.l false),.int .i64 (.l 0)]⟩)]
theorem ik:Sx.yN Tryz.prog ET=true:=by kernel_rfl
theorem SB{eG:List (Nat×aB)}{gl:List (Nat×SV)}{gh:List (Nat×List Gh)}{its:List (Nat×(aB->aB))}{yl:List aB}:A4 Tryz.prog ⟨dn,ET,eG,gl,eqs,gh,its,yl⟩:=by
 refine⟨rfl,ik,λt ht=>?_⟩;simp only[eqs,XT,ZU,or_false]at ht;rcases ht with rfl
 all_goals
  refine⟨?_,?_,?_⟩
  .kernel_rfl
  .kernel_rfl
  .decide
def Xb(a b:Int):Bool:=((decide (64<=a)&&decide (a<=65536))&&decide (0<=b))&&decide (b<=65536)
def qq:aB:=λ_ xs ls K=>∃(a b:Int),xs=[.int .i64 (.a a),.int .i64 (.a b)]/\ls=[]/\∀r,r=Xb a b->K (.bool (.a r)) []
theorem Ang:Ap Tryz.prog gl 91 qq:=by
 refine Bq (gh:=[]) mixed SB Ae Tryz.func91 (by kernel_rfl) (by kernel_rfl) ?_;intro xs ls K h;unfold qq at h;obtain⟨a,b,rfl,rfl,h⟩:=h;obtain⟨k,hk⟩:∃k,k=Xb a b:=⟨_,rfl⟩;refine⟨_,_,h k hk,λD hD=>?_⟩;clear h;cbv;exact Ar hD (by rw[hk];rfl)
set_option maxHeartbeats 8000000
def TH(r:Rq)(nb:Bool)(n:Int)(f:Nat->List SV)(out m:List UInt8)(a b:Int):SV:=.agg [.int .i64 (.a r.id),.str r.method,.str r.target,.str r.host,.sl (.a nb) (.a n) 2 f,.str r.body,.str out,.int .i64 (.a 0),
 .str m,.int .i64 (.a 0),.int .i64 (.a 0),.str [],.int .i64 (.a 0),.int .i64 (.a 0),.str [],.sl (.a true) (.a 0) 2 λ_=>[],.int .i64 (.a 0),.str [],.int .i64 (.a 0),.int .i64 (.a 0),.str [],.str [],.int .i64 (.a 0),.sl (.a true) (.a 0) 2 λ_=>[],
 .int .i64 (.a a),.int .i64 (.a b),.int .i64 (.a 0),.bool (.a false),.int .i64 (.a 0)]
def Pn(r:Rq)(a b:Int):Rq×List UInt8×List UInt8×Int×Int×Int :=
 if (Ca r).2≠0 then (SP,[],[],0,0,(Ca r).2) else if Xb a b then (r,(Ca r).1,r.method,a,b,0) else (SP,[],[],0,0,7)
theorem Vt{r:Rq}(h:(Ca r).2=0):Cb r.method=true:=by
 have h1:(Br r).2.2=0:=by
  unfold Ca at h
  split at h
  .rename_i g;exact absurd h g
  .rename_i g;simpa using g
 have:=(Iv h1).method;unfold Gj at this;simp only[QE]at this;exact this.2
theorem leB{t t':BT}(h:t.den=t'.den):aM (.bool t) (.bool t'):=by
 intro E w v hr;obtain rfl:=hr.bJ;exact .ro (.bool h.symm)
theorem lr{q:Rq}{nb nb':BT}{n n':ST}{f f':Nat->List SV}{out m:List UInt8}{i s1 s2 s3 s4 s5 s6 s7 s8 s9 a b p w:ST}{b1 b2 bb:BT}{c1 c2:ST}{a' b' i':Int}
  (hi:i.den=q.id) (hr:aM (.sl nb n 2 f) (.sl nb' n' 2 f')) (h1:s1.den=0) (h2:s2.den=0) (h3:s3.den=0) (h4:s4.den=0) (h5:s5.den=0) (h6:s6.den=0) (h7:s7.den=0) (h8:s8.den=0) (h9:s9.den=0)
  (ha:a.den=a') (hb:b.den=b') (hp:p.den=0) (hw:w.den=0) (bX:bb.den=false) (lU:b1.den=true) (ep:c1.den=0) (gH:b2.den=true) (gC:c2.den=0) (g1 g2:Nat->List SV) (he:i'=q.id):
  aM (.agg [.int .i64 i,.str q.method,.str q.target,.str q.host,.sl nb n 2 f,.str q.body,.str out,.int .i64 s1,.str m,.int .i64 s2,.int .i64 s3,.str [],.int .i64 s4,.int .i64 s5,.str [],.sl b1 c1 2 g1,.int .i64 s6,.str [],.int .i64 s7,.int .i64 s8,.str [],.str [],.int .i64 s9,.sl b2 c2 2 g2,.int .i64 a,.int .i64 b,.int .i64 p,.bool bb,.int .i64 w])
   (.agg [.int .i64 (.a i'),.str q.method,.str q.target,.str q.host,.sl nb' n' 2 f',.str q.body,.str out,.int .i64 (.a 0),
 .str m,.int .i64 (.a 0),.int .i64 (.a 0),.str [],.int .i64 (.a 0),.int .i64 (.a 0),.str [],.sl (.a true) (.a 0) 2 λ_=>[],.int .i64 (.a 0),.str [],.int .i64 (.a 0),.int .i64 (.a 0),.str [],.str [],.int .i64 (.a 0),.sl (.a true) (.a 0) 2 λ_=>[],
 .int .i64 (.a a'),.int .i64 (.a b'),.int .i64 (.a 0),.bool (.a false),.int .i64 (.a 0)]):=by
 have hz:∀ {b c g},BT.den b=true->ST.den c=0->aM (.sl b c 2 g) (.sl (.a true) (.a 0) 2 λ_=>[]):=λ{b c g} hb hc=>.sl hb hc λi hi=>absurd hi (by rw[hc];omega);subst he;exact .agg (.cons (Af hi) (.cons (.refl _) (.cons (.refl _) (.cons (.refl _) (.cons hr (.cons (.refl _) (.cons (.refl _) (.cons (Af h1) (.cons (.refl _) (.cons (Af h2) (.cons (Af h3) (.cons (.refl _) (.cons (Af h4) (.cons (Af h5) (.cons (.refl _) (.cons (hz lU ep) (.cons (Af h6) (.cons (.refl _) (.cons (Af h7) (.cons (Af h8) (.cons (.refl _) (.cons (.refl _) (.cons (Af h9) (.cons (hz gH gC) (.cons (Af ha) (.cons (Af hb) (.cons (Af hp) (.cons (leB bX) (.cons (Af hw) .nil)))))))))))))))))))))))))))))
theorem Vu{r:Rq}(h:(Ca r).2=0):r.fields.length<=100000:=by
 have h1:(Br r).2.2=0:=by
  unfold Ca at h
  split at h
  .rename_i g;exact absurd h g
  .rename_i g;simpa using g
 have h2:=D6 (Adw (Iv h1).chk).2.2.2.1;omega
def sH:aB:=λ_ xs ls K=>∃(r:Rq) (nl:Bool) (n:Int) (f:Nat->List SV) (a b:Int),xs=[.agg [.int .i64 (.a r.id),.str r.method,.str r.target,.str r.host,.sl (.a nl) (.a n) 2 f,.str r.body],.int .i64 (.a a),.int .i64 (.a b)]/\ls=[]/\M1 r nl n f/\
 ∀q out m a' b' e nb n' f',(q,out,m,a',b',e)=Pn r a b->A0 f' n' q.fields->nb=q.fields.isEmpty->K (.aI [TH q nb n' f' out m a' b',.int .i64 (.a e)]) []
theorem Akt:Ap Tryz.prog pI 31 sH:=by
 refine Bq (gh:=[]) mixed SB (Aa Yx (Aa (C5 Ang) (Aa (C5 Alf) Ae))) Tryz.func31 (by kernel_rfl) (by kernel_rfl) ?_;intro xs ls K h;unfold sH at h;obtain⟨r,nl,n,f,a,b,rfl,rfl,R,h⟩:=h;obtain⟨k,hk⟩:∃k,k=Pn r a b:=⟨_,rfl⟩;obtain⟨kq,ko,km,ka,kb,ke⟩:=k;have jR:=Vt (r:=r);have lT:=Vu (r:=r);obtain⟨kn,kU⟩:∃x:Bool,x=kq.fields.isEmpty:=⟨_,rfl⟩;obtain⟨kf,OO⟩:∃x,x=M7 kq.fields:=⟨_,rfl⟩;obtain⟨kl,mW⟩:∃x:Int,x=kq.fields.length:=⟨_,rfl⟩;have hqq:kq=r\/kq=SP:=by
  unfold Pn at hk
  split at hk
  .exact .inr (Prod.mk.inj hk).1
  .split at hk
   .exact .inl (Prod.mk.inj hk).1
   .exact .inr (Prod.mk.inj hk).1
 have R0:A0 kf kl kq.fields:=by
  rw[OO,mW];rcases hqq with rfl|rfl
  .exact A0.row R.row.len R.row.small
  .exact A0.row (by decide) λi hi=>absurd hi (by show ¬i<0;omega)
 refine⟨_,_,h kq ko km ka kb ke kn kl kf hk R0 kU,λD hD=>?_⟩;clear h hqq OO mW;unfold Pn at hk;obtain⟨c,hc⟩:∃c,c=Ca r:=⟨_,rfl⟩;rw[<-hc]at hk jR lT;obtain⟨ct,ce⟩:=c;obtain⟨ir,hir⟩:∃x,x=Xb a b:=⟨_,rfl⟩;rw[<-hir]at hk;obtain⟨id,me,ta,ho,fs,bo⟩:=r;unfold TH;obtain⟨qi,qm,qt,qh,qf,qb⟩:=kq;simp only at hk jR kU R0 lT;have hml:=R.method;have uK:=R.row.len;cbv;refine⟨⟨id,me,ta,ho,fs,bo⟩,nl,n,f,by subst hD;rfl,rfl,R,λt e iI=>?_⟩;cbv;rw[<-hc]at iI;simp only[Prod.mk.injEq]at iI;obtain⟨rfl,rfl⟩:=iI;refine br hD (λhb=>?_) (λhb=>?_)<;>cbv
 .have he:e≠0:=by simpa using hb
  rw[QC he]at hk;simp only[Prod.mk.injEq]at hk;obtain⟨hq,rfl,rfl,rfl,rfl,rfl⟩:=hk
  injection hq with q1 q2 q3 q4 q5 q6
  subst q1 q2 q3 q4 q5 q6;have rF:kl=0:=R0.n;subst hD;exact Cm (.aI (.cons (lr (q:=⟨0,[],[],[],[],[]⟩) rfl (.sl (by rw[kU];rfl) (by exact rF.symm) λi hi=>absurd hi (by show ¬((i:Int)<0);omega)) rfl rfl rfl rfl rfl rfl rfl rfl rfl rfl rfl rfl rfl rfl rfl rfl rfl rfl _ _ rfl) (.cons (Af rfl) .nil)))
 have he:e=0:=by simpa using hb
 rw[QA (by simp[he])]at hk;have jR:=jR he;have lT:=lT he;clear hb;refine⟨a,b,by subst hD;rfl,rfl,λz hz=>?_⟩;cbv;rw[<-hir]at hz;subst hz;refine br hD (λhb=>?_) (λhb=>?_)<;>cbv
 .have hb:(!z)=true:=by subst hD;exact hb
  rw[QA (by simpa using hb)]at hk;simp only[Prod.mk.injEq]at hk;obtain⟨hq,rfl,rfl,rfl,rfl,rfl⟩:=hk
  injection hq with q1 q2 q3 q4 q5 q6
  subst q1 q2 q3 q4 q5 q6;have rF:kl=0:=R0.n;subst hD;exact Cm (.aI (.cons (lr (q:=⟨0,[],[],[],[],[]⟩) rfl (.sl (by rw[kU];rfl) (by exact rF.symm) λi hi=>absurd hi (by show ¬((i:Int)<0);omega)) rfl rfl rfl rfl rfl rfl rfl rfl rfl rfl rfl rfl rfl rfl rfl rfl rfl rfl _ _ rfl) (.cons (Af rfl) .nil)))
 have hb:(!z)=false:=by subst hD;exact hb
 rw[QC (by simpa using hb)]at hk;clear hb;simp only[Prod.mk.injEq]at hk;obtain⟨hq,rfl,rfl,rfl,rfl,rfl⟩:=hk
 injection hq with q1 q2 q3 q4 q5 q6
 subst q1 q2 q3 q4 q5 q6;refine⟨_,rfl,rfl,hml,λy e hy oT=>?_⟩;rw[QC jR]at hy oT;subst hy oT;cbv;clear jR hc hb;refine br hD (λhb=>?_) (λhb=>?_)<;>cbv
 .have hb:((0:Int) != 0)=true:=by subst hD;exact hb
  exact absurd hb (by decide)
 clear hb;refine⟨?_,λf1 n1 hm=>?_⟩
 .have hn:n=(qf.length:Int):=R.row.n
  subst hD;exact⟨by show n * 32<=_;omega,by show n<=_;omega⟩
 cbv;have hn:n=(qf.length:Int):=R.row.n;have fD:kl=n:=R0.n.trans R.row.n.symm;have yT:n1=n:=by subst hD;exact hm.len
 have aJ:∀i:Nat,(i:Int)<n->f1 i=kf i:=λi hi=>by
  have hi2:i<qf.length:=by omega
  rw[hm.row i (by subst hD;exact hi),R.row.f i hi2,R0.f i hi2]
 have qN:decide (n=0)=kn:=by
  rw[kU,hn];clear hm aJ fD yT hn kU R0 R hml uK lT;cases qf with
  |nil=>rfl
  |cons x l=>simp;omega
 clear hm;subst hD;exact Cm (.aI (.cons (lr (q:=⟨qi,qm,qt,qh,qf,qb⟩) rfl (.sl (by exact qN) (by show n1=kl;rw[yT,fD]) λi hi=>aJ i (by have hi:(i:Int)<n1:=hi;omega)) rfl rfl rfl rfl rfl rfl rfl rfl rfl rfl rfl rfl rfl rfl rfl rfl rfl rfl _ _ rfl) (.cons (Af rfl) .nil)))
set_option maxHeartbeats 400000
structure Kept(s t:Ms)(x:Me):Prop where
 eU:t.eU=s.eU
 out:t.out=s.out
 aS:t.aS=s.aS
 cM:t.cM=s.cM
 aN:t.aN=s.aN+(if x.kind=1 then x.n else 0)
 ended:t.ended=(s.ended||decide (x.kind=3)||decide (x.kind=4))
theorem Rj:∀(b:List UInt8) (s:Ms),(A6 s b).eU=s.eU/\(A6 s b).out=s.out/\(A6 s b).aS=s.aS/\(A6 s b).cM=s.cM/\(A6 s b).aN=s.aN/\(A6 s b).ended=s.ended
 | [],s=>⟨rfl,rfl,rfl,rfl,rfl,rfl⟩
 |c :: b,s=>by
  rw[Dy]
  split
  .exact⟨rfl,rfl,rfl,rfl,rfl,rfl⟩
  split
  .exact⟨rfl,rfl,rfl,rfl,rfl,rfl⟩
  split
  .exact⟨rfl,rfl,rfl,rfl,rfl,rfl⟩
  split
  .exact⟨rfl,rfl,rfl,rfl,rfl,rfl⟩
  exact Rj b { s with inn:=(aZ s.inn c).1,phase:=if (aZ s.inn c).1.phase=2 then 1 else s.phase }
theorem Is(s:Ms)(b:List UInt8):(Az s b).eU=s.eU/\(Az s b).out=s.out/\(Az s b).aS=s.aS/\(Az s b).cM=s.cM/\(Az s b).aN=s.aN/\(Az s b).ended=s.ended:=by
 unfold Az
 split
 .exact⟨rfl,rfl,rfl,rfl,rfl,rfl⟩
 .exact Rj b s
theorem Wd(s:Ms)(x:Me):Kept s (Be s x) x:=by
 unfold Be
 split
 .rename_i h
  exact⟨rfl,rfl,rfl,rfl,by show s.aN+x.n=_;rw[QC h],by show s.ended=_;simp[h]⟩
 rename_i h1
 split
 .rename_i h
  obtain⟨q1,q2,q3,q4,q5,q6⟩:=Is s x.bytes;exact⟨q1,q2,q3,q4,by rw[q5,QA h1];omega,by rw[q6];simp[h]⟩
 rename_i h2
 split
 .rename_i h
  have:∀t:Ms,(t=C8 s)->Kept s t x:=λt e=>by
   unfold C8 at e
   split at e
   .rw[e];exact⟨rfl,rfl,rfl,rfl,by rw[QA h1];show s.aN=_;omega,by show true=_;simp[h]⟩
   split at e
   .rw[e];exact⟨rfl,rfl,rfl,rfl,by rw[QA h1];show s.aN=_;omega,by show true=_;simp[h]⟩
   split at e
   .rw[e];exact⟨rfl,rfl,rfl,rfl,by rw[QA h1];show s.aN=_;omega,by show true=_;simp[h]⟩
   .rw[e];exact⟨rfl,rfl,rfl,rfl,by rw[QA h1];show s.aN=_;omega,by show true=_;simp[h]⟩
  exact this _ rfl
 rename_i h3
 split
 .rename_i h
  split
  .exact⟨rfl,rfl,rfl,rfl,by rw[QA h1];show s.aN=_;omega,by show true=_;simp[h]⟩
  .exact⟨rfl,rfl,rfl,rfl,by rw[QA h1];show s.aN=_;omega,by show true=_;simp[h]⟩
 .rename_i h4
  exact⟨rfl,rfl,rfl,rfl,by rw[QA h1];show s.aN=_;omega,by show s.ended=_;simp[h3,h4]⟩
theorem Af6{s:Ms}{x:Me}(h:Cg s x=0):s.phase≠2:=λe=>by
 unfold Cg at h
 split at h
 .cases h
 split at h
 .cases h
 rw[QC (.inl e)]at h;cases h
set_option maxHeartbeats 16000000
structure u3(s:Ms)(qb:Bool)(ql:Int)(qf:Nat->List SV)(x:bB):Prop where
 ok:If s
 rq:M1 s.eU qb ql qf
 x:gD s.inn x
theorem Kv{s:Ms}(X:gD s.inn x):(Nw (Aw s qb ql qf x)=true)↔early s.inn:=by
 unfold Nw early Aw;rw[X.ph,X.ln,X.inf];simp only[QE,QO]
 grind
def az:aB:=λ_ xs ls K=>∃(s:Ms) (qb:Bool) (ql:Int) (qf:Nat->List SV) (x:bB),xs=[.agg (bT (Aw s qb ql qf x))]/\ls=[]/\u3 s qb ql qf x/\K (.int .i64 (.a 0)) []
theorem br2{D:Dn}(hD:D=dn){a b:BT}{A B:Prop}(ht:(a.den&&b.den)=true->A)(hf:(a.den&&b.den)=false->B):((D.b a&&D.b b)=true->A)/\((D.b a&&D.b b)=false->B):=by subst hD;exact⟨ht,hf⟩
structure FnK(s:Rs)(e:Int):Prop where
 a:e=0\/e=2
 o:e=0↔Ce s
def fnJ(x:bB)(nb:Bool)(n:Int)(f:Nat->List SV)(m:Nat)(vs:List (Option SV))(hp:List Hl):Prop :=
 vs=[some (.sl (.a nb) (.a n) 1 f),some (.ptr 0 0),some (.ptr 1 0),some (.ptr 2 0)]/\
  hp=[.aF 38 (Ml x),.aF 38 (Ml (Py [])),.aF 125 (Ml x++[.sl (.a nb) (.a n) 1 f,.sl (.a true) (.a 0) 1 λ_=>[]])]/\m=0
def wQ:aB:=λ_ xs ls K=>∃(s:Rs) (x:bB) (nb:Bool) (n:Int) (f:Nat->List SV),xs=[kL x,.sl (.a nb) (.a n) 1 f]/\ls=[]/\n=0/\gD s x/\s.method.length<=9223372036854775807/\dX s.line.length 1000000/\dX s.chunks.line.length 1000000/\dX s.chunks.data.length 9223372036854775807/\
 dX s.body.length 9223372036854775807/\∀e,FnK s e->K (.aI [kL x,.int .i64 (.a 0),.int .i64 (.a e)]) []
theorem Ans:Ap Tryz.prog gl 23 wQ:=by
 refine Bu (gh:=[]) mixed Du (Aa Pv Ae) Tryz.func23 (by kernel_rfl) (by kernel_rfl) ?_;intro xs ls K h;unfold wQ at h;obtain⟨s,x,nb,n,f,rfl,rfl,hn,V,hm,HL,HC,HD,HB,h⟩:=h;obtain⟨k,hk⟩:∃k,FnK s k:=by
  by_cases g:Ce s
  .exact⟨0,.inl rfl,λ_=>g,λ_=>rfl⟩
  .exact⟨2,.inr rfl,λe=>absurd e (by decide),λq=>absurd q g⟩
 refine⟨_,_,h k hk,λD hD=>?_⟩;clear h;obtain⟨m,ph,inf,ln,mi,st,re,fb,fl,ff,fr,bo,lf,cp,cl,cd,cf,cb,ct,ctf⟩:=x;unfold kL;cbv;refine⟨s,bB.nm D ⟨m,ph,inf,ln,mi,st,re,fb,fl,ff,fr,bo,lf,cp,cl,cd,cf,cb,ct,ctf⟩,rfl,rfl,by subst hD;exact V,hm,HL,HC,HD,HB,λv hv=>?_⟩;cbv;refine br hD (λhb=>?_) (λhb=>?_)<;>cbv
 .have hb:(!v)=true:=by subst hD;exact hb
  have gi:v=false:=by simpa using hb
  have e2:k=2:=hk.a.resolve_left λe=>by
   have:=hv.h.2 (hk.o.1 e);rw[gi]at this;cases this
  subst hD;exact Aaf (y:=⟨m,ph,inf,ln,mi,st,re,fb,fl,ff,fr,bo,lf,cp,cl,cd,cf,cb,ct,ctf⟩) (y':=⟨m,ph,inf,ln,mi,st,re,fb,fl,ff,fr,bo,lf,cp,cl,cd,cf,cb,ct,ctf⟩) V V rfl rfl rfl (by exact e2.symm)
 have e0:k=0:=by
  have hb:(!v)=false:=by subst hD;exact hb
  exact hk.o.2 (hv.h.1 (by simpa using hb))
 clear hb;obtain⟨x0,oQ⟩:∃x0:bB,x0=⟨m,ph,inf,ln,mi,st,re,fb,fl,ff,fr,bo,lf,cp,cl,cd,cf,cb,ct,ctf⟩:=⟨_,rfl⟩;obtain⟨J,hJ⟩:∃J,J=fnJ x0 nb n f:=⟨_,rfl⟩;refine⟨[1,2,4,7],J,⟨rfl,0,?_⟩,?_⟩
 .rw[hJ]
  subst hD oQ;exact⟨rfl,rfl,rfl⟩
 intro m3 vs hp hv;rw[hJ]at hv;obtain⟨e1,e2,lP⟩:=hv;subst e1;unfold Ml at e2;cbv at e2;subst e2;cbv;refine br hD (λhb=>?_) (λhb=>?_)
 .have hb:(decide (0<n)&&(x0.ph != 2))=true:=by subst hD;exact hb
  rw[hn]at hb;cases hb
 .cbv
  subst hD oQ;exact Aaf (y:=⟨m,ph,inf,ln,mi,st,re,fb,fl,ff,fr,bo,lf,cp,cl,cd,cf,cb,ct,ctf⟩) (y':=⟨m,ph,inf,ln,mi,st,re,fb,fl,ff,fr,bo,lf,cp,cl,cd,cf,cb,ct,ctf⟩) V V rfl rfl (by show IntKind.i64.wrap (n-n)=0;rw[Int.sub_self];rfl) (by exact e0.symm)
theorem Wk{s:Ms}(X:gD s.inn x):Bp (Aw s qb ql qf x)=true↔Ir s:=by
 have he:=Kv (qb:=qb) (ql:=ql) (qf:=qf) (s:=s) X;have hx:=X.ph;unfold Bp Ij M0;obtain⟨e,ec⟩:∃e,e=Nw (Aw s qb ql qf x):=⟨_,rfl⟩;rw[<-ec]at he ⊢;unfold Ir;simp only[Aw,hx];rw[<-he];obtain⟨p,hp⟩:∃p,p=s.phase:=⟨_,rfl⟩;obtain⟨w,hw⟩:∃w,w=s.why:=⟨_,rfl⟩;obtain⟨q,hq⟩:∃q,q=s.inn.phase:=⟨_,rfl⟩;obtain⟨d,hd⟩:∃d,d=s.ended:=⟨_,rfl⟩;obtain⟨z,hz⟩:∃z,z=s.aN:=⟨_,rfl⟩;rw[<-hp,<-hw,<-hq,<-hd,<-hz];clear hp hw hq hd hz he ec hx X
 by_cases p0:p=0
 .subst p0;cases d<;>simp
 by_cases p1:p=1
 .subst p1;simp
 by_cases p2:p=2
 .subst p2
  by_cases w1:w=10\/w=11\/w=4\/w=5\/w=1\/w=12\/w=15\/w=9\/w=8
  .rcases w1 with rfl|rfl|rfl|rfl|rfl|rfl|rfl|rfl|rfl<;>cases d<;>cases e<;>simp
  .simp only[not_or]at w1
   obtain⟨a,b,c,f,g,h,i,j,k⟩:=w1;simp[a,b,c,f,g,h,i,j,k]
 .simp[p0,p1,p2]
structure PS(s:Ms)(e:Int):Prop where
 a:e=0\/e=6
 o:e=0↔If s
theorem PS.no{s:Ms}{k:Int}(h:PS s k)(g:¬If s):k=6:=h.a.resolve_left λe=>g (h.o.1 e)
structure MsP(s:Ms):Prop where
 enc:Ca s.eU=(s.out,0)
 s0:0<=s.aN
 s1:s.aN<=s.out.length
 h0:64<=s.aS
 h1:s.aS<=65536
 b0:0<=s.cM
 b1:s.cM<=65536
 met:s.inn.method=s.eU.method
theorem Ahl{s:Ms}(P:MsP s)(R:Ce s.inn)(l:(s.inn.line.length:Int)<=s.aS)(f:Cl s.inn s.cM)(e:s.aN=0->early s.inn)(r:Ir s):If s :=
 ⟨P.enc,P.s0,P.s1,P.h0,P.h1,P.b0,P.b1,P.met,R,l,f,e,r⟩
structure CkV(s:Ms):Prop where
 hl:dX s.inn.line.length 1000000
 hc:dX s.inn.chunks.line.length 1000000
 hd:dX s.inn.chunks.data.length 1000000
 hb:dX s.inn.body.length 1000000
 hm:s.inn.method.length<=9223372036854775807
def pR:aB:=λ_ xs ls K=>∃(s:Ms) (qb:Bool) (ql:Int) (qf:Nat->List SV) (x:bB),xs=[.agg (bT (Aw s qb ql qf x))]/\ls=[]/\M1 s.eU qb ql qf/\gD s.inn x/\CkV s/\∀e,PS s e->K (.int .i64 (.a e)) []
theorem Kw:Ap Tryz.prog pI 39 pR:=by
 refine Bq (gh:=[(8000097,[]),(8000098,[]),(8000099,[])]) mixed D0 (Aa Yx (Aa (C5 Ang) (Aa (C5 Ans) (Al (C5 Aac) (Al (C5 Qx) (Al (C5 Ak2) Ae)))))) Tryz.func39 (by kernel_rfl) (by kernel_rfl) ?_;intro xs ls K h;unfold pR at h;obtain⟨s,qb,ql,qf,x,rfl,rfl,R,X,C,h⟩:=h;obtain⟨k,hk⟩:∃k,PS s k:=by
  by_cases g:If s
  .exact⟨0,.inl rfl,λ_=>g,λ_=>rfl⟩
  .exact⟨6,.inr rfl,λe=>absurd e (by decide),λq=>absurd q g⟩
 refine⟨_,_,h k hk,λD hD=>?_⟩;clear h;unfold bT Aw;cbv;refine⟨s.eU,qb,ql,qf,by subst hD;rfl,rfl,R,λt e iI=>?_⟩;cbv;refine⟨s.aS,s.cM,by subst hD;rfl,rfl,λr hr=>?_⟩;cbv;refine br hD (λhb=>?_) (λhb=>?_)<;>cbv
 .have hb:((((((e != 0)||!(t==s.out))||decide (s.aN<0))||decide ((t.length:Int)<s.aN))||!r)||!(x.m==s.eU.method))=true:=by subst hD;exact hb
  refine Bj hD (hk.no λO=>?_).symm;have h1:=O.enc;rw[<-iI]at h1;obtain⟨rfl,rfl⟩:=Prod.mk.inj h1;have h2:r=true:=by
   rw[hr];unfold Xb;simp[O.h0,O.h1,O.b0,O.b1]
  have h3:x.m=s.eU.method:=X.m.trans O.met;have h4:=O.s0;have h5:=O.s1;rw[h2,h3]at hb;simp at hb;omega
 have P:MsP s:=by
  have hb:((((((e != 0)||!(t==s.out))||decide (s.aN<0))||decide ((t.length:Int)<s.aN))||!r)||!(x.m==s.eU.method))=false:=by subst hD;exact hb
  simp only[QU,bne_eq_false_iff_eq,XZ,QO,QJ]at hb;obtain⟨⟨⟨⟨⟨a,b⟩,c⟩,d⟩,f⟩,g⟩:=hb;rw[hr]at f;unfold Xb at f;simp only[QE,QG]at f;subst b;exact⟨by rw[<-iI,a],by omega,by omega,f.1.1.1,f.1.1.2,f.1.2,f.2,by rw[<-X.m];exact g⟩
 clear hb hr iI;refine⟨s.inn,bB.nm D x,true,0,λ_=>[],by subst hD;rfl,rfl,rfl,by subst hD;exact X,C.hm,C.hl,C.hc,⟨XP C.hd.h (by decide)⟩,⟨XP C.hb.h (by decide)⟩,λe2 oT=>?_⟩;cbv;refine br hD (λhb=>?_) (λhb=>?_)<;>cbv
 .have hb:e2≠0:=by
   have hb:(e2 != 0)=true:=by subst hD;exact hb
   simpa using hb
  exact Bj hD (hk.no λO=>hb (oT.o.2 O.rs)).symm
 have RO:Ce s.inn:=by
  have hb:(e2 != 0)=false:=by subst hD;exact hb
  exact oT.o.1 (by simpa using hb)
 clear hb oT;have FV:BP s.cM x:=⟨P.b0,P.b1,by rw[X.bo];exact C.hb.h,by rw[X.cd];exact C.hd.h⟩;refine br hD (λhg=>?_) (λhg=>?_)<;>cbv
 .have hL:(s.inn.line.length:Int)<=s.aS:=by
   have hg:(!decide (s.aS<(x.ln.length:Int)))=true:=by subst hD;exact hg
   rw[XL,QJ,X.ln]at hg;omega
  have gV:decide (s.aS<(x.ln.length:Int))=false:=by rw[X.ln];exact UL (by omega)
  clear hg;refine⟨Aw s qb ql qf x,bB.nm D x,by subst hD;rfl,by subst hD;rfl,by subst hD;exact FV,λr1 bP=>?_⟩;cbv;have bP:r1=R8 s.cM x:=by subst hD;exact bP.h
  have f1:r1=true↔Cl s.inn s.cM:=by rw[bP];exact Gk X
  refine br2 hD (λhg=>?_) (λhg=>?_)<;>cbv
  .refine⟨Aw s qb ql qf x,by subst hD;rfl,by subst hD;rfl,λr2 bZ=>?_⟩
   cbv;have jO:s.aN=0/\r1=true:=by
    rw[QE]at hg;have h1:(s.aN==0)=true:=hg.1;have h2:(!(decide (s.aS<(x.ln.length:Int))||!r1))=true:=hg.2;rw[gV]at h2;exact⟨eq_of_beq h1,by simpa using h2⟩
   have f2:r2=true↔early s.inn:=by rw[bZ];exact Kv X
   clear hg;refine br hD (λhg=>?_) (λhg=>?_)<;>cbv
   .refine⟨Aw s qb ql qf x,by subst hD;rfl,by subst hD;rfl,λr3 yi=>?_⟩
    cbv;have f3:r3=true↔Ir s:=by rw[yi.h];exact Wk X
    have h2:r2=true:=by
     have hg:(!((decide (s.aS<(x.ln.length:Int))||!r1)||((s.aN==0)&&!r2)))=true:=by subst hD;exact hg
     rw[gV,jO.1,jO.2]at hg;simpa using hg
    have h1:=jO.2;refine br hD (λhb=>?_) (λhb=>?_)<;>cbv
    .have hb:(((decide (s.aS<(x.ln.length:Int))||!r1)||((s.aN==0)&&!r2))||!r3)=true:=by subst hD;exact hb
     rw[gV,jO.1,h1,h2]at hb;have h3:r3=false:=by simpa using hb
     exact Bj hD (hk.no λO=>by rw[f3.2 O.right]at h3;cases h3).symm
    .have hb:(((decide (s.aS<(x.ln.length:Int))||!r1)||((s.aN==0)&&!r2))||!r3)=false:=by subst hD;exact hb
     rw[gV,jO.1,h1,h2]at hb;have h3:r3=true:=by simpa using hb
     exact Bj hD (hk.o.2 (Ahl P RO hL (f1.1 h1) (λ_=>f2.1 h2) (f3.1 h3))).symm
   .have h2:r2=false:=by
     have hg:(!((decide (s.aS<(x.ln.length:Int))||!r1)||((s.aN==0)&&!r2)))=false:=by subst hD;exact hg
     rw[gV,jO.1,jO.2]at hg;simpa using hg
    refine br hD (λhb=>?_) (λhb=>?_)<;>cbv
    .exact Bj hD (hk.no λO=>by rw[f2.2 (O.xH jO.1)]at h2;cases h2).symm
    .exfalso
     have hb:(((decide (s.aS<(x.ln.length:Int))||!r1)||((s.aN==0)&&!r2))&&true)=false:=by subst hD;exact hb
     rw[gV,jO.1,jO.2,h2]at hb;cases hb
  .have hs:((s.aN==0)&&!(decide (s.aS<(x.ln.length:Int))||!r1))=false:=hg
   clear hg;refine br hD (λhg=>?_) (λhg=>?_)<;>cbv
   .refine⟨Aw s qb ql qf x,by subst hD;rfl,by subst hD;rfl,λr3 yi=>?_⟩
    cbv;have f3:r3=true↔Ir s:=by rw[yi.h];exact Wk X
    have h1:r1=true:=by
     have hg:(!((decide (s.aS<(x.ln.length:Int))||!r1)||((s.aN==0)&&false)))=true:=by subst hD;exact hg
     rw[gV]at hg;simpa using hg
    have jO:s.aN≠0:=λe=>by
     rw[gV,h1,e]at hs;cases hs
    refine br hD (λhb=>?_) (λhb=>?_)<;>cbv
    .have hb:(((decide (s.aS<(x.ln.length:Int))||!r1)||((s.aN==0)&&false))||!r3)=true:=by subst hD;exact hb
     rw[gV,h1]at hb;have h3:r3=false:=by simpa using hb
     exact Bj hD (hk.no λO=>by rw[f3.2 O.right]at h3;cases h3).symm
    .have hb:(((decide (s.aS<(x.ln.length:Int))||!r1)||((s.aN==0)&&false))||!r3)=false:=by subst hD;exact hb
     rw[gV,h1]at hb;have h3:r3=true:=by simpa using hb
     exact Bj hD (hk.o.2 (Ahl P RO hL (f1.1 h1) (λe=>absurd e jO) (f3.1 h3))).symm
   .have h1:r1=false:=by
     have hg:(!((decide (s.aS<(x.ln.length:Int))||!r1)||((s.aN==0)&&false)))=false:=by subst hD;exact hg
     rw[gV]at hg;simpa using hg
    refine br hD (λhb=>?_) (λhb=>?_)<;>cbv
    .exact Bj hD (hk.no λO=>by rw[f1.2 O.fit]at h1;cases h1).symm
    .exfalso
     have hb:(((decide (s.aS<(x.ln.length:Int))||!r1)||((s.aN==0)&&false))&&true)=false:=by subst hD;exact hb
     rw[gV,h1]at hb;simp at hb
 .have kE:¬If s:=λO=>by
   have hg:(!decide (s.aS<(x.ln.length:Int)))=false:=by subst hD;exact hg
   rw[XZ,decide_eq_true_iff,X.ln]at hg;have:=O.line;omega
  have gV:decide (s.aS<(x.ln.length:Int))=true:=by
   have hg:(!decide (s.aS<(x.ln.length:Int)))=false:=by subst hD;exact hg
   simpa using hg
  refine br2 hD (λgU=>?_) (λgU=>?_)<;>cbv
  .exfalso
   have gU:((s.aN==0)&&!(decide (s.aS<(x.ln.length:Int))&&true))=true:=gU;rw[gV]at gU;simp at gU
  refine br hD (λgA=>?_) (λgA=>?_)<;>cbv
  .exfalso
   have gA:(!((decide (s.aS<(x.ln.length:Int))&&true)||((s.aN==0)&&false)))=true:=by subst hD;exact gA
   rw[gV]at gA;simp at gA
  refine br hD (λhb=>?_) (λhb=>?_)<;>cbv
  .exact Bj hD (hk.no kE).symm
  .exfalso
   have hb:(((decide (s.aS<(x.ln.length:Int))&&true)||((s.aN==0)&&false))&&true)=false:=by subst hD;exact hb
   rw[gV]at hb;simp at hb
theorem Mt:Ap Tryz.prog pI 39 az:=by
 refine⟨Kw.1,λxs ls K h=>Kw.2 xs ls K ?_⟩;obtain⟨s,qb,ql,qf,x,hx,hl,G,h⟩:=h;obtain⟨a,b,c,d⟩:=Xu G.ok.rs;exact⟨s,qb,ql,qf,x,hx,hl,G.rq,G.x,⟨⟨a⟩,⟨b⟩,⟨XP c (by decide)⟩,⟨XP d (by decide)⟩,by rw[G.ok.met];exact G.rq.method⟩,λe he=>by have q:=he.o.2 G.ok;subst q;exact h⟩
end Go.Proofs.YtdoogdbjiijifaaGreatDoor
