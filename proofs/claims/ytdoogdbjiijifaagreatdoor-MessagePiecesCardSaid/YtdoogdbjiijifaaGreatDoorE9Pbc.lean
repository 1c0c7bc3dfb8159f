/- Lemmas of the proof; no conditions. -/
import Derived.Test.YtdoogdbjiijifaaGreatDoorE9Pbb
namespace Go.Proofs.YtdoogdbjiijifaaGreatDoor
open Go Go.Sx
set_option maxRecDepth 100000
set_option maxHeartbeats 8000000
def NW(a b:oL):Bool:=(((a.minor==b.minor)&&(a.status==b.status))&&(a.reason==b.reason))&&decide (a.fields=b.fields)
def NV(a b:Ch):Bool:=((((a.phase==b.phase)&&(a.line==b.line))&&(a.data==b.data))&&(a.left==b.left))&&decide (a.aE=b.aE)
def T3(a b:Rs):Bool:=((((((((a.method==b.method)&&(a.phase==b.phase))&&(a.infos==b.infos))&&(a.line==b.line))&&NW a.head b.head)&&(a.aD==b.aD))&&(a.body==b.body))&&(a.left==b.left))&&NV a.chunks b.chunks
theorem Abm(a:Rs):T3 a a=true:=by unfold T3 NW NV;simp
structure u7(h:oL)(mi st:Int)(re:List UInt8)(n:Int)(f:Nat->List SV):Prop where
 mi:mi=h.minor
 st:st=h.status
 re:re=h.reason
 row:A0 f n h.fields
def wB:aB:=λ_ xs ls K=>∃(a b:oL) (m1 s1 m2 s2:Int) (r1 r2:List UInt8) (b1 b2:Bool) (n1 n2:Int) (f1 f2:Nat->List SV),xs=[T5 m1 s1 r1 b1 n1 f1,T5 m2 s2 r2 b2 n2 f2]/\ls=[]/\u7 a m1 s1 r1 n1 f1/\u7 b m2 s2 r2 n2 f2/\
 ∀r,r=NW a b->K (.bool (.a r)) []
theorem Alp:Ap Tryz.prog gl 21 wB:=by
 refine Bq (gh:=[]) mixed Du (Aa Vq Ae) Tryz.func21 (by kernel_rfl) (by kernel_rfl) ?_;intro xs ls K h;unfold wB at h;obtain⟨a,b,m1,s1,m2,s2,r1,r2,b1,b2,n1,n2,f1,f2,rfl,rfl,V,W,h⟩:=h;obtain⟨k,hk⟩:∃k,k=NW a b:=⟨_,rfl⟩;refine⟨_,_,h k hk,λD hD=>?_⟩;clear h;unfold NW at hk;rw[<-V.mi,<-V.st,<-V.re,<-W.mi,<-W.st,<-W.re]at hk;unfold T5;cbv;refine⟨a.fields,b.fields,_,_,_,_,f1,f2,rfl,rfl,by subst hD;exact V.row,by subst hD;exact W.row,λz hz=>?_⟩;cbv;refine Ar hD ?_;rw[hk,<-hz];rfl
def wD:aB:=λ_ xs ls K=>∃(a b:Ch) (p1 p2 l1 l2:Int) (i1 i2 d1 d2:List UInt8) (b1 b2:Bool) (n1 n2:Int) (f1 f2:Nat->List SV),xs=[qY p1 l1 i1 d1 b1 n1 f1,qY p2 l2 i2 d2 b2 n2 f2]/\ls=[]/\i1=a.line/\d1=a.data/\fw a p1 l1 n1 f1/\i2=b.line/\d2=b.data/\fw b p2 l2 n2 f2/\
 ∀r,r=NV a b->K (.bool (.a r)) []
theorem Alq:Ap Tryz.prog gl 81 wD:=by
 refine Bq (gh:=[]) mixed Du (Aa Vq Ae) Tryz.func81 (by kernel_rfl) (by kernel_rfl) ?_;intro xs ls K h;unfold wD at h;obtain⟨a,b,p1,p2,l1,l2,i1,i2,d1,d2,b1,b2,n1,n2,f1,f2,rfl,rfl,e1,e2,V,e3,e4,W,h⟩:=h;obtain⟨k,hk⟩:∃k,k=NV a b:=⟨_,rfl⟩;refine⟨_,_,h k hk,λD hD=>?_⟩;clear h;unfold NV at hk;rw[<-V.gM,<-V.iG,<-e1,<-e2,<-W.gM,<-W.iG,<-e3,<-e4]at hk;unfold qY;cbv;refine⟨a.aE,b.aE,_,_,_,_,f1,f2,rfl,rfl,by subst hD;exact V.tr,by subst hD;exact W.tr,λz hz=>?_⟩;cbv;refine Ar hD ?_;rw[hk,<-hz];rfl
def rT:aB:=λ_ xs ls K=>∃(s t:Rs) (x y:bB),xs=[kL x,kL y]/\ls=[]/\gD s x/\gD t y/\∀r,r=T3 s t->K (.bool (.a r)) []
theorem Ai1:Ap Tryz.prog gl 26 rT:=by
 refine Bq (gh:=[]) mixed Du (Aa Alp (Aa Alq Ae)) Tryz.func26 (by kernel_rfl) (by kernel_rfl) ?_;intro xs ls K h;unfold rT at h;obtain⟨s,t,x,y,rfl,rfl,V,W,h⟩:=h;obtain⟨k,hk⟩:∃k,k=T3 s t:=⟨_,rfl⟩;refine⟨_,_,h k hk,λD hD=>?_⟩;clear h;unfold T3 at hk;rw[<-V.m,<-V.ph,<-V.inf,<-V.ln,<-V.fr,<-V.bo,<-V.lf,<-W.m,<-W.ph,<-W.inf,<-W.ln,<-W.fr,<-W.bo,<-W.lf]at hk;unfold kL;cbv;refine⟨s.head,t.head,_,_,_,_,_,_,_,_,_,_,x.ff,y.ff,rfl,rfl,by subst hD;exact⟨V.mi,V.st,V.re,V.fl⟩,by subst hD;exact⟨W.mi,W.st,W.re,W.fl⟩,λz hz=>?_⟩;cbv;refine⟨s.chunks,t.chunks,_,_,_,_,_,_,_,_,_,_,_,_,x.ctf,y.ctf,rfl,rfl,V.cl,V.cd,by subst hD;exact V.cv,W.cl,W.cd,by subst hD;exact W.cv,λz2 yR=>?_⟩;cbv;refine Ar hD ?_;rw[hk,<-hz,<-yR];rfl
theorem Ad1{P:Go.Program}{gl:List (Nat×SV)}{f:Go.FuncId}{as1 as2:List SV}{ls:List Hl}{r:SV}{aK:List Hl}(h:jS as1 as2)(c:Fb P gl f as2 ls r aK):Fb P gl f as1 ls r aK :=
 λB E w aX hw hI dT hb hg hh hr=>c B E w aX hw hI dT hb hg hh (h E w aX hr)
def wj(l:List HF)(i:Nat):List SV:=D3 (l.getD i default)
variable {f qf ff zC ctf gR:Nat->List SV}{l:List HF}{qb:Bool}{ql:Int}{r s0:Rs}{y y0 x0 x:bB}{re bo u:List UInt8}{mi wW st rC fl zA fr oJ ct qC e e':ST}{fb zD cb rK:BT}
theorem A0.total{n:Int}(R:A0 f n l):A0 (wj l) n l:=⟨R.n,λ_ _=>rfl,R.len,R.small⟩
theorem wk{n:Int}{nl:Bool}(R:A0 f n l):aM (.sl (.a nl) (.a n) 2 f) (.sl (.a nl) (.a n) 2 (wj l)):=by
 refine .sl rfl rfl λi hi=>?_;have hi:(i:Int)<n:=hi;rw[R.f i (by have:=R.n;omega)];rfl
def qg(n:Int):List HF->Int->Bool
 | [],c=>decide (3000<c)
 |x :: l,c=>if decide (3000<(x.name.length:Int))||decide (3000<(x.value.length:Int)) then true else qg n l (c+x.name.length+x.value.length)
def DZ(l:List HF):Bool:=if decide (60<(l.length:Int)) then true else qg 0 l 0
structure Aou(l:List HF)(r:Bool):Prop where
 h:r=DZ l
def pP:aB:=λ_ xs ls K=>∃(l:List HF) (nl:Bool) (n:Int) (f:Nat->List SV),xs=[.sl (.a nl) (.a n) 2 f]/\ls=[]/\A0 f n l/\(∀j,f j=D3 (l.getD j default))/\∀r,Aou l r->K (.bool (.a r)) []
structure FdC(c C:Int)(x:HF):Prop where
 e:c=C+x.name.length+x.value.length
 n:x.name.length<=3000
 v:x.value.length<=3000
structure FdL(l:List HF)(k:Bool)(i:Nat)(I C:Int)(m:Nat):Prop where
 cG:AtR l i I m
 le:l.length<=60
 c0:0<=C
 cc:C<=6000 * i
 k:k=qg 0 (l.drop i) C
def fmJ(l:List HF)(k nl:Bool)(n:Int)(f:Nat->List SV)(m:Nat)(vs:List (Option SV))(hp:List Hl):Prop :=
 ∃(i:Nat) (I C:Int),vs=[some (.sl (.a nl) (.a n) 2 f),some (.int .i64 (.a C)),some (.int .i64 (.a I))]/\hp=[]/\FdL l k i I C m
theorem Vo:Ap Tryz.prog gl 88 pP:=by
 refine Bq (gh:=[]) mixed SB Ae Tryz.func88 (by kernel_rfl) (by kernel_rfl) ?_;intro xs ls K h;unfold pP at h;obtain⟨l,nl,n,f,rfl,rfl,R,hT,h⟩:=h;obtain⟨k,hk⟩:∃k,k=DZ l:=⟨_,rfl⟩;refine⟨_,_,h k ⟨hk⟩,λD hD=>?_⟩;clear h;unfold DZ at hk;cbv;refine br hD (λh=>?_) (λh=>?_)<;>cbv
 .have h:decide (60<n)=true:=by subst hD;exact h
  rw[R.n]at h;rw[QC h]at hk;exact Ar hD hk.symm
 have h:decide (60<n)=false:=by subst hD;exact h
 rw[R.n]at h;rw[h]at hk;have hk:k=qg 0 l 0:=hk;have hl:l.length<=60:=by have:=XA h;omega
 clear h;obtain⟨J,hJ⟩:∃J,J=fmJ l k nl n f:=⟨_,rfl⟩;refine⟨[0,3,4],J,⟨rfl,l.length,?_⟩,?_⟩
 .rw[hJ]
  subst hD;exact⟨0,0,0,rfl,rfl,⟨AtR.zero R.len,hl,by omega,by omega,hk⟩⟩
 clear hk hl;intro m vs hp hv;rw[hJ]at hv;obtain⟨i,I,C,rfl,rfl,V⟩:=hv;cbv;refine br hD (λh=>?_) (λh=>?_)<;>cbv
 .have aC:=V.cG.lt R.n (QT (p:=I<n) h)
  clear h;refine⟨V.cG.lY hD R.n aC,λj hj=>?_⟩;obtain rfl:=V.cG.j hD hj;clear hj;obtain⟨x,hx⟩:∃x,x=l.getD j default:=⟨_,rfl⟩;have hk:=V.k;rw[Hg (d:=default) aC,<-hx,qg]at hk;have e:=hT j;rw[<-hx]at e;cbv;rw[e];cbv;refine⟨λ_=>V.cG.lY hD R.n aC,λj2 rH=>?_⟩;have rH:(decide (3000<(x.name.length:Int)))=false->j2=j:=λh0=>V.cG.j hD (rH (by subst hD;show (!decide (3000<(x.name.length:Int)))=true;rw[h0];rfl));obtain⟨y,hy⟩:∃y,y=l.getD j2 default:=⟨_,rfl⟩;have e2:=hT j2;rw[<-hy]at e2;cbv;rw[e2];cbv;have dE:(decide (3000<(x.name.length:Int))||decide (3000<(y.value.length:Int)))=(decide (3000<(x.name.length:Int))||decide (3000<(x.value.length:Int))):=by
   cases h0:decide (3000<(x.name.length:Int)) with
   |true=>rfl
   |false=>rw[hy,rH h0,<-hx]
  refine br hD (λh=>?_) (λh=>?_)<;>cbv
  .have h:(decide (3000<(x.name.length:Int))||decide (3000<(y.value.length:Int)))=true:=by subst hD;exact h
   rw[dE]at h;rw[QC h]at hk;exact Ar hD hk.symm
  have h:(decide (3000<(x.name.length:Int))||decide (3000<(y.value.length:Int)))=false:=by subst hD;exact h
  rw[dE]at h;rw[h]at hk;have hk:k=qg 0 (l.drop (j+1)) (C+x.name.length+x.value.length):=hk;obtain⟨c,hc,hk⟩:∃c,FdC c C x/\k=qg 0 (l.drop (j+1)) c:=by
   rw[QU,QJ,QJ]at h;have h1:¬3000<(x.name.length:Int):=h.1;have h2:¬3000<(x.value.length:Int):=h.2;exact⟨_,⟨rfl,by omega,by omega⟩,hk⟩
  clear h dE rH hy e2;refine⟨V.cG.lY hD R.n aC,λj1 h1=>?_⟩;obtain rfl:=V.cG.j hD h1;clear h1;cbv;rw[e];cbv;refine⟨V.cG.lY hD R.n aC,λj1 h1=>?_⟩;obtain rfl:=V.cG.j hD h1;clear h1;cbv;rw[e];cbv;refine⟨l.length-(j1+1),(V.cG.step hD aC).1,?_⟩;rw[hJ];have nA:=V.c0;have lH:=V.cc;have hle:=V.le;have hw:IntKind.i64.wrap (IntKind.i64.wrap (C+(x.name.length:Int))+(x.value.length:Int))=c:=by
   have:=hc.e;have:=hc.n;have:=hc.v;rw[wrap64 (n:=C+(x.name.length:Int)) (by omega) (by omega),wrap64 (by omega) (by omega)];exact hc.e.symm
  subst hD;refine⟨j1+1,_,_,rfl,rfl,⟨(V.cG.step rfl aC).2,hle,?_,?_,?_⟩⟩
  .show 0<=IntKind.i64.wrap (IntKind.i64.wrap (C+(x.name.length:Int))+(x.value.length:Int))
   rw[hw,hc.e];omega
  .show IntKind.i64.wrap (IntKind.i64.wrap (C+(x.name.length:Int))+(x.value.length:Int))<=_
   have:=hc.e;have:=hc.n;have:=hc.v;rw[hw,hc.e];omega
  .show k=qg 0 _ (IntKind.i64.wrap (IntKind.i64.wrap (C+(x.name.length:Int))+(x.value.length:Int)))
   rw[hw];exact hk
 .have hi:=V.cG.eq R.n (XA (p:=I<n) h)
  have hk:=V.k;rw[hi,XR,qg]at hk;exact Ar hD hk.symm
def FK(r:Rq):Bool:=((((decide (100<(r.method.length:Int))||decide (600<(r.target.length:Int)))||decide (200<(r.host.length:Int)))||decide (1500<(r.body.length:Int)))||DZ r.fields)
structure u0(r:Rq)(b:Bool):Prop where
 h:b=FK r
def zQ:aB:=λ_ xs ls K=>∃(r:Rq) (nl:Bool) (n:Int) (f:Nat->List SV),xs=[.agg [.int .i64 (.a r.id),.str r.method,.str r.target,.str r.host,.sl (.a nl) (.a n) 2 f,.str r.body]]/\ls=[]/\M1 r nl n f/\∀b,u0 r b->K (.bool (.a b)) []
def xU:aB:=λ_ xs ls K=>∃(l:List HF) (nl:Bool) (n:Int) (f:Nat->List SV),xs=[.sl (.a nl) (.a n) 2 f]/\ls=[]/\A0 f n l/\∀r,Aou l r->K (.bool (.a r)) []
theorem Sb:Ap Tryz.prog gl 88 xU:=by
 refine⟨Vo.1,λxs ls K h=>?_⟩;obtain⟨l,nl,n,f,rfl,rfl,R,h⟩:=h;obtain⟨v,aK,hK,hc⟩:=Vo.2 _ [] K ⟨l,nl,n,wj l,rfl,rfl,R.total,λ_=>rfl,h⟩;exact⟨v,aK,hK,Ad1 (jS.cons (wk R) jS.nil) hc⟩
structure VB(k c:Bool)(me ta ho bo:List UInt8):Prop where
 h:k=((((decide (100<(me.length:Int))||decide (600<(ta.length:Int)))||decide (200<(ho.length:Int)))||decide (1500<(bo.length:Int)))||c)
theorem jv:Ap Tryz.prog gl 29 zQ:=by
 refine Bq (gh:=[]) mixed SB (Aa Sb Ae) Tryz.func29 (by kernel_rfl) (by kernel_rfl) ?_;intro xs ls K h;unfold zQ at h;obtain⟨r,nl,n,f,rfl,rfl,R,h⟩:=h;obtain⟨id,me,ta,ho,fs,bo⟩:=r;have hR:A0 f n fs:=R.row;obtain⟨c,lH⟩:∃c,Aou fs c:=⟨_,⟨rfl⟩⟩;obtain⟨k,hk,bD⟩:∃k,u0 ⟨id,me,ta,ho,fs,bo⟩ k/\VB k c me ta ho bo:=⟨_,⟨rfl⟩,⟨by rw[lH.h];rfl⟩⟩;have h:=h k hk;clear hk R;refine⟨_,_,h,λD hD=>?_⟩;cbv;refine⟨fs,_,_,f,rfl,rfl,by subst hD;exact hR,λz hz=>?_⟩;cbv;have hz:z=c:=hz.h.trans lH.h.symm;subst hz;exact Ar hD bD.h.symm
set_option maxHeartbeats 16000000
structure GrK(s:Ms)(k:Bool):Prop where
 h:k=false->CkV s
def Kn(s:Ms):Bool:=(((((((((decide (3000<(s.out.length:Int))||FK s.eU)||decide (1500<(s.inn.line.length:Int)))||decide (1500<(s.inn.body.length:Int)))||decide (1500<(s.inn.chunks.data.length:Int)))||decide (1500<(s.inn.chunks.line.length:Int)))||decide (100<(s.inn.method.length:Int)))||decide (1500<(s.inn.head.reason.length:Int)))||DZ s.inn.head.fields)||DZ s.inn.chunks.aE)
structure GrE(s:Ms)(k:Bool):Prop where
 h:k=Kn s
def wN:aB:=λ_ xs ls K=>∃(s:Ms) (qb:Bool) (ql:Int) (qf:Nat->List SV) (x:bB),xs=[.agg (bT (Aw s qb ql qf x))]/\ls=[]/\M1 s.eU qb ql qf/\gD s.inn x/\s.inn.method.length<=9223372036854775807/\∀k,GrE s k->K (.bool (.a k)) []
theorem Anl{s:Ms}(hm:s.inn.method.length<=9223372036854775807):GrK s (Kn s):=by
 refine⟨λh=>?_⟩;unfold Kn at h;simp only[QU,QJ]at h;obtain⟨⟨⟨⟨⟨⟨⟨⟨⟨a,b⟩,c⟩,d⟩,e⟩,f⟩,g⟩,i⟩,j⟩,k⟩:=h;exact⟨⟨by omega⟩,⟨by omega⟩,⟨by omega⟩,⟨by omega⟩,hm⟩
theorem Ac4:Ap Tryz.prog gl 34 wN:=by
 refine Bq (gh:=[]) mixed D0 (Aa jv (Aa Sb Ae)) Tryz.func34 (by kernel_rfl) (by kernel_rfl) ?_;intro xs ls K h;unfold wN at h;obtain⟨s,qb,ql,qf,x,rfl,rfl,R,X,hm,h⟩:=h;obtain⟨k,hk⟩:∃k,k=Kn s:=⟨_,rfl⟩;have hK:=h k ⟨hk⟩;unfold Kn at hk;rw[<-X.ln,<-X.bo,<-X.cd,<-X.cl,<-X.m,<-X.re]at hk;refine⟨_,_,hK,λD hD=>?_⟩;clear hK h;unfold bT Aw;cbv;refine⟨s.eU,qb,ql,qf,by subst hD;rfl,rfl,R,λa ha=>?_⟩;cbv;refine⟨s.inn.head.fields,_,_,x.ff,rfl,rfl,by subst hD;exact X.fl,λb hb=>?_⟩;cbv;refine⟨s.inn.chunks.aE,_,_,x.ctf,rfl,rfl,by subst hD;exact X.cv.tr,λc hc=>?_⟩;cbv;refine Ar hD ?_;rw[hk,<-ha.h,<-hb.h,<-hc.h];rfl
def ae:aB:=λ_ xs ls K=>∃(s:Ms) (qb:Bool) (ql:Int) (qf:Nat->List SV) (x:bB),xs=[.agg (bT (Aw s qb ql qf x))]/\ls=[]/\M1 s.eU qb ql qf/\gD s.inn x/\s.inn.method.length<=9223372036854775807/\Kn s=true/\K (.bool (.l true)) []
theorem Aj9:Ap Tryz.prog gl 34 ae:=by
 refine Ahw Ac4 λxs ls K h=>?_;obtain⟨s,qb,ql,qf,x,h1,h2,R,X,hm,hg,h⟩:=h;exact⟨s,qb,ql,qf,x,h1,h2,R,X,hm,λk hk=>⟨.bool (.l true),Dh (by show k=true;rw[hk.h,hg]),h⟩⟩
structure ByU(b:Int)(c:UInt8):Prop where
 h:b=(c.toNat:Int)
structure pz(s0:Rs)(x0:bB)(s:Ms)(x:bB):Prop where
 q:cZ s0 x0 s.inn x
 b0:0<=s.cM
 b1:s.cM<=65536
def qp:aB:=λ_ xs ls K=>∃(s0:Rs) (x0:bB) (s:Ms) (qb:Bool) (ql:Int) (qf:Nat->List SV) (x:bB) (b:Int) (c:UInt8),
 xs=[.ptr 0 0,.int .u8 (.a b)]/\ls=[.aF 144 (bT (Aw s qb ql qf x))]/\pz s0 x0 s x/\ByU b c/\
 ∀y m,cZ s0 x0 (Fh s c).inn y->jJ m (Aw (Fh s c) qb ql qf y)->K (.aI []) [.aF 144 (bT m)]
structure rL(s t:Ms):Prop where
 h:s=t
theorem D4{t:Ms}{m0:fG}(T:Twin r y y0)(hm:jJ m0 (Aw t qb ql qf y0)):
  Fin (.aI []) (.aI []) [.aF 144 (bT (Aw t qb ql qf y))] [.aF 144 (bT m0)]:=by
 rw[hm.h];exact Anq (aM.refl _) (Ya (c:=Aw t qb ql qf y) T)
theorem xg:Ap Tryz.prog gl 295 qp:=by
 refine Bu (gh:=[(8000097,[])]) mixed D0 (Al Ph (Al Ah1 (Al Aac (Al Aa7 Ae)))) Tryz.func295 (by kernel_rfl) (by kernel_rfl) ?_;intro xs ls K h;unfold qp at h;obtain⟨s0,x0,s,qb,ql,qf,x,b,c,rfl,rfl,V,B,h⟩:=h;obtain⟨t,ht⟩:∃t,rL t (Fh s c):=⟨_,⟨rfl⟩⟩;rw[<-ht.h]at h;obtain⟨y0,Q0⟩:∃y0,cZ s0 x0 t.inn y0:=by rw[ht.h];exact Amn c V.q
 obtain⟨m0,fZ⟩:∃m0,jJ m0 (Aw t qb ql qf y0):=⟨_,⟨rfl⟩⟩;have h:=h y0 m0 Q0 fZ;refine⟨_,_,h,λD hD=>?_⟩;clear h;unfold bT Aw;cbv;refine br hD (λhb=>?_) (λhb=>?_)<;>cbv
 .refine⟨Aw s qb ql qf x,11,by subst hD;rfl,by subst hD;rfl,?_⟩
  cbv;have e:t=broken s 11:=by
   have hb:((x.ph==0)&&decide (s.aS<=(x.ln.length:Int)))=true:=by subst hD;exact hb
   rw[QE,QO,decide_eq_true_iff,V.q.g.v.ph,V.q.g.v.ln]at hb;rw[ht.h];unfold Fh;rw[QC hb]
  subst e hD;exact D4 (t:=broken s 11) (V.q.eM Q0) fZ
 .have hb:¬(s.inn.phase=0/\s.aS<=(s.inn.line.length:Int)):=by
   have hb:((x.ph==0)&&decide (s.aS<=(x.ln.length:Int)))=false:=by subst hD;exact hb
   rw[<-V.q.g.v.ph,<-V.q.g.v.ln];intro g;rw[beq_iff_eq.mpr g.1,YI g.2]at hb;cases hb
  intro g hg;cbv;have hgb:Sj g ([c].map λb=>[.int .u8 (.a (b.toNat:Int))]):=by
   have e:([c].map λb=>[SV.int .u8 (.a (b.toNat:Int))])=[[SV.int .u8 (.a b)]]:=by rw[B.h];rfl
   rw[e];subst hD;exact hg
  clear hg;refine⟨s.inn,bB.nm D x,[c],false,1,g,by subst hD;rfl,rfl,by subst hD;exact V.q.g.v,V.q.g.ok,V.q.g.met,by subst hD;exact Ae8 hgb rfl,by simp,λh=>(by subst hD;cases h),λk hk=>⟨λbA=>?_,λhe y u W N hu=>?_⟩⟩<;>cbv
  .clear hgb
   refine br hD (λh6=>?_) (λh6=>?_)<;>cbv
   .refine⟨Aw s qb ql qf x,10,by subst hD;rfl,by subst hD;rfl,?_⟩
    cbv;have e:t=broken s 10:=by
     have h6:(k.2.2==6)=true:=by subst hD;exact h6
     rw[ht.h];unfold Fh;rw[QA hb,<-hk,QC (eq_of_beq h6)]
    subst e hD;exact D4 (t:=broken s 10) (V.q.eM Q0) fZ
   .have h6:¬k.2.2=6:=by
     have h6:(k.2.2==6)=false:=by subst hD;exact h6
     intro e;rw[e]at h6;cases h6
    have h0:(k.2.2 != 0)=true:=by simpa using bA
    refine br hD (λhg=>?_) (λhg=>?_)<;>cbv
    .exfalso
     have hg:(!(k.2.2 != 0))=true:=by subst hD;exact hg
     rw[h0]at hg;cases hg
    .clear hg
     refine br hD (λhg=>?_) (λhg=>?_)<;>cbv
     .refine⟨Aw s qb ql qf x,11,by subst hD;rfl,by subst hD;rfl,?_⟩
      cbv;have e:t=broken s 11:=by
       rw[ht.h];unfold Fh;rw[QA hb,<-hk,QA h6,QC (.inl (by simpa using bA))]
      subst e hD;exact D4 (t:=broken s 11) (V.q.eM Q0) fZ
     .exfalso
      have hg:((k.2.2 != 0)&&true)=false:=by subst hD;exact hg
      rw[h0]at hg;cases hg
  .clear hgb
   have Q:cZ s0 x0 k.1 y:=by
    have N:pK s.inn k.1 y x:=by subst hD;exact N
    rw[hk]at he W N ⊢;exact V.q.step he W N
   refine br hD (λh6=>?_) (λh6=>?_)<;>cbv
   .exfalso
    have h6:((0:Int)==6)=true:=by subst hD;exact h6
    cases h6
   clear h6;refine br hD (λhg=>?_) (λhg=>?_)<;>cbv
   .clear hg
    refine⟨Aw s qb ql qf x,bB.nm D y,by subst hD;rfl,by subst hD;rfl,by subst hD;exact Q.g.z8 V.b0 V.b1,λr hr=>?_⟩;cbv;refine br hD (λhg=>?_) (λhg=>?_)<;>cbv
    .have e:t=broken s 11:=by
      have hg:(((0:Int) != 0)||!r)=true:=by subst hD;exact hg
      have qM:r=false:=by cases r with
       |true=>cases hg
       |false=>rfl
      have hf:¬Cl k.1 s.cM:=by
       have bP:r=R8 s.cM y:=by subst hD;exact hr.h
       rw[<-Gk W,<-bP,qM];simp
      rw[ht.h];unfold Fh;rw[QA hb,<-hk,QA (by rw[he];decide),QC (.inr hf)]
     refine⟨Aw s qb ql qf x,11,by subst hD;rfl,by subst hD;rfl,?_⟩;cbv;subst e hD;exact D4 (t:=broken s 11) (V.q.eM Q0) fZ
    .have e:t=Bw s k.1:=by
      have hg:(((0:Int) != 0)||!r)=false:=by subst hD;exact hg
      have qM:r=true:=by cases r with
       |true=>rfl
       |false=>cases hg
      have hf:Cl k.1 s.cM:=by
       have bP:r=R8 s.cM y:=by subst hD;exact hr.h
       rw[<-Gk W,<-bP,qM]
      rw[ht.h];unfold Fh;rw[QA hb,<-hk,QA (by rw[he];decide),QA (λg=>g.elim (λg=>g he) (λg=>g hf))]
     refine⟨Aw s qb ql qf x,bB.nm D y,by subst hD;rfl,by subst hD;rfl,λc' lI=>?_⟩;cbv;have lI:jJ c' (Gc (Aw s qb ql qf x) y):=by subst hD;exact lI
     have hq:Gc (Aw s qb ql qf x) y=Aw (Bw s k.1) qb ql qf y:=by
      unfold Gc Bw Aw;rw[<-W.ph]
      by_cases g:y.ph=2
      .rw[QC (by rw[g];rfl)];simp only[QC g]
      .rw[QA (by simpa using g)];simp only[QA g]
     rw[hq]at lI;obtain⟨rfl⟩:=lI;subst e hD;exact D4 (t:=Bw s k.1) (Q.eM Q0) fZ
   .exfalso
    have hg:(!((0:Int) != 0))=false:=by subst hD;exact hg
    cases hg
set_option maxHeartbeats 8000000
def MX(s:Rs):Int×Int:=if s.phase=2 then (2,0) else if s.phase=1/\s.aD=3 then (2,0) else (s.phase,10)
def an:aB:=λ_ xs ls K=>∃(s:Rs) (x:bB),xs=[kL x]/\ls=[]/\gD s x/\Ce s/\s.method.length<=9223372036854775807/\
 ∀p e,(p,e)=MX s->K (.aI [kL { x with ph:=p },.int .i64 (.a e)]) []
theorem Af2{m ln cl cd:List UInt8}{ph eW inf uD lf gK cp zH cf zI:ST}
  (h1:ph.den=eW.den) (h2:inf.den=uD.den) (h3:mi.den=wW.den) (h4:st.den=rC.den) (h5:aM (.sl fb fl 2 ff) (.sl zD zA 2 zC)) (h6:fr.den=oJ.den) (h7:lf.den=gK.den) (h8:cp.den=zH.den) (h9:cf.den=zI.den) (kC:aM (.sl cb ct 2 ctf) (.sl rK qC 2 gR)) (od:e.den=e'.den):
  Fin (.aI [.agg [.str m,.int .i64 ph,.int .i64 inf,.str ln,.int .i64 mi,.int .i64 st,.str re,.sl fb fl 2 ff,.int .i64 fr,.str bo,.int .i64 lf,.int .i64 cp,.str cl,.str cd,.int .i64 cf,.sl cb ct 2 ctf],.int .i64 e])
   (.aI [.agg [.str m,.int .i64 eW,.int .i64 uD,.str ln,.int .i64 wW,.int .i64 rC,.str re,.sl zD zA 2 zC,.int .i64 oJ,.str bo,.int .i64 gK,.int .i64 zH,.str cl,.str cd,.int .i64 zI,.sl rK qC 2 gR],.int .i64 e']) [] [] :=
 Cm (.aI (.cons (aM.agg (.cons (Cp _) (.cons (Af h1) (.cons (Af h2) (.cons (Cp _) (.cons (Af h3) (.cons (Af h4) (.cons (Cp _) (.cons h5 (.cons (Af h6) (.cons (Cp _) (.cons (Af h7) (.cons (Af h8) (.cons (Cp _) (.cons (Cp _) (.cons (Af h9) (.cons kC .nil))))))))))))))))) (.cons (Af od) .nil)))
theorem AH:Ap Tryz.prog gl 24 an:=by
 refine Bq (gh:=[]) mixed Du (Aa Tl Ae) Tryz.func24 (by kernel_rfl) (by kernel_rfl) ?_;intro xs ls K h;unfold an at h;obtain⟨s,x,rfl,rfl,V,O,hm,h⟩:=h;obtain⟨p,e,hk⟩:∃p e,(p,e)=MX s:=⟨_,_,rfl⟩;have h:=h p e hk;refine⟨_,_,h,λD hD=>?_⟩;clear h;have eB:x.ph=s.phase:=V.ph;have cI:x.fr=s.aD:=V.fr;unfold MX at hk;rw[<-eB,<-cI]at hk;obtain⟨m,ph,inf,ln,mi,st,re,fb,fl,ff,fr,bo,lf,cp,cl,cd,cf,cb,ct,ctf⟩:=x;simp only at hk;clear eB cI;unfold kL;cbv;refine⟨s,bB.nm D ⟨m,ph,inf,ln,mi,st,re,fb,fl,ff,fr,bo,lf,cp,cl,cd,cf,cb,ct,ctf⟩,rfl,rfl,by subst hD;exact V,O,hm,?_⟩;cbv;refine br hD (λhb=>?_) (λhb=>?_)<;>cbv
 .exfalso
  have hb:(!true)=true:=by subst hD;exact hb
  cases hb
 clear hb;refine br hD (λhb=>?_) (λhb=>?_)<;>cbv
 .have hb:((ph==1)&&(fr==3))=true:=by subst hD;exact hb
  rw[QE,QO,QO]at hb;rw[QA (by omega),QC hb]at hk;simp only[Prod.mk.injEq]at hk;obtain⟨rfl,rfl⟩:=hk;subst hD;exact Af2 rfl rfl rfl rfl (aM.refl _) rfl rfl rfl rfl (aM.refl _) rfl
 have lU:¬(ph=1/\fr=3):=by
  have hb:((ph==1)&&(fr==3))=false:=by subst hD;exact hb
  rintro⟨rfl,rfl⟩;cases hb
 clear hb;refine br hD (λhb=>?_) (λhb=>?_)<;>cbv
 .have hb:(ph != 2)=true:=by subst hD;exact hb
  rw[QA (by simpa using hb),QA lU]at hk;simp only[Prod.mk.injEq]at hk;obtain⟨rfl,rfl⟩:=hk;subst hD;exact Af2 rfl rfl rfl rfl (aM.refl _) rfl rfl rfl rfl (aM.refl _) rfl
 .have hb:(ph != 2)=false:=by subst hD;exact hb
  have hb:ph=2:=by simpa using hb
  rw[QC hb]at hk;simp only[Prod.mk.injEq]at hk;obtain⟨rfl,rfl⟩:=hk;subst hD;exact Af2 (by exact hb) rfl rfl rfl (aM.refl _) rfl rfl rfl rfl (aM.refl _) rfl
def RV:List UInt8:=[99,111,110,110,101,99,116,105,111,110]
def Ae1:List UInt8:=[99,108,111,115,101]
def Als:List UInt8:=[107,101,101,112,45,97,108,105,118,101]
def Ru(h:oL)(fr:Int):Bool :=
 (((Cc (Ik h.fields RV)).isSome&&(fr != 3))&&!((Cc (Ik h.fields RV)).getD []).contains Ae1)&&((h.minor==1)||((Cc (Ik h.fields RV)).getD []).contains Als)
def ND(mi st:Int)(re:List UInt8)(fb:Bool)(fl:Int)(ff:Nat->List SV)(fr:Int)(bo:List UInt8)(cb:Bool)(ct:Int)(ctf:Nat->List SV)(kp:Bool):SV :=
 .agg [.int .i64 (.a mi),.int .i64 (.a st),.str re,.sl (.a fb) (.a fl) 2 ff,.int .i64 (.a fr),.str bo,.sl (.a cb) (.a ct) 2 ctf,.bool (.a kp)]
def wE:aB:=λ_ xs ls K=>∃(s:Rs) (x:bB),xs=[kL x]/\ls=[]/\gD s x/\Ce s/\s.method.length<=9223372036854775807/\
 (s.phase≠2->K (.aI [ND 0 0 [] true 0 (λ_=>[]) 0 [] true 0 (λ_=>[]) false,.int .i64 (.a 9)]) [])/\
 (s.phase=2->∀bo cb ct ctf kp,kp=Ru s.head s.aD->(s.aD=2->bo=x.cd/\cb=x.cb/\ct=x.ct/\ctf=x.ctf)->(s.aD≠2->bo=x.bo/\cb=true/\ct=0/\ctf=λ_=>[])->
  K (.aI [ND x.mi x.st x.re x.fb x.fl x.ff x.fr bo cb ct ctf kp,.int .i64 (.a 0)]) [])
theorem Af1{kp GC:BT}
  (h3:mi.den=wW.den) (h4:st.den=rC.den) (h5:aM (.sl fb fl 2 ff) (.sl zD zA 2 zC)) (h6:fr.den=oJ.den) (kC:aM (.sl cb ct 2 ctf) (.sl rK qC 2 gR)) (KF:kp.den=GC.den) (od:e.den=e'.den):
  Fin (.aI [.agg [.int .i64 mi,.int .i64 st,.str re,.sl fb fl 2 ff,.int .i64 fr,.str bo,.sl cb ct 2 ctf,.bool kp],.int .i64 e])
   (.aI [.agg [.int .i64 wW,.int .i64 rC,.str re,.sl zD zA 2 zC,.int .i64 oJ,.str bo,.sl rK qC 2 gR,.bool GC],.int .i64 e']) [] [] :=
 Cm (.aI (.cons (aM.agg (.cons (Af h3) (.cons (Af h4) (.cons (Cp _) (.cons h5 (.cons (Af h6) (.cons (Cp _) (.cons kC (.cons (Dh KF) .nil))))))))) (.cons (Af od) .nil)))
theorem ju:Ap Tryz.prog gl 25 wE:=by
 refine Bq (gh:=[]) mixed Du (Aa Tl (Aa Tk (Aa An8 Ae))) Tryz.func25 (by kernel_rfl) (by kernel_rfl) ?_;intro xs ls K h;unfold wE at h;obtain⟨s,x,rfl,rfl,V,O,hm,h9,h0⟩:=h;obtain⟨kp,gn⟩:∃kp,kp=Ru s.head s.aD:=⟨_,rfl⟩;have eB:x.ph=s.phase:=V.ph;have cI:x.fr=s.aD:=V.fr;have yw:x.mi=s.head.minor:=V.mi;obtain⟨r,bP,bZ,yi,hK⟩:∃r,(s.phase≠2->r=.aI [ND 0 0 [] true 0 (λ_=>[]) 0 [] true 0 (λ_=>[]) false,.int .i64 (.a 9)])/\
   (s.phase=2->s.aD=2->r=.aI [ND x.mi x.st x.re x.fb x.fl x.ff x.fr x.cd x.cb x.ct x.ctf kp,.int .i64 (.a 0)])/\
   (s.phase=2->s.aD≠2->r=.aI [ND x.mi x.st x.re x.fb x.fl x.ff x.fr x.bo true 0 (λ_=>[]) kp,.int .i64 (.a 0)])/\K r []:=by
  by_cases h2:s.phase=2
  .by_cases h3:s.aD=2
   .exact⟨_,λh=>absurd h2 h,λ_ _=>rfl,λ_ h=>absurd h3 h,h0 h2 _ _ _ _ _ gn (λ_=>⟨rfl,rfl,rfl,rfl⟩) (λh=>absurd h3 h)⟩
   .exact⟨_,λh=>absurd h2 h,λ_ h=>absurd h h3,λ_ _=>rfl,h0 h2 _ _ _ _ _ gn (λh=>absurd h h3) (λ_=>⟨rfl,rfl,rfl,rfl⟩)⟩
  .exact⟨_,λ_=>rfl,λh=>absurd h h2,λh=>absurd h h2,h9 h2⟩
 refine⟨_,_,hK,λD hD=>?_⟩;clear hK h9 h0;obtain⟨m,ph,inf,ln,mi,st,re,fb,fl,ff,fr,bo,lf,cp,cl,cd,cf,cb,ct,ctf⟩:=x;simp only at eB cI yw;unfold kL;cbv;refine⟨s,bB.nm D ⟨m,ph,inf,ln,mi,st,re,fb,fl,ff,fr,bo,lf,cp,cl,cd,cf,cb,ct,ctf⟩,rfl,rfl,by subst hD;exact V,O,hm,?_⟩;cbv;refine br hD (λhb=>?_) (λhb=>?_)<;>cbv
 .exfalso
  have hb:(!true)=true:=by subst hD;exact hb
  cases hb
 clear hb;refine br hD (λhb=>?_) (λhb=>?_)<;>cbv
 .have hb:(ph != 2)=true:=by subst hD;exact hb
  rw[bP (by rw[<-eB];simpa using hb)];subst hD;exact Af1 rfl rfl (aM.refl _) rfl (aM.refl _) rfl rfl
 have pU:s.phase=2:=by
  have hb:(ph != 2)=false:=by subst hD;exact hb
  rw[<-eB];simpa using hb
 clear hb;refine⟨s.head.fields,_,_,ff,RV,rfl,rfl,by subst hD;exact V.fl,by decide,λout th ok g n' b hv G=>?_⟩;cbv;have nc:kp=(((ok&&(fr != 3))&&!out.contains Ae1)&&((mi==1)||out.contains Als)):=by
  rw[gn,cI,yw,hv.eo,hv.ek];rfl
 clear gn;refine⟨out,Ae1,_,_,g,rfl,rfl,by subst hD;exact G.row,λc1 ep=>?_⟩;cbv;rw[<-ep]at nc;refine⟨out,Als,_,_,g,rfl,rfl,by subst hD;exact G.row,λc2 gC=>?_⟩;cbv;rw[<-gC]at nc;refine br hD (λhb=>?_) (λhb=>?_)<;>cbv
 .have hb:(fr==2)=true:=by subst hD;exact hb
  rw[bZ pU (by rw[<-cI];simpa using hb)];subst hD;exact Af1 rfl rfl (aM.refl _) rfl (aM.refl _) (by exact nc.symm) rfl
 .have hb:(fr==2)=false:=by subst hD;exact hb
  rw[yi pU (by rw[<-cI];simpa using hb)];subst hD;exact Af1 rfl rfl (aM.refl _) rfl (aM.refl _) (by exact nc.symm) rfl
set_option maxHeartbeats 16000000
theorem cZ.KQ{t:Rs}(Q:cZ s0 x0 r x)(h:Vs r=some t):cZ s0 x0 t { x with ph:=2 }:=by
 unfold Vs at h
 split at h
 .rename_i g
  cases h;have:({ x with ph:=2 }:bB)=x:=by
   have:=Q.g.v.ph;rw[g]at this;obtain⟨m,ph,inf,ln,mi,st,re,fb,fl,ff,fr,bo,lf,cp,cl,cd,cf,cb,ct,ctf⟩:=x;simp only at this;subst this;rfl
  rw[this];exact Q
 split at h
 .rename_i g0 g
  cases h;have O:Ce { r with phase:=2 }:=(Ah3 (t:={ r with phase:=2 }) Q.g.ok (by unfold Vs;rw[QA g0,QC g])).1;obtain⟨a1,a2,a3,a4,a5,a6,a7,a8,a9,xK,xJ,a12,vG,rB⟩:=Q.g.v;refine⟨⟨⟨a1,rfl,a3,a4,a5,a6,a7,a8,a9,xK,xJ,a12,vG,rB⟩,O,Q.g.met,Q.g.fn,Q.g.tn,Q.g.bd⟩,⟨?_,Q.n.c⟩,λh=>⟨by show (2:Int)≠0;decide,(Q.a h).2⟩,Q.c⟩;show x.fb=if (2:Int)≠0/\s0.phase=0 then r.head.fields.isEmpty else x0.fb
  rw[Q.n.f]
  by_cases z:s0.phase=0
  .rw[QC ⟨by rw[g.1];decide,z⟩,QC ⟨by decide,z⟩]
  .rw[QA (λh=>z h.2),QA (λh=>z h.2)]
 .cases h
theorem Y1{s:Ms}(Q:cZ s0 x0 s.inn x):∃y,cZ s0 x0 (C8 s).inn y:=by
 unfold C8
 split
 .exact⟨x,Q⟩
 split
 .rename_i r hr
  exact⟨_,Q.KQ hr⟩
 split
 .exact⟨x,Q⟩
 .exact⟨x,Q⟩
def rZ:aB:=λ_ xs ls K=>∃(s0:Rs) (x0:bB) (s:Ms) (qb:Bool) (ql:Int) (qf:Nat->List SV) (x:bB) (v:fO),
 xs=[.ptr 0 0,kY v]/\ls=[.aF 144 (bT (Aw s qb ql qf x))]/\cZ s0 x0 s.inn x/\
 ∀y m,cZ s0 x0 (C8 s).inn y->jJ m (Aw (C8 s) qb ql qf y)->K (.aI []) [.aF 144 (bT m)]
theorem Agg:Ap Tryz.prog gl 216 rZ:=by
 refine Bu (gh:=[]) mixed D0 (Al Ph (Al Qx (Aa AH Ae))) Tryz.func216 (by kernel_rfl) (by kernel_rfl) ?_;intro xs ls K h;unfold rZ at h;obtain⟨s0,x0,s,qb,ql,qf,x,v,rfl,rfl,Q,h⟩:=h;obtain⟨t,ht⟩:∃t,rL t (C8 s):=⟨_,⟨rfl⟩⟩;rw[<-ht.h]at h;obtain⟨y0,Q0⟩:∃y0,cZ s0 x0 t.inn y0:=by rw[ht.h];exact Y1 Q
 obtain⟨m0,fZ⟩:∃m0,jJ m0 (Aw t qb ql qf y0):=⟨_,⟨rfl⟩⟩;have h:=h y0 m0 Q0 fZ;refine⟨_,_,h,λD hD=>?_⟩;clear h;unfold bT Aw kY;cbv;refine br hD (λhb=>?_) (λhb=>?_)<;>cbv
 .have e:t={ s with ended:=true }:=by
   have hb:(s.phase==1)=true:=by subst hD;exact hb
   rw[ht.h];unfold C8;rw[QC (eq_of_beq hb)]
  subst e hD;exact D4 (t:={ s with ended:=true }) (Q.eM Q0) fZ
 have hb:¬s.phase=1:=by
  have hb:(s.phase==1)=false:=by subst hD;exact hb
  intro e;rw[e]at hb;cases hb
 refine⟨s.inn,bB.nm D x,by subst hD;rfl,rfl,by subst hD;exact Q.g.v,Q.g.ok,Q.g.met,λp e wY=>?_⟩;cbv;refine br hD (λhe=>?_) (λhe=>?_)<;>cbv
 .have he:e=0:=by
   have he:(e==0)=true:=by subst hD;exact he
   exact eq_of_beq he
  obtain⟨r,hr,hp⟩:∃r,Vs s.inn=some r/\p=2:=by
   unfold MX at wY;unfold Vs
   by_cases g1:s.inn.phase=2
   .rw[QC g1]at wY ⊢
    exact⟨_,rfl,(Prod.mk.inj wY).1⟩
   rw[QA g1]at wY ⊢
   by_cases g2:s.inn.phase=1/\s.inn.aD=3
   .rw[QC g2]at wY ⊢
    exact⟨_,rfl,(Prod.mk.inj wY).1⟩
   rw[QA g2]at wY;have:=(Prod.mk.inj wY).2;omega
  have e:t={ s with ended:=true,inn:=r,phase:=1 }:=by
   rw[ht.h];unfold C8;rw[QA hb,hr]
  subst hp e hD;exact D4 (t:={ s with ended:=true,inn:=r,phase:=1 }) ((Q.KQ hr).eM Q0) fZ
 .have hr:Vs s.inn=none:=by
   have he:(e==0)=false:=by subst hD;exact he
   unfold MX at wY;unfold Vs
   by_cases g1:s.inn.phase=2
   .rw[QC g1]at wY
    rw[(Prod.mk.inj wY).2]at he;cases he
   rw[QA g1]at wY ⊢
   by_cases g2:s.inn.phase=1/\s.inn.aD=3
   .rw[QC g2]at wY
    rw[(Prod.mk.inj wY).2]at he;cases he
   rw[QA g2]
  refine⟨Aw { s with ended:=true } qb ql qf x,by subst hD;rfl,by subst hD;rfl,λr hE=>?_⟩;cbv;refine br hD (λhg=>?_) (λhg=>?_)<;>cbv
  .refine⟨Aw { s with ended:=true } qb ql qf x,15,by subst hD;rfl,by subst hD;rfl,?_⟩
   cbv;have e:t=broken { s with ended:=true } 15:=by
    have hg:r=true:=by subst hD;exact hg
    have h2:early s.inn:=(Kv (s:={ s with ended:=true }) Q.g.v).1 (by rw[<-hE];exact hg);rw[ht.h];unfold C8;rw[QA hb,hr];simp only;rw[QC h2]
   subst e hD;exact D4 (t:=broken { s with ended:=true } 15) (Q.eM Q0) fZ
  .refine⟨Aw { s with ended:=true } qb ql qf x,9,by subst hD;rfl,by subst hD;rfl,?_⟩
   cbv;have e:t=broken { s with ended:=true } 9:=by
    have hg:r=false:=by subst hD;exact hg
    have h2:¬early s.inn:=λq=>by
     have:=(Kv (s:={ s with ended:=true }) (qb:=qb) (ql:=ql) (qf:=qf) Q.g.v).2 q;rw[<-hE,hg]at this;cases this
    rw[ht.h];unfold C8;rw[QA hb,hr];simp only;rw[QA h2]
   subst e hD;exact D4 (t:=broken { s with ended:=true } 9) (Q.eM Q0) fZ
theorem Uk(s:Ms)(c:UInt8):(Fh s c).cM=s.cM:=by
 unfold Fh
 split
 .rfl
 split
 .rfl
 split<;>rfl
structure MO(s0:Rs)(x0:bB)(s:Ms)(l:List UInt8)(t:Ms)(y:bB)(i:Nat):Prop where
 q:pz s0 x0 t y
 le:i<=l.length
 r:B4 s l=B4 t (l.drop i)
def aq:aB:=λ_ xs ls K=>∃(s0:Rs) (x0:bB) (s:Ms) (qb:Bool) (ql:Int) (qf:Nat->List SV) (x:bB) (b:List UInt8) (n:Nat),
 xs=[.ptr 0 0,.ptr 1 0,.ptr 2 0]/\ls=[.aF 3 [.int .i64 (.a (n:Int))],.aF 142 [.ptr 3 0],.aF 9 [.str b],.aF 144 (bT (Aw s qb ql qf x))]/\pz s0 x0 s x/\n<=b.length/\b.length<=1000000/\
 ∀y m,cZ s0 x0 (B4 s (b.take n)).inn y->jJ m (Aw (B4 s (b.take n)) qb ql qf y)->K (.aI []) [.aF 3 [.int .i64 (.a (n:Int))],.aF 142 [.ptr 3 0],.aF 9 [.str b],.aF 144 (bT m)]
theorem oo{t:Ms}{m0:fG}{a b c:Hl}(T:Twin r y y0)(hm:jJ m0 (Aw t qb ql qf y0)):
  Fin (.aI []) (.aI []) [a,b,c,.aF 144 (bT (Aw t qb ql qf y))] [a,b,c,.aF 144 (bT m0)]:=by
 rw[hm.h];exact⟨aM.refl _,Ct (cL.cons (λ_ _ _ h=>h) (cL.cons (λ_ _ _ h=>h) (cL.cons (λ_ _ _ h=>h) (cL.cons (Ao (Ya (c:=Aw t qb ql qf y) T)) λ_ _ _ _ h=>h)))),QK _⟩
def KS(s0:Rs)(x0:bB)(s:Ms)(qb:Bool)(ql:Int)(qf:Nat->List SV)(b:List UInt8)(n:Nat)(m:Nat)(vs:List (Option SV))(hp:List Hl):Prop :=
 ∃(t:Ms) (y:bB) (i:Nat),vs=[some (.ptr 0 0),some (.ptr 1 0),some (.ptr 2 0),some (.int .i64 (.a (i:Int)))]/\
  hp=[.aF 3 [.int .i64 (.a (n:Int))],.aF 142 [.ptr 3 0],.aF 9 [.str b],.aF 144 (bT (Aw t qb ql qf y))]/\MO s0 x0 s (b.take n) t y i/\m=n-i
theorem ow:Ap Tryz.prog gl 294 aq:=by
 refine Bu (gh:=[]) mixed D0 (Al xg Ae) Tryz.func294 (by kernel_rfl) (by kernel_rfl) ?_;intro xs ls K h;unfold aq at h;obtain⟨s0,x0,s,qb,ql,qf,x,b,n,rfl,rfl,V,hn,hb,h⟩:=h;obtain⟨t,ht⟩:∃t,rL t (B4 s (b.take n)):=⟨_,⟨rfl⟩⟩;rw[<-ht.h]at h;obtain⟨y0,Q0⟩:∃y0,cZ s0 x0 t.inn y0:=by rw[ht.h];exact Ah6 _ s x V.q
 obtain⟨m0,fZ⟩:∃m0,jJ m0 (Aw t qb ql qf y0):=⟨_,⟨rfl⟩⟩;have h:=h y0 m0 Q0 fZ;refine⟨_,_,h,λD hD=>?_⟩;clear h;cbv;obtain⟨J,hJ⟩:∃J,J=KS s0 x0 s qb ql qf b n:=⟨_,rfl⟩;refine⟨[0,1,2,3],J,⟨rfl,n,?_⟩,?_⟩
 .rw[hJ]
  subst hD;refine⟨s,x,0,rfl,rfl,⟨V,XX _,rfl⟩,rfl⟩
 intro m3 vs hp hv;rw[hJ]at hv;obtain⟨t1,y1,i,e1,e2,E,lP⟩:=hv;subst e1;unfold bT Aw at e2;cbv at e2;subst e2;cbv;refine br hD (λhc=>?_) (λhc=>?_)<;>cbv
 .have hc:i<n/\t1.phase=0:=by
   have hc:(decide ((i:Int)<(n:Int))&&(t1.phase==0))=true:=by subst hD;exact hc
   rw[QE,decide_eq_true_iff,QO]at hc;exact⟨by omega,hc.2⟩
  obtain⟨hi,hp⟩:=hc;refine⟨⟨by subst hD;show (0:Int)<=(i:Int);omega,by subst hD;show (i:Int)<(b.length:Int);omega⟩,λc hc=>?_⟩;cbv;have gC:ByU c (b.getD i 0):=by
   have ep:=hc.h;subst hD;exact⟨ep⟩
  refine⟨s0,x0,t1,qb,ql,qf,y1,c,b.getD i 0,by subst hD;rfl,by subst hD;rfl,E.q,gC,λy m Q hm=>?_⟩;cbv;obtain⟨rfl⟩:=hm;have hd:(b.take n).drop i=b.getD i 0 :: (b.take n).drop (i+1):=by
   have hl:i<(b.take n).length:=by rw[QW];omega
   rw[ZS hl,List.getElem_take,QD,QB (by omega)];rfl
  have hr:B4 s (b.take n)=B4 (Fh t1 (b.getD i 0)) ((b.take n).drop (i+1)):=by
   rw[E.r,hd];show (if t1.phase≠0 then t1 else _)=_;rw[QA (by simp[hp])]
  have hw:IntKind.i64.wrap ((i:Int)+1)=((i+1:Nat):Int):=by rw[wrap64 (by omega) (by omega)];rfl
  refine⟨n-(i+1),by rw[lP];omega,?_⟩;rw[hJ];subst hD;refine⟨Fh t1 (b.getD i 0),y,i+1,?_,rfl,⟨⟨Q,by rw[Uk];exact E.q.b0,by rw[Uk];exact E.q.b1⟩,by rw[QW];omega,hr⟩,rfl⟩;show [some (SV.ptr 0 0),some (SV.ptr 1 0),some (SV.ptr 2 0),some (SV.int .i64 (.a (IntKind.i64.wrap ((i:Int)+1))))]=_;rw[hw]
 .have e:t=t1:=by
   have hc:(decide ((i:Int)<(n:Int))&&(t1.phase==0))=false:=by subst hD;exact hc
   rw[ht.h,E.r]
   by_cases hi:i<n
   .have hp:¬t1.phase=0:=by
     rw[YI (by omega)]at hc;simpa using hc
    cases (b.take n).drop i with
    |nil=>rfl
    |cons c l=>show (if t1.phase≠0 then t1 else _)=t1;rw[QC hp]
   .have:(b.take n).drop i=[]:=ZN (by rw[QW];omega)
    rw[this];rfl
  subst e hD;exact oo (t:=t) (E.q.q.eM Q0) fZ
set_option maxHeartbeats 400000
theorem Ag4{n:Int}{s:List UInt8}(h:Aij f s)(hn:n=s.length):Bo f n s:=by
 refine⟨hn,λi hi=>?_⟩;rw[h.h];rfl
structure NH(t:Ms)(u:List UInt8)(n:Nat):Prop where
 p:t.phase=0
 i:t.inn.phase≠2
 ok:Ce t.inn
 fit:Cl t.inn t.cM
 line:(t.inn.line.length:Int)<=t.aS
 ne:u≠[]
 n1:1<=n
 n2:n<=u.length
 room:t.inn.phase=0->(t.inn.line.length:Int)<t.aS->(t.inn.line.length:Int)+n<=t.aS
 full:t.inn.phase=0->(t.inn.line.length:Int)=t.aS->n=1
theorem J9{t:Ms}{n:Nat}(H:NH t u n)
  (h:(t.inn.phase=0/\t.aS<=(t.inn.line.length:Int))\/(Ah t.inn (u.take n)).2.2≠0\/¬Cl (Ah t.inn (u.take n)).1 t.cM):A6 t u=B4 t (u.take n):=by
 have hl:=H.line;have iT:=H.n2
 by_cases g:t.inn.phase=0/\(t.inn.line.length:Int)=t.aS
 .have hn:=H.full g.1 g.2
  cases u with
  |nil=>exact absurd rfl H.ne
  |cons c u =>
   rw[hn];exact (Akr H.p g.1 g.2).1
 .have B:Ps t (u.take n):=⟨H.p,H.i,H.ok,H.fit,λe=>by
   rw[QW,UJ iT];exact H.room e (by have:(t.inn.line.length:Int)≠t.aS:=λq=>g ⟨e,q⟩;omega)⟩
  have hb:(Ah t.inn (u.take n)).2.2≠0\/¬Cl (Ah t.inn (u.take n)).1 t.cM:=h.resolve_left λq=>g ⟨q.1,by omega⟩;have:=(Ad3 (u.take n) (u.drop n) t B hb hl).1
  rwa [YF]at this
theorem Alu(l:List UInt8):∀s:Rs,(Ah s l).2.1<=l.length:=by
 induction l with
 |nil=>intro s;exact QK _
 |cons c l ih =>
  intro s;unfold Ah
  split
  .exact XX _
  split
  .exact XX _
  .have:=ih (aZ s c).1
   simp only[QH];omega
theorem Y5{t:Ms}{n:Nat}(H:NH t u n)(h1:¬(t.inn.phase=0/\t.aS<=(t.inn.line.length:Int)))
  (h2:(Ah t.inn (u.take n)).2.2=0) (h3:Cl (Ah t.inn (u.take n)).1 t.cM):
  A6 t u=A6 (Bw t (Ah t.inn (u.take n)).1) (u.drop (Ah t.inn (u.take n)).2.1)/\1<=(Ah t.inn (u.take n)).2.1/\(Ah t.inn (u.take n)).2.1<=u.length:=by
 have hl:=H.line;have iT:=H.n2;have hlen:(u.take n).length=n:=by rw[QW];omega
 have B:Ps t (u.take n):=⟨H.p,H.i,H.ok,H.fit,λe=>by
  rw[hlen];exact H.room e (by have:¬t.aS<=(t.inn.line.length:Int):=λq=>h1 ⟨e,q⟩;omega)⟩
 have G:=Y3 (u.take n) (u.drop n) t B h2 h3;rw[YF]at G;have hu:=Alu (u.take n) t.inn;rw[hlen]at hu;have hd:(u.take n).drop (Ah t.inn (u.take n)).2.1++u.drop n=u.drop (Ah t.inn (u.take n)).2.1:=by
  obtain⟨q,hq⟩:∃q,q=(Ah t.inn (u.take n)).2.1:=⟨_,rfl⟩;rw[<-hq]at hu ⊢;have e:=List.drop_append_of_le_length (l₁:=u.take n) (l₂:=u.drop n) (i:=q) (by rw[hlen];exact hu);rw[<-e,YF]
 rw[hd]at G;refine⟨G,?_,by omega⟩;have hc:∃c l,u.take n=c :: l:=by
  cases hq:u.take n with
  |nil=>rw[hq]at hlen;have:=H.n1;simp at hlen;omega
  |cons c l=>exact⟨c,l,rfl⟩
 obtain⟨c,l,hc⟩:=hc;rw[hc]at h2 ⊢;unfold Ah at h2 ⊢;rw[QA H.i]at h2 ⊢
 by_cases h0:(aZ t.inn c).2=0
 .rw[QA (by simpa using h0)]
  show 1<=_+1;omega
 .rw[QC h0]at h2
  exact absurd h2 h0
theorem Alv(l:List UInt8):∀s:Rs,Ce s->(Ah s l).1.line.length<=s.line.length+l.length:=by
 induction l with
 |nil=>intro s _;exact QK _
 |cons c l ih =>
  intro s h;unfold Ah
  split
  .exact Nat.le_add_right _ _
  rename_i h2
  split
  .exact Nat.le_add_right _ _
  rename_i h0;have h0:(aZ s c).2=0:=by simpa using h0
  have:=ih _ (Kf h h2 (show aZ s c=((aZ s c).1,0) by rw[<-h0]));show (Ah (aZ s c).1 l).1.line.length<=_;simp only[QH];rcases Oj (s:=s) (c:=c) (λg=>(h.p1 g).1) with g|g|g
  .rw[g]at this;omega
  .rw[g]at this;simp only[QV]at this;omega
  .rw[g.2,QF]at this;simp only[QH,QV]at this;omega
theorem Y4{t:Ms}{n:Nat}(H:NH t u n)(h1:¬(t.inn.phase=0/\t.aS<=(t.inn.line.length:Int)))(h2:(Ah t.inn (u.take n)).2.2=0):
  (((Bw t (Ah t.inn (u.take n)).1).inn.line.length:Int)<=(Bw t (Ah t.inn (u.take n)).1).aS)/\
  (((Bw t (Ah t.inn (u.take n)).1).phase=0/\(Bw t (Ah t.inn (u.take n)).1).inn.phase≠2)\/((Bw t (Ah t.inn (u.take n)).1).phase=1/\(Bw t (Ah t.inn (u.take n)).1).inn.phase=2)):=by
 have O:=Ok (u.take n) t.inn H.ok h2;have hL:=Alv (u.take n) t.inn H.ok;have hP:=T6 (u.take n) t.inn;have iT:=H.n2;have hlen:(u.take n).length=n:=by rw[QW];omega
 rw[hlen]at hL;obtain⟨r,hr⟩:∃r,r=(Ah t.inn (u.take n)).1:=⟨_,rfl⟩;rw[<-hr]at O hL hP ⊢;refine⟨?_,?_⟩
 .show (r.line.length:Int)<=t.aS
  by_cases h0:r.phase=0
  .have hi:t.inn.phase=0:=Decidable.byContradiction λg=>(hP g).2 h0
   have:=H.room hi (by have:¬t.aS<=(t.inn.line.length:Int):=λq=>h1 ⟨hi,q⟩;omega);omega
  .rw[(O.p1 h0).1]
   have:=H.line;simp only[QV];omega
 .unfold Bw
  by_cases g:r.phase=2
  .rw[QC g];exact .inr ⟨rfl,g⟩
  .rw[QA g];exact .inl ⟨H.p,g⟩
set_option maxHeartbeats 16000000
structure PW(s0:Rs)(x0:bB)(t:Ms)(y:bB)(u:List UInt8):Prop where
 q:pz s0 x0 t y
 line:(t.inn.line.length:Int)<=t.aS
 h0:64<=t.aS
 h1:t.aS<=65536
 fit:Cl t.inn t.cM
 ph:(t.phase=0/\t.inn.phase≠2)\/(t.phase=1/\t.inn.phase=2)
 len:u.length<=1000000
def wG:aB:=λ_ xs ls K=>∃(s0:Rs) (x0:bB) (s:Ms) (qb:Bool) (ql:Int) (qf:Nat->List SV) (x:bB) (b:List UInt8),
 xs=[.ptr 0 0,.str b]/\ls=[.aF 144 (bT (Aw s qb ql qf x))]/\PW s0 x0 s x b/\
 ∀y m,cZ s0 x0 (Az s b).inn y->jJ m (Aw (Az s b) qb ql qf y)->K (.aI []) [.aF 144 (bT m)]
structure MB(s0:Rs)(x0:bB)(s:Ms)(b:List UInt8)(t:Ms)(y:bB)(u:List UInt8):Prop where
 r:PW s0 x0 t y u
 e:A6 s b=A6 t u
def FL(s0:Rs)(x0:bB)(s:Ms)(qb:Bool)(ql:Int)(qf:Nat->List SV)(b:List UInt8)(m:Nat)(vs:List (Option SV))(hp:List Hl):Prop :=
 ∃(t:Ms) (y:bB) (u:List UInt8),vs=[some (.ptr 1 0),some (.ptr 2 0)]/\
  hp=[.aF 144 (bT (Aw t qb ql qf y)),.aF 142 [.ptr 0 0],.aF 9 [.str u]]/\MB s0 x0 s b t y u/\m=u.length
theorem Al4:Ap Tryz.prog gl 265 wG:=by
 refine Bu (gh:=[(8000097,[])]) mixed D0 (Al Ph (Al Ah1 (Al Aac (Al Aa7 (Al ow Ae))))) Tryz.func265 (by kernel_rfl) (by kernel_rfl) ?_;intro xs ls K h;unfold wG at h;obtain⟨s0,x0,s,qb,ql,qf,x,b,rfl,rfl,V,h⟩:=h;obtain⟨t,ht⟩:∃t,rL t (Az s b):=⟨_,⟨rfl⟩⟩;rw[<-ht.h]at h;obtain⟨y0,Q0⟩:∃y0,cZ s0 x0 t.inn y0:=by rw[ht.h];exact S9 V.q.q
 obtain⟨m0,fZ⟩:∃m0,jJ m0 (Aw t qb ql qf y0):=⟨_,⟨rfl⟩⟩;have h:=h y0 m0 Q0 fZ;refine⟨_,_,h,λD hD=>?_⟩;clear h;unfold bT Aw;cbv;refine br hD (λhb=>?_) (λhb=>?_)<;>cbv
 .refine⟨Aw s qb ql qf x,12,by subst hD;rfl,by subst hD;rfl,?_⟩
  cbv;have e:t=broken s 12:=by
   have hb:((!(b==[]))&&((s.phase==1)||(s.aN==0)))=true:=by subst hD;exact hb
   rw[ht.h];unfold Az;rw[QC];rw[QE,XS,QO,QO]at hb;refine⟨by simpa using hb.1,?_⟩;rcases V.ph with g|g
   .exact .inr ⟨g.1,hb.2.resolve_left (by omega)⟩
   .exact .inl g.1
  subst e hD;exact D4 (t:=broken s 12) (V.q.q.eM Q0) fZ
 have bA:t=A6 s b:=by
  have hb:((!(b==[]))&&((s.phase==1)||(s.aN==0)))=false:=by subst hD;exact hb
  rw[ht.h];unfold Az;rw[QA];rintro⟨g1,g2⟩;have h1:(!(b==[]))=true:=by simpa using g1
  rw[h1]at hb;have h2:((s.phase==1)||(s.aN==0))=true:=by
   rw[XS,QO,QO];rcases g2 with g|g
   .exact .inl g
   .exact .inr g.2
  rw[h2]at hb;cases hb
 clear hb;obtain⟨J,hJ⟩:∃J,J=FL s0 x0 s qb ql qf b:=⟨_,rfl⟩;refine⟨[2,3],J,⟨rfl,b.length,?_⟩,?_⟩
 .rw[hJ]
  subst hD;refine⟨s,x,b,rfl,rfl,⟨V,rfl⟩,rfl⟩
 intro m3 vs hp hv;rw[hJ]at hv;obtain⟨t1,y1,u,e1,e2,E,lP⟩:=hv;subst e1;unfold bT Aw at e2;cbv at e2;subst e2;cbv;refine br hD (λhc=>?_) (λhc=>?_)<;>cbv
 .have hc:u≠[]/\t1.phase=0:=by
   have hc:((!(u==[]))&&(t1.phase==0))=true:=by subst hD;exact hc
   rw[QE,QO]at hc;exact⟨by simpa using hc.1,hc.2⟩
  refine br hD (λhp=>?_) (λhp=>?_)<;>cbv
  .intro r1 bP
   cbv;intro r2 bZ;cbv;obtain⟨N,hN,H⟩:∃N:Nat,r2=(N:Int)/\NH t1 u N:=by
    have hp:(y1.ph==0)=true:=by subst hD;exact hp
    have hp:y1.ph=0:=eq_of_beq hp;have bP:r1=max 1 (IntKind.i64.wrap (t1.aS-(y1.ln.length:Int))):=by subst hD;exact bP.h
    have bZ:r2=min (u.length:Int) r1:=by subst hD;exact bZ.h
    have hl:=E.r.line;have h0:=E.r.h0;have h1:=E.r.h1;have hx:¬t1.phase=1:=by rw[hc.2];decide
    have hi:t1.inn.phase≠2:=by
     rcases E.r.ph with g|g
     .exact g.2
     .exact absurd g.1 hx
    rw[E.r.q.q.g.v.ln,wrap64 (by omega) (by omega)]at bP;have hu:1<=u.length:=List.length_pos_iff.mpr hc.1;have e1:1<=r1:=by omega
    refine⟨r2.toNat,by omega,hc.2,hi,E.r.q.q.g.ok,E.r.fit,hl,hc.1,by omega,by omega,λ_ _=>by omega,λ_ _=>by omega⟩
   clear bP bZ;subst hN;refine⟨⟨by subst hD;show (0:Int)<=0;omega,by subst hD;show (0:Int)<=(N:Int);omega,by subst hD;show (N:Int)<=u.length;have:=H.n2;omega⟩,λw hw=>?_⟩;cbv;have hw:w=u.take N:=by
    have:=hw.h;subst hD;exact this
   have ml:w.length<=1000000:=by rw[hw,QW];have:=E.r.len;omega
   have lT:(((y1.ph==0)&&decide (t1.aS<=(y1.ln.length:Int)))=true)↔(t1.inn.phase=0/\t1.aS<=(t1.inn.line.length:Int)):=by
    rw[QE,QO,decide_eq_true_iff,E.r.q.q.g.v.ph,E.r.q.q.g.v.ln]
   refine⟨⟨by omega⟩,λf1 fV=>?_⟩;cbv;refine⟨t1.inn,bB.nm D y1,w,false,(w.length:Int),f1,by subst hD;rfl,rfl,by subst hD;exact E.r.q.q.g.v,E.r.q.q.g.ok,E.r.q.q.g.met,by subst hD;exact Ag4 fV rfl,ml,λh=>(by cases h),λk hk=>⟨λmT=>?_,λhe y v W N2 hv=>?_⟩⟩<;>cbv
   .clear fV
    have fD:(k.2.2 != 0)=true:=by simpa using mT
    refine br hD (λhg=>?_) (λhg=>?_)<;>cbv
    .exfalso
     have hg:(!(((y1.ph==0)&&decide (t1.aS<=(y1.ln.length:Int)))||(k.2.2 != 0)))=true:=by subst hD;exact hg
     rw[fD,Bool.or_true]at hg;cases hg
    .clear hg
     refine br hD (λhq=>?_) (λhq=>?_)<;>cbv
     .refine⟨s0,x0,t1,qb,ql,qf,y1,u,N,by subst hD;rfl,by subst hD;rfl,E.r.q,H.n2,E.r.len,λy m Q hm=>?_⟩
      cbv;obtain⟨rfl⟩:=hm;have e:t=B4 t1 (u.take N):=by
       rw[bA,E.e];exact J9 H (.inr (.inl (by rw[<-hw,<-hk];simpa using mT)))
      subst e hD;exact D4 (t:=B4 t1 (u.take N)) (Q.eM Q0) fZ
     .exfalso
      have hq:((((y1.ph==0)&&decide (t1.aS<=(y1.ln.length:Int)))||(k.2.2 != 0))&&true)=false:=by subst hD;exact hq
      rw[fD]at hq;simp at hq
   .clear fV
    have Q:cZ s0 x0 k.1 y:=by
     have N2:pK t1.inn k.1 y y1:=by subst hD;exact N2
     rw[hk]at he W N2 ⊢;exact E.r.q.q.step he W N2
    refine br hD (λhg=>?_) (λhg=>?_)<;>cbv
    .have yt:¬(t1.inn.phase=0/\t1.aS<=(t1.inn.line.length:Int)):=by
      have hg:(!(((y1.ph==0)&&decide (t1.aS<=(y1.ln.length:Int)))||((0:Int) != 0)))=true:=by subst hD;exact hg
      intro q;rw[lT.2 q]at hg;cases hg
     have de:((y1.ph==0)&&decide (t1.aS<=(y1.ln.length:Int)))=false:=Bool.eq_false_iff.mpr (λq=>yt (lT.1 q));clear hg;refine⟨Aw t1 qb ql qf y1,bB.nm D y,by subst hD;rfl,by subst hD;rfl,by subst hD;exact Q.g.z8 E.r.q.b0 E.r.q.b1,λr hr=>?_⟩;cbv;have bP:r=R8 t1.cM y:=by subst hD;exact hr.h
     refine br hD (λhq=>?_) (λhq=>?_)<;>cbv
     .refine⟨s0,x0,t1,qb,ql,qf,y1,u,N,by subst hD;rfl,by subst hD;rfl,E.r.q,H.n2,E.r.len,λy' m Q' hm=>?_⟩
      cbv;obtain⟨rfl⟩:=hm;have e:t=B4 t1 (u.take N):=by
       rw[bA,E.e];refine J9 H (.inr (.inr ?_));have hq:((((y1.ph==0)&&decide (t1.aS<=(y1.ln.length:Int)))||((0:Int) != 0))||!r)=true:=by subst hD;exact hq
       rw[de]at hq;have qM:r=false:=by cases r with
        |true=>cases hq
        |false=>rfl
       rw[<-hw,<-hk,<-Gk W,<-bP,qM];simp
      subst e hD;exact D4 (t:=B4 t1 (u.take N)) (Q'.eM Q0) fZ
     .have hf:Cl k.1 t1.cM:=by
       have hq:((((y1.ph==0)&&decide (t1.aS<=(y1.ln.length:Int)))||((0:Int) != 0))||!r)=false:=by subst hD;exact hq
       rw[de]at hq;have qM:r=true:=by cases r with
        |true=>rfl
        |false=>cases hq
       rw[<-Gk W,<-bP,qM]
      obtain⟨g1,g2,g3⟩:=Y5 H yt (by rw[<-hw,<-hk];exact he) (by rw[<-hw,<-hk];exact hf);rw[<-hw,<-hk]at g1 g2 g3;refine⟨Aw t1 qb ql qf y1,bB.nm D y,by subst hD;rfl,by subst hD;rfl,λc' lI=>?_⟩;cbv;have lI:jJ c' (Gc (Aw t1 qb ql qf y1) y):=by subst hD;exact lI
      have dC:Gc (Aw t1 qb ql qf y1) y=Aw (Bw t1 k.1) qb ql qf y:=by
       unfold Gc Bw Aw;rw[<-W.ph]
       by_cases g:y.ph=2
       .rw[QC (by rw[g];rfl)];simp only[QC g]
       .rw[QA (by simpa using g)];simp only[QA g]
      rw[dC]at lI;refine⟨⟨by subst hD hv;show (0:Int)<=(k.2.1:Int);omega,by subst hD hv;show (k.2.1:Int)<=(u.length:Int);omega,by subst hD;show (u.length:Int)<=u.length;omega⟩,λu2 IA=>?_⟩;cbv;have x9:u2=u.drop k.2.1:=by
       have h1:u2=(u.drop ((k.2.1:Int)).toNat).take (((u.length:Int)).toNat-((k.2.1:Int)).toNat):=by subst hD hv;exact IA.h
       rw[ZY,ZY]at h1;rw[h1,XJ (by rw[QX];omega)]
      have jN:u2.length=u.length-k.2.1:=by rw[x9,QX]
      have hT:=Y4 H yt (by rw[<-hw,<-hk];exact he);rw[<-hw,<-hk]at hT;obtain⟨rfl⟩:=lI;refine⟨u2.length,by rw[lP];omega,?_⟩;rw[hJ];subst hD;exact⟨Bw t1 k.1,y,u2,rfl,rfl,⟨⟨⟨Q,E.r.q.b0,E.r.q.b1⟩,hT.1,E.r.h0,E.r.h1,hf,hT.2,by have:=E.r.len;omega⟩,by rw[E.e,g1,<-x9]⟩,rfl⟩
    .have JK:(t1.inn.phase=0/\t1.aS<=(t1.inn.line.length:Int)):=by
      have hg:(!(((y1.ph==0)&&decide (t1.aS<=(y1.ln.length:Int)))||((0:Int) != 0)))=false:=by subst hD;exact hg
      apply lT.1;simpa using hg
     clear hg;refine br hD (λhq=>?_) (λhq=>?_)<;>cbv
     .refine⟨s0,x0,t1,qb,ql,qf,y1,u,N,by subst hD;rfl,by subst hD;rfl,E.r.q,H.n2,E.r.len,λy' m Q' hm=>?_⟩
      cbv;obtain⟨rfl⟩:=hm;have e:t=B4 t1 (u.take N):=by
       rw[bA,E.e];exact J9 H (.inl JK)
      subst e hD;exact D4 (t:=B4 t1 (u.take N)) (Q'.eM Q0) fZ
     .exfalso
      have hq:((((y1.ph==0)&&decide (t1.aS<=(y1.ln.length:Int)))||((0:Int) != 0))&&true)=false:=by subst hD;exact hq
      rw[lT.2 JK]at hq;cases hq
  .have H:NH t1 u u.length:=by
    have hp:(y1.ph==0)=false:=by subst hD;exact hp
    have hp:t1.inn.phase≠0:=by
     rw[<-E.r.q.q.g.v.ph];intro e;rw[e]at hp;cases hp
    have hx:¬t1.phase=1:=by rw[hc.2];decide
    have hi:t1.inn.phase≠2:=by
     rcases E.r.ph with g|g
     .exact g.2
     .exact absurd g.1 hx
    exact⟨hc.2,hi,E.r.q.q.g.ok,E.r.fit,E.r.line,hc.1,List.length_pos_iff.mpr hc.1,QK _,λe=>absurd e hp,λe=>absurd e hp⟩
   refine⟨⟨by subst hD;show (0:Int)<=0;omega,by subst hD;show (0:Int)<=(u.length:Int);omega,by subst hD;show (u.length:Int)<=u.length;omega⟩,λw hw=>?_⟩;cbv;have hw:w=u.take u.length:=by
    have:=hw.h;subst hD;exact this
   have ml:w.length<=1000000:=by rw[hw,QW];have:=E.r.len;omega
   have lT:(((y1.ph==0)&&decide (t1.aS<=(y1.ln.length:Int)))=true)↔(t1.inn.phase=0/\t1.aS<=(t1.inn.line.length:Int)):=by
    rw[QE,QO,decide_eq_true_iff,E.r.q.q.g.v.ph,E.r.q.q.g.v.ln]
   refine⟨⟨by omega⟩,λf1 fV=>?_⟩;cbv;refine⟨t1.inn,bB.nm D y1,w,false,(w.length:Int),f1,by subst hD;rfl,rfl,by subst hD;exact E.r.q.q.g.v,E.r.q.q.g.ok,E.r.q.q.g.met,by subst hD;exact Ag4 fV rfl,ml,λh=>(by cases h),λk hk=>⟨λmT=>?_,λhe y v W N2 hv=>?_⟩⟩<;>cbv
   .clear fV
    have fD:(k.2.2 != 0)=true:=by simpa using mT
    refine br hD (λhg=>?_) (λhg=>?_)<;>cbv
    .exfalso
     have hg:(!(((y1.ph==0)&&decide (t1.aS<=(y1.ln.length:Int)))||(k.2.2 != 0)))=true:=by subst hD;exact hg
     rw[fD,Bool.or_true]at hg;cases hg
    .clear hg
     refine br hD (λhq=>?_) (λhq=>?_)<;>cbv
     .refine⟨s0,x0,t1,qb,ql,qf,y1,u,u.length,by subst hD;rfl,by subst hD;rfl,E.r.q,H.n2,E.r.len,λy m Q hm=>?_⟩
      cbv;obtain⟨rfl⟩:=hm;have e:t=B4 t1 (u.take u.length):=by
       rw[bA,E.e];exact J9 H (.inr (.inl (by rw[<-hw,<-hk];simpa using mT)))
      subst e hD;exact D4 (t:=B4 t1 (u.take u.length)) (Q.eM Q0) fZ
     .exfalso
      have hq:((((y1.ph==0)&&decide (t1.aS<=(y1.ln.length:Int)))||(k.2.2 != 0))&&true)=false:=by subst hD;exact hq
      rw[fD]at hq;simp at hq
   .clear fV
    have Q:cZ s0 x0 k.1 y:=by
     have N2:pK t1.inn k.1 y y1:=by subst hD;exact N2
     rw[hk]at he W N2 ⊢;exact E.r.q.q.step he W N2
    refine br hD (λhg=>?_) (λhg=>?_)<;>cbv
    .have yt:¬(t1.inn.phase=0/\t1.aS<=(t1.inn.line.length:Int)):=by
      have hg:(!(((y1.ph==0)&&decide (t1.aS<=(y1.ln.length:Int)))||((0:Int) != 0)))=true:=by subst hD;exact hg
      intro q;rw[lT.2 q]at hg;cases hg
     have de:((y1.ph==0)&&decide (t1.aS<=(y1.ln.length:Int)))=false:=Bool.eq_false_iff.mpr (λq=>yt (lT.1 q));clear hg;refine⟨Aw t1 qb ql qf y1,bB.nm D y,by subst hD;rfl,by subst hD;rfl,by subst hD;exact Q.g.z8 E.r.q.b0 E.r.q.b1,λr hr=>?_⟩;cbv;have bP:r=R8 t1.cM y:=by subst hD;exact hr.h
     refine br hD (λhq=>?_) (λhq=>?_)<;>cbv
     .refine⟨s0,x0,t1,qb,ql,qf,y1,u,u.length,by subst hD;rfl,by subst hD;rfl,E.r.q,H.n2,E.r.len,λy' m Q' hm=>?_⟩
      cbv;obtain⟨rfl⟩:=hm;have e:t=B4 t1 (u.take u.length):=by
       rw[bA,E.e];refine J9 H (.inr (.inr ?_));have hq:((((y1.ph==0)&&decide (t1.aS<=(y1.ln.length:Int)))||((0:Int) != 0))||!r)=true:=by subst hD;exact hq
       rw[de]at hq;have qM:r=false:=by cases r with
        |true=>cases hq
        |false=>rfl
       rw[<-hw,<-hk,<-Gk W,<-bP,qM];simp
      subst e hD;exact D4 (t:=B4 t1 (u.take u.length)) (Q'.eM Q0) fZ
     .have hf:Cl k.1 t1.cM:=by
       have hq:((((y1.ph==0)&&decide (t1.aS<=(y1.ln.length:Int)))||((0:Int) != 0))||!r)=false:=by subst hD;exact hq
       rw[de]at hq;have qM:r=true:=by cases r with
        |true=>rfl
        |false=>cases hq
       rw[<-Gk W,<-bP,qM]
      obtain⟨g1,g2,g3⟩:=Y5 H yt (by rw[<-hw,<-hk];exact he) (by rw[<-hw,<-hk];exact hf);rw[<-hw,<-hk]at g1 g2 g3;refine⟨Aw t1 qb ql qf y1,bB.nm D y,by subst hD;rfl,by subst hD;rfl,λc' lI=>?_⟩;cbv;have lI:jJ c' (Gc (Aw t1 qb ql qf y1) y):=by subst hD;exact lI
      have dC:Gc (Aw t1 qb ql qf y1) y=Aw (Bw t1 k.1) qb ql qf y:=by
       unfold Gc Bw Aw;rw[<-W.ph]
       by_cases g:y.ph=2
       .rw[QC (by rw[g];rfl)];simp only[QC g]
       .rw[QA (by simpa using g)];simp only[QA g]
      rw[dC]at lI;refine⟨⟨by subst hD hv;show (0:Int)<=(k.2.1:Int);omega,by subst hD hv;show (k.2.1:Int)<=(u.length:Int);omega,by subst hD;show (u.length:Int)<=u.length;omega⟩,λu2 IA=>?_⟩;cbv;have x9:u2=u.drop k.2.1:=by
       have h1:u2=(u.drop ((k.2.1:Int)).toNat).take (((u.length:Int)).toNat-((k.2.1:Int)).toNat):=by subst hD hv;exact IA.h
       rw[ZY,ZY]at h1;rw[h1,XJ (by rw[QX];omega)]
      have jN:u2.length=u.length-k.2.1:=by rw[x9,QX]
      have hT:=Y4 H yt (by rw[<-hw,<-hk];exact he);rw[<-hw,<-hk]at hT;obtain⟨rfl⟩:=lI;refine⟨u2.length,by rw[lP];omega,?_⟩;rw[hJ];subst hD;exact⟨Bw t1 k.1,y,u2,rfl,rfl,⟨⟨⟨Q,E.r.q.b0,E.r.q.b1⟩,hT.1,E.r.h0,E.r.h1,hf,hT.2,by have:=E.r.len;omega⟩,by rw[E.e,g1,<-x9]⟩,rfl⟩
    .have JK:(t1.inn.phase=0/\t1.aS<=(t1.inn.line.length:Int)):=by
      have hg:(!(((y1.ph==0)&&decide (t1.aS<=(y1.ln.length:Int)))||((0:Int) != 0)))=false:=by subst hD;exact hg
      apply lT.1;simpa using hg
     clear hg;refine br hD (λhq=>?_) (λhq=>?_)<;>cbv
     .refine⟨s0,x0,t1,qb,ql,qf,y1,u,u.length,by subst hD;rfl,by subst hD;rfl,E.r.q,H.n2,E.r.len,λy' m Q' hm=>?_⟩
      cbv;obtain⟨rfl⟩:=hm;have e:t=B4 t1 (u.take u.length):=by
       rw[bA,E.e];exact J9 H (.inl JK)
      subst e hD;exact D4 (t:=B4 t1 (u.take u.length)) (Q'.eM Q0) fZ
     .exfalso
      have hq:((((y1.ph==0)&&decide (t1.aS<=(y1.ln.length:Int)))||((0:Int) != 0))&&true)=false:=by subst hD;exact hq
      rw[lT.2 JK]at hq;cases hq
 .have hc:u=[]\/t1.phase=1:=by
   have hc:((!(u==[]))&&(t1.phase==0))=false:=by subst hD;exact hc
   rcases E.r.ph with g|g
   .rw[g.1]at hc
    exact .inl (by simpa using hc)
   .exact .inr g.1
  refine br hD (λhd=>?_) (λhd=>?_)<;>cbv
  .refine⟨Aw t1 qb ql qf y1,12,by subst hD;rfl,by subst hD;rfl,?_⟩
   cbv;have e:t=broken t1 12:=by
    have hd:((!(u==[]))&&(t1.phase==1))=true:=by subst hD;exact hd
    rw[QE,QO]at hd;rw[bA,E.e];cases u with
    |nil=>cases hd.1
    |cons c u =>
     rw[Dy,QC];rcases E.r.ph with g|g
     .have:=hd.2;omega
     .exact g.2
   subst e hD;exact D4 (t:=broken t1 12) (E.r.q.q.eM Q0) fZ
  .have e:t=t1:=by
    have hd:((!(u==[]))&&(t1.phase==1))=false:=by subst hD;exact hd
    have hu:u=[]:=by
     rcases hc with g|g
     .exact g
     .rw[g]at hd;simpa using hd
    rw[bA,E.e,hu];rfl
   subst e hD;exact D4 (t:=t) (E.r.q.q.eM Q0) fZ
def qs:aB:=λ_ xs ls K=>∃(s0:Rs) (x0:bB) (s:Ms) (qb:Bool) (ql:Int) (qf:Nat->List SV) (x:bB) (v:fO),
 xs=[.ptr 0 0,kY v]/\ls=[.aF 144 (bT (Aw s qb ql qf x))]/\PW s0 x0 s x v.bytes/\
 ∀y m,cZ s0 x0 (Az s v.bytes).inn y->jJ m (Aw (Az s v.bytes) qb ql qf y)->K (.aI []) [.aF 144 (bT m)]
theorem zv:Ap Tryz.prog gl 215 qs:=by
 refine Bu (gh:=[]) mixed D0 (Al Al4 Ae) Tryz.func215 (by kernel_rfl) (by kernel_rfl) ?_;intro xs ls K h;unfold qs at h;obtain⟨s0,x0,s,qb,ql,qf,x,v,rfl,rfl,V,h⟩:=h;obtain⟨t,ht⟩:∃t,rL t (Az s v.bytes):=⟨_,⟨rfl⟩⟩;rw[<-ht.h]at h;obtain⟨y0,Q0⟩:∃y0,cZ s0 x0 t.inn y0:=by rw[ht.h];exact S9 V.q.q
 obtain⟨m0,fZ⟩:∃m0,jJ m0 (Aw t qb ql qf y0):=⟨_,⟨rfl⟩⟩;have h:=h y0 m0 Q0 fZ;refine⟨_,_,h,λD hD=>?_⟩;clear h;unfold bT Aw kY;cbv;refine⟨s0,x0,s,qb,ql,qf,x,v.bytes,by subst hD;rfl,by subst hD;rfl,V,λy m Q hm=>?_⟩;cbv;rw[<-ht.h]at Q hm;obtain⟨rfl⟩:=hm;subst hD;exact D4 (t:=t) (Q.eM Q0) fZ
end Go.Proofs.YtdoogdbjiijifaaGreatDoor
