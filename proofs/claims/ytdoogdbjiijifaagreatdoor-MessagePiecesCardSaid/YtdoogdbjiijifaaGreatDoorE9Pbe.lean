/- Lemmas of the proof; no conditions. -/
import Derived.Test.YtdoogdbjiijifaaGreatDoorE9Pbd
namespace Go.Proofs.YtdoogdbjiijifaaGreatDoor
open Go Go.Sx
set_option maxRecDepth 100000
set_option maxHeartbeats 16000000
def Dq(b:List UInt8):Nat->List Nat->List (List UInt8)
 |a,[]=>[b.drop a]
 |a,c :: cl=>((b.take (min b.length (a+c))).drop a) :: Dq b (min b.length (a+c)) cl
theorem Rh(b:List UInt8):∀(cl:List Nat) (a:Nat),a<=b.length->(Dq b a cl).flatten=b.drop a
 | [],a,_=>by simp[Dq]
 |c :: cl,a,h=>by
  unfold Dq;rw[List.flatten_cons,Rh b cl _ (Nat.min_le_left ..)];have:b.drop a=(b.take (min b.length (a+c))++b.drop (min b.length (a+c))).drop a:=by rw[YF]
  rw[this,List.drop_append_of_le_length (by rw[QW];omega)]
structure px(f:Nat->List SV)(n:Int)(l:List Nat):Prop where
 n:n=l.length
 f:∀i,i<l.length->f i=[.int .u16 (.a (l.getD i 0:Int))]
 len:l.length<=9223372036854775807
 small:∀i,i<l.length->l.getD i 0<=65535
structure Aov(l:List Nat)(b:List UInt8):Prop where
 l:l.length<=60
 b:b.length<=1500
theorem Af5{s0:Rs}{x0:bB}:∀(ps:List (List UInt8)) (s:Ms) (x:bB),cZ s0 x0 s.inn x->∃y,cZ s0 x0 (Et s ps).inn y
 | [],s,x,Q=>⟨x,Q⟩
 |p :: ps,s,x,Q=>by
  unfold Et
  split
  .exact Af5 ps s x Q
  .obtain⟨y,R⟩:=S9 (b:=p) Q
   exact Af5 ps _ y R
theorem Ym{s:Ms}{p:List UInt8}(G:If s)(hp:s.phase≠2)(he:s.ended=false):Cg s (fW ⟨2,0,p,0⟩)=0:=by
 have:=G.s1;unfold Cg fW;simp only;rw[QA (by simp),QA (by omega),QA (by simp[hp,he])]
theorem Yn(s:Ms)(p:List UInt8):Be s (fW ⟨2,0,p,0⟩)=Az s p:=by
 unfold Be fW;simp only;rw[QA (by decide),QC trivial]
theorem Vp:∀(ps:List (List UInt8)) (s:Ms),If s->s.ended=false->If (Et s ps)/\(Et s ps).eU=s.eU
 | [],s,h,_=>⟨h,rfl⟩
 |p :: ps,s,h,he=>by
  unfold Et
  split
  .exact Vp ps s h he
  .rename_i g
   have hp:s.phase=0\/s.phase=1:=by
    rcases h.right with r|r|r
    .exact .inl r.1
    .exact .inr r.1
    .exact absurd r.1 g
   have K:=Is s p;obtain⟨a,b⟩:=Vp ps (Az s p) (X3 h hp he) (by rw[K.2.2.2.2.2];exact he);exact⟨a,b.trans K.1⟩
def ttF:List (Nat×TI):=(97,⟨.int .u16,1,2,[.int .u16 (.l 0)]⟩) :: (88,⟨.slice 97,1,24,[(.sl (.l true) (.l 0) 1 λ_=>[])]⟩) :: ES
theorem vn:Sx.yN Tryz.prog ttF=true:=by kernel_rfl
theorem An6{eG:List (Nat×aB)}{gl:List (Nat×SV)}{gh:List (Nat×List Gh)}{its:List (Nat×(aB->aB))}{yl:List aB}:A4 Tryz.prog ⟨dn,ttF,eG,gl,eqs,gh,its,yl⟩:=by
 refine⟨rfl,vn,λt ht=>?_⟩;simp only[eqs,XT,ZU,or_false]at ht;rcases ht with rfl
 all_goals
  refine⟨?_,?_,?_⟩
  .kernel_rfl
  .kernel_rfl
  .decide
structure ak3(a:Int)(c:Nat):Prop where
 h:a=(c:Int)
structure EdV(a e L:Nat)(r:Int):Prop where
 hr:r=(e:Int)
 al:a<=e
 hl:e<=L
structure ak1(b:List UInt8)(cl:List Nat)(s0 s T:Ms)(x0:bB)(qb:Bool)(ql:Int)(qf:Nat->List SV)(y:bB)(i a:Nat)(I A:Int)(m:Nat):Prop where
 eI:I=i
 eA:A=a
 le:i<=cl.length+1
 al:a<=b.length
 em:m=cl.length+1-i
 te:(i<=cl.length/\T=Et s (Dq b a (cl.drop i)))\/(i=cl.length+1/\T=s)
 q:cZ s0.inn x0 s.inn y
 r:iL s qb ql qf y
 en:s.ended=false
 rq:s.eU=s0.eU
 can:s.phase≠2/\i=0\/Ha qf ql s0.eU.fields
def af4(b:List UInt8)(cl:List Nat)(nl:Bool)(n:Int)(f:Nat->List SV)(s0 T:Ms)(x0:bB)(qb:Bool)(m:Nat)(vs:List (Option SV))(hp:List Hl):Prop :=
 ∃(s:Ms) (ql:Int) (qf:Nat->List SV) (y:bB) (i a:Nat) (I A:Int),vs=[some (.str b),some (.sl (.a nl) (.a n) 1 f),some (.ptr 0 0),some (.ptr 1 0),some (.int .i64 (.a A)),some (.int .i64 (.a I))]/\
  hp=[.aF 59 (bT (Aw s qb ql qf y)),.aF 59 (bT xn)]/\ak1 b cl s0 s T x0 qb ql qf y i a I A m
structure ak0(s:Ms)(x:bB)(b:List UInt8)(cl:List Nat)(qb:Bool)(m:fG):Prop where
 o:∃(t:Ms) (ql:Int) (qf:Nat->List SV) (y:bB),rL t (Et s (Dq b 0 cl))/\iL t qb ql qf y/\jJ m (Aw t qb ql qf y)
def qx:aB:=λ_ xs ls K=>∃(s:Ms) (qb:Bool) (ql:Int) (qf:Nat->List SV) (x:bB) (b:List UInt8) (cl:List Nat) (nl:Bool) (n:Int) (f:Nat->List SV),xs=[.agg (bT (Aw s qb ql qf x)),.str b,.sl (.a nl) (.a n) 1 f]/\ls=[]/\iL s qb ql qf x/\s.phase≠2/\s.ended=false/\px f n cl/\Aov cl b/\
 ∀m,ak0 s x b cl qb m->K (.aI [.agg (bT m),.bool (.a true)]) []
theorem Ant:Ap Tryz.prog pI 50 qx:=by
 refine Bu (gh:=[]) mixed An6 (Aa (C5 Ac5) (Aa Ald Ae)) Tryz.func50 (by kernel_rfl) (by kernel_rfl) ?_;intro xs ls K h;unfold qx at h;obtain⟨s,qb,ql,qf,x,b,cl,nl,n,f,rfl,rfl,G,hp,he,R,CO,h⟩:=h;obtain⟨T,hT⟩:∃T,rL T (Et s (Dq b 0 cl)):=⟨_,⟨rfl⟩⟩;obtain⟨y0,Q0⟩:∃y0,cZ s.inn x T.inn y0:=by rw[hT.h];exact Af5 _ s x (cZ.refl G.rs)
 obtain⟨g1,n1,C1⟩:∃g n,Ha g n s.eU.fields:=⟨_,_,⟨rfl,rfl⟩⟩;obtain⟨m0,fZ⟩:∃m0,jJ m0 (Aw T qb n1 g1 y0):=⟨_,⟨rfl⟩⟩;have GT:iL T qb n1 g1 y0:=by
  obtain⟨a,c⟩:=Vp (Dq b 0 cl) s G.g.ok he;rw[<-hT.h]at a c;have R:=G.g.rq;exact⟨⟨a,by rw[c];exact⟨R.xv,R.xu,R.method,R.target,R.host,R.body,C1.row R.row,R.nil⟩,Q0.g.v⟩,Q0.g.fn,Q0.g.tn⟩
 have h:=h m0 ⟨T,n1,g1,y0,hT,GT,fZ⟩;clear GT;refine⟨_,_,h,λD hD=>?_⟩;clear h;unfold bT Aw;cbv;obtain⟨J,hJ⟩:∃J,J=af4 b cl nl n f s T x qb:=⟨_,rfl⟩;refine⟨[1,2,3,6,8,9],J,⟨rfl,cl.length+1,?_⟩,?_⟩
 .rw[hJ]
  subst hD;exact⟨s,ql,qf,x,0,0,0,0,rfl,rfl,⟨rfl,rfl,by omega,by omega,by omega,.inl ⟨by omega,hT.h⟩,cZ.refl G.rs,G,he,rfl,.inl ⟨hp,rfl⟩⟩⟩
 clear G he hp hT;intro m9 vs hq hv;rw[hJ]at hv;obtain⟨s1,ry,rz,y,i,a,I,A,e1,e2,V⟩:=hv;subst e1;unfold bT Aw at e2;cbv at e2;subst e2;cbv;refine br hD (λhb=>?_) (λhb=>?_)<;>cbv
 .have hi:i<=cl.length:=by
   have hb:decide (I<=n)=true:=by subst hD;exact hb
   have:=QT hb;have:=V.eI;have:=R.n;omega
  have te:T=Et s1 (Dq b a (cl.drop i)):=by
   rcases V.te with g|g
   .exact g.2
   .exact absurd g.1 (by omega)
  clear hb;refine br hD (λhb=>?_) (λhb=>?_)<;>cbv
  .have aC:i<cl.length:=by
    have hb:decide (I<n)=true:=by subst hD;exact hb
    have:=QT hb;have:=V.eI;have:=R.n;omega
   have OQ:(i:Int)<n:=by have:=R.n;omega
   refine⟨by subst hD;exact⟨by show (0:Int)<=I;have:=V.eI;omega,by show I<n;have:=V.eI;omega⟩,λj hj=>?_⟩;obtain rfl:j=i:=by
    have:=hj.h;have h2:(j:Int)=I:=by subst hD;exact this
    have:=V.eI;omega
   have ef:=R.f j aC;have eC:=R.small j aC;obtain⟨c,hc⟩:∃c,c=cl.getD j 0:=⟨_,rfl⟩;rw[<-hc]at ef eC;obtain⟨ci,np⟩:∃ci,ak3 ci c:=⟨(c:Int),⟨rfl⟩⟩;rw[<-np.h]at ef;cbv;rw[ef];cbv;intro r hr;cbv;have bP:r=((min b.length (a+c):Nat):Int):=by
    have h1:r=min (b.length:Int) (IntKind.i64.wrap (A+IntKind.i64.wrap ci)):=by subst hD;exact hr.h
    have h2:=np.h;have h3:=V.eA;have h4:=V.al;have h5:=CO.b;have w1:IntKind.i64.wrap ci=ci:=wrap64 (by omega) (by omega);have w2:IntKind.i64.wrap (A+ci)=A+ci:=wrap64 (by omega) (by omega);rw[h1,w1,w2];omega
   obtain⟨a',JW⟩:∃a',a'=min b.length (a+c):=⟨_,rfl⟩;rw[<-JW]at bP;have oW:a<=a':=by have:=V.al;omega
   have eu:a'<=b.length:=by omega
   have iI:T=Et (if s1.phase=2 then s1 else Az s1 ((b.take a').drop a)) (Dq b a' (cl.drop (j+1))):=by
    rw[te,Hg (d:=0) aC,<-hc,Dq,<-JW,Et]
   have sS:∀s',T=Et s' (Dq b a' (cl.drop (j+1)))->((j+1<=cl.length/\T=Et s' (Dq b a' (cl.drop (j+1))))\/(j+1=cl.length+1/\T=s')):=λs' g=>.inl ⟨aC,g⟩;have EV:EdV a a' b.length r:=⟨bP,oW,eu⟩;clear te hr JW np ef eC hc bP oW eu;have hI:D.i (.bin .add .i64 (.a I) (.l 1))=((j+1:Nat):Int):=by
    have:=V.eI;have:=CO.l;have w:IntKind.i64.wrap (I+1)=I+1:=wrap64 (by omega) (by omega);subst hD;show IntKind.i64.wrap (I+1)=_;rw[w];omega
   refine br hD (λhb=>?_) (λhb=>?_)<;>cbv
   .have eB:s1.phase≠2:=by
     have hb:(s1.phase != 2)=true:=by subst hD;exact hb
     simpa using hb
    clear hb;refine⟨⟨by subst hD;show (0:Int)<=A;have:=V.eA;omega,by subst hD;show A<=r;have:=V.eA;have:=EV.hr;have:=EV.al;omega,by subst hD;show r<=(b.length:Int);have:=EV.hr;have:=EV.hl;omega⟩,λu hu=>?_⟩;cbv;have uG:u=(b.take a').drop a:=by
     have h1:u=(b.drop A.toNat).take ((r:Int).toNat-A.toNat):=by subst hD;exact hu.h
     have eA:=V.eA;have eR:=EV.hr;rw[h1,show (r:Int).toNat=a' by omega,show A.toNat=a by omega,List.drop_take]
    have jN:u.length<=1000000:=by
     have:=CO.b;rw[uG,QX,QW];omega
    refine⟨u,by subst hD;rfl,rfl,λv hv=>?_⟩;unfold kY;cbv;have rI:Cg s1 (fW v)=0:=by rw[hv];exact Ym V.r.g.ok eB V.en
    refine⟨s1,qb,ry,rz,y,v,by subst hD;rfl,by subst hD;rfl,V.r,by rw[hv];exact jN,λmc e S=>?_⟩;unfold bT;have he:e=0:=S.ev.trans rI;obtain⟨t,SU,SW,y3,ht,G2,lP,Q3,C3⟩:=S.o he;obtain⟨rfl⟩:=lP;clear S;unfold Aw;cbv;refine br hD (λhb=>?_) (λhb=>?_)<;>cbv
    .exfalso
     have hb:(e != 0)=true:=by subst hD;exact hb
     rw[he]at hb;cases hb
    have lZ:t=Az s1 u:=by rw[ht.h,hv];exact Yn s1 u
    have hk:=Is s1 u;have iT:=sS t (by rw[iI,QA eB,lZ,uG]);refine⟨cl.length+1-(j+1),by have:=V.em;omega,?_⟩;rw[hJ];subst hD;exact⟨t,SU,SW,y3,j+1,a',_,_,rfl,rfl,⟨hI,by exact EV.hr,by omega,EV.hl,rfl,iT,V.q.trans Q3,G2,by rw[lZ,hk.2.2.2.2.2];exact V.en,by rw[lZ,hk.1];exact V.rq,.inr (by rw[<-V.rq];exact C3)⟩⟩
   .have eB:s1.phase=2:=by
     have hb:(s1.phase != 2)=false:=by subst hD;exact hb
     simpa using hb
    clear hb;have iT:=sS s1 (by rw[iI,QC eB]);refine⟨cl.length+1-(j+1),by have:=V.em;omega,?_⟩;rw[hJ];subst hD;exact⟨s1,ry,rz,y,j+1,a',_,_,rfl,rfl,⟨hI,by exact EV.hr,by omega,EV.hl,rfl,iT,V.q,V.r,V.en,V.rq,.inr (V.can.resolve_left λg=>g.1 eB)⟩⟩
  .have OQ:i=cl.length:=by
    have hb:decide (I<n)=false:=by subst hD;exact hb
    have:=XA hb;have:=V.eI;have:=R.n;omega
   clear hb;obtain⟨a',JW⟩:∃a',a'=b.length:=⟨_,rfl⟩;have oW:a<=a':=by have:=V.al;omega
   have eu:a'<=b.length:=by omega
   have iI:T=Et (if s1.phase=2 then s1 else Az s1 ((b.take a').drop a)) []:=by
    rw[te,OQ,XR,Dq,JW,YC];rfl
   have sS:∀s',T=Et s' []->((i+1<=cl.length/\T=Et s' (Dq b a' (cl.drop (i+1))))\/(i+1=cl.length+1/\T=s')):=λs' g=>.inr ⟨by omega,g⟩;have EV:EdV a a' b.length (b.length:Int):=⟨by omega,oW,eu⟩;clear te oW eu;have hI:D.i (.bin .add .i64 (.a I) (.l 1))=((i+1:Nat):Int):=by
    have:=V.eI;have:=CO.l;have w:IntKind.i64.wrap (I+1)=I+1:=wrap64 (by omega) (by omega);subst hD;show IntKind.i64.wrap (I+1)=_;rw[w];omega
   refine br hD (λhb=>?_) (λhb=>?_)<;>cbv
   .have eB:s1.phase≠2:=by
     have hb:(s1.phase != 2)=true:=by subst hD;exact hb
     simpa using hb
    clear hb;refine⟨⟨by subst hD;show (0:Int)<=A;have:=V.eA;omega,by subst hD;show A<=(b.length:Int);have:=V.eA;have:=EV.hr;have:=EV.al;omega,by subst hD;show (b.length:Int)<=(b.length:Int);have:=EV.hr;have:=EV.hl;omega⟩,λu hu=>?_⟩;cbv;have uG:u=(b.take a').drop a:=by
     have h1:u=(b.drop A.toNat).take (((b.length:Int):Int).toNat-A.toNat):=by subst hD;exact hu.h
     have eA:=V.eA;have eR:=EV.hr;rw[h1,show ((b.length:Int)).toNat=a' by omega,show A.toNat=a by omega,List.drop_take]
    have jN:u.length<=1000000:=by
     have:=CO.b;rw[uG,QX,QW];omega
    refine⟨u,by subst hD;rfl,rfl,λv hv=>?_⟩;unfold kY;cbv;have rI:Cg s1 (fW v)=0:=by rw[hv];exact Ym V.r.g.ok eB V.en
    refine⟨s1,qb,ry,rz,y,v,by subst hD;rfl,by subst hD;rfl,V.r,by rw[hv];exact jN,λmc e S=>?_⟩;unfold bT;have he:e=0:=S.ev.trans rI;obtain⟨t,SU,SW,y3,ht,G2,lP,Q3,C3⟩:=S.o he;obtain⟨rfl⟩:=lP;clear S;unfold Aw;cbv;refine br hD (λhb=>?_) (λhb=>?_)<;>cbv
    .exfalso
     have hb:(e != 0)=true:=by subst hD;exact hb
     rw[he]at hb;cases hb
    have lZ:t=Az s1 u:=by rw[ht.h,hv];exact Yn s1 u
    have hk:=Is s1 u;have iT:=sS t (by rw[iI,QA eB,lZ,uG]);refine⟨cl.length+1-(i+1),by have:=V.em;omega,?_⟩;rw[hJ];subst hD;exact⟨t,SU,SW,y3,i+1,a',_,_,rfl,rfl,⟨hI,by exact EV.hr,by omega,EV.hl,rfl,iT,V.q.trans Q3,G2,by rw[lZ,hk.2.2.2.2.2];exact V.en,by rw[lZ,hk.1];exact V.rq,.inr (by rw[<-V.rq];exact C3)⟩⟩
   .have eB:s1.phase=2:=by
     have hb:(s1.phase != 2)=false:=by subst hD;exact hb
     simpa using hb
    clear hb;have iT:=sS s1 (by rw[iI,QC eB]);refine⟨cl.length+1-(i+1),by have:=V.em;omega,?_⟩;rw[hJ];subst hD;exact⟨s1,ry,rz,y,i+1,a',_,_,rfl,rfl,⟨hI,by exact EV.hr,by omega,EV.hl,rfl,iT,V.q,V.r,V.en,V.rq,.inr (V.can.resolve_left λg=>g.1 eB)⟩⟩
 .have hi:i=cl.length+1:=by
   have hb:decide (I<=n)=false:=by subst hD;exact hb
   have:=XA hb;have:=V.eI;have:=R.n;have:=V.le;omega
  have hT:T=s1:=by
   rcases V.te with g|g
   .exact absurd g.1 (by omega)
   .exact g.2
  have hC:Ha rz ry s.eU.fields:=V.can.resolve_left λg=>by omega
  obtain⟨rfl,rfl⟩:=hC.eq C1;have T2:Twin T.inn y y0:=by
   have q:=V.q;rw[<-hT]at q;exact q.eM Q0
  have hm:=fZ.h;subst hm;subst hT hD;exact Cm (.aI (.cons (.agg (Ya (c:=Aw T qb ry rz y) T2)) (.cons (Dh rfl) .nil)))
def EB:List UInt8:=[72,84,84,80,47,49,46,49,32,50,48,48,32,79,75,13,10,67,111,110,116,101,110,116,45,76,101,110,103,116,104,58,32,50,13,10,13,10,97,98]
def lA:List fO:=[⟨1,44,[],0⟩,⟨2,0,EB,0⟩]
def lB:List fO:=[⟨1,40,[],0⟩,⟨2,0,EB,0⟩]
def lC:List fO:=[⟨1,44,[],0⟩,⟨2,0,EB++[99],0⟩]
def lD:List fO:=[⟨1,44,[],0⟩,⟨3,0,[],0⟩]
theorem KN:(lA.foldl gW sE).phase=1:=by kernel_rfl
theorem ag5:(lA.foldl gW sE).inn.aD=1:=by kernel_rfl
theorem ag4:(lA.foldl gW sE).inn.body=[97,98]:=by kernel_rfl
theorem ag3:(lA.foldl gW sE).inn.head.status=200:=by kernel_rfl
theorem ag2:((!(lA.foldl gW sE).ended&&((lA.foldl gW sE).aN==((lA.foldl gW sE).out.length:Int)))&&Ru (lA.foldl gW sE).inn.head (lA.foldl gW sE).inn.aD)=true:=by kernel_rfl
theorem KM:(lB.foldl gW sE).phase=1:=by kernel_rfl
theorem ag1:(lB.foldl gW sE).inn.aD=1:=by kernel_rfl
theorem ag0:(lB.foldl gW sE).inn.body=[97,98]:=by kernel_rfl
theorem af9:((lB.foldl gW sE).aN==((lB.foldl gW sE).out.length:Int))=false:=by kernel_rfl
theorem AD:(lC.foldl gW sE).phase=2:=by kernel_rfl
theorem af8:(lC.foldl gW sE).why=12:=by kernel_rfl
theorem AB:(lD.foldl gW sE).phase=2:=by kernel_rfl
theorem af7:(lD.foldl gW sE).why=15:=by kernel_rfl
theorem exN:RH sE 4=([71,69,84,32],0):=by kernel_rfl
theorem exO:sE.out.length=44:=by kernel_rfl
theorem jdA{c:VC}{k:Bool}(h:MI lA c k):k=true/\c.ru=true/\c.bo=[97,98]/\c.st=200:=by
 obtain⟨t,x,ht,X,hc,hk⟩:=h.h;obtain⟨rfl⟩:=ht;have f2:¬(lA.foldl gW sE).inn.aD=2:=by rw[ag5];decide
 rw[KN]at hk;unfold Hv at hc;rw[QC KN,QA f2,ag2]at hc;subst hc;exact⟨hk,rfl,X.bo.trans ag4,X.st.trans ag3⟩
theorem jdB{c:VC}{k:Bool}(h:MI lB c k):k=true/\c.ru=false/\c.bo=[97,98]:=by
 obtain⟨t,x,ht,X,hc,hk⟩:=h.h;obtain⟨rfl⟩:=ht;have f2:¬(lB.foldl gW sE).inn.aD=2:=by rw[ag1];decide
 rw[KM]at hk;unfold Hv at hc;rw[QC KM,QA f2,af9]at hc;subst hc;exact⟨hk,by simp,X.bo.trans ag0⟩
theorem jdC{c:VC}{k:Bool}(h:MI lC c k):k=true/\c.wy=12:=by
 obtain⟨t,x,ht,X,hc,hk⟩:=h.h;obtain⟨rfl⟩:=ht;have f2:¬(lC.foldl gW sE).phase=1:=by rw[AD];decide
 rw[AD]at hk;unfold Hv at hc;rw[QA f2,QC AD,af8]at hc;subst hc;exact⟨hk,rfl⟩
theorem jdD{c:VC}{k:Bool}(h:MI lD c k):k=true/\c.wy=15:=by
 obtain⟨t,x,ht,X,hc,hk⟩:=h.h;obtain⟨rfl⟩:=ht;have f2:¬(lD.foldl gW sE).phase=1:=by rw[AB];decide
 rw[AB]at hk;unfold Hv at hc;rw[QA f2,QC AB,af7]at hc;subst hc;exact⟨hk,rfl⟩
theorem RU{g:Nat->List SV}{v1 v2:fO}(h:Sj g [Aai v1,Aai v2]):BY g 2 [v1,v2]:=by
 refine⟨rfl,λi hi=>?_,by show 2<=9223372036854775807;decide⟩
 match i,hi with
 |0,_=>exact h.h 0 _ rfl
 |1,_=>exact h.h 1 _ rfl
 |i+2,hi=>exact absurd hi (by simp)
def vZ:aB:=λ_ xs ls K=>xs=[]/\ls=[]/\K (.bool (.a true)) []
theorem Xq:Ap Tryz.prog pI 30 vZ:=by
 refine Bq (gh:=[]) mixed An5 (Aa Anv (Aa Amt (Aa (C5 Aiz) (Aa (C5 Ac5) (Aa Ajy Ae))))) Tryz.func30 (by kernel_rfl) (by kernel_rfl) ?_;intro xs ls K h;unfold vZ at h;obtain⟨rfl,rfl,h⟩:=h;refine⟨_,_,h,λD hD=>?_⟩;clear h;cbv;intro s x hs hx G;unfold bT Aw;cbv;refine⟨s,true,0,λ_=>[],x,4,by subst hD;rfl,rfl,G,λt e N=>?_⟩;cbv;have hN:=N.h;rw[hs.h,exN]at hN;obtain⟨rfl,rfl⟩:=Prod.mk.inj hN;refine⟨44,by subst hD;rfl,rfl,λv1 h1=>?_⟩;unfold kY;cbv;refine⟨EB,by subst hD;rfl,rfl,λv2 h2=>?_⟩;unfold kY;cbv;intro g1 yV;cbv;have R1:BY g1 2 [v1,v2]:=RU (by subst hD h2;exact yV);have L1:[v1,v2]=lA:=by rw[h1,h2];rfl
 clear yV;refine⟨[v1,v2],_,_,g1,by subst hD;rfl,rfl,by subst hD;exact R1,by simp,by rw[L1];decide,λc1 k1 J1=>?_⟩;rw[L1]at J1;clear R1 L1 h1 h2;unfold Pt;cbv;refine⟨40,by subst hD;rfl,rfl,λv1 h1=>?_⟩;unfold kY;cbv;refine⟨EB,by subst hD;rfl,rfl,λv2 h2=>?_⟩;unfold kY;cbv;intro g2 gU;cbv;have R2:BY g2 2 [v1,v2]:=RU (by subst hD h2;exact gU);have L2:[v1,v2]=lB:=by rw[h1,h2];rfl
 clear gU;refine⟨[v1,v2],_,_,g2,by subst hD;rfl,rfl,by subst hD;exact R2,by simp,by rw[L2];decide,λc2 k2 J2=>?_⟩;rw[L2]at J2;clear R2 L2 h1 h2;unfold Pt;cbv;refine⟨44,by subst hD;rfl,rfl,λv1 h1=>?_⟩;unfold kY;cbv;refine⟨(EB++[99]),by subst hD;rfl,rfl,λv2 h2=>?_⟩;unfold kY;cbv;intro g3 gA;cbv;have R3:BY g3 2 [v1,v2]:=RU (by subst hD h2;exact gA);have L3:[v1,v2]=lC:=by rw[h1,h2];rfl
 clear gA;refine⟨[v1,v2],_,_,g3,by subst hD;rfl,rfl,by subst hD;exact R3,by simp,by rw[L3];decide,λc3 k3 J3=>?_⟩;rw[L3]at J3;clear R3 L3 h1 h2;unfold Pt;cbv;refine⟨44,by subst hD;rfl,rfl,λv1 h1=>?_⟩;unfold kY;cbv;obtain⟨v2,h2⟩:∃v2:fO,v2=⟨3,0,[],0⟩:=⟨_,rfl⟩;intro g4 iD;cbv;have R4:BY g4 2 [v1,v2]:=RU (by subst hD h2;exact iD);have L4:[v1,v2]=lD:=by rw[h1,h2];rfl
 clear iD;refine⟨[v1,v2],_,_,g4,by subst hD;rfl,rfl,by subst hD;exact R4,by simp,by rw[L4];decide,λc4 k4 J4=>?_⟩;rw[L4]at J4;clear R4 L4 h1 h2;unfold Pt;cbv;obtain⟨a1,a2,a3,a4⟩:=jdA J1;obtain⟨b1,b2,b3⟩:=jdB J2;obtain⟨d1,d2⟩:=jdC J3;obtain⟨f1,f2⟩:=jdD J4;have hO:s.out.length=44:=by rw[hs.h];exact exO
 refine Ar hD ?_;show (((((((((((((((((0:Int)==0)&&((0:Int)==0))&&(([71,69,84,32]:List UInt8)==[71,69,84,32]))&&((s.out.length:Int)==44))&&k1)&&c1.ru)&&(c1.bo==[97,98]))&&(c1.st==200))&&k2)&&!c2.ru)&&(c2.bo==[97,98]))&&k3)&&(c3.wy==12))&&k4)&&(c4.wy==15)))=true;rw[hO,a1,a2,a3,a4,b1,b2,b3,d1,d2,f1,f2];rfl
def wC:aB:=λ_ xs ls K=>∃(s:Ms) (nb nb':Bool) (n n':Int) (f f':Nat->List SV) (x x':bB),xs=[.agg (bT (Aw s nb n f x)),.agg (bT (Aw s nb' n' f' x'))]/\ls=[]/\A0 f n s.eU.fields/\A0 f' n' s.eU.fields/\gD s.inn x/\gD s.inn x'/\K (.bool (.a true)) []
theorem Abo:Ap Tryz.prog gl 33 wC:=by
 refine Bq (gh:=[]) mixed D0 (Aa Alo (Aa Ai1 Ae)) Tryz.func33 (by kernel_rfl) (by kernel_rfl) ?_;intro xs ls K h;unfold wC at h;obtain⟨s,nb,nb',n,n',f,f',x,x',rfl,rfl,R,R',X,X',h⟩:=h;refine⟨_,_,h,λD hD=>?_⟩;clear h;unfold bT Aw;cbv;refine⟨s.eU,s.eU,nb,nb',n,n',f,f',by subst hD;rfl,rfl,R,R',λr hr=>?_⟩;cbv;have hr:r=true:=by rw[hr];simp
 refine⟨s.inn,s.inn,bB.nm D x,bB.nm D x',by subst hD;rfl,rfl,by subst hD;exact X,by subst hD;exact X',λr2 bZ=>?_⟩;cbv;have bZ:r2=true:=by rw[bZ];exact Abm _
 refine Ar hD ?_;show ((((((((r&&(s.out==s.out))&&(s.aN==s.aN))&&r2)&&(s.aS==s.aS))&&(s.cM==s.cM))&&(s.phase==s.phase))&&(s.ended==s.ended))&&(s.why==s.why))=true;rw[hr,bZ];simp
theorem Anu{s:Ms}{b:List UInt8}{cl:List Nat}(G:If s)(hp:s.phase≠2):Et s (Dq b 0 cl)=Az s b:=by
 have h1:(s.phase=0\/s.phase=1)/\(s.phase=1↔s.inn.phase=2):=by
  rcases G.right with r|r|r
  .exact⟨.inl r.1,⟨λe=>by omega,λe=>absurd e r.2.2.2⟩⟩
  .exact⟨.inr r.1,⟨λ_=>r.2.2,λ_=>r.1⟩⟩
  .exact absurd r.1 hp
 rw[X5 _ s h1.1 h1.2,Rh b cl 0 (XX _),ZT]
structure PM(s:Ms)(qb:Bool)(ql:Int)(qf:Nat->List SV)(x:bB):Prop where
 rq:M1 s.eU qb ql qf
 v:gD s.inn x
 fn:x.fb=true->s.inn.head.fields=[]
 tn:x.cb=true->s.inn.chunks.aE=[]
 m:s.inn.method.length<=9223372036854775807
def jc:aB:=λ_ xs ls K=>∃(s:Ms) (qb:Bool) (ql:Int) (qf:Nat->List SV) (x:bB) (b:List UInt8) (cl:List Nat) (nl:Bool) (n:Int) (f:Nat->List SV),xs=[.agg (bT (Aw s qb ql qf x)),.str b,.sl (.a nl) (.a n) 1 f]/\ls=[]/\PM s qb ql qf x/\px f n cl/\
 K (.bool (.a true)) []
theorem Yb:Ap Tryz.prog pI 12 λ_D xs ls K=>∃(s:Ms) (qb:Bool) (ql:Int) (qf:Nat->List SV) (x:bB) (b:List UInt8) (_cl:List Nat) (nl:Bool) (n:Int) (f:Nat->List SV),xs=[.agg (bT (Aw s qb ql qf x)),.str b,.sl (.a nl) (.a n) 1 f]/\ls=[]/\PM s qb ql qf x/\Kn s=true/\
  K (.bool (.a true)) []:=by
 refine Bq (gh:=[]) mixed An6 (Aa (C5 Aj9) (Aa Kw (Aa Xq (Aa Ant (Aa (C5 Abo) Ae))))) Tryz.func12 (by kernel_rfl) (by kernel_rfl) ?_;intro xs ls K h;obtain⟨s,qb,ql,qf,x,b,cl,nl,n,f,rfl,rfl,S,hg,h⟩:=h;refine⟨_,_,h,λD hD=>?_⟩;clear h;unfold bT Aw;cbv;refine⟨s,qb,ql,qf,x,by subst hD;rfl,rfl,S.rq,S.v,S.m,hg,?_⟩;cbv;exact Ar hD rfl
theorem Ajv:Ap Tryz.prog pI 12 λ_D xs ls K=>∃(s:Ms) (qb:Bool) (ql:Int) (qf:Nat->List SV) (x:bB) (b:List UInt8) (cl:List Nat) (nl:Bool) (n:Int) (f:Nat->List SV),xs=[.agg (bT (Aw s qb ql qf x)),.str b,.sl (.a nl) (.a n) 1 f]/\ls=[]/\PM s qb ql qf x/\px f n cl/\Kn s=false/\
  K (.bool (.a true)) []:=by
 refine Bq (gh:=[]) mixed An6 (Aa (C5 Ac4) (Aa Kw (Aa Xq (Aa Ant (Aa (C5 Abo) Ae))))) Tryz.func12 (by kernel_rfl) (by kernel_rfl) ?_;intro xs ls K h;obtain⟨s,qb,ql,qf,x,b,cl,nl,n,f,rfl,rfl,S,R,hgr,h⟩:=h;have hCk:CkV s:=(Anl S.m).h hgr;refine⟨_,_,h,λD hD=>?_⟩;clear h;unfold bT Aw;cbv;refine⟨s,qb,ql,qf,x,by subst hD;rfl,rfl,S.rq,S.v,S.m,λg hg=>?_⟩;cbv;refine⟨s,qb,ql,qf,x,by subst hD;rfl,rfl,S.rq,S.v,hCk,λe he=>?_⟩;cbv;refine br hD (λhb=>?_) (λhb=>?_)<;>cbv
 .exact Ar hD rfl
 have hb:(((((g||decide (1500<(b.length:Int)))||decide (60<n))||(e != 0))||(s.phase==2))||s.ended)=false:=by subst hD;exact hb
 simp only[QU,QJ,bne_eq_false_iff_eq,beq_eq_false_iff_ne]at hb;obtain⟨⟨⟨⟨⟨_,c2⟩,c3⟩,c4⟩,hp⟩,jR⟩:=hb;have CO:Aov cl b:=⟨by have:=R.n;omega,by omega⟩;have CO0:Aov [] b:=⟨by decide,by omega⟩;have O:If s:=he.o.1 c4;have G:iL s qb ql qf x:=⟨⟨O,S.rq,S.v⟩,S.fn,S.tn⟩;clear c2 c3 c4 he hg;refine⟨s,qb,ql,qf,x,b,[],true,0,λ_=>[],by subst hD;rfl,rfl,G,hp,jR,⟨rfl,λi hi=>absurd hi (UK i),by decide,λi hi=>absurd hi (UK i)⟩,CO0,λm1 F1=>?_⟩;obtain⟨t1,ry,rz,y1,CR,G1,sw⟩:=F1.o;obtain⟨rfl⟩:=sw;unfold bT Aw;cbv;refine⟨s,qb,ql,qf,x,b,cl,nl,n,f,by subst hD;rfl,rfl,G,hp,jR,R,CO,λm2 F2=>?_⟩;obtain⟨t2,ql2,qf2,y2,lZ,G2,WX⟩:=F2.o;obtain⟨rfl⟩:=WX;have PD:t2=t1:=by rw[lZ.h,CR.h,Anu O hp,Anu O hp]
 subst PD;unfold bT Aw;cbv;refine⟨t2,qb,qb,ry,ql2,rz,qf2,y1,y2,by subst hD;rfl,rfl,G1.g.rq.row,G2.g.rq.row,G1.g.x,G2.g.x,?_⟩;cbv;exact Ar hD rfl
theorem Am5:Ap Tryz.prog pI 12 jc:=by
 refine⟨Yb.1,λxs ls K h=>?_⟩;obtain⟨s,qb,ql,qf,x,b,cl,nl,n,f,h1,h2,S,R,h⟩:=h;rcases YH (Kn s) with g|g
 .exact Yb.2 xs ls K ⟨s,qb,ql,qf,x,b,cl,nl,n,f,h1,h2,S,g,h⟩
 .exact Ajv.2 xs ls K ⟨s,qb,ql,qf,x,b,cl,nl,n,f,h1,h2,S,R,g,h⟩
open Go Go.Sx Go.ChangeShapes Go.WideShapes Go.RowKit
theorem K5:Do Tryz.prog 3 (λn:Int=>[.int .i64 (.a n)]):=.int Tryz.underlying3
theorem Iq:Do Tryz.prog 9 (λs:{s:List UInt8 // s.length<=maxLen}=>[.str s.1]):=.str Tryz.underlying9
theorem ro3{I:Nat->Nat->Prop}{W:World}{s t r:SV}{v u x:Value}(h:RO I W s v)(k:RO I W t u)(l:RO I W r x):∀(i:Nat) (s':SV) (v':Value),[s,t,r][i]?=some s'->[v,u,x][i]?=some v'->RO I W s' v'
 |0,_,_,a,b=>by simp at a b;subst a b;exact h
 |1,_,_,a,b=>by simp at a b;subst a b;exact k
 |2,_,_,a,b=>by simp at a b;subst a b;exact l
 |_+3,_,_,a,_=>by simp at a
abbrev xL:={s:List UInt8 // s.length<=maxLen}
abbrev MJ:={n:Int // (Lit.int .i64 n).wf=true}
abbrev PO:=xL×xL×Unit
def ng(x:PO):List SV:=[.str x.1.1]++([.str x.2.1.1]++[])
abbrev PR:={x:Bool×List PO // x.2.length<=maxLen/\(x.1=true->x.2=[])}
abbrev LZ:=MJ×xL×xL×xL×PR×xL×Unit
def rqC(x:LZ):List SV:=[.int .i64 (.a x.1.1)]++([.str x.2.1.1]++([.str x.2.2.1.1]++([.str x.2.2.2.1.1]++(CI 2 ng x.2.2.2.2.1.1++([.str x.2.2.2.2.2.1.1]++[])))))
theorem FT:Do Tryz.prog 2 (λn:MJ=>[.int .i64 (.a n.1)]):=.GR Tryz.underlying2
theorem kj:Do Tryz.prog 100 ng:=.struct (fs:=[(0,9),(1,9)]) (len:=2) Tryz.underlying100 (by rfl) (by kernel_rfl) (Bt.cons 0 1 1 (by kernel_rfl) Iq (Bt.cons 1 1 0 (by kernel_rfl) Iq Bt.nil))
theorem Afb:Do Tryz.prog 23 (λx:PR=>CI 2 ng x.1):=.bf Tryz.underlying23 (by kernel_rfl) (by decide) kj
theorem xc:Do Tryz.prog 55 rqC:=.struct (fs:=[(0,2),(1,9),(2,9),(3,9),(4,23),(5,9)]) (len:=6) Tryz.underlying55 (by rfl) (by kernel_rfl)
 (Bt.cons 0 1 5 (by kernel_rfl) FT (Bt.cons 1 1 4 (by kernel_rfl) Iq (Bt.cons 2 1 3 (by kernel_rfl) Iq (Bt.cons 3 1 2 (by kernel_rfl) Iq (Bt.cons 4 1 1 (by kernel_rfl) Afb (Bt.cons 5 1 0 (by kernel_rfl) Iq Bt.nil))))))
def Aq(x:PO):HF:=⟨x.1.1,x.2.1.1⟩
def FJ(x:LZ):Rq:=⟨x.1.1,x.2.1.1,x.2.2.1.1,x.2.2.2.1.1,x.2.2.2.2.1.1.2.map Aq,x.2.2.2.2.2.1.1⟩
theorem Hx(x:xL):x.1.length<=9223372036854775807:=XP x.2 (by decide)
theorem Zj(l:List PO)(h:l.length<=maxLen):A0 (Hd ng l) (l.length:Int) (l.map Aq):=by
 refine⟨by rw[XW],λi hi=>?_,by rw[XW];exact XP h (by decide),λi hi=>?_⟩
 .rw[XW]at hi
  unfold Hd;rw[QB hi,QD,QS,QB hi];rfl
 .rw[XW]at hi
  rw[QD,QS,QB hi];exact⟨Hx l[i].1,Hx l[i].2.1⟩
def OG(x:LZ):Nat->List SV:=Hd ng x.2.2.2.2.1.1.2
theorem js(x:LZ):M1 (FJ x) x.2.2.2.2.1.1.1 (x.2.2.2.2.1.1.2.length:Int) (OG x):=by
 have hw:=x.1.2;simp only[Lit.wf,QE,QG]at hw;refine⟨?_,?_,Hx _,Hx _,Hx _,Hx _,Zj _ x.2.2.2.2.1.2.1,λe=>?_⟩
 .exact hw.1
 .exact hw.2
 .show List.map Aq _=[]
  rw[x.2.2.2.2.1.2.2 e];rfl
theorem xb:Do Tryz.prog 57 (λn:Int=>[.int .i64 (.a n)]):=.int Tryz.underlying57
theorem FR:Do Tryz.prog 4 (λb:Bool=>[.bool (.a b)]):=.bool Tryz.underlying4
abbrev RhD:=Int×Int×xL×PR×Unit
def rhC(x:RhD):List SV:=[.int .i64 (.a x.1)]++([.int .i64 (.a x.2.1)]++([.str x.2.2.1.1]++(CI 2 ng x.2.2.2.1.1++[])))
theorem xf:Do Tryz.prog 25 rhC:=.struct (fs:=[(0,3),(1,3),(2,9),(3,23)]) (len:=4) Tryz.underlying25 (by rfl) (by kernel_rfl)
 (Bt.cons 0 1 3 (by kernel_rfl) K5 (Bt.cons 1 1 2 (by kernel_rfl) K5 (Bt.cons 2 1 1 (by kernel_rfl) Iq (Bt.cons 3 1 0 (by kernel_rfl) Afb Bt.nil))))
abbrev ChD:=Int×xL×xL×Int×PR×Unit
def chC(x:ChD):List SV:=[.int .i64 (.a x.1)]++([.str x.2.1.1]++([.str x.2.2.1.1]++([.int .i64 (.a x.2.2.2.1)]++(CI 2 ng x.2.2.2.2.1.1++[]))))
theorem xe:Do Tryz.prog 36 chC:=.struct (fs:=[(0,3),(1,9),(2,9),(3,3),(4,23)]) (len:=5) Tryz.underlying36 (by rfl) (by kernel_rfl)
 (Bt.cons 0 1 4 (by kernel_rfl) K5 (Bt.cons 1 1 3 (by kernel_rfl) Iq (Bt.cons 2 1 2 (by kernel_rfl) Iq (Bt.cons 3 1 1 (by kernel_rfl) K5 (Bt.cons 4 1 0 (by kernel_rfl) Afb Bt.nil)))))
abbrev RdD:=xL×Int×Int×xL×RhD×Int×xL×Int×ChD×Unit
def rv(x:RdD):List SV:=[.str x.1.1]++([.int .i64 (.a x.2.1)]++([.int .i64 (.a x.2.2.1)]++([.str x.2.2.2.1.1]++(rhC x.2.2.2.2.1++([.int .i64 (.a x.2.2.2.2.2.1)]++([.str x.2.2.2.2.2.2.1.1]++([.int .i64 (.a x.2.2.2.2.2.2.2.1)]++(chC x.2.2.2.2.2.2.2.2.1++[]))))))))
theorem xd:Do Tryz.prog 38 rv:=.struct (fs:=[(0,9),(1,3),(2,3),(3,9),(4,25),(8,3),(9,9),(10,3),(11,36)]) (len:=16) Tryz.underlying38 (by rfl) (by kernel_rfl)
 (Bt.cons 0 1 15 (by kernel_rfl) Iq (Bt.cons 1 1 14 (by kernel_rfl) K5 (Bt.cons 2 1 13 (by kernel_rfl) K5 (Bt.cons 3 1 12 (by kernel_rfl) Iq (Bt.cons 4 4 8 (by kernel_rfl) xf (Bt.cons 8 1 7 (by kernel_rfl) K5 (Bt.cons 9 1 6 (by kernel_rfl) Iq (Bt.cons 10 1 5 (by kernel_rfl) K5 (Bt.cons 11 5 0 (by kernel_rfl) xe Bt.nil)))))))))
abbrev PN:=LZ×xL×Int×RdD×Int×Int×Int×Bool×Int×Unit
def bm(x:PN):List SV:=rqC x.1++([.str x.2.1.1]++([.int .i64 (.a x.2.2.1)]++(rv x.2.2.2.1++([.int .i64 (.a x.2.2.2.2.1)]++([.int .i64 (.a x.2.2.2.2.2.1)]++([.int .i64 (.a x.2.2.2.2.2.2.1)]++([.bool (.a x.2.2.2.2.2.2.2.1)]++([.int .i64 (.a x.2.2.2.2.2.2.2.2.1)]++[]))))))))
theorem xa:Do Tryz.prog 59 bm:=.struct (fs:=[(0,55),(6,9),(7,3),(8,38),(24,3),(25,3),(26,3),(27,4),(28,57)]) (len:=29) Tryz.underlying59 (by rfl) (by kernel_rfl)
 (Bt.cons 0 6 23 (by kernel_rfl) xc (Bt.cons 6 1 22 (by kernel_rfl) Iq (Bt.cons 7 1 21 (by kernel_rfl) K5 (Bt.cons 8 16 5 (by kernel_rfl) xd (Bt.cons 24 1 4 (by kernel_rfl) K5 (Bt.cons 25 1 3 (by kernel_rfl) K5 (Bt.cons 26 1 2 (by kernel_rfl) K5 (Bt.cons 27 1 1 (by kernel_rfl) FR (Bt.cons 28 1 0 (by kernel_rfl) xb Bt.nil)))))))))
abbrev PL:={n:Int // (Lit.int .u16 n).wf=true}
def xP(n:PL):List SV:=[.int .u16 (.a n.1)]
theorem wz:Do Tryz.prog 97 xP:=.GR Tryz.underlying97
abbrev CsD:={x:Bool×List PL // x.2.length<=maxLen/\(x.1=true->x.2=[])}
theorem w7:Do Tryz.prog 88 (λx:CsD=>CI 1 xP x.1):=.bf Tryz.underlying88 (by kernel_rfl) (by decide) wz
theorem Agt(n:PL):0<=n.1/\n.1<=65535:=by
 have:=n.2;simpa[Lit.wf,IntKind.min,IntKind.max,IntKind.signed,IntKind.bits] using this
theorem jt(l:List PL)(h:l.length<=maxLen):px (Hd xP l) (l.length:Int) (l.map λn=>n.1.toNat):=by
 refine⟨by rw[XW],λi hi=>?_,by rw[XW];exact XP h (by decide),λi hi=>?_⟩
 .rw[XW]at hi
  unfold Hd;rw[QB hi,QD,QS,QB hi];have:=Agt l[i];simp only[QQ,XD,xP];rw[Int.toNat_of_nonneg this.1]
 .rw[XW]at hi
  rw[QD,QS,QB hi];have:=Agt l[i];simp only[QQ,XD];omega
def TG(x:PN):Ms:=⟨FJ x.1,x.2.1.1,x.2.2.1,⟨x.2.2.2.1.1.1,x.2.2.2.1.2.1,x.2.2.2.1.2.2.1,x.2.2.2.1.2.2.2.1.1,⟨x.2.2.2.1.2.2.2.2.1.1,x.2.2.2.1.2.2.2.2.1.2.1,x.2.2.2.1.2.2.2.2.1.2.2.1.1,x.2.2.2.1.2.2.2.2.1.2.2.2.1.1.2.map Aq⟩,x.2.2.2.1.2.2.2.2.2.1,x.2.2.2.1.2.2.2.2.2.2.1.1,x.2.2.2.1.2.2.2.2.2.2.2.1,
 ⟨x.2.2.2.1.2.2.2.2.2.2.2.2.1.1,x.2.2.2.1.2.2.2.2.2.2.2.2.1.2.1.1,x.2.2.2.1.2.2.2.2.2.2.2.2.1.2.2.1.1,x.2.2.2.1.2.2.2.2.2.2.2.2.1.2.2.2.1,x.2.2.2.1.2.2.2.2.2.2.2.2.1.2.2.2.2.1.1.2.map Aq⟩⟩,x.2.2.2.2.1,x.2.2.2.2.2.1,x.2.2.2.2.2.2.1,x.2.2.2.2.2.2.2.1,x.2.2.2.2.2.2.2.2.1⟩
def SO(x:RdD):bB:=⟨x.1.1,x.2.1,x.2.2.1,x.2.2.2.1.1,x.2.2.2.2.1.1,x.2.2.2.2.1.2.1,x.2.2.2.2.1.2.2.1.1,x.2.2.2.2.1.2.2.2.1.1.1,x.2.2.2.2.1.2.2.2.1.1.2.length,Hd ng x.2.2.2.2.1.2.2.2.1.1.2,x.2.2.2.2.2.1,x.2.2.2.2.2.2.1.1,x.2.2.2.2.2.2.2.1,
 x.2.2.2.2.2.2.2.2.1.1,x.2.2.2.2.2.2.2.2.1.2.1.1,x.2.2.2.2.2.2.2.2.1.2.2.1.1,x.2.2.2.2.2.2.2.2.1.2.2.2.1,x.2.2.2.2.2.2.2.2.1.2.2.2.2.1.1.1,x.2.2.2.2.2.2.2.2.1.2.2.2.2.1.1.2.length,Hd ng x.2.2.2.2.2.2.2.2.1.2.2.2.2.1.1.2⟩
theorem ld(x:PN):SV.agg (bm x)=.agg (bT (Aw (TG x) x.1.2.2.2.2.1.1.1 (x.1.2.2.2.2.1.1.2.length:Int) (OG x.1) (SO x.2.2.2.1))):=rfl
theorem vq(x:PN):PM (TG x) x.1.2.2.2.2.1.1.1 (x.1.2.2.2.2.1.1.2.length:Int) (OG x.1) (SO x.2.2.2.1):=by
 refine⟨js x.1,⟨rfl,rfl,rfl,rfl,rfl,rfl,rfl,Zj _ x.2.2.2.1.2.2.2.2.1.2.2.2.1.2.1,rfl,rfl,rfl,rfl,rfl,⟨rfl,rfl,Zj _ x.2.2.2.1.2.2.2.2.2.2.2.2.1.2.2.2.2.1.2.1⟩⟩,λe=>?_,λe=>?_,Hx _⟩
 .show List.map Aq _=[]
  rw[x.2.2.2.1.2.2.2.2.1.2.2.2.1.2.2 e];rfl
 .show List.map Aq _=[]
  rw[x.2.2.2.1.2.2.2.2.2.2.2.2.1.2.2.2.2.1.2.2 e];rfl
end Go.Proofs.YtdoogdbjiijifaaGreatDoor
