/- A part of the proof: contracts of functions, or the executor and its soundness. No conditions. -/
import Derived.Test.YtdoogdbjiijifaaGreatDoorE8Paw
import Derived.Test.YtdoogdbjiijifaaGreatDoorE8Pbb
import Derived.Test.YtdoogdbjiijifaaGreatDoorE8Pbc
import Derived.Test.YtdoogdbjiijifaaGreatDoorE8Pas
import Derived.Test.YtdoogdbjiijifaaGreatDoorE8Pat
namespace Go.Proofs.YtdoogdbjiijifaaGreatDoor
open Go Go.Sx
set_option maxRecDepth 100000
theorem Ru{P:Go.Program}{gl:List (Nat×SV)}{f:Go.FuncId}{as1 as2:List SV}{ls:List Hl}{r:SV}{aK:List Hl}(h:iM as1 as2)(c:E4 P gl f as2 ls r aK):E4 P gl f as1 ls r aK :=
 λB E w aX hw hI dV hb hg hh hr=>c B E w aX hw hI dV hb hg hh (h E w aX hr)
def u4(l:List HF)(i:Nat):List SV:=Dw (l.getD i default)
variable {f:Nat->List SV}{n:Int}{l:List HF}{nl k:Bool}
theorem A5.total(R:A5 f n l):A5 (u4 l) n l:=⟨R.n,λ_ _=>rfl,R.len,R.small⟩
theorem u6(R:A5 f n l):aO (.sl (.a nl) (.a n) 2 f) (.sl (.a nl) (.a n) 2 (u4 l)):=by
 refine .sl rfl rfl λi hi=>?_;have hi:(i:Int)<n:=hi;rw[R.f i (by have:=R.n;omega)];rfl
set_option maxHeartbeats 8000000
def Zj(n:Int):List HF->Int->Bool
 | [],c=>decide (3000<c)
 |x :: l,c=>if decide (3000<(x.name.length:Int))||decide (3000<(x.value.length:Int)) then true else Zj n l (c+x.name.length+x.value.length)
def mo(l:List HF):Bool:=if decide (60<(l.length:Int)) then true else Zj 0 l 0
structure Ank(l:List HF)(r:Bool):Prop where
 h:r=mo l
def oZ:aB:=λ_ xs ls K=>∃(l:List HF) (nl:Bool) (n:Int) (f:Nat->List SV),xs=[.sl (.a nl) (.a n) 2 f]/\ls=[]/\A5 f n l/\(∀j,f j=Dw (l.getD j default))/\∀r,Ank l r->K (.bool (.a r)) []
structure FdC(c C:Int)(x:HF):Prop where
 e:c=C+x.name.length+x.value.length
 n:x.name.length<=3000
 v:x.value.length<=3000
structure FdL(l:List HF)(k:Bool)(i:Nat)(I C:Int)(m:Nat):Prop where
 bY:AtR l i I m
 le:l.length<=60
 c0:0<=C
 cc:C<=6000 * i
 k:k=Zj 0 (l.drop i) C
def fmJ(l:List HF)(k nl:Bool)(n:Int)(f:Nat->List SV)(m:Nat)(vs:List (Option SV))(hp:List Hl):Prop :=
 ∃(i:Nat) (I C:Int),vs=[some (.sl (.a nl) (.a n) 2 f),some (.int .i64 (.a C)),some (.int .i64 (.a I))]/\hp=[]/\FdL l k i I C m
theorem U5:Ap Tryz.prog gl 88 oZ:=by
 refine Bv (gh:=[]) mixed Zs Ae Tryz.func88 (by kernel_rfl) (by kernel_rfl) ?_;intro xs ls K h;unfold oZ at h;obtain⟨l,nl,n,f,rfl,rfl,R,hT,h⟩:=h;obtain⟨k,hk⟩:∃k,k=mo l:=⟨_,rfl⟩;refine⟨_,_,h k ⟨hk⟩,λD hD=>?_⟩;clear h;unfold mo at hk;cbv;refine br hD (λh=>?_) (λh=>?_)<;>cbv
 .have h:decide (60<n)=true:=by subst hD;exact h
  rw[R.n]at h;rw[QB h]at hk;exact Aw hD hk.symm
 have h:decide (60<n)=false:=by subst hD;exact h
 rw[R.n]at h;rw[h]at hk;have hk:k=Zj 0 l 0:=hk;have hl:l.length<=60:=by have:=QW h;omega
 clear h;obtain⟨J,hJ⟩:∃J,J=fmJ l k nl n f:=⟨_,rfl⟩;refine⟨[0,3,4],J,⟨rfl,l.length,?_⟩,?_⟩
 .rw[hJ]
  subst hD;exact⟨0,0,0,rfl,rfl,⟨AtR.zero R.len,hl,by omega,by omega,hk⟩⟩
 clear hk hl;intro m vs hp hv;rw[hJ]at hv;obtain⟨i,I,C,rfl,rfl,V⟩:=hv;cbv;refine br hD (λh=>?_) (λh=>?_)<;>cbv
 .have aC:=V.bY.lt R.n (QT (p:=I<n) h)
  clear h;refine⟨V.bY.fS hD R.n aC,λj hj=>?_⟩;obtain rfl:=V.bY.j hD hj;clear hj;obtain⟨x,hx⟩:∃x,x=l.getD j default:=⟨_,rfl⟩;have hk:=V.k;rw[Hb (d:=default) aC,<-hx,Zj]at hk;have e:=hT j;rw[<-hx]at e;cbv;rw[e];cbv;refine⟨λ_=>V.bY.fS hD R.n aC,λj2 sV=>?_⟩;have sV:(decide (3000<(x.name.length:Int)))=false->j2=j:=λh0=>V.bY.j hD (sV (by subst hD;show (!decide (3000<(x.name.length:Int)))=true;rw[h0];rfl));obtain⟨y,hy⟩:∃y,y=l.getD j2 default:=⟨_,rfl⟩;have e2:=hT j2;rw[<-hy]at e2;cbv;rw[e2];cbv;have dD:(decide (3000<(x.name.length:Int))||decide (3000<(y.value.length:Int)))=(decide (3000<(x.name.length:Int))||decide (3000<(x.value.length:Int))):=by
   cases h0:decide (3000<(x.name.length:Int)) with
   |true=>rfl
   |false=>rw[hy,sV h0,<-hx]
  refine br hD (λh=>?_) (λh=>?_)<;>cbv
  .have h:(decide (3000<(x.name.length:Int))||decide (3000<(y.value.length:Int)))=true:=by subst hD;exact h
   rw[dD]at h;rw[QB h]at hk;exact Aw hD hk.symm
  have h:(decide (3000<(x.name.length:Int))||decide (3000<(y.value.length:Int)))=false:=by subst hD;exact h
  rw[dD]at h;rw[h]at hk;have hk:k=Zj 0 (l.drop (j+1)) (C+x.name.length+x.value.length):=hk;obtain⟨c,hc,hk⟩:∃c,FdC c C x/\k=Zj 0 (l.drop (j+1)) c:=by
   rw[XC,QL,QL]at h;have h1:¬3000<(x.name.length:Int):=h.1;have h2:¬3000<(x.value.length:Int):=h.2;exact⟨_,⟨rfl,by omega,by omega⟩,hk⟩
  clear h dD sV hy e2;refine⟨V.bY.fS hD R.n aC,λj1 h1=>?_⟩;obtain rfl:=V.bY.j hD h1;clear h1;cbv;rw[e];cbv;refine⟨V.bY.fS hD R.n aC,λj1 h1=>?_⟩;obtain rfl:=V.bY.j hD h1;clear h1;cbv;rw[e];cbv;refine⟨l.length-(j1+1),(V.bY.step hD aC).1,?_⟩;rw[hJ];have mL:=V.c0;have qD:=V.cc;have hle:=V.le;have hw:IntKind.i64.wrap (IntKind.i64.wrap (C+(x.name.length:Int))+(x.value.length:Int))=c:=by
   have:=hc.e;have:=hc.n;have:=hc.v;rw[wrap64 (n:=C+(x.name.length:Int)) (by omega) (by omega),wrap64 (by omega) (by omega)];exact hc.e.symm
  subst hD;refine⟨j1+1,_,_,rfl,rfl,⟨(V.bY.step rfl aC).2,hle,?_,?_,?_⟩⟩
  .show 0<=IntKind.i64.wrap (IntKind.i64.wrap (C+(x.name.length:Int))+(x.value.length:Int))
   rw[hw,hc.e];omega
  .show IntKind.i64.wrap (IntKind.i64.wrap (C+(x.name.length:Int))+(x.value.length:Int))<=_
   have:=hc.e;have:=hc.n;have:=hc.v;rw[hw,hc.e];omega
  .show k=Zj 0 _ (IntKind.i64.wrap (IntKind.i64.wrap (C+(x.name.length:Int))+(x.value.length:Int)))
   rw[hw];exact hk
 .have hi:=V.bY.eq R.n (QW (p:=I<n) h)
  have hk:=V.k;rw[hi,XQ,Zj]at hk;exact Aw hD hk.symm
def PJ(r:Rq):Bool:=((((decide (100<(r.method.length:Int))||decide (600<(r.target.length:Int)))||decide (200<(r.host.length:Int)))||decide (1500<(r.body.length:Int)))||mo r.fields)
structure tm(r:Rq)(b:Bool):Prop where
 h:b=PJ r
def yQ:aB:=λ_ xs ls K=>∃(r:Rq) (nl:Bool) (n:Int) (f:Nat->List SV),xs=[.agg [.int .i64 (.a r.id),.str r.method,.str r.target,.str r.host,.sl (.a nl) (.a n) 2 f,.str r.body]]/\ls=[]/\Pn r nl n f/\∀b,tm r b->K (.bool (.a b)) []
def xA:aB:=λ_ xs ls K=>∃(l:List HF) (nl:Bool) (n:Int) (f:Nat->List SV),xs=[.sl (.a nl) (.a n) 2 f]/\ls=[]/\A5 f n l/\∀r,Ank l r->K (.bool (.a r)) []
theorem Acp:Ap Tryz.prog gl 88 xA:=by
 refine⟨U5.1,λxs ls K h=>?_⟩;obtain⟨l,nl,n,f,rfl,rfl,R,h⟩:=h;obtain⟨v,aK,hK,hc⟩:=U5.2 _ [] K ⟨l,nl,n,u4 l,rfl,rfl,R.total,λ_=>rfl,h⟩;exact⟨v,aK,hK,Ru (iM.cons (u6 R) iM.nil) hc⟩
structure VB(k c:Bool)(me ta ho bo:List UInt8):Prop where
 h:k=((((decide (100<(me.length:Int))||decide (600<(ta.length:Int)))||decide (200<(ho.length:Int)))||decide (1500<(bo.length:Int)))||c)
theorem ij:Ap Tryz.prog gl 29 yQ:=by
 refine Bv (gh:=[]) mixed Zs (Ab Acp Ae) Tryz.func29 (by kernel_rfl) (by kernel_rfl) ?_;intro xs ls K h;unfold yQ at h;obtain⟨r,nl,n,f,rfl,rfl,R,h⟩:=h;obtain⟨id,me,ta,ho,fs,bo⟩:=r;have hR:A5 f n fs:=R.row;obtain⟨c,qD⟩:∃c,Ank fs c:=⟨_,⟨rfl⟩⟩;obtain⟨k,hk,bC⟩:∃k,tm ⟨id,me,ta,ho,fs,bo⟩ k/\VB k c me ta ho bo:=⟨_,⟨rfl⟩,⟨by rw[qD.h];rfl⟩⟩;have h:=h k hk;clear hk R;refine⟨_,_,h,λD hD=>?_⟩;cbv;refine⟨fs,_,_,f,rfl,rfl,by subst hD;exact hR,λz hz=>?_⟩;cbv;have hz:z=c:=hz.h.trans qD.h.symm;subst hz;exact Aw hD bC.h.symm
set_option maxHeartbeats 16000000
def OM(s:Ms)(n:Int):List UInt8×Int:=if n<0 then ([],7) else if s.phase=2 then ([],9) else ((s.out.drop s.aS.toNat).take n.toNat,0)
structure KV(s:Ms)(n:Int)(t:List UInt8)(e:Int):Prop where
 h:(t,e)=OM s n
def vT:aB:=λ_ xs ls K=>∃(s:Ms) (qb:Bool) (ql:Int) (qf:Nat->List SV) (x:bN) (n:Int),xs=[.agg (cG (Ay s qb ql qf x)),.int .i64 (.a n)]/\ls=[]/\jA s qb ql qf x/\
 ∀t e,KV s n t e->K (.aJ [.str t,.int .i64 (.a e)]) []
theorem Alm:Ap Tryz.prog qT 35 vT:=by
 refine Bv (gh:=[]) mixed Ds (Ab Jt Ae) Tryz.func35 (by kernel_rfl) (by kernel_rfl) ?_;intro xs ls K h;unfold vT at h;obtain⟨s,qb,ql,qf,x,n,rfl,rfl,G,h⟩:=h;obtain⟨k,hk⟩:∃k,k=OM s n:=⟨_,rfl⟩;obtain⟨t,e⟩:=k;unfold OM at hk;refine⟨_,_,h t e ⟨hk⟩,λD hD=>?_⟩;clear h;unfold cG Ay;cbv;refine⟨s,qb,ql,qf,x,by subst hD;rfl,rfl,G.g,?_⟩;cbv;refine br hD (λhb=>?_) (λhb=>?_)<;>cbv
 .exfalso
  have hb:((0:Int) != 0)=true:=by subst hD;exact hb
  cases hb
 clear hb;refine br hD (λhb=>?_) (λhb=>?_)<;>cbv
 .have hb:n<0:=by
   have hb:decide (n<0)=true:=by subst hD;exact hb
   exact QT hb
  rw[QB hb]at hk;obtain⟨rfl,rfl⟩:=Prod.mk.inj hk;subst hD;exact C6 (aO.refl _)
 have h0:¬n<0:=by
  have hb:decide (n<0)=false:=by subst hD;exact hb
  exact QW hb
 rw[QA h0]at hk;clear hb;refine br hD (λhb=>?_) (λhb=>?_)<;>cbv
 .have hb:s.phase=2:=by
   have hb:(s.phase==2)=true:=by subst hD;exact hb
   exact eq_of_beq hb
  rw[QB hb]at hk;obtain⟨rfl,rfl⟩:=Prod.mk.inj hk;subst hD;exact C6 (aO.refl _)
 have h2:s.phase≠2:=by
  have hb:(s.phase==2)=false:=by subst hD;exact hb
  simpa using hb
 rw[QA h2]at hk;clear hb;have kU:=G.g.ok.s0;have cA:=G.g.ok.s1;refine⟨by subst hD;exact⟨by show (0:Int)<=s.aS;exact kU,by show s.aS<=(s.out.length:Int);exact cA,by show (s.out.length:Int)<=s.out.length;omega⟩,λu hu=>?_⟩;cbv;have j8:u=s.out.drop s.aS.toNat:=by
  have h1:u=(s.out.drop s.aS.toNat).take (((s.out.length:Int)).toNat-s.aS.toNat):=by subst hD;exact hu.h
  rw[h1,XI (by rw[QY];omega)]
 intro r hr;cbv;have dB:r=min n (u.length:Int):=by subst hD;exact hr.h
 refine⟨by subst hD;exact⟨by show (0:Int)<=0;omega,by show (0:Int)<=r;omega,by show r<=(u.length:Int);omega⟩,λu2 FZ=>?_⟩;cbv;have wj:u2=u.take n.toNat:=by
  have h1:u2=(u.drop (0:Int).toNat).take (r.toNat-(0:Int).toNat):=by subst hD;exact FZ.h
  rw[h1,dB];simp only[Int.toNat_zero,ZY,Nat.sub_zero];rw[show (min n (u.length:Int)).toNat=min n.toNat u.length by omega];rw[<-UT,YQ]
 rw[<-j8,<-wj]at hk;obtain⟨rfl,rfl⟩:=Prod.mk.inj hk;subst hD;exact C6 (aO.refl _)
def gK(s:Ms)(v:dN):Ms:=if Cc s (gA v)=0 then A4 s (gA v) else s
structure KT(s:Ms)(x:bN)(l:List dN)(qb:Bool)(m:fA):Prop where
 o:∃(t:Ms) (ql:Int) (qf:Nat->List SV) (y:bN),qW t (l.foldl gK s)/\jA t qb ql qf y/\jO m (Ay t qb ql qf y)/\dI s.inn x t.inn y
theorem dI.trans{s t u:Rs}{x y z:bN}(Q:dI s x t y)(R:dI t y u z):dI s x u z:=by
 refine⟨R.g,⟨?_,?_⟩,λh=>?_,λh=>?_⟩
 .rw[R.n.f,Q.n.f]
  by_cases ht:t.phase=0
  .have hs:s.phase=0:=Decidable.byContradiction λg=>(Q.a g).1 ht
   by_cases hu:u.phase=0
   .rw[QA (λh=>h.1 hu),QA (λh=>h.1 ht),QA (λh=>h.1 hu)]
   .rw[QB ⟨hu,ht⟩,QB ⟨hu,hs⟩]
  .obtain⟨p2,p1⟩:=R.a ht
   rw[QA (λh=>ht h.2)]
   by_cases hs:s.phase=0
   .rw[QB ⟨ht,hs⟩,QB ⟨p2,hs⟩,p1]
   .rw[QA (λh=>hs h.2),QA (λh=>hs h.2)]
 .rw[R.n.c,Q.n.c]
  unfold jS
  by_cases ht:t.chunks.phase=4
  .rw[R.c ht]
   rw[QA (λh=>h.2 ht)]
  .have hs:s.chunks.phase≠4:=λg=>ht (by rw[Q.c g];exact g)
   by_cases hu:u.chunks.phase=4
   .rw[QB ⟨hu,ht⟩,QB ⟨hu,hs⟩]
   .rw[QA (λh=>hu h.1),QA (λh=>ht h.1),QA (λh=>hu h.1)]
 .obtain⟨q1,q2⟩:=Q.a h
  obtain⟨p1,p2⟩:=R.a q1;exact⟨p1,p2.trans q2⟩
 .have h1:=Q.c h
  rw[R.c (by rw[h1];exact h),h1]
theorem jA.stay{s:Ms}{qb:Bool}{ql:Int}{qf:Nat->List SV}{x y:bN}(G:jA s qb ql qf x)(Q:dI s.inn x s.inn y):jA s qb ql qf y :=
 ⟨⟨G.g.ok,G.g.rq,Q.g.v⟩,Q.g.fn,Q.g.tn⟩
theorem Zi{s0:Rs}{x0:bN}:∀(l:List dN) (s:Ms) (x:bN),dI s0 x0 s.inn x->∃y,dI s0 x0 (l.foldl gK s).inn y
 | [],s,x,Q=>⟨x,Q⟩
 |v :: l,s,x,Q=>by
  have:∃y,dI s0 x0 (gK s v).inn y:=by
   unfold gK
   split
   .exact Vo Q
   .exact⟨x,Q⟩
  obtain⟨y,R⟩:=this;exact Zi l _ y R
def JP(s:Ms)(l:List dN)(k:Nat):List SV:=[.int .i64 (.a (Cc ((l.take k).foldl gK s) (gA (l.getD k pY))))]
structure ae6(N:Int)(l:List dN):Prop where
 h:N=l.length
structure PlJ(l:List dN)(s0 s t:Ms)(x0:bN)(qb:Bool)(ql:Int)(qf:Nat->List SV)(y:bN)(i:Nat)(I:Int)(m:Nat)(n:Int)(b:Bool)(f:Nat->List SV):Prop where
 at_:AtR l i I m
 se:s=(l.take i).foldl gK s0
 q:dI s0.inn x0 s.inn y
 r:jA s qb ql qf y
 len:n=i
 bb:b=decide (i=0)
 row:∀k,k<i->f k=JP s0 l k
def pyJ(l:List dN)(nl:Bool)(N:Int)(F:Nat->List SV)(s0 t:Ms)(x0:bN)(qb:Bool)(ql:Int)(qf:Nat->List SV)(c0:List SV)(m:Nat)(vs:List (Option SV))(hp:List Hl):Prop :=
 ∃(s:Ms) (y:bN) (i:Nat) (I n:Int) (b:Bool) (f:Nat->List SV),vs=[some (.ptr 1 0),some (.ptr 2 0),some (.dQ (.a b) (.a n) 1 f 3),some (.sl (.a nl) (.a N) 4 F),some (.int .i64 (.a N)),some (.int .i64 (.a I))]/\
  hp=[.aG 59 c0,.aG 59 (cG BM),.aG 144 (cG (Ay s qb ql qf y)),.tail 28 (.a n) 1]/\PlJ l s0 s t x0 qb ql qf y i I m n b f
def vS:aB:=λ_ xs ls K=>∃(s:Ms) (qb:Bool) (ql:Int) (qf:Nat->List SV) (x:bN) (l:List dN) (nl:Bool) (n:Int) (f:Nat->List SV),xs=[.agg (cG (Ay s qb ql qf x)),.sl (.a nl) (.a n) 4 f]/\ls=[]/\jA s qb ql qf x/\Po f n l/\l.length<=500/\(∀v∈l,v.bytes.length<=1000000)/\
 ∀m nb N g,KT s x l qb m->K (.aJ [.sl (.a nb) (.a N) 1 g,.agg (cG m),.int .i64 (.a 0)]) []
def ttP:List (Nat×TI):=(76,⟨.slice 28,1,24,[(.sl (.l true) (.l 0) 1 λ_=>[])]⟩) :: MS
theorem ug:Sx.yK Tryz.prog ttP=true:=by kernel_rfl
theorem Amu{eD:List (Nat×aB)}{gl:List (Nat×SV)}{gh:List (Nat×List Gh)}{its:List (Nat×(aB->aB))}{yl:List aB}:Az Tryz.prog ⟨dn,ttP,eD,gl,eqs,gh,its,yl⟩:=by
 refine⟨rfl,ug,λt ht=>?_⟩;simp only[eqs,XS,YA,or_false]at ht;rcases ht with rfl
 all_goals
  refine⟨?_,?_,?_⟩
  .kernel_rfl
  .kernel_rfl
  .decide
theorem Ak7:Ap Tryz.prog qT 43 vS:=by
 refine Bq (gh:=[(7,[.attach 9 28])]) mixed Amu (Ab Jt (Al (Df Agh) (Al (Df Aal) Ae))) Tryz.func43 (by kernel_rfl) (by kernel_rfl) ?_;intro xs ls K h;unfold vS at h;obtain⟨s,qb,ql,qf,x,l,nl,n,f,rfl,rfl,G,E,hl,fX,h⟩:=h;obtain⟨g1,n1,C1⟩:∃g n,Ia g n s.jH.fields:=⟨_,_,⟨rfl,rfl⟩⟩;obtain⟨g2,n2,C2⟩:∃g n,Ia g n s.inn.head.fields:=⟨_,_,⟨rfl,rfl⟩⟩;obtain⟨g3,n3,C3⟩:∃g n,Ia g n s.inn.chunks.aE:=⟨_,_,⟨rfl,rfl⟩⟩;have G1:=G.own C1 C2 C3;obtain⟨t,ht⟩:∃t,qW t (l.foldl gK s):=⟨_,⟨rfl⟩⟩;obtain⟨y0,Q0⟩:∃y0,dI s.inn (DF x g2 n2 g3 n3) t.inn y0:=by
  rw[ht.h];exact Zi l s _ (dI.refl G1.rs)
 have hT:∀(l:List dN) (s:Ms),Pp s->Pp (l.foldl gK s)/\(l.foldl gK s).jH=s.jH:=by
  intro l
  induction l with
  |nil=>intro s h;exact⟨h,rfl⟩
  |cons v l ih =>
   intro s h;have:Pp (gK s v)/\(gK s v).jH=s.jH:=by
    unfold gK
    split
    .rename_i e;exact⟨Ng h e,(Ny s (gA v)).jH⟩
    .exact⟨h,rfl⟩
   obtain⟨a,b⟩:=ih (gK s v) this.1;exact⟨a,b.trans this.2⟩
 have GT:jA t qb n1 g1 y0:=by
  obtain⟨a,b⟩:=hT l s G.g.ok;rw[<-ht.h]at a b;exact⟨⟨a,by rw[b];exact G1.g.rq,Q0.g.v⟩,Q0.g.fn,Q0.g.tn⟩
 obtain⟨m0,gF⟩:∃m0,jO m0 (Ay t qb n1 g1 y0):=⟨_,⟨rfl⟩⟩;have hO:=G.EJ;obtain⟨kb,kY⟩:∃b,b=decide (l.length=0):=⟨_,rfl⟩;obtain⟨kN,hkN⟩:∃N,ae6 N l:=⟨(l.length:Int),⟨rfl⟩⟩;obtain⟨kg,hkg⟩:∃g,g=JP s l:=⟨_,rfl⟩;have h:=h m0 kb kN kg ⟨t,n1,g1,y0,ht,GT,gF,⟨Q0.g,⟨Q0.n.f,Q0.n.c⟩,Q0.a,Q0.c⟩⟩;have hMs:∀s':Ms,jA s' qb n1 g1 y0->True:=λ_ _=>trivial;refine⟨_,_,h,λD hD=>?_⟩;clear h hT hMs;unfold cG Ay;cbv;refine⟨s,qb,ql,qf,x,by subst hD;rfl,rfl,G.g,?_⟩;cbv;refine br hD (λhb=>?_) (λhb=>?_)<;>cbv
 .exfalso
  have hb:((0:Int) != 0)=true:=by subst hD;exact hb
  cases hb
 clear hb;refine br hD (λhb=>?_) (λhb=>?_)<;>cbv
 .exfalso
  have hb:decide (500<n)=true:=by subst hD;exact hb
  have:=QT hb;have:=E.n;omega
 clear hb;refine⟨Ay s qb ql qf x,s.jH.fields,s.inn.head.fields,s.inn.chunks.aE,by subst hD;rfl,rfl,hO,λa1 m1 a2 m2 a3 m3 A1 A2 A3=>?_⟩;cbv;obtain⟨rfl,rfl⟩:=A1.eq C1;obtain⟨rfl,rfl⟩:=A2.eq C2;obtain⟨rfl,rfl⟩:=A3.eq C3;obtain⟨J,hJ⟩:∃J,J=pyJ l nl n f s t (DF x a2 m2 a3 m3) qb m1 a1 (cG (Ay s qb ql qf x)):=⟨_,rfl⟩;refine⟨[5,8,9,24,25,26],J,⟨rfl,l.length,?_⟩,?_⟩
 .rw[hJ]
  subst hD;refine⟨s,DF x a2 m2 a3 m3,0,0,0,true,λ_=>[],rfl,rfl,⟨AtR.zero E.len,rfl,dI.refl G1.rs,G1,rfl,rfl,λk hk=>absurd hk (by omega)⟩⟩
 have hQ0:=Q0;clear G1 Q0;intro m9 vs hp hv;rw[hJ]at hv;obtain⟨s1,y,i,I,N,b,F,e1,e2,V⟩:=hv;subst e1;unfold cG Ay at e2;cbv at e2;subst e2;cbv;refine br hD (λhb=>?_) (λhb=>?_)<;>cbv
 .have aC:=V.at_.lt E.n (QT (p:=I<n) hb)
  have hs:=V.at_.step hD aC;clear hb;have fS:=V.at_.fS hD E.n aC;refine⟨fS,λj hj=>?_⟩;obtain rfl:=V.at_.j hD hj;clear hj;obtain⟨v,hv⟩:∃v,v=l.getD j pY:=⟨_,rfl⟩;have RY:v.bytes.length<=1000000:=by
   rw[hv,QD,QC aC];exact fX _ (XL aC)
  have ef:=E.f j aC;rw[<-hv]at ef;cbv;rw[ef];cbv;obtain⟨e0,mK⟩:∃e,e=Cc s1 (gA v):=⟨_,rfl⟩;obtain⟨t1,NC⟩:∃t,qW t (if e0=0 then A4 s1 (gA v) else s1):=⟨_,⟨rfl⟩⟩;have fE:t1=gK s1 v:=by rw[NC.h,mK];rfl
  refine⟨s1,qb,m1,a1,y,v,e0,t1,by subst hD;rfl,by subst hD;rfl,V.r.evV,V.r.DS RY mK NC,λy2 m2 Q hm=>?_⟩;cbv;obtain⟨rfl⟩:=hm;intro g hg;cbv;have wM:g 0=[.int .i64 (.a e0)]:=by subst hD;exact hg.h 0 _ rfl
  clear hg;refine⟨by have hN:=V.len;subst hD;exact⟨rfl,by show (N+1) * 8<=_;omega,by show N+1<=_;omega⟩,λf' n' hm=>?_⟩;cbv;have M:Mn f' n' N 1 F g:=by subst hD;exact hm
  clear hm;have NP:jA t1 qb m1 a1 y2:=by
   by_cases g:e0=0
   .exact V.r.next (mK.symm.trans g) ⟨by rw[NC.h,QB g]⟩ Q
   .have e:t1=s1:=by rw[NC.h,QA g]
    subst e;exact V.r.stay Q
  have GH:t1=(l.take (j+1)).foldl gK s:=by
   rw[UK,QC aC,List.foldl_append,<-V.se,fE,hv,QD,QC aC];rfl
  refine⟨_,hs.1,?_⟩;rw[hJ];subst hD;refine⟨t1,y2,j+1,_,n',(b&&false),f',rfl,rfl,⟨hs.2,GH,V.q.trans Q,NP,?_,?_,λk hk=>?_⟩⟩
  .have hN:=V.len
   rw[M.len,hN];push_cast;rfl
  .rw[ZM];exact (YI (by omega)).symm
  .have hN:=V.len
   by_cases g:k<j
   .rw[M.lo k (by omega),V.row k g]
   .obtain rfl:k=j:=by omega
    rw[M.hi k 0 (by omega) (by omega),wM,mK,V.se,hv];rfl
 .have hi:=V.at_.eq E.n (QW (p:=I<n) hb)
  have iJ:=V.len;have bU:=V.bb;have GH:=V.se;rw[hi,YQ,<-ht.h]at GH;have aI:=V.row;rw[hi]at aI iJ bU;have T2:Twin t.inn y y0:=by have:=V.q;rw[GH]at this;exact this.eO hQ0
  have hm:=gF.h;subst hm;subst GH hD;refine C6 (.aJ (.cons (.sl (by exact bU.trans kY.symm) (by exact iJ.trans hkN.h.symm) λk hk=>?_) (.cons (.agg (MO (c:=Ay s1 qb m1 a1 y) T2)) (.cons (Ai rfl) .nil))));have hk:(k:Int)<N:=hk;rw[hkg];exact aI k (by omega)
def rC:aB:=λ_ xs ls K=>∃(n:Int),xs=[.int .i64 (.a n)]/\ls=[]/\∀v:dN,v=⟨1,n,[],0⟩->K (lH v) []
theorem Ahz:Ap Tryz.prog gl 46 rC:=by
 refine Bv (gh:=[]) mixed Ds Ae Tryz.func46 (by kernel_rfl) (by kernel_rfl) ?_;intro xs ls K h;unfold rC at h;obtain⟨n,rfl,rfl,h⟩:=h;refine⟨_,_,h _ rfl,λD hD=>?_⟩;clear h;unfold lH;cbv;subst hD;exact C6 (.agg (.cons (Ai rfl) (.cons (Ai rfl) (.cons (aO.refl _) (.cons (Ai rfl) .nil)))))
def vX:aB:=λ_ xs ls K=>∃(b:List UInt8),xs=[.str b]/\ls=[]/\∀v:dN,v=⟨2,0,b,0⟩->K (lH v) []
theorem Ame:Ap Tryz.prog gl 47 vX:=by
 refine Bv (gh:=[]) mixed Ds Ae Tryz.func47 (by kernel_rfl) (by kernel_rfl) ?_;intro xs ls K h;unfold vX at h;obtain⟨n,rfl,rfl,h⟩:=h;refine⟨_,_,h _ rfl,λD hD=>?_⟩;clear h;unfold lH;cbv;subst hD;exact C6 (.agg (.cons (Ai rfl) (.cons (Ai rfl) (.cons (aO.refl _) (.cons (Ai rfl) .nil)))))
def pj:Rq:=⟨7,[71,69,84],[47],[104],[],[]⟩
def EL:List UInt8:=(Bw pj).1
def sE:Ms:=vu pj EL 100 10
theorem exE:Kq pj 100 10=(pj,EL,[71,69,84],100,10,0):=by kernel_rfl
theorem aa5:(Bw pj).2=0:=by kernel_rfl
theorem aa4:Wp 100 10=true:=by kernel_rfl
theorem Akt:Pn pj nl 0 f:=by
 refine⟨by decide,by decide,by decide,by decide,by decide,by decide,⟨rfl,λi hi=>absurd hi (Nat.not_lt_zero i),by decide,λi hi=>absurd hi (Nat.not_lt_zero i)⟩,λ_=>rfl⟩
theorem DZ:jA sE true 0 (λ_=>[]) (Oc [71,69,84]) :=
 Alp (nl:=true) (f:=λ_=>[]) Akt aa5 aa4 ⟨rfl,λi hi=>absurd hi (Nat.not_lt_zero i),by decide,λi hi=>absurd hi (Nat.not_lt_zero i)⟩ rfl
def o9:aB:=λ_ xs ls K=>xs=[]/\ls=[]/\∀s x,qW s sE->x=Oc [71,69,84]->jA s true 0 (λ_=>[]) x->K (.aJ [.agg (cG (Ay s true 0 (λ_=>[]) x)),.int .i64 (.a 0)]) []
theorem Aml:Ap Tryz.prog qT 89 o9:=by
 refine Bv (gh:=[]) mixed Ds (Ab Yf Ae) Tryz.func89 (by kernel_rfl) (by kernel_rfl) ?_;intro xs ls K h;unfold o9 at h;obtain⟨rfl,rfl,h⟩:=h;obtain⟨s0,kU⟩:∃s,qW s sE:=⟨_,⟨rfl⟩⟩;have G0:jA s0 true 0 (λ_=>[]) (Oc [71,69,84]):=by
  rw[kU.h];exact DZ
 refine⟨_,_,h s0 _ kU rfl G0,λD hD=>?_⟩;clear h G0;unfold cG Ay;cbv;refine⟨pj,true,0,λ_=>[],100,10,by subst hD;rfl,rfl,Akt,λq out m a1 b1 e nb n1 f1 k1 R1 hn=>?_⟩;rw[exE]at k1;simp only[Prod.mk.injEq]at k1;obtain⟨rfl,ho,rfl,rfl,rfl,rfl⟩:=k1;unfold PY;cbv;have xU:=R1.n;have e0:=kU.h;subst e0;subst ho hn hD;exact C6 (.aJ (.cons (jl (q:=pj) rfl (.sl rfl (by exact xU) λi hi=>absurd hi (by show ¬(i:Int)<n1;have:n1=0:=xU;omega)) rfl rfl rfl rfl rfl rfl rfl rfl rfl rfl rfl rfl rfl rfl rfl rfl rfl rfl _ _ rfl) (.cons (Ai rfl) .nil)))
structure KZ(l:List dN)(c:VC)(k:Bool):Prop where
 h:∃t x,qW t (l.foldl gK sE)/\iU t.inn x/\c=Gp t x/\k=decide (t.phase≠0)
def rD:aB:=λ_ xs ls K=>∃(l:List dN) (nl:Bool) (n:Int) (f:Nat->List SV),xs=[.sl (.a nl) (.a n) 4 f]/\ls=[]/\Po f n l/\l.length<=500/\(∀v∈l,v.bytes.length<=1000000)/\
 ∀c k,KZ l c k->K (.aJ [.agg (Pr c),.bool (.a k)]) []
theorem Aiy:Ap Tryz.prog qT 45 rD:=by
 refine Bv (gh:=[]) mixed Amu (Ab Aml (Ab Ak7 (Ab Z8 Ae))) Tryz.func45 (by kernel_rfl) (by kernel_rfl) ?_;intro xs ls K h;unfold rD at h;obtain⟨l,nl,n,f,rfl,rfl,E,hl,fX,h⟩:=h;obtain⟨t,ht⟩:∃t,qW t (l.foldl gK sE):=⟨_,⟨rfl⟩⟩;obtain⟨y0,Q0⟩:∃y0,dI sE.inn (Oc [71,69,84]) t.inn y0:=by
  rw[ht.h];exact Zi l sE _ (dI.refl DZ.rs)
 obtain⟨c0,mL⟩:∃c,c=Gp t y0:=⟨_,rfl⟩;obtain⟨k0,fG⟩:∃k,k=decide (t.phase≠0):=⟨_,rfl⟩;refine⟨_,_,h c0 k0 ⟨t,y0,ht,Q0.g.v,mL,fG⟩,λD hD=>?_⟩;clear h;unfold Pr;cbv;intro s x hs hx G;unfold cG Ay;cbv;refine⟨s,true,0,λ_=>[],x,l,nl,n,f,by subst hD;rfl,rfl,G,E,hl,fX,λm nb N g P=>?_⟩;obtain⟨t2,ql,qf,y,sS,G2,⟨rfl⟩,Q2⟩:=P.o;have e2:t2=t:=by rw[sS.h,hs.h,ht.h]
 subst e2;rw[hs.h,hx]at Q2;have T2:=Q2.eO Q0;cbv;refine⟨t2,true,ql,qf,y,by subst hD;rfl,rfl,G2,λc e W=>?_⟩;unfold Pr;cbv;have hc:=W.h;have he:=W.he;subst hc mL;have hk:(((((0:Int)==0)&&((0:Int)==0))&&(e==0)))=k0:=by
  rw[he,fG]
  by_cases g:t2.phase=0
  .rw[QB g];simp[g]
  .rw[QA g];simp[g]
 subst hD;exact C6 (.aJ (.cons (.agg (ER T2)) (.cons (Dv (by exact hk)) .nil)))
def DA:List UInt8:=[72,84,84,80,47,49,46,49,32,50,48,48,32,79,75,13,10,67,111,110,116,101,110,116,45,76,101,110,103,116,104,58,32,50,13,10,13,10,97,98]
def lA:List dN:=[⟨1,44,[],0⟩,⟨2,0,DA,0⟩]
def lB:List dN:=[⟨1,40,[],0⟩,⟨2,0,DA,0⟩]
def lC:List dN:=[⟨1,44,[],0⟩,⟨2,0,DA++[99],0⟩]
def lD:List dN:=[⟨1,44,[],0⟩,⟨3,0,[],0⟩]
theorem JH:(lA.foldl gK sE).phase=1:=by kernel_rfl
theorem ab4:(lA.foldl gK sE).inn.aD=1:=by kernel_rfl
theorem ab3:(lA.foldl gK sE).inn.body=[97,98]:=by kernel_rfl
theorem ab2:(lA.foldl gK sE).inn.head.status=200:=by kernel_rfl
theorem ab1:((!(lA.foldl gK sE).ended&&((lA.foldl gK sE).aS==((lA.foldl gK sE).out.length:Int)))&&My (lA.foldl gK sE).inn.head (lA.foldl gK sE).inn.aD)=true:=by kernel_rfl
theorem JG:(lB.foldl gK sE).phase=1:=by kernel_rfl
theorem ab0:(lB.foldl gK sE).inn.aD=1:=by kernel_rfl
theorem aa9:(lB.foldl gK sE).inn.body=[97,98]:=by kernel_rfl
theorem aa8:((lB.foldl gK sE).aS==((lB.foldl gK sE).out.length:Int))=false:=by kernel_rfl
theorem y8:(lC.foldl gK sE).phase=2:=by kernel_rfl
theorem aa7:(lC.foldl gK sE).why=12:=by kernel_rfl
theorem y7:(lD.foldl gK sE).phase=2:=by kernel_rfl
theorem aa6:(lD.foldl gK sE).why=15:=by kernel_rfl
theorem exN:OM sE 4=([71,69,84,32],0):=by kernel_rfl
theorem exO:sE.out.length=44:=by kernel_rfl
theorem jdA{c:VC}(h:KZ lA c k):k=true/\c.ru=true/\c.bo=[97,98]/\c.st=200:=by
 obtain⟨t,x,ht,X,hc,hk⟩:=h.h;obtain⟨rfl⟩:=ht;have f2:¬(lA.foldl gK sE).inn.aD=2:=by rw[ab4];decide
 rw[JH]at hk;unfold Gp at hc;rw[QB JH,QA f2,ab1]at hc;subst hc;exact⟨hk,rfl,X.bo.trans ab3,X.st.trans ab2⟩
theorem jdB{c:VC}(h:KZ lB c k):k=true/\c.ru=false/\c.bo=[97,98]:=by
 obtain⟨t,x,ht,X,hc,hk⟩:=h.h;obtain⟨rfl⟩:=ht;have f2:¬(lB.foldl gK sE).inn.aD=2:=by rw[ab0];decide
 rw[JG]at hk;unfold Gp at hc;rw[QB JG,QA f2,aa8]at hc;subst hc;exact⟨hk,by simp,X.bo.trans aa9⟩
theorem jdC{c:VC}(h:KZ lC c k):k=true/\c.wy=12:=by
 obtain⟨t,x,ht,X,hc,hk⟩:=h.h;obtain⟨rfl⟩:=ht;have f2:¬(lC.foldl gK sE).phase=1:=by rw[y8];decide
 rw[y8]at hk;unfold Gp at hc;rw[QA f2,QB y8,aa7]at hc;subst hc;exact⟨hk,rfl⟩
theorem jdD{c:VC}(h:KZ lD c k):k=true/\c.wy=15:=by
 obtain⟨t,x,ht,X,hc,hk⟩:=h.h;obtain⟨rfl⟩:=ht;have f2:¬(lD.foldl gK sE).phase=1:=by rw[y7];decide
 rw[y7]at hk;unfold Gp at hc;rw[QA f2,QB y7,aa6]at hc;subst hc;exact⟨hk,rfl⟩
theorem OQ{g:Nat->List SV}{v1 v2:dN}(h:Rx g [Pc v1,Pc v2]):Po g 2 [v1,v2]:=by
 refine⟨rfl,λi hi=>?_,by show 2<=9223372036854775807;decide⟩
 match i,hi with
 |0,_=>exact h.h 0 _ rfl
 |1,_=>exact h.h 1 _ rfl
 |i+2,hi=>exact absurd hi (by simp)
def vN:aB:=λ_ xs ls K=>xs=[]/\ls=[]/\K (.bool (.a true)) []
theorem Ahx:Ap Tryz.prog qT 30 vN:=by
 refine Bv (gh:=[]) mixed Amu (Ab Aml (Ab Alm (Ab (Df Ahz) (Ab (Df Ame) (Ab Aiy Ae))))) Tryz.func30 (by kernel_rfl) (by kernel_rfl) ?_;intro xs ls K h;unfold vN at h;obtain⟨rfl,rfl,h⟩:=h;refine⟨_,_,h,λD hD=>?_⟩;clear h;cbv;intro s x hs hx G;unfold cG Ay;cbv;refine⟨s,true,0,λ_=>[],x,4,by subst hD;rfl,rfl,G,λt e N=>?_⟩;cbv;have hN:=N.h;rw[hs.h,exN]at hN;obtain⟨rfl,rfl⟩:=Prod.mk.inj hN;refine⟨44,by subst hD;rfl,rfl,λv1 h1=>?_⟩;unfold lH;cbv;refine⟨DA,by subst hD;rfl,rfl,λv2 h2=>?_⟩;unfold lH;cbv;intro g1 xW;cbv;have R1:Po g1 2 [v1,v2]:=OQ (by subst hD h2;exact xW);have L1:[v1,v2]=lA:=by rw[h1,h2];rfl
 clear xW;refine⟨[v1,v2],_,_,g1,by subst hD;rfl,rfl,by subst hD;exact R1,by simp,by rw[L1];decide,λc1 k1 J1=>?_⟩;rw[L1]at J1;clear R1 L1 h1 h2;unfold Pr;cbv;refine⟨40,by subst hD;rfl,rfl,λv1 h1=>?_⟩;unfold lH;cbv;refine⟨DA,by subst hD;rfl,rfl,λv2 h2=>?_⟩;unfold lH;cbv;intro g2 fU;cbv;have R2:Po g2 2 [v1,v2]:=OQ (by subst hD h2;exact fU);have L2:[v1,v2]=lB:=by rw[h1,h2];rfl
 clear fU;refine⟨[v1,v2],_,_,g2,by subst hD;rfl,rfl,by subst hD;exact R2,by simp,by rw[L2];decide,λc2 k2 J2=>?_⟩;rw[L2]at J2;clear R2 L2 h1 h2;unfold Pr;cbv;refine⟨44,by subst hD;rfl,rfl,λv1 h1=>?_⟩;unfold lH;cbv;refine⟨(DA++[99]),by subst hD;rfl,rfl,λv2 h2=>?_⟩;unfold lH;cbv;intro g3 gT;cbv;have R3:Po g3 2 [v1,v2]:=OQ (by subst hD h2;exact gT);have L3:[v1,v2]=lC:=by rw[h1,h2];rfl
 clear gT;refine⟨[v1,v2],_,_,g3,by subst hD;rfl,rfl,by subst hD;exact R3,by simp,by rw[L3];decide,λc3 k3 J3=>?_⟩;rw[L3]at J3;clear R3 L3 h1 h2;unfold Pr;cbv;refine⟨44,by subst hD;rfl,rfl,λv1 h1=>?_⟩;unfold lH;cbv;obtain⟨v2,h2⟩:∃v2:dN,v2=⟨3,0,[],0⟩:=⟨_,rfl⟩;intro g4 gS;cbv;have R4:Po g4 2 [v1,v2]:=OQ (by subst hD h2;exact gS);have L4:[v1,v2]=lD:=by rw[h1,h2];rfl
 clear gS;refine⟨[v1,v2],_,_,g4,by subst hD;rfl,rfl,by subst hD;exact R4,by simp,by rw[L4];decide,λc4 k4 J4=>?_⟩;rw[L4]at J4;clear R4 L4 h1 h2;unfold Pr;cbv;obtain⟨a1,a2,a3,a4⟩:=jdA J1;obtain⟨b1,b2,b3⟩:=jdB J2;obtain⟨d1,d2⟩:=jdC J3;obtain⟨f1,f2⟩:=jdD J4;have hO:s.out.length=44:=by rw[hs.h];exact exO
 refine Aw hD ?_;show (((((((((((((((((0:Int)==0)&&((0:Int)==0))&&(([71,69,84,32]:List UInt8)==[71,69,84,32]))&&((s.out.length:Int)==44))&&k1)&&c1.ru)&&(c1.bo==[97,98]))&&(c1.st==200))&&k2)&&!c2.ru)&&(c2.bo==[97,98]))&&k3)&&(c3.wy==12))&&k4)&&(c4.wy==15)))=true;rw[hO,a1,a2,a3,a4,b1,b2,b3,d1,d2,f1,f2];rfl
structure LuJ(l:List dN)(s:Ms)(w:Int)(en af:Bool)(out:List UInt8)(qb:Bool)(ql:Int)(qf:Nat->List SV)(x:bN)(i:Nat)(I:Int)(m:Nat):Prop where
 at_:AtR l i I m
 ok:AW ⟨s,w,en,af⟩ out
 r:jA s qb ql qf x
def luJ(l:List dN)(nl:Bool)(n:Int)(f:Nat->List SV)(out:List UInt8)(rc:List SV)(qb:Bool)(m:Nat)(vs:List (Option SV))(hp:List Hl):Prop :=
 ∃(s:Ms) (w:Int) (en af:Bool) (ql:Int) (qf:Nat->List SV) (x:bN) (i:Nat) (I:Int),vs=[some (.sl (.a nl) (.a n) 4 f),some (.ptr 1 0),some (.int .i64 (.a w)),some (.bool (.a en)),some (.bool (.a af)),some (.int .i64 (.a I))]/\
  hp=[.aG 55 rc,.aG 59 (cG (Ay s qb ql qf x))]/\LuJ l s w en af out qb ql qf x i I m
structure BsV(l:List dN):Prop where
 h:∀v∈l,v.bytes.length<=1500
theorem BsV.at{l:List dN}(B:BsV l){i:Nat}(h:i<l.length):(l.getD i pY).bytes.length<=1000000:=by
 rw[QD,QC h];exact XV (B.h _ (XL h)) (by decide)
structure KL(f:Nat->List SV)(l:List dN):Prop where
 f:∀i,f i=Pc (l.getD i pY)
theorem Pd{en:Bool}{v v6 v7:dN}(h6:en=false->v6=v)(h7:(en||(v6.kind==3))=false->v7=v):((en||(v6.kind==3))||(v7.kind==4))=(en||decide (v.kind=3)||decide (v.kind=4)):=by
 cases en with
 |true=>rfl
 |false =>
  rw[h6 rfl]at h7 ⊢;simp only[YU]at h7 ⊢
  by_cases h:v.kind=3
  .simp[h]
  .have h3:(v.kind==3)=false:=by simpa using h
   rw[h7 h3,h3,YI h,XX];simp
theorem Ana{p:Int}{v v2 v3:dN}(h2:p=1->v2=v)(h3:((p==1)&&(v2.kind==2))=true->v3=v):(((p==1)&&(v2.kind==2))&&!(v3.bytes==[]))=decide (p=1/\v.kind=2/\v.bytes≠[]):=by
 by_cases h:p=1
 .rw[h2 h]at h3 ⊢
  by_cases k:v.kind=2
  .rw[h3 (by rw[h,k];rfl),h,k]
   cases v.bytes<;>simp
  .have:(v.kind==2)=false:=by simpa using k
   rw[this];simp[k]
 .have:(p==1)=false:=by simpa using h
  rw[this];simp[h]
def vV:aB:=λ_ xs ls K=>∃(r:Rq) (nl:Bool) (n:Int) (f:Nat->List SV) (l:List dN) (rS:Bool) (n2:Int) (f2:Nat->List SV),xs=[.agg [.int .i64 (.a r.id),.str r.method,.str r.target,.str r.host,.sl (.a nl) (.a n) 2 f,.str r.body],.sl (.a rS) (.a n2) 4 f2]/\ls=[]/\Pn r nl n f/\Po f2 n2 l/\KL f2 l/\
 K (.bool (.a true)) []
theorem Ab7:Ap Tryz.prog qT 13 vV:=by
 refine Bv (gh:=[]) mixed Ds (Ab (Df ij) (Ab (Df Als) (Ab Ahx (Ab Yf (Ab Aj9 (Ab Jt (Ab Z8 Ae))))))) Tryz.func13 (by kernel_rfl) (by kernel_rfl) ?_;intro xs ls K h;unfold vV at h;obtain⟨r,nl,n,f,l,rS,n2,f2,rfl,rfl,R,E,T,h⟩:=h;obtain⟨id,me,ta,ho,fs,bo⟩:=r;refine⟨_,_,h,λD hD=>?_⟩;clear h;cbv;refine⟨⟨id,me,ta,ho,fs,bo⟩,nl,n,f,by subst hD;rfl,rfl,R,λg hg=>?_⟩;cbv;refine⟨l,rS,n2,f2,by subst hD;rfl,rfl,E,λg2 fU=>?_⟩;cbv;refine br hD (λhb=>?_) (λhb=>?_)<;>cbv
 .exact Aw hD rfl
 have BL:BsV l:=by
  have hb:(g||g2)=false:=by subst hD;exact hb
  rw[XC]at hb;exact⟨(Alt (by rw[<-fU.h];exact hb.2)).2⟩
 clear hb hg fU;refine⟨⟨id,me,ta,ho,fs,bo⟩,nl,n,f,200,100,by subst hD;rfl,rfl,R,λq out m a1 b1 e nb n1 f1 k1 R1 hn=>?_⟩;have B:=n9 k1;clear k1;obtain⟨qi,qm,qt,qh,qf,qb⟩:=q;cbv;refine br hD (λhb=>?_) (λhb=>?_)<;>cbv
 .exact Aw hD rfl
 have he:e=0:=by
  have hb:(e != 0)=false:=by subst hD;exact hb
  simpa using hb
 clear hb;obtain⟨b1,b2,b3,b4,b5,b6,b7⟩:=B.o he
 injection b3 with q1 q2 q3 q4 q5 q6
 subst q1 q2 q3 q4 q5 q6 b5 b6 b7;obtain⟨s0,kU⟩:∃s0,qW s0 ⟨⟨qi,m,qt,qh,qf,qb⟩,out,0,BG m,200,100,0,false,0⟩:=⟨_,⟨rfl⟩⟩;have G0:jA s0 nb n1 f1 (Oc m):=by
  rw[kU.h,b4];exact Alp R b1 b2 R1 hn
 have L0:AW ⟨s0,0,false,false⟩ out:=by
  refine⟨G0.g.ok,?_,?_,λh=>(by cases h),?_,?_⟩<;>rw[kU.h]
 obtain⟨J,hJ⟩:∃J,J=luJ l rS n2 f2 out [.int .i64 (.a qi),.str m,.str qt,.str qh,.sl (.a nl) (.a n) 2 f,.str qb] nb:=⟨_,rfl⟩;refine⟨[1,5,7,8,9,10],J,⟨rfl,l.length,?_⟩,?_⟩
 .rw[hJ]
  subst hD;refine⟨s0,0,false,false,n1,f1,Oc m,0,0,rfl,?_,⟨AtR.zero E.len,L0,G0⟩⟩;rw[kU.h];rfl
 clear L0 G0 kU b1 b2 b4 hn R1 B;intro m9 vs hp hv;rw[hJ]at hv;obtain⟨s,w,en,af,ql,PN,x,i,I,e1,e2,V⟩:=hv;subst e1;unfold cG Ay at e2;cbv at e2;subst e2;cbv;refine br hD (λhb=>?_) (λhb=>?_)<;>cbv
 .have aC:=V.at_.lt E.n (QT (p:=I<n2) hb)
  clear hb;have fS:=V.at_.fS hD E.n aC;have jj:∀j,AI j (D.i (.a I))->j=i:=λj hj=>V.at_.j hD hj;obtain⟨v,hv⟩:∃v,v=l.getD i pY:=⟨_,rfl⟩;have RY:v.bytes.length<=1000000:=by rw[hv];exact BL.at aC
  have ef:=T.f i;rw[<-hv]at ef;refine⟨fS,λj hj=>?_⟩;obtain rfl:=jj j hj;cbv;rw[ef];cbv;refine⟨s,nb,ql,PN,x,v,by subst hD;rfl,by subst hD;rfl,V.r,RY,λmc e S=>?_⟩;cbv;have hs:=V.at_.step hD aC;refine br hD (λhb=>?_) (λhb=>?_)
  .cbv
   refine⟨_,hs.1,?_⟩;rw[hJ];subst hD;exact⟨s,w,en,af,ql,PN,x,j+1,_,rfl,rfl,⟨hs.2,V.ok,V.r⟩⟩
  have he:e=0:=by
   have hb:(e != 0)=false:=by subst hD;exact hb
   simpa using hb
  clear hb;obtain⟨t,pq,pr,y,ht,G2,mQ⟩:=S.o he;obtain⟨rfl⟩:=mQ;have pK:Cc s (gA v)=0:=S.ev.symm.trans he;clear S;cbv;refine⟨λ_=>fS,λj2 sV=>?_⟩;obtain⟨v2,iQ⟩:∃v2,v2=l.getD j2 pY:=⟨_,rfl⟩;have e2:=T.f j2;rw[<-iQ]at e2;cbv;rw[e2];cbv;refine⟨λ_=>fS,λj3 ky=>?_⟩;obtain⟨v3,hv3⟩:∃v3,v3=l.getD j3 pY:=⟨_,rfl⟩;have e3:=T.f j3;rw[<-hv3]at e3;cbv;rw[e3];cbv;have h2:s.phase=1->v2=v:=λh=>by rw[iQ,jj j2 (sV (by subst hD;show (s.phase==1)=true;rw[h];rfl)),hv]
  have h3:((s.phase==1)&&(v2.kind==2))=true->v3=v:=λh=>by rw[hv3,jj j3 (ky (by subst hD;exact h)),hv]
  have hc:=Ana h2 h3;have BV:IntKind.i64.wrap (w+v.n)=w+v.n:=by
   have a:=U7 pK;have a1:0<=v.n:=a.1;have a2:v.n<=(s.out.length:Int)-s.aS:=a.2.1;have b:=V.ok.w;have b:w=s.aS:=b;have c:=V.r.g.out;have d:=V.r.g.ok.s0;exact wrap64 (by omega) (by omega)
  refine br hD (λhb=>?_) (λhb=>?_)
  .have ym:true=(if s.phase=1/\v.kind=2/\v.bytes≠[] then true else af):=by
    have hb:(((s.phase==1)&&(v2.kind==2))&&!(v3.bytes==[]))=true:=by subst hD;exact hb
    rw[hc,decide_eq_true_iff]at hb;rw[QB hb]
   cbv;refine⟨fS,λj4 xw=>?_⟩;have xw:=jj j4 xw;cbv;rw[xw,ef];cbv;refine br hD (λhk=>?_) (λhk=>?_)<;>cbv
   .refine⟨fS,λj5 xv=>?_⟩
    have xv:=jj j5 xv;cbv;rw[xv,ef];cbv;have hw:IntKind.i64.wrap (w+v.n)=if v.kind=1 then w+v.n else w:=by
     have hk:(v.kind==1)=true:=by subst hD;exact hk
     rw[QB (eq_of_beq hk)];exact BV
    refine⟨λ_=>fS,λj6 xu=>?_⟩;obtain⟨v6,ai⟩:∃v6,v6=l.getD j6 pY:=⟨_,rfl⟩;have e6:=T.f j6;rw[<-ai]at e6;cbv;rw[e6];cbv;refine⟨λ_=>fS,λj7 xt=>?_⟩;obtain⟨v7,ah⟩:∃v7,v7=l.getD j7 pY:=⟨_,rfl⟩;have e7:=T.f j7;rw[<-ah]at e7;cbv;rw[e7];cbv;refine⟨t,nb,pq,pr,y,by subst hD;rfl,rfl,G2.g,?_⟩;cbv;have gO:((en||(v6.kind==3))||(v7.kind==4))=(en||decide (v.kind=3)||decide (v.kind=4)):=by
     have h6:en=false->v6=v:=λh=>by rw[ai,jj j6 (xu (by subst hD;show (!en)=true;rw[h];rfl)),hv]
     have h7:(en||(v6.kind==3))=false->v7=v:=λh=>by rw[ah,jj j7 (xt (by subst hD;show (!(en||(v6.kind==3)))=true;rw[h];rfl)),hv]
     exact Pd h6 h7
    refine br hD (λhb=>?_) (λhb=>?_)<;>cbv
    .exfalso
     have hb:((0:Int) != 0)=true:=by subst hD;exact hb
     cases hb
    refine⟨_,hs.1,?_⟩;rw[hJ];subst hD;exact⟨t,_,_,_,pq,pr,y,j+1,_,rfl,rfl,⟨hs.2,Sv V.ok pK ht hw gO ym,G2⟩⟩
   .have hw:w=if v.kind=1 then w+v.n else w:=by
     have hk:(v.kind==1)=false:=by subst hD;exact hk
     rw[QA (by simpa using hk)]
    refine⟨λ_=>fS,λj6 xu=>?_⟩;obtain⟨v6,ai⟩:∃v6,v6=l.getD j6 pY:=⟨_,rfl⟩;have e6:=T.f j6;rw[<-ai]at e6;cbv;rw[e6];cbv;refine⟨λ_=>fS,λj7 xt=>?_⟩;obtain⟨v7,ah⟩:∃v7,v7=l.getD j7 pY:=⟨_,rfl⟩;have e7:=T.f j7;rw[<-ah]at e7;cbv;rw[e7];cbv;refine⟨t,nb,pq,pr,y,by subst hD;rfl,rfl,G2.g,?_⟩;cbv;have gO:((en||(v6.kind==3))||(v7.kind==4))=(en||decide (v.kind=3)||decide (v.kind=4)):=by
     have h6:en=false->v6=v:=λh=>by rw[ai,jj j6 (xu (by subst hD;show (!en)=true;rw[h];rfl)),hv]
     have h7:(en||(v6.kind==3))=false->v7=v:=λh=>by rw[ah,jj j7 (xt (by subst hD;show (!(en||(v6.kind==3)))=true;rw[h];rfl)),hv]
     exact Pd h6 h7
    refine br hD (λhb=>?_) (λhb=>?_)<;>cbv
    .exfalso
     have hb:((0:Int) != 0)=true:=by subst hD;exact hb
     cases hb
    refine⟨_,hs.1,?_⟩;rw[hJ];subst hD;exact⟨t,_,_,_,pq,pr,y,j+1,_,rfl,rfl,⟨hs.2,Sv V.ok pK ht hw gO ym,G2⟩⟩
  .have ym:af=(if s.phase=1/\v.kind=2/\v.bytes≠[] then true else af):=by
    have hb:(((s.phase==1)&&(v2.kind==2))&&!(v3.bytes==[]))=false:=by subst hD;exact hb
    rw[hc,QL]at hb;rw[QA hb]
   cbv;refine⟨fS,λj4 xw=>?_⟩;have xw:=jj j4 xw;cbv;rw[xw,ef];cbv;refine br hD (λhk=>?_) (λhk=>?_)<;>cbv
   .refine⟨fS,λj5 xv=>?_⟩
    have xv:=jj j5 xv;cbv;rw[xv,ef];cbv;have hw:IntKind.i64.wrap (w+v.n)=if v.kind=1 then w+v.n else w:=by
     have hk:(v.kind==1)=true:=by subst hD;exact hk
     rw[QB (eq_of_beq hk)];exact BV
    refine⟨λ_=>fS,λj6 xu=>?_⟩;obtain⟨v6,ai⟩:∃v6,v6=l.getD j6 pY:=⟨_,rfl⟩;have e6:=T.f j6;rw[<-ai]at e6;cbv;rw[e6];cbv;refine⟨λ_=>fS,λj7 xt=>?_⟩;obtain⟨v7,ah⟩:∃v7,v7=l.getD j7 pY:=⟨_,rfl⟩;have e7:=T.f j7;rw[<-ah]at e7;cbv;rw[e7];cbv;refine⟨t,nb,pq,pr,y,by subst hD;rfl,rfl,G2.g,?_⟩;cbv;have gO:((en||(v6.kind==3))||(v7.kind==4))=(en||decide (v.kind=3)||decide (v.kind=4)):=by
     have h6:en=false->v6=v:=λh=>by rw[ai,jj j6 (xu (by subst hD;show (!en)=true;rw[h];rfl)),hv]
     have h7:(en||(v6.kind==3))=false->v7=v:=λh=>by rw[ah,jj j7 (xt (by subst hD;show (!(en||(v6.kind==3)))=true;rw[h];rfl)),hv]
     exact Pd h6 h7
    refine br hD (λhb=>?_) (λhb=>?_)<;>cbv
    .exfalso
     have hb:((0:Int) != 0)=true:=by subst hD;exact hb
     cases hb
    refine⟨_,hs.1,?_⟩;rw[hJ];subst hD;exact⟨t,_,_,_,pq,pr,y,j+1,_,rfl,rfl,⟨hs.2,Sv V.ok pK ht hw gO ym,G2⟩⟩
   .have hw:w=if v.kind=1 then w+v.n else w:=by
     have hk:(v.kind==1)=false:=by subst hD;exact hk
     rw[QA (by simpa using hk)]
    refine⟨λ_=>fS,λj6 xu=>?_⟩;obtain⟨v6,ai⟩:∃v6,v6=l.getD j6 pY:=⟨_,rfl⟩;have e6:=T.f j6;rw[<-ai]at e6;cbv;rw[e6];cbv;refine⟨λ_=>fS,λj7 xt=>?_⟩;obtain⟨v7,ah⟩:∃v7,v7=l.getD j7 pY:=⟨_,rfl⟩;have e7:=T.f j7;rw[<-ah]at e7;cbv;rw[e7];cbv;refine⟨t,nb,pq,pr,y,by subst hD;rfl,rfl,G2.g,?_⟩;cbv;have gO:((en||(v6.kind==3))||(v7.kind==4))=(en||decide (v.kind=3)||decide (v.kind=4)):=by
     have h6:en=false->v6=v:=λh=>by rw[ai,jj j6 (xu (by subst hD;show (!en)=true;rw[h];rfl)),hv]
     have h7:(en||(v6.kind==3))=false->v7=v:=λh=>by rw[ah,jj j7 (xt (by subst hD;show (!(en||(v6.kind==3)))=true;rw[h];rfl)),hv]
     exact Pd h6 h7
    refine br hD (λhb=>?_) (λhb=>?_)<;>cbv
    .exfalso
     have hb:((0:Int) != 0)=true:=by subst hD;exact hb
     cases hb
    refine⟨_,hs.1,?_⟩;rw[hJ];subst hD;exact⟨t,_,_,_,pq,pr,y,j+1,_,rfl,rfl,⟨hs.2,Sv V.ok pK ht hw gO ym,G2⟩⟩
 .refine⟨s,nb,ql,PN,x,by subst hD;rfl,rfl,V.r,λc e W0=>?_⟩
  have W:=W0.r V.r.g.x;obtain⟨mi,st,re,fb,fl,ff,fr,bo,cb,ct,ctf,kp,ru,wy⟩:=c;simp only at W;clear W0;cbv;refine br hD (λhb=>?_) (λhb=>?_)<;>cbv
  .have he:e≠0:=by
    have hb:(e != 0)=true:=by subst hD;exact hb
    simpa using hb
   have hp:s.phase=0:=Decidable.byContradiction λq=>he (W.n q);refine Aw hD ?_;show ((s.phase==0)&&true)=true;rw[hp];rfl
  have he:e=0:=by
   have hb:(e != 0)=false:=by subst hD;exact hb
   simpa using hb
  clear hb;have TT:=Ah6 V.ok W he;have hsw:w=s.aS:=V.ok.w;refine br hD (λhb=>?_) (λhb=>?_)<;>cbv
  .exfalso
   have hb:(ru&&((((((wy != 0)||(w != (s.out.length:Int)))||en)||af)||(fr==3))||decide (100<(bo.length:Int))))=true:=by subst hD;exact hb
   rw[QE]at hb;obtain⟨a1,a2,a3,a4,a5,a6⟩:=TT hb.1;have a2:w=(s.out.length:Int):=a2;have a3:en=false:=a3;have a4:af=false:=a4;have hb:=hb.2;rw[a1,a2,a3,a4]at hb;simp at hb;omega
  .refine Aw hD ?_
   show ((s.aS==w)&&true)=true;rw[hsw];simp
open Go Go.Sx Go.ChangeShapes Go.WideShapes Go.RowKit
theorem pw:Ev Tryz.prog 3 (λn:Int=>[.int .i64 (.a n)]):=.int Tryz.underlying3
theorem T1:Ev Tryz.prog 9 (λs:{s:List UInt8 // s.length<=maxLen}=>[.str s.1]):=.str Tryz.underlying9
theorem ro2{I:Nat->Nat->Prop}{W:World}{s t:SV}{v u:Value}(h:RO I W s v)(k:RO I W t u):∀(i:Nat) (s':SV) (v':Value),[s,t][i]?=some s'->[v,u][i]?=some v'->RO I W s' v'
 |0,_,_,a,b=>by simp at a b;subst a b;exact h
 |1,_,_,a,b=>by simp at a b;subst a b;exact k
 |_+2,_,_,a,_=>by simp at a
abbrev sw:={s:List UInt8 // s.length<=maxLen}
abbrev LA:={n:Int // (Lit.int .i64 n).wf=true}
abbrev OA:=sw×sw×Unit
def IE(x:OA):List SV:=[.str x.1.1]++([.str x.2.1.1]++[])
abbrev FsD:={x:Bool×List OA // x.2.length<=maxLen/\(x.1=true->x.2=[])}
abbrev KQ:=LA×sw×sw×sw×FsD×sw×Unit
def rqC(x:KQ):List SV:=[.int .i64 (.a x.1.1)]++([.str x.2.1.1]++([.str x.2.2.1.1]++([.str x.2.2.2.1.1]++(MU 2 IE x.2.2.2.2.1.1++([.str x.2.2.2.2.2.1.1]++[])))))
theorem EM:Ev Tryz.prog 2 (λn:LA=>[.int .i64 (.a n.1)]):=.RI Tryz.underlying2
theorem jb:Ev Tryz.prog 100 IE:=.struct (fs:=[(0,9),(1,9)]) (len:=2) Tryz.underlying100 (by rfl) (by kernel_rfl) (Ew.cons 0 1 1 (by kernel_rfl) T1 (Ew.cons 1 1 0 (by kernel_rfl) T1 Ew.nil))
theorem vl:Ev Tryz.prog 23 (λx:FsD=>MU 2 IE x.1):=.zS Tryz.underlying23 (by kernel_rfl) (by decide) jb
theorem vk:Ev Tryz.prog 55 rqC:=.struct (fs:=[(0,2),(1,9),(2,9),(3,9),(4,23),(5,9)]) (len:=6) Tryz.underlying55 (by rfl) (by kernel_rfl)
 (Ew.cons 0 1 5 (by kernel_rfl) EM (Ew.cons 1 1 4 (by kernel_rfl) T1 (Ew.cons 2 1 3 (by kernel_rfl) T1 (Ew.cons 3 1 2 (by kernel_rfl) T1 (Ew.cons 4 1 1 (by kernel_rfl) vl (Ew.cons 5 1 0 (by kernel_rfl) T1 Ew.nil))))))
def Aq(x:OA):HF:=⟨x.1.1,x.2.1.1⟩
def EC(x:KQ):Rq:=⟨x.1.1,x.2.1.1,x.2.2.1.1,x.2.2.2.1.1,x.2.2.2.2.1.1.2.map Aq,x.2.2.2.2.2.1.1⟩
theorem I4(x:sw):x.1.length<=9223372036854775807:=XV x.2 (by decide)
theorem ib(l:List OA)(h:l.length<=maxLen):A5 (Iv IE l) (l.length:Int) (l.map Aq):=by
 refine⟨by rw[XW],λi hi=>?_,by rw[XW];exact XV h (by decide),λi hi=>?_⟩
 .rw[XW]at hi
  unfold Iv;rw[QC hi,QD,QR,QC hi];rfl
 .rw[XW]at hi
  rw[QD,QR,QC hi];exact⟨I4 l[i].1,I4 l[i].2.1⟩
def rqF(x:KQ):Nat->List SV:=Iv IE x.2.2.2.2.1.1.2
theorem ia(x:KQ):Pn (EC x) x.2.2.2.2.1.1.1 (x.2.2.2.2.1.1.2.length:Int) (rqF x):=by
 have hw:=x.1.2;simp only[Lit.wf,QE,QJ]at hw;refine⟨?_,?_,I4 _,I4 _,I4 _,I4 _,ib _ x.2.2.2.2.1.2.1,λe=>?_⟩
 .exact hw.1
 .exact hw.2
 .show List.map Aq _=[]
  rw[x.2.2.2.2.1.2.2 e];rfl
def PI(x:KQ):SV:=.agg (rqC x)
abbrev OC:=Int×Int×sw×Int×Unit
def JJ(x:OC):List SV:=[.int .i64 (.a x.1)]++([.int .i64 (.a x.2.1)]++([.str x.2.2.1.1]++([.int .i64 (.a x.2.2.2.1)]++[])))
theorem vj:Ev Tryz.prog 57 (λn:Int=>[.int .i64 (.a n)]):=.int Tryz.underlying57
theorem vg:Ev Tryz.prog 83 JJ:=.struct (fs:=[(0,3),(1,3),(2,9),(3,57)]) (len:=4) Tryz.underlying83 (by rfl) (by kernel_rfl)
 (Ew.cons 0 1 3 (by kernel_rfl) pw (Ew.cons 1 1 2 (by kernel_rfl) pw (Ew.cons 2 1 1 (by kernel_rfl) T1 (Ew.cons 3 1 0 (by kernel_rfl) vj Ew.nil))))
abbrev EsD:={x:Bool×List OC // x.2.length<=maxLen/\(x.1=true->x.2=[])}
theorem vh:Ev Tryz.prog 74 (λx:EsD=>MU 4 JJ x.1):=.zS Tryz.underlying74 (by kernel_rfl) (by decide) vg
def JI(x:OC):dN:=⟨x.1,x.2.1,x.2.2.1.1,x.2.2.2.1⟩
theorem ic(l:List OC)(h:l.length<=maxLen):Po (Iv JJ l) (l.length:Int) (l.map JI):=by
 refine⟨by rw[XW],λi hi=>?_,by rw[XW];exact XV h (by decide)⟩;rw[XW]at hi;unfold Iv;rw[QC hi,QD,QR,QC hi];rfl
def OV(l:List dN)(i:Nat):List SV:=Pc (l.getD i pY)
theorem Aa3{l:List dN}(R:Po f n l):Po (OV l) n l/\KL (OV l) l:=⟨⟨R.n,λ_ _=>rfl,R.len⟩,⟨λ_=>rfl⟩⟩
theorem u7{l:List dN}{b:Bool}(R:Po f n l):aO (.sl (.a b) (.a n) 4 f) (.sl (.a b) (.a n) 4 (OV l)) :=
 .sl rfl rfl λi hi=>by
  have hi:(i:Int)<n:=hi;exact R.f i (by have:=R.n;omega)
def yU:aB:=λ_ xs ls K=>∃(r:Rq) (nl:Bool) (n:Int) (f:Nat->List SV) (l:List dN) (rS:Bool) (n2:Int) (f2:Nat->List SV),xs=[.agg [.int .i64 (.a r.id),.str r.method,.str r.target,.str r.host,.sl (.a nl) (.a n) 2 f,.str r.body],.sl (.a rS) (.a n2) 4 f2]/\ls=[]/\Pn r nl n f/\Po f2 n2 l/\
 K (.bool (.a true)) []
theorem Aiv:Ap Tryz.prog qT 13 yU:=by
 refine⟨Ab7.1,λxs ls K h=>?_⟩;obtain⟨r,nl,n,f,l,rS,n2,f2,rfl,rfl,R,E,h⟩:=h;obtain⟨v,aK,hK,hc⟩:=Ab7.2 _ [] K ⟨r,nl,n,f,l,rS,n2,OV l,rfl,rfl,R,(Aa3 E).1,(Aa3 E).2,h⟩;exact⟨v,aK,hK,Ru (iM.cons (aO.refl _) (iM.cons (u7 E) iM.nil)) hc⟩
end Go.Proofs.YtdoogdbjiijifaaGreatDoor
