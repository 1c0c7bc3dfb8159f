/- A part of the proof: contracts of functions, or the executor and its soundness. No conditions. -/
import Derived.Test.YtdoogdbjiijifaaGreatDoorE7Paw
import Derived.Test.YtdoogdbjiijifaaGreatDoorE7Pay
import Derived.Test.YtdoogdbjiijifaaGreatDoorE7Pba
import Derived.Test.YtdoogdbjiijifaaGreatDoorE7Paz
namespace Go.Proofs.YtdoogdbjiijifaaGreatDoor
open Go Go.Sx
set_option maxRecDepth 100000
set_option maxHeartbeats 4000000
theorem Alm:Aw Tryz.prog gl 229 (L6 Gw):=by
 refine Bd (gh:=[]) mixed Be Ai Tryz.func229 (by kernel_rfl) (by kernel_rfl) ?_;intro xs ls K h;unfold L6 at h;obtain⟨c,rfl,rfl,h⟩:=h;obtain⟨k,hk⟩:∃k,k=Gw c:=⟨_,rfl⟩;refine⟨_,_,h k hk,λD hD=>?_⟩;clear h;cbv;exact Al hD hk.symm
theorem Al1:Aw Tryz.prog gl 174 (P4 trimF):=by
 refine Bd (gh:=[]) mixed Be (Ab Alm Ai) Tryz.func174 (by kernel_rfl) (by kernel_rfl) ?_;intro xs ls K h;unfold P4 at h;obtain⟨s0,rfl,rfl,hl,h⟩:=h;obtain⟨k,hk⟩:∃k,k=trimF s0:=⟨_,rfl⟩;refine⟨_,_,h k hk,λD hD=>?_⟩;clear h;cbv;obtain⟨J,hJ⟩:∃J,J=nd trimF k:=⟨_,rfl⟩;refine⟨[0],J,⟨rfl,s0.length,?_⟩,?_⟩
 .rw[hJ]
  subst hD;exact⟨s0,rfl,rfl,⟨rfl,hl⟩,hk⟩
 clear hk hl;intro m vs dS hv;rw[hJ]at hv;unfold nd at hv;obtain⟨s,rfl,rfl,V,hk⟩:=hv;cbv;refine⟨λhg=>?_,λc hc=>?_⟩
 .subst hD
  have hg:decide (0<(s.length:Int))=true:=hg;simp only[QN]at hg;exact E9 (e:=.l 0) (i:=0) rfl (by omega)
 have cQ:=Dm (e:=.l 0) (i:=0) hD rfl hc;clear hc;cbv;refine⟨_,rfl,rfl,λq hq=>?_⟩;have bE:q=Gw c:=by subst hD;exact hq
 clear hq;cbv;refine br hD (λh=>?_) (λh=>?_)<;>cbv
 .have h:(decide (0<(s.length:Int))&&q)=true:=h
  simp only[QB,QN]at h;have h0:0<s.length:=by have:=h.1;omega
  have hb:dE (s.getD 0 0)=true:=by rw[dE,cQ.of,<-bE];exact h.2
  clear h;refine⟨by subst hD;exact Ey (i:=1) (j:=s.length) (a:=.l 1) (b:=.len s) rfl rfl (by omega) (by omega),λr hr=>?_⟩;have cP:r=s.drop 1:=by
   rw[Jq (i:=1) (j:=s.length) hD rfl rfl hr];exact ZT (by simp)
  clear hr;cbv;refine⟨s.length-1,by have:=V.m;omega,?_⟩;rw[hJ];subst hD;refine⟨r,rfl,rfl,⟨by rw[cP];simp,by rw[cP];have:=V.len;simp;omega⟩,?_⟩;rw[hk,trimF,qz h0,Jo hb,cP];rfl
 have h:(decide (0<(s.length:Int))&&q)=false:=h;have mH:k=Fi s:=by
  rw[hk,trimF,T2]
  by_cases h0:0<s.length
  .right
   rw[<-cQ.aC,<-bE];have e:decide (0<(s.length:Int))=true:=by simp only[QN];omega
   rw[e]at h;simpa using h
  .left;exact QQ (by omega)
 clear hk h cQ bE hJ J;obtain⟨J,hJ⟩:∃J,J=nd Fi k:=⟨_,rfl⟩;refine⟨[0],J,⟨rfl,s.length,?_⟩,?_⟩
 .rw[hJ]
  subst hD;exact⟨s,rfl,rfl,⟨rfl,V.len⟩,mH⟩
 clear mH V;intro m vs dS hv;rw[hJ]at hv;unfold nd at hv;obtain⟨s,rfl,rfl,V,hk⟩:=hv;have hE:0<s.length->ST.den (.bin .sub .i64 (.len s) (.l 1))=((s.length-1:Nat):Int):=by
  intro h0;have:=V.len;show IntKind.i64.wrap ((s.length:Int)-1)=_;rw[wrap64 (by omega) (by omega)];omega
 cbv;refine⟨λhg=>?_,λc hc=>?_⟩
 .subst hD
  have hg:decide (0<(s.length:Int))=true:=hg;simp only[QN]at hg;exact E9 (i:=s.length-1) (hE (by omega)) (by omega)
 by_cases h0:0<s.length
 .have cQ:=Dm (i:=s.length-1) hD (hE h0) hc
  clear hc;cbv;refine⟨_,rfl,rfl,λq hq=>?_⟩;have bE:q=Gw c:=by subst hD;exact hq
  clear hq;cbv;refine br hD (λh=>?_) (λh=>?_)<;>cbv
  .have h:(decide (0<(s.length:Int))&&q)=true:=h
   simp only[QB,QN]at h;have hb:dE (s.getD (s.length-1) 0)=true:=by rw[dE,cQ.of,<-bE];exact h.2
   clear h;have JM:=hE h0;refine⟨by subst hD;exact Ey (i:=0) (j:=s.length-1) (a:=.l 0) rfl JM (by omega) (by omega),λr hr=>?_⟩;have cP:r=s.take (s.length-1):=by
    rw[Jq (i:=0) (j:=s.length-1) hD rfl JM hr];rfl
   clear hr;cbv;refine⟨s.length-1,by have:=V.m;omega,?_⟩;rw[hJ];subst hD;refine⟨r,rfl,rfl,⟨by rw[cP];simp,by rw[cP];have:=V.len;simp;omega⟩,?_⟩;rw[hk,X0 h0,T0 hb,cP]
  .have h:(decide (0<(s.length:Int))&&q)=false:=h
   refine Nt ?_;rw[hk,Tz]
   right
   rw[<-cQ.aC,<-bE];have e:decide (0<(s.length:Int))=true:=by simp only[QN];omega
   rw[e]at h;simpa using h
 .have hs:s=[]:=QQ (by omega)
  subst hs;clear hc hE;cbv;refine⟨_,rfl,rfl,λq hq=>?_⟩;cbv;refine br hD (λh=>?_) (λh=>?_)<;>cbv
  .have h:(decide ((0:Int)<0)&&q)=true:=h
   simp at h
  .refine Nt ?_
   rw[hk];rfl
def SQ(s:List UInt8)(k:Bool)(m:Nat)(vs:List (Option SV))(hp:List Hl):Prop :=
 ∃(i:Nat) (I:Int),vs=[some (.str s),some (.int .i64 (.a I))]/\hp=[]/\At s i I m/\k=In (s.drop i)
theorem uo(c:UInt8):((!((c.toNat:Int)==9))&&(decide ((c.toNat:Int)<32)||decide (126<(c.toNat:Int))))=!okB c:=by
 unfold okB;rw[ZC];simp only[QB,XK,ZB,QN,beq_eq_false_iff_ne,ne_eq,XU,XG,YV];omega
theorem Ace:Aw Tryz.prog gl 173 (C9 In):=by
 refine Bd (gh:=[]) mixed Be Ai Tryz.func173 (by kernel_rfl) (by kernel_rfl) ?_;intro xs ls K h;unfold C9 at h;obtain⟨s,rfl,rfl,hs,h⟩:=h;obtain⟨k,hk⟩:∃k,k=In s:=⟨_,rfl⟩;refine⟨_,_,h k hk,λD hD=>?_⟩;cbv;clear h;obtain⟨J,hJ⟩:∃J,J=SQ s k:=⟨_,rfl⟩;refine⟨[0,3],J,⟨rfl,s.length,?_⟩,?_⟩
 .rw[hJ]
  subst hD;exact⟨0,0,rfl,rfl,At.zero hs,hk⟩
 intro m vs hp hv;rw[hJ]at hv;unfold SQ at hv;obtain⟨i,I,rfl,rfl,V,aR⟩:=hv;clear hk;cbv;refine br hD (λh=>?_) (λh=>?_)<;>cbv
 .have aA:=V.lt (QS (p:=I<(s.length:Int)) h)
  clear h;rw[drop_at aA]at aR;have cM:=V.step hD aA;refine⟨V.nU hD aA,λb hb=>?_⟩;cbv;have eA:=D0 hD V.I hb;clear hb;refine⟨λ_=>V.nU hD aA,λb2 gj=>?_⟩;cbv;have e2:b2=b:=by rw[(D0 hD V.I gj).h,eA.h]
  subst e2;clear gj;refine⟨λ_ _=>V.nU hD aA,λb3 gj=>?_⟩;cbv;have e2:b3=b2:=by rw[(D0 hD V.I gj).h,eA.h]
  subst e2;clear gj;have nX:=uo (s.getD i 0);rw[<-eA.h]at nX;have mH:k=(okB (s.getD i 0)&&In (s.drop (i+1))):=aR;refine br hD (λh=>?_) (λh=>?_)<;>cbv
  .have h:((b3 != 9)&&(decide (b3<32)||decide (126<b3)))=true:=h
   have h:(!okB (s.getD i 0))=true:=by rw[<-nX];exact h
   refine Al hD ?_;rw[mH];have h:okB (s.getD i 0)=false:=by simpa only[XK] using h
   rw[h];rfl
  .have h:((b3 != 9)&&(decide (b3<32)||decide (126<b3)))=false:=h
   have h:(!okB (s.getD i 0))=false:=by rw[<-nX];exact h
   have h:okB (s.getD i 0)=true:=by simpa only[YJ] using h
   refine⟨_,cM.1,?_⟩;rw[hJ];unfold SQ;subst hD;exact⟨i+1,_,rfl,rfl,cM.2,by rw[mH,h,VK]⟩
 have he:=V.eq (QZ (p:=I<(s.length:Int)) h);refine Al hD ?_;rw[aR,XM (by omega)];rfl
set_option maxHeartbeats 8000000
theorem Ag8(l:List HF)(i:Nat)(h:i<l.length)(n:Int):Dz (l.drop i) n=if rq (l.getD i default) then 6 else if 2000<(l.getD i default).value.length then 3 else Dz (l.drop (i+1)) (n+Od (l.getD i default)):=by
 have:l.drop i=l.getD i default :: l.drop (i+1):=by rw[QC,QA h,XB,XY h]
 rw[this,Dz]
structure ae8(a b:List UInt8):Prop where
 a:a.length<=64
 b:b.length<=2000
structure RcJ(k:Int)(l:List HF)(i:Nat)(I N:Int)(m:Nat):Prop where
 aZ:AtR l i I m
 lo:0<=N
 hi:N<=3000 * (i+1)
 len:l.length<=100
 k:k=Dz (l.drop i) N
def rcJ(k:Int)(l:List HF)(nl:Bool)(n:Int)(f:Nat->List SV)(m:Nat)(vs:List (Option SV))(hp:List Hl):Prop :=
 ∃(i:Nat) (I N:Int),vs=[some (.sl (.a nl) (.a n) 2 f),some (.int .i64 (.a N)),some (.int .i64 (.a I))]/\hp=[]/\RcJ k l i I N m
theorem K2:Aw Tryz.prog gl 130 mE:=by
 refine Bd (gh:=[]) mixed Be (Ab H9 (Ab Ace (Ab Al1 Ai))) Tryz.func130 (by kernel_rfl) (by kernel_rfl) ?_;intro xs ls K h;unfold mE at h;obtain⟨l,nl,n,f,rfl,rfl,R,h⟩:=h;obtain⟨k,hk⟩:∃k,k=Bh l:=⟨_,rfl⟩;refine⟨_,_,h k hk,λD hD=>?_⟩;cbv;clear h;refine br hD (λh=>?_) (λh=>?_)<;>cbv
 .refine Bj hD ?_
  have h2:100<n:=QS (p:=(100:Int)<n) h;rw[hk,Bh,QE (by have:=R.n;omega)];rfl
 have h2:n<=100:=by
  have:=QZ (p:=(100:Int)<n) h;omega
 clear h;obtain⟨J,hJ⟩:∃J,J=rcJ k l nl n f:=⟨_,rfl⟩;refine⟨[0,3,4],J,⟨rfl,l.length,?_⟩,?_⟩
 .rw[hJ]
  subst hD;refine⟨0,0,2,rfl,rfl,AtR.zero R.len,by omega,by omega,by have:=R.n;omega,?_⟩;rw[hk,Bh,QD (by have:=R.n;omega)];rfl
 clear hk;intro m vs hp hj;rw[hJ]at hj;obtain⟨i,I,N,rfl,rfl,V⟩:=hj;cbv;refine br hD (λh=>?_) (λh=>?_)<;>cbv
 .have aA:=V.aZ.lt R.n (QS (p:=I<n) h)
  clear h;have oJ:=V.aZ.mP hD R.n aA;have hx:=R.f i aA;have fF:=R.small i aA;have hk:=V.k;rw[Ag8 l i aA]at hk;obtain⟨x,jU⟩:∃x,x=l.getD i default:=⟨_,rfl⟩;rw[<-jU]at hx hk fF;clear jU;have cM:=V.aZ.step hD aA;obtain⟨xn,xv⟩:=x;refine⟨oJ,λj hj=>?_⟩;have hj:=V.aZ.j hD hj;cbv;rw[hj,hx];cbv;refine⟨xn,rfl,rfl,fF.1,λa ha=>?_⟩;cbv;rw[<-Oa]at ha;have jB:a=true->xn.length<=64:=λe=>by
   rw[e]at ha;unfold Cc at ha;have ha:=ha.symm;simp only[QB,QN]at ha;exact ha.2.2
  refine⟨xv,rfl,rfl,fF.2,λb hb=>?_⟩;cbv;refine⟨xv,rfl,rfl,fF.2,λc hc=>?_⟩;cbv;have vI:rq ⟨xn,xv⟩=(!a||(!b||c != xv)):=by rw[rq,ha,hb,hc]
  rw[vI]at hk;simp only at hk;clear ha hb hc vI;refine br hD (λh=>?_) (λh=>?_)<;>cbv
  .have h:((!a||!b)||c != xv)=true:=h
   rw[QE (by rw[<-VL];exact h)]at hk;exact Bj hD hk.symm
  have h:((!a||!b)||c != xv)=false:=h;rw[QD (by rw[<-VL,h];simp)]at hk;have xr:a=true:=by simp only[XU,YJ]at h;exact h.1.1
  clear h;refine br hD (λh=>?_) (λh=>?_)<;>cbv
  .have h:2000<xv.length:=by have h:=QS (p:=(2000:Int)<(xv.length:Int)) h;omega
   rw[QE h]at hk;exact Bj hD hk.symm
  have h:¬2000<xv.length:=by have h:=QZ (p:=(2000:Int)<(xv.length:Int)) h;omega
  rw[QD h]at hk;have hxn:xn.length<=64:=jB xr;have hV:ae8 xn xv:=⟨hxn,by omega⟩;have aM:IntKind.i64.wrap (IntKind.i64.wrap (IntKind.i64.wrap (IntKind.i64.wrap (N+(xn.length:Int))+2)+(xv.length:Int))+2)=N+Od ⟨xn,xv⟩:=by
   have:=V.lo;have:=V.hi;have:=V.aZ.le;have:=V.len;have e1:=hV.a;have e2:=hV.b;rw[wrap64 (n:=N+(xn.length:Int)) (by omega) (by omega),wrap64 (n:=N+(xn.length:Int)+2) (by omega) (by omega),wrap64 (n:=N+(xn.length:Int)+2+(xv.length:Int)) (by omega) (by omega),wrap64 (by omega) (by omega)];unfold Od;simp only;omega
  have aO0:0<=Od ⟨xn,xv⟩/\Od ⟨xn,xv⟩<=3000:=by unfold Od;simp only;omega
  refine⟨_,cM.1,?_⟩;rw[hJ];unfold rcJ;subst hD;refine⟨i+1,_,_,rfl,rfl,⟨cM.2,?_,?_,V.len,?_⟩⟩
  .show 0<=IntKind.i64.wrap (IntKind.i64.wrap (IntKind.i64.wrap (IntKind.i64.wrap (N+(xn.length:Int))+2)+(xv.length:Int))+2)
   rw[aM];have:=V.lo;omega
  .show IntKind.i64.wrap (IntKind.i64.wrap (IntKind.i64.wrap (IntKind.i64.wrap (N+(xn.length:Int))+2)+(xv.length:Int))+2)<=_
   rw[aM];have:=V.hi;omega
  .rw[hk]
   show _=Dz _ (IntKind.i64.wrap (IntKind.i64.wrap (IntKind.i64.wrap (IntKind.i64.wrap (N+(xn.length:Int))+2)+(xv.length:Int))+2));rw[aM]
 have hi:=V.aZ.eq R.n (QZ (p:=I<n) h);have rN:l.drop i=[]:=XM (by omega);have hk:=V.k;rw[rN,Dz]at hk;clear h;refine br hD (λh=>?_) (λh=>?_)<;>cbv
 .have h:8192<N:=QS (p:=(8192:Int)<N) h
  rw[QE h]at hk;exact Bj hD hk.symm
 .have h:¬8192<N:=QZ (p:=(8192:Int)<N) h
  rw[QD h]at hk;exact Bj hD hk.symm
def jH:List (List UInt8)->List UInt8->Bool
 | [],_=>false
 |x :: l,s=>(x==s)||jH l s
variable {l:List (List UInt8)}{c:Int}
theorem dy{s:List UInt8}:jH l s=true↔s∈l:=by
 induction l with
 |nil=>simp[jH]
 |cons x l ih =>
  rw[jH,ZB,ih,XI,ZO];constructor
  .rintro (h|h)
   .exact .inl h.symm
   .exact .inr h
  .rintro (h|h)
   .exact .inl h.symm
   .exact .inr h
def ax:aD:=λ_ xs ls K=>∃(l:List (List UInt8)) (s:List UInt8) (nl:Bool) (n:Int) (f:Nat->List SV),xs=[.sl (.a nl) (.a n) 1 f,.str s]/\ls=[]/\Bz f n l/\∀r:Bool,r=jH l s->K (.bool (.a r)) []
def BC(l:List (List UInt8))(s:List UInt8)(nl:Bool)(n:Int)(f:Nat->List SV)(k:Bool)(m:Nat)(vs:List (Option SV))(hp:List Hl):Prop :=
 ∃(i:Nat) (I:Int),vs=[some (.sl (.a nl) (.a n) 1 f),some (.str s),some (.int .i64 (.a I))]/\hp=[]/\AtR l i I m/\k=jH (l.drop i) s
theorem Agq:Aw Tryz.prog gl 209 ax:=by
 refine Bd (gh:=[]) mixed Be Ai Tryz.func209 (by kernel_rfl) (by kernel_rfl) ?_;intro xs ls K h;unfold ax at h;obtain⟨l,s,nl,n,f,rfl,rfl,R,h⟩:=h;obtain⟨k,hk⟩:∃k,k=jH l s:=⟨_,rfl⟩;refine⟨_,_,h k hk,λD hD=>?_⟩;cbv;clear h;obtain⟨J,hJ⟩:∃J,J=BC l s nl n f k:=⟨_,rfl⟩;refine⟨[0,1,5],J,⟨rfl,l.length,?_⟩,?_⟩
 .rw[hJ]
  subst hD;exact⟨0,0,rfl,rfl,AtR.zero R.len,hk⟩
 intro m vs hp hv;rw[hJ]at hv;unfold BC at hv;obtain⟨i,I,rfl,rfl,V,aR⟩:=hv;clear hk;cbv;refine br hD (λh=>?_) (λh=>?_)<;>cbv
 .have aA:=V.lt R.n (QS (p:=I<n) h)
  clear h;have oJ:=V.mP hD R.n aA;have hx:=R.f i aA;have cM:=V.step hD aA;have yL:l.drop i=l.getD i [] :: l.drop (i+1):=by rw[QC,QA aA,XB,XY aA]
  rw[yL]at aR;obtain⟨x,jU⟩:∃x,x=l.getD i []:=⟨_,rfl⟩;rw[<-jU]at hx aR;clear yL jU;have aR:k=((x==s)||jH (l.drop (i+1)) s):=aR;refine⟨oJ,λj hj=>?_⟩;have hj:=V.j hD hj;cbv;rw[hj,hx];cbv;refine br hD (λh=>?_) (λh=>?_)<;>cbv
  .have h:(x==s)=true:=h
   rw[h,VP]at aR;exact Al hD aR.symm
  .have h:(x==s)=false:=h
   rw[h,UM]at aR;refine⟨_,cM.1,?_⟩;rw[hJ];unfold BC;subst hD;exact⟨i+1,_,rfl,rfl,cM.2,aR⟩
 have he:=V.eq R.n (QZ (p:=I<n) h);have rN:l.drop i=[]:=XM (by omega);rw[rN]at aR;exact Al hD aR.symm
theorem vb:Aw Tryz.prog gl 262 ax:=by
 refine Bd (gh:=[]) mixed Be Ai Tryz.func262 (by kernel_rfl) (by kernel_rfl) ?_;intro xs ls K h;unfold ax at h;obtain⟨l,s,nl,n,f,rfl,rfl,R,h⟩:=h;obtain⟨k,hk⟩:∃k,k=jH l s:=⟨_,rfl⟩;refine⟨_,_,h k hk,λD hD=>?_⟩;cbv;clear h;obtain⟨J,hJ⟩:∃J,J=BC l s nl n f k:=⟨_,rfl⟩;refine⟨[0,1,5],J,⟨rfl,l.length,?_⟩,?_⟩
 .rw[hJ]
  subst hD;exact⟨0,0,rfl,rfl,AtR.zero R.len,hk⟩
 intro m vs hp hv;rw[hJ]at hv;unfold BC at hv;obtain⟨i,I,rfl,rfl,V,aR⟩:=hv;clear hk;cbv;refine br hD (λh=>?_) (λh=>?_)<;>cbv
 .have aA:=V.lt R.n (QS (p:=I<n) h)
  clear h;have oJ:=V.mP hD R.n aA;have hx:=R.f i aA;have cM:=V.step hD aA;have yL:l.drop i=l.getD i [] :: l.drop (i+1):=by rw[QC,QA aA,XB,XY aA]
  rw[yL]at aR;obtain⟨x,jU⟩:∃x,x=l.getD i []:=⟨_,rfl⟩;rw[<-jU]at hx aR;clear yL jU;have aR:k=((x==s)||jH (l.drop (i+1)) s):=aR;refine⟨oJ,λj hj=>?_⟩;have hj:=V.j hD hj;cbv;rw[hj,hx];cbv;refine br hD (λh=>?_) (λh=>?_)<;>cbv
  .have h:(x==s)=true:=h
   rw[h,VP]at aR;exact Al hD aR.symm
  .have h:(x==s)=false:=h
   rw[h,UM]at aR;refine⟨_,cM.1,?_⟩;rw[hJ];unfold BC;subst hD;exact⟨i+1,_,rfl,rfl,cM.2,aR⟩
 have he:=V.eq R.n (QZ (p:=I<n) h);have rN:l.drop i=[]:=XM (by omega);rw[rN]at aR;exact Al hD aR.symm
def uU:List (List UInt8):=[[104,111,115,116],[120,45,114,101,113,117,101,115,116,45,105,100],[99,111,110,116,101,110,116,45,108,101,110,103,116,104],[116,114,97,110,115,102,101,114,45,101,110,99,111,100,105,110,103]]
theorem Oc{g:Nat->List SV}(h:Zk g (l.map λs=>[.str s]))(hl:l.length<=9223372036854775807):Bz g l.length l:=by
 refine⟨rfl,λi hi=>h.h i _ ?_,hl⟩;rw[QP,QA hi,QC,QA hi];rfl
def wJ:aD:=λ_ xs ls K=>xs=[]/\ls=[]/\∀f n b,uO f n b uU->K (.sl (.a b) (.a n) 1 f) []
theorem ug:Aw Tryz.prog gl 260 wJ:=by
 refine Bd (gh:=[]) mixed Be Ai Tryz.func260 (by kernel_rfl) (by kernel_rfl) ?_;intro xs ls K h;unfold wJ at h;obtain⟨rfl,rfl,h⟩:=h;have hG:∃f1 n1 b1,uO f1 n1 b1 uU:=⟨_,_,_,⟨Bz.row (by decide),rfl⟩⟩;obtain⟨f1,n1,b1,hG⟩:=hG;refine⟨_,_,h f1 n1 b1 hG,λD hD=>?_⟩;cbv;clear h;intro g hg;cbv;have R:Bz g 4 uU:=Oc (l:=uU) hg (by decide);subst hD;exact Fb (PJ ⟨R,rfl⟩ hG rfl rfl)
def tR:aD:=λ_ xs ls K=>xs=[]/\ls=[]/\∀f,Bz f 7 dU->K (.bY (.a false) (.a 7) 0) [.own 9 (.a 7) 1 true f]
theorem An9:Aw Tryz.prog gl 291 tR:=by
 refine Bd (gh:=[(999985,[])]) mixed Be Ai Tryz.func291 (by kernel_rfl) (by kernel_rfl) ?_;intro xs ls K h;unfold tR at h;obtain⟨rfl,rfl,h⟩:=h;obtain⟨f1,R1⟩:∃f1,Bz f1 7 dU:=⟨_,Bz.row (l:=dU) (by decide)⟩;refine⟨_,_,h f1 R1,λD hD=>?_⟩;cbv;clear h;intro g hg;cbv;have R:Bz g 7 dU:=Oc (l:=dU) hg (by decide);subst hD;refine V8 (Add rfl rfl) rfl λi hi=>?_;have hi:(i:Int)<7:=hi;have hi:i<dU.length:=by show i<7;omega
 rw[R.f i hi,R1.f i hi]
def EV:aD:=λ_ xs ls K=>∃(a b s:List UInt8),xs=[.agg [.str a,.str b],.str s]/\ls=[]/\a.length<=9223372036854775807/\s.length<=9223372036854775807/\∀r:Bool,r=(Bg a==Bg s)->K (.bool (.a r)) []
theorem FZ:Aw Tryz.prog gl 234 EV:=by
 refine Bd (gh:=[]) mixed Be (Ab Jy Ai) Tryz.func234 (by kernel_rfl) (by kernel_rfl) ?_;intro xs ls K h;unfold EV at h;obtain⟨a,b,s,rfl,rfl,ha,hs,h⟩:=h;obtain⟨k,hk⟩:∃k,k=(Bg a==Bg s):=⟨_,rfl⟩;refine⟨_,_,h k hk,λD hD=>?_⟩;cbv;clear h;refine⟨a,rfl,rfl,ha,λu hu=>?_⟩;cbv;refine⟨s,rfl,rfl,hs,λv hv=>?_⟩;cbv;refine Al hD ?_;rw[hk,<-hu,<-hv];rfl
def J4(l:List HF)(t:List UInt8):List (List UInt8):=(l.filter λx=>Bg x.name==Bg t).map HF.value
theorem Yx(x:HF)(l:List HF)(t:List UInt8):J4 (x :: l) t=if Bg x.name==Bg t then x.value :: J4 l t else J4 l t:=by
 unfold J4;rw[YL]
 split<;>simp
def nh:aD:=λ_ xs ls K=>∃(l:List HF) (t:List UInt8) (nl:Bool) (n:Int) (f:Nat->List SV),xs=[.sl (.a nl) (.a n) 2 f,.str t]/\ls=[]/\A3 f n l/\l.length<=100/\t.length<=1000/\∀r g n' b,r=J4 l t->uO g n' b r->K (.sl (.a b) (.a n') 1 g) []
structure GtJ(l:List HF)(t:List UInt8)(k out:List (List UInt8))(i:Nat)(I n:Int)(b:Bool)(f:Nat->List SV)(m:Nat):Prop where
 aZ:AtR l i I m
 row:uO f n b out
 ol:out.length<=i
 k:k=out++J4 (l.drop i) t
def gtJ(l:List HF)(t:List UInt8)(k:List (List UInt8))(nl:Bool)(N:Int)(F:Nat->List SV)(m:Nat)(vs:List (Option SV))(hp:List Hl):Prop :=
 ∃(out:List (List UInt8)) (i:Nat) (I n:Int) (b:Bool) (f:Nat->List SV),vs=[some (.sl (.a nl) (.a N) 2 F),some (.str t),some (.eD (.a b) (.a n) 1 f 0),some (.int .i64 (.a I))]/\hp=[.tail 9 (.a n) 1]/\GtJ l t k out i I n b f m
theorem Adq(l:List HF)(t:List UInt8):(J4 l t).length<=l.length:=by
 unfold J4;rw[XW];exact ZX ..
theorem xw:Aw Tryz.prog gl 182 nh:=by
 refine Bd (gh:=[(1,[.attach 5 9])]) mixed Be (Ab FZ Ai) Tryz.func182 (by kernel_rfl) (by kernel_rfl) ?_;intro xs ls K h;unfold nh at h;obtain⟨l,t,nl,N,F,rfl,rfl,R,hl,ht,h⟩:=h;obtain⟨k,hk⟩:∃k,k=J4 l t:=⟨_,rfl⟩;have pF:=Adq l t;rw[<-hk]at pF;obtain⟨f1,n1,b1,hG⟩:∃f1 n1 b1,uO f1 n1 b1 k:=⟨_,_,_,⟨Bz.row (by omega),rfl⟩⟩;clear pF;refine⟨_,_,h k f1 n1 b1 hk hG,λD hD=>?_⟩;cbv;clear h;obtain⟨J,hJ⟩:∃J,J=gtJ l t k nl N F:=⟨_,rfl⟩;refine⟨[0,1,5,6],J,⟨rfl,l.length,?_⟩,?_⟩
 .rw[hJ]
  subst hD;exact⟨[],0,_,_,_,_,rfl,rfl,⟨AtR.zero R.len,uO.nil,QK _,hk⟩⟩
 clear hk;intro m vs hp hj;rw[hJ]at hj;obtain⟨out,i,I,n,b,f,rfl,rfl,V⟩:=hj;cbv;refine br hD (λh=>?_) (λh=>?_)<;>cbv
 .have aA:=V.aZ.lt R.n (QS (p:=I<N) h)
  clear h;have oJ:=V.aZ.mP hD R.n aA;have hx:=R.f i aA;have fF:=R.small i aA;have cM:=V.aZ.step hD aA;have hk:=V.k;rw[MV aA,Yx]at hk;obtain⟨x,jU⟩:∃x,x=l.getD i default:=⟨_,rfl⟩;rw[<-jU]at hx hk fF;clear jU;obtain⟨xn,xv⟩:=x;refine⟨oJ,λj hj=>?_⟩;have hj:=V.aZ.j hD hj;cbv;rw[hj,hx];cbv;refine⟨xn,xv,t,rfl,rfl,fF.1,by omega,λr hr=>?_⟩;cbv;simp only at hk;rw[<-hr]at hk;clear hr hj;refine br hD (λh=>?_) (λh=>?_)<;>cbv
  .have h:r=true:=h
   rw[QE h]at hk;clear h;refine⟨oJ,λj hj=>?_⟩;have hj:=V.aZ.j hD hj;cbv;rw[hj,hx];cbv;clear hj;intro g hg;cbv;have lJ:g 0=[.str xv]:=hg.h 0 _ rfl;clear hg;refine⟨by subst hD;exact⟨rfl,by have:=V.row.row.n;have:=V.ol;show (n+1) * 16<=_;omega,by have:=V.row.row.n;have:=V.ol;show n+1<=_;omega⟩,λf' n' hm=>?_⟩;cbv;have G2:∀nK,nK=false->uO f' n' nK (out++[xv]):=λnK hb=>⟨V.row.row.more lJ (by subst hD;exact hm) (by have:=V.ol;omega),by rw[hb];simp⟩;clear hm;refine⟨_,cM.1,?_⟩;rw[hJ];unfold gtJ;subst hD;refine⟨out++[xv],i+1,_,n',(b&&false),f',rfl,rfl,⟨cM.2,G2 _ (Bool.and_false _),by have:=V.ol;simp;omega,by rw[hk];simp⟩⟩
  .have h:r=false:=h
   rw[QD (by rw[h];simp)]at hk;refine⟨_,cM.1,?_⟩;rw[hJ];unfold gtJ;subst hD;exact⟨out,i+1,_,n,b,f,rfl,rfl,⟨cM.2,V.row,by have:=V.ol;omega,hk⟩⟩
 have hi:=V.aZ.eq R.n (QZ (p:=I<N) h);have rN:l.drop i=[]:=XM (by omega);have hk:=V.k;rw[rN]at hk;have hk:k=out:=by rw[hk];simp[J4]
 subst hk;subst hD;exact Fb (PJ V.row hG rfl rfl)
set_option maxHeartbeats 16000000
def Qy(iF:List (List UInt8)):List (List UInt8):=(iF.filter Cc).map Bg
def Fv:List (List UInt8)->List (List UInt8)->Option (List (List UInt8))
 | [],out=>some out
 |v :: r,out=>if (Am v).2≠0 then none else Fv r (out++Qy (Am v).1)
theorem Y8(x:List UInt8)(l:List (List UInt8)):Qy (x :: l)=if Cc x then Bg x :: Qy l else Qy l:=by
 unfold Qy;rw[YL]
 split<;>simp
theorem Aot(l:List (List UInt8)):(Qy l).length<=l.length:=by
 unfold Qy;rw[XW];exact ZX ..
def tN:aD:=λ_ xs ls K=>∃(l:List HF) (nl:Bool) (n:Int) (f:Nat->List SV),xs=[.sl (.a nl) (.a n) 2 f]/\ls=[]/\A3 f n l/\Bh l=0/\
 ∀k r e g n' b,k=Fv (J4 l conn) dU->r=k.getD []->e=(if k.isSome then (0:Int) else 6)->uO g n' b r->K (.tup [.sl (.a b) (.a n') 1 g,.int .i64 (.a e)]) []
structure NaJ(vs:List (List UInt8))(k:Option (List (List UInt8)))(out:List (List UInt8))(i:Nat)(I n:Int)(b:Bool)(f:Nat->List SV)(m:Nat):Prop where
 aZ:AtR vs i I m
 row:Bz f n out
 nl:b=false
 ol:out.length<=7+i * 2001
 ne:out≠[]
 vl:vs.length<=100
 vm:∀x∈vs,x.length<=2000
 k:k=Fv (vs.drop i) out
def naJ(ae:List (List UInt8))(bv:Bool)(nv:Int)(gv:Nat->List SV)(k:Option (List (List UInt8)))(m:Nat)(vs:List (Option SV))(hp:List Hl):Prop :=
 ∃(out:List (List UInt8)) (i:Nat) (I n:Int) (b:Bool) (f:Nat->List SV),vs=[some (.bY (.a b) (.a n) 0),some (.sl (.a bv) (.a nv) 1 gv),some (.int .i64 (.a I))]/\hp=[.own 9 (.a n) 1 true f]/\NaJ ae k out i I n b f m
structure NbJ(iF:List (List UInt8))(fin out:List (List UInt8))(i j:Nat)(J n:Int)(b:Bool)(f:Nat->List SV)(m:Nat):Prop where
 aZ:AtR iF j J m
 row:Bz f n out
 nl:b=false
 ol:out.length<=7+i * 2001+j
 el:iF.length<=2001
 i:i<=100
 ne:out≠[]
 k:fin=out++Qy (iF.drop j)
def TA(iF fin:List (List UInt8))(i:Nat)(I:Int)(bv:Bool)(nv:Int)(gv:Nat->List SV)(be:Bool)(ne:Int)(ge:Nat->List SV)(m:Nat)(vs:List (Option SV))(hp:List Hl):Prop :=
 ∃(out:List (List UInt8)) (j:Nat) (J n:Int) (b:Bool) (f:Nat->List SV),vs=[some (.bY (.a b) (.a n) 0),some (.sl (.a bv) (.a nv) 1 gv),some (.int .i64 (.a I)),some (.sl (.a be) (.a ne) 1 ge),some (.int .i64 (.a J))]/\hp=[.own 9 (.a n) 1 true f]/\NbJ iF fin out i j J n b f m
theorem Am5:Aw Tryz.prog gl 261 tN:=by
 refine Bd (gh:=[(2000014,[.share 4])]) mixed Be (Ab An9 (Ab xw (Ab Uo (Ab H9 (Ab Jy Ai))))) Tryz.func261 (by kernel_rfl) (by kernel_rfl) ?_;intro xs ls K h;unfold tN at h;obtain⟨l,nl,N,F,rfl,rfl,R,pS,h⟩:=h;obtain⟨k,hk⟩:∃k,k=Fv (J4 l conn) dU:=⟨_,rfl⟩;obtain⟨kr,gO⟩:∃r,r=k.getD []:=⟨_,rfl⟩;obtain⟨ke,mT⟩:∃e,e=(if k.isSome then (0:Int) else 6):=⟨_,rfl⟩;have hlen:=Dl pS;have TW:∀x∈J4 l conn,x.length<=2000:=λx hx=>by
  unfold J4 at hx;obtain⟨y,hy,rfl⟩:=List.mem_map.1 hx;exact (G9 pS y (List.mem_filter.1 hy).1).2
 have hvl:=Adq l conn;have jV:kr.length<=1000000:=by
  have key:∀(vs out:List (List UInt8)),(∀x∈vs,x.length<=2000)->((Fv vs out).getD []).length<=out.length+vs.length * 2001:=by
   intro vs
   induction vs with
   |nil=>intro out _;simp[Fv]
   |cons v r ih =>
    intro out hm;rw[Fv]
    split
    .simp
    .have h1:=ih (out++Qy (Am v).1) λx hx=>hm x (QX _ hx)
     have h2:=Aot (Am v).1;have h3:=(Dc v).1;have h4:=hm v (QY ..);simp only[QW,QT]at h1 ⊢;omega
  have:=key (J4 l conn) dU TW;rw[<-hk,<-gO]at this;have e:dU.length=7:=rfl;omega
 obtain⟨f1,n1,b1,hG⟩:∃f1 n1 b1,uO f1 n1 b1 kr:=⟨_,_,_,⟨Bz.row (by omega),rfl⟩⟩;clear jV;refine⟨_,_,h k kr ke f1 n1 b1 hk gO mT hG,λD hD=>?_⟩;cbv;clear h;intro f2 R2;cbv;refine⟨l,[99,111,110,110,101,99,116,105,111,110],nl,N,F,by subst hD;rfl,rfl,R,hlen,by decide,λvs gv nv bv hv Gv=>?_⟩;cbv;have hv:vs=J4 l conn:=hv;rw[<-hv]at hk TW hvl;clear hv;obtain⟨J,hJ⟩:∃J,J=naJ vs bv nv gv k:=⟨_,rfl⟩;refine⟨[4,5,6],J,⟨rfl,vs.length,?_⟩,?_⟩
 .rw[hJ]
  subst hD;exact⟨dU,0,_,_,_,_,rfl,rfl,⟨AtR.zero (by omega),R2,rfl,by decide,by decide,by omega,TW,hk⟩⟩
 clear hk;intro m ws hp hj;rw[hJ]at hj;obtain⟨out,i,I,n,b,f,rfl,rfl,V⟩:=hj;cbv;refine br hD (λh=>?_) (λh=>?_)<;>cbv
 .have aA:=V.aZ.lt Gv.row.n (QS (p:=I<nv) h)
  clear h;have oJ:=V.aZ.mP hD Gv.row.n aA;have hx:=Gv.row.f i aA;have cM:=V.aZ.step hD aA;have hk:=V.k;have yL:vs.drop i=vs.getD i [] :: vs.drop (i+1):=by rw[QC,QA aA,XB,XY aA]
  have hxm:(vs.getD i []).length<=2000:=V.vm _ (by rw[QC,QA aA];exact XQ aA);rw[yL,Fv]at hk;obtain⟨x,jU⟩:∃x,x=vs.getD i []:=⟨_,rfl⟩;rw[<-jU]at hx hk hxm;clear yL jU;have vE:=(Dc x).1;have rB:=(Dc x).2;refine⟨oJ,λj hj=>?_⟩;have hj:=V.aZ.j hD hj;cbv;rw[hj,hx];cbv;clear hj;refine⟨x,rfl,rfl,by omega,λiF e ne be he aV hbe=>?_⟩
  generalize nN:Da iF=ge
  cbv;rw[<-he]at hk vE rB;simp only at hk vE rB;clear hbe;refine br hD (λh=>?_) (λh=>?_)<;>cbv
  .have h:(e != 0)=true:=h
   rw[QE (by simpa using h)]at hk;rw[hk]at gO mT;have gO:kr=[]:=gO;have mT:ke=6:=mT;subst gO mT;subst hD;exact Fb (.tup (.cons (PJ uO.nil hG rfl rfl) (.cons (Cs rfl) .nil)))
  have h:(e != 0)=false:=h;rw[QD (by simpa using h)]at hk;clear h he;obtain⟨fin,iN⟩:∃fin,fin=out++Qy iF:=⟨_,rfl⟩;rw[<-iN]at hk;obtain⟨J2,zU⟩:∃J,J=TA iF fin i I bv nv gv be ne ge:=⟨_,rfl⟩;refine⟨[4,5,6,7,9],J2,⟨rfl,iF.length,?_⟩,?_⟩
  .rw[zU]
   subst hD;exact⟨out,0,_,n,b,f,rfl,rfl,⟨AtR.zero (by omega),V.row,V.nl,V.ol,vE,by have:=V.vl;omega,V.ne,iN⟩⟩
  clear iN;intro m2 ws2 rK iZ;rw[zU]at iZ;obtain⟨o2,j,Jj,n2,b2,f2,rfl,rfl,W⟩:=iZ;have wq:VI ne iF.length:=⟨aV⟩;cbv;refine br hD (λh=>?_) (λh=>?_)<;>cbv
  .have eC:=W.aZ.lt wq.h (QS (p:=Jj<ne) h)
   clear h;have inE:=W.aZ.mP hD wq.h eC;have eo:=W.aZ.step hD eC;have rM:=W.k;have yL:iF.drop j=iF.getD j [] :: iF.drop (j+1):=by rw[QC,QA eC,XB,XY eC]
   rw[yL,Y8]at rM;obtain⟨y,NW⟩:∃y,y=iF.getD j []:=⟨_,rfl⟩;rw[<-NW]at rM;have hy:ge j=[.str y]:=by rw[<-nN,NW];rfl
   have hym:y.length<=2000:=rB y (by rw[NW,QC,QA eC];exact XQ eC);clear yL NW;refine⟨inE,λj2 iZ=>?_⟩;have iZ:=W.aZ.j hD iZ;cbv;rw[iZ,hy];cbv;clear iZ;refine⟨y,rfl,rfl,by omega,λtk tZ=>?_⟩;cbv;rw[<-Oa]at tZ;rw[<-tZ]at rM;clear tZ;refine br hD (λh=>?_) (λh=>?_)<;>cbv
   .have h:tk=true:=h
    rw[QE h]at rM;clear h;refine⟨inE,λj2 iZ=>?_⟩;have iZ:=W.aZ.j hD iZ;cbv;rw[iZ,hy];cbv;clear iZ;refine⟨y,rfl,rfl,by omega,λw hw=>?_⟩;cbv;rw[<-hw]at rM;clear hw;intro g hg;cbv;have lJ:g 0=[.str w]:=hg.h 0 _ rfl;clear hg;refine⟨by subst hD;exact⟨rfl,by have:=W.row.n;have:=W.ol;have:=W.i;have:=W.aZ.le;have:=W.el;show (n2+1) * 16<=_;omega,by have:=W.row.n;have:=W.ol;have:=W.i;have:=W.aZ.le;have:=W.el;show n2+1<=_;omega⟩,λf3 n3 hm=>?_⟩;cbv;have R3:Bz f3 n3 (o2++[w]):=W.row.more lJ (by subst hD;exact hm) (by have:=W.ol;have:=W.i;have:=W.aZ.le;have:=W.el;omega);clear hm;refine⟨_,eo.1,?_⟩;rw[zU];unfold TA;subst hD;refine⟨o2++[w],j+1,_,n3,(b2&&false),f3,rfl,rfl,⟨eo.2,R3,Bool.and_false _,by have:=W.ol;simp;omega,W.el,W.i,by simp,by rw[rM];simp⟩⟩
   .have h:tk=false:=h
    rw[QD (by rw[h];simp)]at rM;refine⟨_,eo.1,?_⟩;rw[zU];unfold TA;subst hD;exact⟨o2,j+1,_,n2,b2,f2,rfl,rfl,⟨eo.2,W.row,W.nl,by have:=W.ol;omega,W.el,W.i,W.ne,rM⟩⟩
  have qZ:=W.aZ.eq wq.h (QZ (p:=Jj<ne) h);have IX:iF.drop j=[]:=XM (by omega);have rM:=W.k;rw[IX]at rM;have rM:fin=o2:=by rw[rM];simp[Qy]
  subst rM;clear h IX;refine⟨_,cM.1,?_⟩;rw[hJ];unfold naJ;subst hD;exact⟨fin,i+1,_,n2,b2,f2,rfl,rfl,⟨cM.2,W.row,W.nl,by have:=W.ol;have:=W.el;have:=W.aZ.le;omega,W.ne,V.vl,V.vm,hk⟩⟩
 have hi:=V.aZ.eq Gv.row.n (QZ (p:=I<nv) h);have rN:vs.drop i=[]:=XM (by omega);have hk:=V.k;rw[rN,Fv]at hk;clear h;rw[hk]at gO mT;have gO:kr=out:=gO;have mT:ke=0:=mT;subst gO mT;subst hD;refine⟨⟨rfl⟩,Fb (.tup (.cons (PJ ⟨V.row,?_⟩ hG rfl rfl) (.cons (Cs rfl) .nil)))⟩;rw[V.nl];have:=V.ne;cases kr with
 |nil=>exact absurd rfl this
 |cons _ _=>rfl
theorem dz(a b:List (List UInt8))(s:List UInt8):jH (a++b) s=(jH a s||jH b s):=by
 induction a with
 |nil=>rfl
 |cons x a ih=>show ((x==s)||jH (a++b) s)=(((x==s)||jH a s)||jH b s);rw[ih,VL]
theorem Ahu{F:List UInt8->Bool}{out:List (List UInt8)}{x:List UInt8}(h:∀s,F s=jH out s)(s:List UInt8):Ky F x s=jH (out++[x]) s:=by
 rw[dz];unfold Ky;show (if s=x then true else F s)=(jH out s||((x==s)||false));rw[h s,VQ]
 by_cases e:s=x
 .subst e;simp
 .rw[QD e]
  have:(x==s)=false:=by rw[beq_eq_false_iff_ne];exact λh=>e h.symm
  rw[this,VQ]
theorem Rb:∀(iF:List (List UInt8)) (F:List UInt8->Bool) (out:List (List UInt8)),(∀s,F s=jH out s)->∀s,Ir F iF s=jH (out++Qy iF) s
 | [],F,out,h,s=>by rw[show Qy []=[] from rfl,YS];exact h s
 |x :: iF,F,out,h,s=>by
  rw[Y8];show Ir (if Cc x then Ky F (Bg x) else F) iF s=_
  split
  .have:=Rb iF (Ky F (Bg x)) (out++[Bg x]) (λs=>Ahu h s) s
   rw[this,ZE];rfl
  .exact Rb iF F out h s
theorem Ale:Bg conn=conn:=by decide
theorem Nq:∀(l:List HF) (F:List UInt8->Bool) (out:List (List UInt8)),(∀s,F s=jH out s)->match Fv (J4 l conn) out with
  |none=>(Gy conn l F).2=false
  |some o=>(Gy conn l F).2=true/\∀s,(Gy conn l F).1 s=jH o s
 | [],F,out,h=>⟨rfl,h⟩
 |x :: l,F,out,h=>by
  rw[Yx,Ale,Gy]
  by_cases hx:Bg x.name=conn
  .rw[QE (by rw[hx];simp),QE hx,Fv]
   by_cases he:(Am x.value).2=0
   .rw[QE he,QD (by simpa using he)]
    exact Nq l _ _ (Rb _ F out h)
   .rw[QD he,QE he]
  .rw[QD (by simpa using hx),QD hx]
   exact Nq l F out h
theorem Vx:∀(l:List (List UInt8)) (F:List UInt8->Bool) (out:List (List UInt8)),(∀s,F s=jH out s)->∀s,(l.foldl Ky F) s=jH (out++l) s
 | [],F,out,h,s=>by rw[YS];exact h s
 |x :: l,F,out,h,s=>by
  have:=Vx l (Ky F x) (out++[x]) (λs=>Ahu h s) s;rw[UA,this,ZE];rfl
def Rx(o:List (List UInt8))(l:List HF):List HF:=l.filter λx=>!jH o (Bg x.name)
theorem Afg{l:List HF}(h:Bh l=0):Ci l=match Fv (J4 l conn) dU with
  |none=>([],6)
  |some o=>(Rx o l,0):=by
 have hb:∀s,PN s=jH dU s:=by
  intro s;have:=Vx dU (λ_=>false) [] (λs=>rfl) s;rw[List.nil_append]at this;exact this
 have hn:=Nq l PN dU hb;unfold Ci Ie;rw[QD (by rw[h];simp)];cases hk:Fv (J4 l conn) dU with
 |none=>rw[hk]at hn;simp only at hn;rw[QD (by rw[hn];simp)]
 |some o =>
  rw[hk]at hn;simp only at hn;rw[QE hn.1];unfold Ee Rx;congr 1;congr 1
  funext x;unfold O4;rw[hn.2]
def pV:aD:=λ_ xs ls K=>∃(l:List HF) (nl:Bool) (n:Int) (f:Nat->List SV),xs=[.sl (.a nl) (.a n) 2 f]/\ls=[]/\A3 f n l/\∀r e g n' b,(r,e)=Ci l->uP g n' b r->K (.tup [.sl (.a b) (.a n') 2 g,.int .i64 (.a e)]) []
structure StJ(l:List HF)(o:List (List UInt8))(k out:List HF)(i:Nat)(I n:Int)(b:Bool)(f:Nat->List SV)(m:Nat):Prop where
 aZ:AtR l i I m
 row:uP f n b out
 ol:out.length<=i
 k:k=out++Rx o (l.drop i)
def SF(l:List HF)(o:List (List UInt8))(k:List HF)(nl:Bool)(N:Int)(F:Nat->List SV)(bo:Bool)(no:Int)(go:Nat->List SV)(m:Nat)(vs:List (Option SV))(hp:List Hl):Prop :=
 ∃(out:List HF) (i:Nat) (I n:Int) (b:Bool) (f:Nat->List SV),vs=[some (.sl (.a nl) (.a N) 2 F),some (.sl (.a bo) (.a no) 1 go),some (.eD (.a b) (.a n) 2 f 0),some (.int .i64 (.a I))]/\hp=[.tail 100 (.a n) 2]/\StJ l o k out i I n b f m
theorem Agn(o:List (List UInt8))(x:HF)(l:List HF):Rx o (x :: l)=if !jH o (Bg x.name) then x :: Rx o l else Rx o l:=by
 unfold Rx;rw[YL]
theorem Acc:Aw Tryz.prog gl 207 pV:=by
 refine Bd (gh:=[(7,[.attach 6 100])]) mixed Be (Ab K2 (Ab Am5 (Ab Jy (Ab vb Ai)))) Tryz.func207 (by kernel_rfl) (by kernel_rfl) ?_;intro xs ls K h;unfold pV at h;obtain⟨l,nl,N,F,rfl,rfl,R,h⟩:=h;obtain⟨k,hk⟩:∃k,k=Ci l:=⟨_,rfl⟩;obtain⟨kr,ke⟩:=k;have jV:kr.length<=1000000/\∀x∈kr,x.small:=by
  unfold Ci at hk
  split at hk
  .obtain⟨rfl,_⟩:=Prod.mk.inj hk;exact⟨by simp,λx hx=>by cases hx⟩
  .rename_i h1
   have:=Dl (l:=l) (by simpa using h1)
   split at hk
   .obtain⟨rfl,_⟩:=Prod.mk.inj hk
    refine⟨XO (ZX ..) (by omega),λx hx=>R.tw x (List.mem_filter.1 hx).1⟩
   .obtain⟨rfl,_⟩:=Prod.mk.inj hk;exact⟨by simp,λx hx=>by cases hx⟩
 obtain⟨f1,n1,b1,hG⟩:∃f1 n1 b1,uP f1 n1 b1 kr:=⟨_,_,_,⟨A3.row (by omega) (λi hi=>jV.2 _ (by rw[QC,QA hi];exact XQ hi)),rfl⟩⟩;clear jV;refine⟨_,_,h kr ke f1 n1 b1 hk hG,λD hD=>?_⟩;cbv;clear h;refine⟨l,nl,N,F,by subst hD;rfl,rfl,R,λc hc=>?_⟩;cbv;refine br hD (λh=>?_) (λh=>?_)<;>cbv
 .have h:(c != 0)=true:=h
  have h1:c≠0:=by simpa using h
  unfold Ci at hk;rw[<-hc,QE h1]at hk;obtain⟨rfl,rfl⟩:=Prod.mk.inj hk;subst hD;exact Fb (.tup (.cons (Anl uP.nil hG rfl rfl) (.cons (Cs rfl) .nil)))
 have h:(c != 0)=false:=h;have h1:Bh l=0:=by rw[<-hc];simpa using h
 have hlen:=Dl h1;rw[Afg h1]at hk;clear h hc;refine⟨l,nl,N,F,by subst hD;rfl,rfl,R,h1,λq o e go no bo hq ho he Go=>?_⟩;cbv;rw[<-hq]at hk;clear hq h1;refine br hD (λh=>?_) (λh=>?_)<;>cbv
 .have h:(e != 0)=true:=h
  have hqn:q=none:=by
   cases q with
   |none=>rfl
   |some _=>rw[he]at h;cases h
  subst hqn;have he:e=6:=he;obtain⟨rfl,rfl⟩:=Prod.mk.inj hk;subst he;subst hD;exact Fb (.tup (.cons (Anl uP.nil hG rfl rfl) (.cons (Cs rfl) .nil)))
 have h:(e != 0)=false:=h;have hqs:∃o',q=some o':=by
  cases q with
  |none=>rw[he]at h;cases h
  |some o'=>exact⟨o',rfl⟩
 obtain⟨o',rfl⟩:=hqs;have ho:o=o':=ho;subst ho;obtain⟨gO,mT⟩:=Prod.mk.inj hk;clear hk he h;obtain⟨J,hJ⟩:∃J,J=SF l o kr nl N F bo no go:=⟨_,rfl⟩;refine⟨[0,5,6,7],J,⟨rfl,l.length,?_⟩,?_⟩
 .rw[hJ]
  subst hD;exact⟨[],0,_,_,_,_,rfl,rfl,⟨AtR.zero R.len,uP.nil,QK _,gO⟩⟩
 clear gO;intro m vs hp hj;rw[hJ]at hj;obtain⟨out,i,I,n,b,f,rfl,rfl,V⟩:=hj;cbv;refine br hD (λh=>?_) (λh=>?_)<;>cbv
 .have aA:=V.aZ.lt R.n (QS (p:=I<N) h)
  clear h;have oJ:=V.aZ.mP hD R.n aA;have hx:=R.f i aA;have fF:=R.small i aA;have cM:=V.aZ.step hD aA;have hk:=V.k;rw[MV aA,Agn]at hk;obtain⟨x,jU⟩:∃x,x=l.getD i default:=⟨_,rfl⟩;rw[<-jU]at hx hk fF;clear jU;obtain⟨xn,xv⟩:=x;refine⟨oJ,λj hj=>?_⟩;have hj:=V.aZ.j hD hj;cbv;rw[hj,hx];cbv;refine⟨xn,rfl,rfl,fF.1,λw hw=>?_⟩;cbv;refine⟨o,w,bo,no,go,by subst hD;rfl,rfl,Go.row,λr hr=>?_⟩;cbv;simp only at hk;rw[<-hw,<-hr]at hk;clear hr hj hw;refine br hD (λh=>?_) (λh=>?_)<;>cbv
  .have h:(!r)=true:=h
   rw[QE h]at hk;clear h;refine⟨oJ,λj hj=>?_⟩;have hj:=V.aZ.j hD hj;cbv;rw[hj,hx];cbv;clear hj;intro g hg;cbv;have lJ:g 0=Dk ⟨xn,xv⟩:=hg.h 0 _ rfl;clear hg;refine⟨by subst hD;exact⟨rfl,by have:=V.row.row.n;have:=V.ol;show (n+1) * 32<=_;omega,by have:=V.row.row.n;have:=V.ol;show n+1<=_;omega⟩,λf' n' hm=>?_⟩;cbv;have G2:∀nK,nK=false->uP f' n' nK (out++[⟨xn,xv⟩]):=λnK hb=>V.row.more lJ fF (by subst hD;exact hm) (by have:=V.ol;omega) hb;clear hm;refine⟨_,cM.1,?_⟩;rw[hJ];unfold SF;subst hD;refine⟨out++[⟨xn,xv⟩],i+1,_,n',(b&&false),f',rfl,rfl,⟨cM.2,G2 _ (Bool.and_false _),by have:=V.ol;simp;omega,by rw[hk];simp⟩⟩
  .have h:(!r)=false:=h
   rw[QD (by rw[h];simp)]at hk;refine⟨_,cM.1,?_⟩;rw[hJ];unfold SF;subst hD;exact⟨out,i+1,_,n,b,f,rfl,rfl,⟨cM.2,V.row,by have:=V.ol;omega,hk⟩⟩
 have hi:=V.aZ.eq R.n (QZ (p:=I<N) h);have rN:l.drop i=[]:=XM (by omega);have hk:=V.k;rw[rN]at hk;have hk:kr=out:=by rw[hk];simp[Rx]
 subst hk;subst mT;subst hD;exact Fb (.tup (.cons (Anl V.row hG rfl rfl) (.cons (Cs rfl) .nil)))
set_option maxHeartbeats 8000000
theorem sw(h:48<=c/\c<=57):Ch c=c-48:=by unfold Ch;rw[QE h]
theorem sv(h:65<=c/\c<=70):Ch c=c-55:=by unfold Ch;rw[QD (by omega),QE h]
theorem su(h:97<=c/\c<=102):Ch c=c-87:=by unfold Ch;rw[QD (by omega),QD (by omega),QE h]
theorem sr(h1:¬(48<=c/\c<=57))(h2:¬(65<=c/\c<=70))(h3:¬(97<=c/\c<=102)):Ch c=-1:=by unfold Ch;rw[QD h1,QD h2,QD h3]
theorem xc:Aw Tryz.prog gl 290 mB:=by
 refine Bd (gh:=[]) mixed Be Ai Tryz.func290 (by kernel_rfl) (by kernel_rfl) ?_;intro xs ls K h;unfold mB at h;obtain⟨c,rfl,rfl,hc,h⟩:=h;obtain⟨k,hk⟩:∃k,k=Ch c:=⟨_,rfl⟩;refine⟨_,_,h k hk,λD hD=>?_⟩;cbv;clear h;have w:∀n:Int,-1000<=n->n<=1000->IntKind.i64.wrap n=n:=λn a b=>wrap64 (by omega) (by omega);refine br hD (λh=>?_) (λh=>?_)<;>cbv
 .have h2:48<=c/\c<=57:=by simpa using h
  refine Bj hD ?_;rw[hk,sw h2];show IntKind.i64.wrap (IntKind.u8.wrap (c-48))=_;rw[Rg (by omega) (by omega),w _ (by omega) (by omega)]
 have h2:¬(48<=c/\c<=57):=by simpa using h
 clear h;refine br hD (λh=>?_) (λh=>?_)<;>cbv
 .have h3:97<=c/\c<=102:=by simpa using h
  refine Bj hD ?_;rw[hk,su h3];show IntKind.i64.wrap (IntKind.i64.wrap (IntKind.u8.wrap (c-97))+10)=_;rw[Rg (by omega) (by omega),w (c-97) (by omega) (by omega),w _ (by omega) (by omega)];omega
 have h3:¬(97<=c/\c<=102):=by simpa using h
 clear h;refine br hD (λh=>?_) (λh=>?_)<;>cbv
 .have h4:65<=c/\c<=70:=by simpa using h
  refine Bj hD ?_;rw[hk,sv h4];show IntKind.i64.wrap (IntKind.i64.wrap (IntKind.u8.wrap (c-65))+10)=_;rw[Rg (by omega) (by omega),w (c-65) (by omega) (by omega),w _ (by omega) (by omega)];omega
 have h4:¬(65<=c/\c<=70):=by simpa using h
 refine Bj hD ?_;rw[hk,sr h2 h4 h3];rfl
def Ni(c:Int):Bool:=decide (Ct c.toNat=1)
def pY:aD:=λ_ xs ls K=>∃(c:Int),xs=[.int .u8 (.a c)]/\ls=[]/\(0<=c/\c<=255)/\∀r,r=Ni c->K (.bool (.a r)) []
theorem Af2(hc:0<=c/\c<=255):Ni c=true↔((((((97<=c/\c<=122)\/(65<=c/\c<=90))\/(48<=c/\c<=57))\/c=45)\/c=46)\/c=95)\/c=126:=by
 unfold Ni Ct;rw[QN]
 split
 .constructor
  .intro _;omega
  .intro _;rfl
 .split
  .constructor
   .intro h;cases h
   .intro _;omega
  .constructor
   .intro h;cases h
   .intro _;omega
theorem Aj3:Aw Tryz.prog gl 258 pY:=by
 refine Bd (gh:=[]) mixed Be Ai Tryz.func258 (by kernel_rfl) (by kernel_rfl) ?_;intro xs ls K h;unfold pY at h;obtain⟨c,rfl,rfl,hc,h⟩:=h;obtain⟨k,hk⟩:∃k,k=Ni c:=⟨_,rfl⟩;refine⟨_,_,h k hk,λD hD=>?_⟩;cbv;clear h;refine Al hD ?_;rw[hk,ZC,Af2 hc];show (((((((decide (97<=c)&&decide (c<=122))||(decide (65<=c)&&decide (c<=90)))||(decide (48<=c)&&decide (c<=57)))||(c==45))||(c==46))||(c==95))||(c==126))=true↔_;simp only[ZB,QB,QN,XI]
def Iq(c:Int)(s:List UInt8):Bool:=s.any λb=>((b.toNat:Int)==c)
def tT:aD:=λ_ xs ls K=>∃(c:Int) (s:List UInt8),xs=[.int .u8 (.a c),.str s]/\ls=[]/\s.length<=9223372036854775807/\∀r,r=Iq c s->K (.bool (.a r)) []
def amJ(c:Int)(s:List UInt8)(k:Bool)(m:Nat)(vs:List (Option SV))(hp:List Hl):Prop :=
 ∃(i:Nat) (I:Int),vs=[some (.int .u8 (.a c)),some (.str s),some (.int .i64 (.a I))]/\hp=[]/\At s i I m/\k=Iq c (s.drop i)
theorem Ae2:Aw Tryz.prog gl 259 tT:=by
 refine Bd (gh:=[]) mixed Be Ai Tryz.func259 (by kernel_rfl) (by kernel_rfl) ?_;intro xs ls K h;unfold tT at h;obtain⟨c,s,rfl,rfl,hs,h⟩:=h;obtain⟨k,hk⟩:∃k,k=Iq c s:=⟨_,rfl⟩;refine⟨_,_,h k hk,λD hD=>?_⟩;cbv;clear h;obtain⟨J,hJ⟩:∃J,J=amJ c s k:=⟨_,rfl⟩;refine⟨[0,1,5],J,⟨rfl,s.length,?_⟩,?_⟩
 .rw[hJ]
  subst hD;exact⟨0,0,rfl,rfl,At.zero hs,hk⟩
 intro m vs hp hv;rw[hJ]at hv;unfold amJ at hv;obtain⟨i,I,rfl,rfl,V,aR⟩:=hv;clear hk;cbv;refine br hD (λh=>?_) (λh=>?_)<;>cbv
 .have aA:=V.lt (QS (p:=I<(s.length:Int)) h)
  clear h;rw[drop_at aA]at aR;refine⟨V.nU hD aA,λb hb=>?_⟩;cbv;have eA:=D0 hD V.I hb;have cM:=V.step hD aA;refine br hD (λh=>?_) (λh=>?_)<;>cbv
  .have h:(b==c)=true:=h
   refine Al hD ?_;rw[aR];show true=(((s.getD i 0).toNat:Int)==c||Iq c _);have h3:=eA.aC;unfold aC at h3;rw[<-h3,h];rfl
  .have h:(b==c)=false:=h
   refine⟨_,cM.1,?_⟩;rw[hJ];unfold amJ;subst hD;refine⟨i+1,_,rfl,rfl,cM.2,?_⟩;rw[aR];show (((s.getD i 0).toNat:Int)==c||Iq c _)=_;have h3:=eA.aC;unfold aC at h3;rw[<-h3,h,UM]
 have he:=V.eq (QZ (p:=I<(s.length:Int)) h);refine Al hD ?_;rw[aR,XM (by omega)];rfl
def wQ:aD:=λ_ xs ls K=>∃(s:List UInt8) (i:Nat) (I:Int),xs=[.str s,.int .i64 (.a I)]/\ls=[]/\I=i/\s.length<=1000000/\i<=s.length/\∀r,r=Du s i->K (.bool (.a r)) []
structure EnV(s:List UInt8)(i:Nat)(I:Int):Prop where
 I:I=i
 len:s.length<=1000000
 le:i<=s.length
theorem Agz:Aw Tryz.prog gl 257 wQ:=by
 refine Bd (gh:=[]) mixed Be (Ab xc Ai) Tryz.func257 (by kernel_rfl) (by kernel_rfl) ?_;intro xs ls K h;unfold wQ at h;obtain⟨s,i,I,rfl,rfl,hI,hs,hi,h⟩:=h;obtain⟨k,hk⟩:∃k,k=Du s i:=⟨_,rfl⟩;have V:EnV s i I:=⟨hI,hs,hi⟩;clear hI hs hi;refine⟨_,_,h k hk,λD hD=>?_⟩;cbv;clear h;have w1:IntKind.i64.wrap (I+1)=I+1:=by have:=V.I;have:=V.len;have:=V.le;exact wrap64 (by omega) (by omega)
 have w2:IntKind.i64.wrap (I+2)=I+2:=by have:=V.I;have:=V.len;have:=V.le;exact wrap64 (by omega) (by omega)
 have aA:decide (IntKind.i64.wrap (I+2)<(s.length:Int))=true->i+2<s.length:=λhg=>by
  have h:=QS hg;rw[w2]at h;have:=V.I;omega
 refine⟨λhg=>?_,λc hc=>?_⟩
 .subst hD
  have:=aA hg;exact⟨by show 0<=I;have:=V.I;omega,by show I<_;have:=V.I;omega⟩
 cbv;have cQ:Cq c s i:=D0 hD V.I hc;clear hc;refine⟨λhg=>?_,λx hx=>?_⟩
 .subst hD
  have hg:(decide (IntKind.i64.wrap (I+2)<(s.length:Int))&&(c==37))=true:=hg;have:=aA (Bool.and_eq_true_iff.1 hg).1;exact⟨by show 0<=IntKind.i64.wrap (I+1);rw[w1];have:=V.I;omega,by show IntKind.i64.wrap (I+1)<_;rw[w1];have:=V.I;omega⟩
 cbv;have sH:Cq x s (i+1):=Dm hD (e:=.bin .add .i64 (.a I) (.l 1)) (by show IntKind.i64.wrap (I+1)=_;rw[w1,V.I];rfl) hx;clear hx;refine⟨_,rfl,rfl,by subst hD;exact sH.le,λa ha=>?_⟩;cbv;have ha:a=Ch x:=by subst hD;exact ha
 refine⟨λhg=>?_,λy hy=>?_⟩
 .subst hD
  have hg:((decide (IntKind.i64.wrap (I+2)<(s.length:Int))&&(c==37))&&decide (0<=a))=true:=hg;have:=aA (Bool.and_eq_true_iff.1 (Bool.and_eq_true_iff.1 hg).1).1;exact⟨by show 0<=IntKind.i64.wrap (I+2);rw[w2];have:=V.I;omega,by show IntKind.i64.wrap (I+2)<_;rw[w2];have:=V.I;omega⟩
 cbv;have BF:Cq y s (i+2):=Dm hD (e:=.bin .add .i64 (.a I) (.l 2)) (by show IntKind.i64.wrap (I+2)=_;rw[w2,V.I];rfl) hy;clear hy;refine⟨_,rfl,rfl,by subst hD;exact BF.le,λb hb=>?_⟩;cbv;have hb:b=Ch y:=by subst hD;exact hb
 refine Al hD ?_;rw[hk];show (((decide (IntKind.i64.wrap (I+2)<(s.length:Int))&&(c==37))&&decide (0<=a))&&decide (0<=b))=_;have hP:Qt s i↔(i+2<s.length/\c=37/\0<=a/\0<=b):=by
  unfold Qt;rw[<-cQ.aC,<-sH.aC,<-BF.aC,<-ha,<-hb]
 unfold Du;rw[w2,ZC];simp only[QB,QN,XI];rw[hP];have:=V.I;constructor
 .rintro⟨⟨⟨h1,h2⟩,h3⟩,h4⟩;exact⟨by omega,h2,h3,h4⟩
 .rintro⟨h1,h2,h3,h4⟩;exact⟨⟨⟨by omega,h2⟩,h3⟩,h4⟩
def nk(k:Nat):aD:=λ_ xs ls K=>∃(n:Int),xs=[.int .i64 (.a n)]/\ls=[]/\0<=n/\n<k/\n<=9223372036854775807/\∀r,r=Lib.decDigits n.toNat->K (.str r) []
theorem Ek{n:Int}(h:0<=n)(h2:n<=9223372036854775807):(Lib.decDigits n.toNat).length<=20:=by
 rw[Lib.decDigits_length];exact Lib.nDigits_le20 _ (by omega)
structure DgV(n:Int)(k:Nat):Prop where
 lo:0<=n
 lt:n<(k+1:Nat)
 hi:n<=9223372036854775807
structure ae9(n:Int)(k:Nat):Prop where
 h:n<k
theorem Nv:∀k,Aw Tryz.prog gl 208 (nk k)
 |0=>by
  refine⟨⟨Tryz.f208,_,Tryz.func208,rfl,by kernel_rfl⟩,λxs ls K h=>?_⟩;obtain⟨n,_,_,h0,h1,_⟩:=h;omega
 |k+1=>by
  refine Bd (gh:=[]) mixed Be (Ab (Nv k) Ai) Tryz.func208 (by kernel_rfl) (by kernel_rfl) ?_;intro xs ls K h;unfold nk at h;obtain⟨n,rfl,rfl,h0,OF,h2,h⟩:=h;obtain⟨q,hq⟩:∃q,q=Lib.decDigits n.toNat:=⟨_,rfl⟩;have V:DgV n k:=⟨h0,OF,h2⟩;clear h0 OF h2;refine⟨_,_,h q hq,λD hD=>?_⟩;cbv;clear h;refine br hD (λh=>?_) (λh=>?_)<;>cbv
  .have h9:9<n:=by
    have h:(decide (9<n)||decide (n < -9))=true:=h;simp only[ZB,QN]at h;have:=V.lo;omega
   clear h;have HA:Cp .rem .i64 n 10=n % 10:=by
    show n.tmod 10=_;exact Int.tmod_eq_emod_of_nonneg V.lo
   have sK:Cp .quo .i64 n 10=n / 10:=by
    show IntKind.i64.wrap (n.tdiv 10)=_;rw[Int.tdiv_eq_ediv_of_nonneg V.lo];have:=V.lo;have:=V.hi;exact wrap64 (by omega) (by omega)
   have W:DgV (n / 10) k:=⟨by have:=V.lo;omega,by have:=V.lo;have:=V.lt;omega,by have:=V.lo;have:=V.hi;omega⟩;have aA:n / 10<k:=by have:=V.lo;have:=V.lt;omega
   have hw:IntKind.u8.wrap (IntKind.i64.wrap (48+Cp .rem .i64 n 10))=48+n % 10:=by
    rw[HA,wrap64 (by omega) (by omega)];exact Rg (by omega) (by omega)
   have px:Lib.decDigits n.toNat=Lib.decDigits (n / 10).toNat++[UInt8.ofNat (48+n.toNat % 10)]:=by
    rw[Lib.decDigits,dif_neg (by have:=V.lo;omega)];congr 3;have:=V.lo;omega
   rw[px]at hq;have GQ:((UInt8.ofNat (48+n.toNat % 10)).toNat:Int)=48+n % 10:=by
    rw[UT];have:=V.lo;omega
   have HU:VI (IntKind.u8.wrap (IntKind.i64.wrap (48+Cp .rem .i64 n 10))) (UInt8.ofNat (48+n.toNat % 10)).toNat:=⟨by rw[hw,GQ]⟩;clear hw GQ;have HV:ae9 (n / 10) k:=⟨aA⟩;clear aA px;refine⟨⟨by subst hD;decide⟩,?_⟩;refine br hD (λh=>?_) (λh=>?_)<;>cbv
   .exfalso
    have h:decide (Cp .rem .i64 n 10<0)=true:=h;rw[HA]at h;have:=QS h;have:=V.lo;omega
   clear h;refine⟨⟨by subst hD;decide⟩,_,rfl,rfl,by subst hD;show 0<=Cp .quo .i64 n 10;rw[sK];exact W.lo,by subst hD;show Cp .quo .i64 n 10<_;rw[sK];exact HV.h,by subst hD;show Cp .quo .i64 n 10<=_;rw[sK];exact W.hi,λr hr=>?_⟩;cbv;have hr:r=Lib.decDigits (n / 10).toNat:=by
    subst hD;have hr:r=Lib.decDigits (Cp .quo .i64 n 10).toNat:=hr;rw[sK]at hr;exact hr
   have zP:r.length<=20:=by rw[hr];exact Ek W.lo W.hi
   rw[<-hr]at hq;clear hr;obtain⟨c8,hc8⟩:∃c8,c8=UInt8.ofNat (48+n.toNat % 10):=⟨_,rfl⟩;rw[<-hc8]at hq HU;intro g hg;cbv;have R:Alt g 1 [c8]:=by
    refine⟨rfl,λi hi=>?_⟩;have hi:i<1:=hi;obtain rfl:i=0:=by omega
    subst hD;have h5:g 0=[.int .u8 (.a (IntKind.u8.wrap (IntKind.i64.wrap (48+Cp .rem .i64 n 10))))]:=hg.h 0 _ rfl;rw[h5,HU.h];rfl
   clear hg;refine⟨by subst hD;exact R.byte,λw ox=>?_⟩;cbv;have ox:w=[c8]:=by subst hD;exact R.str ox
   refine⟨⟨by rw[ox];simp only[QT,XV];omega⟩,λt ht=>?_⟩;cbv;have ht:=ht.h;exact Nt (by rw[ht,ox,hq])
  have h9:n<=9:=by
   have h:(decide (9<n)||decide (n < -9))=false:=h;simp only[XU,XG]at h;omega
  clear h;have px:Lib.decDigits n.toNat=[UInt8.ofNat (48+n.toNat)]:=by
   rw[Lib.decDigits,dif_pos (by have:=V.lo;omega)]
  rw[px]at hq;have hw:IntKind.u8.wrap (IntKind.i64.wrap (48+n))=48+n:=by
   have:=V.lo;rw[wrap64 (by omega) (by omega)];exact Rg (by omega) (by omega)
  have GQ:((UInt8.ofNat (48+n.toNat)).toNat:Int)=48+n:=by
   rw[UT];have:=V.lo;omega
  have HU:VI (IntKind.u8.wrap (IntKind.i64.wrap (48+n))) (UInt8.ofNat (48+n.toNat)).toNat:=⟨by rw[hw,GQ]⟩;clear hw GQ px;obtain⟨c8,hc8⟩:∃c8,c8=UInt8.ofNat (48+n.toNat):=⟨_,rfl⟩;rw[<-hc8]at hq HU;refine br hD (λh=>?_) (λh=>?_)<;>cbv
  .exfalso
   have h:decide (n<0)=true:=h;have:=QS h;have:=V.lo;omega
  clear h;intro g hg;cbv;have R:Alt g 1 [c8]:=by
   refine⟨rfl,λi hi=>?_⟩;have hi:i<1:=hi;obtain rfl:i=0:=by omega
   subst hD;have h5:g 0=[.int .u8 (.a (IntKind.u8.wrap (IntKind.i64.wrap (48+n))))]:=hg.h 0 _ rfl;rw[h5,HU.h];rfl
  clear hg;refine⟨by subst hD;exact R.byte,λw ox=>?_⟩;cbv;have ox:w=[c8]:=by subst hD;exact R.str ox
  exact Nt (by rw[ox,hq])
def wR:aD:=λ_ xs ls K=>∃(n:Int),xs=[.int .i64 (.a n)]/\ls=[]/\0<=n/\n<=9223372036854775807/\∀r,r=Lib.itoa n->K (.str r) []
theorem Aeh:Aw Tryz.prog gl 208 wR:=by
 refine⟨(Nv 0).1,λxs ls K h=>?_⟩;obtain⟨n,rfl,rfl,h0,h2,h⟩:=h;refine (Nv (n.toNat+1)).2 _ _ _ ⟨n,rfl,rfl,h0,by omega,h2,λr hr=>h r ?_⟩;rw[hr,Lib.itoa,QD (by omega)]
def MZ(c:Int):Bool:=((decide (97<=c)&&decide (c<=122))||(decide (48<=c)&&decide (c<=57)))||Iq c [45,46,58]
theorem Akx:∀c:Fin 256,MZ (c.1:Int)=Md.contains (UInt8.ofNat c.1):=by decide +kernel
theorem Adl(b:UInt8):Md.contains b=MZ (b.toNat:Int):=by
 have:=Akx ⟨b.toNat,b.toNat_lt⟩;simp only[UInt8.ofNat_toNat]at this;exact this.symm
def Tl(s:List UInt8):Bool:=s.all λb=>MZ (b.toNat:Int)
theorem Akw(s:List UInt8):O7 s=(s != []&&(decide (s.length<=100)&&Tl s)):=by
 unfold O7 Tl;congr 2;rw[ZC,XI,VD];constructor
 .intro h c hc
  rw[<-Adl];exact Ajf h c hc
 .intro h
  show ((s.reverse.dropWhile (λx=>Md.contains x)).reverse).dropWhile (λx=>Md.contains x)=[];rw[dropWhile_nil];intro x hx;have hx:=List.mem_reverse.1 hx;have hx:x∈s.reverse:=(List.dropWhile_suffix _).subset hx;rw[Adl];exact h x (List.mem_reverse.1 hx)
def WC(s:List UInt8)(k:Bool)(m:Nat)(vs:List (Option SV))(hp:List Hl):Prop :=
 ∃(i:Nat) (I:Int),vs=[some (.str s),some (.int .i64 (.a I))]/\hp=[]/\At s i I m/\k=Tl (s.drop i)
theorem Afx:Aw Tryz.prog gl 204 (C9 O7):=by
 refine Bd (gh:=[]) mixed Be (Ab Ae2 Ai) Tryz.func204 (by kernel_rfl) (by kernel_rfl) ?_;intro xs ls K h;unfold C9 at h;obtain⟨s,rfl,rfl,hs,h⟩:=h;obtain⟨k,hk⟩:∃k,k=O7 s:=⟨_,rfl⟩;refine⟨_,_,h k hk,λD hD=>?_⟩;cbv;clear h;rw[Akw]at hk;refine br hD (λh=>?_) (λh=>?_)<;>cbv
 .have h:(decide ((s.length:Int)<1)||decide (100<(s.length:Int)))=true:=h
  simp only[ZB,QN]at h;refine Al hD ?_;rw[hk]
  symm
  show _=false;rcases h with h|h
  .have:s=[]:=QQ (by omega)
   rw[this];rfl
  .rw[UW (show ¬s.length<=100 by omega)]
   simp
 have h:(decide ((s.length:Int)<1)||decide (100<(s.length:Int)))=false:=h;simp only[XU,XG]at h;have aV:s≠[]:=by rintro rfl;simp at h
 rw[decide_eq_true (show s.length<=100 by omega),VK]at hk;have qQ:(s != [])=true:=by simpa using aV
 rw[qQ,VK]at hk;clear h aV qQ;obtain⟨J,hJ⟩:∃J,J=WC s k:=⟨_,rfl⟩;refine⟨[0,3],J,⟨rfl,s.length,?_⟩,?_⟩
 .rw[hJ]
  subst hD;exact⟨0,0,rfl,rfl,At.zero hs,hk⟩
 intro m vs hp hv;rw[hJ]at hv;unfold WC at hv;obtain⟨i,I,rfl,rfl,V,aR⟩:=hv;clear hk;cbv;refine br hD (λh=>?_) (λh=>?_)<;>cbv
 .have aA:=V.lt (QS (p:=I<(s.length:Int)) h)
  clear h;rw[drop_at aA]at aR;have aR:k=(MZ ((s.getD i 0).toNat:Int)&&Tl (s.drop (i+1))):=aR;have cM:=V.step hD aA;have nU:=V.nU hD aA;refine⟨nU,λb hb=>?_⟩;cbv;have eA:=D0 hD V.I hb;clear hb;refine⟨λ_=>nU,λb1 hb=>?_⟩;cbv;have e1:b1=b:=by rw[(D0 hD V.I hb).h,eA.h]
  subst e1;clear hb;refine⟨λ_=>nU,λb3 hb=>?_⟩;cbv;have e1:b3=b1:=by rw[(D0 hD V.I hb).h,eA.h]
  subst e1;clear hb;refine⟨λ_ _=>nU,λb4 hb=>?_⟩;cbv;have e1:b4=b3:=by rw[(D0 hD V.I hb).h,eA.h]
  subst e1;clear hb;refine⟨λ_=>nU,λb5 hb=>?_⟩;cbv;have e1:b5=b4:=by rw[(D0 hD V.I hb).h,eA.h]
  subst e1;clear hb;refine⟨_,[45,46,58],rfl,rfl,by decide,λq hq=>?_⟩;cbv;have hq:q=Iq b5 [45,46,58]:=by subst hD;exact hq
  have bD:MZ ((s.getD i 0).toNat:Int)=(((decide (97<=b5)&&decide (b5<=122))||(decide (48<=b5)&&decide (b5<=57)))||q):=by
   rw[<-eA.h,hq];rfl
  rw[bD]at aR;clear bD hq;refine br hD (λh=>?_) (λh=>?_)<;>cbv
  .have h:(!(((decide (97<=b5)&&decide (b5<=122))||(decide (48<=b5)&&decide (b5<=57)))||q))=true:=h
   simp only[XK]at h;rw[h,Bool.false_and]at aR;exact Al hD aR.symm
  .have h:(!(((decide (97<=b5)&&decide (b5<=122))||(decide (48<=b5)&&decide (b5<=57)))||q))=false:=h
   simp only[YJ]at h;rw[h,VK]at aR;refine⟨_,cM.1,?_⟩;rw[hJ];unfold WC;subst hD;exact⟨i+1,_,rfl,rfl,cM.2,aR⟩
 have he:=V.eq (QZ (p:=I<(s.length:Int)) h);have rN:s.drop i=[]:=XM (by omega);rw[rN]at aR;exact Al hD aR.symm
theorem Xc:Aw Tryz.prog gl 202 (C9 Dq):=by
 refine Bd (gh:=[]) mixed Be (Ab H9 Ai) Tryz.func202 (by kernel_rfl) (by kernel_rfl) ?_;intro xs ls K h;unfold C9 at h;obtain⟨s,rfl,rfl,hs,h⟩:=h;obtain⟨k,hk⟩:∃k,k=Dq s:=⟨_,rfl⟩;refine⟨_,_,h k hk,λD hD=>?_⟩;cbv;clear h;refine⟨s,rfl,rfl,hs,λb hb=>?_⟩;cbv;rw[<-Oa]at hb;refine Al hD ?_;rw[hk,Dq,<-hb];show (decide ((s.length:Int)<=16)&&b)=_;congr 1;rw[decide_eq_decide];omega
theorem Apn(s:List UInt8):Sj s=jH [[71,69,84],[72,69,65,68],[84,82,65,67,69]] s:=by
 rw[ZC,dy];simp only[ZO,List.not_mem_nil,or_false];unfold Sj
 split
 .simp[*]
 .split
  .simp[*]
  .split
   .rename_i h;subst h;simp
   .split
    .simp[*]
    .split
     .rename_i h;subst h;simp
     .split<;>simp[*]
theorem Afy:Aw Tryz.prog gl 206 (C9 Sj):=by
 refine Bd (gh:=[]) mixed Be (Ab Agq Ai) Tryz.func206 (by kernel_rfl) (by kernel_rfl) ?_;intro xs ls K h;unfold C9 at h;obtain⟨s,rfl,rfl,hs,h⟩:=h;obtain⟨k,hk⟩:∃k,k=Sj s:=⟨_,rfl⟩;refine⟨_,_,h k hk,λD hD=>?_⟩;cbv;clear h;intro g hg;cbv;have R:Bz g 3 [[71,69,84],[72,69,65,68],[84,82,65,67,69]]:=Oc (l:=[[71,69,84],[72,69,65,68],[84,82,65,67,69]]) hg (by decide);refine⟨[[71,69,84],[72,69,65,68],[84,82,65,67,69]],s,false,3,g,by subst hD;rfl,rfl,R,λr hr=>?_⟩;cbv;refine Al hD ?_;rw[hk,Apn,<-hr];rfl
end Go.Proofs.YtdoogdbjiijifaaGreatDoor
