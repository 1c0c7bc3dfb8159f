/- A part of the proof: contracts of functions, or the executor and its soundness. No conditions. -/
import Derived.Test.YtdoogdbjiijifaaGreatDoorE8Pay
namespace Go.Proofs.YtdoogdbjiijifaaGreatDoor
open Go Go.Sx
set_option maxRecDepth 100000
set_option maxHeartbeats 8000000
def Ut(l:List (List UInt8))(x:List UInt8):Nat->Int
 |i=>match l with
  | []=>-1
  |y :: r=>if x=y then i else Ut r x (i+1)
def FG(l:List (List UInt8))(x:List UInt8)(k:Int)(nl:Bool)(n:Int)(f:Nat->List SV)(m:Nat)(vs:List (Option SV))(hp:List Hl):Prop :=
 ∃(i:Nat) (I:Int),vs=[some (.sl (.a nl) (.a n) 1 f),some (.str x),some (.int .i64 (.a n)),some (.int .i64 (.a I))]/\hp=[]/\AtR l i I m/\k=Ut (l.drop i) x i
def yX:aB:=λ_ xs ls K=>∃(l:List (List UInt8)) (x:List UInt8) (nl:Bool) (n:Int) (f:Nat->List SV),xs=[.sl (.a nl) (.a n) 1 f,.str x]/\ls=[]/\Dk f n l/\∀k,k=Ut l x 0->K (.int .i64 (.a k)) []
theorem jt:Ap Tryz.prog gl 138 yX:=by
 refine Bv (gh:=[]) mixed Ck Ae Tryz.func138 (by kernel_rfl) (by kernel_rfl) ?_;intro xs ls K h;unfold yX at h;obtain⟨l,x,nl,n,f,rfl,rfl,R,h⟩:=h;obtain⟨k,hk⟩:∃k,k=Ut l x 0:=⟨_,rfl⟩;refine⟨_,_,h k hk,λD hD=>?_⟩;clear h;cbv;obtain⟨J,hJ⟩:∃J,J=FG l x k nl n f:=⟨_,rfl⟩;refine⟨[0,1,7,8],J,⟨rfl,l.length,?_⟩,?_⟩
 .rw[hJ]
  subst hD;exact⟨0,_,rfl,rfl,AtR.zero R.len,hk⟩
 clear hk;intro m vs hp hj;rw[hJ]at hj;obtain⟨i,I,rfl,rfl,V,hk⟩:=hj;cbv;refine br hD (λhb=>?_) (λhb=>?_)<;>cbv
 .have aC:=V.lt R.n (QT (p:=I<n) hb)
  clear hb;refine⟨V.fS hD R.n aC,λj hj=>?_⟩;obtain rfl:=V.j hD hj;clear hj;have e1:=R.f j aC;rw[Hb (d:=[]) aC,Ut]at hk;obtain⟨y,hy⟩:∃y,y=l.getD j []:=⟨_,rfl⟩;rw[<-hy]at e1 hk;have hI:=V.I;have VI2:VI I j:=⟨hI⟩;clear hI;obtain⟨s1,s2⟩:=V.step hD aC
  generalize l.length-(j+1)=m' at s1 s2
  cbv;rw[e1];cbv;refine br hD (λhb=>?_) (λhb=>?_)<;>cbv
  .have hb:(x==y)=true:=by subst hD;exact hb
   rw[QB (eq_of_beq hb)]at hk;exact B6 hD (by rw[hk];exact VI2.h)
  .have hb:(x==y)=false:=by subst hD;exact hb
   rw[QA (by simpa using hb)]at hk;refine⟨m',s1,?_⟩;rw[hJ];unfold FG;subst hD;exact⟨j+1,_,rfl,rfl,s2,hk⟩
 .have hi:=V.eq R.n (QW (p:=I<n) hb)
  rw[hi,XQ]at hk;clear hb;exact B6 hD (by rw[hk];rfl)
def wA:aB:=λ_ xs ls K=>∃(l:List (List UInt8)) (x:List UInt8) (nl:Bool) (n:Int) (f:Nat->List SV),xs=[.sl (.a nl) (.a n) 1 f,.str x]/\ls=[]/\Dk f n l/\∀k,k=l.contains x->K (.bool (.a k)) []
theorem Xo:∀(l:List (List UInt8)) (x:List UInt8) (i:Nat),decide (0<=Ut l x i)=l.contains x
 | [],x,i=>rfl
 |y :: r,x,i=>by
  show decide (0<=(if x=y then (i:Int) else Ut r x (i+1)))=_
  by_cases e:x=y
  .rw[QB e,List.contains_cons,e];simp
  .rw[QA e,List.contains_cons,Xo r x (i+1)]
   have:(x==y)=false:=by simpa using e
   rw[this,YU]
theorem Amw:Ap Tryz.prog gl 80 wA:=by
 refine Bv (gh:=[]) mixed Ck (Ab jt Ae) Tryz.func80 (by kernel_rfl) (by kernel_rfl) ?_;intro xs ls K h;unfold wA at h;obtain⟨l,x,nl,n,f,rfl,rfl,R,h⟩:=h;obtain⟨k,hk⟩:∃k,k=l.contains x:=⟨_,rfl⟩;refine⟨_,_,h k hk,λD hD=>?_⟩;clear h;cbv;refine⟨l,x,_,_,f,rfl,rfl,by subst hD;exact R,λk2 aZ=>?_⟩;cbv;refine Aw hD ?_;show decide (0<=k2)=k;rw[aZ,hk,Xo]
def JL(a b:List (List UInt8))(k:Bool)(na nb:Bool)(A B:Int)(f g:Nat->List SV)(m:Nat)(vs:List (Option SV))(hp:List Hl):Prop :=
 ∃(i:Nat) (I:Int),vs=[some (.sl (.a na) (.a A) 1 f),some (.sl (.a nb) (.a B) 1 g),some (.int .i64 (.a A)),some (.int .i64 (.a I))]/\hp=[]/\AtR a i I m/\k=(a.drop i==b.drop i)
theorem zb:Ap Tryz.prog gl 66 oX:=by
 refine Bv (gh:=[]) mixed Ck Ae Tryz.func66 (by kernel_rfl) (by kernel_rfl) ?_;intro xs ls K h;unfold oX at h;obtain⟨a,b,na,nb,A,B,f,g,rfl,rfl,R,S,h⟩:=h;obtain⟨k,hk⟩:∃k,k=(a==b):=⟨_,rfl⟩;refine⟨_,_,h k hk,λD hD=>?_⟩;clear h;have WV:(A != B)=!(decide (a.length=b.length)):=by
  rw[R.n,S.n,XX,bne_iff_ne,XO,QL];omega
 cbv;refine br hD (λhb=>?_) (λhb=>?_)<;>cbv
 .have hb:(A != B)=true:=by subst hD;exact hb
  rw[WV,XO,QL]at hb;refine Aw hD ?_;rw[hk];have h0:(a==b)=false:=by
   rw[beq_eq_false_iff_ne];intro e;rw[e]at hb;exact hb rfl
  exact h0.symm
 have hlen:a.length=b.length:=by
  have hb:(A != B)=false:=by subst hD;exact hb
  rw[WV,ZO,QJ]at hb;exact hb
 clear hb WV;obtain⟨J,hJ⟩:∃J,J=JL a b k na nb A B f g:=⟨_,rfl⟩;refine⟨[0,1,12,13],J,⟨rfl,a.length,?_⟩,?_⟩
 .rw[hJ]
  subst hD;exact⟨0,_,rfl,rfl,AtR.zero R.len,hk⟩
 clear hk;intro m vs hp hj;rw[hJ]at hj;obtain⟨i,I,rfl,rfl,V,hk⟩:=hj;cbv;refine br hD (λhb=>?_) (λhb=>?_)<;>cbv
 .have aC:=V.lt R.n (QT (p:=I<A) hb)
  clear hb;have HG:i<b.length:=by omega
  have fS:fc (D.i (.a I)) (D.i (.a B)):=by
   have:=V.I;have:=S.n;subst hD;exact⟨by show 0<=I;omega,by show I<B;omega⟩
  refine⟨V.fS hD R.n aC,λj hj=>?_⟩;obtain rfl:=V.j hD hj;clear hj;have e1:=R.f j aC;have e2:=S.f j HG;rw[Hb (d:=[]) aC,Hb (d:=[]) HG]at hk;obtain⟨y,hy⟩:∃y,y=a.getD j []:=⟨_,rfl⟩;obtain⟨z,hz⟩:∃z,z=b.getD j []:=⟨_,rfl⟩;rw[<-hy]at e1 hk;rw[<-hz]at e2 hk;obtain⟨s1,s2⟩:=V.step hD aC
  generalize a.length-(j+1)=m' at s1 s2
  cbv;rw[e1];cbv;refine⟨fS,λj2 sV=>?_⟩;obtain rfl:j=j2:=(V.j hD sV).symm;clear sV;cbv;rw[e2];cbv;refine br hD (λhb=>?_) (λhb=>?_)<;>cbv
  .have hb:(y != z)=true:=by subst hD;exact hb
   refine Aw hD ?_;rw[hk];have h0:(y :: a.drop (j+1)==z :: b.drop (j+1))=false:=by
    rw[beq_eq_false_iff_ne];intro e;rw[bne_iff_ne]at hb;exact hb (List.cons.inj e).1
   exact h0.symm
  .have hb:(y != z)=false:=by subst hD;exact hb
   have hb:y=z:=by simpa using hb
   refine⟨m',s1,?_⟩;rw[hJ];unfold JL;subst hD;refine⟨_,_,rfl,rfl,s2,?_⟩;rw[hk,hb,XX,QS,QS];exact⟨λe=>(List.cons.inj e).2,λe=>by rw[e]⟩
 .have hi:=V.eq R.n (QW (p:=I<A) hb)
  rw[hi,XQ,hlen,XQ]at hk;clear hb;exact Aw hD (by rw[hk];rfl)
def vM:aB:=λ_ xs ls K=>∃(l:List (List UInt8)) (dE:Bool) (nl:Bool) (n:Int) (f:Nat->List SV),xs=[.sl (.a nl) (.a n) 1 f,.bool (.a dE)]/\ls=[]/\Dk f n l/\(∀x∈l,x.length<=9223372036854775807)/\∀r e,(r,e)=(if dE then Fl l else (0,6))->K (.aJ [.int .i64 (.a r),.int .i64 (.a e)]) []
structure SzI(l:List (List UInt8))(v r e:Int)(i:Nat)(I:Int)(m:Nat):Prop where
 bY:AtR l i I m
 k:(r,e)=if (l.drop i).all (λs=>decide (0<=Js s)&&(Js s==v)) then (if 65536<v then (0,3) else (v,0)) else (0,6)
def szJ(l:List (List UInt8))(v r e:Int)(nl:Bool)(n:Int)(f:Nat->List SV)(m:Nat)(vs:List (Option SV))(hp:List Hl):Prop :=
 ∃(i:Nat) (I:Int),vs=[some (.int .i64 (.a v)),some (.sl (.a nl) (.a n) 1 f),some (.int .i64 (.a n)),some (.int .i64 (.a I))]/\hp=[]/\SzI l v r e i I m
theorem Aki:Ap Tryz.prog gl 68 vM:=by
 refine Bv (gh:=[]) mixed Ck (Ab Rr Ae) Tryz.func68 (by kernel_rfl) (by kernel_rfl) ?_;intro xs ls K h;unfold vM at h;obtain⟨l,dE,nl,n,f,rfl,rfl,R,eF,h⟩:=h;obtain⟨r,e,hk⟩:∃r e,(r,e)=(if dE then Fl l else (0,6)):=⟨_,_,rfl⟩;refine⟨_,_,h r e hk,λD hD=>?_⟩;clear h;have oB:(n==0)=l.isEmpty:=by
  rw[R.n];cases l with
  |nil=>rfl
  |cons a b=>rw[List.isEmpty_cons,beq_eq_false_iff_ne,QG];omega
 cbv;refine br hD (λhb=>?_) (λhb=>?_)<;>cbv
 .have hb:(!dE||(n==0))=true:=by subst hD;exact hb
  rw[oB]at hb;have aZ:(r,e)=(0,6):=by
   rw[hk];cases dE with
   |false=>rfl
   |true =>
    cases l with
    |nil=>rfl
    |cons=>cases hb
  obtain⟨rfl,rfl⟩:=Prod.mk.inj aZ;subst hD;exact C6 (.aJ (.cons (Ai rfl) (.cons (Ai rfl) .nil)))
 have hb:(!dE||(n==0))=false:=by subst hD;exact hb
 rw[oB,XC,ZO]at hb;obtain⟨rfl,aY⟩:=hb;clear oB;have xo:0<l.length:=by
  cases l with
  |nil=>cases aY
  |cons a b=>simp
 have e0:=R.f 0 xo;obtain⟨x,hx⟩:∃x,x=l.getD 0 []:=⟨_,rfl⟩;have nH:x.length<=9223372036854775807:=eF _ (by rw[hx,QD,QC xo];exact XL xo);obtain⟨v,hv⟩:∃v,v=Js x:=⟨_,rfl⟩;have aZ:(r,e)=if (l.drop 0).all (λs=>decide (0<=Js s)&&(Js s==v)) then (if 65536<v then (0,3) else (v,0)) else (0,6):=by
  rw[hk,QB rfl,hv,hx];cases l with
  |nil=>cases aY
  |cons a b=>rfl
 rw[<-hx]at e0;clear hk aY;refine⟨by subst hD;exact⟨by decide,by show (0:Int)<n;rw[R.n];omega⟩,λj hj=>?_⟩;have xx:j=0:=by
  have h2:(j:Int)=0:=by subst hD;exact hj.h
  omega
 subst xx;clear hj;cbv;rw[e0];cbv;refine⟨x,rfl,rfl,nH,λv2 iQ=>?_⟩;obtain rfl:v2=v:=iQ.trans hv.symm;cbv;obtain⟨J,hJ⟩:∃J,J=szJ l v2 r e nl n f:=⟨_,rfl⟩;refine⟨[6,21,22,23],J,⟨rfl,l.length,?_⟩,?_⟩
 .rw[hJ]
  subst hD;exact⟨0,_,rfl,rfl,AtR.zero R.len,aZ⟩
 clear aZ;intro m vs hp hj;rw[hJ]at hj;obtain⟨i,I,rfl,rfl,V⟩:=hj;cbv;refine br hD (λhb=>?_) (λhb=>?_)<;>cbv
 .have aC:=V.bY.lt R.n (QT (p:=I<n) hb)
  clear hb;refine⟨V.bY.fS hD R.n aC,λj hj=>?_⟩;obtain rfl:=V.bY.j hD hj;clear hj;have e1:=R.f j aC;have hk:=V.k;rw[Hb (d:=[]) aC,List.all_cons]at hk;have wa:(l.getD j []).length<=9223372036854775807:=eF _ (by rw[QD,QC aC];exact XL aC);obtain⟨y,hy⟩:∃y,y=l.getD j []:=⟨_,rfl⟩;rw[<-hy]at e1 hk wa;obtain⟨s1,s2⟩:=V.bY.step hD aC
  generalize l.length-(j+1)=m' at s1 s2
  cbv;rw[e1];cbv;refine⟨y,rfl,rfl,wa,λu hu=>?_⟩;rw[<-hu]at hk;cbv;refine br hD (λhb=>?_) (λhb=>?_)<;>cbv
  .have hb:(decide (u<0)||(u != v2))=true:=by subst hD;exact hb
   have hf:(decide (0<=u)&&(u==v2))=false:=by
    rw[ZI];rcases Bool.or_eq_true_iff.1 hb with h|h
    .left;rw[QL];have:=QT h;omega
    .right;simpa using h
   rw[hf]at hk;obtain⟨rfl,rfl⟩:=Prod.mk.inj hk;subst hD;exact C6 (.aJ (.cons (Ai rfl) (.cons (Ai rfl) .nil)))
  .have hb:(decide (u<0)||(u != v2))=false:=by subst hD;exact hb
   have hf:(decide (0<=u)&&(u==v2))=true:=by
    rw[XC]at hb;rw[QE];refine⟨?_,by simpa using hb.2⟩;rw[QJ];have:=QW hb.1;omega
   rw[hf,UG]at hk;refine⟨m',s1,?_⟩;rw[hJ];unfold szJ;subst hD;exact⟨j+1,_,rfl,rfl,s2,hk⟩
 .have hi:=V.bY.eq R.n (QW (p:=I<n) hb)
  have hk:=V.k;rw[hi,XQ,List.all_nil,QB rfl]at hk;clear hb;refine br hD (λhb=>?_) (λhb=>?_)<;>cbv
  .have hb:decide (65536<v2)=true:=by subst hD;exact hb
   rw[QB (QT hb)]at hk;obtain⟨rfl,rfl⟩:=Prod.mk.inj hk;subst hD;exact C6 (.aJ (.cons (Ai rfl) (.cons (Ai rfl) .nil)))
  .have hb:decide (65536<v2)=false:=by subst hD;exact hb
   rw[QA (QW hb)]at hk;obtain⟨rfl,rfl⟩:=Prod.mk.inj hk;subst hD;exact C6 (.aJ (.cons (Ai rfl) (.cons (Ai rfl) .nil)))
def DH(mi st:Int)(re:List UInt8)(nl:Bool)(n:Int)(f:Nat->List SV):Hl:=.aG 25 [.int .i64 (.a mi),.int .i64 (.a st),.str re,.sl (.a nl) (.a n) 2 f]
def o8:aB:=λ_ xs ls K=>∃(m:List UInt8) (mi st:Int) (re:List UInt8) (nl:Bool) (n:Int) (f:Nat->List SV),xs=[.ptr 0 0,.ptr 1 0]/\ls=[.aG 9 [.str m],DH mi st re nl n f]/\
 ∀r,r=Yw m st->K (.bool (.a r)) [.aG 9 [.str m],DH mi st re nl n f]
theorem yw:Ap Tryz.prog gl 64 o8:=by
 refine Bq (gh:=[]) mixed Ck Ae Tryz.func64 (by kernel_rfl) (by kernel_rfl) ?_;intro xs ls K h;unfold o8 at h;obtain⟨m,mi,st,re,nl,n,f,rfl,rfl,h⟩:=h;obtain⟨k,hk⟩:∃k,k=Yw m st:=⟨_,rfl⟩;refine⟨_,_,h k hk,λD hD=>?_⟩;clear h;unfold DH;cbv;subst hD hk;exact⟨Dv rfl,Cn (cI.cons (Ao (.cons (aO.refl _) .nil)) (cI.cons (Ao (.cons (aO.refl _) (.cons (aO.refl _) (.cons (aO.refl _) (.cons (aO.refl _) .nil))))) λ_ _ _ _ h=>h)),QH _⟩
def Mx(mi:Int)(mT:List (List UInt8))(bX sized dE:Bool):Bool:=bX&&(((sized||(mi==0))||!dE)||!(mT==[Ja]))
def o7:aB:=λ_ xs ls K=>∃(kd:Int) (bX sized dE:Bool) (mi st:Int) (re:List UInt8) (nl:Bool) (n:Int) (f:Nat->List SV) (mT:List (List UInt8)) (cb:Bool) (cn:Int) (cf:Nat->List SV) (e:Int),
 xs=[.ptr 0 0,.ptr 1 0,.ptr 2 0,.ptr 3 0,.ptr 4 0,.ptr 5 0,.ptr 6 0]/\
 ls=[.aG 3 [.int .i64 (.a kd)],.aG 4 [.bool (.a bX)],.aG 4 [.bool (.a sized)],DH mi st re nl n f,.aG 4 [.bool (.a dE)],.aG 111 [.sl (.a cb) (.a cn) 1 cf],.aG 28 [.int .i64 (.a e)]]/\Dk cf cn mT/\
 ∀BQ e',BQ=(if Mx mi mT bX sized dE then 0 else 2)->e'=(if Mx mi mT bX sized dE then 6 else e)->
  K (.bool (.a bX)) [.aG 3 [.int .i64 (.a BQ)],.aG 4 [.bool (.a bX)],.aG 4 [.bool (.a sized)],DH mi st re nl n f,.aG 4 [.bool (.a dE)],.aG 111 [.sl (.a cb) (.a cn) 1 cf],.aG 28 [.int .i64 (.a e')]]
theorem yu:Ap Tryz.prog gl 65 o7:=by
 refine Bq (gh:=[]) mixed Ck (Ab zb Ae) Tryz.func65 (by kernel_rfl) (by kernel_rfl) ?_;intro xs ls K h;unfold o7 at h;obtain⟨kd,bX,sized,dE,mi,st,re,nl,n,f,mT,cb,cn,cf,e,rfl,rfl,R,h⟩:=h;obtain⟨k,hk⟩:∃k,k=Mx mi mT bX sized dE:=⟨_,rfl⟩;rw[<-hk]at h;refine⟨_,_,h _ _ rfl rfl,λD hD=>?_⟩;clear h;unfold DH;cbv;refine⟨λhg=>?_,λhg=>?_⟩<;>cbv
 .intro g fU
  cbv;have g0:g 0=[.str Ja]:=fU.h 0 _ rfl;have R2:Dk g 1 [Ja]:=⟨rfl,λi hi=>by
   have:i=0:=by simpa using hi
   subst this;exact g0,by decide⟩
  clear fU;refine⟨mT,[Ja],_,_,_,_,cf,g,rfl,rfl,by subst hD;exact R,by subst hD;exact R2,λx hx=>?_⟩;cbv;have ku:(bX&&(((sized||(mi==0))||!dE)||!x))=k:=by rw[hk,hx];rfl
  clear hk hx;refine br hD (λhb=>?_) (λhb=>?_)<;>cbv
  .have hb:(bX&&(((sized||(mi==0))||!dE)||!x))=true:=by subst hD;exact hb
   rw[hb]at ku;subst ku;subst hD;exact⟨Dv rfl,Cn (cI.cons (Ao (.cons (Ai rfl) .nil)) (cI.cons (Ao (.cons (Dv rfl) .nil)) (cI.cons (Ao (.cons (aO.refl _) .nil)) (cI.cons (Ao (.cons (aO.refl _) (.cons (aO.refl _) (.cons (aO.refl _) (.cons (aO.refl _) .nil))))) (cI.cons (Ao (.cons (aO.refl _) .nil)) (cI.cons (Ao (.cons (aO.refl _) .nil)) (cI.cons (Ao (.cons (Ai rfl) .nil)) λ_ _ _ _ h=>h))))))),QH _⟩
  .have hb:(bX&&(((sized||(mi==0))||!dE)||!x))=false:=by subst hD;exact hb
   rw[hb]at ku;subst ku;subst hD;exact⟨Dv rfl,Cn (cI.cons (Ao (.cons (Ai rfl) .nil)) (cI.cons (Ao (.cons (Dv rfl) .nil)) (cI.cons (Ao (.cons (aO.refl _) .nil)) (cI.cons (Ao (.cons (aO.refl _) (.cons (aO.refl _) (.cons (aO.refl _) (.cons (aO.refl _) .nil))))) (cI.cons (Ao (.cons (aO.refl _) .nil)) (cI.cons (Ao (.cons (aO.refl _) .nil)) (cI.cons (Ao (.cons (Ai rfl) .nil)) λ_ _ _ _ h=>h))))))),QH _⟩
 .have hg:(!(((sized||(mi==0))||!dE))&&bX)=false:=by subst hD;exact hg
  have R0:Dk (λ_=>[]) 0 []:=Dk.nil;refine⟨mT,[],_,_,_,_,cf,λ_=>[],rfl,rfl,by subst hD;exact R,by subst hD;exact R0,λx hx=>?_⟩;cbv;clear hx;have ku:(bX&&(((sized||(mi==0))||!dE)||!x))=k:=by
   rw[hk];unfold Mx;cases bX
   .rfl
   .rw[Bool.and_true,ZO]at hg
    rw[hg];rfl
  refine br hD (λhb=>?_) (λhb=>?_)<;>cbv
  .have hb:(bX&&(((sized||(mi==0))||!dE)||!x))=true:=by subst hD;exact hb
   rw[hb]at ku;subst ku;subst hD;exact⟨Dv rfl,Cn (cI.cons (Ao (.cons (Ai rfl) .nil)) (cI.cons (Ao (.cons (Dv rfl) .nil)) (cI.cons (Ao (.cons (aO.refl _) .nil)) (cI.cons (Ao (.cons (aO.refl _) (.cons (aO.refl _) (.cons (aO.refl _) (.cons (aO.refl _) .nil))))) (cI.cons (Ao (.cons (aO.refl _) .nil)) (cI.cons (Ao (.cons (aO.refl _) .nil)) (cI.cons (Ao (.cons (Ai rfl) .nil)) λ_ _ _ _ h=>h))))))),QH _⟩
  .have hb:(bX&&(((sized||(mi==0))||!dE)||!x))=false:=by subst hD;exact hb
   rw[hb]at ku;subst ku;subst hD;exact⟨Dv rfl,Cn (cI.cons (Ao (.cons (Ai rfl) .nil)) (cI.cons (Ao (.cons (Dv rfl) .nil)) (cI.cons (Ao (.cons (aO.refl _) .nil)) (cI.cons (Ao (.cons (aO.refl _) (.cons (aO.refl _) (.cons (aO.refl _) (.cons (aO.refl _) .nil))))) (cI.cons (Ao (.cons (aO.refl _) .nil)) (cI.cons (Ao (.cons (aO.refl _) .nil)) (cI.cons (Ao (.cons (Ai rfl) .nil)) λ_ _ _ _ h=>h))))))),QH _⟩
def Kw(len:List (List UInt8))(sized eG:Bool):Int×Int:=if sized then (if eG then Fl len else (0,6)) else (0,0)
def o6:aB:=λ_ xs ls K=>∃(kd l0 e0:Int) (sized eG:Bool) (len:List (List UInt8)) (lb:Bool) (ln:Int) (lf:Nat->List SV),
 xs=[.ptr 0 0,.ptr 1 0,.ptr 2 0,.ptr 3 0,.ptr 4 0,.ptr 5 0]/\
 ls=[.aG 3 [.int .i64 (.a kd)],.aG 4 [.bool (.a sized)],.aG 111 [.sl (.a lb) (.a ln) 1 lf],.aG 4 [.bool (.a eG)],.aG 3 [.int .i64 (.a l0)],.aG 28 [.int .i64 (.a e0)]]/\l0=0/\e0=0/\Dk lf ln len/\(∀x∈len,x.length<=9223372036854775807)/\
 ∀BQ l' e',e'=(Kw len sized eG).2->BQ=(if e'=0 then 1 else 0)->l'=(if e'=0 then (Kw len sized eG).1 else 0)->
  K (.bool (.a sized)) [.aG 3 [.int .i64 (.a BQ)],.aG 4 [.bool (.a sized)],.aG 111 [.sl (.a lb) (.a ln) 1 lf],.aG 4 [.bool (.a eG)],.aG 3 [.int .i64 (.a l')],.aG 28 [.int .i64 (.a e')]]
theorem yt:Ap Tryz.prog gl 67 o6:=by
 refine Bq (gh:=[]) mixed Ck (Ab Aki Ae) Tryz.func67 (by kernel_rfl) (by kernel_rfl) ?_;intro xs ls K h;unfold o6 at h;obtain⟨kd,l0,e0,sized,eG,len,lb,ln,lf,rfl,rfl,qP,mK,R,eF,h⟩:=h;obtain⟨e',he⟩:∃k,k=(Kw len sized eG).2:=⟨_,rfl⟩;obtain⟨BQ,kC⟩:∃k:Int,k=(if e'=0 then 1 else 0):=⟨_,rfl⟩;obtain⟨l',hl⟩:∃k:Int,k=(if e'=0 then (Kw len sized eG).1 else 0):=⟨_,rfl⟩;refine⟨_,_,h _ _ _ he kC hl,λD hD=>?_⟩;clear h;cbv;refine br hD (λhb=>?_) (λhb=>?_)<;>cbv
 .have hb:sized=true:=by subst hD;exact hb
  subst hb;refine⟨len,D.b (.a eG),_,_,lf,rfl,rfl,by subst hD;exact R,eF,λr e xT=>?_⟩;cbv;have xT:(r,e)=if eG then Fl len else (0,6):=by subst hD;exact xT
  have e1:Kw len true eG=(r,e):=by rw[xT];rfl
  rw[e1]at he hl;have he:e'=e:=he;subst he;clear xT e1;refine br hD (λhb=>?_) (λhb=>?_)<;>cbv
  .have hb:(e' != 0)=true:=by subst hD;exact hb
   have hb:¬e'=0:=by simpa using hb
   rw[QA hb]at kC hl;subst kC hl;subst hD;exact⟨Dv rfl,Cn (cI.cons (Ao (.cons (Ai rfl) .nil)) (cI.cons (Ao (.cons (aO.refl _) .nil)) (cI.cons (Ao (.cons (aO.refl _) .nil)) (cI.cons (Ao (.cons (aO.refl _) .nil)) (cI.cons (Ao (.cons (Ai rfl) .nil)) (cI.cons (Ao (.cons (Ai rfl) .nil)) λ_ _ _ _ h=>h)))))),QH _⟩
  .have hb:(e' != 0)=false:=by subst hD;exact hb
   have hb:e'=0:=by simpa using hb
   rw[QB hb]at kC hl;subst kC hl;subst hD;exact⟨Dv rfl,Cn (cI.cons (Ao (.cons (Ai rfl) .nil)) (cI.cons (Ao (.cons (aO.refl _) .nil)) (cI.cons (Ao (.cons (aO.refl _) .nil)) (cI.cons (Ao (.cons (aO.refl _) .nil)) (cI.cons (Ao (.cons (Ai rfl) .nil)) (cI.cons (Ao (.cons (Ai rfl) .nil)) λ_ _ _ _ h=>h)))))),QH _⟩
 .have hb:sized=false:=by subst hD;exact hb
  subst hb;have he:e'=0:=he;rw[QB he]at kC hl;have hl:l'=0:=hl;refine br hD (λhb=>?_) (λhb=>?_)<;>cbv
  .exfalso
   have hb:(e0 != 0)=true:=by subst hD;exact hb
   rw[mK]at hb;cases hb
  clear hb;subst he kC hl qP mK;subst hD;exact⟨Dv rfl,Cn (cI.cons (Ao (.cons (Ai rfl) .nil)) (cI.cons (Ao (.cons (aO.refl _) .nil)) (cI.cons (Ao (.cons (aO.refl _) .nil)) (cI.cons (Ao (.cons (aO.refl _) .nil)) (cI.cons (Ao (.cons (Ai rfl) .nil)) (cI.cons (Ao (.cons (Ai rfl) .nil)) λ_ _ _ _ h=>h)))))),QH _⟩
def oY:aB:=λ_ xs ls K=>∃(m:List UInt8) (hd:qL) (mi st:Int) (re:List UInt8) (nl:Bool) (n:Int) (f:Nat->List SV),xs=[.str m,ub mi st re nl n f]/\ls=[]/\oq hd mi st n f/\m.length<=9223372036854775807/\
 ∀a b e,(a,b,e)=Av m hd->K (.aJ [.int .i64 (.a a),.int .i64 (.a b),.int .i64 (.a e)]) []
theorem BA{t1 t1' t2 t2' t3 t3':ST}(h1:t1.den=t1'.den)(h2:t2.den=t2'.den)(h3:t3.den=t3'.den):Fin (.aJ [.int .i64 t1,.int .i64 t2,.int .i64 t3]) (.aJ [.int .i64 t1',.int .i64 t2',.int .i64 t3']) [] [] :=
 C6 (.aJ (.cons (Ai h1) (.cons (Ai h2) (.cons (Ai h3) .nil))))
theorem Pe:∀(r:List (List UInt8)) (L:List (List UInt8)),B7 r=some L->∀x∈L,x.length<=9223372036854775807
 | [],L,h=>by cases h;intro x hx;cases hx
 |v :: r,L,h=>by
  unfold B7 at h
  split at h
  .cases hr:B7 r with
   |none=>rw[hr]at h;cases h
   |some L' =>
    rw[hr]at h;simp only[QP,Option.some.injEq]at h;subst h;intro x hx;rcases List.mem_append.1 hx with hx|hx
    .obtain⟨y,hy,rfl⟩:=List.mem_map.1 hx
     have:=(Dl v).2 y hy;have h2:(bG y).length=y.length:=by unfold bG;simp
     omega
    .exact Pe r L' hr x hx
  .cases h
variable {l:List HF}{mT len:List (List UInt8)}{bX sized dE eG:Bool}{s st:Rs}{i sz:Nat}{nl:BT}{n:ST}{f:Nat->List SV}{cs:List SV}
theorem Aaa{t:List UInt8}(h:Bb l=0)(ht:Ca t=true)(hf:bG t=t):Ib l t=Do l t:=by
 unfold Ib Vn;simp[h,ht,hf]
structure LG(l:List HF)(mT len:List (List UInt8))(bX sized dE eG:Bool):Prop where
 a1:mT=(B7 (Do l fD)).getD []
 a2:bX=!(Do l fD).isEmpty
 a3:dE=(B7 (Do l fD)).isSome
 b1:len=(B7 (Do l iE)).getD []
 b2:sized=!(Do l iE).isEmpty
 b3:eG=(B7 (Do l iE)).isSome
theorem aa0{mi:Int}(P:LG l mT len bX sized dE eG)(h:bX=true):
  Do l fD≠[]/\(Mx mi mT bX sized dE=true↔(Do l iE≠[]\/mi=0\/B7 (Do l fD)≠some [Ja])):=by
 have ha:=P.a2;rw[h]at ha;refine⟨λe=>(by rw[e]at ha;cases ha),?_⟩;unfold Mx;rw[h,P.a1,P.a3,P.b2];cases hv:Do l iE<;>cases he:B7 (Do l fD)<;>simp
theorem aa2(P:LG l mT len bX sized dE eG)(h:bX=false):Do l fD=[]:=by
 have ha:=P.a2;rw[h]at ha;cases hv:Do l fD with
 |nil=>rfl
 |cons a b=>rw[hv]at ha;cases ha
theorem aa1(P:LG l mT len bX sized dE eG)(h:sized=false):Do l iE=[]:=by
 have ha:=P.b2;rw[h]at ha;cases hv:Do l iE with
 |nil=>rfl
 |cons a b=>rw[hv]at ha;cases ha
theorem WZ(P:LG l mT len bX sized dE eG)(h:sized=true):
  Do l iE≠[]/\(match B7 (Do l iE) with
   |none=>((0:Int),(0:Int),(6:Int))
   |some l=>if (Fl l).2=0 then (1,(Fl l).1,0) else (0,0,(Fl l).2))=(if (Kw len sized eG).2=0 then 1 else 0,if (Kw len sized eG).2=0 then (Kw len sized eG).1 else 0,(Kw len sized eG).2):=by
 have ha:=P.b2;rw[h]at ha;refine⟨λe=>(by rw[e]at ha;cases ha),?_⟩;unfold Kw;rw[h,P.b1,P.b3];cases he:B7 (Do l iE) with
 |none=>rfl
 |some L =>
  simp only[XG,Option.isSome_some,if_true]
  by_cases g:(Fl L).2=0
  .rw[QB g,QB g,QB g,g]
  .rw[QA g,QA g,QA g]
theorem Uy:Ap Tryz.prog gl 19 oY:=by
 refine Bv (gh:=[(999984,[]),(999986,[.freeze 4])]) mixed Ee (Ab Gq (Ab Ajl (Ab S5 (Al yw (Al yu (Al yt Ae)))))) Tryz.func19 (by kernel_rfl) (by kernel_rfl) ?_;intro xs ls K h;unfold oY at h;obtain⟨m,hd,mi,st,re,nl,n,f,rfl,rfl,V,hm,h⟩:=h;obtain⟨k,hk⟩:∃k,k=Av m hd:=⟨_,rfl⟩;obtain⟨ra,rb,rc⟩:=k;have h:=h ra rb rc hk;refine⟨_,_,h,λD hD=>?_⟩;clear h;unfold ub;cbv;refine⟨m,rfl,rfl,hm,λtk sR=>?_⟩;cbv;unfold Av at hk;rw[<-sR]at hk;refine br hD (λhb=>?_) (λhb=>?_)<;>cbv
 .have hb:(!tk)=true:=by subst hD;exact hb
  rw[QB hb]at hk;simp only[Prod.mk.injEq]at hk;obtain⟨rfl,rfl,rfl⟩:=hk;subst hD;exact BA rfl rfl rfl
 have hb:(!tk)=false:=by subst hD;exact hb
 rw[QA (by rw[hb];decide)]at hk;clear hb;refine⟨hd,D.i (.a mi),D.i (.a st),re,D.b (.a nl),D.i (.a n),f,rfl,rfl,by subst hD;exact V,λe he=>?_⟩;cbv;rw[<-he]at hk;refine br hD (λhb=>?_) (λhb=>?_)<;>cbv
 .have hb:(e != 0)=true:=by subst hD;exact hb
  rw[QB (by simpa using hb)]at hk;simp only[Prod.mk.injEq]at hk;obtain⟨rfl,rfl,rfl⟩:=hk;subst hD;exact BA rfl rfl rfl
 have hb:(e != 0)=false:=by subst hD;exact hb
 have e0:e=0:=by simpa using hb
 rw[QA (by simpa using e0)]at hk;have mL:Bb hd.fields=0:=by
  rw[e0]at he;unfold H3 at he
  split at he
  .cases he
  .exact he.symm
 clear hb he;refine⟨hd.fields,_,_,f,fD,rfl,rfl,by subst hD;exact V.row,by decide,λmT bX dE cf cn cb qs G1=>?_⟩;cbv;refine⟨hd.fields,_,_,f,iE,rfl,rfl,by subst hD;exact V.row,by decide,λlen sized eG lf ln lb iQ G2=>?_⟩;cbv;have hT:Ib hd.fields fD=Do hd.fields fD:=Aaa mL (by decide +kernel) (by decide +kernel);have hL:Ib hd.fields iE=Do hd.fields iE:=Aaa mL (by decide +kernel) (by decide +kernel);have P:LG hd.fields mT len bX sized dE eG:=by
  obtain⟨p1,p2,p3⟩:=qs;obtain⟨q1,q2,q3⟩:=iQ;rw[hT]at p1 p2 p3;rw[hL]at q1 q2 q3;exact⟨p1,p2,p3,q1,q2,q3⟩
 clear qs iQ hT hL;have fE:st=hd.status:=V.za;have xl:mi=hd.minor:=V.CI;rw[<-fE,<-xl]at hk;clear fE xl mL;refine⟨m,D.i (.a mi),D.i (.a st),re,D.b (.a nl),D.i (.a n),f,rfl,rfl,λx1 jw=>?_⟩;cbv;have jw:x1=Yw m st:=by subst hD;exact jw
 rw[<-jw]at hk;refine br hD (λhb=>?_) (λhb=>?_)<;>cbv
 .have hb:x1=true:=by subst hD;exact hb
  rw[QB hb]at hk;simp only[Prod.mk.injEq]at hk;obtain⟨rfl,rfl,rfl⟩:=hk;subst hD;exact BA rfl rfl rfl
 have hb:x1=false:=by subst hD;exact hb
 rw[QA (by rw[hb];decide)]at hk;clear hb jw;refine⟨_,D.b (.a bX),D.b (.a sized),D.b (.a dE),_,_,re,_,_,f,mT,_,_,cf,_,rfl,rfl,by subst hD;exact G1.row,λec e2 HU sX=>?_⟩;cbv;have bp:ec=if Mx mi mT bX sized dE then 0 else 2:=by subst hD;exact HU
 have rh:e2=if Mx mi mT bX sized dE then 6 else 0:=by subst hD;exact sX
 clear HU sX;refine br hD (λhb=>?_) (λhb=>?_)<;>cbv
 .have hb:bX=true:=by subst hD;exact hb
  obtain⟨p1,p2⟩:=aa0 (mi:=mi) P hb;rw[QB p1]at hk
  by_cases hr:Mx mi mT bX sized dE=true
  .rw[QB (p2.1 hr)]at hk
   rw[QB hr]at bp rh;simp only[Prod.mk.injEq]at hk;obtain⟨rfl,rfl,rfl⟩:=hk;subst hD;exact BA bp rfl rh
  .rw[QA (λh=>hr (p2.2 h))]at hk
   rw[QA hr]at bp rh;simp only[Prod.mk.injEq]at hk;obtain⟨rfl,rfl,rfl⟩:=hk;subst hD;exact BA bp rfl rh
 have hb:bX=false:=by subst hD;exact hb
 have hr:Mx mi mT bX sized dE=false:=by rw[hb];rfl
 rw[hr,QA (by decide)]at rh;rw[QA (by rw[aa2 P hb];simp)]at hk;clear bp hr;have kA:∀x∈len,x.length<=9223372036854775807:=by
  rw[P.b1];cases hl:B7 (Do hd.fields iE) with
  |none=>intro x hx;cases hx
  |some L=>exact Pe _ L hl
 refine⟨_,_,_,_,_,len,_,_,lf,rfl,rfl,by subst hD;rfl,by subst hD;exact rh,by subst hD;exact G2.row,kA,λkd4 l4 e4 he4 TW NF=>?_⟩;cbv;have VY:e4=(Kw len sized eG).2:=by subst hD;exact he4
 have hl5:l4=if e4=0 then (Kw len sized eG).1 else 0:=by subst hD;exact NF
 clear he4 NF;refine br hD (λhb=>?_) (λhb=>?_)<;>cbv
 .have hb:sized=true:=by subst hD;exact hb
  obtain⟨p1,p2⟩:=WZ P hb;rw[QB p1]at hk;have hk:=hk.trans p2;rw[<-VY,<-hl5,<-TW]at hk;simp only[Prod.mk.injEq]at hk;obtain⟨rfl,rfl,rfl⟩:=hk;subst hD;exact BA rfl rfl rfl
 .have hb:sized=false:=by subst hD;exact hb
  rw[QA (by rw[aa1 P hb];simp)]at hk;simp only[Prod.mk.injEq]at hk;obtain⟨rfl,rfl,rfl⟩:=hk;subst hD;exact BA rfl rfl rfl
def Z5(ph lf tl:Int)(ln dt:List UInt8):Bool:=((((ph==0)&&(ln==[]))&&(dt==[]))&&(lf==0))&&(tl==0)
def yL:aB:=λ_ xs ls K=>∃(ph lf:Int) (ln dt:List UInt8) (tn:Bool) (tl:Int) (tf:Nat->List SV),xs=[tD ph lf ln dt tn tl tf]/\ls=[]/\∀r,r=Z5 ph lf tl ln dt->K (.bool (.a r)) []
theorem fe:Ap Tryz.prog gl 133 yL:=by
 refine Bv (gh:=[]) mixed Ee Ae Tryz.func133 (by kernel_rfl) (by kernel_rfl) ?_;intro xs ls K h;unfold yL at h;obtain⟨ph,lf,ln,dt,tn,tl,tf,rfl,rfl,h⟩:=h;obtain⟨k,hk⟩:∃k,k=Z5 ph lf tl ln dt:=⟨_,rfl⟩;refine⟨_,_,h k hk,λD hD=>?_⟩;clear h;unfold tD;cbv;exact Aw hD (by rw[hk];rfl)
theorem Afv{s:Ch}{ph lf tl:Int}{tf:Nat->List SV}(h:s=uP)(V:AQ s ph lf tl tf):Z5 ph lf tl s.line s.data=true:=by
 subst h;have h1:ph=0:=V.gU;have h2:lf=0:=V.iS;have h3:tl=0:=V.tr.n;rw[h1,h2,h3];rfl
structure iU(s:Rs)(x:bN):Prop where
 m:x.m=s.method
 ph:x.ph=s.phase
 inf:x.inf=s.infos
 ln:x.ln=s.line
 mi:x.mi=s.head.minor
 st:x.st=s.head.status
 re:x.re=s.head.reason
 fl:A5 x.ff x.fl s.head.fields
 fr:x.fr=s.aD
 bo:x.bo=s.body
 lf:x.lf=s.left
 cl:x.cl=s.chunks.line
 cd:x.cd=s.chunks.data
 cv:AQ s.chunks x.cp x.cf x.ct x.ctf
def vJ:aB:=λ_ xs ls K=>∃(m:List UInt8),xs=[.str m]/\ls=[]/\m.length<=9223372036854775807/\
 ∀y e,y=(if Ca m then Oc m else Oc [])->e=(if Ca m then 0 else 2)->K (.aJ [nZ y,.int .i64 (.a e)]) []
theorem Akb:Ap Tryz.prog gl 22 vJ:=by
 refine Bv (gh:=[]) mixed Ee (Ab Gq Ae) Tryz.func22 (by kernel_rfl) (by kernel_rfl) ?_;intro xs ls K h;unfold vJ at h;obtain⟨m,rfl,rfl,hm,h⟩:=h;obtain⟨tk,sR⟩:∃tk,tk=Ca m:=⟨_,rfl⟩;obtain⟨y,hy⟩:∃y,y=(if tk then Oc m else Oc []):=⟨_,rfl⟩;obtain⟨e,he⟩:∃e:Int,e=(if tk then 0 else 2):=⟨_,rfl⟩;have h:=h y e (by rw[<-sR];exact hy) (by rw[<-sR];exact he);refine⟨_,_,h,λD hD=>?_⟩;clear h;cbv;refine⟨m,rfl,rfl,hm,λx hx=>?_⟩;cbv;obtain rfl:x=tk:=hx.trans sR.symm;refine br hD (λhb=>?_) (λhb=>?_)<;>cbv
 .have hb:(!x)=true:=by subst hD;exact hb
  rw[QA (by simpa using hb)]at hy he;subst hy he;subst hD;exact C6 (.aJ (.cons (aO.refl _) (.cons (Ai rfl) .nil)))
 .have hb:(!x)=false:=by subst hD;exact hb
  rw[QB (by simpa using hb)]at hy he;subst hy he;subst hD;exact C6 (.aJ (.cons (aO.refl _) (.cons (Ai rfl) .nil)))
theorem EB(m:List UInt8):iU (BG m) (Oc m):=⟨rfl,rfl,rfl,rfl,rfl,rfl,rfl,Sr,rfl,rfl,rfl,rfl,rfl,⟨rfl,rfl,Sr⟩⟩
theorem Abl(h:Bb l=0):In l:=⟨λx hx=>Afw (((Ko l).1 h).2.1 x hx).name⟩
def pB:aB:=λ_ xs ls K=>∃(s:Ch) (ln dt:List UInt8) (ph lf:Int) (tn:Bool) (tl:Int) (tf:Nat->List SV),xs=[tD ph lf ln dt tn tl tf]/\ls=[]/\ln=s.line/\dt=s.data/\AQ s ph lf tl tf/\Iz s/\
 K (.int .i64 (.a 0)) []
theorem Afl:Ap Tryz.prog gl 134 pB:=by
 refine Bv (gh:=[]) mixed Ee (Al Agi Ae) Tryz.func134 (by kernel_rfl) (by kernel_rfl) ?_;intro xs ls K h;unfold pB at h;obtain⟨s,ln,dt,ph,lf,tn,tl,tf,rfl,rfl,gD,lQ,V,O,h⟩:=h;refine⟨_,_,h,λD hD=>?_⟩;clear h;unfold tD;cbv;refine⟨s,ln,dt,D.i (.a ph),D.i (.a lf),D.b (.a tn),D.i (.a tl),tf,rfl,rfl,gD,lQ,by subst hD;exact V.gU,by subst hD;exact V.iS,by subst hD;exact V.tr,O,λh4=>Abl (O.p4 h4).2.1,λlK dl df nl nf fo sz nn g hR gC hg=>?_⟩;cbv;exact B6 hD rfl
set_option maxHeartbeats 12000000
theorem G8{b:List UInt8}(h:(Ar b).2.2=10):b.length<=8500:=by
 by_cases g:Lib.indexByte (b.take 302) 10<0
 .rw[Pv g]at h
  by_cases k:302<=b.length
  .rw[QB k]at h;cases h
  .omega
 .obtain⟨p,hp⟩:∃p:Nat,Lib.indexByte (b.take 302) 10=(p:Int):=⟨(Lib.indexByte (b.take 302) 10).toNat,by omega⟩
  obtain⟨h1,h2,h3⟩:=Tq hp;rw[h3]at h;unfold Xu at h
  split at h
  .cases h
  split at h
  .have:=(Hu (b:=b.drop (p+1)) h).1
   rw[QY]at this;omega
  .cases h
theorem Ml(s:List UInt8):Bl (aU s) s.length s:=⟨rfl,λ_i _=>rfl⟩
def vB:aB:=λ_ xs ls K=>∃(s:Rs) (x:bN),xs=[nZ x]/\ls=[]/\iU s x/\C7 s/\s.method.length<=9223372036854775807/\K (.bool (.a true)) []
theorem S6:Ap Tryz.prog gl 75 vB:=by
 refine Bv (gh:=[]) mixed Ee (Ab Gq (Ab Agy (Ab fe (Ab Afx (Ab Uy (Ab Afl Ae)))))) Tryz.func75 (by kernel_rfl) (by kernel_rfl) ?_;intro xs ls K h;unfold vB at h;obtain⟨s,x,rfl,rfl,V,O,hm,h⟩:=h;refine⟨_,_,h,λD hD=>?_⟩;clear h;obtain⟨m,ph,inf,ln,mi,st,re,fb,fl,ff,fr,bo,lf,cp,cl,cd,cf,cb,ct,ctf⟩:=x;unfold nZ;cbv;have BY:m=s.method:=V.m;refine⟨m,rfl,rfl,by rw[BY];exact hm,λtk sR=>?_⟩;cbv;have TZ:inf=s.infos:=V.inf;have SB:tk=true:=by rw[sR,BY];exact O.tok
 subst SB;clear sR;refine br hD (λhb=>?_) (λhb=>?_)<;>cbv
 .exfalso
  have hb:((!true||decide (inf<0))||decide (10<inf))=true:=by subst hD;exact hb
  have h0:=O.i0;have h1:=O.i1;simp only[YH,YU,XR,QJ]at hb;omega
 clear hb;have fH:ph=s.phase:=V.ph;refine br hD (λhb=>?_) (λhb=>?_)<;>cbv
 .have hb:(ph==0)=true:=by subst hD;exact hb
  have p0:s.phase=0:=by rw[<-fH];exact eq_of_beq hb
  clear hb;obtain⟨q1,q2,q3,q4,q5,q6⟩:=O.p0 p0;have gD:ln=s.line:=V.ln;rw[<-gD]at q1;have jD:=G8 q1;have LD:eU ln.length 8500:=⟨jD⟩;clear jD;refine⟨⟨by have:=LD.h;omega⟩,λg hg=>?_⟩;cbv;have wM:g=aU ln:=hg.h;obtain⟨N,VN⟩:∃N:Int,VI N ln.length:=⟨_,⟨rfl⟩⟩;have R:Bl g N ln:=by rw[wM];exact⟨VN.h,λi _=>rfl⟩
  clear hg wM;refine⟨ln,_,_,g,rfl,rfl,by subst hD;exact⟨rfl,R.f⟩,by have:=LD.h;omega,λhd u e mi2 st2 PK f1 n1 b1 hh HV=>?_⟩;cbv;have he:e=10:=by
   have:e=(Ar ln).2.2:=by rw[<-hh]
   rw[this];exact q1
  have xl:mi=0:=by have:=V.mi;rw[q2]at this;exact this
  have fE:st=0:=by have:=V.st;rw[q2]at this;exact this
  have xT:re=[]:=by have:=V.re;rw[q2]at this;exact this
  have lE:fl=0:=by have:=V.fl.n;rw[q2]at this;exact this
  have cE:fr=0:=V.fr.trans q3;have jL:bo=[]:=V.bo.trans q4;have lN:lf=0:=V.lf.trans q5;have hz:Z5 cp cf ct cl cd=true:=by
   have h1:cl=s.chunks.line:=V.cl;have h2:cd=s.chunks.data:=V.cd;rw[h1,h2];exact Afv q6 V.cv
  clear hh HV q1 q2 q3 q4 q5 q6;refine⟨D.i (.a cp),D.i (.a cf),cl,cd,D.b (.a cb),D.i (.a ct),ctf,rfl,rfl,λz qg=>?_⟩;cbv;have qg:z=true:=by subst hD;exact qg.trans hz
  refine Aw hD ?_;subst he xl fE xT lE cE jL lN qg;rfl
 .have hb:(ph==0)=false:=by subst hD;exact hb
  have p0:s.phase≠0:=by rw[<-fH];simpa using hb
  clear hb;obtain⟨q1,q2,q3,q4,q5,q6,q7,q8⟩:=O.p1 p0;have xT:re=s.head.reason:=V.re;have fE:st=s.head.status:=V.st;have gD:ln=[]:=V.ln.trans q1;have HRE:eU re.length 287:=⟨by rw[xT];exact q4⟩;have GQ:ph=1\/ph=2:=by rw[fH];have:=O.ph;omega
  refine⟨re,rfl,rfl,λpl gJ=>?_⟩;cbv;have SW:pl=true:=by rw[gJ,xT];exact q3
  subst SW;clear gJ;refine br hD (λhb=>?_) (λhb=>?_)<;>cbv
  .exfalso
   have hb:((((((ph != 1)&&(ph != 2))||(ln != []))||decide (st<200))||!true)||decide (287<(re.length:Int)))=true:=by subst hD;exact hb
   have h1:((ph != 1)&&(ph != 2))=false:=by rcases GQ with e|e<;>rw[e]<;>rfl
   have h2:decide (st<200)=false:=by rw[QL,fE];omega
   have h3:decide (287<(re.length:Int))=false:=by rw[QL];have:=HRE.h;omega
   rw[h1,h2,h3,gD]at hb;cases hb
  clear hb;refine⟨m,s.head,D.i (.a mi),D.i (.a st),re,D.b (.a fb),D.i (.a fl),ff,rfl,rfl,by subst hD;exact⟨V.mi,V.st,V.fl⟩,by rw[BY];exact hm,λkd le e hf=>?_⟩;cbv;rw[BY]at hf;have he:e=0:=by
   have:e=(Av s.method s.head).2.2:=by rw[<-hf]
   rw[this];exact q5
  have kC:kd=fr:=by
   have h1:kd=(Av s.method s.head).1:=by rw[<-hf]
   have h2:fr=s.aD:=V.fr;rw[h1,h2];exact q6
  have hle:le=(Av s.method s.head).2.1:=by rw[<-hf]
  clear hf q5 q6;have cE:fr=s.aD:=V.fr;have lN:lf=s.left:=V.lf;have qS:cl=s.chunks.line:=V.cl;have yf:cd=s.chunks.data:=V.cd;refine⟨D.i (.a cp),D.i (.a cf),cl,cd,D.b (.a cb),D.i (.a ct),ctf,rfl,rfl,λz qg=>?_⟩;cbv;have hz:fr≠2->z=true:=λh=>by
   have:Z5 cp cf ct cl cd=true:=by
    rw[qS,yf];exact Afv (q7 (by rw[<-cE];exact h)) V.cv
   subst hD;exact qg.trans this
  have TP:fr≠1->lf=0:=λh=>by rw[lN];exact q8 (by rw[<-cE];exact h)
  clear qg q7 q8;obtain rfl:kd=fr:=kC;refine br hD (λhb=>?_) (λhb=>?_)<;>cbv
  .exfalso
   have hb:((((e != 0)||(kd != kd))||((kd != 2)&&!z))||((kd != 1)&&(lf != 0)))=true:=by subst hD;exact hb
   have h1:(e != 0)=false:=by rw[he];rfl
   have h2:(kd != kd)=false:=by simp
   have h3:((kd != 2)&&!z)=false:=by
    by_cases g:kd=2
    .rw[g];rfl
    .rw[hz g];simp
   have h4:((kd != 1)&&(lf != 0))=false:=by
    by_cases g:kd=1
    .rw[g];rfl
    .rw[TP g];simp
   rw[h1,h2,h3,h4]at hb;cases hb
  clear hb;refine br hD (λhb=>?_) (λhb=>?_)<;>cbv
  .have hb:(kd==0)=true:=by subst hD;exact hb
   have hk:s.aD=0:=by rw[<-cE];exact eq_of_beq hb
   obtain⟨f1,f2⟩:=O.f0 p0 hk;refine Aw hD ?_;have e1:ph=2:=fH.trans f1;have e2:bo=[]:=V.bo.trans f2;rw[e1,e2];rfl
  have IP:(kd==0)=false:=by subst hD;exact hb
  clear hb;refine br hD (λhb=>?_) (λhb=>?_)<;>cbv
  .have hb:(kd==1)=true:=by subst hD;exact hb
   have hk:s.aD=1:=by rw[<-cE];exact eq_of_beq hb
   obtain⟨f1,f2,f3,f4⟩:=O.f1 p0 hk;refine Aw hD ?_;rw[<-lN,<-hle]at f2 f3;rw[<-lN]at f1 f4;have jL:(bo.length:Int)=s.body.length:=by have:bo=s.body:=V.bo;rw[this]
   have hw:IntKind.i64.wrap (le-lf)=le-lf:=by
    have h1:=Kg s.method s.head;rw[<-hle]at h1;exact wrap64 (by omega) (by omega)
   show ((decide (0<=lf)&&decide (lf<=le))&&((bo.length:Int)==IntKind.i64.wrap (le-lf))&&((ph==2)==(lf==0)))=true;rw[hw,QE,QE,QE,QJ,QJ,QS,QS];refine⟨⟨⟨f1,f2⟩,by omega⟩,?_⟩;rw[XX,QS,QS,fH];exact f4
  have lF:(kd==1)=false:=by subst hD;exact hb
  clear hb;refine br hD (λhb=>?_) (λhb=>?_)<;>cbv
  .have hb:(kd==2)=true:=by subst hD;exact hb
   have hk:s.aD=2:=by rw[<-cE];exact eq_of_beq hb
   obtain⟨f1,f2,f3⟩:=O.f2 p0 hk;refine⟨s.chunks,cl,cd,D.i (.a cp),D.i (.a cf),D.b (.a cb),D.i (.a ct),ctf,rfl,rfl,qS,yf,by subst hD;exact V.cv,f2,?_⟩;cbv;refine Aw hD ?_;have e2:bo=[]:=V.bo.trans f1;have e3:((ph==2)==(cp==4))=true:=by
    have h4:cp=s.chunks.phase:=V.cv.gU;rw[QS,XX,QS,QS,fH,h4];exact f3
   show (((bo==[])&&((0:Int)==0))&&((ph==2)==(cp==4)))=true;rw[e3,e2];rfl
  .have hb:(kd==2)=false:=by subst hD;exact hb
   have hk:s.aD=3:=by
    have h1:=M1 s.method s.head;have h2:kd=(Av s.method s.head).1:=cE.trans (O.p1 p0).2.2.2.2.2.1.symm;rw[<-h2]at h1;rw[<-cE];simp only[beq_eq_false_iff_ne]at hb IP lF;omega
   have f1:=O.f3 p0 hk;refine Aw hD ?_;have jL:bo.length=s.body.length:=by have:bo=s.body:=V.bo;rw[this]
   show decide ((bo.length:Int)<=65536)=true;rw[QJ];omega
set_option maxHeartbeats 8000000
def EH(k b:Int):Int:=if k=0\/(k=1/\b=0) then 2 else 1
def rP:aB:=λ_ xs ls K=>∃(x:bN) (nb:Bool) (n:Int) (f:Nat->List SV) (nn:Bool) (nl g:Int) (nf:Nat->List SV) (hd:qL) (mi st:Int) (re:List UInt8) (hb:Bool) (hn:Int) (hf:Nat->List SV),
 xs=[.ptr 0 0,ub mi st re hb hn hf]/\ls=[.aG 125 (Kb x nb n f nn nl g),.vec 5 (.a nl) (.a g) 1 nf]/\oq hd mi st hn hf/\x.m.length<=9223372036854775807/\
 ∀a b e,(a,b,e)=Av x.m hd->(e≠0->K (.int .i64 (.a e)) [.gone,.gone])/\
  (e=0->∀p,p=EH a b->K (.int .i64 (.a 0)) [.aG 125 (Kb { x with ph:=p,mi:=mi,st:=st,re:=re,fb:=hb,fl:=hn,ff:=hf,fr:=a,lf:=b } nb n f nn nl g),.vec 5 (.a nl) (.a g) 1 nf])
theorem Ajq:Ap Tryz.prog gl 135 rP:=by
 refine Bq (gh:=[]) mixed Ee (Ab Uy Ae) Tryz.func135 (by kernel_rfl) (by kernel_rfl) ?_;intro xs ls K h;unfold rP at h;obtain⟨x,nb,n,f,nn,nl,g,nf,hd,mi,st,re,hb,hn,hf,rfl,rfl,V,hm,h⟩:=h;obtain⟨k,hk⟩:∃k,k=Av x.m hd:=⟨_,rfl⟩;obtain⟨a,b,e⟩:=k;have h:=h a b e hk;obtain⟨p,hp⟩:∃p,p=EH a b:=⟨_,rfl⟩;obtain⟨L,kO,nS,hK⟩:∃L:List Hl,(e≠0->L=[.gone,.gone])/\(e=0->L=[.aG 125 (Kb { x with ph:=p,mi:=mi,st:=st,re:=re,fb:=hb,fl:=hn,ff:=hf,fr:=a,lf:=b } nb n f nn nl g),.vec 5 (.a nl) (.a g) 1 nf])/\K (.int .i64 (.a e)) L:=by
  by_cases e0:e=0
  .refine⟨_,λh=>absurd e0 h,λ_=>rfl,?_⟩
   rw[e0];exact h.2 e0 p hp
  .exact⟨_,λ_=>rfl,λh=>absurd h e0,h.1 e0⟩
 refine⟨_,_,hK,λD hD=>?_⟩;clear hK h;obtain⟨m,ph,inf,ln,mi0,st0,re0,fb,fl,ff,fr,bo,lf,cp,cl,cd,cf,cb,ct,ctf⟩:=x;unfold ub;simp only at hk hm;cbv;refine⟨m,hd,D.i (.a mi),D.i (.a st),re,D.b (.a hb),D.i (.a hn),hf,rfl,rfl,by subst hD;exact V,hm,λa2 b2 e2 aZ=>?_⟩;cbv;obtain⟨rfl,rfl,rfl⟩:a2=a/\b2=b/\e2=e:=by
  have:=aZ.trans hk.symm;simp only[Prod.mk.injEq]at this;exact this
 clear aZ;refine br hD (λeB=>?_) (λeB=>?_)<;>cbv
 .have eB:(e2 != 0)=true:=by subst hD;exact eB
  rw[kO (by simpa using eB)];subst hD;exact Kl rfl
 have e0:e2=0:=by
  have eB:(e2 != 0)=false:=by subst hD;exact eB
  simpa using eB
 clear eB;refine br hD (λeB=>?_) (λeB=>?_)<;>cbv
 .have eB:((a2==0)||((a2==1)&&(b2==0)))=true:=by subst hD;exact eB
  have pE:p=2:=by
   rw[hp];unfold EH;rw[QB (by simpa using eB)]
  rw[nS e0];subst pE;subst hD;exact⟨Ai (by exact e0.symm),Cn (cI.cons (Ao (Rd rfl rfl rfl rfl (aO.refl _) rfl rfl rfl rfl (aO.refl _) (aO.refl _) (aO.refl _))) (cI.cons (Ih rfl rfl λ_ _=>rfl) λ_ _ _ _ h=>h)),QH _⟩
 .have eB:((a2==0)||((a2==1)&&(b2==0)))=false:=by subst hD;exact eB
  have pE:p=1:=by
   rw[hp];unfold EH;rw[QA (by
    rw[<-Bool.not_eq_true]at eB;simpa using eB)]
  rw[nS e0];subst pE;subst hD;exact⟨Ai (by exact e0.symm),Cn (cI.cons (Ao (Rd rfl rfl rfl rfl (aO.refl _) rfl rfl rfl rfl (aO.refl _) (aO.refl _) (aO.refl _))) (cI.cons (Ih rfl rfl λ_ _=>rfl) λ_ _ _ _ h=>h)),QH _⟩
set_option maxHeartbeats 1000000
def Eb(s:Rs):List UInt8->Rs×Nat×Int
 | []=>(s,0,0)
 |c :: b=>if (bA s c).2≠0 then (s,0,(bA s c).2) else if (bA s c).1.phase≠0 then ((bA s c).1,1,0) else
  ((Eb (bA s c).1 b).1,(Eb (bA s c).1 b).2.1+1,(Eb (bA s c).1 b).2.2)
def Zb(s:Rs)(nn:Bool)(g:Int):List UInt8->Bool×Int
 | []=>(nn,g)
 |c :: b=>if (Ar (s.line++[c])).2.2=10 then Zb (bA s c).1 false (g+1) b else if (bA s c).1.phase≠0 then (true,g+3) else Zb (bA s c).1 true (g+3) b
theorem Tp{b:List UInt8}(h:s.phase=2\/b=[]):Ag s b=(s,0,0):=by
 cases b with
 |nil=>rfl
 |cons c b =>
  rcases h with h|h
  .rw[Ag,QB h]
  .cases h
structure ad9(s:Rs)(b:List UInt8)(k:Rs×Nat×Int):Prop where
 le:k.2.1<=b.length
 eq:Ag s b=((Ag k.1 (b.drop k.2.1)).1,k.2.1+(Ag k.1 (b.drop k.2.1)).2.1,(Ag k.1 (b.drop k.2.1)).2.2)
 all:k.1.phase=0->k.2.1=b.length
 one:b≠[]->1<=k.2.1
 ok:C7 s->C7 k.1
theorem MF:∀(b:List UInt8) (s:Rs),s.phase=0->((Eb s b).2.2≠0->(Ag s b).2.2=(Eb s b).2.2)/\((Eb s b).2.2=0->ad9 s b (Eb s b))
 | [],s,h=>⟨λh=>absurd rfl h,λ_=>⟨QH _,rfl,λ_=>rfl,λh=>absurd rfl h,λh=>h⟩⟩
 |c :: b,s,h=>by
  rw[Eb];have hr:Ag s (c :: b)=if (bA s c).2≠0 then (s,0,(bA s c).2) else ((Ag (bA s c).1 b).1,(Ag (bA s c).1 b).2.1+1,(Ag (bA s c).1 b).2.2):=by
   rw[Ag,QA (by omega)]
  by_cases h1:(bA s c).2=0
  .rw[QA (by simpa using h1)]
   rw[QA (by simpa using h1)]at hr;have fT:C7 s->C7 (bA s c).1:=λO=>J7 O (by omega) (by rw[<-h1])
   by_cases h2:(bA s c).1.phase=0
   .rw[QA (by simpa using h2)]
    obtain⟨i1,i2⟩:=MF b (bA s c).1 h2;refine⟨λh3=>?_,λh3=>?_⟩
    .rw[hr];exact i1 h3
    .obtain⟨j1,j2,j3,j4,j5⟩:=i2 h3
     refine⟨by simp only[QG];omega,?_,λh4=>by have:=j3 h4;simp only[QG];omega,λ_=>Nat.succ_le_succ (ZB _),λO=>j5 (fT O)⟩;rw[hr,j2];simp only[UO];refine YF rfl (YF ?_ rfl);show _+_+1=_+1+_;omega
   .rw[QB h2]
    refine⟨λh3=>absurd rfl h3,λ_=>⟨by simp,?_,λh3=>absurd h3 h2,λ_=>QH _,fT⟩⟩;rw[hr];simp only[UO,ZY];refine YF rfl (YF ?_ rfl);show _+1=1+_;omega
  .rw[QB h1]
   rw[QB h1]at hr;exact⟨λ_=>by rw[hr],λh3=>absurd h3 h1⟩
structure K8(s:Rs)(b:List UInt8)(st:Rs)(i:Nat):Prop where
 le:i<=b.length
 eq:Ag s b=((Ag st (b.drop i)).1,i+(Ag st (b.drop i)).2.1,(Ag st (b.drop i)).2.2)
 ok:C7 st
theorem K8.zero(b:List UInt8)(h:C7 s):K8 s b s 0:=⟨ZB _,by rw[ZY,XE],h⟩
theorem K8.trans{t:Rs}{b:List UInt8}{j:Nat}(h:K8 s b st i)(k:K8 st (b.drop i) t j):K8 s b t (i+j):=by
 have h1:=k.le;rw[QY]at h1;have h2:=h.le;refine⟨by omega,?_,k.ok⟩;rw[h.eq,k.eq,ZA];refine YF rfl (YF ?_ rfl);show i+(j+_)=i+j+_;omega
theorem K8.err{b:List UInt8}(h:K8 s b st i){e:Int}(k:(Ag st (b.drop i)).2.2=e):(Ag s b).2.2=e:=by rw[h.eq];exact k
theorem K8.fin{b:List UInt8}(h:K8 s b st i)(k:st.phase=2\/b.drop i=[]):Ag s b=(st,i,0):=by
 rw[h.eq,Tp k];rfl
theorem Ae5{b:List UInt8}(O:C7 s)(h:s.phase=0)(k:(Eb s b).2.2=0):K8 s b (Eb s b).1 (Eb s b).2.1:=by
 have:=(MF b s h).2 k;exact⟨this.le,this.eq,this.ok O⟩
theorem Zd{b:List UInt8}(O:C7 s)(h:Ag s b=(st,i,0))(k:st.phase=2\/i=b.length):K8 s b st i:=by
 have h1:=Akr b s;rw[h]at h1;have h1:i<=b.length:=h1;have h2:=Oe b s O (by rw[h]);rw[h]at h2;have hk:st.phase=2\/b.drop i=[]:=k.imp (λk=>k) (λk=>by rw[k,XQ]);refine⟨h1,?_,h2⟩;rw[h,Tp hk];rfl
theorem Af6(O:C7 s)(h1:s.phase=1)(h2:s.aD=1):1<=s.left/\s.left+(s.body.length:Int)<=65536:=by
 obtain⟨q1,q2,q3,q4⟩:=O.f1 (by omega) h2;have h3:=Kg s.method s.head;have h4:s.left≠0:=λe=>by have:=q4.2 e;omega
 omega
theorem Ae4{b:List UInt8}(O:C7 s)(h1:s.phase=1)(h2:s.aD=1){k:Nat}(hk:(k:Int)=min s.left (b.length:Int)):
  K8 s b { s with body:=s.body++b.take k,left:=s.left-(k:Int),phase:=if s.left-(k:Int)=0 then 2 else 1 } k/\(b≠[]->1<=k):=by
 obtain⟨q1,q2⟩:=Af6 O h1 h2;have hr:=Ah3 b s h1 h2 q1 q2;have e:min s.left.toNat b.length=k:=by omega
 rw[e]at hr;refine⟨Zd O hr ?_,λhb=>?_⟩
 .show (if s.left-(k:Int)=0 then (2:Int) else 1)=2\/k=b.length
  by_cases e0:s.left-(k:Int)=0
  .left;rw[QB e0]
  .right;omega
 .have:1<=b.length:=by
   cases b with
   |nil=>exact absurd rfl hb
   |cons c b=>simp
  omega
theorem Aci{b:List UInt8}(O:C7 s)(h1:s.phase=1)(h2:s.aD=3):(s.body.length+b.length<=65536->K8 s b { s with body:=s.body++b } b.length)/\(65536<s.body.length+b.length->(Ag s b).2.2=3):=by
 obtain⟨q1,q2⟩:=Aed b s h1 h2;exact⟨λh=>Zd O (q1 h) (.inr rfl),λh=>q2 h (O.f3 (by omega) h2)⟩
theorem Ya:∀(b:List UInt8) (s:Ch),(Bj s b).2.2=0->(Bj s b).1.phase≠4->(Bj s b).2.1=b.length
 | [],s,_,_=>rfl
 |c :: b,s,h,h4=>by
  unfold Bj at h h4 ⊢
  by_cases e:s.phase=4
  .rw[QB e]at h4;exact absurd e h4
  rw[QA e]at h h4 ⊢
  by_cases e2:(cJ s c).2=0
  .rw[QA (by simpa using e2)]at h h4 ⊢
   have:=Ya b (cJ s c).1 h h4;simp only[QG];omega
  .rw[QB e2]at h
   exact absurd h e2
theorem Ze{b:List UInt8}(O:C7 s)(h1:s.phase=1)(h2:s.aD=2):((Bj s.chunks b).2.2=0->K8 s b { s with chunks:=(Bj s.chunks b).1,phase:=if (Bj s.chunks b).1.phase=4 then 2 else 1 } (Bj s.chunks b).2.1)/\((Bj s.chunks b).2.2≠0->(Ag s b).2.2=(Bj s.chunks b).2.2):=by
 obtain⟨f1,f2,f3⟩:=O.f2 (by omega) h2;obtain⟨q1,q2⟩:=Aax b s h1 h2 (λe=>by have:=f3.2 e;omega);refine⟨λh=>Zd O (q1 h) ?_,q2⟩;show (if (Bj s.chunks b).1.phase=4 then (2:Int) else 1)=2\/(Bj s.chunks b).2.1=b.length
 by_cases e0:(Bj s.chunks b).1.phase=4
 .left;rw[QB e0]
 .right;exact Ya b _ h e0
theorem Aa1(O:C7 s):s.head.fields=[]\/Bb s.head.fields=0:=by
 by_cases h:s.phase=0
 .left;rw[(O.p0 h).2.1];rfl
 .right
  obtain⟨_,_,_,_,q5,_⟩:=O.p1 h;unfold Av at q5
  split at q5
  .cases q5
  split at q5
  .rename_i h1;exact absurd q5 h1
  .rename_i h1
   have h1:H3 s.head=0:=by simpa using h1
   unfold H3 at h1
   split at h1
   .cases h1
   .exact h1
theorem Aa2(O:C7 s):s.chunks=uP\/Iz s.chunks:=by
 by_cases h:s.phase=0
 .left;exact (O.p0 h).2.2.2.2.2
 .by_cases h2:s.aD=2
  .right;exact (O.f2 h h2).2.1
  .left;exact (O.p1 h).2.2.2.2.2.2.1 h2
theorem Wa(O:C7 s):s.chunks.aE=[]\/Bb s.chunks.aE=0:=by
 rcases Aa2 O with h|h
 .left;rw[h];rfl
 .rcases h.oV with h4|h4
  .exact .inr (h.p4 h4).2.1
  .exact .inl h4
theorem Ts(h:l=[]\/Bb l=0):∃n f,A5 f n l:=by
 rcases h with h|h
 .subst h;exact⟨_,_,Sr⟩
 .have h1:=(Ko l).1 h
  exact⟨_,_,A5.row (by have:=h1.1;omega) (λi hi=>by
   have hm:l.getD i default∈l:=by rw[QD,QC hi];exact XL hi
   have h2:=(Abl h).h _ hm;have h3:=h1.2.1 _ hm;exact⟨by have:=h2.len;omega,by have:=h3.len;omega⟩)⟩
theorem Af5(O:C7 s):∃fl ff ct ctf,A5 ff fl s.head.fields/\A5 ctf ct s.chunks.aE:=by
 obtain⟨n1,f1,h1⟩:=Ts (Aa1 O);obtain⟨n2,f2,h2⟩:=Ts (Wa O);exact⟨_,_,_,_,h1,h2⟩
theorem ON{k:IntKind}{t:ST}:M5 (.int k t):=⟨λE E' w v hr=>by rw[hr.aQ];exact .ro (.int rfl)⟩
theorem EO{s:List UInt8}:M5 (.str s):=⟨λE E' w v hr=>by rw[Cr hr];exact .ro (.str rfl)⟩
theorem vp(h:nl.den=true):M5 (.sl nl n sz f):=⟨λE E' w v hr=>by
 rcases hr.bE.bE with⟨e1,e2,_⟩|⟨_,_,_,_,_,e1,_⟩
 .rw[e1];exact .ro (.slnil h (by simpa using e2))
 .rw[h]at e1;cases e1⟩
theorem EP(h:∀s∈cs,M5 s):M5 (.agg cs):=⟨λE E' w v hr=>by
 obtain⟨vs,hv,hl,hq⟩:∃vs:List Value,v=.agg ⟨vs⟩/\cs.length=vs.length/\∀(i:Nat) (s:SV) (u:Value),cs[i]?=some s->vs[i]?=some u->Rel E w s u:=by
  cases hr with
  |ro h=>cases h with|agg hl hq=>exact⟨_,rfl,hl,λi s u a b=>.ro (hq i s u a b)⟩
  |agg hl hq=>exact⟨_,rfl,hl,hq⟩
 subst hv;exact .agg hl λi s u a b=>(h s (QK a)).h _ _ _ _ (hq i s u a b)⟩
theorem EN(h:∀s∈cs,M5 s):M5 (.aJ cs):=⟨λE E' w v hr=>by
 obtain⟨vs,hv,hl,hq⟩:∃vs:List Value,v=.tuple ⟨vs⟩/\cs.length=vs.length/\∀(i:Nat) (s:SV) (u:Value),cs[i]?=some s->vs[i]?=some u->Rel E w s u:=by
  cases hr with
  |ro h=>cases h
  |aJ hl hq=>exact⟨_,rfl,hl,hq⟩
 subst hv;exact .aJ hl λi s u a b=>(h s (QK a)).h _ _ _ _ (hq i s u a b)⟩
theorem vn{k1 k2 k3 k4:IntKind}{a b c d:ST}{re:List UInt8}(h:nl.den=true):M5 (.aJ [.agg [.int k1 a,.int k2 b,.str re,.sl nl n sz f],.int k3 c,.int k4 d]):=by
 refine EN λs hs=>?_;simp only[XS,YA,or_false]at hs;rcases hs with rfl|rfl|rfl
 .refine EP λs hs=>?_
  simp only[XS,YA,or_false]at hs;rcases hs with rfl|rfl|rfl|rfl
  .exact ON
  .exact ON
  .exact EO
  .exact vp h
 .exact ON
 .exact ON
end Go.Proofs.YtdoogdbjiijifaaGreatDoor
