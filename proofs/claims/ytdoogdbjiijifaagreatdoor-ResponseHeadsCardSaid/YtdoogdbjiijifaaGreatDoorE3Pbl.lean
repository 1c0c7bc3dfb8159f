/- Part of the proofs of the statements about responses and messages (layers 9 and 10): a symbolic executor over the code, that it is sound, and contracts of functions; it has no conditions of its own. -/
import Derived.Test.YtdoogdbjiijifaaGreatDoorE3Pbk
namespace Go.Proofs.YtdoogdbjiijifaaGreatDoor
open Go Go.Sx
set_option maxRecDepth 100000
set_option maxHeartbeats 8000000
def Ug(l:List (List UInt8))(x:List UInt8):Nat->Int
 |i=>match l with
  | []=>-1
  |y :: r=>if x=y then i else Ug r x (i+1)
def ixTJ(l:List (List UInt8))(x:List UInt8)(k:Int)(nl:Bool)(n:Int)(f:Nat->List SV)(m:Nat)(vs:List (Option SV))(hp:List Hl):Prop :=
 ∃(i:Nat) (I:Int),vs=[some (.sl (.a nl) (.a n) 1 f),some (.str x),some (.int .i64 (.a n)),some (.int .i64 (.a I))]/\hp=[]/\AtR l i I m/\k=Ug (l.drop i) x i
def spIdxS:FSpec:=λ_ xs ls K=>∃(l:List (List UInt8)) (x:List UInt8) (nl:Bool) (n:Int) (f:Nat->List SV),xs=[.sl (.a nl) (.a n) 1 f,.str x]/\ls=[]/\Bl f n l/\∀k,k=Ug l x 0->K (.int .i64 (.a k)) []
theorem idxS_ok:Ay Tryz.prog gl 138 spIdxS:=by
 refine Bq (gh:=[]) mixed B4 Ai Tryz.func138 (by kernel_rfl) (by kernel_rfl) ?_;intro xs ls K h;unfold spIdxS at h;obtain⟨l,x,nl,n,f,rfl,rfl,R,h⟩:=h;obtain⟨k,hk⟩:∃k,k=Ug l x 0:=⟨_,rfl⟩;refine⟨_,_,h k hk,λD hD=>?_⟩;clear h;cbv;obtain⟨J,hJ⟩:∃J,J=ixTJ l x k nl n f:=⟨_,rfl⟩;refine⟨[0,1,7,8],J,⟨rfl,l.length,?_⟩,?_⟩
 ·rw[hJ]
  subst hD;exact⟨0,_,rfl,rfl,AtR.zero R.len,hk⟩
 clear hk;intro m vs hp hj;rw[hJ]at hj;obtain⟨i,I,rfl,rfl,V,hk⟩:=hj;cbv;refine br hD (λhb=>?_) (λhb=>?_)<;>cbv
 ·have hlt:=V.lt R.n (of_decide_eq_true (p:=I<n) hb)
  clear hb;refine⟨V.inB hD R.n hlt,λj hj=>?_⟩;obtain rfl:=V.j hD hj;clear hj;have e1:=R.f j hlt;rw[Kn (d:=[]) hlt,Ug]at hk;obtain⟨y,hy⟩:∃y,y=l.getD j []:=⟨_,rfl⟩;rw[<-hy]at e1 hk;have hI:=V.I;have VI2:VI I j:=⟨hI⟩;clear hI;obtain⟨s1,s2⟩:=V.step hD hlt
  generalize l.length-(j+1)=m' at s1 s2
  cbv;rw[e1];cbv;refine br hD (λhb=>?_) (λhb=>?_)<;>cbv
  ·have hb:(x==y)=true:=by subst hD;exact hb
   rw[if_pos (eq_of_beq hb)]at hk;exact Be hD (by rw[hk];exact VI2.h)
  ·have hb:(x==y)=false:=by subst hD;exact hb
   rw[if_neg (by simpa using hb)]at hk;refine⟨m',s1,?_⟩;rw[hJ];unfold ixTJ;subst hD;exact⟨j+1,_,rfl,rfl,s2,hk⟩
 ·have hi:=V.eq R.n (of_decide_eq_false (p:=I<n) hb)
  rw[hi,List.drop_length]at hk;clear hb;exact Be hD (by rw[hk];rfl)
def spContS:FSpec:=λ_ xs ls K=>∃(l:List (List UInt8)) (x:List UInt8) (nl:Bool) (n:Int) (f:Nat->List SV),xs=[.sl (.a nl) (.a n) 1 f,.str x]/\ls=[]/\Bl f n l/\∀k,k=l.contains x->K (.bool (.a k)) []
theorem W6:∀(l:List (List UInt8)) (x:List UInt8) (i:Nat),decide (0<=Ug l x i)=l.contains x
 | [],x,i=>rfl
 |y :: r,x,i=>by
  show decide (0<=(if x=y then (i:Int) else Ug r x (i+1)))=_
  by_cases e:x=y
  ·rw[if_pos e,List.contains_cons,e];simp
  ·rw[if_neg e,List.contains_cons,W6 r x (i+1)]
   have:(x==y)=false:=by simpa using e
   rw[this,Bool.false_or]
theorem Amq:Ay Tryz.prog gl 80 spContS:=by
 refine Bq (gh:=[]) mixed B4 (Ab idxS_ok Ai) Tryz.func80 (by kernel_rfl) (by kernel_rfl) ?_;intro xs ls K h;unfold spContS at h;obtain⟨l,x,nl,n,f,rfl,rfl,R,h⟩:=h;obtain⟨k,hk⟩:∃k,k=l.contains x:=⟨_,rfl⟩;refine⟨_,_,h k hk,λD hD=>?_⟩;clear h;cbv;refine⟨l,x,_,_,f,rfl,rfl,by subst hD;exact R,λk2 hk2=>?_⟩;cbv;refine Aw hD ?_;show decide (0<=k2)=k;rw[hk2,hk,W6]
def eqTJ(a b:List (List UInt8))(k:Bool)(na nb:Bool)(A B:Int)(f g:Nat->List SV)(m:Nat)(vs:List (Option SV))(hp:List Hl):Prop :=
 ∃(i:Nat) (I:Int),vs=[some (.sl (.a na) (.a A) 1 f),some (.sl (.a nb) (.a B) 1 g),some (.int .i64 (.a A)),some (.int .i64 (.a I))]/\hp=[]/\AtR a i I m/\k=(a.drop i==b.drop i)
theorem eqS_ok:Ay Tryz.prog gl 66 spStrings:=by
 refine Bq (gh:=[]) mixed B4 Ai Tryz.func66 (by kernel_rfl) (by kernel_rfl) ?_;intro xs ls K h;unfold spStrings at h;obtain⟨a,b,na,nb,A,B,f,g,rfl,rfl,R,S,h⟩:=h;obtain⟨k,hk⟩:∃k,k=(a==b):=⟨_,rfl⟩;refine⟨_,_,h k hk,λD hD=>?_⟩;clear h;have hAB:(A != B)=!(decide (a.length=b.length)):=by
  rw[R.n,S.n,Bool.eq_iff_iff,bne_iff_ne,Bool.not_eq_true',decide_eq_false_iff_not];omega
 cbv;refine br hD (λhb=>?_) (λhb=>?_)<;>cbv
 ·have hb:(A != B)=true:=by subst hD;exact hb
  rw[hAB,Bool.not_eq_true',decide_eq_false_iff_not]at hb;refine Aw hD ?_;rw[hk];have h0:(a==b)=false:=by
   rw[beq_eq_false_iff_ne];intro e;rw[e]at hb;exact hb rfl
  exact h0.symm
 have hlen:a.length=b.length:=by
  have hb:(A != B)=false:=by subst hD;exact hb
  rw[hAB,Bool.not_eq_false',decide_eq_true_eq]at hb;exact hb
 clear hb hAB;obtain⟨J,hJ⟩:∃J,J=eqTJ a b k na nb A B f g:=⟨_,rfl⟩;refine⟨[0,1,12,13],J,⟨rfl,a.length,?_⟩,?_⟩
 ·rw[hJ]
  subst hD;exact⟨0,_,rfl,rfl,AtR.zero R.len,hk⟩
 clear hk;intro m vs hp hj;rw[hJ]at hj;obtain⟨i,I,rfl,rfl,V,hk⟩:=hj;cbv;refine br hD (λhb=>?_) (λhb=>?_)<;>cbv
 ·have hlt:=V.lt R.n (of_decide_eq_true (p:=I<A) hb)
  clear hb;have hltb:i<b.length:=by omega
  have inB:InB (D.i (.a I)) (D.i (.a B)):=by
   have:=V.I;have:=S.n;subst hD;exact⟨by show 0<=I;omega,by show I<B;omega⟩
  refine⟨V.inB hD R.n hlt,λj hj=>?_⟩;obtain rfl:=V.j hD hj;clear hj;have e1:=R.f j hlt;have e2:=S.f j hltb;rw[Kn (d:=[]) hlt,Kn (d:=[]) hltb]at hk;obtain⟨y,hy⟩:∃y,y=a.getD j []:=⟨_,rfl⟩;obtain⟨z,hz⟩:∃z,z=b.getD j []:=⟨_,rfl⟩;rw[<-hy]at e1 hk;rw[<-hz]at e2 hk;obtain⟨s1,s2⟩:=V.step hD hlt
  generalize a.length-(j+1)=m' at s1 s2
  cbv;rw[e1];cbv;refine⟨inB,λj2 hj2=>?_⟩;obtain rfl:j=j2:=(V.j hD hj2).symm;clear hj2;cbv;rw[e2];cbv;refine br hD (λhb=>?_) (λhb=>?_)<;>cbv
  ·have hb:(y != z)=true:=by subst hD;exact hb
   refine Aw hD ?_;rw[hk];have h0:(y :: a.drop (j+1)==z :: b.drop (j+1))=false:=by
    rw[beq_eq_false_iff_ne];intro e;rw[bne_iff_ne]at hb;exact hb (List.cons.inj e).1
   exact h0.symm
  ·have hb:(y != z)=false:=by subst hD;exact hb
   have hb:y=z:=by simpa using hb
   refine⟨m',s1,?_⟩;rw[hJ];unfold eqTJ;subst hD;refine⟨_,_,rfl,rfl,s2,?_⟩;rw[hk,hb,Bool.eq_iff_iff,beq_iff_eq,beq_iff_eq];exact⟨λe=>(List.cons.inj e).2,λe=>by rw[e]⟩
 ·have hi:=V.eq R.n (of_decide_eq_false (p:=I<A) hb)
  rw[hi,List.drop_length,hlen,List.drop_length]at hk;clear hb;exact Aw hD (by rw[hk];rfl)
def spSizeR:FSpec:=λ_ xs ls K=>∃(l:List (List UInt8)) (good:Bool) (nl:Bool) (n:Int) (f:Nat->List SV),xs=[.sl (.a nl) (.a n) 1 f,.bool (.a good)]/\ls=[]/\Bl f n l/\(∀x∈l,x.length<=9223372036854775807)/\∀r e,(r,e)=(if good then Cs l else (0,6))->K (.tup [.int .i64 (.a r),.int .i64 (.a e)]) []
structure SzI(l:List (List UInt8))(v r e:Int)(i:Nat)(I:Int)(m:Nat):Prop where
 lie:AtR l i I m
 k:(r,e)=if (l.drop i).all (λs=>decide (0<=Bt s)&&(Bt s==v)) then (if 65536<v then (0,3) else (v,0)) else (0,6)
def szJ(l:List (List UInt8))(v r e:Int)(nl:Bool)(n:Int)(f:Nat->List SV)(m:Nat)(vs:List (Option SV))(hp:List Hl):Prop :=
 ∃(i:Nat) (I:Int),vs=[some (.int .i64 (.a v)),some (.sl (.a nl) (.a n) 1 f),some (.int .i64 (.a n)),some (.int .i64 (.a I))]/\hp=[]/\SzI l v r e i I m
theorem Aj2:Ay Tryz.prog gl 68 spSizeR:=by
 refine Bq (gh:=[]) mixed B4 (Ab Rf Ai) Tryz.func68 (by kernel_rfl) (by kernel_rfl) ?_;intro xs ls K h;unfold spSizeR at h;obtain⟨l,good,nl,n,f,rfl,rfl,R,hsm,h⟩:=h;obtain⟨r,e,hk⟩:∃r e,(r,e)=(if good then Cs l else (0,6)):=⟨_,_,rfl⟩;refine⟨_,_,h r e hk,λD hD=>?_⟩;clear h;have hn0:(n==0)=l.isEmpty:=by
  rw[R.n];cases l with
  |nil=>rfl
  |cons a b=>rw[List.isEmpty_cons,beq_eq_false_iff_ne,List.length_cons];omega
 cbv;refine br hD (λhb=>?_) (λhb=>?_)<;>cbv
 ·have hb:(!good||(n==0))=true:=by subst hD;exact hb
  rw[hn0]at hb;have hk2:(r,e)=(0,6):=by
   rw[hk];cases good with
   |false=>rfl
   |true =>
    cases l with
    |nil=>rfl
    |cons=>cases hb
  obtain⟨rfl,rfl⟩:=Prod.mk.inj hk2;subst hD;exact D6 (.tup (.cons (Ak rfl) (.cons (Ak rfl) .nil)))
 have hb:(!good||(n==0))=false:=by subst hD;exact hb
 rw[hn0,Bool.or_eq_false_iff,Bool.not_eq_false']at hb;obtain⟨rfl,hne⟩:=hb;clear hn0;have hlt0:0<l.length:=by
  cases l with
  |nil=>cases hne
  |cons a b=>simp
 have e0:=R.f 0 hlt0;obtain⟨x,hx⟩:∃x,x=l.getD 0 []:=⟨_,rfl⟩;have hxs:x.length<=9223372036854775807:=hsm _ (by rw[hx,List.getD_eq_getElem?_getD,List.getElem?_eq_getElem hlt0];exact List.getElem_mem hlt0);obtain⟨v,hv⟩:∃v,v=Bt x:=⟨_,rfl⟩;have hk2:(r,e)=if (l.drop 0).all (λs=>decide (0<=Bt s)&&(Bt s==v)) then (if 65536<v then (0,3) else (v,0)) else (0,6):=by
  rw[hk,if_pos rfl,hv,hx];cases l with
  |nil=>cases hne
  |cons a b=>rfl
 rw[<-hx]at e0;clear hk hne;refine⟨by subst hD;exact⟨by decide,by show (0:Int)<n;rw[R.n];omega⟩,λj hj=>?_⟩;have hj0:j=0:=by
  have h2:(j:Int)=0:=by subst hD;exact hj.h
  omega
 subst hj0;clear hj;cbv;rw[e0];cbv;refine⟨x,rfl,rfl,hxs,λv2 hv2=>?_⟩;obtain rfl:v2=v:=hv2.trans hv.symm;cbv;obtain⟨J,hJ⟩:∃J,J=szJ l v2 r e nl n f:=⟨_,rfl⟩;refine⟨[6,21,22,23],J,⟨rfl,l.length,?_⟩,?_⟩
 ·rw[hJ]
  subst hD;exact⟨0,_,rfl,rfl,AtR.zero R.len,hk2⟩
 clear hk2;intro m vs hp hj;rw[hJ]at hj;obtain⟨i,I,rfl,rfl,V⟩:=hj;cbv;refine br hD (λhb=>?_) (λhb=>?_)<;>cbv
 ·have hlt:=V.lie.lt R.n (of_decide_eq_true (p:=I<n) hb)
  clear hb;refine⟨V.lie.inB hD R.n hlt,λj hj=>?_⟩;obtain rfl:=V.lie.j hD hj;clear hj;have e1:=R.f j hlt;have hk:=V.k;rw[Kn (d:=[]) hlt,List.all_cons]at hk;have hys:(l.getD j []).length<=9223372036854775807:=hsm _ (by rw[List.getD_eq_getElem?_getD,List.getElem?_eq_getElem hlt];exact List.getElem_mem hlt);obtain⟨y,hy⟩:∃y,y=l.getD j []:=⟨_,rfl⟩;rw[<-hy]at e1 hk hys;obtain⟨s1,s2⟩:=V.lie.step hD hlt
  generalize l.length-(j+1)=m' at s1 s2
  cbv;rw[e1];cbv;refine⟨y,rfl,rfl,hys,λu hu=>?_⟩;rw[<-hu]at hk;cbv;refine br hD (λhb=>?_) (λhb=>?_)<;>cbv
  ·have hb:(decide (u<0)||(u != v2))=true:=by subst hD;exact hb
   have hf:(decide (0<=u)&&(u==v2))=false:=by
    rw[Bool.and_eq_false_iff];rcases Bool.or_eq_true_iff.1 hb with h|h
    ·left;rw[decide_eq_false_iff_not];have:=of_decide_eq_true h;omega
    ·right;simpa using h
   rw[hf]at hk;obtain⟨rfl,rfl⟩:=Prod.mk.inj hk;subst hD;exact D6 (.tup (.cons (Ak rfl) (.cons (Ak rfl) .nil)))
  ·have hb:(decide (u<0)||(u != v2))=false:=by subst hD;exact hb
   have hf:(decide (0<=u)&&(u==v2))=true:=by
    rw[Bool.or_eq_false_iff]at hb;rw[Bool.and_eq_true];refine⟨?_,by simpa using hb.2⟩;rw[decide_eq_true_eq];have:=of_decide_eq_false hb.1;omega
   rw[hf,Bool.true_and]at hk;refine⟨m',s1,?_⟩;rw[hJ];unfold szJ;subst hD;exact⟨j+1,_,rfl,rfl,s2,hk⟩
 ·have hi:=V.lie.eq R.n (of_decide_eq_false (p:=I<n) hb)
  have hk:=V.k;rw[hi,List.drop_length,List.all_nil,if_pos rfl]at hk;clear hb;refine br hD (λhb=>?_) (λhb=>?_)<;>cbv
  ·have hb:decide (65536<v2)=true:=by subst hD;exact hb
   rw[if_pos (of_decide_eq_true hb)]at hk;obtain⟨rfl,rfl⟩:=Prod.mk.inj hk;subst hD;exact D6 (.tup (.cons (Ak rfl) (.cons (Ak rfl) .nil)))
  ·have hb:decide (65536<v2)=false:=by subst hD;exact hb
   rw[if_neg (of_decide_eq_false hb)]at hk;obtain⟨rfl,rfl⟩:=Prod.mk.inj hk;subst hD;exact D6 (.tup (.cons (Ak rfl) (.cons (Ak rfl) .nil)))
def Ahl(mi st:Int)(re:List UInt8)(nl:Bool)(n:Int)(f:Nat->List SV):Hl:=.blk 25 [.int .i64 (.a mi),.int .i64 (.a st),.str re,.sl (.a nl) (.a n) 2 f]
def spFr1:FSpec:=λ_ xs ls K=>∃(m:List UInt8) (mi st:Int) (re:List UInt8) (nl:Bool) (n:Int) (f:Nat->List SV),xs=[.ptr 0 0,.ptr 1 0]/\ls=[.blk 9 [.str m],Ahl mi st re nl n f]/\
 ∀r,r=Pq m st->K (.bool (.a r)) [.blk 9 [.str m],Ahl mi st re nl n f]
theorem fr1_ok:Ay Tryz.prog gl 64 spFr1:=by
 refine Ez (gh:=[]) mixed B4 Ai Tryz.func64 (by kernel_rfl) (by kernel_rfl) ?_;intro xs ls K h;unfold spFr1 at h;obtain⟨m,mi,st,re,nl,n,f,rfl,rfl,h⟩:=h;obtain⟨k,hk⟩:∃k,k=Pq m st:=⟨_,rfl⟩;refine⟨_,_,h k hk,λD hD=>?_⟩;clear h;unfold Ahl;cbv;subst hD hk;exact⟨Dc rfl,Cz (LeH.cons (Ao (.cons (LeV.refl _) .nil)) (LeH.cons (Ao (.cons (LeV.refl _) (.cons (LeV.refl _) (.cons (LeV.refl _) (.cons (LeV.refl _) .nil))))) λ_ _ _ _ h=>h)),Nat.le_refl _⟩
def Mj(mi:Int)(cod:List (List UInt8))(coded sized good:Bool):Bool:=coded&&(((sized||(mi==0))||!good)||!(cod==[sChunked]))
def spFr2:FSpec:=λ_ xs ls K=>∃(kd:Int) (coded sized good:Bool) (mi st:Int) (re:List UInt8) (nl:Bool) (n:Int) (f:Nat->List SV) (cod:List (List UInt8)) (cb:Bool) (cn:Int) (cf:Nat->List SV) (e:Int),
 xs=[.ptr 0 0,.ptr 1 0,.ptr 2 0,.ptr 3 0,.ptr 4 0,.ptr 5 0,.ptr 6 0]/\
 ls=[.blk 3 [.int .i64 (.a kd)],.blk 4 [.bool (.a coded)],.blk 4 [.bool (.a sized)],Ahl mi st re nl n f,.blk 4 [.bool (.a good)],.blk 111 [.sl (.a cb) (.a cn) 1 cf],.blk 28 [.int .i64 (.a e)]]/\Bl cf cn cod/\
 ∀kd' e',kd'=(if Mj mi cod coded sized good then 0 else 2)->e'=(if Mj mi cod coded sized good then 6 else e)->
  K (.bool (.a coded)) [.blk 3 [.int .i64 (.a kd')],.blk 4 [.bool (.a coded)],.blk 4 [.bool (.a sized)],Ahl mi st re nl n f,.blk 4 [.bool (.a good)],.blk 111 [.sl (.a cb) (.a cn) 1 cf],.blk 28 [.int .i64 (.a e')]]
theorem fr2_ok:Ay Tryz.prog gl 65 spFr2:=by
 refine Ez (gh:=[]) mixed B4 (Ab eqS_ok Ai) Tryz.func65 (by kernel_rfl) (by kernel_rfl) ?_;intro xs ls K h;unfold spFr2 at h;obtain⟨kd,coded,sized,good,mi,st,re,nl,n,f,cod,cb,cn,cf,e,rfl,rfl,R,h⟩:=h;obtain⟨k,hk⟩:∃k,k=Mj mi cod coded sized good:=⟨_,rfl⟩;rw[<-hk]at h;refine⟨_,_,h _ _ rfl rfl,λD hD=>?_⟩;clear h;unfold Ahl;cbv;refine⟨λhg=>?_,λhg=>?_⟩<;>cbv
 ·intro g hg2
  cbv;have g0:g 0=[.str sChunked]:=hg2.h 0 _ rfl;have R2:Bl g 1 [sChunked]:=⟨rfl,λi hi=>by
   have:i=0:=by simpa using hi
   subst this;exact g0,by decide⟩
  clear hg2;refine⟨cod,[sChunked],_,_,_,_,cf,g,rfl,rfl,by subst hD;exact R,by subst hD;exact R2,λx hx=>?_⟩;cbv;have hkx:(coded&&(((sized||(mi==0))||!good)||!x))=k:=by rw[hk,hx];rfl
  clear hk hx;refine br hD (λhb=>?_) (λhb=>?_)<;>cbv
  ·have hb:(coded&&(((sized||(mi==0))||!good)||!x))=true:=by subst hD;exact hb
   rw[hb]at hkx;subst hkx;subst hD;exact⟨Dc rfl,Cz (LeH.cons (Ao (.cons (Ak rfl) .nil)) (LeH.cons (Ao (.cons (Dc rfl) .nil)) (LeH.cons (Ao (.cons (LeV.refl _) .nil)) (LeH.cons (Ao (.cons (LeV.refl _) (.cons (LeV.refl _) (.cons (LeV.refl _) (.cons (LeV.refl _) .nil))))) (LeH.cons (Ao (.cons (LeV.refl _) .nil)) (LeH.cons (Ao (.cons (LeV.refl _) .nil)) (LeH.cons (Ao (.cons (Ak rfl) .nil)) λ_ _ _ _ h=>h))))))),Nat.le_refl _⟩
  ·have hb:(coded&&(((sized||(mi==0))||!good)||!x))=false:=by subst hD;exact hb
   rw[hb]at hkx;subst hkx;subst hD;exact⟨Dc rfl,Cz (LeH.cons (Ao (.cons (Ak rfl) .nil)) (LeH.cons (Ao (.cons (Dc rfl) .nil)) (LeH.cons (Ao (.cons (LeV.refl _) .nil)) (LeH.cons (Ao (.cons (LeV.refl _) (.cons (LeV.refl _) (.cons (LeV.refl _) (.cons (LeV.refl _) .nil))))) (LeH.cons (Ao (.cons (LeV.refl _) .nil)) (LeH.cons (Ao (.cons (LeV.refl _) .nil)) (LeH.cons (Ao (.cons (Ak rfl) .nil)) λ_ _ _ _ h=>h))))))),Nat.le_refl _⟩
 ·have hg:(!(((sized||(mi==0))||!good))&&coded)=false:=by subst hD;exact hg
  have R0:Bl (λ_=>[]) 0 []:=Bl.nil;refine⟨cod,[],_,_,_,_,cf,λ_=>[],rfl,rfl,by subst hD;exact R,by subst hD;exact R0,λx hx=>?_⟩;cbv;clear hx;have hkx:(coded&&(((sized||(mi==0))||!good)||!x))=k:=by
   rw[hk];unfold Mj;cases coded
   ·rfl
   ·rw[Bool.and_true,Bool.not_eq_false']at hg
    rw[hg];rfl
  refine br hD (λhb=>?_) (λhb=>?_)<;>cbv
  ·have hb:(coded&&(((sized||(mi==0))||!good)||!x))=true:=by subst hD;exact hb
   rw[hb]at hkx;subst hkx;subst hD;exact⟨Dc rfl,Cz (LeH.cons (Ao (.cons (Ak rfl) .nil)) (LeH.cons (Ao (.cons (Dc rfl) .nil)) (LeH.cons (Ao (.cons (LeV.refl _) .nil)) (LeH.cons (Ao (.cons (LeV.refl _) (.cons (LeV.refl _) (.cons (LeV.refl _) (.cons (LeV.refl _) .nil))))) (LeH.cons (Ao (.cons (LeV.refl _) .nil)) (LeH.cons (Ao (.cons (LeV.refl _) .nil)) (LeH.cons (Ao (.cons (Ak rfl) .nil)) λ_ _ _ _ h=>h))))))),Nat.le_refl _⟩
  ·have hb:(coded&&(((sized||(mi==0))||!good)||!x))=false:=by subst hD;exact hb
   rw[hb]at hkx;subst hkx;subst hD;exact⟨Dc rfl,Cz (LeH.cons (Ao (.cons (Ak rfl) .nil)) (LeH.cons (Ao (.cons (Dc rfl) .nil)) (LeH.cons (Ao (.cons (LeV.refl _) .nil)) (LeH.cons (Ao (.cons (LeV.refl _) (.cons (LeV.refl _) (.cons (LeV.refl _) (.cons (LeV.refl _) .nil))))) (LeH.cons (Ao (.cons (LeV.refl _) .nil)) (LeH.cons (Ao (.cons (LeV.refl _) .nil)) (LeH.cons (Ao (.cons (Ak rfl) .nil)) λ_ _ _ _ h=>h))))))),Nat.le_refl _⟩
def Ki(len:List (List UInt8))(sized fine:Bool):Int×Int:=if sized then (if fine then Cs len else (0,6)) else (0,0)
def spFr3:FSpec:=λ_ xs ls K=>∃(kd l0 e0:Int) (sized fine:Bool) (len:List (List UInt8)) (lb:Bool) (ln:Int) (lf:Nat->List SV),
 xs=[.ptr 0 0,.ptr 1 0,.ptr 2 0,.ptr 3 0,.ptr 4 0,.ptr 5 0]/\
 ls=[.blk 3 [.int .i64 (.a kd)],.blk 4 [.bool (.a sized)],.blk 111 [.sl (.a lb) (.a ln) 1 lf],.blk 4 [.bool (.a fine)],.blk 3 [.int .i64 (.a l0)],.blk 28 [.int .i64 (.a e0)]]/\l0=0/\e0=0/\Bl lf ln len/\(∀x∈len,x.length<=9223372036854775807)/\
 ∀kd' l' e',e'=(Ki len sized fine).2->kd'=(if e'=0 then 1 else 0)->l'=(if e'=0 then (Ki len sized fine).1 else 0)->
  K (.bool (.a sized)) [.blk 3 [.int .i64 (.a kd')],.blk 4 [.bool (.a sized)],.blk 111 [.sl (.a lb) (.a ln) 1 lf],.blk 4 [.bool (.a fine)],.blk 3 [.int .i64 (.a l')],.blk 28 [.int .i64 (.a e')]]
theorem fr3_ok:Ay Tryz.prog gl 67 spFr3:=by
 refine Ez (gh:=[]) mixed B4 (Ab Aj2 Ai) Tryz.func67 (by kernel_rfl) (by kernel_rfl) ?_;intro xs ls K h;unfold spFr3 at h;obtain⟨kd,l0,e0,sized,fine,len,lb,ln,lf,rfl,rfl,hl0,he0,R,hsm,h⟩:=h;obtain⟨e',he⟩:∃k,k=(Ki len sized fine).2:=⟨_,rfl⟩;obtain⟨kd',hkd⟩:∃k:Int,k=(if e'=0 then 1 else 0):=⟨_,rfl⟩;obtain⟨l',hl⟩:∃k:Int,k=(if e'=0 then (Ki len sized fine).1 else 0):=⟨_,rfl⟩;refine⟨_,_,h _ _ _ he hkd hl,λD hD=>?_⟩;clear h;cbv;refine br hD (λhb=>?_) (λhb=>?_)<;>cbv
 ·have hb:sized=true:=by subst hD;exact hb
  subst hb;refine⟨len,D.b (.a fine),_,_,lf,rfl,rfl,by subst hD;exact R,hsm,λr e hre=>?_⟩;cbv;have hre:(r,e)=if fine then Cs len else (0,6):=by subst hD;exact hre
  have e1:Ki len true fine=(r,e):=by rw[hre];rfl
  rw[e1]at he hl;have he:e'=e:=he;subst he;clear hre e1;refine br hD (λhb=>?_) (λhb=>?_)<;>cbv
  ·have hb:(e' != 0)=true:=by subst hD;exact hb
   have hb:¬e'=0:=by simpa using hb
   rw[if_neg hb]at hkd hl;subst hkd hl;subst hD;exact⟨Dc rfl,Cz (LeH.cons (Ao (.cons (Ak rfl) .nil)) (LeH.cons (Ao (.cons (LeV.refl _) .nil)) (LeH.cons (Ao (.cons (LeV.refl _) .nil)) (LeH.cons (Ao (.cons (LeV.refl _) .nil)) (LeH.cons (Ao (.cons (Ak rfl) .nil)) (LeH.cons (Ao (.cons (Ak rfl) .nil)) λ_ _ _ _ h=>h)))))),Nat.le_refl _⟩
  ·have hb:(e' != 0)=false:=by subst hD;exact hb
   have hb:e'=0:=by simpa using hb
   rw[if_pos hb]at hkd hl;subst hkd hl;subst hD;exact⟨Dc rfl,Cz (LeH.cons (Ao (.cons (Ak rfl) .nil)) (LeH.cons (Ao (.cons (LeV.refl _) .nil)) (LeH.cons (Ao (.cons (LeV.refl _) .nil)) (LeH.cons (Ao (.cons (LeV.refl _) .nil)) (LeH.cons (Ao (.cons (Ak rfl) .nil)) (LeH.cons (Ao (.cons (Ak rfl) .nil)) λ_ _ _ _ h=>h)))))),Nat.le_refl _⟩
 ·have hb:sized=false:=by subst hD;exact hb
  subst hb;have he:e'=0:=he;rw[if_pos he]at hkd hl;have hl:l'=0:=hl;refine br hD (λhb=>?_) (λhb=>?_)<;>cbv
  ·exfalso
   have hb:(e0 != 0)=true:=by subst hD;exact hb
   rw[he0]at hb;cases hb
  clear hb;subst he hkd hl hl0 he0;subst hD;exact⟨Dc rfl,Cz (LeH.cons (Ao (.cons (Ak rfl) .nil)) (LeH.cons (Ao (.cons (LeV.refl _) .nil)) (LeH.cons (Ao (.cons (LeV.refl _) .nil)) (LeH.cons (Ao (.cons (LeV.refl _) .nil)) (LeH.cons (Ao (.cons (Ak rfl) .nil)) (LeH.cons (Ao (.cons (Ak rfl) .nil)) λ_ _ _ _ h=>h)))))),Nat.le_refl _⟩
def spFraming:FSpec:=λ_ xs ls K=>∃(m:List UInt8) (hd:RsH) (mi st:Int) (re:List UInt8) (nl:Bool) (n:Int) (f:Nat->List SV),xs=[.str m,I8 mi st re nl n f]/\ls=[]/\Aez hd mi st n f/\m.length<=9223372036854775807/\
 ∀a b e,(a,b,e)=Ar m hd->K (.tup [.int .i64 (.a a),.int .i64 (.a b),.int .i64 (.a e)]) []
theorem Li{t1 t1' t2 t2' t3 t3':ST}(h1:t1.den=t1'.den)(h2:t2.den=t2'.den)(h3:t3.den=t3'.den):Fin (.tup [.int .i64 t1,.int .i64 t2,.int .i64 t3]) (.tup [.int .i64 t1',.int .i64 t2',.int .i64 t3']) [] [] :=
 D6 (.tup (.cons (Ak h1) (.cons (Ak h2) (.cons (Ak h3) .nil))))
theorem O1:∀(r:List (List UInt8)) (L:List (List UInt8)),Bj r=some L->∀x∈L,x.length<=9223372036854775807
 | [],L,h=>by cases h;intro x hx;cases hx
 |v :: r,L,h=>by
  unfold Bj at h
  split at h
  ·cases hr:Bj r with
   |none=>rw[hr]at h;cases h
   |some L' =>
    rw[hr]at h;simp only[Option.map_some,Option.some.injEq]at h;subst h;intro x hx;rcases List.mem_append.1 hx with hx|hx
    ·obtain⟨y,hy,rfl⟩:=List.mem_map.1 hx
     have:=(Dl v).2 y hy;have h2:(foldF y).length=y.length:=by unfold foldF;simp
     omega
    ·exact O1 r L' hr x hx
  ·cases h
theorem No{l:List HF}{t:List UInt8}(h:A6 l=0)(ht:Bg t=true)(hf:foldF t=t):Cc l t=B5 l t:=by
 unfold Cc Md;simp[h,ht,hf]
structure FrP(l:List HF)(cod len:List (List UInt8))(coded sized good fine:Bool):Prop where
 a1:cod=(Bj (B5 l nTEnc)).getD []
 a2:coded=!(B5 l nTEnc).isEmpty
 a3:good=(Bj (B5 l nTEnc)).isSome
 b1:len=(Bj (B5 l nLen)).getD []
 b2:sized=!(B5 l nLen).isEmpty
 b3:fine=(Bj (B5 l nLen)).isSome
theorem frp2{l:List HF}{cod len:List (List UInt8)}{coded sized good fine:Bool}{mi:Int}(P:FrP l cod len coded sized good fine)(h:coded=true):
  B5 l nTEnc≠[]/\(Mj mi cod coded sized good=true↔(B5 l nLen≠[]\/mi=0\/Bj (B5 l nTEnc)≠some [sChunked])):=by
 have ha:=P.a2;rw[h]at ha;refine⟨λe=>(by rw[e]at ha;cases ha),?_⟩;unfold Mj;rw[h,P.a1,P.a3,P.b2];cases hv:B5 l nLen<;>cases he:Bj (B5 l nTEnc)<;>simp
theorem frp0{l:List HF}{cod len:List (List UInt8)}{coded sized good fine:Bool}(P:FrP l cod len coded sized good fine)(h:coded=false):B5 l nTEnc=[]:=by
 have ha:=P.a2;rw[h]at ha;cases hv:B5 l nTEnc with
 |nil=>rfl
 |cons a b=>rw[hv]at ha;cases ha
theorem frp1{l:List HF}{cod len:List (List UInt8)}{coded sized good fine:Bool}(P:FrP l cod len coded sized good fine)(h:sized=false):B5 l nLen=[]:=by
 have ha:=P.b2;rw[h]at ha;cases hv:B5 l nLen with
 |nil=>rfl
 |cons a b=>rw[hv]at ha;cases ha
theorem frp3{l:List HF}{cod len:List (List UInt8)}{coded sized good fine:Bool}(P:FrP l cod len coded sized good fine)(h:sized=true):
  B5 l nLen≠[]/\(match Bj (B5 l nLen) with
   |none=>((0:Int),(0:Int),(6:Int))
   |some l=>if (Cs l).2=0 then (1,(Cs l).1,0) else (0,0,(Cs l).2))=(if (Ki len sized fine).2=0 then 1 else 0,if (Ki len sized fine).2=0 then (Ki len sized fine).1 else 0,(Ki len sized fine).2):=by
 have ha:=P.b2;rw[h]at ha;refine⟨λe=>(by rw[e]at ha;cases ha),?_⟩;unfold Ki;rw[h,P.b1,P.b3];cases he:Bj (B5 l nLen) with
 |none=>rfl
 |some L =>
  simp only[Option.getD_some,Option.isSome_some,if_true]
  by_cases g:(Cs L).2=0
  ·rw[if_pos g,if_pos g,if_pos g,g]
  ·rw[if_neg g,if_neg g,if_neg g]
theorem J6:Ay Tryz.prog gl 19 spFraming:=by
 refine Bq (gh:=[(999984,[]),(999986,[.freeze 4])]) mixed C6 (Ab Iz (Ab Ai4 (Ab Sk (Bm fr1_ok (Bm fr2_ok (Bm fr3_ok Ai)))))) Tryz.func19 (by kernel_rfl) (by kernel_rfl) ?_;intro xs ls K h;unfold spFraming at h;obtain⟨m,hd,mi,st,re,nl,n,f,rfl,rfl,V,hm,h⟩:=h;obtain⟨k,hk⟩:∃k,k=Ar m hd:=⟨_,rfl⟩;obtain⟨ra,rb,rc⟩:=k;have h:=h ra rb rc hk;refine⟨_,_,h,λD hD=>?_⟩;clear h;unfold I8;cbv;refine⟨m,rfl,rfl,hm,λtk htk=>?_⟩;cbv;unfold Ar at hk;rw[<-htk]at hk;refine br hD (λhb=>?_) (λhb=>?_)<;>cbv
 ·have hb:(!tk)=true:=by subst hD;exact hb
  rw[if_pos hb]at hk;simp only[Prod.mk.injEq]at hk;obtain⟨rfl,rfl,rfl⟩:=hk;subst hD;exact Li rfl rfl rfl
 have hb:(!tk)=false:=by subst hD;exact hb
 rw[if_neg (by rw[hb];decide)]at hk;clear hb;refine⟨hd,D.i (.a mi),D.i (.a st),re,D.b (.a nl),D.i (.a n),f,rfl,rfl,by subst hD;exact V,λe he=>?_⟩;cbv;rw[<-he]at hk;refine br hD (λhb=>?_) (λhb=>?_)<;>cbv
 ·have hb:(e != 0)=true:=by subst hD;exact hb
  rw[if_pos (by simpa using hb)]at hk;simp only[Prod.mk.injEq]at hk;obtain⟨rfl,rfl,rfl⟩:=hk;subst hD;exact Li rfl rfl rfl
 have hb:(e != 0)=false:=by subst hD;exact hb
 have e0:e=0:=by simpa using hb
 rw[if_neg (by simpa using e0)]at hk;have hc0:A6 hd.fields=0:=by
  rw[e0]at he;unfold Gj at he
  split at he
  ·cases he
  ·exact he.symm
 clear hb he;refine⟨hd.fields,_,_,f,nTEnc,rfl,rfl,by subst hD;exact V.row,by decide,λcod coded good cf cn cb hv1 G1=>?_⟩;cbv;refine⟨hd.fields,_,_,f,nLen,rfl,rfl,by subst hD;exact V.row,by decide,λlen sized fine lf ln lb hv2 G2=>?_⟩;cbv;have hT:Cc hd.fields nTEnc=B5 hd.fields nTEnc:=No hc0 (by decide +kernel) (by decide +kernel);have hL:Cc hd.fields nLen=B5 hd.fields nLen:=No hc0 (by decide +kernel) (by decide +kernel);have P:FrP hd.fields cod len coded sized good fine:=by
  obtain⟨p1,p2,p3⟩:=hv1;obtain⟨q1,q2,q3⟩:=hv2;rw[hT]at p1 p2 p3;rw[hL]at q1 q2 q3;exact⟨p1,p2,p3,q1,q2,q3⟩
 clear hv1 hv2 hT hL;have hst:st=hd.status:=V.est;have hmi:mi=hd.minor:=V.emi;rw[<-hst,<-hmi]at hk;clear hst hmi hc0;refine⟨m,D.i (.a mi),D.i (.a st),re,D.b (.a nl),D.i (.a n),f,rfl,rfl,λx1 hx1=>?_⟩;cbv;have hx1:x1=Pq m st:=by subst hD;exact hx1
 rw[<-hx1]at hk;refine br hD (λhb=>?_) (λhb=>?_)<;>cbv
 ·have hb:x1=true:=by subst hD;exact hb
  rw[if_pos hb]at hk;simp only[Prod.mk.injEq]at hk;obtain⟨rfl,rfl,rfl⟩:=hk;subst hD;exact Li rfl rfl rfl
 have hb:x1=false:=by subst hD;exact hb
 rw[if_neg (by rw[hb];decide)]at hk;clear hb hx1;refine⟨_,D.b (.a coded),D.b (.a sized),D.b (.a good),_,_,re,_,_,f,cod,_,_,cf,_,rfl,rfl,by subst hD;exact G1.row,λkd2 e2 hkd2 he2=>?_⟩;cbv;have hkd3:kd2=if Mj mi cod coded sized good then 0 else 2:=by subst hD;exact hkd2
 have he3:e2=if Mj mi cod coded sized good then 6 else 0:=by subst hD;exact he2
 clear hkd2 he2;refine br hD (λhb=>?_) (λhb=>?_)<;>cbv
 ·have hb:coded=true:=by subst hD;exact hb
  obtain⟨p1,p2⟩:=frp2 (mi:=mi) P hb;rw[if_pos p1]at hk
  by_cases hr:Mj mi cod coded sized good=true
  ·rw[if_pos (p2.1 hr)]at hk
   rw[if_pos hr]at hkd3 he3;simp only[Prod.mk.injEq]at hk;obtain⟨rfl,rfl,rfl⟩:=hk;subst hD;exact Li hkd3 rfl he3
  ·rw[if_neg (λh=>hr (p2.2 h))]at hk
   rw[if_neg hr]at hkd3 he3;simp only[Prod.mk.injEq]at hk;obtain⟨rfl,rfl,rfl⟩:=hk;subst hD;exact Li hkd3 rfl he3
 have hb:coded=false:=by subst hD;exact hb
 have hr:Mj mi cod coded sized good=false:=by rw[hb];rfl
 rw[hr,if_neg (by decide)]at he3;rw[if_neg (by rw[frp0 P hb];simp)]at hk;clear hkd3 hr;have hls:∀x∈len,x.length<=9223372036854775807:=by
  rw[P.b1];cases hl:Bj (B5 hd.fields nLen) with
  |none=>intro x hx;cases hx
  |some L=>exact O1 _ L hl
 refine⟨_,_,_,_,_,len,_,_,lf,rfl,rfl,by subst hD;rfl,by subst hD;exact he3,by subst hD;exact G2.row,hls,λkd4 l4 e4 he4 hkd4 hl4=>?_⟩;cbv;have he5:e4=(Ki len sized fine).2:=by subst hD;exact he4
 have hl5:l4=if e4=0 then (Ki len sized fine).1 else 0:=by subst hD;exact hl4
 clear he4 hl4;refine br hD (λhb=>?_) (λhb=>?_)<;>cbv
 ·have hb:sized=true:=by subst hD;exact hb
  obtain⟨p1,p2⟩:=frp3 P hb;rw[if_pos p1]at hk;have hk:=hk.trans p2;rw[<-he5,<-hl5,<-hkd4]at hk;simp only[Prod.mk.injEq]at hk;obtain⟨rfl,rfl,rfl⟩:=hk;subst hD;exact Li rfl rfl rfl
 ·have hb:sized=false:=by subst hD;exact hb
  rw[if_neg (by rw[frp1 P hb];simp)]at hk;simp only[Prod.mk.injEq]at hk;obtain⟨rfl,rfl,rfl⟩:=hk;subst hD;exact Li rfl rfl rfl
def Zp(ph lf tl:Int)(ln dt:List UInt8):Bool:=((((ph==0)&&(ln==[]))&&(dt==[]))&&(lf==0))&&(tl==0)
def spZero:FSpec:=λ_ xs ls K=>∃(ph lf:Int) (ln dt:List UInt8) (tn:Bool) (tl:Int) (tf:Nat->List SV),xs=[chA ph lf ln dt tn tl tf]/\ls=[]/\∀r,r=Zp ph lf tl ln dt->K (.bool (.a r)) []
theorem zero_ok:Ay Tryz.prog gl 133 spZero:=by
 refine Bq (gh:=[]) mixed C6 Ai Tryz.func133 (by kernel_rfl) (by kernel_rfl) ?_;intro xs ls K h;unfold spZero at h;obtain⟨ph,lf,ln,dt,tn,tl,tf,rfl,rfl,h⟩:=h;obtain⟨k,hk⟩:∃k,k=Zp ph lf tl ln dt:=⟨_,rfl⟩;refine⟨_,_,h k hk,λD hD=>?_⟩;clear h;unfold chA;cbv;exact Aw hD (by rw[hk];rfl)
theorem Ae5{s:Ch}{ph lf tl:Int}{tf:Nat->List SV}(h:s=ch0)(V:ChV s ph lf tl tf):Zp ph lf tl s.line s.data=true:=by
 subst h;have h1:ph=0:=V.eph;have h2:lf=0:=V.elf;have h3:tl=0:=V.tr.n;rw[h1,h2,h3];rfl
def rsA(x:RsC):SV:=.agg [.str x.m,.int .i64 (.a x.ph),.int .i64 (.a x.inf),.str x.ln,.int .i64 (.a x.mi),.int .i64 (.a x.st),.str x.re,.sl (.a x.fb) (.a x.fl) 2 x.ff,.int .i64 (.a x.fr),.str x.bo,.int .i64 (.a x.lf),
  .int .i64 (.a x.cp),.str x.cl,.str x.cd,.int .i64 (.a x.cf),.sl (.a x.cb) (.a x.ct) 2 x.ctf]
structure RsV(s:Rs)(x:RsC):Prop where
 m:x.m=s.method
 ph:x.ph=s.phase
 inf:x.inf=s.infos
 ln:x.ln=s.line
 mi:x.mi=s.head.minor
 st:x.st=s.head.status
 re:x.re=s.head.reason
 fl:Bu x.ff x.fl s.head.fields
 fr:x.fr=s.framing
 bo:x.bo=s.body
 lf:x.lf=s.left
 cl:x.cl=s.chunks.line
 cd:x.cd=s.chunks.data
 cv:ChV s.chunks x.cp x.cf x.ct x.ctf
def Vn(m:List UInt8):RsC:=⟨m,0,0,[],0,0,[],true,0,λ_=>[],0,[],0,0,[],[],0,true,0,λ_=>[]⟩
def spStart:FSpec:=λ_ xs ls K=>∃(m:List UInt8),xs=[.str m]/\ls=[]/\m.length<=9223372036854775807/\
 ∀y e,y=(if Bg m then Vn m else Vn [])->e=(if Bg m then 0 else 2)->K (.tup [rsA y,.int .i64 (.a e)]) []
theorem Ajv:Ay Tryz.prog gl 22 spStart:=by
 refine Bq (gh:=[]) mixed C6 (Ab Iz Ai) Tryz.func22 (by kernel_rfl) (by kernel_rfl) ?_;intro xs ls K h;unfold spStart at h;obtain⟨m,rfl,rfl,hm,h⟩:=h;obtain⟨tk,htk⟩:∃tk,tk=Bg m:=⟨_,rfl⟩;obtain⟨y,hy⟩:∃y,y=(if tk then Vn m else Vn []):=⟨_,rfl⟩;obtain⟨e,he⟩:∃e:Int,e=(if tk then 0 else 2):=⟨_,rfl⟩;have h:=h y e (by rw[<-htk];exact hy) (by rw[<-htk];exact he);refine⟨_,_,h,λD hD=>?_⟩;clear h;cbv;refine⟨m,rfl,rfl,hm,λx hx=>?_⟩;cbv;obtain rfl:x=tk:=hx.trans htk.symm;refine br hD (λhb=>?_) (λhb=>?_)<;>cbv
 ·have hb:(!x)=true:=by subst hD;exact hb
  rw[if_neg (by simpa using hb)]at hy he;subst hy he;subst hD;exact D6 (.tup (.cons (LeV.refl _) (.cons (Ak rfl) .nil)))
 ·have hb:(!x)=false:=by subst hD;exact hb
  rw[if_pos (by simpa using hb)]at hy he;subst hy he;subst hD;exact D6 (.tup (.cons (LeV.refl _) (.cons (Ak rfl) .nil)))
theorem Afm(m:List UInt8):RsV (rs0 m) (Vn m):=⟨rfl,rfl,rfl,rfl,rfl,rfl,rfl,Sc,rfl,rfl,rfl,rfl,rfl,⟨rfl,rfl,Sc⟩⟩
theorem Aat{l:List HF}(h:A6 l=0):Ih l:=⟨λx hx=>Ae7 (((Hy l).1 h).2.1 x hx).name⟩
def spChCheck:FSpec:=λ_ xs ls K=>∃(s:Ch) (ln dt:List UInt8) (ph lf:Int) (tn:Bool) (tl:Int) (tf:Nat->List SV),xs=[chA ph lf ln dt tn tl tf]/\ls=[]/\ln=s.line/\dt=s.data/\ChV s ph lf tl tf/\Ix s/\
 K (.int .i64 (.a 0)) []
theorem Aeq:Ay Tryz.prog gl 134 spChCheck:=by
 refine Bq (gh:=[]) mixed C6 (Bm Afy Ai) Tryz.func134 (by kernel_rfl) (by kernel_rfl) ?_;intro xs ls K h;unfold spChCheck at h;obtain⟨s,ln,dt,ph,lf,tn,tl,tf,rfl,rfl,hln,hdt,V,O,h⟩:=h;refine⟨_,_,h,λD hD=>?_⟩;clear h;unfold chA;cbv;refine⟨s,ln,dt,D.i (.a ph),D.i (.a lf),D.b (.a tn),D.i (.a tl),tf,rfl,rfl,hln,hdt,by subst hD;exact V.eph,by subst hD;exact V.elf,by subst hD;exact V.tr,O,λh4=>Aat (O.p4 h4).2.1,λph2 dl df nl nf fo sz nn g hR hnn hg=>?_⟩;cbv;exact Be hD rfl
set_option maxHeartbeats 12000000
theorem Gg{b:List UInt8}(h:(An b).2.2=10):b.length<=8500:=by
 by_cases g:Lib.indexByte (b.take 302) 10<0
 ·rw[Pi g]at h
  by_cases k:302<=b.length
  ·rw[if_pos k]at h;cases h
  ·omega
 ·obtain⟨p,hp⟩:∃p:Nat,Lib.indexByte (b.take 302) 10=(p:Int):=⟨(Lib.indexByte (b.take 302) 10).toNat,by omega⟩
  obtain⟨h1,h2,h3⟩:=Tb hp;rw[h3]at h;unfold Xb at h
  split at h
  ·cases h
  split at h
  ·have:=(Hr (b:=b.drop (p+1)) h).1
   rw[List.length_drop]at this;omega
  ·cases h
theorem L7(s:List UInt8):A7 (byteRow s) s.length s:=⟨rfl,λ_i _=>rfl⟩
def spValid:FSpec:=λ_ xs ls K=>∃(s:Rs) (x:RsC),xs=[rsA x]/\ls=[]/\RsV s x/\Du s/\s.method.length<=9223372036854775807/\K (.bool (.a true)) []
theorem Sl:Ay Tryz.prog gl 75 spValid:=by
 refine Bq (gh:=[]) mixed C6 (Ab Iz (Ab Yv (Ab zero_ok (Ab Ae8 (Ab J6 (Ab Aeq Ai)))))) Tryz.func75 (by kernel_rfl) (by kernel_rfl) ?_;intro xs ls K h;unfold spValid at h;obtain⟨s,x,rfl,rfl,V,O,hm,h⟩:=h;refine⟨_,_,h,λD hD=>?_⟩;clear h;obtain⟨m,ph,inf,ln,mi,st,re,fb,fl,ff,fr,bo,lf,cp,cl,cd,cf,cb,ct,ctf⟩:=x;unfold rsA;cbv;have hmm:m=s.method:=V.m;refine⟨m,rfl,rfl,by rw[hmm];exact hm,λtk htk=>?_⟩;cbv;have hinf:inf=s.infos:=V.inf;have htk1:tk=true:=by rw[htk,hmm];exact O.tok
 subst htk1;clear htk;refine br hD (λhb=>?_) (λhb=>?_)<;>cbv
 ·exfalso
  have hb:((!true||decide (inf<0))||decide (10<inf))=true:=by subst hD;exact hb
  have h0:=O.i0;have h1:=O.i1;simp only[Bool.not_true,Bool.false_or,Bool.or_eq_true,decide_eq_true_eq]at hb;omega
 clear hb;have hph:ph=s.phase:=V.ph;refine br hD (λhb=>?_) (λhb=>?_)<;>cbv
 ·have hb:(ph==0)=true:=by subst hD;exact hb
  have p0:s.phase=0:=by rw[<-hph];exact eq_of_beq hb
  clear hb;obtain⟨q1,q2,q3,q4,q5,q6⟩:=O.p0 p0;have hln:ln=s.line:=V.ln;rw[<-hln]at q1;have hll:=Gg q1;have HLN:LeN ln.length 8500:=⟨hll⟩;clear hll;refine⟨⟨by have:=HLN.h;omega⟩,λg hg=>?_⟩;cbv;have hg0:g=byteRow ln:=hg.h;obtain⟨N,VN⟩:∃N:Int,VI N ln.length:=⟨_,⟨rfl⟩⟩;have R:A7 g N ln:=by rw[hg0];exact⟨VN.h,λi _=>rfl⟩
  clear hg hg0;refine⟨ln,_,_,g,rfl,rfl,by subst hD;exact⟨rfl,R.f⟩,by have:=HLN.h;omega,λhd u e mi2 st2 re2 f1 n1 b1 hh HV=>?_⟩;cbv;have he:e=10:=by
   have:e=(An ln).2.2:=by rw[<-hh]
   rw[this];exact q1
  have hmi:mi=0:=by have:=V.mi;rw[q2]at this;exact this
  have hst:st=0:=by have:=V.st;rw[q2]at this;exact this
  have hre:re=[]:=by have:=V.re;rw[q2]at this;exact this
  have hfl:fl=0:=by have:=V.fl.n;rw[q2]at this;exact this
  have hfr:fr=0:=V.fr.trans q3;have hbo:bo=[]:=V.bo.trans q4;have hlf:lf=0:=V.lf.trans q5;have hz:Zp cp cf ct cl cd=true:=by
   have h1:cl=s.chunks.line:=V.cl;have h2:cd=s.chunks.data:=V.cd;rw[h1,h2];exact Ae5 q6 V.cv
  clear hh HV q1 q2 q3 q4 q5 q6;refine⟨D.i (.a cp),D.i (.a cf),cl,cd,D.b (.a cb),D.i (.a ct),ctf,rfl,rfl,λz hz2=>?_⟩;cbv;have hz2:z=true:=by subst hD;exact hz2.trans hz
  refine Aw hD ?_;subst he hmi hst hre hfl hfr hbo hlf hz2;rfl
 ·have hb:(ph==0)=false:=by subst hD;exact hb
  have p0:s.phase≠0:=by rw[<-hph];simpa using hb
  clear hb;obtain⟨q1,q2,q3,q4,q5,q6,q7,q8⟩:=O.p1 p0;have hre:re=s.head.reason:=V.re;have hst:st=s.head.status:=V.st;have hln:ln=[]:=V.ln.trans q1;have HRE:LeN re.length 287:=⟨by rw[hre];exact q4⟩;have hph12:ph=1\/ph=2:=by rw[hph];have:=O.ph;omega
  refine⟨re,rfl,rfl,λpl hpl=>?_⟩;cbv;have hpl1:pl=true:=by rw[hpl,hre];exact q3
  subst hpl1;clear hpl;refine br hD (λhb=>?_) (λhb=>?_)<;>cbv
  ·exfalso
   have hb:((((((ph != 1)&&(ph != 2))||(ln != []))||decide (st<200))||!true)||decide (287<(re.length:Int)))=true:=by subst hD;exact hb
   have h1:((ph != 1)&&(ph != 2))=false:=by rcases hph12 with e|e<;>rw[e]<;>rfl
   have h2:decide (st<200)=false:=by rw[decide_eq_false_iff_not,hst];omega
   have h3:decide (287<(re.length:Int))=false:=by rw[decide_eq_false_iff_not];have:=HRE.h;omega
   rw[h1,h2,h3,hln]at hb;cases hb
  clear hb;refine⟨m,s.head,D.i (.a mi),D.i (.a st),re,D.b (.a fb),D.i (.a fl),ff,rfl,rfl,by subst hD;exact⟨V.mi,V.st,V.fl⟩,by rw[hmm];exact hm,λkd le e hf=>?_⟩;cbv;rw[hmm]at hf;have he:e=0:=by
   have:e=(Ar s.method s.head).2.2:=by rw[<-hf]
   rw[this];exact q5
  have hkd:kd=fr:=by
   have h1:kd=(Ar s.method s.head).1:=by rw[<-hf]
   have h2:fr=s.framing:=V.fr;rw[h1,h2];exact q6
  have hle:le=(Ar s.method s.head).2.1:=by rw[<-hf]
  clear hf q5 q6;have hfr:fr=s.framing:=V.fr;have hlf:lf=s.left:=V.lf;have hcl:cl=s.chunks.line:=V.cl;have hcd:cd=s.chunks.data:=V.cd;refine⟨D.i (.a cp),D.i (.a cf),cl,cd,D.b (.a cb),D.i (.a ct),ctf,rfl,rfl,λz hz2=>?_⟩;cbv;have hz:fr≠2->z=true:=λh=>by
   have:Zp cp cf ct cl cd=true:=by
    rw[hcl,hcd];exact Ae5 (q7 (by rw[<-hfr];exact h)) V.cv
   subst hD;exact hz2.trans this
  have hlf0:fr≠1->lf=0:=λh=>by rw[hlf];exact q8 (by rw[<-hfr];exact h)
  clear hz2 q7 q8;obtain rfl:kd=fr:=hkd;refine br hD (λhb=>?_) (λhb=>?_)<;>cbv
  ·exfalso
   have hb:((((e != 0)||(kd != kd))||((kd != 2)&&!z))||((kd != 1)&&(lf != 0)))=true:=by subst hD;exact hb
   have h1:(e != 0)=false:=by rw[he];rfl
   have h2:(kd != kd)=false:=by simp
   have h3:((kd != 2)&&!z)=false:=by
    by_cases g:kd=2
    ·rw[g];rfl
    ·rw[hz g];simp
   have h4:((kd != 1)&&(lf != 0))=false:=by
    by_cases g:kd=1
    ·rw[g];rfl
    ·rw[hlf0 g];simp
   rw[h1,h2,h3,h4]at hb;cases hb
  clear hb;refine br hD (λhb=>?_) (λhb=>?_)<;>cbv
  ·have hb:(kd==0)=true:=by subst hD;exact hb
   have hk:s.framing=0:=by rw[<-hfr];exact eq_of_beq hb
   obtain⟨f1,f2⟩:=O.f0 p0 hk;refine Aw hD ?_;have e1:ph=2:=hph.trans f1;have e2:bo=[]:=V.bo.trans f2;rw[e1,e2];rfl
  have hb0:(kd==0)=false:=by subst hD;exact hb
  clear hb;refine br hD (λhb=>?_) (λhb=>?_)<;>cbv
  ·have hb:(kd==1)=true:=by subst hD;exact hb
   have hk:s.framing=1:=by rw[<-hfr];exact eq_of_beq hb
   obtain⟨f1,f2,f3,f4⟩:=O.f1 p0 hk;refine Aw hD ?_;rw[<-hlf,<-hle]at f2 f3;rw[<-hlf]at f1 f4;have hbo:(bo.length:Int)=s.body.length:=by have:bo=s.body:=V.bo;rw[this]
   have hw:IntKind.i64.wrap (le-lf)=le-lf:=by
    have h1:=J7 s.method s.head;rw[<-hle]at h1;exact A4 (by omega) (by omega)
   show ((decide (0<=lf)&&decide (lf<=le))&&((bo.length:Int)==IntKind.i64.wrap (le-lf))&&((ph==2)==(lf==0)))=true;rw[hw,Bool.and_eq_true,Bool.and_eq_true,Bool.and_eq_true,decide_eq_true_eq,decide_eq_true_eq,beq_iff_eq,beq_iff_eq];refine⟨⟨⟨f1,f2⟩,by omega⟩,?_⟩;rw[Bool.eq_iff_iff,beq_iff_eq,beq_iff_eq,hph];exact f4
  have hb1:(kd==1)=false:=by subst hD;exact hb
  clear hb;refine br hD (λhb=>?_) (λhb=>?_)<;>cbv
  ·have hb:(kd==2)=true:=by subst hD;exact hb
   have hk:s.framing=2:=by rw[<-hfr];exact eq_of_beq hb
   obtain⟨f1,f2,f3⟩:=O.f2 p0 hk;refine⟨s.chunks,cl,cd,D.i (.a cp),D.i (.a cf),D.b (.a cb),D.i (.a ct),ctf,rfl,rfl,hcl,hcd,by subst hD;exact V.cv,f2,?_⟩;cbv;refine Aw hD ?_;have e2:bo=[]:=V.bo.trans f1;have e3:((ph==2)==(cp==4))=true:=by
    have h4:cp=s.chunks.phase:=V.cv.eph;rw[beq_iff_eq,Bool.eq_iff_iff,beq_iff_eq,beq_iff_eq,hph,h4];exact f3
   show (((bo==[])&&((0:Int)==0))&&((ph==2)==(cp==4)))=true;rw[e3,e2];rfl
  ·have hb:(kd==2)=false:=by subst hD;exact hb
   have hk:s.framing=3:=by
    have h1:=Mn s.method s.head;have h2:kd=(Ar s.method s.head).1:=hfr.trans (O.p1 p0).2.2.2.2.2.1.symm;rw[<-h2]at h1;rw[<-hfr];simp only[beq_eq_false_iff_ne]at hb hb0 hb1;omega
   have f1:=O.f3 p0 hk;refine Aw hD ?_;have hbo:bo.length=s.body.length:=by have:bo=s.body:=V.bo;rw[this]
   show decide ((bo.length:Int)<=65536)=true;rw[decide_eq_true_eq];omega
end Go.Proofs.YtdoogdbjiijifaaGreatDoor
