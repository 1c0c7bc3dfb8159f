/- Part of the proofs of the statements about responses and messages (layers 9 and 10): a symbolic executor over the code, that it is sound, and contracts of functions; it has no conditions of its own. -/
import Derived.Test.YtdoogdbjiijifaaGreatDoorE3Pax
namespace Go.Proofs.YtdoogdbjiijifaaGreatDoor
open Go.Sx
set_option maxRecDepth 10000
set_option maxHeartbeats 2000000
def Ct(p:Int->Bool)(y:Int):List UInt8->Nat->List UInt8->Option (List (List UInt8))
 | [],md,cur=>if md=0 then some [cur] else none
 |c :: r,md,cur =>
  if !p (c.toNat:Int) then none
  else if md=0 then
   (if (c.toNat:Int)=34 then Ct p y r 1 (cur++[c])
    else if (c.toNat:Int)=y then (Ct p y r 0 []).map (cur :: ·)
    else Ct p y r 0 (cur++[c]))
  else if md=1 then
   (if (c.toNat:Int)=34 then Ct p y r 0 (cur++[c])
    else if (c.toNat:Int)=92 then Ct p y r 2 (cur++[c])
    else Ct p y r 1 (cur++[c]))
  else Ct p y r 1 (cur++[c])
theorem Tn(p:Int->Bool)(y:Int):∀(n:Nat) (r cur:List UInt8),r.length<=n->Ct p y r 1 cur=match qdF p r with
  |none=>none
  |some x=>Ct p y (r.drop x.1) 0 (cur++r.take x.1)
 |n,[],cur,_=>by simp[Ct,qdF]
 |0,c :: r,cur,h=>by simp at h
 |n+1,c :: r,cur,h=>by
  simp only[List.length_cons]at h;rw[Ei];simp only[Ct]
  by_cases h1:p (c.toNat:Int)=true
  ·rw[h1]
   simp only[Bool.not_true,Bool.false_eq_true,if_false,if_true,Nat.one_ne_zero]
   by_cases h2:(c.toNat:Int)=34
   ·simp only[if_pos h2,List.drop_succ_cons,List.drop_zero,List.take_succ_cons,List.take_zero]
   ·simp only[if_neg h2]
    by_cases h3:(c.toNat:Int)=92
    ·simp only[if_pos h3]
     cases r with
     |nil=>simp[Ct]
     |cons d r' =>
      simp only[Ct]
      by_cases h4:p (d.toNat:Int)=true
      ·rw[h4]
       simp only[Bool.not_true,Bool.false_eq_true,if_false,(by decide:¬(2:Nat)=0),(by decide:¬(2:Nat)=1)];rw[Tn p y n r' _ (by simp at h;omega)];cases qdF p r' with
       |none=>rfl
       |some x=>simp
      ·have h4:p (d.toNat:Int)=false:=by simpa using h4
       rw[h4];simp
    ·simp only[if_neg h3]
     rw[Tn p y n r _ (by omega)];cases qdF p r with
     |none=>rfl
     |some x=>simp
  ·have h1:p (c.toNat:Int)=false:=by simpa using h1
   rw[h1];simp
def cut(s:List UInt8)(a b:Nat):List UInt8:=(s.drop a).take (b-a)
theorem Ab8{s:List UInt8}{a i:Nat}(h:i<s.length)(ha:a<=i):cut s a i++[s.getD i 0]=cut s a (i+1):=by
 unfold cut;rw[show i+1-a=(i-a)+1 by omega,List.take_add_one];congr 1;rw[List.getElem?_drop,show a+(i-a)=i by omega,List.getElem?_eq_getElem h,Ib h];rfl
theorem cut_app{s:List UInt8}{a i n:Nat}(ha:a<=i):cut s a i++(s.drop i).take n=cut s a (i+n):=by
 unfold cut;rw[show i+n-a=(i-a)+n by omega,List.take_add,List.drop_drop,show a+(i-a)=i by omega]
theorem U0{s:List UInt8}{a:Nat}:cut s a a=[]:=by simp[cut]
theorem cut_all{s:List UInt8}{a:Nat}:cut s a s.length=s.drop a:=by
 unfold cut;exact List.take_of_length_le (by simp)
def pAt(y:Int)(s:List UInt8)(out:List (List UInt8))(a i:Nat):Option (List (List UInt8)):=(Ct Bb y (s.drop i) 0 (cut s a i)).map (out++·)
theorem Afx{y:Int}{s:List UInt8}{out:List (List UInt8)}{a i:Nat}(h:i<s.length)(hb:Bb (charI s i)=false):pAt y s out a i=none:=by
 unfold charI at hb;rw[pAt,Bn h,Ct,hb];rfl
theorem Afv{y:Int}{s:List UInt8}{out:List (List UInt8)}{a i:Nat}(h:i<s.length)(hb:Bb (charI s i)=true)(h34:charI s i≠34)(hy:charI s i=y):pAt y s out a i=pAt y s (out++[cut s a i]) (i+1) (i+1):=by
 unfold charI at hb h34 hy;rw[pAt,pAt,Bn h,Ct,hb,U0];simp only[Bool.not_true,Bool.false_eq_true,if_false,if_true,if_neg h34,if_pos hy];cases Ct Bb y (s.drop (i+1)) 0 []<;>simp
theorem Aak{y:Int}{s:List UInt8}{out:List (List UInt8)}{a i:Nat}(h:i<s.length)(ha:a<=i)(hb:Bb (charI s i)=true)(h34:charI s i≠34)(hy:charI s i≠y):pAt y s out a i=pAt y s out a (i+1):=by
 have e:=Ab8 h ha;unfold charI at hb h34 hy;rw[pAt,pAt,Bn h,Ct,hb];simp only[Bool.not_true,Bool.false_eq_true,if_false,if_true,if_neg h34,if_neg hy];rw[e]
theorem Wv{y:Int}{s:List UInt8}{out:List (List UInt8)}{a i:Nat}(h:i<s.length)(ha:a<=i)(hb:Bb (charI s i)=true)(h34:charI s i=34):pAt y s out a i=match qdF Bb (s.drop (i+1)) with
  |none=>none
  |some x=>pAt y s out a (i+1+x.1):=by
 have e:=Ab8 h ha;unfold charI at hb h34;rw[pAt,Bn h,Ct,hb];simp only[Bool.not_true,Bool.false_eq_true,if_false,if_true,if_pos h34];rw[e,Tn Bb y _ _ _ (Nat.le_refl _)];cases qdF Bb (s.drop (i+1)) with
 |none=>rfl
 |some x =>
  simp only[pAt];rw[List.drop_drop,cut_app (by omega)]
theorem Afw{y:Int}{s:List UInt8}{out:List (List UInt8)}{a i:Nat}(h:i=s.length):pAt y s out a i=some (out++[s.drop a]):=by
 rw[pAt,h,List.drop_length,cut_all];rfl
theorem L1{p:Int->Bool}:∀(n:Nat) (r:List UInt8) (x:Nat×List UInt8),r.length<=n->qdF p r=some x->0<x.1/\x.1<=r.length
 |n,[],x,_,h=>by simp[qdF]at h
 |0,c :: r,x,hl,h=>by simp at hl
 |n+1,c :: r,x,hl,h=>by
  simp only[List.length_cons]at hl ⊢;rw[Ei]at h
  split at h
  ·cases h
  split at h
  ·cases h;exact⟨by omega,by simp⟩
  split at h
  ·cases r with
   |nil=>cases h
   |cons d r' =>
    simp only at h
    split at h
    ·cases h
    ·obtain⟨z,hz,rfl⟩:=Option.map_eq_some_iff.1 h
     have:=L1 n r' z (by simp at hl;omega) hz;simp only[List.length_cons];omega
  ·obtain⟨z,hz,rfl⟩:=Option.map_eq_some_iff.1 h
   have:=L1 n r z (by omega) hz;omega
theorem Bl.more{f f' g:Nat->List SV}{n n':Int}{a:List (List UInt8)}{x:List UInt8}(R:Bl f n a)(hg:g 0=[.str x])(h:G8 f' n' n 1 f g)(hl:a.length<9223372036854775807):Bl f' n' (a++[x]):=by
 have h1:=R.n;refine⟨by rw[h.len,h1];simp,λi hi=>?_,by simp;omega⟩;simp only[List.length_append,List.length_singleton]at hi
 by_cases e:i<a.length
 ·rw[h.lo i (by omega),R.f i e,List.getD_eq_getElem?_getD,List.getD_eq_getElem?_getD,List.getElem?_append_left e]
 ·have:i=a.length:=by omega
  subst this;rw[h.hi a.length 0 (by rw[h1];simp) (by simp),hg];simp
theorem Bl.nil:Bl (λ_=>[]) 0 []:=⟨rfl,by simp,by simp⟩
def Cj(l:List (List UInt8))(i:Nat):List SV:=[.str (l.getD i [])]
theorem Bl.row{l:List (List UInt8)}(h:l.length<=9223372036854775807):Bl (Cj l) l.length l:=⟨rfl,λ_ _=>rfl,h⟩
structure PaI(s:List UInt8)(out:List (List UInt8))(a i:Nat)(A I:Int)(m:Nat):Prop where
 at_:At s i I m
 ale:a<=i
 A:ST.den (.a A)=(a:Int)
 out:out.length<=i
 s:s.length<=100000
def paJ(s:List UInt8)(y:Int)(k:Option (List (List UInt8)))(m:Nat)(vs:List (Option SV))(hp:List Hl):Prop :=
 ∃(i a:Nat) (I A n:Int) (nl:Bool) (f:Nat->List SV) (out:List (List UInt8)),vs=[some (.str s),some (.int .u8 (.a y)),some (.gsl (.a nl) (.a n) 1 f 0),some (.int .i64 (.a A)),some (.int .i64 (.a I))]/\hp=[.tail 9 (.a n) 1]/\
  PaI s out a i A I m/\Bl f n out/\k=pAt y s out a i
def Hm(y:Int)(s:List UInt8):Option (List (List UInt8)):=Ct Bb y s 0 []
def Afd(F:Int->List UInt8->Option (List (List UInt8))):FSpec:=λ_ xs ls K=>∃(s:List UInt8) (y:Int),xs=[.str s,.int .u8 (.a y)]/\ls=[]/\s.length<=100000/\∀(k:Option (List (List UInt8))) (n:Int) (b nb:Bool),k=F y s->n=((k.getD []).length:Int)->b=k.isSome->nb=k.isNone->K (.tup [.sl (.a nb) (.a n) 1 (Cj (k.getD [])),.bool (.a b)]) []
theorem Xk{D:Dn}(hD:D=dn){k:Option (List (List UInt8))}{kn:Int}{kb knb:Bool}{kr g:Nat->List SV}(hk:k=none)(hkn:kn=((k.getD []).length:Int))(hkb:kb=k.isSome)(hknb:knb=k.isNone)(_hkr:kr=Cj (k.getD [])):
  Fin (.tup [.sl (.a (D.b (.l true))) (.a (D.i (.l 0))) 1 g,.bool (.a (D.b (.l false)))]) (.tup [.sl (.a knb) (.a kn) 1 kr,.bool (.a kb)]) [] []:=by
 subst hD hk;refine D6 (.tup (.cons (.sl ?_ ?_ ?_) (.cons (Dc ?_) .nil)))
 ·rw[hknb];rfl
 ·rw[hkn];rfl
 ·intro i hi
  have hi:(i:Int)<0:=hi;omega
 ·rw[hkb];rfl
theorem Aiv{D:Dn}(hD:D=dn){k:Option (List (List UInt8))}{l:List (List UInt8)}{kn:Int}{kb knb:Bool}{kr f:Nat->List SV}(hk:k=some l)(hkn:kn=((k.getD []).length:Int))(hkb:kb=k.isSome)(hknb:knb=k.isNone)(hkr:kr=Cj (k.getD []))
  {n:Int} (R:Bl f n l) {x:BT} {y:ST} (hy:y.den=n) (hx:x.den=false):Fin (.tup [.sl (.a (D.b x)) (.a (D.i y)) 1 f,.bool (.a (D.b (.l true)))]) (.tup [.sl (.a knb) (.a kn) 1 kr,.bool (.a kb)]) [] []:=by
 subst hD hk;refine D6 (.tup (.cons (.sl ?_ ?_ ?_) (.cons (Dc ?_) .nil)))
 ·rw[hknb];exact hx
 ·rw[hkn];show y.den=_;rw[hy];exact R.n
 ·intro i hi
  have hi:(i:Int)<y.den:=hi;rw[R.f i (by have:=R.n;omega),hkr];rfl
 ·rw[hkb];rfl
theorem Akq:Ay Tryz.prog gl 183 (Afd Hm):=by
 refine Bq (gh:=[(1,[.attach 6 9])]) mixed B4 (Ab Aah (Ab Yc Ai)) Tryz.func183 (by kernel_rfl) (by kernel_rfl) ?_;intro xs ls K h;unfold Afd at h;obtain⟨s,y,rfl,rfl,hl,h⟩:=h;obtain⟨k,hk⟩:∃k,k=Hm y s:=⟨_,rfl⟩;obtain⟨kn,hkn⟩:∃kn:Int,kn=((k.getD []).length:Int):=⟨_,rfl⟩;obtain⟨kb,hkb⟩:∃kb,kb=k.isSome:=⟨_,rfl⟩;obtain⟨knb,hknb⟩:∃knb,knb=k.isNone:=⟨_,rfl⟩;refine⟨_,_,h k kn kb knb hk hkn hkb hknb,λD hD=>?_⟩;clear h;obtain⟨kr,hkr⟩:∃kr,kr=Cj (k.getD []):=⟨_,rfl⟩;rw[<-hkr];have hk:k=pAt y s [] 0 0:=by
  rw[hk,Hm,pAt,U0];simp
 cbv;obtain⟨J,hJ⟩:∃J,J=paJ s y k:=⟨_,rfl⟩;refine⟨[0,1,6,7,8],J,⟨rfl,s.length,?_⟩,?_⟩
 ·rw[hJ]
  subst hD;exact⟨0,0,_,_,_,_,_,[],rfl,rfl,⟨At.zero (by omega),by omega,rfl,by simp,hl⟩,Bl.nil,hk⟩
 clear hk;intro m vs hp' hv;rw[hJ]at hv;unfold paJ at hv;obtain⟨i,a,I,A,n,nl,f,out,rfl,rfl,V,R,hk⟩:=hv;cbv;refine br hD (λh=>?_) (λh=>?_)<;>cbv
 ·have hlt:=V.at_.lt (of_decide_eq_true (p:=I<(s.length:Int)) h)
  clear h;refine⟨V.at_.inS hD hlt,λc hc=>?_⟩;have hc2:=D7 hD V.at_.den hc;clear hc;cbv;refine⟨_,rfl,rfl,λr hr=>?_⟩;have hr2:r=Bb c:=by subst hD;exact hr
  clear hr;cbv;refine br hD (λh=>?_) (λh=>?_)<;>cbv
  ·have h:(!r)=true:=h
   rw[Afx hlt (by rw[<-hc2.charI,<-hr2];simpa using h)]at hk;exact Xk hD hk hkn hkb hknb hkr
  have hp:Bb (charI s i)=true:=by have h:(!r)=false:=h;rw[<-hc2.charI,<-hr2];simpa using h
  clear h;refine⟨V.at_.inS hD hlt,λc' hc'=>?_⟩;obtain rfl:c'=c:=by have:=D7 hD V.at_.den hc';rw[this.h,hc2.h]
  clear hc';cbv;refine br hD (λh=>?_) (λh=>?_)<;>cbv
  ·have h34:charI s i=34:=by rw[<-hc2.charI];have h:(c'==34)=true:=h;simpa using h
   clear h;refine⟨s,i,_,rfl,rfl,by subst hD;exact⟨V.at_.le,V.at_.I,rfl,V.at_.len⟩,hlt,λe t b he=>?_⟩;rw[Wv hlt V.ale hp h34]at hk;cbv;refine br hD (λh=>?_) (λh=>?_)<;>cbv
   ·have h:(!b)=true:=h
    have hn:qdF Bb (s.drop (i+1))=none:=by
     cases hq:qdF Bb (s.drop (i+1)) with
     |none=>rfl
     |some x =>
      rw[Ft,K6,hq]at he;simp only[Prod.mk.injEq]at he;rw[he.2.2]at h;cases h
    rw[hn]at hk;exact Xk hD hk hkn hkb hknb hkr
   ·have h:(!b)=false:=h
    obtain⟨x,hx⟩:∃x,qdF Bb (s.drop (i+1))=some x:=by
     cases hq:qdF Bb (s.drop (i+1)) with
     |none =>
      rw[Ft,K6,hq]at he;simp only[Prod.mk.injEq]at he;rw[he.2.2]at h;cases h
     |some x=>exact⟨x,rfl⟩
    rw[hx]at hk;simp only at hk;rw[Ft,K6,hx]at he;simp only[Prod.mk.injEq]at he;have hlen:=L1 _ _ x (Nat.le_refl _) hx;rw[List.length_drop]at hlen;have he1:ST.den (.a e)=((i+1+x.1:Nat):Int):=he.1;clear he h;refine⟨s.length-(i+1+x.1),by have:=V.at_.m;omega,?_⟩;rw[hJ];subst hD;refine⟨i+1+x.1,a,_,_,_,_,f,out,rfl,rfl,⟨⟨by omega,he1,rfl,V.at_.len⟩,by have:=V.ale;omega,V.A,by have:=V.out;omega,V.s⟩,R,hk⟩
  have h34:charI s i≠34:=by rw[<-hc2.charI];have h:(c'==34)=false:=h;simpa using h
  clear h;refine br hD (λh=>?_) (λh=>?_)<;>cbv
  ·have hy:charI s i=y:=by rw[<-hc2.charI];have h:(c'==y)=true:=h;simpa using h
   clear h;rw[Afv hlt hp h34 hy]at hk;refine⟨by subst hD;exact D9 V.A V.at_.den V.ale (by omega),λr1 hr1=>?_⟩;have hr1':r1=cut s a i:=Hh hD V.A V.at_.den hr1;clear hr1;cbv;intro g hg;have hg0:g 0=[.str r1]:=hg.h 0 _ rfl;clear hg;cbv;refine⟨?_,λf' n' hf'=>?_⟩
   ·have:=V.out;have:=V.s;have:=R.n;subst hD;exact⟨rfl,by show (n+1) * 16<=_;omega,by show n+1<=_;omega⟩
   have R':Bl f' n' (out++[cut s a i]):=by
    subst hD;exact R.more (by rw[hg0,hr1']) hf' (by have:=V.out;have:=V.s;omega)
   clear hf' hg0;cbv;refine⟨s.length-(i+1),(V.at_.step hD hlt).1,?_⟩;rw[hJ];subst hD;exact⟨i+1,i+1,_,_,_,_,f',_,rfl,rfl,⟨(V.at_.step rfl hlt).2,Nat.le_refl _,(V.at_.step rfl hlt).2.I,by have:=V.out;simp;omega,V.s⟩,R',hk⟩
  ·have hy:charI s i≠y:=by rw[<-hc2.charI];have h:(c'==y)=false:=h;simpa using h
   clear h;rw[Aak hlt V.ale hp h34 hy]at hk;refine⟨s.length-(i+1),(V.at_.step hD hlt).1,?_⟩;rw[hJ];subst hD;exact⟨i+1,a,_,_,_,_,f,out,rfl,rfl,⟨(V.at_.step rfl hlt).2,by have:=V.ale;omega,V.A,by have:=V.out;omega,V.s⟩,R,hk⟩
 ·have hi:=V.at_.eq (of_decide_eq_false (p:=I<(s.length:Int)) h)
  clear h;rw[Afw hi]at hk;refine⟨by subst hD;exact D9 (s:=s) (j:=s.length) (b:=.len s) V.A rfl (by have:=V.ale;omega) (Nat.le_refl _),λr1 hr1=>?_⟩;have hr1':r1=s.drop a:=by
   have:=Hh (j:=s.length) (b:=.len s) hD V.A rfl hr1;rw[this];exact List.take_of_length_le (by simp)
  clear hr1;cbv;intro g hg;have hg0:g 0=[.str r1]:=hg.h 0 _ rfl;clear hg;cbv;refine⟨?_,λf' n' hf'=>?_⟩
  ·have:=V.out;have:=V.s;have:=R.n;subst hD;exact⟨rfl,by show (n+1) * 16<=_;omega,by show n+1<=_;omega⟩
  have R':Bl f' n' (out++[s.drop a]):=by
   subst hD;exact R.more (by rw[hg0,hr1']) hf' (by have:=V.out;have:=V.s;omega)
  clear hf' hg0;cbv;refine Aiv hD hk hkn hkb hknb hkr R' rfl ?_;show (nl&&false)=false;simp
theorem M0(p:Int->Bool)(y:Int):∀(r:List UInt8) (md:Nat) (cur:List UInt8) (l:List (List UInt8)),Ct p y r md cur=some l->l.length<=r.length+1/\0<l.length/\∀x∈l,x.length<=cur.length+r.length
 | [],md,cur,l,h=>by
  simp only[Ct]at h
  split at h
  ·cases h;simp
  ·cases h
 |c :: r,md,cur,l,h=>by
  have push:∀md',Ct p y r md' (cur++[c])=some l->l.length<=(c :: r).length+1/\0<l.length/\∀x∈l,x.length<=cur.length+(c :: r).length:=by
   intro md' h;obtain⟨h1,h2,h3⟩:=M0 p y r md' _ l h;refine⟨by simp;omega,h2,λx hx=>?_⟩;have:=h3 x hx;simp at this ⊢;omega
  simp only[Ct]at h
  split at h
  ·cases h
  split at h
  ·split at h
   ·exact push _ h
   ·split at h
    ·obtain⟨l',h',rfl⟩:=Option.map_eq_some_iff.1 h
     obtain⟨h1,h2,h3⟩:=M0 p y r 0 [] l' h';refine⟨by simp;omega,by simp,λx hx=>?_⟩;rcases List.mem_cons.1 hx with rfl|hx
     ·simp
     ·have:=h3 x hx;simp at this ⊢;omega
    ·exact push _ h
  ·split at h
   ·split at h
    ·exact push _ h
    ·split at h
     ·exact push _ h
     ·exact push _ h
   ·exact push _ h
theorem M1{y:Int}{s:List UInt8}{l:List (List UInt8)}(h:Hm y s=some l):l.length<=s.length+1/\0<l.length/\∀x∈l,x.length<=s.length:=by
 have:=M0 _ _ _ _ _ _ h;simpa using this
theorem Mo{p:UInt8->Bool}(s:List UInt8):(s.dropWhile p).length<=s.length:=by
 induction s with
 |nil=>simp
 |cons c r ih =>
  rw[List.dropWhile_cons]
  split
  ·simp;omega
  ·simp
theorem Wh(s:List UInt8):(trimF s).length<=s.length:=by
 unfold trimF Fj Iy;rw[List.length_reverse];refine Nat.le_trans (Mo _) ?_;rw[List.length_reverse];exact Mo _
def neB(x:List UInt8):Bool:=!(x==[])
def Jk(l:List (List UInt8)):List (List UInt8):=(l.map trimF).filter neB
theorem Ad3{l:List (List UInt8)}{i:Nat}(h:i<l.length):Jk (l.drop i)=(if neB (trimF (l.getD i [])) then [trimF (l.getD i [])] else [])++Jk (l.drop (i+1)):=by
 rw[Kn (d:=[]) h,Jk,List.map_cons,List.filter_cons]
 split<;>rfl
def Az(s:List UInt8):List (List UInt8)×Int :=
 if 2000<(s.length:Int) then ([],3) else match Hm 44 s with
  |none=>([],6)
  |some l=>(Jk l,0)
theorem Dl(s:List UInt8):(Az s).1.length<=2001/\∀x∈(Az s).1,x.length<=2000:=by
 unfold Az
 split
 ·simp
 ·rename_i h
  cases hp:Hm 44 s with
  |none=>simp
  |some l =>
   obtain⟨h1,h2,h3⟩:=M1 hp;have h4:(Jk l).length<=l.length:=by
    unfold Jk;refine Nat.le_trans (List.length_filter_le _ _) (by simp)
   refine⟨by show (Jk l).length<=_;omega,λx hx=>?_⟩;have hx:x∈Jk l:=hx;unfold Jk at hx;obtain⟨z,hz,rfl⟩:=List.mem_map.1 (List.mem_filter.1 hx).1;have:=Wh z;have:=h3 z hz;omega
def Sa(F:List UInt8->List (List UInt8)×Int)(N:List UInt8->Bool):FSpec:=λ_ xs ls K=>∃(s:List UInt8),xs=[.str s]/\ls=[]/\s.length<=9223372036854775807/\∀l e n nb,(l,e)=F s->n=(l.length:Int)->nb=N s->K (.tup [.sl (.a nb) (.a n) 1 (Cj l),.int .i64 (.a e)]) []
theorem Xl{D:Dn}(hD:D=dn){l l':List (List UInt8)}{ke kn e':Int}{knb:Bool}{kr f:Nat->List SV}(hk:(l,ke)=(l',e'))(hkn:kn=(l.length:Int))(hkr:kr=Cj l)
  {n:Int} (R:Bl f n l') {x:BT} {y z:ST} (hy:y.den=n) (hx:x.den=knb) (hz:z.den=e'):Fin (.tup [.sl (.a (D.b x)) (.a (D.i y)) 1 f,.int .i64 (.a (D.i z))]) (.tup [.sl (.a knb) (.a kn) 1 kr,.int .i64 (.a ke)]) [] []:=by
 subst hD;simp only[Prod.mk.injEq]at hk;obtain⟨rfl,rfl⟩:=hk;refine D6 (.tup (.cons (.sl hx ?_ ?_) (.cons (Ak hz) .nil)))
 ·rw[hkn];show y.den=_;rw[hy];exact R.n
 ·intro i hi
  have hi:(i:Int)<y.den:=hi;rw[R.f i (by have:=R.n;omega),hkr];rfl
structure ElI(l out:List (List UInt8))(i:Nat)(I:Int)(nl:Bool)(m:Nat):Prop where
 at_:AtR l i I m
 ol:out.length<=i
 nl:nl=out.isEmpty
 ll:l.length<=100001
 el:∀x∈l,x.length<=9223372036854775807
def elJ(l:List (List UInt8))(k:List (List UInt8))(nb:Bool)(nn:Int)(g:Nat->List SV)(m:Nat)(vs:List (Option SV))(hp:List Hl):Prop :=
 ∃(i:Nat) (I n:Int) (nl:Bool) (f:Nat->List SV) (out:List (List UInt8)),vs=[some (.sl (.a nb) (.a nn) 1 g),some (.gsl (.a nl) (.a n) 1 f 0),some (.int .i64 (.a I))]/\hp=[.tail 9 (.a n) 1]/\
  ElI l out i I nl m/\Bl f n out/\k=out++Jk (l.drop i)
theorem Tj:Ay Tryz.prog gl 132 (Sa Az λs=>(Az s).1.isEmpty):=by
 refine Bq (gh:=[(6,[.attach 6 9])]) mixed B4 (Ab Akq (Ab Adk Ai)) Tryz.func132 (by kernel_rfl) (by kernel_rfl) ?_;intro xs ls K h;unfold Sa at h;obtain⟨s,rfl,rfl,hl,h⟩:=h;obtain⟨k,hk⟩:∃k,k=Az s:=⟨_,rfl⟩;obtain⟨kl,ke⟩:=k;obtain⟨kn,hkn⟩:∃kn:Int,kn=(kl.length:Int):=⟨_,rfl⟩;obtain⟨knb,hknb⟩:∃knb:Bool,knb=kl.isEmpty:=⟨_,rfl⟩;refine⟨_,_,h kl ke kn knb hk hkn (by rw[hknb];show _=(Az s).1.isEmpty;rw[<-hk]),λD hD=>?_⟩;clear h;obtain⟨kr,hkr⟩:∃kr,kr=Cj kl:=⟨_,rfl⟩;rw[<-hkr];rw[Az]at hk;cbv;refine br hD (λh=>?_) (λh=>?_)<;>cbv
 ·have h:decide (2000<(s.length:Int))=true:=h
  rw[if_pos (by simpa using h)]at hk;exact Xl (f:=λ_=>[]) hD hk hkn hkr Bl.nil rfl (by simp only[Prod.mk.injEq]at hk;rw[hknb,hk.1];rfl) rfl
 have h:decide (2000<(s.length:Int))=false:=h;have h2:¬(2000<(s.length:Int)):=by simpa using h
 rw[if_neg h2]at hk;have hs:s.length<=2000:=by omega
 clear h h2;refine⟨s,_,rfl,rfl,by omega,λk n b nb hp hn hb hnb=>?_⟩;have hp2:k=Hm 44 s:=by subst hD;exact hp
 clear hp;rw[<-hp2]at hk;obtain⟨g,hg⟩:∃g,g=Cj (k.getD []):=⟨_,rfl⟩;rw[<-hg];cbv;refine br hD (λh=>?_) (λh=>?_)<;>cbv
 ·have h:(!b)=true:=h
  have hn0:k=none:=by
   cases k with
   |none=>rfl
   |some l=>rw[hb]at h;cases h
  rw[hn0]at hk;exact Xl (f:=λ_=>[]) hD hk hkn hkr Bl.nil rfl (by simp only[Prod.mk.injEq]at hk;rw[hknb,hk.1];rfl) rfl
 have h:(!b)=false:=h;obtain⟨l,rfl⟩:∃l,k=some l:=by
  cases k with
  |none=>rw[hb]at h;cases h
  |some l=>exact⟨l,rfl⟩
 clear h;simp only[Option.getD_some]at hg hn;obtain⟨h1,h2,h3⟩:=M1 hp2.symm;have RL:Bl g n l:=by rw[hg,hn];exact Bl.row (by omega)
 simp only[Prod.mk.injEq]at hk;obtain⟨hk,hke⟩:=hk;have hll:l.length<=100001:=by omega
 have hle:∀x∈l,x.length<=9223372036854775807:=λx hx=>by have:=h3 x hx;omega
 clear h1 h2 h3 hg hn hb hnb hp2;obtain⟨J,hJ⟩:∃J,J=elJ l kl nb n g:=⟨_,rfl⟩;refine⟨[4,6,7],J,⟨rfl,l.length,?_⟩,?_⟩
 ·rw[hJ]
  subst hD;exact⟨0,_,_,_,_,[],rfl,rfl,⟨AtR.zero (by omega),by simp,rfl,hll,hle⟩,Bl.nil,by rw[hk];rfl⟩
 clear hk;intro m vs hp' hv;rw[hJ]at hv;unfold elJ at hv;obtain⟨i,I,on,nl,f,out,rfl,rfl,V,R,hk⟩:=hv;cbv;refine br hD (λh=>?_) (λh=>?_)<;>cbv
 ·have hlt:=V.at_.lt RL.n (of_decide_eq_true (p:=I<n) h)
  clear h;refine⟨V.at_.inB hD RL.n hlt,λj hj=>?_⟩;obtain rfl:=V.at_.j hD hj;clear hj;have e1:=RL.f j hlt;rw[Ad3 hlt]at hk;have hxl:=V.el (l.getD j []) (by rw[List.getD_eq_getElem?_getD,List.getElem?_eq_getElem hlt];exact List.getElem_mem hlt);obtain⟨x,hx⟩:∃x,x=l.getD j []:=⟨_,rfl⟩;rw[<-hx]at e1 hk hxl;cbv;rw[e1];cbv;refine⟨x,rfl,rfl,hxl,λt ht=>?_⟩;rw[<-ht]at hk;cbv;refine br hD (λh=>?_) (λh=>?_)<;>cbv
  ·have hne:neB t=true:=h
   clear h;rw[if_pos hne]at hk;refine⟨V.at_.inB hD RL.n hlt,λj' hj'=>?_⟩;obtain rfl:=V.at_.j hD hj';clear hj';cbv;rw[e1];cbv;refine⟨x,rfl,rfl,hxl,λt' ht'=>?_⟩;obtain rfl:t'=t:=by rw[ht',ht]
   clear ht';cbv;intro g1 hg1;have hg0:g1 0=[.str t']:=hg1.h 0 _ rfl;clear hg1;cbv;refine⟨?_,λf' n' hf'=>?_⟩
   ·have:=V.ol;have:=V.ll;have:=V.at_.le;have:=R.n;subst hD;exact⟨rfl,by show (on+1) * 16<=_;omega,by show on+1<=_;omega⟩
   have R':Bl f' n' (out++[t']):=by
    subst hD;exact R.more hg0 hf' (by have:=V.ol;have:=V.ll;have:=V.at_.le;omega)
   clear hf' hg0;cbv;refine⟨l.length-(j'+1),(V.at_.step hD hlt).1,?_⟩;rw[hJ];subst hD;exact⟨j'+1,_,_,_,f',_,rfl,rfl,⟨(V.at_.step rfl hlt).2,by have:=V.ol;simp;omega,by show (nl&&false)=_;simp,V.ll,V.el⟩,R',by rw[hk];simp⟩
  ·have hne:neB t=false:=h
   clear h;rw[if_neg (by rw[hne];simp)]at hk;refine⟨l.length-(j+1),(V.at_.step hD hlt).1,?_⟩;rw[hJ];subst hD;exact⟨j+1,_,_,_,f,out,rfl,rfl,⟨(V.at_.step rfl hlt).2,by have:=V.ol;omega,V.nl,V.ll,V.el⟩,R,by rw[hk];simp⟩
 ·have hi:=V.at_.eq RL.n (of_decide_eq_false (p:=I<n) h)
  clear h;have hk2:kl=out:=by rw[hk,hi,List.drop_length];simp[Jk]
  exact Xl (f:=f) (l':=out) (e':=0) hD (by rw[hk2,hke]) hkn hkr R rfl (by show nl=_;rw[V.nl,hknb,hk2]) rfl
set_option maxRecDepth 100000
theorem Aba:∀n:Fin 256,Kg (n.1:Int)=Bb (n.1:Int)/\(Di (n.1:Int)==3)=letterI (n.1:Int):=by decide
theorem S4(c:UInt8):Kg (c.toNat:Int)=Bb (c.toNat:Int):=(Aba ⟨c.toNat,c.toNat_lt⟩).1
theorem Ad2(c:UInt8):(Di (c.toNat:Int)==3)=letterI (c.toNat:Int):=(Aba ⟨c.toNat,c.toNat_lt⟩).2
theorem Nr(s:List UInt8):Bg s=Jc s:=by
 unfold Bg Jc Aji;rw[Bool.and_comm];congr 1
 ·rw[Bool.eq_iff_iff]
  simp;omega
 ·congr 1
  funext c;exact Ad2 c
theorem Pl{p q:Int->Bool}(h:∀c:UInt8,p (c.toNat:Int)=q (c.toNat:Int)):∀(n:Nat) (r:List UInt8),r.length<=n->qdF p r=qdF q r
 |_,[],_=>rfl
 |0,c :: r,hl=>by simp at hl
 |n+1,c :: r,hl=>by
  simp only[List.length_cons]at hl;rw[Ei,Ei,h c,Pl h n r (by omega)];cases r with
  |nil=>rfl
  |cons d r' =>
   simp only;rw[h d,Pl h n r' (by simp at hl;omega)]
theorem Aki(r:List UInt8):qdF Kg r=qdF Bb r:=Pl S4 _ r (Nat.le_refl _)
structure UqL(s:List UInt8)(i:Nat)(u:List UInt8):Prop where
 h:qdF Bb (s.drop i)=some (s.length-i,u)
theorem UqL.lt{s u:List UInt8}{i:Nat}(h:UqL s i u):i<s.length:=by
 have:=L1 _ _ _ (Nat.le_refl _) h.h;rw[List.length_drop]at this;simp only at this;omega
theorem UqL.plain{s u:List UInt8}{i:Nat}(h:UqL s i u):Bb (charI s i)=true:=by
 cases hb:Bb (charI s i) with
 |true=>rfl
 |false=>have:=h.h;rw[Yf h.lt hb]at this;cases this
theorem UqL.esc{s u:List UInt8}{i:Nat}(h:UqL s i u)(h92:charI s i=92):i+2<s.length/\∃u',u=s.getD (i+1) 0 :: u'/\UqL s (i+2) u':=by
 have h1:=h.h
 by_cases h2:i+1<s.length/\Bb (charI s (i+1))=true
 ·rw[Ye h.lt h.plain h92 h2.1 h2.2]at h1
  obtain⟨x,hx,hx2⟩:=Option.map_eq_some_iff.1 h1;simp only[Prod.mk.injEq]at hx2;have hl:=L1 _ _ _ (Nat.le_refl _) hx;rw[List.length_drop]at hl;have e:x=(s.length-(i+2),x.2):=Prod.ext (by simp only;omega) rfl;exact⟨by omega,x.2,hx2.2.symm,⟨by rw[hx,<-e]⟩⟩
 ·rw[N0 h.lt h.plain h92 h2]at h1;cases h1
theorem UqL.more{s u:List UInt8}{i:Nat}(h:UqL s i u)(hi:i+1<s.length)(h92:charI s i≠92):∃u',u=s.getD i 0 :: u'/\UqL s (i+1) u':=by
 have h1:=h.h
 by_cases h34:charI s i=34
 ·rw[Pk h.lt h.plain h34]at h1
  simp only[Option.some.injEq,Prod.mk.injEq]at h1;omega
 ·rw[Tl h.lt h.plain h34 h92]at h1
  obtain⟨x,hx,hx2⟩:=Option.map_eq_some_iff.1 h1;simp only[Prod.mk.injEq]at hx2;have e:x=(s.length-(i+1),x.2):=Prod.ext (by simp only;omega) rfl;exact⟨x.2,hx2.2.symm,⟨by rw[hx,<-e]⟩⟩
set_option maxRecDepth 10000
structure QwI(s t:List UInt8)(i:Nat)(I L:Int)(m:Nat):Prop where
 at_:At s i I m
 L:L=s.length
 t:t.length<=2 * i+1
 s:s.length<=500
structure UwI(s t u:List UInt8)(i:Nat)(I:Int)(m:Nat):Prop where
 at_:At s i I m
 u:UqL s i u
 t:t.length<=i
 s:s.length<=100000
structure IxS(l:List (List UInt8))(i:Nat)(I L:Int)(m:Nat):Prop where
 at_:AtR l i I m
 L:L=l.length
end Go.Proofs.YtdoogdbjiijifaaGreatDoor
