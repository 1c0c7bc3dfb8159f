/- Part of the proofs of the statements about responses and messages (layers 9 and 10): a symbolic executor over the code, that it is sound, and contracts of functions; it has no conditions of its own. -/
import Derived.Test.YtdoogdbjiijifaaGreatDoorE3Paw
namespace Go.Proofs.YtdoogdbjiijifaaGreatDoor
open Go.Sx
set_option maxRecDepth 10000
set_option maxHeartbeats 2000000
def qdF(p:Int->Bool):List UInt8->Option (Nat×List UInt8)
 | []=>none
 |c :: r =>
  if !p (c.toNat:Int) then none
  else if (c.toNat:Int)=34 then some (1,[])
  else if (c.toNat:Int)=92 then (match r with
   | []=>none
   |d :: r'=>if !p (d.toNat:Int) then none else (qdF p r').map λx=>(x.1+2,d :: x.2))
  else (qdF p r).map λx=>(x.1+1,c :: x.2)
def charI(s:List UInt8)(i:Nat):Int:=((s.getD i 0).toNat:Int)
theorem Ei(p:Int->Bool)(c:UInt8)(r:List UInt8):qdF p (c :: r)=(if !p (c.toNat:Int) then none
  else if (c.toNat:Int)=34 then some (1,[])
  else if (c.toNat:Int)=92 then (match r with
   | []=>none
   |d :: r'=>if !p (d.toNat:Int) then none else (qdF p r').map λx=>(x.1+2,d :: x.2))
  else (qdF p r).map λx=>(x.1+1,c :: x.2)):=by rw[qdF.eq_def]
theorem Yf{p:Int->Bool}{s:List UInt8}{i:Nat}(h:i<s.length)(hb:p (charI s i)=false):qdF p (s.drop i)=none:=by
 rw[Bn h,Ei];unfold charI at hb;rw[hb];rfl
theorem Afr{p:Int->Bool}{s:List UInt8}{i:Nat}(h:s.length<=i):qdF p (s.drop i)=none:=by
 rw[List.drop_eq_nil_of_le h];rfl
theorem Pk{p:Int->Bool}{s:List UInt8}{i:Nat}(h:i<s.length)(hb:p (charI s i)=true)(hq:charI s i=34):qdF p (s.drop i)=some (1,[]):=by
 rw[Bn h,Ei];unfold charI at hb hq;rw[hb,if_neg (by simp),if_pos hq]
theorem Ye{p:Int->Bool}{s:List UInt8}{i:Nat}(h:i<s.length)(hb:p (charI s i)=true)(hq:charI s i=92)(h2:i+1<s.length)(hb2:p (charI s (i+1))=true):qdF p (s.drop i)=(qdF p (s.drop (i+2))).map λx=>(x.1+2,s.getD (i+1) 0 :: x.2):=by
 rw[Bn h,Bn h2,Ei];unfold charI at hb hq hb2;rw[hb,if_neg (by simp),if_neg (by omega),if_pos hq];simp only;rw[hb2];simp
theorem N0{p:Int->Bool}{s:List UInt8}{i:Nat}(h:i<s.length)(hb:p (charI s i)=true)(hq:charI s i=92)(h2:¬(i+1<s.length/\p (charI s (i+1))=true)):qdF p (s.drop i)=none:=by
 by_cases h3:i+1<s.length
 ·have hb2:p (charI s (i+1))=false:=by simpa[h3] using h2
  rw[Bn h,Bn h3,Ei];unfold charI at hb hq hb2;rw[hb,if_neg (by simp),if_neg (by omega),if_pos hq];simp only;rw[hb2];simp
 ·rw[Bn h,List.drop_eq_nil_of_le (by omega),Ei]
  unfold charI at hb hq;rw[hb,if_neg (by simp),if_neg (by omega),if_pos hq]
theorem Tl{p:Int->Bool}{s:List UInt8}{i:Nat}(h:i<s.length)(hb:p (charI s i)=true)(hq:charI s i≠34)(hq2:charI s i≠92):qdF p (s.drop i)=(qdF p (s.drop (i+1))).map λx=>(x.1+1,s.getD i 0 :: x.2):=by
 rw[Bn h,Ei];unfold charI at hb hq hq2;rw[hb,if_neg (by simp),if_neg hq,if_neg hq2]
def Kg(c:Int):Bool:=!(Di c==0)
def qAt(p:Int->Bool)(s:List UInt8)(i:Nat):Int:=match qdF p (s.drop (i+1)) with
 |none=>0
 |some x=>((i+1+x.1:Nat):Int)
def Nz(s:List UInt8):Int:=qAt Kg s 0
theorem N1{p:Int->Bool}{s:List UInt8}{i:Nat}(h:qdF p (s.drop (i+1))=none):qAt p s i=0:=by rw[qAt,h]
theorem Wr{p:Int->Bool}{s:List UInt8}{i:Nat}(h:i+1<s.length)(hb:p (charI s (i+1))=true)(hq:charI s (i+1)=34):qAt p s i=((i+2:Nat):Int):=by
 rw[qAt,Pk h hb hq];rfl
theorem Afs{p:Int->Bool}{s:List UInt8}{i:Nat}(h:i+1<s.length)(hb:p (charI s (i+1))=true)(hq:charI s (i+1)=92)(h2:i+2<s.length)(hb2:p (charI s (i+2))=true):qAt p s i=qAt p s (i+2):=by
 rw[qAt,Ye h hb hq h2 hb2,qAt];cases qdF p (s.drop (i+1+2)) with
 |none=>rfl
 |some x=>simp only[Option.map_some];congr 1;omega
theorem Aag{p:Int->Bool}{s:List UInt8}{i:Nat}(h:i+1<s.length)(hb:p (charI s (i+1))=true)(hq:charI s (i+1)≠34)(hq2:charI s (i+1)≠92):qAt p s i=qAt p s (i+1):=by
 rw[qAt,Tl h hb hq hq2,qAt];cases qdF p (s.drop (i+1+1)) with
 |none=>rfl
 |some x=>simp only[Option.map_some];congr 1;omega
structure QI(s:List UInt8)(i:Nat)(I:Int)(m:Nat):Prop where
 I:I=i
 lt:i<s.length\/i=0
 m:m=s.length-i
 len:s.length<=9223372036854775807
def Afo(s:List UInt8)(k:Int)(m:Nat)(vs:List (Option SV))(hp:List Hl):Prop :=
 ∃(i:Nat) (I:Int),vs=[some (.str s),some (.int .i64 (.a I))]/\hp=[]/\QI s i I m/\k=qAt Kg s i
def Ajz(F:List UInt8->Int):FSpec:=λ_ xs ls K=>∃(s:List UInt8),xs=[.str s]/\ls=[]/\s.length<=9223372036854775807/\∀r,r=F s->K (.int .i64 (.a r)) []
noncomputable def qPre:Code:=match Tryz.f231.body with
 |some (.seq a (.scope _))=>a
 |_=>.skip
noncomputable def Akj:Code:=match Tryz.f231.body with
 |some (.seq _ (.scope c))=>c
 |_=>.skip
noncomputable def qRest:Code:=(findLabel Akj 0).getD .skip
theorem QI.one{s:List UInt8}{i:Nat}{I:Int}{m:Nat}(V:QI s i I m):ST.den (.bin .add .i64 (.a I) (.l 1))=((i+1:Nat):Int):=by
 have h1:=V.I;have h2:=V.len;have h3:=V.lt;show IntKind.i64.wrap (I+1)=_;rw[A4 (by omega) (by omega)];omega
theorem QI.two{s:List UInt8}{i:Nat}{I:Int}{m:Nat}(V:QI s i I m)(h:i+1<s.length):ST.den (.bin .add .i64 (.bin .add .i64 (.a I) (.l 1)) (.l 1))=((i+2:Nat):Int):=by
 have h0:=V.one;have h2:=V.len;show IntKind.i64.wrap (ST.den (.bin .add .i64 (.a I) (.l 1))+1)=_;rw[h0,A4 (by omega) (by omega)];omega
theorem Ff{s:List UInt8}{i:Nat}{e:ST}(he:e.den=(i:Int))(h:i<s.length):InS (dn.i e) s:=⟨by show 0<=e.den;omega,by show e.den<s.length;omega⟩
theorem D7{D:Dn}(hD:D=dn){c:Int}{s:List UInt8}{i:Nat}{e:ST}(he:e.den=(i:Int))(h:Ae4 c s (D.i e)):Eu c s i:=by
 subst hD;refine⟨?_⟩;have h:=h.h;have e2:dn.i e=(i:Int):=he;rw[e2]at h;rw[h,Int.toNat_natCast]
theorem Eu.charI{c:Int}{s:List UInt8}{i:Nat}(h:Eu c s i):c=charI s i:=h.h
theorem Afp{c:Int}{s:List UInt8}{i:Nat}(hc:Eu c s i)(h:(decide ((s.length:Int)<=((i:Nat):Int))||Di c==0)=true):qdF Kg (s.drop i)=none:=by
 by_cases hlt:i<s.length
 ·refine Yf hlt ?_
  rw[<-hc.charI,Kg];have:¬((s.length:Int)<=(i:Int)):=by omega
  simp[this]at h;simp[h]
 ·exact Afr (by omega)
theorem Aaf{c:Int}{s:List UInt8}{i:Nat}(hc:Eu c s i)(h:(decide ((s.length:Int)<=((i:Nat):Int))||Di c==0)=true):¬(i<s.length/\Kg (charI s i)=true):=by
 rintro⟨h1,h2⟩;rw[<-hc.charI,Kg]at h2;have:¬((s.length:Int)<=(i:Int)):=by omega
 simp[this]at h;simp[h]at h2
theorem Afq{c:Int}{s:List UInt8}{i:Nat}(hc:Eu c s i)(h:(decide ((s.length:Int)<=((i:Nat):Int))||Di c==0)=false):i<s.length/\Kg (charI s i)=true:=by
 rw[<-hc.charI,Kg];simp at h;refine⟨by omega,?_⟩;simp[h.2]
theorem Ahq:Ay Tryz.prog gl 231 (Ajz Nz):=by
 refine fnOkJ (gh:=[]) mixed B4 (Ab Yp Ai) Tryz.func231 (l:=0) (pre:=qPre) (c:=Akj) (rest:=qRest) (by kernel_rfl) (by kernel_rfl) (by kernel_rfl) ?_;intro xs ls K h;unfold Ajz at h;obtain⟨s,rfl,rfl,hl,h⟩:=h;obtain⟨k,hk⟩:∃k,k=Nz s:=⟨_,rfl⟩;refine⟨_,_,h k hk,λD hD=>?_⟩;clear h;rw[Nz]at hk;obtain⟨J,hJ⟩:∃J,J=Afo s k:=⟨_,rfl⟩;refine⟨[0,3],J,?_,?_⟩
 ·cbv
  have V:QI s 0 0 s.length:=⟨rfl,.inr rfl,rfl,hl⟩;have hk2:=hk;have hE1:ST.den (.l 1)=((0+1:Nat):Int):=rfl;refine⟨λhg=>?_,λc hc=>?_⟩
  ·subst hD;exact Ff hE1 (by have hg:(!decide ((s.length:Int)<=ST.den (.l 1)))=true:=hg;rw[hE1]at hg;simp only[Bool.not_eq_true',decide_eq_false_iff_not]at hg;omega)
  have hc2:=D7 hD hE1 hc;clear hc;cbv;refine⟨_,rfl,rfl,by subst hD;exact hc2.le,λr hr=>?_⟩;have hr2:r=Di c:=by subst hD;exact hr
  clear hr;cbv;refine br hD (λh=>?_) (λh=>?_)<;>cbv
  ·have h:(decide ((s.length:Int)<=ST.den (.l 1))||r==0)=true:=h
   rw[hE1,hr2]at h;refine Be hD ?_;rw[hk2,N1 (Afp hc2 h)];rfl
  have h:(decide ((s.length:Int)<=ST.den (.l 1))||r==0)=false:=h;rw[hE1,hr2]at h;obtain⟨hlt,hp⟩:=Afq hc2 h;clear h;refine⟨by subst hD;exact Ff hE1 hlt,λc' hc'=>?_⟩;have hcc:c'=c:=by have:=D7 hD hE1 hc';rw[this.h,hc2.h]
  subst hcc;clear hc';cbv;refine br hD (λh=>?_) (λh=>?_)<;>cbv
  ·have h34:c'=34:=by have h:(c'==34)=true:=h;simpa using h
   refine Be hD ?_;rw[hk2,Wr hlt hp (by rw[<-hc2.charI];exact h34)];exact rfl
  have h34:charI s (0+1)≠34:=by rw[<-hc2.charI];have h:(c'==34)=false:=h;simpa using h
  clear h;refine br hD (λh=>?_) (λh=>?_)<;>cbv
  ·have h92:charI s (0+1)=92:=by rw[<-hc2.charI];have h:(c'==92)=true:=h;simpa using h
   clear h;have hE2':ST.den (.l 2)=((0+2:Nat):Int):=rfl;refine⟨λhg=>?_,λd hd=>?_⟩
   ·subst hD;exact Ff hE2' (by have hg:(!decide ((s.length:Int)<=ST.den (.l 2)))=true:=hg;rw[hE2']at hg;simp only[Bool.not_eq_true',decide_eq_false_iff_not]at hg;omega)
   have hd2:=D7 hD hE2' hd;clear hd;cbv;refine⟨_,rfl,rfl,by subst hD;exact hd2.le,λq hq=>?_⟩;have hq2:q=Di d:=by subst hD;exact hq
   clear hq;cbv;refine br hD (λh=>?_) (λh=>?_)<;>cbv
   ·have h:(decide ((s.length:Int)<=ST.den (.l 2))||q==0)=true:=h
    rw[hE2',hq2]at h;refine Be hD ?_;rw[hk2,N1 (N0 hlt hp h92 (Aaf hd2 h))];rfl
   have h:(decide ((s.length:Int)<=ST.den (.l 2))||q==0)=false:=h;rw[hE2',hq2]at h;obtain⟨hlt2,hp2⟩:=Afq hd2 h;refine⟨s.length-(0+2),?_⟩;rw[hJ];subst hD;exact⟨0+2,_,rfl,rfl,⟨hE2',.inl hlt2,rfl,hl⟩,by rw[hk2,Afs hlt hp h92 hlt2 hp2]⟩
  ·have h92:charI s (0+1)≠92:=by rw[<-hc2.charI];have h:(c'==92)=false:=h;simpa using h
   refine⟨s.length-(0+1),?_⟩;rw[hJ];subst hD;exact⟨0+1,_,rfl,rfl,⟨hE1,.inl hlt,rfl,hl⟩,by rw[hk2,Aag hlt hp h34 h92]⟩
 ·intro m vs hp' hv
  rw[hJ]at hv;unfold Afo at hv;obtain⟨i,I,hvs,hhp,V,hk2⟩:=hv;rw[hvs,hhp];clear hvs hhp vs hp' hk;cbv;have hE1:ST.den (.bin .add .i64 (.a I) (.l 1))=((i+1:Nat):Int):=V.one;refine⟨λhg=>?_,λc hc=>?_⟩
  ·subst hD;exact Ff hE1 (by have hg:(!decide ((s.length:Int)<=ST.den (.bin .add .i64 (.a I) (.l 1))))=true:=hg;rw[hE1]at hg;simp only[Bool.not_eq_true',decide_eq_false_iff_not]at hg;omega)
  have hc2:=D7 hD hE1 hc;clear hc;cbv;refine⟨_,rfl,rfl,by subst hD;exact hc2.le,λr hr=>?_⟩;have hr2:r=Di c:=by subst hD;exact hr
  clear hr;cbv;refine br hD (λh=>?_) (λh=>?_)<;>cbv
  ·have h:(decide ((s.length:Int)<=ST.den (.bin .add .i64 (.a I) (.l 1)))||r==0)=true:=h
   rw[hE1,hr2]at h;refine Be hD ?_;rw[hk2,N1 (Afp hc2 h)];rfl
  have h:(decide ((s.length:Int)<=ST.den (.bin .add .i64 (.a I) (.l 1)))||r==0)=false:=h;rw[hE1,hr2]at h;obtain⟨hlt,hp⟩:=Afq hc2 h;clear h;refine⟨by subst hD;exact Ff hE1 hlt,λc' hc'=>?_⟩;have hcc:c'=c:=by have:=D7 hD hE1 hc';rw[this.h,hc2.h]
  subst hcc;clear hc';cbv;refine br hD (λh=>?_) (λh=>?_)<;>cbv
  ·have h34:c'=34:=by have h:(c'==34)=true:=h;simpa using h
   refine Be hD ?_;rw[hk2,Wr hlt hp (by rw[<-hc2.charI];exact h34)];exact V.two hlt
  have h34:charI s (i+1)≠34:=by rw[<-hc2.charI];have h:(c'==34)=false:=h;simpa using h
  clear h;refine br hD (λh=>?_) (λh=>?_)<;>cbv
  ·have h92:charI s (i+1)=92:=by rw[<-hc2.charI];have h:(c'==92)=true:=h;simpa using h
   clear h;have hE2':ST.den (.bin .add .i64 (.bin .add .i64 (.a I) (.l 1)) (.l 1))=((i+2:Nat):Int):=V.two hlt;refine⟨λhg=>?_,λd hd=>?_⟩
   ·subst hD;exact Ff hE2' (by have hg:(!decide ((s.length:Int)<=ST.den (.bin .add .i64 (.bin .add .i64 (.a I) (.l 1)) (.l 1))))=true:=hg;rw[hE2']at hg;simp only[Bool.not_eq_true',decide_eq_false_iff_not]at hg;omega)
   have hd2:=D7 hD hE2' hd;clear hd;cbv;refine⟨_,rfl,rfl,by subst hD;exact hd2.le,λq hq=>?_⟩;have hq2:q=Di d:=by subst hD;exact hq
   clear hq;cbv;refine br hD (λh=>?_) (λh=>?_)<;>cbv
   ·have h:(decide ((s.length:Int)<=ST.den (.bin .add .i64 (.bin .add .i64 (.a I) (.l 1)) (.l 1)))||q==0)=true:=h
    rw[hE2',hq2]at h;refine Be hD ?_;rw[hk2,N1 (N0 hlt hp h92 (Aaf hd2 h))];rfl
   have h:(decide ((s.length:Int)<=ST.den (.bin .add .i64 (.bin .add .i64 (.a I) (.l 1)) (.l 1)))||q==0)=false:=h;rw[hE2',hq2]at h;obtain⟨hlt2,hp2⟩:=Afq hd2 h;refine⟨s.length-(i+2),by have:=V.m;omega,?_⟩;rw[hJ];subst hD;exact⟨i+2,_,rfl,rfl,⟨hE2',.inl hlt2,rfl,hl⟩,by rw[hk2,Afs hlt hp h92 hlt2 hp2]⟩
  ·have h92:charI s (i+1)≠92:=by rw[<-hc2.charI];have h:(c'==92)=false:=h;simpa using h
   refine⟨s.length-(i+1),by have:=V.m;omega,?_⟩;rw[hJ];subst hD;exact⟨i+1,_,rfl,rfl,⟨hE1,.inl hlt,rfl,hl⟩,by rw[hk2,Aag hlt hp h34 h92]⟩
def K6(t s:List UInt8)(i:Nat):Int×List UInt8×Bool:=match qdF Bb (s.drop i) with
 |none=>(0,[],false)
 |some x=>(((i+x.1:Nat):Int),t++x.2,true)
def Ft(s:List UInt8)(j:Nat):Int×List UInt8×Bool:=K6 [] s (j+1)
theorem Wq{t s:List UInt8}{i:Nat}(h:qdF Bb (s.drop i)=none):K6 t s i=(0,[],false):=by rw[K6,h]
theorem Adn{t s:List UInt8}{i:Nat}(h:i<s.length)(hb:Bb (charI s i)=true)(hq:charI s i=34):K6 t s i=(((i+1:Nat):Int),t,true):=by
 rw[K6,Pk h hb hq];simp
theorem Akk{t s:List UInt8}{i:Nat}(h:i<s.length)(hb:Bb (charI s i)=true)(hq:charI s i=92)(h2:i+1<s.length)(hb2:Bb (charI s (i+1))=true):K6 t s i=K6 (t++[s.getD (i+1) 0]) s (i+2):=by
 rw[K6,Ye h hb hq h2 hb2,K6];cases qdF Bb (s.drop (i+2)) with
 |none=>rfl
 |some x =>
  simp only[Option.map_some,List.append_assoc,List.singleton_append];congr 2;omega
theorem Ahr{t s:List UInt8}{i:Nat}(h:i<s.length)(hb:Bb (charI s i)=true)(hq:charI s i≠34)(hq2:charI s i≠92):K6 t s i=K6 (t++[s.getD i 0]) s (i+1):=by
 rw[K6,Tl h hb hq hq2,K6];cases qdF Bb (s.drop (i+1)) with
 |none=>rfl
 |some x =>
  simp only[Option.map_some,List.append_assoc,List.singleton_append];congr 2;omega
structure RqI(s t:List UInt8)(i:Nat)(I:Int)(m:Nat):Prop where
 at_:At s i I m
 t:t.length<=i
theorem At.one{s:List UInt8}{i:Nat}{I:Int}{m:Nat}(V:At s i I m)(h:i<s.length):ST.den (.bin .add .i64 (.a I) (.l 1))=((i+1:Nat):Int):=by
 have h1:=V.I;have h2:=V.len;show IntKind.i64.wrap (I+1)=_;rw[A4 (by omega) (by omega)];omega
theorem At.two{s:List UInt8}{i:Nat}{I:Int}{m:Nat}(V:At s i I m)(h:i+1<s.length):ST.den (.bin .add .i64 (.bin .add .i64 (.a I) (.l 1)) (.l 1))=((i+2:Nat):Int):=by
 have h0:=V.one (by omega);have h2:=V.len;show IntKind.i64.wrap (ST.den (.bin .add .i64 (.a I) (.l 1))+1)=_;rw[h0,A4 (by omega) (by omega)];omega
theorem At.den{s:List UInt8}{i:Nat}{I:Int}{m:Nat}(V:At s i I m):ST.den (.a I)=(i:Int):=V.I
theorem Afb{D:Dn}(hD:D=dn){r s:List UInt8}{i:Nat}{a b:ST}(ha:a.den=(i:Int))(hb:b.den=((i+1:Nat):Int))(h:i<s.length)(hr:Am6 r s (D.i a) (D.i b)):r=[s.getD i 0]:=by
 subst hD;have hr:=hr.h;have e1:dn.i a=(i:Int):=ha;have e2:dn.i b=((i+1:Nat):Int):=hb;rw[hr,e1,e2,Int.toNat_natCast,Int.toNat_natCast,Bn h];simp
theorem D9{s:List UInt8}{i j:Nat}{a b:ST}(ha:a.den=(i:Int))(hb:b.den=(j:Int))(h:i<=j)(h2:j<=s.length):SubS (dn.i a) (dn.i b) s:=⟨by show 0<=a.den;omega,by show a.den<=b.den;omega,by show b.den<=_;omega⟩
theorem Akh{c:Int}{s:List UInt8}{i:Nat}(hc:Eu c s i){r:Bool}(hr:r=Bb c)(h:r=true):Bb (charI s i)=true:=by rw[<-hc.charI,<-hr,h]
def rqJ(s:List UInt8)(k:Int×List UInt8×Bool)(m:Nat)(vs:List (Option SV))(hp:List Hl):Prop :=
 ∃(i:Nat) (I:Int) (t:List UInt8),vs=[some (.str s),some (.str t),some (.int .i64 (.a I))]/\hp=[]/\RqI s t i I m/\k=K6 t s i
def spRq:FSpec:=λ_ xs ls K=>∃(s:List UInt8) (j:Nat) (I:Int),xs=[.str s,.int .i64 (.a I)]/\ls=[]/\At s j I (s.length-j)/\j<s.length/\∀e t b,(e,t,b)=Ft s j->K (.tup [.int .i64 (.a e),.str t,.bool (.a b)]) []
theorem Al7{D:Dn}(hD:D=dn){e:Int}{x:ST}{t u:List UInt8}{b:Bool}{y:BT}(h1:x.den=e)(h2:t=u)(h3:y.den=b):Fin (.tup [.int .i64 (.a (D.i x)),.str t,.bool (.a (D.b y))]) (.tup [.int .i64 (.a e),.str u,.bool (.a b)]) [] []:=by
 subst hD h1 h2 h3;exact D6 (LeV.refl _)
theorem Yc:Ay Tryz.prog gl 236 spRq:=by
 refine Bq (gh:=[]) mixed B4 (Ab Aah Ai) Tryz.func236 (by kernel_rfl) (by kernel_rfl) ?_;intro xs ls K h;unfold spRq at h;obtain⟨s,j0,I0,rfl,rfl,V0,hj0,h⟩:=h;obtain⟨k,hk⟩:∃k,k=Ft s j0:=⟨_,rfl⟩;obtain⟨ke,kt,kb⟩:=k;refine⟨_,_,h ke kt kb hk,λD hD=>?_⟩;clear h;rw[Ft]at hk;cbv;obtain⟨J,hJ⟩:∃J,J=rqJ s (ke,kt,kb):=⟨_,rfl⟩;refine⟨[0,7,8],J,⟨rfl,s.length-(j0+1),?_⟩,?_⟩
 ·rw[hJ]
  subst hD;exact⟨j0+1,_,[],rfl,rfl,⟨(V0.step rfl hj0).2,Nat.zero_le _⟩,hk⟩
 intro m vs hp' hv;rw[hJ]at hv;unfold rqJ at hv;obtain⟨i,I,t,rfl,rfl,V,hk2⟩:=hv;clear hk;cbv;refine⟨λhg=>?_,λc hc=>?_⟩
 ·subst hD;exact Ff V.at_.den (by have hg:decide (I<(s.length:Int))=true:=hg;have:=V.at_.I;simp only[decide_eq_true_eq]at hg;omega)
 have hc2:=D7 hD V.at_.den hc;clear hc;cbv;refine⟨_,rfl,rfl,λr hr=>?_⟩;have hr2:r=Bb c:=by subst hD;exact hr
 clear hr;cbv;refine br hD (λh=>?_) (λh=>?_)<;>cbv
 ·have h:(decide (I<(s.length:Int))&&r)=true:=h
  have hlt:i<s.length:=by
   have:=V.at_.I;simp only[Bool.and_eq_true,decide_eq_true_eq]at h;omega
  have hp:=Akh hc2 hr2 (by simp only[Bool.and_eq_true]at h;exact h.2);clear h;refine⟨by subst hD;exact Ff V.at_.den hlt,λc' hc'=>?_⟩;have hcc:c'=c:=by have:=D7 hD V.at_.den hc';rw[this.h,hc2.h]
  subst hcc;clear hc';cbv;refine br hD (λh=>?_) (λh=>?_)<;>cbv
  ·have h34:c'=34:=by have h:(c'==34)=true:=h;simpa using h
   rw[Adn hlt hp (by rw[<-hc2.charI];exact h34)]at hk2;simp only[Prod.mk.injEq]at hk2;obtain⟨e1,e2,e3⟩:=hk2;exact Al7 hD (by rw[e1];exact V.at_.one hlt) e2.symm e3.symm
  have h34:charI s i≠34:=by rw[<-hc2.charI];have h:(c'==34)=false:=h;simpa using h
  clear h;refine⟨by subst hD;exact Ff V.at_.den hlt,λc3 hc3=>?_⟩;have hcc:c3=c':=by have:=D7 hD V.at_.den hc3;rw[this.h,hc2.h]
  subst hcc;clear hc3;cbv;refine br hD (λh=>?_) (λh=>?_)<;>cbv
  ·have h92:charI s i=92:=by rw[<-hc2.charI];have h:(c3==92)=true:=h;simpa using h
   clear h;refine⟨λhg=>?_,λd hd=>?_⟩
   ·subst hD;exact Ff (V.at_.one hlt) (by
     have hg:(!(ST.den (.bin .add .i64 (.a I) (.l 1))==(s.length:Int)))=true:=hg;rw[V.at_.one hlt]at hg;simp only[Bool.not_eq_true',beq_eq_false_iff_ne,ne_eq]at hg;omega)
   have hd2:=D7 hD (V.at_.one hlt) hd;clear hd;cbv;refine⟨_,rfl,rfl,λq hq=>?_⟩;have hq2:q=Bb d:=by subst hD;exact hq
   clear hq;cbv;refine br hD (λh=>?_) (λh=>?_)<;>cbv
   ·have h:((ST.den (.bin .add .i64 (.a I) (.l 1))==(s.length:Int))||!q)=true:=h
    rw[V.at_.one hlt]at h;rw[Wq (N0 hlt hp h92 (by
     rintro⟨h1,h2⟩;rw[<-hd2.charI,<-hq2]at h2;simp only[h2,Bool.not_true,Bool.or_false,beq_iff_eq]at h;omega))]at hk2
    simp only[Prod.mk.injEq]at hk2;obtain⟨e1,e2,e3⟩:=hk2;exact Al7 hD (by rw[e1];rfl) e2.symm e3.symm
   have h:((ST.den (.bin .add .i64 (.a I) (.l 1))==(s.length:Int))||!q)=false:=h;rw[V.at_.one hlt]at h;simp only[Bool.or_eq_false_iff,beq_eq_false_iff_ne,ne_eq,Bool.not_eq_false']at h;have hlt2:i+1<s.length:=by omega
   have hp2:=Akh hd2 hq2 h.2;clear h;have hE3:=V.at_.two hlt2;refine⟨by subst hD;exact D9 (V.at_.one hlt) hE3 (by omega) (by omega),λr1 hr1=>?_⟩;have hr1':=Afb hD (V.at_.one hlt) hE3 hlt2 hr1;clear hr1;cbv;refine⟨⟨?_⟩,λr3 hr3=>?_⟩
   ·have:=V.t;have:=V.at_.len;rw[hr1'];simp only[List.length_singleton];omega
   have hr3':r3=t++[s.getD (i+1) 0]:=by rw[hr3.h,hr1']
   clear hr3;cbv;refine⟨s.length-(i+2),by have:=V.at_.m;omega,?_⟩;rw[hJ];subst hD;refine⟨i+2,_,r3,rfl,rfl,⟨⟨by omega,V.at_.two hlt2,rfl,V.at_.len⟩,?_⟩,?_⟩
   ·have:=V.t;rw[hr3'];simp only[List.length_append,List.length_singleton];omega
   ·rw[hk2,Akk hlt hp h92 hlt2 hp2,hr3']
  ·have h92:charI s i≠92:=by rw[<-hc2.charI];have h:(c3==92)=false:=h;simpa using h
   clear h;refine⟨by subst hD;exact D9 V.at_.den (V.at_.one hlt) (by omega) (by omega),λr1 hr1=>?_⟩;have hr1':=Afb hD V.at_.den (V.at_.one hlt) hlt hr1;clear hr1;cbv;refine⟨⟨?_⟩,λr3 hr3=>?_⟩
   ·have:=V.t;have:=V.at_.len;rw[hr1'];simp only[List.length_singleton];omega
   have hr3':r3=t++[s.getD i 0]:=by rw[hr3.h,hr1']
   clear hr3;cbv;refine⟨s.length-(i+1),by have:=V.at_.m;omega,?_⟩;rw[hJ];subst hD;refine⟨i+1,_,r3,rfl,rfl,⟨(V.at_.step rfl hlt).2,?_⟩,?_⟩
   ·have:=V.t;rw[hr3'];simp only[List.length_append,List.length_singleton];omega
   ·rw[hk2,Ahr hlt hp h34 h92,hr3']
 ·have h:(decide (I<(s.length:Int))&&r)=false:=h
  rw[Wq (by
   by_cases hlt:i<s.length
   ·refine Yf hlt ?_
    rw[<-hc2.charI,<-hr2];have:=V.at_.I;have e:decide (I<(s.length:Int))=true:=by simp only[decide_eq_true_eq];omega
    rw[e]at h;simpa using h
   ·exact Afr (by omega))]at hk2
  simp only[Prod.mk.injEq]at hk2;obtain⟨e1,e2,e3⟩:=hk2;exact Al7 hD (by rw[e1];rfl) e2.symm e3.symm
structure QuI(s t:List UInt8)(i:Nat)(I:Int)(m:Nat):Prop where
 at_:At s i I m
 t:t.length<=2 * i+1
 s:s.length<=500
def Gp(c:Int):Bool:=c==9||c==32
def Lz(p:Int->Bool):FSpec:=λ_ xs ls K=>∃(c:Int),xs=[.int .u8 (.a c)]/\ls=[]/\∀r,r=p c->K (.bool (.a r)) []
theorem Amt:Ay Tryz.prog gl 237 (Lz Gp):=by
 refine Bq (gh:=[]) mixed B4 Ai Tryz.func237 (by kernel_rfl) (by kernel_rfl) ?_;intro xs ls K h;unfold Lz at h;obtain⟨c,rfl,rfl,h⟩:=h;obtain⟨k,hk⟩:∃k,k=Gp c:=⟨_,rfl⟩;refine⟨_,_,h k hk,λD hD=>?_⟩;clear h;cbv;exact Aw hD hk.symm
def blankB(c:UInt8):Bool:=Gp (c.toNat:Int)
def Iy(s:List UInt8):List UInt8:=s.dropWhile blankB
def Fj(s:List UInt8):List UInt8:=(s.reverse.dropWhile blankB).reverse
def trimF(s:List UInt8):List UInt8:=Fj (Iy s)
theorem Hf{c:UInt8}{r:List UInt8}(h:blankB c=true):Iy (c :: r)=Iy r:=by
 rw[Iy,List.dropWhile_cons_of_pos h];rfl
theorem Sq{s:List UInt8}(h:s=[]\/Gp (charI s 0)=false):Iy s=s:=by
 rcases h with rfl|h
 ·rfl
 ·cases s with
  |nil=>rfl
  |cons c r=>exact List.dropWhile_cons_of_neg (by rw[show blankB c=false from h];simp)
theorem So{c:UInt8}{r:List UInt8}(h:blankB c=true):Fj (r++[c])=Fj r:=by
 rw[Fj,List.reverse_append,List.reverse_singleton,List.singleton_append,List.dropWhile_cons_of_pos h];rfl
theorem Sn{s:List UInt8}(h:s=[]\/Gp (charI s (s.length-1))=false):Fj s=s:=by
 rcases h with rfl|h
 ·rfl
 ·rcases List.eq_nil_or_concat s with rfl|⟨r,c,rfl⟩
  ·rfl
  ·have:charI (r++[c]) ((r++[c]).length-1)=(c.toNat:Int):=by simp[charI]
   rw[List.concat_eq_append]at *;rw[this]at h;rw[Fj,List.reverse_append,List.reverse_singleton,List.singleton_append,List.dropWhile_cons_of_neg (by rw[show blankB c=false from h];simp)];simp
theorem drop1{s:List UInt8}(h:0<s.length):s=s.getD 0 0 :: s.drop 1:=by
 have:=Bn (i:=0) h;simpa using this
theorem Wi{s:List UInt8}(h:0<s.length):s=s.take (s.length-1)++[s.getD (s.length-1) 0]:=by
 rw[Ib (show s.length-1<s.length by omega)]
 conv=>lhs;rw[<-List.take_append_drop (s.length-1) s]
 congr 1;rw[List.drop_eq_getElem_cons (by omega),show s.length-1+1=s.length by omega,List.drop_length]
theorem Hh{D:Dn}(hD:D=dn){r s:List UInt8}{i j:Nat}{a b:ST}(ha:a.den=(i:Int))(hb:b.den=(j:Int))(hr:Am6 r s (D.i a) (D.i b)):r=(s.drop i).take (j-i):=by
 subst hD;have hr:=hr.h;have e1:dn.i a=(i:Int):=ha;have e2:dn.i b=(j:Int):=hb;rw[hr,e1,e2,Int.toNat_natCast,Int.toNat_natCast]
structure TrI(s:List UInt8)(m:Nat):Prop where
 m:m=s.length
 len:s.length<=9223372036854775807
def trJ(F:List UInt8->List UInt8)(k:List UInt8)(m:Nat)(vs:List (Option SV))(hp:List Hl):Prop :=
 ∃(s:List UInt8),vs=[some (.str s)]/\hp=[]/\TrI s m/\k=F s
def Pg(F:List UInt8->List UInt8):FSpec:=λ_ xs ls K=>∃(s:List UInt8),xs=[.str s]/\ls=[]/\s.length<=9223372036854775807/\∀r,r=F s->K (.str r) []
theorem Us{r k:List UInt8}(h:r=k):Fin (.str r) (.str k) [] []:=by subst h;exact D6 (LeV.refl _)
theorem Adk:Ay Tryz.prog gl 184 (Pg trimF):=by
 refine Bq (gh:=[]) mixed B4 (Ab Amt Ai) Tryz.func184 (by kernel_rfl) (by kernel_rfl) ?_;intro xs ls K h;unfold Pg at h;obtain⟨s0,rfl,rfl,hl,h⟩:=h;obtain⟨k,hk⟩:∃k,k=trimF s0:=⟨_,rfl⟩;refine⟨_,_,h k hk,λD hD=>?_⟩;clear h;cbv;obtain⟨J,hJ⟩:∃J,J=trJ trimF k:=⟨_,rfl⟩;refine⟨[0],J,⟨rfl,s0.length,?_⟩,?_⟩
 ·rw[hJ]
  subst hD;exact⟨s0,rfl,rfl,⟨rfl,hl⟩,hk⟩
 clear hk hl;intro m vs hp' hv;rw[hJ]at hv;unfold trJ at hv;obtain⟨s,rfl,rfl,V,hk⟩:=hv;cbv;refine⟨λhg=>?_,λc hc=>?_⟩
 ·subst hD
  have hg:decide (0<(s.length:Int))=true:=hg;simp only[decide_eq_true_eq]at hg;exact Ff (e:=.l 0) (i:=0) rfl (by omega)
 have hc2:=D7 (e:=.l 0) (i:=0) hD rfl hc;clear hc;cbv;refine⟨_,rfl,rfl,λq hq=>?_⟩;have hq2:q=Gp c:=by subst hD;exact hq
 clear hq;cbv;refine br hD (λh=>?_) (λh=>?_)<;>cbv
 ·have h:(decide (0<(s.length:Int))&&q)=true:=h
  simp only[Bool.and_eq_true,decide_eq_true_eq]at h;have h0:0<s.length:=by have:=h.1;omega
  have hb:blankB (s.getD 0 0)=true:=by rw[blankB,hc2.of,<-hq2];exact h.2
  clear h;refine⟨by subst hD;exact D9 (i:=1) (j:=s.length) (a:=.l 1) (b:=.len s) rfl rfl (by omega) (by omega),λr hr=>?_⟩;have hr2:r=s.drop 1:=by
   rw[Hh (i:=1) (j:=s.length) hD rfl rfl hr];exact List.take_of_length_le (by simp)
  clear hr;cbv;refine⟨s.length-1,by have:=V.m;omega,?_⟩;rw[hJ];subst hD;refine⟨r,rfl,rfl,⟨by rw[hr2];simp,by rw[hr2];have:=V.len;simp;omega⟩,?_⟩;rw[hk,trimF,drop1 h0,Hf hb,hr2];rfl
 have h:(decide (0<(s.length:Int))&&q)=false:=h;have hk3:k=Fj s:=by
  rw[hk,trimF,Sq]
  by_cases h0:0<s.length
  ·right
   rw[<-hc2.charI,<-hq2];have e:decide (0<(s.length:Int))=true:=by simp only[decide_eq_true_eq];omega
   rw[e]at h;simpa using h
  ·left;exact List.eq_nil_of_length_eq_zero (by omega)
 clear hk h hc2 hq2 hJ J;obtain⟨J,hJ⟩:∃J,J=trJ Fj k:=⟨_,rfl⟩;refine⟨[0],J,⟨rfl,s.length,?_⟩,?_⟩
 ·rw[hJ]
  subst hD;exact⟨s,rfl,rfl,⟨rfl,V.len⟩,hk3⟩
 clear hk3 V;intro m vs hp' hv;rw[hJ]at hv;unfold trJ at hv;obtain⟨s,rfl,rfl,V,hk⟩:=hv;have hE:0<s.length->ST.den (.bin .sub .i64 (.len s) (.l 1))=((s.length-1:Nat):Int):=by
  intro h0;have:=V.len;show IntKind.i64.wrap ((s.length:Int)-1)=_;rw[A4 (by omega) (by omega)];omega
 cbv;refine⟨λhg=>?_,λc hc=>?_⟩
 ·subst hD
  have hg:decide (0<(s.length:Int))=true:=hg;simp only[decide_eq_true_eq]at hg;exact Ff (i:=s.length-1) (hE (by omega)) (by omega)
 by_cases h0:0<s.length
 ·have hc2:=D7 (i:=s.length-1) hD (hE h0) hc
  clear hc;cbv;refine⟨_,rfl,rfl,λq hq=>?_⟩;have hq2:q=Gp c:=by subst hD;exact hq
  clear hq;cbv;refine br hD (λh=>?_) (λh=>?_)<;>cbv
  ·have h:(decide (0<(s.length:Int))&&q)=true:=h
   simp only[Bool.and_eq_true,decide_eq_true_eq]at h;have hb:blankB (s.getD (s.length-1) 0)=true:=by rw[blankB,hc2.of,<-hq2];exact h.2
   clear h;have hE2:=hE h0;refine⟨by subst hD;exact D9 (i:=0) (j:=s.length-1) (a:=.l 0) rfl hE2 (by omega) (by omega),λr hr=>?_⟩;have hr2:r=s.take (s.length-1):=by
    rw[Hh (i:=0) (j:=s.length-1) hD rfl hE2 hr];rfl
   clear hr;cbv;refine⟨s.length-1,by have:=V.m;omega,?_⟩;rw[hJ];subst hD;refine⟨r,rfl,rfl,⟨by rw[hr2];simp,by rw[hr2];have:=V.len;simp;omega⟩,?_⟩;rw[hk,Wi h0,So hb,hr2]
  ·have h:(decide (0<(s.length:Int))&&q)=false:=h
   refine Us ?_;rw[hk,Sn]
   right
   rw[<-hc2.charI,<-hq2];have e:decide (0<(s.length:Int))=true:=by simp only[decide_eq_true_eq];omega
   rw[e]at h;simpa using h
 ·have hs:s=[]:=List.eq_nil_of_length_eq_zero (by omega)
  subst hs;clear hc hE;cbv;refine⟨_,rfl,rfl,λq hq=>?_⟩;cbv;refine br hD (λh=>?_) (λh=>?_)<;>cbv
  ·have h:(decide ((0:Int)<0)&&q)=true:=h
   simp at h
  ·refine Us ?_
   rw[hk];rfl
end Go.Proofs.YtdoogdbjiijifaaGreatDoor
