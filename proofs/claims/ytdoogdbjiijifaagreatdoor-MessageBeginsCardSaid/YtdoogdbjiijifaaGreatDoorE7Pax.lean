/- A part of the proof: contracts of functions, or the executor and its soundness. No conditions. -/
import Derived.Shelf.Strconv.ErrVarParseInt
import Derived.Shelf.Strconv.ParseIntPublic10
import Derived.Shelf.Strings.SlTrimAscii
import Derived.Shelf.Strings.Builder1
import Derived.Shelf.Strings.Builder2
import Derived.Shelf.Strings.OnBuilder
import Derived.Shelf.Strings.Trim
import Derived.Shelf.Small.Utf8
import Derived.Shelf.Small.Strs
import Derived.Shelf.Small.Wraps
import Derived.Shelf.Strings.BuilderF
import Derived.Shelf.Strings.BuilderK
import Derived.Shelf.Strings.BuilderRune
import Derived.Shelf.Strings.Builder2Cap
import Derived.Shelf.Strconv.Atoi
import Derived.Shelf.Strconv.Itoa0
import Derived.Shelf.Strconv.Itoa1
import Derived.Shelf.LaysM
import Derived.Shelf.Strconv.Itoa2
import Derived.Shelf.Strconv.Itoa3
import Derived.Shelf.Strconv.Itoa4
import Derived.Shelf.Strconv.ParseIntEmpty
import Derived.Shelf.Strconv.Clone
import Derived.Shelf.Strconv.SyntaxError
import Derived.Shelf.LaysC
import Derived.Shelf.Strconv.ToError
import Derived.Shelf.Strconv.Lower
import Derived.Shelf.Strconv.ParseUint10
import Derived.Shelf.Strconv.ParseUint10Empty
import Derived.Shelf.Strconv.ParseUint10Any
import Derived.Shelf.Strconv.ParseInt10
import Derived.Shelf.Strconv.RangeError
import Derived.Shelf.Strconv.ToErrorRange
import Derived.Shelf.Strconv.ParseUintEmpty
import Derived.Shelf.Strconv.ParseUint10b64
import Derived.Shelf.Strconv.ParseUint10b32
import Derived.Shelf.Strconv.ParseUint10b16
import Derived.Shelf.Strconv.ParseUint10b8
import Derived.Shelf.Strconv.ParseUint10At
import Derived.Shelf.Strconv.ParseInt10At64
import Derived.Shelf.Strconv.ParseInt10At32
import Derived.Shelf.Strconv.ParseInt10At16
import Derived.Shelf.Strconv.ParseInt10At8
import Derived.Shelf.Strconv.ParseInt10All
import Derived.Shelf.Strings.Search1
import Derived.Shelf.Strings.Search2
import Derived.Shelf.Strings.Search3
import Derived.Shelf.Strings.Cut
import Derived.Shelf.Strings.Shaped
import Derived.Shelf.GgClosure.StringsIndexFunc
import Derived.Ground.GgwProg
import Derived.Shelf.GgClosure.StringsIndexFuncTop
import Derived.Shelf.Strings.Prefix
import Derived.Shelf.Unicode.Latin
import Derived.Shelf.Unicode.Decode
import Derived.Shelf.Strings.Runes
import Derived.Shelf.Strings.AsciiSet
import Derived.Shelf.Unicode.DecodeSlow
import Derived.Shelf.Unicode.DecodeAny
import Derived.Shelf.Unicode.DecodeLast
import Derived.Shelf.Unicode.CaseLookup
import Derived.Shelf.Unicode.CaseConvert
import Derived.Shelf.Unicode.CaseTo
import Derived.Shelf.Unicode.CaseLaid
import Derived.Shelf.Strings.FuncGrows
import Derived.Shelf.Strings.BuilderCap
import Derived.Shelf.Bytes.SlIndexAt
import Derived.Ground.SlgnProg
import Derived.Shelf.SlicesE.Equal
import Derived.Ground.SlgfProg
import Derived.Shelf.SlicesE.IndexFunc
import Derived.Shelf.SlicesE.DeleteFunc
import Derived.Shelf.Bytes.IndexByte
import Derived.Lib.Walk
import Derived.WalkKit
import Derived.Test.YtdoogdbjiijifaaGreatDoorE7Paw
namespace Go.Proofs.YtdoogdbjiijifaaGreatDoor
open Go.Sx
set_option maxRecDepth 10000
set_option maxHeartbeats 2000000
def Cd(p:Int->Bool)(y:Int):List UInt8->Nat->List UInt8->Option (List (List UInt8))
 | [],md,cur=>if md=0 then some [cur] else none
 |c :: r,md,cur =>
  if !p (c.toNat:Int) then none
  else if md=0 then
   (if (c.toNat:Int)=34 then Cd p y r 1 (cur++[c])
    else if (c.toNat:Int)=y then (Cd p y r 0 []).map (cur :: ·)
    else Cd p y r 0 (cur++[c]))
  else if md=1 then
   (if (c.toNat:Int)=34 then Cd p y r 0 (cur++[c])
    else if (c.toNat:Int)=92 then Cd p y r 2 (cur++[c])
    else Cd p y r 1 (cur++[c]))
  else Cd p y r 1 (cur++[c])
theorem Ux(p:Int->Bool)(y:Int):∀(n:Nat) (r cur:List UInt8),r.length<=n->Cd p y r 1 cur=match gG p r with
  |none=>none
  |some x=>Cd p y (r.drop x.1) 0 (cur++r.take x.1)
 |n,[],cur,_=>by simp[Cd,gG]
 |0,c :: r,cur,h=>by simp at h
 |n+1,c :: r,cur,h=>by
  simp only[QT]at h;rw[Ed];simp only[Cd]
  by_cases h1:p (c.toNat:Int)=true
  .rw[h1]
   simp only[YN,QR,if_false,if_true,Nat.one_ne_zero]
   by_cases h2:(c.toNat:Int)=34
   .simp only[QE h2,List.drop_succ_cons,List.drop_zero,UB,List.take_zero]
   .simp only[QD h2]
    by_cases h3:(c.toNat:Int)=92
    .simp only[QE h3]
     cases r with
     |nil=>simp[Cd]
     |cons d r' =>
      simp only[Cd]
      by_cases h4:p (d.toNat:Int)=true
      .rw[h4]
       simp only[YN,QR,if_false,(by decide:¬(2:Nat)=0),(by decide:¬(2:Nat)=1)];rw[Ux p y n r' _ (by simp at h;omega)];cases gG p r' with
       |none=>rfl
       |some x=>simp
      .have h4:p (d.toNat:Int)=false:=by simpa using h4
       rw[h4];simp
    .simp only[QD h3]
     rw[Ux p y n r _ (by omega)];cases gG p r with
     |none=>rfl
     |some x=>simp
  .have h1:p (c.toNat:Int)=false:=by simpa using h1
   rw[h1];simp
def cut(s:List UInt8)(a b:Nat):List UInt8:=(s.drop a).take (b-a)
variable {s:List UInt8}{a i:Nat}{y n kn:Int}{f g kr:Nat->List SV}{l kl:List (List UInt8)}{D:Dn}{k:Option (List (List UInt8))}{kb lD:Bool}{x:BT}{o:Option (Nat×List UInt8)}
theorem Aem(h:i<s.length)(ha:a<=i):cut s a i++[s.getD i 0]=cut s a (i+1):=by
 unfold cut;rw[show i+1-a=(i-a)+1 by omega,List.take_add_one];congr 1;rw[XL,show a+(i-a)=i by omega,QA h,Pe h];rfl
theorem jv{n:Nat}(ha:a<=i):cut s a i++(s.drop i).take n=cut s a (i+n):=by
 unfold cut;rw[show i+n-a=(i-a)+n by omega,List.take_add,UR,show a+(i-a)=i by omega]
theorem Wi:cut s a a=[]:=by simp[cut]
theorem jw:cut s a s.length=s.drop a:=by
 unfold cut;exact ZT (by simp)
def nJ(y:Int)(s:List UInt8)(out:List (List UInt8))(a i:Nat):Option (List (List UInt8)):=(Cd A8 y (s.drop i) 0 (cut s a i)).map (out++·)
theorem Aid{out:List (List UInt8)}(h:i<s.length)(hb:A8 (aC s i)=false):nJ y s out a i=none:=by
 unfold aC at hb;rw[nJ,drop_at h,Cd,hb];rfl
theorem Aib{out:List (List UInt8)}(h:i<s.length)(hb:A8 (aC s i)=true)(jQ:aC s i≠34)(hy:aC s i=y):nJ y s out a i=nJ y s (out++[cut s a i]) (i+1) (i+1):=by
 unfold aC at hb jQ hy;rw[nJ,nJ,drop_at h,Cd,hb,Wi];simp only[YN,QR,if_false,if_true,QD jQ,QE hy];cases Cd A8 y (s.drop (i+1)) 0 []<;>simp
theorem Aco{out:List (List UInt8)}(h:i<s.length)(ha:a<=i)(hb:A8 (aC s i)=true)(jQ:aC s i≠34)(hy:aC s i≠y):nJ y s out a i=nJ y s out a (i+1):=by
 have e:=Aem h ha;unfold aC at hb jQ hy;rw[nJ,nJ,drop_at h,Cd,hb];simp only[YN,QR,if_false,if_true,QD jQ,QD hy];rw[e]
theorem Ye{out:List (List UInt8)}(h:i<s.length)(ha:a<=i)(hb:A8 (aC s i)=true)(jQ:aC s i=34):nJ y s out a i=match gG A8 (s.drop (i+1)) with
  |none=>none
  |some x=>nJ y s out a (i+1+x.1):=by
 have e:=Aem h ha;unfold aC at hb jQ;rw[nJ,drop_at h,Cd,hb];simp only[YN,QR,if_false,if_true,QE jQ];rw[e,Ux A8 y _ _ _ (QK _)];cases gG A8 (s.drop (i+1)) with
 |none=>rfl
 |some x =>
  simp only[nJ];rw[UR,jv (by omega)]
theorem Aic{out:List (List UInt8)}(h:i=s.length):nJ y s out a i=some (out++[s.drop a]):=by
 rw[nJ,h,ZR,jw];rfl
theorem Tk{p:Int->Bool}:∀(n:Nat) (r:List UInt8) (x:Nat×List UInt8),r.length<=n->gG p r=some x->0<x.1/\x.1<=r.length
 |n,[],x,_,h=>by simp[gG]at h
 |0,c :: r,x,hl,h=>by simp at hl
 |n+1,c :: r,x,hl,h=>by
  simp only[QT]at hl ⊢;rw[Ed]at h
  split at h
  .cases h
  split at h
  .cases h;exact⟨by omega,by simp⟩
  split at h
  .cases r with
   |nil=>cases h
   |cons d r' =>
    simp only at h
    split at h
    .cases h
    .obtain⟨z,hz,rfl⟩:=Option.map_eq_some_iff.1 h
     have:=Tk n r' z (by simp at hl;omega) hz;simp only[QT];omega
  .obtain⟨z,hz,rfl⟩:=Option.map_eq_some_iff.1 h
   have:=Tk n r z (by omega) hz;omega
theorem Bz.more{f':Nat->List SV}{n':Int}{a:List (List UInt8)}{x:List UInt8}(R:Bz f n a)(hg:g 0=[.str x])(h:Ts f' n' n 1 f g)(hl:a.length<9223372036854775807):Bz f' n' (a++[x]):=by
 have h1:=R.n;refine⟨by rw[h.len,h1];simp,λi hi=>?_,by simp;omega⟩;simp only[QW,YW]at hi
 by_cases e:i<a.length
 .rw[h.lo i (by omega),R.f i e,QC,QC,QJ e]
 .have:i=a.length:=by omega
  subst this;rw[h.hi a.length 0 (by rw[h1];simp) (by simp),hg];simp
theorem Bz.nil:Bz (λ_=>[]) 0 []:=⟨rfl,by simp,by simp⟩
def Da(l:List (List UInt8))(i:Nat):List SV:=[.str (l.getD i [])]
theorem Bz.row(h:l.length<=9223372036854775807):Bz (Da l) l.length l:=⟨rfl,λ_ _=>rfl,h⟩
structure PaI(s:List UInt8)(out:List (List UInt8))(a i:Nat)(A I:Int)(m:Nat):Prop where
 at_:At s i I m
 vS:a<=i
 A:ST.den (.a A)=(a:Int)
 out:out.length<=i
 s:s.length<=100000
def paJ(s:List UInt8)(y:Int)(k:Option (List (List UInt8)))(m:Nat)(vs:List (Option SV))(hp:List Hl):Prop :=
 ∃(i a:Nat) (I A n:Int) (nl:Bool) (f:Nat->List SV) (out:List (List UInt8)),vs=[some (.str s),some (.int .u8 (.a y)),some (.eD (.a nl) (.a n) 1 f 0),some (.int .i64 (.a A)),some (.int .i64 (.a I))]/\hp=[.tail 9 (.a n) 1]/\
  PaI s out a i A I m/\Bz f n out/\k=nJ y s out a i
def Hr(y:Int)(s:List UInt8):Option (List (List UInt8)):=Cd A8 y s 0 []
def Ahr(F:Int->List UInt8->Option (List (List UInt8))):aD:=λ_ xs ls K=>∃(s:List UInt8) (y:Int),xs=[.str s,.int .u8 (.a y)]/\ls=[]/\s.length<=100000/\∀(k:Option (List (List UInt8))) (n:Int) (b nb:Bool),k=F y s->n=((k.getD []).length:Int)->b=k.isSome->nb=k.isNone->K (.tup [.sl (.a nb) (.a n) 1 (Da (k.getD [])),.bool (.a b)]) []
theorem Y1(hD:D=dn)(hk:k=none)(fW:kn=((k.getD []).length:Int))(jV:kb=k.isSome)(eS:lD=k.isNone)(_hkr:kr=Da (k.getD [])):
  Fin (.tup [.sl (.a (D.b (.l true))) (.a (D.i (.l 0))) 1 g,.bool (.a (D.b (.l false)))]) (.tup [.sl (.a lD) (.a kn) 1 kr,.bool (.a kb)]) [] []:=by
 subst hD hk;refine Fb (.tup (.cons (.sl ?_ ?_ ?_) (.cons (RJ ?_) .nil)))
 .rw[eS];rfl
 .rw[fW];rfl
 .intro i hi
  have hi:(i:Int)<0:=hi;omega
 .rw[jV];rfl
theorem Ak6(hD:D=dn)(hk:k=some l)(fW:kn=((k.getD []).length:Int))(jV:kb=k.isSome)(eS:lD=k.isNone)(gO:kr=Da (k.getD []))
   (R:Bz f n l)  {y:ST} (hy:y.den=n) (hx:x.den=false):Fin (.tup [.sl (.a (D.b x)) (.a (D.i y)) 1 f,.bool (.a (D.b (.l true)))]) (.tup [.sl (.a lD) (.a kn) 1 kr,.bool (.a kb)]) [] []:=by
 subst hD hk;refine Fb (.tup (.cons (.sl ?_ ?_ ?_) (.cons (RJ ?_) .nil)))
 .rw[eS];exact hx
 .rw[fW];show y.den=_;rw[hy];exact R.n
 .intro i hi
  have hi:(i:Int)<y.den:=hi;rw[R.f i (by have:=R.n;omega),gO];rfl
 .rw[jV];rfl
theorem Amx:Aw Tryz.prog gl 183 (Ahr Hr):=by
 refine Bd (gh:=[(1,[.attach 6 9])]) mixed Be (Ab Acl (Ab Zz Ai)) Tryz.func183 (by kernel_rfl) (by kernel_rfl) ?_;intro xs ls K h;unfold Ahr at h;obtain⟨s,y,rfl,rfl,hl,h⟩:=h;obtain⟨k,hk⟩:∃k,k=Hr y s:=⟨_,rfl⟩;obtain⟨kn,fW⟩:∃kn:Int,kn=((k.getD []).length:Int):=⟨_,rfl⟩;obtain⟨kb,jV⟩:∃kb,kb=k.isSome:=⟨_,rfl⟩;obtain⟨lD,eS⟩:∃lD,lD=k.isNone:=⟨_,rfl⟩;refine⟨_,_,h k kn kb lD hk fW jV eS,λD hD=>?_⟩;clear h;obtain⟨kr,gO⟩:∃kr,kr=Da (k.getD []):=⟨_,rfl⟩;rw[<-gO];have hk:k=nJ y s [] 0 0:=by
  rw[hk,Hr,nJ,Wi];simp
 cbv;obtain⟨J,hJ⟩:∃J,J=paJ s y k:=⟨_,rfl⟩;refine⟨[0,1,6,7,8],J,⟨rfl,s.length,?_⟩,?_⟩
 .rw[hJ]
  subst hD;exact⟨0,0,_,_,_,_,_,[],rfl,rfl,⟨At.zero (by omega),by omega,rfl,by simp,hl⟩,Bz.nil,hk⟩
 clear hk;intro m vs dS hv;rw[hJ]at hv;unfold paJ at hv;obtain⟨i,a,I,A,n,nl,f,out,rfl,rfl,V,R,hk⟩:=hv;cbv;refine br hD (λh=>?_) (λh=>?_)<;>cbv
 .have aA:=V.at_.lt (QS (p:=I<(s.length:Int)) h)
  clear h;refine⟨V.at_.nU hD aA,λc hc=>?_⟩;have cQ:=Dm hD V.at_.den hc;clear hc;cbv;refine⟨_,rfl,rfl,λr hr=>?_⟩;have cP:r=A8 c:=by subst hD;exact hr
  clear hr;cbv;refine br hD (λh=>?_) (λh=>?_)<;>cbv
  .have h:(!r)=true:=h
   rw[Aid aA (by rw[<-cQ.aC,<-cP];simpa using h)]at hk;exact Y1 hD hk fW jV eS gO
  have hp:A8 (aC s i)=true:=by have h:(!r)=false:=h;rw[<-cQ.aC,<-cP];simpa using h
  clear h;refine⟨V.at_.nU hD aA,λc' jA=>?_⟩;obtain rfl:c'=c:=by have:=Dm hD V.at_.den jA;rw[this.h,cQ.h]
  clear jA;cbv;refine br hD (λh=>?_) (λh=>?_)<;>cbv
  .have jQ:aC s i=34:=by rw[<-cQ.aC];have h:(c'==34)=true:=h;simpa using h
   clear h;refine⟨s,i,_,rfl,rfl,by subst hD;exact⟨V.at_.le,V.at_.I,rfl,V.at_.len⟩,aA,λe t b he=>?_⟩;rw[Ye aA V.vS hp jQ]at hk;cbv;refine br hD (λh=>?_) (λh=>?_)<;>cbv
   .have h:(!b)=true:=h
    have hn:gG A8 (s.drop (i+1))=none:=by
     cases hq:gG A8 (s.drop (i+1)) with
     |none=>rfl
     |some x =>
      rw[Fp,K3,hq]at he;simp only[Prod.mk.injEq]at he;rw[he.2.2]at h;cases h
    rw[hn]at hk;exact Y1 hD hk fW jV eS gO
   .have h:(!b)=false:=h
    obtain⟨x,hx⟩:∃x,gG A8 (s.drop (i+1))=some x:=by
     cases hq:gG A8 (s.drop (i+1)) with
     |none =>
      rw[Fp,K3,hq]at he;simp only[Prod.mk.injEq]at he;rw[he.2.2]at h;cases h
     |some x=>exact⟨x,rfl⟩
    rw[hx]at hk;simp only at hk;rw[Fp,K3,hx]at he;simp only[Prod.mk.injEq]at he;have hlen:=Tk _ _ x (QK _) hx;rw[ZQ]at hlen;have zT:ST.den (.a e)=((i+1+x.1:Nat):Int):=he.1;clear he h;refine⟨s.length-(i+1+x.1),by have:=V.at_.m;omega,?_⟩;rw[hJ];subst hD;refine⟨i+1+x.1,a,_,_,_,_,f,out,rfl,rfl,⟨⟨by omega,zT,rfl,V.at_.len⟩,by have:=V.vS;omega,V.A,by have:=V.out;omega,V.s⟩,R,hk⟩
  have jQ:aC s i≠34:=by rw[<-cQ.aC];have h:(c'==34)=false:=h;simpa using h
  clear h;refine br hD (λh=>?_) (λh=>?_)<;>cbv
  .have hy:aC s i=y:=by rw[<-cQ.aC];have h:(c'==y)=true:=h;simpa using h
   clear h;rw[Aib aA hp jQ hy]at hk;refine⟨by subst hD;exact Ey V.A V.at_.den V.vS (by omega),λr1 eX=>?_⟩;have iD:r1=cut s a i:=Jq hD V.A V.at_.den eX;clear eX;cbv;intro g hg;have lJ:g 0=[.str r1]:=hg.h 0 _ rfl;clear hg;cbv;refine⟨?_,λf' n' cR=>?_⟩
   .have:=V.out;have:=V.s;have:=R.n;subst hD;exact⟨rfl,by show (n+1) * 16<=_;omega,by show n+1<=_;omega⟩
   have R':Bz f' n' (out++[cut s a i]):=by
    subst hD;exact R.more (by rw[lJ,iD]) cR (by have:=V.out;have:=V.s;omega)
   clear cR lJ;cbv;refine⟨s.length-(i+1),(V.at_.step hD aA).1,?_⟩;rw[hJ];subst hD;exact⟨i+1,i+1,_,_,_,_,f',_,rfl,rfl,⟨(V.at_.step rfl aA).2,QK _,(V.at_.step rfl aA).2.I,by have:=V.out;simp;omega,V.s⟩,R',hk⟩
  .have hy:aC s i≠y:=by rw[<-cQ.aC];have h:(c'==y)=false:=h;simpa using h
   clear h;rw[Aco aA V.vS hp jQ hy]at hk;refine⟨s.length-(i+1),(V.at_.step hD aA).1,?_⟩;rw[hJ];subst hD;exact⟨i+1,a,_,_,_,_,f,out,rfl,rfl,⟨(V.at_.step rfl aA).2,by have:=V.vS;omega,V.A,by have:=V.out;omega,V.s⟩,R,hk⟩
 .have hi:=V.at_.eq (QZ (p:=I<(s.length:Int)) h)
  clear h;rw[Aic hi]at hk;refine⟨by subst hD;exact Ey (s:=s) (j:=s.length) (b:=.len s) V.A rfl (by have:=V.vS;omega) (QK _),λr1 eX=>?_⟩;have iD:r1=s.drop a:=by
   have:=Jq (j:=s.length) (b:=.len s) hD V.A rfl eX;rw[this];exact ZT (by simp)
  clear eX;cbv;intro g hg;have lJ:g 0=[.str r1]:=hg.h 0 _ rfl;clear hg;cbv;refine⟨?_,λf' n' cR=>?_⟩
  .have:=V.out;have:=V.s;have:=R.n;subst hD;exact⟨rfl,by show (n+1) * 16<=_;omega,by show n+1<=_;omega⟩
  have R':Bz f' n' (out++[s.drop a]):=by
   subst hD;exact R.more (by rw[lJ,iD]) cR (by have:=V.out;have:=V.s;omega)
  clear cR lJ;cbv;refine Ak6 hD hk fW jV eS gO R' rfl ?_;show (nl&&false)=false;simp
theorem Nk(p:Int->Bool)(y:Int):∀(r:List UInt8) (md:Nat) (cur:List UInt8) (l:List (List UInt8)),Cd p y r md cur=some l->l.length<=r.length+1/\0<l.length/\∀x∈l,x.length<=cur.length+r.length
 | [],md,cur,l,h=>by
  simp only[Cd]at h
  split at h
  .cases h;simp
  .cases h
 |c :: r,md,cur,l,h=>by
  have push:∀TB,Cd p y r TB (cur++[c])=some l->l.length<=(c :: r).length+1/\0<l.length/\∀x∈l,x.length<=cur.length+(c :: r).length:=by
   intro TB h;obtain⟨h1,h2,h3⟩:=Nk p y r TB _ l h;refine⟨by simp;omega,h2,λx hx=>?_⟩;have:=h3 x hx;simp at this ⊢;omega
  simp only[Cd]at h
  split at h
  .cases h
  split at h
  .split at h
   .exact push _ h
   .split at h
    .obtain⟨l',h',rfl⟩:=Option.map_eq_some_iff.1 h
     obtain⟨h1,h2,h3⟩:=Nk p y r 0 [] l' h';refine⟨by simp;omega,by simp,λx hx=>?_⟩;rcases List.mem_cons.1 hx with rfl|hx
     .simp
     .have:=h3 x hx;simp at this ⊢;omega
    .exact push _ h
  .split at h
   .split at h
    .exact push _ h
    .split at h
     .exact push _ h
     .exact push _ h
   .exact push _ h
theorem Nl(h:Hr y s=some l):l.length<=s.length+1/\0<l.length/\∀x∈l,x.length<=s.length:=by
 have:=Nk _ _ _ _ _ _ h;simpa using this
theorem M5{p:UInt8->Bool}(s:List UInt8):(s.dropWhile p).length<=s.length:=by
 induction s with
 |nil=>simp
 |cons c r ih =>
  rw[List.dropWhile_cons]
  split
  .simp;omega
  .simp
theorem Ajg(s:List UInt8):(trimF s).length<=s.length:=by
 unfold trimF Fi It;rw[List.length_reverse];refine XO (M5 _) ?_;rw[List.length_reverse];exact M5 _
def uV(x:List UInt8):Bool:=!(x==[])
def Ja(l:List (List UInt8)):List (List UInt8):=(l.map trimF).filter uV
theorem Ago(h:i<l.length):Ja (l.drop i)=(if uV (trimF (l.getD i [])) then [trimF (l.getD i [])] else [])++Ja (l.drop (i+1)):=by
 rw[Pn (d:=[]) h,Ja,UE,YL]
 split<;>rfl
def Am(s:List UInt8):List (List UInt8)×Int :=
 if 2000<(s.length:Int) then ([],3) else match Hr 44 s with
  |none=>([],6)
  |some l=>(Ja l,0)
theorem Dc(s:List UInt8):(Am s).1.length<=2001/\∀x∈(Am s).1,x.length<=2000:=by
 unfold Am
 split
 .simp
 .rename_i h
  cases hp:Hr 44 s with
  |none=>simp
  |some l =>
   obtain⟨h1,h2,h3⟩:=Nl hp;have h4:(Ja l).length<=l.length:=by
    unfold Ja;refine XO (ZX _ _) (by simp)
   refine⟨by show (Ja l).length<=_;omega,λx hx=>?_⟩;have hx:x∈Ja l:=hx;unfold Ja at hx;obtain⟨z,hz,rfl⟩:=List.mem_map.1 (List.mem_filter.1 hx).1;have:=Ajg z;have:=h3 z hz;omega
def Tg(F:List UInt8->List (List UInt8)×Int)(N:List UInt8->Bool):aD:=λ_ xs ls K=>∃(s:List UInt8),xs=[.str s]/\ls=[]/\s.length<=9223372036854775807/\∀l e n nb,(l,e)=F s->n=(l.length:Int)->nb=N s->K (.tup [.sl (.a nb) (.a n) 1 (Da l),.int .i64 (.a e)]) []
theorem Y2(hD:D=dn){l':List (List UInt8)}{ke e':Int}(hk:(l,ke)=(l',e'))(fW:kn=(l.length:Int))(gO:kr=Da l)
   (R:Bz f n l')  {y z:ST} (hy:y.den=n) (hx:x.den=lD) (hz:z.den=e'):Fin (.tup [.sl (.a (D.b x)) (.a (D.i y)) 1 f,.int .i64 (.a (D.i z))]) (.tup [.sl (.a lD) (.a kn) 1 kr,.int .i64 (.a ke)]) [] []:=by
 subst hD;simp only[Prod.mk.injEq]at hk;obtain⟨rfl,rfl⟩:=hk;refine Fb (.tup (.cons (.sl hx ?_ ?_) (.cons (Cs hz) .nil)))
 .rw[fW];show y.den=_;rw[hy];exact R.n
 .intro i hi
  have hi:(i:Int)<y.den:=hi;rw[R.f i (by have:=R.n;omega),gO];rfl
structure ElI(l out:List (List UInt8))(i:Nat)(I:Int)(nl:Bool)(m:Nat):Prop where
 at_:AtR l i I m
 ol:out.length<=i
 nl:nl=out.isEmpty
 ll:l.length<=100001
 el:∀x∈l,x.length<=9223372036854775807
def elJ(l:List (List UInt8))(k:List (List UInt8))(nb:Bool)(nn:Int)(g:Nat->List SV)(m:Nat)(vs:List (Option SV))(hp:List Hl):Prop :=
 ∃(i:Nat) (I n:Int) (nl:Bool) (f:Nat->List SV) (out:List (List UInt8)),vs=[some (.sl (.a nb) (.a nn) 1 g),some (.eD (.a nl) (.a n) 1 f 0),some (.int .i64 (.a I))]/\hp=[.tail 9 (.a n) 1]/\
  ElI l out i I nl m/\Bz f n out/\k=out++Ja (l.drop i)
theorem Uo:Aw Tryz.prog gl 132 (Tg Am λs=>(Am s).1.isEmpty):=by
 refine Bd (gh:=[(6,[.attach 6 9])]) mixed Be (Ab Amx (Ab Afw Ai)) Tryz.func132 (by kernel_rfl) (by kernel_rfl) ?_;intro xs ls K h;unfold Tg at h;obtain⟨s,rfl,rfl,hl,h⟩:=h;obtain⟨k,hk⟩:∃k,k=Am s:=⟨_,rfl⟩;obtain⟨kl,ke⟩:=k;obtain⟨kn,fW⟩:∃kn:Int,kn=(kl.length:Int):=⟨_,rfl⟩;obtain⟨lD,eS⟩:∃lD:Bool,lD=kl.isEmpty:=⟨_,rfl⟩;refine⟨_,_,h kl ke kn lD hk fW (by rw[eS];show _=(Am s).1.isEmpty;rw[<-hk]),λD hD=>?_⟩;clear h;obtain⟨kr,gO⟩:∃kr,kr=Da kl:=⟨_,rfl⟩;rw[<-gO];rw[Am]at hk;cbv;refine br hD (λh=>?_) (λh=>?_)<;>cbv
 .have h:decide (2000<(s.length:Int))=true:=h
  rw[QE (by simpa using h)]at hk;exact Y2 (f:=λ_=>[]) hD hk fW gO Bz.nil rfl (by simp only[Prod.mk.injEq]at hk;rw[eS,hk.1];rfl) rfl
 have h:decide (2000<(s.length:Int))=false:=h;have h2:¬(2000<(s.length:Int)):=by simpa using h
 rw[QD h2]at hk;have hs:s.length<=2000:=by omega
 clear h h2;refine⟨s,_,rfl,rfl,by omega,λk n b nb hp hn hb eY=>?_⟩;have rK:k=Hr 44 s:=by subst hD;exact hp
 clear hp;rw[<-rK]at hk;obtain⟨g,hg⟩:∃g,g=Da (k.getD []):=⟨_,rfl⟩;rw[<-hg];cbv;refine br hD (λh=>?_) (λh=>?_)<;>cbv
 .have h:(!b)=true:=h
  have jL:k=none:=by
   cases k with
   |none=>rfl
   |some l=>rw[hb]at h;cases h
  rw[jL]at hk;exact Y2 (f:=λ_=>[]) hD hk fW gO Bz.nil rfl (by simp only[Prod.mk.injEq]at hk;rw[eS,hk.1];rfl) rfl
 have h:(!b)=false:=h;obtain⟨l,rfl⟩:∃l,k=some l:=by
  cases k with
  |none=>rw[hb]at h;cases h
  |some l=>exact⟨l,rfl⟩
 clear h;simp only[XB]at hg hn;obtain⟨h1,h2,h3⟩:=Nl rK.symm;have RL:Bz g n l:=by rw[hg,hn];exact Bz.row (by omega)
 simp only[Prod.mk.injEq]at hk;obtain⟨hk,mT⟩:=hk;have hll:l.length<=100001:=by omega
 have hle:∀x∈l,x.length<=9223372036854775807:=λx hx=>by have:=h3 x hx;omega
 clear h1 h2 h3 hg hn hb eY rK;obtain⟨J,hJ⟩:∃J,J=elJ l kl nb n g:=⟨_,rfl⟩;refine⟨[4,6,7],J,⟨rfl,l.length,?_⟩,?_⟩
 .rw[hJ]
  subst hD;exact⟨0,_,_,_,_,[],rfl,rfl,⟨AtR.zero (by omega),by simp,rfl,hll,hle⟩,Bz.nil,by rw[hk];rfl⟩
 clear hk;intro m vs dS hv;rw[hJ]at hv;unfold elJ at hv;obtain⟨i,I,on,nl,f,out,rfl,rfl,V,R,hk⟩:=hv;cbv;refine br hD (λh=>?_) (λh=>?_)<;>cbv
 .have aA:=V.at_.lt RL.n (QS (p:=I<n) h)
  clear h;refine⟨V.at_.mP hD RL.n aA,λj hj=>?_⟩;obtain rfl:=V.at_.j hD hj;clear hj;have e1:=RL.f j aA;rw[Ago aA]at hk;have mQ:=V.el (l.getD j []) (by rw[QC,QA aA];exact XQ aA);obtain⟨x,hx⟩:∃x,x=l.getD j []:=⟨_,rfl⟩;rw[<-hx]at e1 hk mQ;cbv;rw[e1];cbv;refine⟨x,rfl,rfl,mQ,λt ht=>?_⟩;rw[<-ht]at hk;cbv;refine br hD (λh=>?_) (λh=>?_)<;>cbv
  .have aV:uV t=true:=h
   clear h;rw[QE aV]at hk;refine⟨V.at_.mP hD RL.n aA,λj' OH=>?_⟩;obtain rfl:=V.at_.j hD OH;clear OH;cbv;rw[e1];cbv;refine⟨x,rfl,rfl,mQ,λt' BJ=>?_⟩;obtain rfl:t'=t:=by rw[BJ,ht]
   clear BJ;cbv;intro g1 BY;have lJ:g1 0=[.str t']:=BY.h 0 _ rfl;clear BY;cbv;refine⟨?_,λf' n' cR=>?_⟩
   .have:=V.ol;have:=V.ll;have:=V.at_.le;have:=R.n;subst hD;exact⟨rfl,by show (on+1) * 16<=_;omega,by show on+1<=_;omega⟩
   have R':Bz f' n' (out++[t']):=by
    subst hD;exact R.more lJ cR (by have:=V.ol;have:=V.ll;have:=V.at_.le;omega)
   clear cR lJ;cbv;refine⟨l.length-(j'+1),(V.at_.step hD aA).1,?_⟩;rw[hJ];subst hD;exact⟨j'+1,_,_,_,f',_,rfl,rfl,⟨(V.at_.step rfl aA).2,by have:=V.ol;simp;omega,by show (nl&&false)=_;simp,V.ll,V.el⟩,R',by rw[hk];simp⟩
  .have aV:uV t=false:=h
   clear h;rw[QD (by rw[aV];simp)]at hk;refine⟨l.length-(j+1),(V.at_.step hD aA).1,?_⟩;rw[hJ];subst hD;exact⟨j+1,_,_,_,f,out,rfl,rfl,⟨(V.at_.step rfl aA).2,by have:=V.ol;omega,V.nl,V.ll,V.el⟩,R,by rw[hk];simp⟩
 .have hi:=V.at_.eq RL.n (QZ (p:=I<n) h)
  clear h;have aR:kl=out:=by rw[hk,hi,ZR];simp[Ja]
  exact Y2 (f:=f) (l':=out) (e':=0) hD (by rw[aR,mT]) fW gO R rfl (by show nl=_;rw[V.nl,eS,aR]) rfl
set_option maxRecDepth 100000
theorem Ade:∀n:Fin 256,Kf (n.1:Int)=A8 (n.1:Int)/\(D9 (n.1:Int)==3)=fV (n.1:Int):=by decide
theorem Uc(c:UInt8):Kf (c.toNat:Int)=A8 (c.toNat:Int):=(Ade ⟨c.toNat,c.toNat_lt⟩).1
theorem Agl(c:UInt8):(D9 (c.toNat:Int)==3)=fV (c.toNat:Int):=(Ade ⟨c.toNat,c.toNat_lt⟩).2
theorem Oa(s:List UInt8):Cc s=I5 s:=by
 unfold Cc I5 allI;rw[Bool.and_comm];congr 1
 .rw[ZC]
  simp;omega
 .congr 1
  funext c;exact Agl c
theorem P8{p q:Int->Bool}(h:∀c:UInt8,p (c.toNat:Int)=q (c.toNat:Int)):∀(n:Nat) (r:List UInt8),r.length<=n->gG p r=gG q r
 |_,[],_=>rfl
 |0,c :: r,hl=>by simp at hl
 |n+1,c :: r,hl=>by
  simp only[QT]at hl;rw[Ed,Ed,h c,P8 h n r (by omega)];cases r with
  |nil=>rfl
  |cons d r' =>
   simp only;rw[h d,P8 h n r' (by simp at hl;omega)]
theorem Amn(r:List UInt8):gG Kf r=gG A8 r:=P8 Uc _ r (QK _)
set_option maxRecDepth 10000
open Go Go.Shelf Go.RowKit Go.Sort Go.Lib
set_option maxRecDepth 100000
set_option maxHeartbeats 4000000
def mJ:Go.Shelf.Ren:=⟨fun|160=>116|232=>160|231=>159|227=>161|234=>163|233=>162|236=>165|235=>164|228=>219|271=>222|151=>221|197=>220|120=>269|152=>268|260=>267|137=>239|119=>297|224=>275|225=>274|217=>273|266=>300|n=>n,fun|9=>9|4=>4|3=>3|5=>5|117=>199|116=>198|0=>0|124=>202|21=>21|105=>233|46=>278|119=>261|139=>301|138=>300|n=>n,fun|3=>5|4=>6|n=>n⟩
theorem Afq:Go.Proofs.Lays.n160 Tryz.prog mJ:={
 mixed:=by kernel_rfl
 f119:=Tryz.func297.trans (congrArg some (by kernel_rfl))
 f120:=Tryz.func269.trans (congrArg some (by kernel_rfl))
 f137:=Tryz.func239.trans (congrArg some (by kernel_rfl))
 f151:=Tryz.func221.trans (congrArg some (by kernel_rfl))
 f152:=Tryz.func268.trans (congrArg some (by kernel_rfl))
 f160:=Tryz.func116.trans (congrArg some (by kernel_rfl))
 f197:=Tryz.func220.trans (congrArg some (by kernel_rfl))
 f217:=Tryz.func273.trans (congrArg some (by kernel_rfl))
 f224:=Tryz.func275.trans (congrArg some (by kernel_rfl))
 f225:=Tryz.func274.trans (congrArg some (by kernel_rfl))
 f227:=Tryz.func161.trans (congrArg some (by kernel_rfl))
 f228:=Tryz.func219.trans (congrArg some (by kernel_rfl))
 f231:=Tryz.func159.trans (congrArg some (by kernel_rfl))
 f232:=Tryz.func160.trans (congrArg some (by kernel_rfl))
 f233:=Tryz.func162.trans (congrArg some (by kernel_rfl))
 f234:=Tryz.func163.trans (congrArg some (by kernel_rfl))
 f235:=Tryz.func164.trans (congrArg some (by kernel_rfl))
 f236:=Tryz.func165.trans (congrArg some (by kernel_rfl))
 f260:=Tryz.func267.trans (congrArg some (by kernel_rfl))
 f266:=Tryz.func300.trans (congrArg some (by kernel_rfl))
 f271:=Tryz.func222.trans (congrArg some (by kernel_rfl))
 t0:=Tryz.underlying0
 a0:=Tryz.isAgg0
 z0:=Tryz.sizeOf0
 v0:=Tryz.zeroValue0
 t3:=Tryz.underlying3
 a3:=Tryz.isAgg3
 z3:=Tryz.sizeOf3
 v3:=Tryz.zeroValue3
 t4:=Tryz.underlying4
 a4:=Tryz.isAgg4
 z4:=Tryz.sizeOf4
 v4:=Tryz.zeroValue4
 t5:=Tryz.underlying5
 a5:=Tryz.isAgg5
 z5:=Tryz.sizeOf5
 v5:=Tryz.zeroValue5
 t9:=Tryz.underlying9
 a9:=Tryz.isAgg9
 z9:=Tryz.sizeOf9
 v9:=Tryz.zeroValue9
 t21:=Tryz.underlying21
 a21:=Tryz.isAgg21
 z21:=Tryz.sizeOf21
 v21:=Tryz.zeroValue21
 t46:=Tryz.underlying278
 a46:=Tryz.isAgg278
 z46:=Tryz.sizeOf278
 v46:=Tryz.zeroValue278
 t105:=Tryz.underlying233
 a105:=Tryz.isAgg233
 z105:=Tryz.sizeOf233
 v105:=Tryz.zeroValue233
 t116:=Tryz.underlying198
 a116:=Tryz.isAgg198
 z116:=Tryz.sizeOf198
 t117:=Tryz.underlying199
 a117:=Tryz.isAgg199
 z117:=Tryz.sizeOf199
 v117:=Tryz.zeroValue199
 t119:=Tryz.underlying261
 a119:=Tryz.isAgg261
 z119:=Tryz.sizeOf261
 t124:=Tryz.underlying202
 a124:=Tryz.isAgg202
 z124:=Tryz.sizeOf202
 v124:=Tryz.zeroValue202
 t138:=Tryz.underlying300
 a138:=Tryz.isAgg300
 z138:=Tryz.sizeOf300
 v138:=Tryz.zeroValue300
 t139:=Tryz.underlying301
 a139:=Tryz.isAgg301
 z139:=Tryz.sizeOf301
 v139:=Tryz.zeroValue301
 g3:=by kernel_rfl
 g4:=by kernel_rfl }
def mK:Go.Shelf.Ren:=⟨fun|137=>239|217=>273|266=>300|n=>n,fun|9=>9|5=>5|3=>3|n=>n,fun|n=>n⟩
theorem Afr:Go.Proofs.Lays.n137 Tryz.prog mK:={
 mixed:=by kernel_rfl
 f137:=Tryz.func239.trans (congrArg some (by kernel_rfl))
 f217:=Tryz.func273.trans (congrArg some (by kernel_rfl))
 f266:=Tryz.func300.trans (congrArg some (by kernel_rfl))
 t3:=Tryz.underlying3
 a3:=Tryz.isAgg3
 z3:=Tryz.sizeOf3
 v3:=Tryz.zeroValue3
 t5:=Tryz.underlying5
 a5:=Tryz.isAgg5
 z5:=Tryz.sizeOf5
 v5:=Tryz.zeroValue5
 t9:=Tryz.underlying9
 a9:=Tryz.isAgg9
 z9:=Tryz.sizeOf9
 v9:=Tryz.zeroValue9 }
theorem Kv(s:ByteArray)(c:Int)(w:World):
  Calls Tryz.prog 239 #[.string s,.int .u8 c] w λe w'=>e=.returned (.int .i64 (Lib.indexByte s.data.toList c.toNat.toUInt8))/\w'=w:=Any.strings_IndexByte Afr s c w
def lQ:Go.Shelf.Ren:=⟨fun|171=>83|243=>139|246=>191|283=>241|284=>242|285=>243|286=>244|129=>278|317=>277|318=>279|319=>280|320=>281|337=>302|338=>303|n=>n,fun|3=>3|9=>9|2=>2|4=>4|171=>248|0=>0|53=>249|37=>22|5=>5|173=>252|212=>284|51=>285|20=>20|213=>286|46=>278|232=>318|233=>319|n=>n,fun|17=>4|18=>8|19=>9|n=>n⟩
theorem Ab2:Go.Proofs.LaysM.n171 Tryz.prog lQ:={
 mixed:=by kernel_rfl
 f129:=Tryz.func278.trans (congrArg some (by kernel_rfl))
 f171:=Tryz.func83.trans (congrArg some (by kernel_rfl))
 f243:=Tryz.func139.trans (congrArg some (by kernel_rfl))
 f246:=Tryz.func191.trans (congrArg some (by kernel_rfl))
 f283:=Tryz.func241.trans (congrArg some (by kernel_rfl))
 f284:=Tryz.func242.trans (congrArg some (by kernel_rfl))
 f285:=Tryz.func243.trans (congrArg some (by kernel_rfl))
 f286:=Tryz.func244.trans (congrArg some (by kernel_rfl))
 f317:=Tryz.func277.trans (congrArg some (by kernel_rfl))
 f318:=Tryz.func279.trans (congrArg some (by kernel_rfl))
 f319:=Tryz.func280.trans (congrArg some (by kernel_rfl))
 f320:=Tryz.func281.trans (congrArg some (by kernel_rfl))
 f337:=Tryz.func302.trans (congrArg some (by kernel_rfl))
 f338:=Tryz.func303.trans (congrArg some (by kernel_rfl))
 t0:=Tryz.underlying0
 a0:=Tryz.isAgg0
 z0:=Tryz.sizeOf0
 v0:=Tryz.zeroValue0
 t2:=Tryz.underlying2
 a2:=Tryz.isAgg2
 z2:=Tryz.sizeOf2
 v2:=Tryz.zeroValue2
 t3:=Tryz.underlying3
 a3:=Tryz.isAgg3
 z3:=Tryz.sizeOf3
 v3:=Tryz.zeroValue3
 t4:=Tryz.underlying4
 a4:=Tryz.isAgg4
 z4:=Tryz.sizeOf4
 v4:=Tryz.zeroValue4
 t5:=Tryz.underlying5
 a5:=Tryz.isAgg5
 z5:=Tryz.sizeOf5
 v5:=Tryz.zeroValue5
 t9:=Tryz.underlying9
 a9:=Tryz.isAgg9
 z9:=Tryz.sizeOf9
 v9:=Tryz.zeroValue9
 t20:=Tryz.underlying20
 a20:=Tryz.isAgg20
 z20:=Tryz.sizeOf20
 v20:=Tryz.zeroValue20
 t37:=Tryz.underlying22
 a37:=Tryz.isAgg22
 z37:=Tryz.sizeOf22
 v37:=Tryz.zeroValue22
 t46:=Tryz.underlying278
 a46:=Tryz.isAgg278
 z46:=Tryz.sizeOf278
 v46:=Tryz.zeroValue278
 t51:=Tryz.underlying285
 a51:=Tryz.isAgg285
 z51:=Tryz.sizeOf285
 v51:=Tryz.zeroValue285
 t53:=Tryz.underlying249
 a53:=Tryz.isAgg249
 z53:=Tryz.sizeOf249
 v53:=Tryz.zeroValue249
 t171:=Tryz.underlying248
 a171:=Tryz.isAgg248
 z171:=Tryz.sizeOf248
 v171:=Tryz.zeroValue248
 t173:=Tryz.underlying252
 a173:=Tryz.isAgg252
 z173:=Tryz.sizeOf252
 v173:=Tryz.zeroValue252
 t212:=Tryz.underlying284
 a212:=Tryz.isAgg284
 z212:=Tryz.sizeOf284
 v212:=Tryz.zeroValue284
 t213:=Tryz.underlying286
 a213:=Tryz.isAgg286
 z213:=Tryz.sizeOf286
 t232:=Tryz.underlying318
 a232:=Tryz.isAgg318
 z232:=Tryz.sizeOf318
 v232:=Tryz.zeroValue318
 t233:=Tryz.underlying319
 a233:=Tryz.isAgg319
 z233:=Tryz.sizeOf319
 v233:=Tryz.zeroValue319
 g17:=by kernel_rfl
 g18:=by kernel_rfl
 g19:=by kernel_rfl
 i0:=by kernel_rfl
 i2:=by kernel_rfl
 i3:=by kernel_rfl
 i4:=by kernel_rfl
 i5:=by kernel_rfl
 i9:=by kernel_rfl
 i20:=by kernel_rfl
 i37:=by kernel_rfl
 i46:=by kernel_rfl
 i51:=by kernel_rfl
 i53:=by kernel_rfl
 i171:=by kernel_rfl
 i173:=by kernel_rfl
 i212:=by kernel_rfl
 i232:=by kernel_rfl
 i233:=by kernel_rfl
 m17:=by kernel_rfl
 m18:=by kernel_rfl
 m19:=by kernel_rfl }
theorem Sm(n:Int)(h0:-9223372036854775808<=n)(h1:n<=9223372036854775807)(w:World)(bT:Lib.TabIs Tryz.prog w "internal/strconv.uint64pow10" .u64 Lib.pow10Tab):
  Calls Tryz.prog 83 #[.int .i64 n] w λe w'=>e=.returned (.string ⟨(Lib.itoa n).toArray⟩)/\∃k os,w'=grow (w.drewN k) os:=Any.strconv_Itoa Ab2 n h0 h1 w bT
def lP:Go.Shelf.Ren:=⟨fun|173=>289|246=>191|283=>241|284=>242|285=>243|286=>244|129=>278|317=>277|318=>279|319=>280|320=>281|337=>302|338=>303|n=>n,fun|2=>2|3=>3|9=>9|4=>4|171=>248|0=>0|53=>249|37=>22|5=>5|173=>252|212=>284|51=>285|20=>20|213=>286|46=>278|232=>318|233=>319|n=>n,fun|17=>4|18=>8|19=>9|n=>n⟩
theorem Ab1:Go.Proofs.LaysM.n173 Tryz.prog lP:={
 mixed:=by kernel_rfl
 f129:=Tryz.func278.trans (congrArg some (by kernel_rfl))
 f173:=Tryz.func289.trans (congrArg some (by kernel_rfl))
 f246:=Tryz.func191.trans (congrArg some (by kernel_rfl))
 f283:=Tryz.func241.trans (congrArg some (by kernel_rfl))
 f284:=Tryz.func242.trans (congrArg some (by kernel_rfl))
 f285:=Tryz.func243.trans (congrArg some (by kernel_rfl))
 f286:=Tryz.func244.trans (congrArg some (by kernel_rfl))
 f317:=Tryz.func277.trans (congrArg some (by kernel_rfl))
 f318:=Tryz.func279.trans (congrArg some (by kernel_rfl))
 f319:=Tryz.func280.trans (congrArg some (by kernel_rfl))
 f320:=Tryz.func281.trans (congrArg some (by kernel_rfl))
 f337:=Tryz.func302.trans (congrArg some (by kernel_rfl))
 f338:=Tryz.func303.trans (congrArg some (by kernel_rfl))
 t0:=Tryz.underlying0
 a0:=Tryz.isAgg0
 z0:=Tryz.sizeOf0
 v0:=Tryz.zeroValue0
 t2:=Tryz.underlying2
 a2:=Tryz.isAgg2
 z2:=Tryz.sizeOf2
 v2:=Tryz.zeroValue2
 t3:=Tryz.underlying3
 a3:=Tryz.isAgg3
 z3:=Tryz.sizeOf3
 v3:=Tryz.zeroValue3
 t4:=Tryz.underlying4
 a4:=Tryz.isAgg4
 z4:=Tryz.sizeOf4
 v4:=Tryz.zeroValue4
 t5:=Tryz.underlying5
 a5:=Tryz.isAgg5
 z5:=Tryz.sizeOf5
 v5:=Tryz.zeroValue5
 t9:=Tryz.underlying9
 a9:=Tryz.isAgg9
 z9:=Tryz.sizeOf9
 v9:=Tryz.zeroValue9
 t20:=Tryz.underlying20
 a20:=Tryz.isAgg20
 z20:=Tryz.sizeOf20
 v20:=Tryz.zeroValue20
 t37:=Tryz.underlying22
 a37:=Tryz.isAgg22
 z37:=Tryz.sizeOf22
 v37:=Tryz.zeroValue22
 t46:=Tryz.underlying278
 a46:=Tryz.isAgg278
 z46:=Tryz.sizeOf278
 v46:=Tryz.zeroValue278
 t51:=Tryz.underlying285
 a51:=Tryz.isAgg285
 z51:=Tryz.sizeOf285
 v51:=Tryz.zeroValue285
 t53:=Tryz.underlying249
 a53:=Tryz.isAgg249
 z53:=Tryz.sizeOf249
 v53:=Tryz.zeroValue249
 t171:=Tryz.underlying248
 a171:=Tryz.isAgg248
 z171:=Tryz.sizeOf248
 v171:=Tryz.zeroValue248
 t173:=Tryz.underlying252
 a173:=Tryz.isAgg252
 z173:=Tryz.sizeOf252
 v173:=Tryz.zeroValue252
 t212:=Tryz.underlying284
 a212:=Tryz.isAgg284
 z212:=Tryz.sizeOf284
 v212:=Tryz.zeroValue284
 t213:=Tryz.underlying286
 a213:=Tryz.isAgg286
 z213:=Tryz.sizeOf286
 t232:=Tryz.underlying318
 a232:=Tryz.isAgg318
 z232:=Tryz.sizeOf318
 v232:=Tryz.zeroValue318
 t233:=Tryz.underlying319
 a233:=Tryz.isAgg319
 z233:=Tryz.sizeOf319
 v233:=Tryz.zeroValue319
 g17:=by kernel_rfl
 g18:=by kernel_rfl
 g19:=by kernel_rfl
 i0:=by kernel_rfl
 i2:=by kernel_rfl
 i3:=by kernel_rfl
 i4:=by kernel_rfl
 i5:=by kernel_rfl
 i9:=by kernel_rfl
 i20:=by kernel_rfl
 i37:=by kernel_rfl
 i46:=by kernel_rfl
 i51:=by kernel_rfl
 i53:=by kernel_rfl
 i171:=by kernel_rfl
 i173:=by kernel_rfl
 i212:=by kernel_rfl
 i232:=by kernel_rfl
 i233:=by kernel_rfl
 m17:=by kernel_rfl
 m18:=by kernel_rfl
 m19:=by kernel_rfl }
theorem Ix(n:Int)(h0:-9223372036854775808<=n)(h1:n<=9223372036854775807)(w:World)(bT:Lib.TabIs Tryz.prog w "internal/strconv.uint64pow10" .u64 Lib.pow10Tab):
  Calls Tryz.prog 289 #[.int .i64 n,.int .i64 10] w λe w'=>e=.returned (.string ⟨(Lib.itoa n).toArray⟩)/\∃k os,w'=grow (w.drewN k) os:=Any.strconv_FormatInt_10 Ab1 n h0 h1 w bT
def lR:Go.Shelf.Ren:=⟨fun|17=>170|15=>114|20=>158|n=>n,fun|9=>9|23=>154|4=>4|3=>3|0=>0|21=>21|n=>n,fun|n=>n⟩
theorem Ab3:Go.Proofs.LaysGw.n17 Tryz.prog lR:={
 mixed:=by kernel_rfl
 f15:=Tryz.func114.trans (congrArg some (by kernel_rfl))
 f17:=Tryz.func170.trans (congrArg some (by kernel_rfl))
 f20:=Tryz.func158.trans (congrArg some (by kernel_rfl))
 t0:=Tryz.underlying0
 a0:=Tryz.isAgg0
 z0:=Tryz.sizeOf0
 v0:=Tryz.zeroValue0
 i0:=by kernel_rfl
 t3:=Tryz.underlying3
 a3:=Tryz.isAgg3
 z3:=Tryz.sizeOf3
 v3:=Tryz.zeroValue3
 i3:=by kernel_rfl
 t4:=Tryz.underlying4
 a4:=Tryz.isAgg4
 z4:=Tryz.sizeOf4
 v4:=Tryz.zeroValue4
 i4:=by kernel_rfl
 t9:=Tryz.underlying9
 a9:=Tryz.isAgg9
 z9:=Tryz.sizeOf9
 v9:=Tryz.zeroValue9
 i9:=by kernel_rfl
 t21:=Tryz.underlying21
 a21:=Tryz.isAgg21
 z21:=Tryz.sizeOf21
 v21:=Tryz.zeroValue21
 i21:=by kernel_rfl
 t23:=Tryz.underlying154
 a23:=Tryz.isAgg154
 z23:=Tryz.sizeOf154
 v23:=Tryz.zeroValue154
 i23:=by kernel_rfl }
def nT:Go.Shelf.Ren:=⟨fun|99=>252|206=>157|n=>n,fun|9=>9|4=>4|3=>3|n=>n,fun|n=>n⟩
theorem Ajp:Go.Proofs.Lays.n99 Tryz.prog nT:={
 mixed:=by kernel_rfl
 f99:=Tryz.func252.trans (congrArg some (by kernel_rfl))
 f206:=Tryz.func157.trans (congrArg some (by kernel_rfl))
 t3:=Tryz.underlying3
 a3:=Tryz.isAgg3
 z3:=Tryz.sizeOf3
 v3:=Tryz.zeroValue3
 t4:=Tryz.underlying4
 a4:=Tryz.isAgg4
 z4:=Tryz.sizeOf4
 v4:=Tryz.zeroValue4
 t9:=Tryz.underlying9
 a9:=Tryz.isAgg9
 z9:=Tryz.sizeOf9
 v9:=Tryz.zeroValue9 }
theorem Kw(s p:ByteArray)(w:World):
  Calls Tryz.prog 252 #[.string s,.string p] w λe w'=>e=.returned (.bool (Lib.hasPrefix s.data.toList p.data.toList))/\w'=w:=Any.strings_HasPrefix Ajp s p w
theorem F9(g:Nat)(lb:Array Value)(eg:∀args w,(callFunc g args).run Tryz.prog w=.ok (.enter g args) w)(p:Nat->Bool)(s:ByteArray)(w:World)(hp:PredGrows Tryz.prog g lb p w):
  Calls Tryz.prog 170 #[.string s,.func (.func g) #[] lb] w λe w'=>e=.returned (.bool (decide (0<=Lib.idxFunc p true s)))/\Below w.heap.size w w':=Any.strings_ContainsFunc_grows Ab3 g lb eg p s w hp
def iB:Go.Shelf.Ren:=⟨fun|10=>179|6=>233|n=>n,fun|22=>111|23=>9|25=>104|3=>3|4=>4|0=>0|n=>n,fun|n=>n⟩
theorem Oe:Go.Proofs.SlLaysH.n10 Tryz.prog iB:={
 mixed:=by kernel_rfl
 f6:=⟨Tryz.f233.name,by decide,Tryz.func233.trans (congrArg some (by kernel_rfl))⟩
 f10:=⟨Tryz.f179.name,by decide,Tryz.func179.trans (congrArg some (by kernel_rfl))⟩
 t0:=Tryz.underlying0
 a0:=Tryz.isAgg0
 z0:=Tryz.sizeOf0
 v0:=Tryz.zeroValue0
 t3:=Tryz.underlying3
 a3:=Tryz.isAgg3
 z3:=Tryz.sizeOf3
 v3:=Tryz.zeroValue3
 t4:=Tryz.underlying4
 a4:=Tryz.isAgg4
 z4:=Tryz.sizeOf4
 v4:=Tryz.zeroValue4
 t22:=Tryz.underlying111
 a22:=Tryz.isAgg111
 z22:=Tryz.sizeOf111
 v22:=Tryz.zeroValue111
 a23:=Tryz.isAgg9
 z23:=Tryz.sizeOf9
 t25:=Tryz.underlying104
 a25:=Tryz.isAgg104
 z25:=Tryz.sizeOf104
 v25:=Tryz.zeroValue104 }
theorem Kx{α:Type}[Inhabited α](enc:α->Value)(hO:OneCell enc)(p:α->Bool)(g:Nat)(lb:Array Value)(eg:∀args w,(callFunc g args).run Tryz.prog w=.ok (.enter g args) w)(zr:α)(v23:∀w,(zeroValue 9).run Tryz.prog w=.ok (enc zr) w)(aE off cap:Nat)(d:Array α)(w:World)(hp:PredAt Tryz.prog g lb enc p w)(hpo:PredOver Tryz.prog g lb enc p aE off d.size w)(hH:Holds enc w aE off d)(aM:d.size<=9223372036854775807)(dH:d.size<=cap):
  Calls Tryz.prog 179 #[.slice (some ⟨aE,off,none⟩) d.size cap,.func (.func g) #[] lb] w λe w'=>e=.returned (.slice (some ⟨aE,off,none⟩) (d.toList.filter λx=>!p x).length cap)/\∃q,w'=putRow enc (Sort.ahead w q) aE off ((d.toList.filter λx=>!p x)++List.replicate (d.size-(d.toList.filter λx=>!p x).length) zr).toArray:=AnyE.slices_DeleteFunc Oe enc hO p g lb eg zr v23 aE off cap d w hp hpo hH aM dH
open Go Go.Sx
set_option maxRecDepth 10000
set_option maxHeartbeats 2000000
theorem T1(c:UInt8)(r:List UInt8):Fi (c :: r)=if (Fi r).isEmpty then (if dE c then [] else [c]) else c :: Fi r:=by
 unfold Fi;rw[List.reverse_cons,List.dropWhile_append,List.isEmpty_reverse]
 split
 .by_cases h:dE c=true
  .rw[QE h,YQ h];rfl
  .rw[QD h,ZH h];rfl
 .rw[List.reverse_append];rfl
theorem Aje(s:List UInt8):Fi (It s)=It (Fi s):=by
 induction s with
 |nil=>rfl
 |cons c r ih =>
  by_cases h:dE c=true
  .rw[Jo h,ih,T1]
   split
   .rename_i he
    rw[List.isEmpty_iff.1 he]
   .rw[Jo h]
  .have e:It (c :: r)=c :: r:=by rw[It,ZH h]
   rw[e,T1]
   split
   .rw[It,ZH h]
   .rw[It,ZH h]
theorem Apl(c:UInt8):[32,9].contains c=dE c:=by
 have:∀n:Fin 256,[32,9].contains (UInt8.ofNat n.1)=Gw (n.1:Int):=by decide
 have h:=this ⟨c.toNat,c.toNat_lt⟩;simp only[UInt8.ofNat_toNat]at h;exact h
theorem Abr(s:List UInt8):Lib.trimS s [32,9]=trimF s:=by
 rw[trimF,Aje];unfold Lib.trimS Lib.trimLeftS Lib.trimRightS It Fi;have e:(λx=>[32,9].contains x)=dE:=funext Apl;rw[e]
def wF:aD:=λ_ xs ls K=>∃(s c:List UInt8),xs=[.str s,.str c]/\ls=[]/\s.length<=9223372036854775807/\c.length<1000/\(c.all λb=>decide (b.toNat<128))=true/\∀r,r=Lib.trimS s c->K (.str r) []
theorem P0:Aw Tryz.prog gl 116 wF:=by
 refine⟨⟨Tryz.f116,_,Tryz.func116,rfl,by kernel_rfl⟩,λxs ls K h=>?_⟩;obtain⟨s,c,rfl,rfl,hs,hc,ha,h⟩:=h;refine⟨_,_,h _ rfl,C6 λE B w bB _ _ _ hr=>?_⟩;obtain⟨v,u,rfl,hv,hu⟩:=I4 hr;rw[Jx hv,Jx hu];refine (Any.strings_Trim_laid Afq (by kernel_rfl) ⟨s.toArray⟩ ⟨c.toArray⟩ w (by simpa[ByteArray.size] using hs) (by simp[ByteArray.size];omega) (ascii_of_all (by simpa using ha))).mono ?_;rintro e w' ⟨rfl,hB⟩;exact⟨_,rfl,λE=>.ro (.str rfl),hB⟩
theorem aj:Aw Tryz.prog gl 232 (P4 trimF):=by
 refine Bd (gh:=[]) mixed Be (Ab P0 Ai) Tryz.func232 (by kernel_rfl) (by kernel_rfl) ?_;intro xs ls K h;unfold P4 at h;obtain⟨s,rfl,rfl,hl,h⟩:=h;obtain⟨k,hk⟩:∃k,k=trimF s:=⟨_,rfl⟩;refine⟨_,_,h k hk,λD hD=>?_⟩;clear h;cbv;refine⟨s,[32,9],rfl,rfl,hl,by decide,by decide,λr hr=>?_⟩;cbv;exact Nt (by rw[hr,hk,Abr])
def tH:aD:=λ_ xs ls K=>∃(s:List UInt8) (y:Int),xs=[.str s,.int .u8 (.a y)]/\ls=[]/\s.length<=100000/\∀(k:Option (List (List UInt8))) (l:List (List UInt8)) (n:Int) (b nb:Bool) (f:Nat->List SV),k=Hr y s->l=(k.getD []).map trimF->n=(l.length:Int)->b=k.isSome->nb=k.isNone->f=Da l->K (.tup [.bY (.a nb) (.a n) 0,.bool (.a b)]) [.own 9 (.a n) 1 true f]
structure SpI(s:List UInt8)(out:List (List UInt8))(a i:Nat)(A I:Int)(m:Nat):Prop where
 at_:At s i I m
 vS:a<=i
 A:ST.den (.a A)=(a:Int)
 out:out.length<=i
 s:s.length<=100000
def ET(s:List UInt8)(y:Int)(k:Option (List (List UInt8)))(m:Nat)(vs:List (Option SV))(hp:List Hl):Prop :=
 ∃(i a:Nat) (I A n:Int) (nl:Bool) (f:Nat->List SV) (out:List (List UInt8)),vs=[some (.str s),some (.int .u8 (.a y)),some (.bY (.a nl) (.a n) 0),some (.int .i64 (.a A)),some (.int .i64 (.a I))]/\hp=[.own 9 (.a n) 1 true f]/\
  SpI s out a i A I m/\Bz f n (out.map trimF)/\k=nJ y s out a i
def nw:Option (Nat×List UInt8)->Int
 |none=>0
 |some x=>((1+x.1:Nat):Int)
theorem Amq(h:(nw o==0)=true):o=none:=by
 cases o with
 |none=>rfl
 |some x=>simp only[nw,XI]at h;omega
theorem Amr(h:(nw o==0)=false):∃x,o=some x/\nw o=((1+x.1:Nat):Int):=by
 cases o with
 |none=>simp[nw]at h
 |some x=>exact⟨x,rfl,rfl⟩
theorem Z4:Oi (s.drop i)=nw (gG A8 (s.drop (i+1))):=by
 rw[Oi,sB,Amn,UR,show i+(0+1)=i+1 by omega];cases gG A8 (s.drop (i+1)) with
 |none=>rfl
 |some x=>simp only[nw]
theorem Ail(hD:D=dn)(hk:k=none)(pF:kl=(k.getD []).map trimF)(fW:kn=(kl.length:Int))(jV:kb=k.isSome)(eS:lD=k.isNone):
  Fin (.tup [.bY (.a (D.b (.l true))) (.a (D.i (.l 0))) 0,.bool (.a (D.b (.l false)))]) (.tup [.bY (.a lD) (.a kn) 0,.bool (.a kb)]) [.own 9 (.a (D.i (.l 0))) 1 true g] [.own 9 (.a kn) 1 true kr]:=by
 subst hD hk;have e:kn=0:=by rw[fW,pF];rfl
 refine V8 (.tup (.cons (Add (by rw[eS];rfl) (by rw[e];rfl)) (.cons (RJ (by rw[jV];rfl)) .nil))) (by rw[e];rfl) λi hi=>?_;have hi:(i:Int)<0:=hi;omega
theorem iz(hD:D=dn)(hk:k=some l)(pF:kl=(k.getD []).map trimF)(fW:kn=(kl.length:Int))(jV:kb=k.isSome)(eS:lD=k.isNone)(gO:kr=Da kl)
   (R:Bz f n (l.map trimF))  {y:ST} (hy:y.den=n) (hx:x.den=false):Fin (.tup [.bY (.a (D.b x)) (.a (D.i y)) 0,.bool (.a (D.b (.l true)))]) (.tup [.bY (.a lD) (.a kn) 0,.bool (.a kb)]) [.own 9 (.a (D.i y)) 1 true f] [.own 9 (.a kn) 1 true kr]:=by
 subst hD hk;have pF:kl=l.map trimF:=pF;have e:dn.i y=kn:=by show y.den=_;rw[hy,R.n,fW,pF]
 refine V8 (.tup (.cons (Add ?_ e) (.cons (RJ (by rw[jV];rfl)) .nil))) e λi hi=>?_
 .rw[eS];exact hx
 .have hi:(i:Int)<dn.i y:=hi
  rw[R.f i (by rw[e,fW,pF]at hi;omega),gO,pF];rfl
theorem Al9:Aw Tryz.prog gl 178 tH:=by
 refine Bd (gh:=[(1,[.own 6 9]),(9,[.own 4 9]),(12,[.own 4 9])]) mixed Be (Ab Aaf (Ab Aj0 (Ab aj Ai))) Tryz.func178 (by kernel_rfl) (by kernel_rfl) ?_;intro xs ls K h;unfold tH at h;obtain⟨s,y,rfl,rfl,hl,h⟩:=h;obtain⟨k,hk⟩:∃k,k=Hr y s:=⟨_,rfl⟩;obtain⟨kl,pF⟩:∃kl,kl=(k.getD []).map trimF:=⟨_,rfl⟩;obtain⟨kn,fW⟩:∃kn:Int,kn=(kl.length:Int):=⟨_,rfl⟩;obtain⟨kb,jV⟩:∃kb,kb=k.isSome:=⟨_,rfl⟩;obtain⟨lD,eS⟩:∃lD,lD=k.isNone:=⟨_,rfl⟩;obtain⟨kr,gO⟩:∃kr,kr=Da kl:=⟨_,rfl⟩;refine⟨_,_,h k kl kn kb lD kr hk pF fW jV eS gO,λD hD=>?_⟩;clear h;have hk:k=nJ y s [] 0 0:=by
  rw[hk,Hr,nJ,Wi];simp
 cbv;obtain⟨J,hJ⟩:∃J,J=ET s y k:=⟨_,rfl⟩;refine⟨[0,1,6,7,8],J,⟨rfl,s.length,?_⟩,?_⟩
 .rw[hJ]
  subst hD;exact⟨0,0,_,_,_,_,_,[],rfl,rfl,⟨At.zero (by omega),by omega,rfl,by simp,hl⟩,Bz.nil,hk⟩
 clear hk;intro m vs dS hv;rw[hJ]at hv;unfold ET at hv;obtain⟨i,a,I,A,n,nl,f,out,rfl,rfl,V,R,hk⟩:=hv;cbv;refine br hD (λh=>?_) (λh=>?_)<;>cbv
 .have aA:=V.at_.lt (QS (p:=I<(s.length:Int)) h)
  clear h;refine⟨V.at_.nU hD aA,λc hc=>?_⟩;have cQ:=Dm hD V.at_.den hc;clear hc;cbv;refine br hD (λh=>?_) (λh=>?_)<;>cbv
  .have jQ:aC s i=34:=by rw[<-cQ.aC];have h:(c==34)=true:=h;simpa using h
   clear h;rw[Ye aA V.vS (by rw[jQ];decide) jQ]at hk;refine⟨by subst hD;exact Ey (s:=s) (j:=s.length) (b:=.len s) V.at_.den rfl (by omega) (QK _),λr1 eX=>?_⟩;have iD:r1=s.drop i:=by
    have:=Jq (j:=s.length) (b:=.len s) hD V.at_.den rfl eX;rw[this];exact ZT (by simp)
   clear eX;cbv;refine⟨_,rfl,rfl,by have:=V.s;rw[iD,ZQ];omega,λq hq=>?_⟩;have bE:q=nw (gG A8 (s.drop (i+1))):=by subst hD;rw[hq,iD];exact Z4
   clear hq;cbv;refine br hD (λh=>?_) (λh=>?_)<;>cbv
   .have h:(q==0)=true:=h
    rw[bE]at h;rw[Amq h]at hk;exact Ail hD hk pF fW jV eS
   .have h:(q==0)=false:=h
    rw[bE]at h;obtain⟨x,hx,hqx⟩:=Amr h;rw[hx]at hk;simp only at hk;have hlen:=Tk _ _ x (QK _) hx;rw[ZQ]at hlen;have gV:ST.den (.bin .add .i64 (.a I) (.a q))=((i+1+x.1:Nat):Int):=by
     have h1:=V.at_.I;have h2:=V.s;show IntKind.i64.wrap (I+q)=_;rw[bE,hqx,wrap64 (by omega) (by omega)];omega
    clear h;refine⟨s.length-(i+1+x.1),by have:=V.at_.m;omega,?_⟩;rw[hJ];subst hD;refine⟨i+1+x.1,a,_,_,_,_,f,out,rfl,rfl,⟨⟨by omega,gV,rfl,V.at_.len⟩,by have:=V.vS;omega,V.A,by have:=V.out;omega,V.s⟩,R,hk⟩
  have jQ:aC s i≠34:=by rw[<-cQ.aC];have h:(c==34)=false:=h;simpa using h
  clear h;refine⟨_,rfl,rfl,by subst hD;exact cQ.le,λr hr=>?_⟩;have cP:r=D9 c:=by subst hD;exact hr
  clear hr;have fF:A8 (aC s i)=!(D9 c==0):=by rw[cQ.aC];unfold aC;rw[<-Uc,Kf]
  rw[<-cP]at fF;cbv;refine br hD (λh=>?_) (λh=>?_)<;>cbv
  .have h:(r==0)=true:=h
   rw[Aid aA (by rw[fF,h];rfl)]at hk;exact Ail hD hk pF fW jV eS
  have hp:A8 (aC s i)=true:=by have h:(r==0)=false:=h;rw[fF,h];rfl
  clear h;refine br hD (λh=>?_) (λh=>?_)<;>cbv
  .have hy:aC s i=y:=by rw[<-cQ.aC];have h:(c==y)=true:=h;simpa using h
   clear h;rw[Aib aA hp jQ hy]at hk;refine⟨by subst hD;exact Ey V.A V.at_.den V.vS (by omega),λr1 eX=>?_⟩;have iD:r1=cut s a i:=Jq hD V.A V.at_.den eX;clear eX;cbv;refine⟨_,rfl,rfl,by have:=V.s;rw[iD,cut,ZF,ZQ];omega,λt ht=>?_⟩;have uY:t=trimF (cut s a i):=by rw[ht,iD]
   clear ht;cbv;intro g hg;have lJ:g 0=[.str t]:=hg.h 0 _ rfl;clear hg;cbv;refine⟨?_,λf' n' cR=>?_⟩
   .have:=V.out;have:=V.s;have h:=R.n;rw[XW]at h;subst hD;exact⟨rfl,by show (n+1) * 16<=_;omega,by show n+1<=_;omega⟩
   have R':Bz f' n' ((out++[cut s a i]).map trimF):=by
    subst hD;rw[List.map_append,List.map_singleton];exact R.more (by rw[lJ,uY]) cR (by have:=V.out;have:=V.s;rw[XW];omega)
   clear cR lJ;cbv;refine⟨s.length-(i+1),(V.at_.step hD aA).1,?_⟩;rw[hJ];subst hD;exact⟨i+1,i+1,_,_,_,_,f',_,rfl,rfl,⟨(V.at_.step rfl aA).2,QK _,(V.at_.step rfl aA).2.I,by have:=V.out;simp;omega,V.s⟩,R',hk⟩
  .have hy:aC s i≠y:=by rw[<-cQ.aC];have h:(c==y)=false:=h;simpa using h
   clear h;rw[Aco aA V.vS hp jQ hy]at hk;refine⟨s.length-(i+1),(V.at_.step hD aA).1,?_⟩;rw[hJ];subst hD;exact⟨i+1,a,_,_,_,_,f,out,rfl,rfl,⟨(V.at_.step rfl aA).2,by have:=V.vS;omega,V.A,by have:=V.out;omega,V.s⟩,R,hk⟩
 .have hi:=V.at_.eq (QZ (p:=I<(s.length:Int)) h)
  clear h;rw[Aic hi]at hk;refine⟨by subst hD;exact Ey (s:=s) (j:=s.length) (b:=.len s) V.A rfl (by have:=V.vS;omega) (QK _),λr1 eX=>?_⟩;have iD:r1=s.drop a:=by
   have:=Jq (j:=s.length) (b:=.len s) hD V.A rfl eX;rw[this];exact ZT (by simp)
  clear eX;cbv;refine⟨_,rfl,rfl,by have:=V.s;rw[iD,ZQ];omega,λt ht=>?_⟩;have uY:t=trimF (s.drop a):=by rw[ht,iD]
  clear ht;cbv;intro g hg;have lJ:g 0=[.str t]:=hg.h 0 _ rfl;clear hg;cbv;refine⟨?_,λf' n' cR=>?_⟩
  .have:=V.out;have:=V.s;have h:=R.n;rw[XW]at h;subst hD;exact⟨rfl,by show (n+1) * 16<=_;omega,by show n+1<=_;omega⟩
  have R':Bz f' n' ((out++[s.drop a]).map trimF):=by
   subst hD;rw[List.map_append,List.map_singleton];exact R.more (by rw[lJ,uY]) cR (by have:=V.out;have:=V.s;rw[XW];omega)
  clear cR lJ;cbv;exact iz hD hk pF fW jV eS gO R' rfl (by show (nl&&false)=false;simp)
open Go Go.RowKit Go.Sx Go.Sort
set_option maxRecDepth 100000
def Qx(x:ByteArray):Bool:=x.toList.isEmpty
theorem Ael(x:ByteArray)(w:World):Calls Tryz.prog 180 #[.string x] w λe w'=>e=.returned (.bool (Qx x))/\∃q,w'=w.drewN q:=by
 go_enter Tryz.func180,Tryz.ntmps51
 go_wp2
 go_ret
 exact⟨rfl,0,rfl⟩
theorem Aaw(x:List UInt8):(!Qx (Sx.bytes x))=uV x:=by
 unfold Qx uV Sx.bytes;rw[Lib.toList_data];cases x<;>rfl
theorem Aap(l:List (List UInt8)):(l.map Sx.bytes).filter (λx=>!Qx x)=(l.filter uV).map Sx.bytes:=by
 rw[List.filter_map];congr 1;refine List.filter_congr λx _=>Aaw x
theorem App:∀args w,(callFunc 180 args).run Tryz.prog w=.ok (.enter 180 args) w:=enters_of Tryz.func180 (by kernel_rfl) rfl
theorem Rl{α:Type}[Inhabited α](enc:α->Value)(w:World)(aE off:Nat)(d:Array α)(k:Nat):(putRow enc w aE off d).heap[k]?=if aE=k then (w.heap[k]?).map (onCells (putCells enc off d)) else w.heap[k]?:=by
 unfold putRow mapBlock;simp only[XZ]
theorem yq{w:World}{q b:Nat}{cur:Array Value}{fr:Nat×Nat}{t:TypeId}(hg:w.heap[b]?=some (.cells cur t fr))(N:Array ByteArray)(hi:i<N.size)(hc:N.size<=cur.size):(putRow Value.string (Go.Sort.ahead w q) b 0 N).cell? ⟨b,i,none⟩=some (.string N[i]!):=by
 have h1:(putRow Value.string (Go.Sort.ahead w q) b 0 N).heap[b]?=some (.cells (putCells Value.string 0 N cur) t fr):=by
  rw[Rl,QE rfl];have:(Go.Sort.ahead w q).heap[b]?=w.heap[b]?:=rfl;rw[this,hg];rfl
 rw[cell_of_row _ b _ _ _ _ h1];simp only[putCells,Array.getElem?_mapIdx];rw[XP (by omega),QO,QE ⟨ZD _,by omega⟩];rfl
def EX:aD:=λ_ xs ls K=>∃(l:List (List UInt8)) (nb:Bool) (n:Int) (f:Nat->List SV),xs=[.bY (.a nb) (.a n) 0,.fn 180]/\ls=[.own 9 (.a n) 1 true f]/\Bz f n l/\0<l.length/\∀l' n',l'=l.filter uV->n'=(l'.length:Int)->K (.sl (.a false) (.a n') 1 (Da l')) [.gone]
theorem Ald:Aw Tryz.prog gl 179 EX:=by
 refine⟨⟨Tryz.f179,_,Tryz.func179,rfl,by kernel_rfl⟩,λxs ls K h=>?_⟩;obtain⟨l,nb,n,f,rfl,rfl,R,h0,h⟩:=h;refine⟨_,_,h _ _ rfl rfl,?_⟩;intro B E w bB xG JK eM hb hg hh hr;obtain⟨v,m,xs,k1,kz,k2,k3,k4,k5,k6⟩:=hh 0;have k3':n=(m:Int):=k3;have hm:m=l.length:=by have:=R.n;omega
 obtain⟨u,g,rfl,hu,II⟩:=I4 hr;obtain⟨huv,iX⟩:=Ib hu k1 k2 k3 rfl;subst huv;obtain rfl:g=.func (.func 180) #[] #[]:=by
  cases II with
  |ro h=>cases h with
   |fn h=>exact h
 rcases k2.2 with⟨e0,e1⟩|⟨b,cap,cur,fr,e0,nO,cI,pQ,fX,cV,bZ⟩
 .omega
 subst e0;obtain rfl:fr=(0,0):=by
  rcases cI with h|⟨h,_⟩
  .exact h
  .cases h
 have mQ:xs.length=l.length:=by rw[k2.1,hm];simp
 have kB:xs=l.map λx=>Value.string (Sx.bytes x):=by
  refine List.ext_getElem (by rw[mQ];simp) λi h1 h2=>?_;have hi:i<l.length:=by omega
  have:=k5.2 i 0 (.str (l.getD i [])) xs[i] (by omega) (by rw[R.f i hi];rfl) (by simp[QA h1]);cases this with
  |str h =>
   rw[h,List.getElem_map,QC,QA hi];rfl
 obtain⟨hO,hnI⟩:=k6 b rfl;have aA:b<w.heap.size:=(hb.dG b 0 hO).1;obtain⟨d,hd⟩:∃d,d=(l.map Sx.bytes).toArray:=⟨_,rfl⟩;have mV:d.size=m:=by rw[hd,hm];simp
 have hdl:d.toList=l.map Sx.bytes:=by rw[hd]
 have hH:Holds Value.string w b 0 d:=by
  intro j hj;have OH:j<l.length:=by omega
  refine⟨?_,Lib.frozen_of_heap nO _⟩;rw[cell_of_row w b _ cur _ _ nO,XD];have h1:cur.toList[j]?=some (Value.string (Sx.bytes l[j])):=by
   have:(cur.toList.take (m * 1))[j]?=xs[j]?:=by rw[bZ]
   rw[QL,QE (by omega),kB]at this;rw[this];simp[QA OH]
  rw[<-QG,h1,getElem!_pos d j hj];simp[hd]
 have hF:(d.toList.filter λx=>!Qx x)=(l.filter uV).map Sx.bytes:=by rw[hdl];exact Aap l
 have run:=Kx Value.string (λ_=>rfl) Qx 180 #[] App ⟨#[]⟩ Tryz.zeroValue9 b 0 cap d w (λW x _=>by simpa[FnGives] using Ael x W) (λq os dk x _=>by simpa[FnGives] using Ael x _) hH (by have:=R.len;omega) (by omega);rw[hF,mV]at run;refine run.mono ?_;clear run;rintro e w' ⟨rfl,q,rfl⟩;obtain⟨l',iA⟩:∃l',l'=l.filter uV:=⟨_,rfl⟩;rw[<-iA];have hle:l'.length<=l.length:=by rw[iA];exact ZX _ _
 obtain⟨N,hN⟩:∃N,N=(l'.map Sx.bytes++List.replicate (m-(l'.map Sx.bytes).length) (⟨#[]⟩:ByteArray)).toArray:=⟨_,rfl⟩;rw[<-hN];have hNs:N.size=m:=by rw[hN];simp;omega
 have hNi:∀i,i<l'.length->N[i]! = Sx.bytes (l'.getD i []):=by
  intro i hi;rw[getElem!_pos N i (by omega),QC,QA hi];simp only[hN,List.getElem_toArray];rw[List.getElem_append_left (by simpa using hi)];simp
 have aK:∀i,i<l'.length->(putRow Value.string (Go.Sort.ahead w q) b 0 N).cell? ⟨b,i,none⟩=some (.string (Sx.bytes (l'.getD i []))):=by
  intro i hi;rw[yq nO N (by omega) (by omega),hNi i hi]
 have oM:∀k,k≠b->(putRow Value.string (Go.Sort.ahead w q) b 0 N).heap[k]?=w.heap[k]?:=λk hk=>by rw[Rl,QD (λe=>hk e.symm)];rfl
 have cQ:∀b2 o,b2≠b->(putRow Value.string (Go.Sort.ahead w q) b 0 N).cell? ⟨b2,o,none⟩=w.cell? ⟨b2,o,none⟩:=λb2 o eA=>by simp only[World.cell?];rw[oM b2 eA]
 have aM:(putRow Value.string (Go.Sort.ahead w q) b 0 N).heap.size=w.heap.size:=by simp[putRow,mapBlock,Go.Sort.ahead]
 have hX:=(hb.dG b 0 hO).2
 let E':Env:=⟨E.β,E.τ,E.O,E.κ,E.ζ,λb2 o=>E.I b2 o\/(b2=b/\o<l'.length)⟩
 refine⟨_,E',rfl,⟨hb.os,hb.tape,hb.output,by rw[aM];exact hb.size,λb2 eC kN=>?_,λb2 o hi=>?_,λb2 o hi=>?_,λb2 o hi=>?_,λb2 j vK=>?_,⟨hb.cS.β,hb.cS.τ,hb.cS.ζ⟩⟩,λk hk=>?_,?_⟩
 .rw[oM b2 (λe=>?_)]
  .exact hb.old b2 eC kN
  .subst e
   rcases hX with h|h
   .omega
   .exact kN h
 .obtain⟨i1,i2⟩:=hb.I0 b2 o hi
  refine⟨.inl i1,?_⟩;rw[cQ b2 o (λe=>hnI o (by rw[<-e];exact i1))];exact i2
 .rw[aM]
  rcases hi with hi|⟨rfl,_⟩
  .exact hb.eJ b2 o hi
  .exact aA
 .rcases hi with hi|⟨rfl,_⟩
  .exact hb.cE b2 o hi
  .exact .inr hX
 .rw[aM];exact hb.dG b2 j vK
 .obtain rfl:k=0:=by simpa using hk
  trivial
 .refine .ro (.sl (λi j=>.string (Sx.bytes (l'.getD i []))) rfl ?_ ?_ fX (λ_=>rfl) (λi hi=>rfl) (λi j hi hj=>rfl) (λi j hi hj=>?_) (λi j s hi hs=>?_))
  .show (l'.length:Int)=_
   simp
  .simp;omega
  .obtain rfl:j=0:=by omega
   have hi:i<l'.length:=by simpa using hi
   refine⟨?_,.inr ⟨rfl,by simpa using hi⟩⟩;simpa using aK i hi
  .match j,hs with
   |0,hs =>
    have hs:some (SV.str (l'.getD i []))=some s:=hs;cases hs;exact .str rfl
   |j+1,hs=>simp[Da]at hs
set_option maxRecDepth 10000
def Ad9(s:List UInt8):Bool:=(Am s).2 != 0
theorem Aea:Aw Tryz.prog gl 127 (Tg Am Ad9):=by
 refine Bd (gh:=[]) mixed Be (Ab Al9 (Ab Ald Ai)) Tryz.func127 (by kernel_rfl) (by kernel_rfl) ?_;intro xs ls K h;unfold Tg at h;obtain⟨s,rfl,rfl,hl,h⟩:=h;obtain⟨k,hk⟩:∃k,k=Am s:=⟨_,rfl⟩;obtain⟨kl,ke⟩:=k;obtain⟨kn,fW⟩:∃kn:Int,kn=(kl.length:Int):=⟨_,rfl⟩;obtain⟨lD,eS⟩:∃lD:Bool,lD=(ke != 0):=⟨_,rfl⟩;refine⟨_,_,h kl ke kn lD hk fW (by rw[eS,Ad9,<-hk]),λD hD=>?_⟩;clear h;obtain⟨kr,gO⟩:∃kr,kr=Da kl:=⟨_,rfl⟩;rw[<-gO];rw[Am]at hk;cbv;refine br hD (λh=>?_) (λh=>?_)<;>cbv
 .have h:decide (2000<(s.length:Int))=true:=h
  rw[QE (by simpa using h)]at hk;exact Y2 (f:=λ_=>[]) hD hk fW gO Bz.nil rfl (by simp only[Prod.mk.injEq]at hk;rw[eS,hk.2];rfl) rfl
 have h:decide (2000<(s.length:Int))=false:=h;have h2:¬(2000<(s.length:Int)):=by simpa using h
 rw[QD h2]at hk;have hs:s.length<=2000:=by omega
 clear h h2;refine⟨s,_,rfl,rfl,by omega,λk l n b nb f OC iA hn hb eY hf=>?_⟩;have hp:k=Hr 44 s:=by subst hD;exact OC
 clear OC;rw[<-hp]at hk;cbv;refine br hD (λh=>?_) (λh=>?_)<;>cbv
 .have h:(!b)=true:=h
  have jL:k=none:=by
   cases k with
   |none=>rfl
   |some l=>rw[hb]at h;cases h
  rw[jL]at hk;exact Y2 (f:=λ_=>[]) hD hk fW gO Bz.nil rfl (by simp only[Prod.mk.injEq]at hk;rw[eS,hk.2];rfl) rfl
 have h:(!b)=false:=h;obtain⟨l0,rfl⟩:∃l,k=some l:=by
  cases k with
  |none=>rw[hb]at h;cases h
  |some l=>exact⟨l,rfl⟩
 clear h;obtain⟨h1,h2,h3⟩:=Nl hp.symm;simp only[XB]at iA;have hll:l.length=l0.length:=by rw[iA,XW]
 have RL:Bz f n l:=by rw[hf,hn];exact Bz.row (by omega)
 have WN:l.filter uV=Ja l0:=by rw[iA,Ja]
 have aR:l.filter uV=kl/\ke=0:=by simp only[Prod.mk.injEq]at hk;rw[WN];exact⟨hk.1.symm,hk.2⟩
 refine⟨l,_,_,f,rfl,rfl,by subst hD;exact RL,by omega,λl2 n2 gW wu=>?_⟩;have WM:l2=kl:=by rw[gW,aR.1]
 have R2:Bz (Da l2) n2 l2:=by
  rw[wu];refine Bz.row ?_;have:(l.filter uV).length<=l.length:=ZX _ _;rw[gW];omega
 obtain⟨g,hg⟩:∃g,g=Da l2:=⟨_,rfl⟩;rw[<-hg]at R2 ⊢;cbv;exact Y2 (f:=g) (l':=l2) (e':=0) hD (by rw[WM,aR.2]) fW gO R2 rfl (by rw[eS,aR.2];rfl) rfl
set_option maxRecDepth 100000
set_option maxHeartbeats 8000000
def Ct(c:Nat):Int :=
 if (48<=c/\c<=57)\/(65<=c/\c<=90)\/(97<=c/\c<=122)\/c=45\/c=46\/c=95\/c=126 then 1
 else if c=33\/c=36\/(38<=c/\c<=44)\/c=47\/c=58\/c=59\/c=61\/c=64 then 2 else 0
def eK:List SV:=(List.range 256).map λc=>.int .u8 (.a (Ct c))
def tp:aD:=λ_ xs ls K=>∃(s:List UInt8) (c:Int),xs=[.str s,.int .u8 (.a c)]/\ls=[]/\(0<=c/\c<=255)/\∀r,r=Lib.indexByte s (UInt8.ofNat c.toNat)->K (.int .i64 (.a r)) []
end Go.Proofs.YtdoogdbjiijifaaGreatDoor
