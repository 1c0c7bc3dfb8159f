/- Lemmas of the proof; no conditions. -/
import Derived.Test.YtdoogdbjiijifaaGreatDoorE9Pau
namespace Go.Proofs.YtdoogdbjiijifaaGreatDoor
open Go Go.Sx
set_option maxRecDepth 100000
set_option maxHeartbeats 4000000
instance:DecidableEq HF:=λa b=>decidable_of_iff (a.name=b.name/\a.value=b.value) (by cases a;cases b;simp)
instance:DecidableEq Rq:=λa b=>decidable_of_iff (a.id=b.id/\a.method=b.method/\a.target=b.target/\a.host=b.host/\a.fields=b.fields/\a.body=b.body) (by cases a;cases b;simp)
def qz:aB:=λ_ xs ls K=>∃(a b:List HF) (na nb:Bool) (A B:Int) (f g:Nat->List SV),xs=[.sl (.a na) (.a A) 2 f,.sl (.a nb) (.a B) 2 g]/\ls=[]/\A0 f A a/\A0 g B b/\∀r:Bool,r=decide (a=b)->K (.bool (.a r)) []
structure EqJ(k:Bool)(a b:List HF)(i:Nat)(I:Int)(m:Nat):Prop where
 at_:AtR a i I m
 k:k=decide (a.drop i=b.drop i)
def eqJ(k:Bool)(a b:List HF)(na nb:Bool)(A B:Int)(f g:Nat->List SV)(m:Nat)(vs:List (Option SV))(hp:List Hl):Prop :=
 ∃(i:Nat) (I:Int),vs=[some (.sl (.a na) (.a A) 2 f),some (.sl (.a nb) (.a B) 2 g),some (.int .i64 (.a I))]/\hp=[]/\EqJ k a b i I m
theorem uo{l:List HF}{i:Nat}(h:i<l.length):l.drop i=l.getD i default :: l.drop (i+1):=by
 rw[QD,QB h,XD,ZS h]
theorem Vq:Ap Tryz.prog gl 28 qz:=by
 refine Bq (gh:=[]) mixed Ck Ae Tryz.func28 (by kernel_rfl) (by kernel_rfl) ?_;intro xs ls K h;unfold qz at h;obtain⟨a,b,na,nb,A,B,f,g,rfl,rfl,RA,RB,h⟩:=h;obtain⟨k,hk⟩:∃k,k=decide (a=b):=⟨_,rfl⟩;refine⟨_,_,h k hk,λD hD=>?_⟩;cbv;clear h;refine br hD (λh=>?_) (λh=>?_)<;>cbv
 .have h2:A≠B:=by simpa using h
  refine Ar hD ?_;rw[hk];have h3:a≠b:=λe=>h2 (by rw[RA.n,RB.n,e]);show false=_
  symm
  exact UL h3
 have h2:A=B:=by simpa using h
 have aV2:a.length=b.length:=by have:=RA.n;have:=RB.n;omega
 clear h;obtain⟨J,hJ⟩:∃J,J=eqJ k a b na nb A B f g:=⟨_,rfl⟩;refine⟨[0,1,5],J,⟨rfl,a.length,?_⟩,?_⟩
 .rw[hJ]
  subst hD;exact⟨0,0,rfl,rfl,AtR.zero RA.len,hk⟩
 intro m vs mA hv;rw[hJ]at hv;unfold eqJ at hv;obtain⟨i,I,rfl,rfl,V⟩:=hv;clear hk;cbv;refine br hD (λh=>?_) (λh=>?_)<;>cbv
 .have aC:=V.at_.lt RA.n (QT (p:=I<A) h)
  clear h;have di:i<b.length:=by omega
  have inA:=V.at_.lY hD RA.n aC;have TT:Sx.fv (D.i (.a I)) (D.i (.a B)):=by have:=V.at_.I;have:=RB.n;subst hD;exact⟨by show 0<=I;omega,by show I<B;omega⟩
  have aY:=V.k;rw[uo aC,uo di]at aY;have e1:=RA.f i aC;have d1:=RB.f i di;obtain⟨x,hx⟩:∃x,x=a.getD i default:=⟨_,rfl⟩;obtain⟨y,hy⟩:∃y,y=b.getD i default:=⟨_,rfl⟩;rw[<-hx]at e1 aY;rw[<-hy]at d1 aY;clear hx hy;obtain⟨x1,x2⟩:=x;obtain⟨y1,y2⟩:=y;have eY:=V.at_.step hD aC;refine⟨inA,λj hj=>?_⟩;have hj:=V.at_.j hD hj;cbv;rw[hj,e1];cbv;refine⟨TT,λj2 rH=>?_⟩;have rH:=V.at_.j hD rH;cbv;rw[rH,d1];cbv;refine br hD (λh=>?_) (λh=>?_)<;>cbv
  .have h:(!((x1==y1)&&(x2==y2)))=true:=h
   refine Ar hD ?_;show false=k;rw[aY]
   symm
   apply UL;intro e
   injection e with e1 e2
   injection e1 with e3 e4
   rw[e3,e4]at h;simp at h
  .have h:(!((x1==y1)&&(x2==y2)))=false:=h
   simp only[XZ,QE,QO]at h;refine⟨_,eY.1,?_⟩;rw[hJ];unfold eqJ;subst hD;refine⟨i+1,_,rfl,rfl,⟨eY.2,?_⟩⟩;rw[aY,h.1,h.2];simp
 .have he:=V.at_.eq RA.n (XA (p:=I<A) h)
  refine Ar hD ?_;show true=k;rw[V.k,ZN (by omega),ZN (by omega)];rfl
def wA:aB:=λ_ xs ls K=>∃(a b:Rq) (na nb:Bool) (A B:Int) (f g:Nat->List SV),xs=[.agg [.int .i64 (.a a.id),.str a.method,.str a.target,.str a.host,.sl (.a na) (.a A) 2 f,.str a.body],.agg [.int .i64 (.a b.id),.str b.method,.str b.target,.str b.host,.sl (.a nb) (.a B) 2 g,.str b.body]]/\ls=[]/\A0 f A a.fields/\A0 g B b.fields/\∀r:Bool,r=decide (a=b)->K (.bool (.a r)) []
theorem Alo:Ap Tryz.prog gl 95 wA:=by
 refine Bq (gh:=[]) mixed Ck (Aa Vq Ae) Tryz.func95 (by kernel_rfl) (by kernel_rfl) ?_;intro xs ls K h;unfold wA at h;obtain⟨a,b,na,nb,A,B,f,g,rfl,rfl,RA,RB,h⟩:=h;obtain⟨k,hk⟩:∃k,k=decide (a=b):=⟨_,rfl⟩;refine⟨_,_,h k hk,λD hD=>?_⟩;obtain⟨i1,m1,t1,h1,l1,b1⟩:=a;obtain⟨i2,m2,t2,h2,l2,b2⟩:=b;cbv;clear h;refine⟨l1,l2,na,nb,A,B,f,g,by subst hD;rfl,rfl,RA,RB,λr hr=>?_⟩;cbv;refine Ar hD ?_;show ((((((i1==i2)&&(m1==m2))&&(t1==t2))&&(h1==h2))&&(b1==b2))&&r)=k;rw[hk,hr,XY];simp only[QE,QO,QG,Rq.mk.injEq]
 grind
set_option maxHeartbeats 8000000
set_option maxHeartbeats 16000000
set_option maxHeartbeats 8000000
set_option maxHeartbeats 16000000
set_option maxHeartbeats 8000000
def Dv(l:List HF)(t:List UInt8):List (List UInt8):=(l.filter λx=>bH x.name==t).map HF.value
theorem Aio(x:HF)(l:List HF)(t:List UInt8):Dv (x :: l) t=if bH x.name==t then x.value :: Dv l t else Dv l t:=by
 unfold Dv;rw[UQ]
 split<;>simp
theorem Tm(l:List HF)(t:List UInt8):(Dv l t).length<=l.length:=by
 unfold Dv;rw[XW];exact YV ..
def ox(c:Int):Bool:=decide (48<=c)&&decide (c<=57)
set_option maxHeartbeats 400000
set_option maxHeartbeats 8000000
def Qy(s:List UInt8):Bool:=s.all λb=>ox (b.toNat:Int)
theorem An3(t:List UInt8):(Lib.trimS t BZ=[])↔Qy t=true:=by
 unfold Qy;rw[List.all_eq_true];have e:∀c:UInt8,BZ.contains c=ox (c.toNat:Int):=λc=>by
  rw[XY,AN];unfold ox;simp only[QE,QG];omega
 constructor
 .intro h c hc
  rw[<-e];exact Aiq h c hc
 .intro h
  show ((t.reverse.dropWhile (λx=>BZ.contains x)).reverse).dropWhile (λx=>BZ.contains x)=[];rw[dropWhile_nil];intro x hx;have hx:=List.mem_reverse.1 hx;have hx:x∈t.reverse:=(List.dropWhile_suffix _).subset hx;rw[e];exact h x (List.mem_reverse.1 hx)
set_option maxHeartbeats 16000000
def Xo:Nat->List UInt8->Nat
 |acc,[]=>acc
 |acc,c :: r=>if c=45 then Xo acc r else Xo (acc * 10+(c.toNat-48)) r
theorem Agd{s:List UInt8}(h:Qy s=true):∀c∈s,48<=c.toNat/\c.toNat<=57:=λc hc=>by
 have:=List.all_eq_true.1 h c hc;unfold ox at this;simp only[QE,QG]at this;omega
set_option maxHeartbeats 4000000
set_option maxHeartbeats 16000000
theorem Ahr(b:List UInt8):∀(m p:Nat) (r:List HF),p<=b.length->(∀x∈r,x.value.length<=2000)->
  (∀x∈(lE b m p r).1,x.value.length<=2000)/\0<=(lE b m p r).2.1/\(lE b m p r).2.1<=b.length
 |0,p,r,_,_=>⟨λx hx=>by simp[lE]at hx,by simp[lE],by simp[lE]⟩
 |m+1,p,r,hp,hs=>by
  have h0:∀z:Int,(∀x∈(([],0,z):List HF×Int×Int).1,x.value.length<=2000)/\0<=(([],0,z):List HF×Int×Int).2.1/\(([],0,z):List HF×Int×Int).2.1<=(b.length:Int):=λz=>⟨λx hx=>(nomatch hx),by simp,by simp⟩;have hi:=Mp (s:=b.drop p) (c:=10);rw[QX]at hi;unfold lE
  split
  .exact h0 _
  split
  .exact h0 _
  rename_i hn;have hi2:=hi.2 (by omega)
  split
  .exact h0 _
  split
  .exact⟨hs,by show 0<=(p:Int)+_+1;omega,by show (p:Int)+_+1<=_;omega⟩
  split
  .exact h0 _
  split
  .exact h0 _
  rename_i h;simp only[XS,QG,not_or]at h;obtain⟨h1,h2⟩:=h;refine Ahr b m _ _ (by omega) λx hx=>?_;rcases List.mem_append.1 hx with hx|hx
  .exact hs x hx
  .have hx:=List.mem_singleton.1 hx
   subst hx;show (trimF _).length<=_;omega
theorem Afw(b:List UInt8):(∀x∈(A7 b).1,x.value.length<=2000)/\0<=(A7 b).2.1/\(A7 b).2.1<=b.length:=Ahr b _ 0 [] (by omega) (λx hx=>by cases hx)
def SP:Rq:=⟨0,[],[],[],[],[]⟩
set_option maxHeartbeats 4000000
set_option maxHeartbeats 400000
set_option maxHeartbeats 8000000
theorem Adw{r:Rq}(h:(B7 r).2=0):(Cn r).2=0/\(B7 r).1=(Cn r).1/\A9 (Cn r).1=0/\A9 r.fields=0/\Rb r.fields=false:=by
 unfold B7 at h ⊢
 split at h
 .rename_i g;exact absurd h g
 rename_i g1
 split at h
 .cases h
 rename_i g2
 split at h
 .rename_i g;exact absurd h g
 rename_i g3;rw[QA g1,QA g2,QA g3];exact⟨by simpa using g3,rfl,h,by simpa using g1,by simpa using g2⟩
set_option maxHeartbeats 16000000
set_option maxHeartbeats 40000000
set_option maxHeartbeats 400000
theorem Yz(c:UInt8)(s:List UInt8):c ∉ (Bh c s).1/\s=(Bh c s).1++(if (Bh c s).2.2 then c :: (Bh c s).2.1 else [])/\((Bh c s).2.2=false->(Bh c s).2.1=[]):=by
 induction s with
 |nil=>simp[Bh]
 |cons b r ih =>
  rw[show Bh c (b :: r)=if b==c then ([],r,true) else (b :: (Bh c r).1,(Bh c r).2) from rfl]
  by_cases hb:b=c
  .rw[QC (by simpa using hb)];simp[hb]
  .rw[QA (by simpa using hb)]
   obtain⟨h1,h2,h3⟩:=ih;refine⟨?_,?_,h3⟩
   .rw[XT,not_or];exact⟨λe=>hb e.symm,h1⟩
   .show b :: r=b :: ((Bh c r).1++_)
    rw[<-h2]
theorem Ads{c:UInt8}:∀ {a:List UInt8},c ∉ a->∀b,Bh c (a++c :: b)=(a,b,true)
 | [],_,b=>by simp[Bh]
 |x :: a,h,b=>by
  rw[XT,not_or]at h;show (if x==c then ([],a++c :: b,true) else (x :: (Bh c (a++c :: b)).1,(Bh c (a++c :: b)).2))=_;rw[QA (by simpa using λe=>h.1 e.symm),Ads h.2 b]
theorem Y0{c:UInt8}:∀ {a:List UInt8},c ∉ a->Bh c a=(a,[],false)
 | [],_=>by simp[Bh]
 |x :: a,h=>by
  rw[XT,not_or]at h;show (if x==c then _ else _)=_;rw[QA (by simpa using λe=>h.1 e.symm),Y0 h.2]
structure Aii(x:HF):Prop where
 name:Cb x.name=true
 plain:Ds x.value=true
 trim:trimF x.value=x.value
 len:x.value.length<=2000
def uv(x:HF):List UInt8:=(x.name++[58,32])++x.value
theorem Amz(x:HF):Rr x=uv x++[13,10]:=rfl
theorem Xd{a u:List UInt8}{j:Nat}(h:j<a.length):(a++u).getD j 0=a.getD j 0:=by
 rw[QD,QM h,<-QD]
theorem V6:∀(l:List HF) (n:Int),Fx l n=0↔(∀x∈l,Aii x)/\n+((l.flatMap Rr).length:Int)<=8192
 | [],n=>by
  unfold Fx;simp only[List.flatMap_nil,QV]
  split<;>simp<;>omega
 |x :: l,n=>by
  unfold Fx;have bC:NY x=((Rr x).length:Int):=by
   unfold NY;rw[Amz];unfold uv;simp;omega
  by_cases hb:qd x=true
  .rw[QC hb]
   constructor
   .intro h;cases h
   .rintro⟨h,_⟩
    have hx:=h x (XB ..);unfold qd at hb;rw[hx.name,hx.plain,hx.trim]at hb;simp at hb
  .rw[QA hb]
   have hb:qd x=false:=by simpa using hb
   unfold qd at hb;simp only[QU,XZ,bne_eq_false_iff_eq]at hb
   by_cases hv:2000<x.value.length
   .rw[QC hv]
    constructor
    .intro h;cases h
    .rintro⟨h,_⟩
     have:=(h x (XB ..)).len;omega
   .rw[QA hv,V6 l,bC,List.flatMap_cons,QF]
    constructor
    .rintro⟨h1,h2⟩
     refine⟨λy hy=>?_,by omega⟩;rcases List.mem_cons.1 hy with rfl|hy
     .exact⟨hb.1,hb.2.1,hb.2.2,by omega⟩
     .exact h1 y hy
    .rintro⟨h1,h2⟩
     exact⟨λy hy=>h1 y (XC _ hy),by omega⟩
theorem Ic(l:List HF):A9 l=0↔l.length<=100/\(∀x∈l,Aii x)/\(Ly l).length<=8192:=by
 unfold A9;have hL:(Ly l).length=(l.flatMap Rr).length+2:=by unfold Ly;rw[QF];rfl
 by_cases h:100<l.length
 .rw[QC h]
  constructor
  .intro g;cases g
  .rintro⟨g,_⟩;omega
 .rw[QA h,V6]
  constructor
  .rintro⟨h1,h2⟩;exact⟨by omega,h1,by omega⟩
  .rintro⟨_,h1,h2⟩;exact⟨h1,by omega⟩
structure oL where
 minor:Int
 status:Int
 reason:List UInt8
 fields:List HF
structure Ch where
 phase:Int
 line:List UInt8
 data:List UInt8
 left:Int
 aE:List HF
structure Rs where
 method:List UInt8
 phase:Int
 infos:Int
 line:List UInt8
 head:oL
 aD:Int
 body:List UInt8
 left:Int
 chunks:Ch
def jU:oL:=⟨0,0,[],[]⟩
def qZ:Ch:=⟨0,[],[],0,[]⟩
def FI(m:List UInt8):Rs:=⟨m,0,0,[],jU,0,[],0,qZ⟩
def J7(s:List UInt8):Int:=if (decide (1<=s.length)&&decide (s.length<=10))&&Qy s then (Xo 0 s:Int) else -1
def Hz:List UInt8:=[72,84,84,80,47,49,46]
def vc(w:List UInt8):Bool :=
 decide (13<=w.length)&&(w.take 7==Hz)&&(w.getD 7 0==48||w.getD 7 0==49)&&(w.getD 8 0==32)&&(w.getD 12 0==32)&&Ds (w.drop 13)&&decide (100<=J7 ((w.drop 9).take 3))&&decide (J7 ((w.drop 9).take 3)<=599)
def qj(w:List UInt8):oL:=⟨((w.getD 7 0).toNat:Int)-48,J7 ((w.drop 9).take 3),w.drop 13,[]⟩
def Au(b:List UInt8):oL×Int×Int :=
 if !(Bh 10 (b.take 302)).2.2 then (jU,0,if 302<=b.length then 3 else 10) else
 if !(Lib.hasSuffix (Bh 10 (b.take 302)).1 [13]&&vc (Lib.trimSuffix (Bh 10 (b.take 302)).1 [13])) then (jU,0,6) else
 if (A7 (b.drop ((Bh 10 (b.take 302)).1.length+1))).2.2≠0 then (jU,0,(A7 (b.drop ((Bh 10 (b.take 302)).1.length+1))).2.2) else
 ({ qj (Lib.trimSuffix (Bh 10 (b.take 302)).1 [13]) with fields:=(A7 (b.drop ((Bh 10 (b.take 302)).1.length+1))).1 },((Bh 10 (b.take 302)).1.length:Int)+1+(A7 (b.drop ((Bh 10 (b.take 302)).1.length+1))).2.1,0)
def Cc:List (List UInt8)->Option (List (List UInt8))
 | []=>some []
 |v :: r=>if (A5 v).2=0 then (Cc r).map λl=>(A5 v).1.map bH++l else none
def fL:List UInt8:=[116,114,97,110,115,102,101,114,45,101,110,99,111,100,105,110,103]
def Jj:List UInt8:=[99,104,117,110,107,101,100]
def FE:List UInt8:=[72,69,65,68]
def Ib(h:oL):Int:=if (h.minor≠0/\h.minor≠1)\/h.status<100\/599<h.status then 6 else A9 h.fields
def Fs(l:List (List UInt8)):Int×Int :=
 match l with
 | []=>(0,6)
 |x :: r=>if (x :: r).all (λs=>decide (0<=J7 s)&&(J7 s==J7 x)) then (if 65536<J7 x then (0,3) else (J7 x,0)) else (0,6)
def Zn(m:List UInt8)(st:Int):Bool:=((m==FE||decide (st<200))||st==204)||st==304
def As(m:List UInt8)(h:oL):Int×Int×Int :=
 if !Cb m then (0,0,2) else if Ib h≠0 then (0,0,Ib h) else
 if Zn m h.status then (0,0,0) else
 if (Dv h.fields fL)≠[] then
  (if (Dv h.fields iO)≠[]\/h.minor=0\/Cc (Dv h.fields fL)≠some [Jj] then (0,0,6) else (2,0,0)) else
 if (Dv h.fields iO)≠[] then
  (match Cc (Dv h.fields iO) with
   |none=>(0,0,6)
   |some l=>if (Fs l).2=0 then (1,(Fs l).1,0) else (0,0,(Fs l).2)) else (3,0,0)
def Ff(c:UInt8):Int:=Gb (c.toNat:Int)
def F8:List UInt8->Nat->Nat->Nat×Nat
 | [],k,n=>(k,n)
 |c :: r,k,n=>if 0<=Ff c then F8 r (k+1) (16 * n+(Ff c).toNat) else (k,n)
def Bb(l:List UInt8):Nat×Nat:=F8 l 0 0
def Da(l:List UInt8):Bool:=decide (l≠[])&&(l.getD (l.length-1) 0==13)
def B8(l:List UInt8)(c:UInt8):Int :=
 if Da l then 6 else
 if c=13 then (if (Bb l).1=0 then 6 else 0) else
 if (Bb l).1=l.length then
  (if 0<=Ff c/\(Bb l).1=8 then 3 else if Ff c<0/\(c≠59\/(Bb l).1=0) then 6 else if 200<=l.length then 3 else 0)
 else if !okB c then 6 else if 200<=l.length then 3 else 0
def Mc:List (List UInt8):=[[99,111,110,110,101,99,116,105,111,110],[99,111,110,116,101,110,116,45,108,101,110,103,116,104],[104,111,115,116],[116,114,97,105,108,101,114],fL]
def Wa(l:List HF):Bool:=l.any λx=>CQ Mc (bH x.name)
def cF(s:Ch)(c:UInt8):Ch×Int :=
 if s.phase=0 then
  (if c=10/\Da s.line=true then
   (if (Bb s.line).2=0 then (⟨3,[],s.data,s.left,s.aE⟩,0) else if 65536<s.data.length+(Bb s.line).2 then (s,3) else (⟨1,[],s.data,(Bb s.line).2,s.aE⟩,0))
   else if B8 s.line c≠0 then (s,B8 s.line c) else (⟨0,s.line++[c],s.data,s.left,s.aE⟩,0))
 else if s.phase=1 then (⟨if s.left-1=0 then 2 else 1,s.line,s.data++[c],s.left-1,s.aE⟩,0)
 else if s.phase=2 then
  (if s.line=[]/\c=13 then (⟨2,[13],s.data,s.left,s.aE⟩,0) else if s.line=[13]/\c=10 then (⟨0,[],s.data,s.left,s.aE⟩,0) else (s,6))
 else
  (if (A7 (s.line++[c])).2.2=10 then (⟨3,s.line++[c],s.data,s.left,s.aE⟩,0) else
   if (A7 (s.line++[c])).2.2≠0 then (s,(A7 (s.line++[c])).2.2) else
   if Wa (A7 (s.line++[c])).1 then (s,6) else
   if A9 (A7 (s.line++[c])).1≠0 then (s,A9 (A7 (s.line++[c])).1) else
   (⟨4,[],s.data,s.left,(A7 (s.line++[c])).1⟩,0))
def Cq(l:List UInt8):Prop:=∀i,i<l.length->B8 (l.take i) (l.getD i 0)=0
instance (l:List UInt8):Decidable (Cq l):=by unfold Cq;exact inferInstance
structure D7(s:Ch):Prop where
 data:s.data.length<=65536
 left:s.phase=1↔s.left≠0
 gN:s.phase=4\/s.aE=[]
 ph:s.phase=0\/s.phase=1\/s.phase=2\/s.phase=3\/s.phase=4
 p0:s.phase=0->Cq s.line
 p1:s.phase=1->s.line=[]/\1<=s.left/\s.left<=65536-(s.data.length:Int)
 p2:s.phase=2->(s.line=[]\/s.line=[13])/\s.data≠[]
 p3:s.phase=3->(A7 s.line).2.2=10
 p4:s.phase=4->s.line=[]/\A9 s.aE=0/\Wa s.aE=false
variable {l:List UInt8}{c:UInt8}{t t':ST}
theorem Ro(h:Cq l)(hc:B8 l c=0):Cq (l++[c]):=λi hi=>by
 rw[QF]at hi
 by_cases h1:i<l.length
 .rw[List.take_append_of_le_length (by omega),Xd h1]
  exact h i h1
 .have:i=l.length:=by simp only[QH,QV]at hi;omega
  subst this;rw[UV,QD,QP (by omega)];simpa using hc
theorem Afx:A7 []=([],0,10):=rfl
theorem LD:D7 qZ:=⟨by simp[qZ],by simp[qZ],.inr rfl,.inl rfl,λ_ i hi=>by simp[qZ]at hi,λh=>by simp[qZ]at h,λh=>by simp[qZ]at h,λh=>by simp[qZ]at h,λh=>by simp[qZ]at h⟩
variable {s:Ch}
theorem Q4{t:Ch}(h:D7 s)(h4:s.phase≠4)(hs:cF s c=(t,0)):D7 t:=by
 unfold cF at hs;have sn:s.aE=[]:=h.gN.resolve_left h4
 split at hs
 .rename_i h0
  have hl:s.left=0:=by
   rcases Decidable.em (s.left=0) with e|e
   .exact e
   .have:=h.left.2 e;omega
  split at hs
  .split at hs
   .have:=(Prod.mk.inj hs).1;subst this
    exact⟨h.data,by simp[hl],.inr sn,by simp,λg=>by simp at g,λg=>by simp at g,λg=>by simp at g,λ_=>by rw[Afx],λg=>by simp at g⟩
   .rename_i hn
    split at hs
    .have:=(Prod.mk.inj hs).2;cases this
    .rename_i hd
     have:=(Prod.mk.inj hs).1;subst this;refine⟨h.data,?_,.inr sn,by simp,λg=>by simp at g,λ_=>⟨rfl,?_,?_⟩,λg=>by simp at g,λg=>by simp at g,λg=>by simp at g⟩
     .simp only[true_iff];show ((Bb s.line).2:Int)≠0;omega
     .show 1<=((Bb s.line).2:Int);omega
     .show ((Bb s.line).2:Int)<=65536-(s.data.length:Int);omega
  .split at hs
   .rename_i g;have:=(Prod.mk.inj hs).2;exact absurd this g
   .rename_i g
    have:=(Prod.mk.inj hs).1;subst this;exact⟨h.data,by simp[hl],.inr sn,by simp,λ_=>Ro (h.p0 h0) (by simpa using g),λg=>by simp at g,λg=>by simp at g,λg=>by simp at g,λg=>by simp at g⟩
 split at hs
 .rename_i h1
  obtain⟨q1,q2,q3⟩:=h.p1 h1;have:=(Prod.mk.inj hs).1;subst this
  by_cases hz:s.left-1=0
  .rw[QC hz]
   exact⟨by simp only[QF,QH,QV];omega,by simp;omega,.inr sn,by simp,λg=>by simp at g,λg=>by simp at g,λ_=>⟨.inl q1,by simp⟩,λg=>by simp at g,λg=>by simp at g⟩
  .rw[QA hz]
   exact⟨by simp only[QF,QH,QV];omega,by simp;omega,.inr sn,by simp,λg=>by simp at g,λ_=>⟨q1,by simp only;omega,by simp only[QF,QH,QV];omega⟩,λg=>by simp at g,λg=>by simp at g,λg=>by simp at g⟩
 split at hs
 .rename_i h2
  obtain⟨q1,q2⟩:=h.p2 h2;have hl:s.left=0:=by
   rcases Decidable.em (s.left=0) with e|e
   .exact e
   .have:=h.left.2 e;omega
  split at hs
  .have:=(Prod.mk.inj hs).1;subst this
   exact⟨h.data,by simp[hl],.inr sn,by simp,λg=>by simp at g,λg=>by simp at g,λ_=>⟨.inr rfl,q2⟩,λg=>by simp at g,λg=>by simp at g⟩
  .split at hs
   .have:=(Prod.mk.inj hs).1;subst this
    exact⟨h.data,by simp[hl],.inr sn,by simp,λ_ i hi=>by simp at hi,λg=>by simp at g,λg=>by simp at g,λg=>by simp at g,λg=>by simp at g⟩
   .have:=(Prod.mk.inj hs).2;cases this
 rename_i g0 g1 g2;have h3:s.phase=3:=by rcases h.ph with g|g|g|g|g<;>omega
 have hl:s.left=0:=by
  rcases Decidable.em (s.left=0) with e|e
  .exact e
  .have:=h.left.2 e;omega
 split at hs
 .rename_i hm
  have:=(Prod.mk.inj hs).1;subst this;exact⟨h.data,by simp[hl],.inr sn,by simp,λg=>by simp at g,λg=>by simp at g,λg=>by simp at g,λ_=>hm,λg=>by simp at g⟩
 split at hs
 .rename_i g;exact absurd (Prod.mk.inj hs).2 g
 split at hs
 .have:=(Prod.mk.inj hs).2;cases this
 rename_i hb
 split at hs
 .rename_i g;exact absurd (Prod.mk.inj hs).2 g
 rename_i hc;have:=(Prod.mk.inj hs).1;subst this;exact⟨h.data,by simp[hl],.inl rfl,by simp,λg=>by simp at g,λg=>by simp at g,λg=>by simp at g,λg=>by simp at g,λ_=>⟨rfl,by simpa using hc,by simpa using hb⟩⟩
def Cd(s:Rs)(h:oL):Rs×Int :=
 if (As s.method h).2.2≠0 then (s,(As s.method h).2.2) else
 (⟨s.method,if (As s.method h).1=0\/((As s.method h).1=1/\(As s.method h).2.1=0) then 2 else 1,s.infos,[],h,(As s.method h).1,s.body,(As s.method h).2.1,s.chunks⟩,0)
def aZ(s:Rs)(c:UInt8):Rs×Int :=
 if s.phase=0 then
  (if (Au (s.line++[c])).2.2=10 then ({ s with line:=s.line++[c] },0) else
   if (Au (s.line++[c])).2.2≠0 then (s,(Au (s.line++[c])).2.2) else
   if (Au (s.line++[c])).1.status=101 then (s,6) else
   if 200<=(Au (s.line++[c])).1.status then Cd s (Au (s.line++[c])).1 else
   if 10<s.infos+1 then (s,3) else ({ s with line:=[],infos:=s.infos+1 },0))
 else if s.aD=2 then
  (if (cF s.chunks c).2≠0 then (s,(cF s.chunks c).2) else ({ s with chunks:=(cF s.chunks c).1,phase:=if (cF s.chunks c).1.phase=4 then 2 else s.phase },0))
 else if 65536<=s.body.length then (s,3) else
 if s.aD=1 then ({ s with body:=s.body++[c],left:=s.left-1,phase:=if s.left-1=0 then 2 else s.phase },0) else ({ s with body:=s.body++[c] },0)
def Ah(s:Rs):List UInt8->Rs×Nat×Int
 | []=>(s,0,0)
 |c :: b=>if s.phase=2 then (s,0,0) else if (aZ s c).2≠0 then (s,0,(aZ s c).2) else ((Ah (aZ s c).1 b).1,(Ah (aZ s c).1 b).2.1+1,(Ah (aZ s c).1 b).2.2)
structure Ce(s:Rs):Prop where
 tok:Cb s.method=true
 i0:0<=s.infos
 i1:s.infos<=10
 ph:s.phase=0\/s.phase=1\/s.phase=2
 p0:s.phase=0->(Au s.line).2.2=10/\s.head=jU/\s.aD=0/\s.body=[]/\s.left=0/\s.chunks=qZ
 p1:s.phase≠0->s.line=[]/\200<=s.head.status/\Ds s.head.reason=true/\s.head.reason.length<=287/\(As s.method s.head).2.2=0/\(As s.method s.head).1=s.aD/\
  (s.aD≠2->s.chunks=qZ)/\(s.aD≠1->s.left=0)
 f0:s.phase≠0->s.aD=0->s.phase=2/\s.body=[]
 f1:s.phase≠0->s.aD=1->0<=s.left/\s.left<=(As s.method s.head).2.1/\(s.body.length:Int)=(As s.method s.head).2.1-s.left/\(s.phase=2↔s.left=0)
 f2:s.phase≠0->s.aD=2->s.body=[]/\D7 s.chunks/\(s.phase=2↔s.chunks.phase=4)
 f3:s.phase≠0->s.aD=3->s.body.length<=65536
theorem Jb(m:List UInt8)(h:oL):(As m h).1=0\/(As m h).1=1\/(As m h).1=2\/(As m h).1=3:=by
 unfold As
 split
 .simp
 split
 .simp
 split
 .simp
 split
 .split<;>simp
 split
 .split
  .simp
  .split<;>simp
 .simp
theorem Aes(l:List (List UInt8)):0<=(Fs l).1/\(Fs l).1<=65536:=by
 unfold Fs
 split
 .simp
 .split
  .rename_i h
   split
   .simp
   .rename_i g
    rw[List.all_cons,QE,QE]at h;have:=QT h.1.1;exact⟨this,by show J7 _<=_;omega⟩
  .simp
theorem Hn(m:List UInt8)(h:oL):0<=(As m h).2.1/\(As m h).2.1<=65536/\((As m h).1≠1->(As m h).2.1=0):=by
 unfold As
 split
 .simp
 split
 .simp
 split
 .simp
 split
 .split<;>simp
 split
 .split
  .simp
  .rename_i l _
   have:=Aes l
   split
   .exact⟨this.1,this.2,λg=>absurd rfl g⟩
   .simp
 .simp
theorem Xg(b:List UInt8)(h:(Bh 10 (b.take 302)).2.2=true):(Bh 10 (b.take 302)).1.length<=301:=by
 obtain⟨h1,h2,h3⟩:=Yz 10 (b.take 302);rw[h,QC rfl]at h2;have:=congrArg List.length h2;rw[QW,QF,QH]at this;omega
theorem Aep{w:List UInt8}(h:vc w=true):Ds (qj w).reason=true/\100<=(qj w).status/\(qj w).status<=599/\(qj w).reason.length=w.length-13/\13<=w.length:=by
 unfold vc at h;simp only[QE,QG]at h;obtain⟨⟨⟨⟨⟨⟨⟨a,_⟩,_⟩,_⟩,_⟩,b⟩,c⟩,d⟩:=h;exact⟨b,c,d,by show (w.drop 13).length=_;rw[QX],a⟩
theorem Ae7{b:List UInt8}(h:(Au b).2.2=0):Ds (Au b).1.reason=true/\100<=(Au b).1.status/\(Au b).1.reason.length<=287:=by
 unfold Au at h ⊢
 split at h
 .split at h<;>cases h
 rename_i g1
 split at h
 .cases h
 rename_i g2
 split at h
 .rename_i g;exact absurd h g
 rename_i g3;rw[QA g1,QA g2,QA g3];have g1:(Bh 10 (b.take 302)).2.2=true:=by simpa using g1
 have g2:(Lib.hasSuffix (Bh 10 (b.take 302)).1 [13]&&vc (Lib.trimSuffix (Bh 10 (b.take 302)).1 [13]))=true:=by simpa using g2
 rw[QE]at g2;obtain⟨s1,s2,s3,s4,s5⟩:=Aep g2.2;have hl:=Xg b g1;have aC:(Lib.trimSuffix (Bh 10 (b.take 302)).1 [13]).length<=300:=by
  unfold Lib.trimSuffix;rw[QC g2.1,QW];simp only[QH,QV];omega
 exact⟨s1,s2,by show (qj _).reason.length<=287;rw[s4];omega⟩
theorem T9:(Au []).2.2=10:=rfl
theorem wi{m:List UInt8}(h:Cb m=true):Ce (FI m) :=
 ⟨h,by simp[FI],by simp[FI],.inl rfl,λ_=>⟨T9,rfl,rfl,rfl,rfl,rfl⟩,λg=>absurd rfl g,λg=>absurd rfl g,λg=>absurd rfl g,λg=>absurd rfl g,λg=>absurd rfl g⟩
theorem Kf{s t:Rs}(h:Ce s)(h2:s.phase≠2)(hs:aZ s c=(t,0)):Ce t:=by
 unfold aZ at hs
 split at hs
 .rename_i h0
  obtain⟨p1,p2,p3,p4,p5,p6⟩:=h.p0 h0
  split at hs
  .rename_i hm
   have:=(Prod.mk.inj hs).1;subst this;exact⟨h.tok,h.i0,h.i1,h.ph,λ_=>⟨hm,p2,p3,p4,p5,p6⟩,λg=>absurd h0 g,λg=>absurd h0 g,λg=>absurd h0 g,λg=>absurd h0 g,λg=>absurd h0 g⟩
  split at hs
  .rename_i g;exact absurd (Prod.mk.inj hs).2 g
  rename_i gE;have gE:(Au (s.line++[c])).2.2=0:=by simpa using gE
  split at hs
  .have:=(Prod.mk.inj hs).2;cases this
  split at hs
  .rename_i eY
   unfold Cd at hs
   split at hs
   .rename_i g;exact absurd (Prod.mk.inj hs).2 g
   rename_i hf;have hf:(As s.method (Au (s.line++[c])).1).2.2=0:=by simpa using hf
   have:=(Prod.mk.inj hs).1;subst this;obtain⟨q1,q2,q3⟩:=Ae7 gE;obtain⟨r1,r2,r3⟩:=Hn s.method (Au (s.line++[c])).1;obtain⟨k,hk⟩:∃k,k=As s.method (Au (s.line++[c])).1:=⟨_,rfl⟩;obtain⟨H,hH⟩:∃H,H=(Au (s.line++[c])).1:=⟨_,rfl⟩;rw[<-hH]at hk eY q1 q2 q3;rw[<-hH,<-hk]at hf r1 r2 r3;rw[<-hH,<-hk];clear hs gE hH;refine⟨h.tok,h.i0,h.i1,by simp only;split<;>simp,λg=>?_,λ_=>⟨rfl,eY,q1,q3,by show (As s.method H).2.2=0;rw[<-hk];exact hf,by show (As s.method H).1=_;rw[<-hk],λ_=>p6,λg=>r3 g⟩,λ_ g=>?_,λ_ g=>?_,λ_ g=>?_,λ_ _=>?_⟩
   .simp only at g;split at g<;>cases g
   .have g:k.1=0:=g
    exact⟨by simp only;rw[QC (.inl g)],p4⟩
   .have g:k.1=1:=g
    refine⟨r1,by show k.2.1<=(As s.method H).2.1;rw[<-hk];omega,?_,?_⟩
    .show (s.body.length:Int)=(As s.method H).2.1-k.2.1
     rw[<-hk,p4];simp
    .show (if k.1=0\/(k.1=1/\k.2.1=0) then (2:Int) else 1)=2↔k.2.1=0
     by_cases hz:k.2.1=0
     .rw[QC (.inr ⟨g,hz⟩)];simp[hz]
     .rw[QA (by rintro (e|e)<;>omega)];simp[hz]
   .have g:k.1=2:=g
    refine⟨p4,by show D7 s.chunks;rw[p6];exact LD,?_⟩;show (if k.1=0\/(k.1=1/\k.2.1=0) then (2:Int) else 1)=2↔s.chunks.phase=4;rw[QA (by rintro (e|e)<;>omega),p6];simp[qZ]
   .show s.body.length<=65536;rw[p4];simp
  split at hs
  .have:=(Prod.mk.inj hs).2;cases this
  .rename_i hi
   have:=(Prod.mk.inj hs).1;subst this;exact⟨h.tok,by show 0<=s.infos+1;have:=h.i0;omega,by show s.infos+1<=10;omega,h.ph,λ_=>⟨T9,p2,p3,p4,p5,p6⟩,λg=>absurd h0 g,λg=>absurd h0 g,λg=>absurd h0 g,λg=>absurd h0 g,λg=>absurd h0 g⟩
 rename_i h0;have h1:s.phase=1:=by rcases h.ph with g|g|g<;>omega
 obtain⟨p1,p2,p3,p4,p5,p6,p7,p8⟩:=h.p1 h0
 split at hs
 .rename_i hf
  obtain⟨q1,q2,q3⟩:=h.f2 h0 hf;have hc4:s.chunks.phase≠4:=λe=>by have:=q3.2 e;omega
  split at hs
  .rename_i g;exact absurd (Prod.mk.inj hs).2 g
  rename_i g;have g:(cF s.chunks c).2=0:=by simpa using g
  have gE:D7 (cF s.chunks c).1:=Q4 q2 hc4 (by rw[<-g]);have:=(Prod.mk.inj hs).1;subst this;refine⟨h.tok,h.i0,h.i1,by simp only;split<;>simp[h1],λe=>?_,λ_=>⟨p1,p2,p3,p4,p5,p6,λe=>absurd hf e,p8⟩,λ_ e=>?_,λ_ e=>?_,λ_ _=>⟨q1,gE,?_⟩,λ_ e=>?_⟩
  .simp only at e;split at e<;>omega
  .have e:s.aD=0:=e;omega
  .have e:s.aD=1:=e;omega
  .show (if (cF s.chunks c).1.phase=4 then (2:Int) else s.phase)=2↔(cF s.chunks c).1.phase=4
   by_cases e:(cF s.chunks c).1.phase=4
   .rw[QC e];simp[e]
   .rw[QA e];simp[e,h1]
  .have e:s.aD=3:=e;omega
 rename_i fB
 split at hs
 .have:=(Prod.mk.inj hs).2;cases this
 rename_i hb
 split at hs
 .rename_i hf
  obtain⟨q1,q2,q3,q4⟩:=h.f1 h0 hf;have hl:s.left≠0:=λe=>by have:=q4.2 e;omega
  have:=(Prod.mk.inj hs).1;subst this;refine⟨h.tok,h.i0,h.i1,by simp only;split<;>simp[h1],λe=>?_,λ_=>⟨p1,p2,p3,p4,p5,p6,p7,λe=>absurd hf e⟩,λ_ e=>?_,λ_ _=>⟨by show 0<=s.left-1;omega,by show s.left-1<=(As s.method s.head).2.1;omega,?_,?_⟩,λ_ e=>?_,λ_ e=>?_⟩
  .simp only at e;split at e<;>omega
  .have e:s.aD=0:=e;omega
  .show ((s.body++[c]).length:Int)=(As s.method s.head).2.1-(s.left-1)
   rw[QF];simp only[QH,QV];omega
  .show (if s.left-1=0 then (2:Int) else s.phase)=2↔s.left-1=0
   by_cases e:s.left-1=0
   .rw[QC e];simp[e]
   .rw[QA e];simp[e,h1]
  .have e:s.aD=2:=e;omega
  .have e:s.aD=3:=e;omega
 .rename_i fV
  have:=(Prod.mk.inj hs).1;subst this;refine⟨h.tok,h.i0,h.i1,h.ph,λe=>absurd e h0,λ_=>⟨p1,p2,p3,p4,p5,p6,p7,p8⟩,λ_ e=>?_,λ_ e=>absurd e fV,λ_ e=>absurd e fB,λ_ _=>?_⟩
  .have:=(h.f0 h0 e).1;omega
  .show (s.body++[c]).length<=65536
   rw[QF];simp only[QH,QV];omega
theorem Aly(b:List UInt8):∀s,(Ah s b).2.1<=b.length:=by
 induction b with
 |nil=>intro s;simp[Ah]
 |cons c b ih =>
  intro s;unfold Ah
  split
  .simp
  split
  .simp
  .have:=ih (aZ s c).1
   simp only[QH];omega
theorem Ok(b:List UInt8):∀s,Ce s->(Ah s b).2.2=0->Ce (Ah s b).1:=by
 induction b with
 |nil=>intro s h _;exact h
 |cons c b ih =>
  intro s h he;unfold Ah at he ⊢
  split
  .exact h
  rename_i h2;rw[QA h2]at he
  split
  .exact h
  rename_i h3;rw[QA h3]at he;exact ih _ (Kf h h2 (by rw[show (aZ s c)=((aZ s c).1,(aZ s c).2) from rfl,show (aZ s c).2=0 by simpa using h3])) he
set_option maxHeartbeats 8000000
set_option maxHeartbeats 400000
theorem Xa(s:List UInt8)(c d:UInt8)(h:d≠c):Lib.indexByte (s++[d]) c=Lib.indexByte s c:=by
 induction s with
 |nil =>
  show Lib.indexByte [d] c=-1;unfold Lib.indexByte;rw[QA (by simpa using h)];rfl
 |cons x r ih =>
  rw[UE];unfold Lib.indexByte;rw[ih]
theorem Yj{b:List UInt8}{c:UInt8}(hc:c≠10)(hl:b.length+1<=8192):∀(m m' p:Nat) (r:List HF),p<=b.length->b.length-p<m->b.length+1-p<m'->(lE b m p r).2.2=10->(lE (b++[c]) m' p r).2.2=10
 |0,_,_,_,_,h,_,_=>by omega
 |_+1,0,_,_,_,_,h,_=>by omega
 |m+1,m'+1,p,r,hp,h,h',he=>by
  have hd:(b++[c]).drop p=b.drop p++[c]:=List.drop_append_of_le_length hp;have hi:=Mp (s:=b.drop p) (c:=10);rw[QX]at hi;have hx:=Xa (b.drop p) 10 c hc;unfold lE at he ⊢;rw[hd,hx]
  split at he
  .cases he
  rename_i g1;rw[QA (by
   intro e;rw[XS,QE]at e;rw[XS,QE]at g1;rcases e with e|e
   .have:=QT e.2
    rw[QF]at this;simp only[QH,QV]at this;omega
   .exact g1 (.inr e))]
  split at he
  .rename_i g2;rw[QC g2]
  rename_i g2;rw[QA g2];have hj:=hi.2 (by omega);have tJ:(b.drop p++[c]).take (Lib.indexByte (b.drop p) 10).toNat=(b.drop p).take (Lib.indexByte (b.drop p) 10).toNat:=List.take_append_of_le_length (by rw[QX];omega);rw[tJ]
  split at he
  .cases he
  rename_i g3;rw[QA g3]
  split at he
  .cases he
  rename_i g4;rw[QA g4]
  split at he
  .cases he
  rename_i g5;rw[QA g5]
  split at he
  .cases he
  rename_i g6;rw[QA g6];exact Yj hc hl m m' _ _ (by omega) (by omega) (by omega) he
theorem Rx{b:List UInt8}(hc:c≠10)(hl:b.length+1<=8192)(h:(A7 b).2.2=10):(A7 (b++[c])).2.2=10:=by
 unfold A7 at h ⊢;rw[QF];exact Yj hc hl _ _ 0 [] (by omega) (by omega) (by simp) h
theorem Aj7(hc:c≠10)(hl:l.length+1<=301)(h:(Au l).2.2=10):(Au (l++[c])).2.2=10:=by
 have t1:l.take 302=l:=XJ (by omega);have t2:(l++[c]).take 302=l++[c]:=XJ (by simp;omega);obtain⟨c1,c2,c3⟩:=Yz 10 l;unfold Au at h ⊢;rw[t1]at h;rw[t2];cases hb:(Bh 10 l).2.2 with
 |false =>
  rw[hb]at c2;simp only[XE,if_false,YT]at c2;have hn:(10:UInt8) ∉ l:=by rw[c2];exact c1
  have iT:(10:UInt8) ∉ l++[c]:=by
   rw[YB,not_or];exact⟨hn,by simpa using λe=>hc e.symm⟩
  rw[Y0 iT];simp only[Bool.not_false,if_true];rw[QA (by simp;omega)]
 |true =>
  rw[hb]at c2;simp only[if_true]at c2;have e2:l++[c]=(Bh 10 l).1++10 :: ((Bh 10 l).2.1++[c]):=by
   conv=>lhs;rw[c2]
   simp
  have e3:Bh 10 (l++[c])=((Bh 10 l).1,(Bh 10 l).2.1++[c],true):=by rw[e2,Ads c1]
  rw[e3];rw[hb]at h;simp only[YK,XE,if_false]at h ⊢
  split at h
  .cases h
  rename_i g1;rw[QA g1];have hd:l.drop ((Bh 10 l).1.length+1)=(Bh 10 l).2.1:=by
   have h9:=congrArg (List.drop ((Bh 10 l).1.length+1)) c2;rw[h9,<-ZD,List.drop_left];rfl
  have rJ:(l++[c]).drop ((Bh 10 l).1.length+1)=(Bh 10 l).2.1++[c]:=by
   rw[e2,<-ZD,List.drop_left];rfl
  rw[hd]at h;rw[rJ];have hlen:(Bh 10 l).2.1.length+1<=8192:=by
   have:=congrArg List.length c2;rw[QF,QH]at this;omega
  split at h
  .rename_i g
   have h:(A7 (Bh 10 l).2.1).2.2=10:=h;have hm:=Rx hc hlen h;rw[QC (by rw[hm];decide)];exact hm
  .cases h
theorem Ai4(b:List UInt8):∀s:Rs,s.phase=1->s.aD=1->1<=s.left->s.left+(s.body.length:Int)<=65536->
  Ah s b=({ s with body:=s.body++b.take (min s.left.toNat b.length),left:=s.left-(min s.left.toNat b.length:Nat),phase:=if s.left-(min s.left.toNat b.length:Nat)=0 then 2 else 1 },min s.left.toNat b.length,0):=by
 induction b with
 |nil =>
  intro s h1 h2 h3 h4;obtain⟨m,p,i,l,hd,f,bo,le,ch⟩:=s;simp only at h1 h2 h3 h4;subst h1 h2;simp[Ah];omega
 |cons c b ih =>
  intro s h1 h2 h3 h4;have hS:aZ s c=({ s with body:=s.body++[c],left:=s.left-1,phase:=if s.left-1=0 then 2 else s.phase },0):=by
   unfold aZ;rw[QA (by omega),QA (by omega),QA (by omega),QC h2]
  unfold Ah;rw[QA (by omega),hS,QA (by simp)]
  by_cases hz:s.left-1=0
  .have e:Ah { s with body:=s.body++[c],left:=s.left-1,phase:=if s.left-1=0 then 2 else s.phase } b=({ s with body:=s.body++[c],left:=s.left-1,phase:=if s.left-1=0 then 2 else s.phase },0,0):=by
    cases b with
    |nil=>rfl
    |cons x b=>unfold Ah;rw[QC (by simp only;rw[QC hz])]
   rw[e];have hm:min s.left.toNat (c :: b).length=1:=by simp only[QH];omega
   rw[hm];simp only[YE,List.take_zero,Int.natCast_one,QC hz]
  .have:=ih { s with body:=s.body++[c],left:=s.left-1,phase:=if s.left-1=0 then 2 else s.phase } (by simp only;rw[QA hz];exact h1) h2 (by simp only;omega) (by simp only[QF,QH,QV];omega)
   rw[this];have hm:min s.left.toNat (c :: b).length=min (s.left-1).toNat b.length+1:=by simp only[QH];omega
   rw[hm];have hs:s.left-1-((min (s.left-1).toNat b.length:Nat):Int)=s.left-((min (s.left-1).toNat b.length+1:Nat):Int):=by omega
   simp only[hs,YE,ZJ,List.singleton_append]
theorem Ae3(b:List UInt8):∀s:Rs,s.phase=1->s.aD=3->
  (s.body.length+b.length<=65536->Ah s b=({ s with body:=s.body++b },b.length,0))/\(65536<s.body.length+b.length->s.body.length<=65536->(Ah s b).2.2=3):=by
 induction b with
 |nil =>
  intro s h1 h2;refine⟨λ_=>?_,λh h2=>?_⟩
  .obtain⟨m,p,i,l,hd,f,bo,le,ch⟩:=s
   simp[Ah]
  .simp at h;omega
 |cons c b ih =>
  intro s h1 h2;have hS:s.body.length<65536->aZ s c=({ s with body:=s.body++[c] },0):=λh=>by
   unfold aZ;rw[QA (by omega),QA (by omega),QA (by omega),QA (by omega)]
  refine⟨λh=>?_,λh h3=>?_⟩
  .simp only[QH]at h
   unfold Ah;rw[QA (by omega),hS (by omega),QA (by simp)];have:=(ih { s with body:=s.body++[c] } h1 h2).1 (by simp only[QF,QH,QV];omega);rw[this];simp
  .unfold Ah
   rw[QA (by omega)]
   by_cases hb:s.body.length<65536
   .rw[hS hb,QA (by simp)]
    exact (ih { s with body:=s.body++[c] } h1 h2).2 (by simp only[QF,QH,QV]at h ⊢;omega) (by simp only[QF,QH,QV];omega)
   .have:aZ s c=(s,3):=by
     unfold aZ;rw[QA (by omega),QA (by omega),QC (by omega)]
    rw[this,QC (by simp)]
def Bm(s:Ch):List UInt8->Ch×Nat×Int
 | []=>(s,0,0)
 |c :: b=>if s.phase=4 then (s,0,0) else if (cF s c).2≠0 then (s,0,(cF s c).2) else ((Bm (cF s c).1 b).1,(Bm (cF s c).1 b).2.1+1,(Bm (cF s c).1 b).2.2)
theorem Abs(b:List UInt8):∀s:Rs,s.phase=1->s.aD=2->s.chunks.phase≠4->
  ((Bm s.chunks b).2.2=0->Ah s b=({ s with chunks:=(Bm s.chunks b).1,phase:=if (Bm s.chunks b).1.phase=4 then 2 else 1 },(Bm s.chunks b).2.1,0))/\((Bm s.chunks b).2.2≠0->(Ah s b).2.2=(Bm s.chunks b).2.2):=by
 induction b with
 |nil =>
  intro s h1 h2 h3;refine⟨λ_=>?_,λh=>absurd rfl h⟩;obtain⟨m,p,i,l,hd,f,bo,le,ch⟩:=s;simp only at h1 h2 h3;subst h1 h2;simp[Ah,Bm,h3]
 |cons c b ih =>
  intro s h1 h2 h3
  by_cases he:(cF s.chunks c).2≠0
  .have hS:aZ s c=(s,(cF s.chunks c).2):=by
    unfold aZ;rw[QA (by omega),QC h2,QC he]
   have e1:Bm s.chunks (c :: b)=(s.chunks,0,(cF s.chunks c).2):=by unfold Bm;rw[QA h3,QC he]
   have e2:Ah s (c :: b)=(s,0,(cF s.chunks c).2):=by unfold Ah;rw[QA (by omega),hS,QC he]
   rw[e1,e2];exact⟨λh=>absurd h he,λ_=>rfl⟩
  .have hS:aZ s c=({ s with chunks:=(cF s.chunks c).1,phase:=if (cF s.chunks c).1.phase=4 then 2 else s.phase },0):=by
    unfold aZ;rw[QA (by omega),QC h2,QA he]
   have e1:Bm s.chunks (c :: b)=((Bm (cF s.chunks c).1 b).1,(Bm (cF s.chunks c).1 b).2.1+1,(Bm (cF s.chunks c).1 b).2.2):=by
    conv=>lhs;unfold Bm
    rw[QA h3,QA he]
   have e2:Ah s (c :: b)=((Ah { s with chunks:=(cF s.chunks c).1,phase:=if (cF s.chunks c).1.phase=4 then 2 else s.phase } b).1,(Ah { s with chunks:=(cF s.chunks c).1,phase:=if (cF s.chunks c).1.phase=4 then 2 else s.phase } b).2.1+1,(Ah { s with chunks:=(cF s.chunks c).1,phase:=if (cF s.chunks c).1.phase=4 then 2 else s.phase } b).2.2):=by
    conv=>lhs;unfold Ah
    rw[QA (by omega),hS,QA (by simp)]
   rw[e1,e2]
   by_cases h4:(cF s.chunks c).1.phase=4
   .have c0:Bm (cF s.chunks c).1 b=((cF s.chunks c).1,0,0):=by
     cases b with
     |nil=>rfl
     |cons x b=>unfold Bm;rw[QC h4]
    have r0:Ah { s with chunks:=(cF s.chunks c).1,phase:=if (cF s.chunks c).1.phase=4 then 2 else s.phase } b=({ s with chunks:=(cF s.chunks c).1,phase:=if (cF s.chunks c).1.phase=4 then 2 else s.phase },0,0):=by
     cases b with
     |nil=>rfl
     |cons x b=>unfold Ah;rw[QC (by simp only;rw[QC h4])]
    rw[c0,r0];simp[h4]
   .have:=ih { s with chunks:=(cF s.chunks c).1,phase:=if (cF s.chunks c).1.phase=4 then 2 else s.phase } (by simp only;rw[QA h4];exact h1) h2 h4
    simp only at this;refine⟨λh=>?_,λh=>?_⟩
    .rw[this.1 h]
    .rw[this.2 h]
def zh:List UInt8:=[48,49,50,51,52,53,54,55,56,57,97,98,99,100,101,102]
def Bg(l:List UInt8):Int:=if l=[] then 0 else if Da l then 3 else if (Bb l).1=l.length then 1 else 2
theorem Nh:∀(l:List UInt8) (k n:Nat),k<=(F8 l k n).1/\(F8 l k n).1<=k+l.length
 | [],k,n=>by simp[F8]
 |c :: r,k,n=>by
  unfold F8
  split
  .have:=Nh r (k+1) (16 * n+(Ff c).toNat)
   simp only[QH];omega
  .simp
theorem Tz(c:UInt8):∀(l:List UInt8) (k n:Nat),F8 (l++[c]) k n=if (F8 l k n).1=k+l.length/\0<=Ff c then ((F8 l k n).1+1,16 * (F8 l k n).2+(Ff c).toNat) else F8 l k n
 | [],k,n=>by
  simp only[UI,F8,QV,ZB,true_and]
 |d :: r,k,n=>by
  simp only[UE];unfold F8
  by_cases hd:0<=Ff d
  .rw[QC hd,QC hd,Tz c r]
   have e:(k+1+r.length)=k+(d :: r).length:=by simp only[QH];omega
   rw[e]
  .rw[QA hd,QA hd,QA]
   rintro⟨h,_⟩;simp only[QH]at h;omega
theorem Kc(l:List UInt8)(c:UInt8):Bb (l++[c])=if (Bb l).1=l.length/\0<=Ff c then ((Bb l).1+1,16 * (Bb l).2+(Ff c).toNat) else Bb l:=by
 unfold Bb;rw[Tz,XF]
theorem Aln(l:List UInt8):(Bb l).1<=l.length:=by have:=(Nh l 0 0).2;unfold Bb;omega
theorem Ah7(c:UInt8):Ff c<=15:=(Pu _).2
theorem Xp:∀(l:List UInt8) (k n:Nat),n<16 ^ k->(F8 l k n).2<16 ^ (F8 l k n).1
 | [],k,n,h=>h
 |c :: r,k,n,h=>by
  unfold F8
  split
  .refine Xp r _ _ ?_
   have h1:=Ah7 c;rw[Nat.pow_succ];omega
  .exact h
theorem Rp(h:Cq l):(Bb l).1<=8:=by
 suffices H:∀k,k<=l.length->(Bb (l.take k)).1<=8 by
  have:=H l.length (QK _)
  rwa [YC]at this
 intro k
 induction k with
 |zero=>intro _;simp[Bb,F8]
 |succ k ih =>
  intro hk;have hm:=h k (by omega);have e:l.take (k+1)=l.take k++[l.getD k 0]:=by
   rw[UA,QB (by omega),QD,QB (by omega)];rfl
  rw[e,Kc];have i1:=ih (by omega)
  split
  .rename_i g
   unfold B8 at hm
   split at hm
   .cases hm
   split at hm
   .rename_i g13
    rw[g13]at g;exact absurd g.2 (by decide)
   split at hm
   .split at hm
    .cases hm
    .rename_i g8
     simp only;have:(Bb (l.take k)).1≠8:=λe8=>g8 ⟨g.2,e8⟩;omega
   .rename_i g8;exact absurd g.1 g8
  .exact i1
theorem U1(h:Cq l):(Bb l).2<4294967296:=by
 have h1:=Xp l 0 0 (by decide);have h2:=Rp h;have h3:(16:Nat) ^ (Bb l).1<=16 ^ 8:=Nat.pow_le_pow_right (by decide) h2;have h4:(Bb l).2<16 ^ (Bb l).1:=h1;have h5:(16:Nat) ^ 8=4294967296:=by decide
 omega
theorem Iw(l:List UInt8)(c:UInt8):Da (l++[c])=(c==13):=by
 unfold Da;rw[QF];simp only[QH,QV,Nat.add_sub_cancel];rw[QD,QP (QK _)];simp
theorem Td(l:List UInt8):Bg (l++[13])=3/\Bb (l++[13])=Bb l:=by
 refine⟨?_,?_⟩
 .unfold Bg
  rw[QA (by simp),Iw];simp
 .rw[Kc,QA]
  rintro⟨_,h⟩;exact absurd h (by decide)
theorem Ada(h:(Bb l).1=l.length)(hd:0<=Ff c):Bg (l++[c])=1/\(Bb (l++[c])).2=16 * (Bb l).2+(Ff c).toNat:=by
 have hc:c≠13:=by rintro rfl;exact absurd hd (by decide)
 have e:=Kc l c;rw[QC ⟨h,hd⟩]at e;refine⟨?_,by rw[e]⟩;unfold Bg;rw[QA (by simp),Iw,QA (by simpa using hc),QC (by rw[e,QF];simp only[QH,QV];omega)]
theorem G6(h:¬((Bb l).1=l.length/\0<=Ff c))(hc:c≠13):Bg (l++[c])=2/\Bb (l++[c])=Bb l:=by
 have e:=Kc l c;rw[QA h]at e;refine⟨?_,e⟩;unfold Bg;have:=Aln l;rw[QA (by simp),Iw,QA (by simpa using hc),QA (by rw[e,QF];simp only[QH,QV];omega)]
theorem Rz(l:List UInt8):Bg l=0\/Bg l=1\/Bg l=2\/Bg l=3:=by
 unfold Bg
 split
 .simp
 split
 .simp
 split<;>simp
theorem Te:Bg l=0↔l=[]:=by
 unfold Bg
 split
 .simp_all
 split
 .simp_all
 split<;>simp_all
theorem Mq:Bg l=3↔Da l=true:=by
 unfold Bg
 split
 .rename_i h;subst h;simp[Da]
 split
 .simp_all
 split<;>simp_all
theorem Z9(h:Bg l=1):l≠[]/\Da l=false/\(Bb l).1=l.length:=by
 unfold Bg at h
 split at h
 .cases h
 split at h
 .cases h
 split at h
 .exact⟨by assumption,by simp_all,by assumption⟩
 .cases h
theorem Z8(h:Bg l=2):l≠[]/\Da l=false/\(Bb l).1≠l.length:=by
 unfold Bg at h
 split at h
 .cases h
 split at h
 .cases h
 split at h
 .cases h
 .exact⟨by assumption,by simp_all,by assumption⟩
theorem U3(h:Cq l):l.length<=201:=by
 refine Nat.le_of_not_lt λhl=>?_;have h1:=h 200 (by omega);have hlen:(l.take 200).length=200:=by rw[QW];omega
 have hc:l.getD 200 0=13:=by
  refine Decidable.byContradiction λhc=>?_;unfold B8 at h1
  split at h1
  .cases h1
  rw[hlen]at h1
  split at h1
  .split at h1
   .cases h1
   .split at h1
    .cases h1
    .rw[QC (QK _)]at h1;cases h1
  .split at h1
   .cases h1
   .rw[QC (QK _)]at h1;cases h1
 have h2:=h 201 (by omega);have e:l.take 201=l.take 200++[l.getD 200 0]:=by
  rw[UA,QB (by omega),QD,QB (by omega)];rfl
 rw[e,hc]at h2;unfold B8 at h2;rw[Iw,QC (by decide)]at h2;cases h2
theorem U2(h:Cq l)(hl:l≠[]):(Bb l).1≠0:=by
 match l,hl with
 |c :: r,_ =>
  have h0:=h 0 (by simp);have hd:0<=Ff c:=by
   simp only[List.take_zero,List.getD_cons_zero]at h0;unfold B8 at h0
   split at h0
   .cases h0
   split at h0
   .rw[QC (show (Bb ([]:List UInt8)).1=0 from rfl)]at h0;cases h0
   rw[QC (show (Bb ([]:List UInt8)).1=([]:List UInt8).length from rfl)]at h0
   split at h0
   .cases h0
   split at h0
   .cases h0
   .rename_i g
    exact Int.not_lt.1 λe=>g ⟨e,.inr rfl⟩
  unfold Bb F8;rw[QC hd];have:=(Nh r 1 (16 * 0+(Ff c).toNat)).1;simp only[XF];omega
theorem Pe(h:Bg l=0\/Bg l=1):Da l=false/\(Bb l).1=l.length:=by
 rcases h with h|h
 .rw[Te]at h;subst h;exact⟨rfl,rfl⟩
 .exact⟨(Z9 h).2.1,(Z9 h).2.2⟩
theorem Acg(h:Bg l=3):B8 l c=6:=by
 unfold B8;rw[QC (Mq.1 h)]
theorem Tb(hl:Cq l)(h:Bg l≠3):B8 l 13=if Bg l=0 then 6 else 0:=by
 have h3:Da l=false:=by
  cases e:Da l with
  |false=>rfl
  |true=>exact absurd (Mq.2 e) h
 unfold B8;rw[h3];simp only[XE,if_false,if_true]
 by_cases h0:Bg l=0
 .rw[QC h0];rw[Te]at h0;subst h0;rfl
 .rw[QA h0,QA (U2 hl λe=>h0 (Te.2 e))]
theorem Js(h:Bg l=2)(hc:c≠13):B8 l c=if !okB c then 6 else if 200<=l.length then 3 else 0:=by
 obtain⟨_,h2,h3⟩:=Z8 h;unfold B8;rw[h2,QA (by simp),QA hc,QA h3]
theorem xq(h:Bg l=0\/Bg l=1)(hd:0<=Ff c)(h8:l.length=8):B8 l c=3:=by
 obtain⟨h2,h3⟩:=Pe h;have hc:c≠13:=by rintro rfl;exact absurd hd (by decide)
 unfold B8;rw[h2,QA (by simp),QA hc,QC h3,QC ⟨hd,by omega⟩]
theorem Ach(h:Bg l=0\/Bg l=1)(hd:0<=Ff c)(h8:l.length≠8):B8 l c=if 200<=l.length then 3 else 0:=by
 obtain⟨h2,h3⟩:=Pe h;have hc:c≠13:=by rintro rfl;exact absurd hd (by decide)
 unfold B8;rw[h2,QA (by simp),QA hc,QC h3,QA (by rintro⟨_,e⟩;omega),QA (by rintro⟨e,_⟩;omega)]
theorem Mn(hl:Cq l)(h:Bg l=1):B8 l 59=if 200<=l.length then 3 else 0:=by
 obtain⟨h1,h2,h3⟩:=Z9 h;have hd:Ff 59<0:=by decide
 unfold B8;rw[h2,QA (by simp),QA (by decide),QC h3,QA (by rintro⟨e,_⟩;omega),QA];rintro⟨_,e|e⟩
 .exact e rfl
 .exact U2 hl h1 e
theorem Aci(h:Bg l=0\/Bg l=1)(hd:Ff c<0)(hc:c≠13)(hn:¬(c=59/\Bg l=1)):B8 l c=6:=by
 obtain⟨h2,h3⟩:=Pe h;unfold B8;rw[h2,QA (by simp),QA hc,QC h3,QA (by rintro⟨e,_⟩;omega),QC];refine⟨hd,?_⟩
 by_cases e:c=59
 .refine .inr ?_
  rcases h with h|h
  .rw[Te]at h;subst h;rfl
  .exact absurd ⟨e,h⟩ hn
 .exact .inl e
theorem Ady(hp:s.phase=0)(h:¬(c=10/\Da s.line=true)):cF s c=if B8 s.line c≠0 then (s,B8 s.line c) else (⟨0,s.line++[c],s.data,s.left,s.aE⟩,0):=by
 unfold cF;rw[QC hp,QA h]
theorem Adx(hp:s.phase=0)(h:Da s.line=true):cF s 10=if (Bb s.line).2=0 then (⟨3,[],s.data,s.left,s.aE⟩,0) else if 65536<s.data.length+(Bb s.line).2 then (s,3) else (⟨1,[],s.data,(Bb s.line).2,s.aE⟩,0):=by
 unfold cF;rw[QC hp,QC ⟨rfl,h⟩]
structure BR(a b:Nat):Prop where
 h:a=b
structure dX(a b:Nat):Prop where
 h:a<=b
set_option maxHeartbeats 8000000
structure Eo(s:Ch)(ph lf:Int)(tl:Int)(tf:Nat->List SV)(dl:Int)(df:Nat->List SV)(nl:Int)(nf:Nat->List SV)(fo sz:Int):Prop where
 gM:ph=s.phase
 iG:lf=s.left
 tr:A0 tf tl s.aE
 da:Bo df dl s.data
 li:Bo nf nl s.line
 uk:fo=if s.phase=0 then Bg s.line else 0
 ot:sz=if s.phase=0 then ((Bb s.line).2:Int) else 0
def yQ(ph:Int)(l0 d0:List UInt8)(lf:Int)(tn:Bool)(tl:Int)(tf:Nat->List SV)(db:Bool)(dl:Int)(nn:Bool)(nl g fo sz:Int):List SV :=
 [.int .i64 (.a ph),.str l0,.str d0,.int .i64 (.a lf),.sl (.a tn) (.a tl) 2 tf,.bV (.a db) (.a dl) 1,.cR (.a nn) (.a nl) (.a g) 2,.int .i64 (.a fo),.int .i64 (.a sz)]
structure BX(s s':Ch)(tn nn:Bool)(g:Int)(nK jW:Bool)(g':Int)(zG:Bool):Prop where
 ed:zG=false
 et:nK=if s'.phase=4 then s'.aE.isEmpty else tn
 en:jW=if s.phase=1 then nn else s'.line.isEmpty
 eg:g'=if s.phase=1 then g else if s'.phase=4 then g+3 else g+1
def Wm(s:Ch)(c:UInt8)(l0 d0:List UInt8)(CG nn0:Bool)(g0:Int)(gr:Bool)(K:SV->List Hl->Prop):Prop :=
 ∀e,e=(cF s c).2->(e≠0->K (.int .i64 (.a e)) [.gone,.gone,.gone])/\
  (e=0->∀ph lf tn tl tf db dl df nn nl g nf fo sz,Eo (cF s c).1 ph lf tl tf dl df nl nf fo sz->BX s (cF s c).1 CG nn0 g0 tn nn g db->K (.int .i64 (.a e)) [.aF 220 (yQ ph l0 d0 lf tn tl tf db dl nn nl g fo sz),.own 5 (.a dl) 1 gr df,.vec 5 (.a nl) (.a g) 1 nf])
def Li(p:Int):aB:=λ_ xs ls K=>∃(s:Ch) (c:UInt8) (ci:Int) (ph lf:Int) (l0 d0:List UInt8) (tn:Bool) (tl:Int) (tf:Nat->List SV) (db:Bool) (dl:Int) (gr:Bool) (df:Nat->List SV) (nn:Bool) (nl g:Int) (nf:Nat->List SV) (fo sz:Int),
 xs=[.ptr 0 0,.int .u8 (.a ci)]/\ls=[.aF 220 (yQ ph l0 d0 lf tn tl tf db dl nn nl g fo sz),.own 5 (.a dl) 1 gr df,.vec 5 (.a nl) (.a g) 1 nf]/\
 ci=(c.toNat:Int)/\Eo s ph lf tl tf dl df nl nf fo sz/\s.phase=p/\db=false/\D7 s/\Wm s c l0 d0 tn nn g gr K
theorem Cp(s:List UInt8):aM (.str s) (.str s):=aM.refl _
theorem Nu{ph eW lf gK tl iC dl yK nl dJ g g' g2 g2' n n' fo qV sz cH:ST}{l0 d0:List UInt8}{tn nK db zG nn jW:BT}{tf gT df gy nf jL:Nat->List SV}{gr:Bool}(he:t.den=t'.den)(h1:ph.den=eW.den)(h2:lf.den=gK.den)
  (h3:aM (.sl tn tl 2 tf) (.sl nK iC 2 gT)) (h4:db.den=zG.den/\dl.den=yK.den) (h5:nn.den=jW.den/\nl.den=dJ.den/\g.den=g'.den) (h6:fo.den=qV.den) (h7:sz.den=cH.den)
  (h8:n.den=n'.den/\∀i:Nat,(i:Int)<n.den->df i=gy i) {m m':ST} (h9:m.den=m'.den/\g2.den=g2'.den/\∀i:Nat,(i:Int)<m.den->nf i=jL i):
  Fin (.int .i64 t) (.int .i64 t') [.aF 220 [.int .i64 ph,.str l0,.str d0,.int .i64 lf,.sl tn tl 2 tf,.bV db dl 1,.cR nn nl g 2,.int .i64 fo,.int .i64 sz],.own 5 n 1 gr df,.vec 5 m g2 1 nf]
   [.aF 220 [.int .i64 eW,.str l0,.str d0,.int .i64 gK,.sl nK iC 2 gT,.bV zG yK 1,.cR jW dJ g' 2,.int .i64 qV,.int .i64 cH],.own 5 n' 1 gr gy,.vec 5 m' g2' 1 jL] :=
 ⟨Af he,Ct (cL.cons (Ao (.cons (Af h1) (.cons (Cp _) (.cons (Cp _) (.cons (Af h2) (.cons h3 (.cons (X9 h4.1 h4.2) (.cons (RG h5.1 h5.2.1 h5.2.2) (.cons (Af h6) (.cons (Af h7) .nil))))))))))
  (cL.cons (Zx h8.1 h8.2) (cL.cons (It h9.1 h9.2.1 h9.2.2) λ_ _ _ _ h=>h))),QK _⟩
theorem D5{a b c:Hl}(he:t.den=t'.den):Fin (.int .i64 t) (.int .i64 t') [a,b,c] [.gone,.gone,.gone]:=by
 refine⟨Af he,λh E w hk=>?_,QK _⟩
 match h with
 |0=>trivial
 |1=>trivial
 |2=>trivial
 |h+3=>exact hk
theorem jV{f:Nat->List SV}(h:f 0=[.int .u8 (.a (c.toNat:Int))]):∀i,i<[c].length->f i=[.int .u8 (.a (([c].getD i 0).toNat:Int))]:=by
 intro i hi;have:i=0:=by simpa using hi
 subst this;simpa using h
theorem zF(c d:UInt8):((c.toNat:Int)==(d.toNat:Int))=(c==d):=by
 rw[XY,QO,QO];constructor
 .intro h;exact UInt8.toNat_inj.1 (by omega)
 .intro h;rw[h]
theorem Aj2:Ap Tryz.prog gl 187 (Li 1):=by
 refine Bu (gh:=[]) mixed Du Ae Tryz.func187 (by kernel_rfl) (by kernel_rfl) ?_;intro xs ls K h;unfold Li at h;obtain⟨s,c,ci,ph,lf,l0,d0,tn,tl,tf,db,dl,gr,df,nn,nl,g,nf,fo,sz,rfl,rfl,rfl,V,hp,nG,hO,h⟩:=h;have hc:cF s c=(⟨if s.left-1=0 then 2 else 1,s.line,s.data++[c],s.left-1,s.aE⟩,0):=by unfold cF;rw[QA (by omega),QC hp]
 obtain⟨q1,q2,q3⟩:=hO.p1 hp;have hd:=hO.data;have hle:=V.iG;have hw:IntKind.i64.wrap (lf-1)=lf-1:=wrap64 (by omega) (by omega);unfold Wm at h;rw[hc]at h;have h:=(h 0 rfl).2 rfl;simp only at h;have eh:dl=s.data.length:=V.da.n;have R':Bo (aQ (s.data++[c])) ((s.data++[c]).length:Nat) (s.data++[c]):=⟨rfl,λi _=>rfl⟩;have mX:fo=0:=by have:=V.uk;rwa [QA (by omega)]at this
 have bC:sz=0:=by have:=V.ot;rwa [QA (by omega)]at this
 have VD:VI dl s.data.length:=⟨eh⟩;have HL:dX s.data.length 65536:=⟨hd⟩;clear eh hd;have go:∀eW:Int,eW=(if s.left-1=0 then 2 else 1)->K (.int .i64 (.a 0)) [.aF 220 (yQ eW l0 d0 (IntKind.i64.wrap (lf-1)) tn tl tf false ((s.data++[c]).length:Nat) nn nl g fo sz),.own 5 (.a ((s.data++[c]).length:Nat)) 1 gr (aQ (s.data++[c])),.vec 5 (.a nl) (.a g) 1 nf]:=λeW eB =>
  h eW _ tn tl tf false _ _ nn nl g nf fo sz ⟨eB,by rw[hw,hle],V.tr,R',V.li,by rw[mX,QA];show ¬(if _ then _ else _)=_;split<;>decide,by rw[bC,QA];show ¬(if _ then _ else _)=_;split<;>decide⟩ ⟨rfl,by rw[QA];show ¬(if _ then _ else _)=_;split<;>decide,by rw[QC hp],by rw[QC hp]⟩
 have hzd:(IntKind.i64.wrap (lf-1)==0)=decide (s.left-1=0):=by rw[hw,hle,XY,QO,QG]
 obtain⟨N,VN⟩:∃N:Int,VI N (s.data++[c]).length:=⟨_,⟨rfl⟩⟩;rw[<-VN.h]at go R';have hNd:N=dl+1:=by rw[VN.h,VD.h,QF];simp
 obtain⟨W,hW⟩:∃W,W=IntKind.i64.wrap (lf-1):=⟨_,rfl⟩;rw[<-hW]at go;have EW:oZ W (IntKind.i64.wrap (lf-1)):=⟨hW⟩;clear hW;have HN:oZ N (dl+1):=⟨hNd⟩;obtain⟨T,hT⟩:∃T,T=s.data++[c]:=⟨_,rfl⟩;rw[<-hT]at go R';clear h hc hNd hle q3 q2;refine⟨_,_,go (if s.left-1=0 then 2 else 1) rfl,λD hD=>?_⟩;obtain⟨p',mA⟩:∃p':Int,p'=(if s.left-1=0 then 2 else 1):=⟨_,rfl⟩;rw[<-mA];cbv;intro f3 eV;cbv;refine⟨by subst hD;exact⟨rfl,by show (dl+1) * 1<=_;rw[VD.h];have:=HL.h;omega,by show dl+1<=_;rw[VD.h];have:=HL.h;omega⟩,λf4 n4 hm=>?_⟩;cbv;have h40:f3 0=[.int .u8 (.a (c.toNat:Int))]:=by rw[eV.h 0 _ rfl];subst hD;rfl
 have R4:Bo f4 n4 (s.data++[c]):=V.da.more (g:=f3) (u:=[c]) rfl (jV h40) (by subst hD;exact hm);clear hm eV;rw[<-hT]at R4;have aJ:n4=N/\∀i:Nat,(i:Int)<n4->f4 i=aQ T i:=by
  have e1:=R4.n;have e2:=R'.n;refine⟨by omega,λi hi=>?_⟩;rw[R4.f i (by omega)];rfl
 refine br hD (λhb=>?_) (λhb=>?_)<;>cbv
 .have hb:(IntKind.i64.wrap (lf-1)==0)=true:=by subst hD;exact hb
  rw[hzd,QG]at hb;rw[QC hb]at mA;subst hD mA;exact Nu rfl rfl (by exact EW.h.symm) (aM.refl _) ⟨by rw[nG];rfl,by exact aJ.1⟩ ⟨rfl,rfl,rfl⟩ rfl rfl (by exact aJ) ⟨rfl,rfl,λ_ _=>rfl⟩
 .have hb:(IntKind.i64.wrap (lf-1)==0)=false:=by subst hD;exact hb
  rw[hzd,QJ]at hb;rw[QA hb]at mA;have eB:=V.gM;rw[hp]at eB;subst hD mA eB;exact Nu rfl rfl (by exact EW.h.symm) (aM.refl _) ⟨by rw[nG];rfl,by exact aJ.1⟩ ⟨rfl,rfl,rfl⟩ rfl rfl (by exact aJ) ⟨rfl,rfl,λ_ _=>rfl⟩
end Go.Proofs.YtdoogdbjiijifaaGreatDoor
