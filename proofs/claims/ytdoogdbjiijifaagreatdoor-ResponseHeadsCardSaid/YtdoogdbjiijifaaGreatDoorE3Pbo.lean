/- Part of the proofs of the statements about responses and messages (layers 9 and 10): a symbolic executor over the code, that it is sound, and contracts of functions; it has no conditions of its own. -/
import Derived.Test.YtdoogdbjiijifaaGreatDoorE3Pbn
import Derived.Test.YtdoogdbjiijifaaGreatDoorE3Pbm
import Derived.Test.YtdoogdbjiijifaaGreatDoorE3Pav
import Derived.Test.YtdoogdbjiijifaaGreatDoorE3Pbk
import Derived.Test.YtdoogdbjiijifaaGreatDoorE3Pbc
namespace Go.Proofs.YtdoogdbjiijifaaGreatDoor
open Go Go.Sx
set_option maxRecDepth 100000
set_option maxHeartbeats 8000000
def spFeedR:FSpec:=λ_ xs ls K=>∃(s:Rs) (x:RsC) (b:List UInt8) (nb:Bool) (n:Int) (f:Nat->List SV),
 xs=[rsA x,.sl (.a nb) (.a n) 1 f]/\ls=[]/\RsV s x/\Du s/\s.method.length<=9223372036854775807/\A7 f n b/\b.length<=1000000/\(nb=true->b=[])/\
 ∀k,k=A0 s b->(k.2.2≠0->K (.tup [rsA x,.int .i64 (.a 0),.int .i64 (.a k.2.2)]) [])/\
  (k.2.2=0->∀y u,RsV k.1 y->RsN s k.1 y x->u=(k.2.1:Int)->K (.tup [rsA y,.int .i64 (.a u),.int .i64 (.a 0)]) [])
def rdrH(x:RsC)(nb:Bool)(n:Int)(f:Nat->List SV)(nn:Bool)(nl g:Int)(h:Nat):List SV :=
 [.str x.m,.int .i64 (.a x.ph),.int .i64 (.a x.inf),.str x.ln,.int .i64 (.a x.mi),.int .i64 (.a x.st),.str x.re,.sl (.a x.fb) (.a x.fl) 2 x.ff,.int .i64 (.a x.fr),.str x.bo,.int .i64 (.a x.lf),
  .int .i64 (.a x.cp),.str x.cl,.str x.cd,.int .i64 (.a x.cf),.sl (.a x.cb) (.a x.ct) 2 x.ctf,.sl (.a nb) (.a n) 1 f,.vsl (.a nn) (.a nl) (.a g) h]
def Afl(x:RsC):List SV:=[.str x.m,.int .i64 (.a x.ph),.int .i64 (.a x.inf),.str x.ln,.int .i64 (.a x.mi),.int .i64 (.a x.st),.str x.re,.sl (.a x.fb) (.a x.fl) 2 x.ff,.int .i64 (.a x.fr),.str x.bo,.int .i64 (.a x.lf),
  .int .i64 (.a x.cp),.str x.cl,.str x.cd,.int .i64 (.a x.cf),.sl (.a x.cb) (.a x.ct) 2 x.ctf]
structure FdJ(s:Rs)(x:RsC)(b:List UInt8)(st:Rs)(y:RsC)(i:Nat)(nb:Bool)(n:Int)(f:Nat->List SV):Prop where
 g:Kt s b st i
 v:RsV st y
 nn:RsN s st y x
 met:st.method=s.method
 row:A7 f n (b.drop i)
 nl:nb=true->b.drop i=[]
 p0:st.phase=0->s.phase=0
 p2:s.phase=2->st=s
def fdJ(s:Rs)(x:RsC)(b:List UInt8)(nb0:Bool)(n0:Int)(f0:Nat->List SV)(m:Nat)(vs:List (Option SV))(hp:List Hl):Prop :=
 ∃(st:Rs) (y:RsC) (i:Nat) (nb:Bool) (n:Int) (f:Nat->List SV) (nn:Bool) (nl g:Int) (nf:Nat->List SV),vs=[some (.sl (.a nb0) (.a n0) 1 f0),some (.ptr 0 0),some (.ptr 1 0),some (.ptr 2 0)]/\
  hp=[.blk 38 (Afl x),.blk 38 (Afl (Vn [])),.blk 125 (rdrH y nb n f nn nl g 3),.vec 5 (.a nl) (.a g) 1 nf]/\FdJ s x b st y i nb n f/\m=b.length-i
theorem On:∀(b:List UInt8) (s:Rs),s.phase=0->(D4 s b).1.chunks=s.chunks/\(D4 s b).1.method=s.method
 | [],s,_=>⟨rfl,rfl⟩
 |c :: b,s,h=>by
  have hc:(rsS s c).1.chunks=s.chunks:=by
   unfold rsS;rw[if_pos h]
   split
   ·rfl
   split
   ·rfl
   split
   ·rfl
   split
   ·unfold Cg;split<;>rfl
   ·split<;>rfl
  rw[D4]
  split
  ·exact⟨rfl,rfl⟩
  split
  ·exact⟨hc,S9 s c⟩
  ·rename_i h2
   have:=On b (rsS s c).1 (by simpa using h2);exact⟨this.1.trans hc,this.2.trans (S9 s c)⟩
theorem rs_fin{s:Rs}{x:RsC}{b:List UInt8}(O:Du s)(k:Rs×Nat×Int)(hk:k=A0 s b)(e0:k.2.2=0):∃y,RsV k.1 y/\RsN s k.1 y x:=by
 have h2:Du k.1:=by rw[hk]at e0 ⊢;exact K5 b s O e0
 obtain⟨fl,ff,ct,ctf,r1,r2⟩:=Afj h2;exact⟨_,rsC_V (fb:=if k.1.phase≠0/\s.phase=0 then k.1.head.fields.isEmpty else x.fb) (cb:=tnF s.chunks k.1.chunks x.cb) r1 r2,⟨rfl,rfl⟩⟩
theorem FdJ.next{s:Rs}{x:RsC}{b:List UInt8}{st t:Rs}{y y':RsC}{i j:Nat}{nb nb':Bool}{n n':Int}{f f':Nat->List SV}(B:FdJ s x b st y i nb n f)(h2:st.phase≠2)(G:Kt st (b.drop i) t j)(V:RsV t y')(N:RsN s t y' x)(hm:t.method=st.method)
  (R:A7 f' n' ((b.drop i).drop j)) (hn:nb'=true->(b.drop i).drop j=[]) (h0:t.phase=0->st.phase=0):FdJ s x b t y' (i+j) nb' n' f' :=
 ⟨B.g.trans G,V,N,hm.trans B.met,by rw[<-List.drop_drop];exact R,by rw[<-List.drop_drop];exact hn,λh=>B.p0 (h0 h),λh=>absurd (by rw[B.p2 h];exact h) h2⟩
theorem FdJ.less{s:Rs}{x:RsC}{b:List UInt8}{st:Rs}{y:RsC}{i j:Nat}{nb:Bool}{n:Int}{f:Nat->List SV}(B:FdJ s x b st y i nb n f)(h:0<n)(hj:1<=j):b.length-(i+j)<b.length-i:=by
 have h1:=B.row.n;rw[List.length_drop]at h1;omega
theorem Ak7{s st t:Rs}{x y y':RsC}(A:RsN s st y x)(N:RsN st t y' y)(p:st.phase=0)(p0:s.phase=0)(hc:t.chunks=st.chunks):RsN s t y' x:=by
 have h1:=A.f;rw[if_neg (λh=>h.1 p)]at h1;refine⟨?_,?_⟩
 ·rw[N.f,h1]
  by_cases h:t.phase=0
  ·rw[if_neg (λg=>g.1 h),if_neg (λg=>g.1 h)]
  ·rw[if_pos ⟨h,p⟩,if_pos ⟨h,p0⟩]
 ·rw[N.c,hc,A.c]
  unfold tnF;rw[if_neg (λh=>h.2 h.1)]
theorem Af4{s st t:Rs}{x y y':RsC}(A:RsN s st y x)(p:st.phase≠0)(q:t.phase≠0)(hh:t.head=st.head)(hc:t.chunks=st.chunks)(hf:y'.fb=y.fb)(hb:y'.cb=y.cb):RsN s t y' x:=by
 refine⟨?_,by rw[hb,A.c,hc]⟩;rw[hf,A.f,hh]
 by_cases h:s.phase=0
 ·rw[if_pos ⟨p,h⟩,if_pos ⟨q,h⟩]
 ·rw[if_neg (λg=>h g.2),if_neg (λg=>h g.2)]
theorem Ak8{s st t:Rs}{x y y':RsC}(A:RsN s st y x)(p:st.phase≠0)(q:t.phase≠0)(hh:t.head=st.head)(h4:s.chunks.phase≠4)(g4:st.chunks.phase≠4)(hf:y'.fb=y.fb)(hb:y'.cb=tnF st.chunks t.chunks y.cb):RsN s t y' x:=by
 have h1:=A.c;unfold tnF at h1;rw[if_neg (λh=>g4 h.1)]at h1;refine⟨?_,?_⟩
 ·rw[hf,A.f,hh]
  by_cases h:s.phase=0
  ·rw[if_pos ⟨p,h⟩,if_pos ⟨q,h⟩]
  ·rw[if_neg (λg=>h g.2),if_neg (λg=>h g.2)]
 ·rw[hb,h1]
  unfold tnF
  by_cases h:t.chunks.phase=4
  ·rw[if_pos ⟨h,g4⟩,if_pos ⟨h,h4⟩]
  ·rw[if_neg (λg=>h g.1),if_neg (λg=>h g.1)]
theorem Aca{s:Rs}(O:Du s)(h:s.phase≠2):s.chunks.phase≠4:=by
 intro h4
 by_cases h0:s.phase=0
 ·rw[(O.p0 h0).2.2.2.2.2]at h4;cases h4
 ·by_cases h2:s.framing=2
  ·exact h ((O.f2 h0 h2).2.2.2 h4)
  ·rw[(O.p1 h0).2.2.2.2.2.2.1 h2]at h4;cases h4
theorem finFeed{t:Rs}{y y':RsC}{u e u' e':ST}(V:RsV t y)(V':RsV t y')(hf:y.fb=y'.fb)(hc:y.cb=y'.cb)(hu:u.den=u'.den)(he:e.den=e'.den):Fin (.tup [rsA y,.int .i64 u,.int .i64 e]) (.tup [rsA y',.int .i64 u',.int .i64 e']) [] [] :=
 D6 (.tup (.cons (leRsA V V' hf hc) (.cons (Ak hu) (.cons (Ak he) .nil))))
theorem Agl:Ay Tryz.prog gl 23 spFeedR:=by
 refine Ez (gh:=[(3,[.vecb 7 17 5])]) mixed C6 (Ab Sl (Bm Aly (Bm Ahg (Bm Acb (Bm Aen Ai))))) Tryz.func23 (by kernel_rfl) (by kernel_rfl) ?_;intro xs ls K h;unfold spFeedR at h;obtain⟨s,x,b,nb,n,f,rfl,rfl,V,O,hm,R,hb,hnb,h⟩:=h;obtain⟨k,hk⟩:∃k,k=A0 s b:=⟨_,rfl⟩;have h:=h k hk;have hrow:=rs_fin (x:=x) O k hk;obtain⟨r,hr1,hr2,hK⟩:∃r,(k.2.2≠0->r=.tup [rsA x,.int .i64 (.a 0),.int .i64 (.a k.2.2)])/\(k.2.2=0->∃y,r=.tup [rsA y,.int .i64 (.a (k.2.1:Int)),.int .i64 (.a 0)]/\RsV k.1 y/\RsN s k.1 y x)/\K r []:=by
  by_cases e0:k.2.2=0
  ·obtain⟨y,W,N⟩:=hrow e0
   exact⟨_,λh=>absurd e0 h,λ_=>⟨y,rfl,W,N⟩,h.2 e0 y _ W N rfl⟩
  ·exact⟨_,λ_=>rfl,λh=>absurd h e0,h.1 e0⟩
 have VN:VI n b.length:=⟨R.n⟩;have HB:LeN b.length 1000000:=⟨hb⟩;refine⟨_,_,hK,λD hD=>?_⟩;clear hK h hrow hb;obtain⟨x0,hx0⟩:∃x0,x0=x:=⟨_,rfl⟩;obtain⟨m,ph,inf,ln,mi,st,re,fb,fl,ff,fr,bo,lf,cp,cl,cd,cf,cb,ct,ctf⟩:=x;unfold rsA;cbv;refine⟨s,RsC.nm D ⟨m,ph,inf,ln,mi,st,re,fb,fl,ff,fr,bo,lf,cp,cl,cd,cf,cb,ct,ctf⟩,rfl,rfl,by subst hD;exact V,O,hm,?_⟩;cbv;refine br hD (λhb=>?_) (λhb=>?_)<;>cbv
 ·exfalso
  have hb:(!true)=true:=by subst hD;exact hb
  cases hb
 clear hb;obtain⟨J,hJ⟩:∃J,J=fdJ s x0 b nb n f:=⟨_,rfl⟩;refine⟨[1,2,4,7],J,⟨rfl,b.length,?_⟩,?_⟩
 ·rw[hJ]
  subst hD hx0;refine⟨s,⟨m,ph,inf,ln,mi,st,re,fb,fl,ff,fr,bo,lf,cp,cl,cd,cf,cb,ct,ctf⟩,0,nb,n,f,_,_,_,_,rfl,rfl,⟨Kt.zero b O,V,⟨?_,?_⟩,rfl,R,hnb,λh=>h,λ_=>rfl⟩,rfl⟩
  ·rw[if_neg (λh=>h.1 h.2)]
  ·unfold tnF;rw[if_neg (λh=>h.2 h.1)]
 intro m3 vs hp hv;rw[hJ]at hv;obtain⟨st,y,i,nb1,n1,f1,nn,nl,g,nf,e1,e2,B,hm3⟩:=hv;subst e1;cbv at e2;subst e2;cbv;refine br hD (λhb=>?_) (λhb=>?_)<;>cbv
 ·have hb:(decide (0<n1)&&(y.ph != 2))=true:=by subst hD;exact hb
  rw[Bool.and_eq_true,decide_eq_true_eq,bne_iff_ne]at hb;obtain⟨hb1,hb2⟩:=hb;have hph:y.ph=st.phase:=B.v.ph;have h2:st.phase≠2:=by rw[<-hph];exact hb2
  have hmm:st.method.length<=9223372036854775807:=by rw[B.met];exact hm
  have HBI:LeN (b.drop i).length 1000000:=⟨by rw[List.length_drop];have:=HB.h;omega⟩;have hne0:b.drop i≠[]:=by
   intro e;have:=B.row.n;rw[e]at this;simp at this;omega
  refine br hD (λhb=>?_) (λhb=>?_)<;>cbv
  ·have hb:(y.ph==1)=true:=by subst hD;exact hb
   have hp1:st.phase=1:=by rw[<-hph];exact eq_of_beq hb
   have hkd:=Mn st.method st.head;have hfk:=(B.g.ok.p1 (by omega)).2.2.2.2.2.1;rw[hfk]at hkd;have hfr:y.fr=st.framing:=B.v.fr;have hne1:st.framing≠0:=λh=>h2 (B.g.ok.f0 (by omega) h).1;have hbo:y.bo=st.body:=B.v.bo;have hlf:y.lf=st.left:=B.v.lf;clear hb hfk;refine⟨⟨by
    have h1:y.fr∈[(1:Int),2,3]:=by
     rw[hfr];simp only[List.mem_cons,List.mem_nil_iff,or_false];omega
    subst hD;exact h1⟩,λhj1=>?_,λhj2=>?_,λhj3=>?_,trivial⟩<;>cbv
   ·have hf1:st.framing=1:=by
     have h1:D.i (.a y.fr)=st.framing:=by subst hD;exact hfr
     rw[<-h1];exact hj1.h
    obtain⟨q1,q2⟩:=Afk B.g.ok hp1 hf1;obtain⟨kk,hkk⟩:∃kk:Nat,(kk:Int)=min st.left ((b.drop i).length:Int):=⟨(min st.left ((b.drop i).length:Int)).toNat,by omega⟩;obtain⟨G,hone⟩:=Aea B.g.ok hp1 hf1 hkk;have hbl:y.bo.length<=1000000:=by rw[hbo];omega
    have hl0:0<=y.lf/\y.lf<=1000000:=by rw[hlf];omega
    have hk2:(kk:Int)=min y.lf ((b.drop i).length:Int):=by rw[hlf];exact hkk
    have EK:EqI (kk:Int) (min y.lf ((b.drop i).length:Int)):=⟨hk2⟩;have HL0:BdI 0 y.lf 1000000:=⟨hl0.1,hl0.2⟩;have HBL:LeN y.bo.length 1000000:=⟨hbl⟩;clear hk2 hl0 hbl hkk q1 q2 hj1;refine⟨RsC.nm D y,b.drop i,kk,D.b (.a nb1),D.i (.a n1),f1,D.b (.a nn),D.i (.a nl),D.i (.a g),nf,rfl,rfl,by subst hD;exact EK.h,by subst hD;exact B.row,HBI.h,HBL.h,by subst hD;exact HL0.lo,by subst hD;exact HL0.hi,λph' bo' lf' n' f' hph' hbo' hlf' R'=>?_⟩;cbv;refine br hD (λhb=>?_) (λhb=>?_)<;>cbv
    ·exfalso
     have hb:((0:Int) != 0)=true:=by subst hD;exact hb
     cases hb
    clear hb;have hB2:=B.next h2 (y':={ y with ph:=ph',bo:=bo',lf:=lf' }) (nb':=nb1) G ?_ ?_ rfl R' ?_ ?_
    ·refine⟨_,by rw[hm3];exact B.less hb1 (hone hne0),?_⟩
     rw[hJ];subst hD;exact⟨_,_,_,nb1,n',f',nn,nl,g,nf,rfl,rfl,hB2,rfl⟩
    ·obtain⟨a1,a2,a3,a4,a5,a6,a7,a8,a9,a10,a11,a12,a13,a14⟩:=B.v
     refine⟨a1,?_,a3,a4,a5,a6,a7,a8,a9,?_,?_,a12,a13,a14⟩
     ·subst hD
      have h1:ph'=if y.lf-(kk:Int)=0 then 2 else y.ph:=hph'
      show ph'=if st.left-(kk:Int)=0 then 2 else 1
      rw[h1,hlf,hph,hp1]
     ·show bo'=st.body++(b.drop i).take kk
      rw[hbo',<-hbo];rfl
     ·subst hD
      have h1:lf'=y.lf-(kk:Int):=hlf';show lf'=st.left-(kk:Int);rw[h1,hlf]
    ·refine Af4 B.nn (by omega) ?_ rfl rfl rfl rfl
     show (if st.left-(kk:Int)=0 then (2:Int) else 1)≠0
     split<;>decide
    ·exact λh=>by rw[B.nl h];exact List.drop_nil
    ·intro h
     exfalso;revert h;show (if st.left-(kk:Int)=0 then (2:Int) else 1)=0->False
     split<;>decide
   ·have hf2:st.framing=2:=by
     have h1:D.i (.a y.fr)=st.framing:=by subst hD;exact hfr
     rw[<-h1];exact hj2.h
    obtain⟨c1,c2,c3⟩:=B.g.ok.f2 (by omega) hf2;obtain⟨G,hge⟩:=Yy (b:=b.drop i) B.g.ok hp1 hf2;have h4:st.chunks.phase≠4:=λh=>h2 (c3.2 h);clear hj2;refine⟨RsC.nm D y,st.chunks,b.drop i,D.b (.a nb1),D.i (.a n1),f1,D.b (.a nn),D.i (.a nl),D.i (.a g),nf,rfl,rfl,B.v.cl,B.v.cd,by subst hD;exact B.v.cv,c2,λh=>absurd h h4,by subst hD;exact B.row,HBI.h,λk1 hk1=>⟨λhne=>?_,λh0 ph' cp' cf' cb' ct' ctf' n' f' W hcb hph' R'=>?_⟩⟩<;>cbv
    ·have hke:k.2.2=k1.2.2:=by rw[hk];exact B.g.err (by rw[hk1];exact hge (by rw[<-hk1];exact hne))
     obtain⟨e1,he1⟩:∃e1,e1=k1.2.2:=⟨_,rfl⟩;rw[<-he1]at hne hke;refine br hD (λhb=>?_) (λhb=>?_)<;>cbv
     ·rw[hr1 (by rw[hke];exact hne),hke]
      subst hD hx0;exact D6 (.tup (.cons (LeV.refl _) (.cons (Ak rfl) (.cons (Ak (by exact he1.symm)) .nil))))
     ·exfalso
      have hb:(k1.2.2 != 0)=false:=by subst hD;exact hb
      rw[<-he1]at hb;exact hne (by simpa using hb)
    ·have G:=G (by rw[<-hk1];exact h0)
     rw[<-hk1]at G;refine br hD (λhb=>?_) (λhb=>?_)<;>cbv
     ·exfalso
      have hb:((0:Int) != 0)=true:=by subst hD;exact hb
      cases hb
     clear hb;have hcb2:cb'=tnF st.chunks k1.1 y.cb:=by subst hD;exact hcb
     have hph2:ph'=if k1.1.phase=4 then 2 else y.ph:=by subst hD;exact hph'
     have hone:1<=k1.2.1:=by
      rw[hk1];cases hbd:b.drop i with
      |nil=>exact absurd hbd hne0
      |cons c r =>
       rw[hk1,hbd]at h0;rw[Dg h4]at h0 ⊢
       by_cases e2:(chS st.chunks c).2=0
       ·rw[if_neg (by simpa using e2)];exact Nat.succ_le_succ (Nat.zero_le _)
       ·rw[if_pos e2]at h0;exact absurd h0 e2
     have hB2:=B.next h2 (y':={ y with ph:=ph',cp:=cp',cl:=k1.1.line,cd:=k1.1.data,cf:=cf',cb:=cb',ct:=ct',ctf:=ctf' }) (nb':=nb1) G ?_ ?_ rfl R' ?_ ?_
     ·refine⟨_,by rw[hm3];exact B.less hb1 hone,?_⟩
      rw[hJ];subst hD;exact⟨_,_,_,nb1,n',f',nn,nl,g,nf,rfl,rfl,hB2,rfl⟩
     ·obtain⟨a1,a2,a3,a4,a5,a6,a7,a8,a9,a10,a11,a12,a13,a14⟩:=B.v
      refine⟨a1,?_,a3,a4,a5,a6,a7,a8,a9,a10,a11,rfl,rfl,W⟩;show ph'=if k1.1.phase=4 then 2 else 1
      rw[hph2,hph,hp1]
     ·refine Ak8 B.nn (by omega) ?_ rfl (Aca O λh=>h2 (by rw[B.p2 h];exact h)) h4 rfl hcb2
      show (if k1.1.phase=4 then (2:Int) else 1)≠0
      split<;>decide
     ·exact λh=>by rw[B.nl h];exact List.drop_nil
     ·intro h
      exfalso;revert h;show (if k1.1.phase=4 then (2:Int) else 1)=0->False
      split<;>decide
   ·have hf3:st.framing=3:=by
     have h1:D.i (.a y.fr)=st.framing:=by subst hD;exact hfr
     rw[<-h1];exact hj3.h
    have hbl:=B.g.ok.f3 (by omega) hf3;obtain⟨G,hge⟩:=Abk (b:=b.drop i) B.g.ok hp1 hf3;have HBL:LeN y.bo.length 65536:=⟨by rw[hbo];exact hbl⟩;have HBO:EqNN y.bo.length st.body.length:=⟨by rw[hbo]⟩;clear hbl hj3;refine⟨RsC.nm D y,b.drop i,D.b (.a nb1),D.i (.a n1),f1,D.b (.a nn),D.i (.a nl),D.i (.a g),nf,rfl,rfl,by subst hD;exact B.row,HBI.h,by have:=HBL.h;show y.bo.length<=_;omega,λhbig=>?_,λhsm bo' n' f' hbo' R'=>?_⟩<;>cbv
    ·have hke:k.2.2=3:=by rw[hk];exact B.g.err (hge (by rw[<-HBO.h];exact hbig))
     refine br hD (λhb=>?_) (λhb=>?_)<;>cbv
     ·rw[hr1 (by rw[hke];decide),hke]
      subst hD hx0;exact D6 (.tup (.cons (LeV.refl _) (.cons (Ak rfl) (.cons (Ak rfl) .nil))))
     ·exfalso
      have hb:((3:Int) != 0)=false:=by subst hD;exact hb
      cases hb
    ·have G:=G (by rw[<-HBO.h];exact hsm)
     refine br hD (λhb=>?_) (λhb=>?_)<;>cbv
     ·exfalso
      have hb:((0:Int) != 0)=true:=by subst hD;exact hb
      cases hb
     clear hb;have hB2:=B.next h2 (y':={ y with bo:=bo' }) (nb':=nb1) G ?_ ?_ rfl (by rw[List.drop_length];exact R') ?_ ?_
     ·refine⟨_,by rw[hm3];exact B.less hb1 (List.length_pos_iff.2 hne0),?_⟩
      rw[hJ];subst hD;exact⟨_,_,_,nb1,n',f',nn,nl,g,nf,rfl,rfl,hB2,rfl⟩
     ·obtain⟨a1,a2,a3,a4,a5,a6,a7,a8,a9,a10,a11,a12,a13,a14⟩:=B.v
      refine⟨a1,a2,a3,a4,a5,a6,a7,a8,a9,?_,a11,a12,a13,a14⟩;show bo'=st.body++b.drop i;rw[hbo',<-hbo];rfl
     ·exact Af4 B.nn (by omega) (by show st.phase≠0;omega) rfl rfl rfl rfl
     ·exact λ_=>List.drop_length
     ·exact λh=>h
  ·have hb:(y.ph==1)=false:=by subst hD;exact hb
   have hp0:st.phase=0:=by
    have h1:st.phase≠1:=by rw[<-hph];simpa using hb
    have:=B.g.ok.ph;omega
   clear hb;refine⟨st,RsC.nm D y,b.drop i,D.b (.a nb1),D.i (.a n1),f1,D.b (.a nn),D.i (.a nl),D.i (.a g),nf,rfl,rfl,by subst hD;exact B.v,B.g.ok,hp0,hmm,by subst hD;exact B.row,HBI.h,by subst hD;exact B.nl,λk1 q1 hk1 hq1=>⟨λhne=>?_,λh0 y1 nb' n' f' nl' nf' V' N' hnb' R' R''=>?_⟩⟩<;>cbv
   ·have hke:k.2.2=k1.2.2:=by rw[hk];exact B.g.err (by rw[hk1];exact (Abj _ _ hp0).1 (by rw[<-hk1];exact hne))
    obtain⟨e1,he1⟩:∃e1,e1=k1.2.2:=⟨_,rfl⟩;rw[<-he1]at hne hke;refine br hD (λhb=>?_) (λhb=>?_)<;>cbv
    ·rw[hr1 (by rw[hke];exact hne),hke]
     subst hD hx0;exact D6 (.tup (.cons (LeV.refl _) (.cons (Ak rfl) (.cons (Ak (by exact he1.symm)) .nil))))
    ·exfalso
     have hb:(k1.2.2 != 0)=false:=by subst hD;exact hb
     rw[<-he1]at hb;exact hne (by simpa using hb)
   ·have G:=Aeb B.g.ok hp0 (by rw[<-hk1];exact h0)
    have hd:=(Abj (b.drop i) st hp0).2 (by rw[<-hk1];exact h0);have hch:=On (b.drop i) st hp0;rw[<-hk1]at G hd hch;refine br hD (λhb=>?_) (λhb=>?_)<;>cbv
    ·exfalso
     have hb:((0:Int) != 0)=true:=by subst hD;exact hb
     cases hb
    clear hb;have N2:RsN st k1.1 y1 y:=by subst hD;exact N'
    have hB2:=B.next h2 (y':=y1) (nb':=nb') G V' (Ak7 B.nn N2 hp0 (B.p0 hp0) hch.1) hch.2 R' ?_ ?_
    ·refine⟨_,by rw[hm3];exact B.less hb1 (hd.one hne0),?_⟩
     rw[hJ];subst hD;exact⟨_,_,_,nb',n',f',_,nl',_,nf',rfl,rfl,hB2,rfl⟩
    ·intro h
     by_cases h7:k1.1.phase=0
     ·rw[hd.all h7,List.drop_length]
     ·rw[if_neg h7]at hnb'
      have hnb2:nb'=nb1:=by subst hD;exact hnb'
      rw[B.nl (by rw[<-hnb2];exact h)];exact List.drop_nil
    ·exact λ_=>hp0
 ·have hb:(decide (0<n1)&&(y.ph != 2))=false:=by subst hD;exact hb
  have hph:y.ph=st.phase:=B.v.ph;have hrow:=B.row.n;have hfin:A0 s b=(st,i,0):=B.g.fin (by
   rw[Bool.and_eq_false_iff,decide_eq_false_iff_not,bne_eq_false_iff_eq]at hb;rcases hb with h|h
   ·right
    exact List.eq_nil_of_length_eq_zero (by omega)
   ·left;rw[<-hph];exact h)
  rw[<-hk]at hfin;obtain⟨y2,rfl,W,N⟩:=hr2 (by rw[hfin]);rw[hfin]at W N ⊢;have e1:y.fb=y2.fb:=by rw[B.nn.f,hx0];exact N.f.symm
  have e2:y.cb=y2.cb:=by rw[B.nn.c,hx0];exact N.c.symm
  have hu:IntKind.i64.wrap (n-n1)=(i:Int):=by
   have h1:=VN.h;have h3:=B.g.le;have h4:=HB.h;rw[List.length_drop]at hrow;rw[h1,hrow,A4 (by omega) (by omega)];omega
  subst hD;exact finFeed B.v W e1 e2 (by exact hu) rfl
def Io:List UInt8:=[71,69,84]
def lenH(l:List (List UInt8)):RsH:=⟨1,200,[],l.map λv=>⟨sCL,v⟩⟩
def Aic(l:List (List UInt8)):Int:=if (Ar Io (lenH l)).2.2=6 then -1 else (Ar Io (lenH l)).2.1
def spLen9:FSpec:=λ_ xs ls K=>∃(l:List (List UInt8)) (nl:Bool) (n:Int) (f:Nat->List SV),xs=[.sl (.a nl) (.a n) 1 f]/\ls=[]/\Bl f n l/\l.length<=10/\(∀v∈l,v.length<=100)/\∀r,r=Aic l->K (.int .i64 (.a r)) []
structure Ln9J(l:List (List UInt8))(i:Nat)(I:Int)(m:Nat)(b:Bool)(n:Int)(f:Nat->List SV):Prop where
 at_:AtR l i I m
 g:GrH f n b ((l.take i).map λv=>⟨sCL,v⟩)
def ln9J(l:List (List UInt8))(nl:Bool)(n:Int)(f:Nat->List SV)(m:Nat)(vs:List (Option SV))(hp:List Hl):Prop :=
 ∃(i:Nat) (I:Int) (b:Bool) (n2:Int) (f2:Nat->List SV),vs=[some (.sl (.a nl) (.a n) 1 f),some (.ptr 0 0),some (.int .i64 (.a I))]/\
  hp=[.blk 25 [.int .i64 (.a 1),.int .i64 (.a 200),.str [],.gsl (.a b) (.a n2) 2 f2 1],.tail 100 (.a n2) 2]/\Ln9J l i I m b n2 f2
theorem Aib:Ay Tryz.prog gl 52 spLen9:=by
 refine Bq (gh:=[(1,[.hold 3 3 100])]) mixed C6 (Ab J6 Ai) Tryz.func52 (by kernel_rfl) (by kernel_rfl) ?_;intro xs ls K h;unfold spLen9 at h;obtain⟨l,nl,n,f,rfl,rfl,R,hl,hv,h⟩:=h;obtain⟨k,hk⟩:∃k,k=Aic l:=⟨_,rfl⟩;refine⟨_,_,h k hk,λD hD=>?_⟩;clear h;have HL:LeN l.length 10:=⟨hl⟩;have VN:VI n l.length:=⟨R.n⟩;cbv;obtain⟨J,hJ⟩:∃J,J=ln9J l nl n f:=⟨_,rfl⟩;refine⟨[0,3,4],J,⟨rfl,l.length,?_⟩,?_⟩
 ·rw[hJ]
  subst hD;exact⟨0,0,_,_,_,rfl,rfl,⟨AtR.zero (by omega),GrH.nil⟩⟩
 clear hl;intro m vs hp hj;rw[hJ]at hj;obtain⟨i,I,b,n2,f2,rfl,rfl,B⟩:=hj;cbv;refine br hD (λhb=>?_) (λhb=>?_)<;>cbv
 ·have hlt:=B.at_.lt R.n (of_decide_eq_true (p:=I<n) hb)
  clear hb;have hx:=hv (l.getD i []) (by rw[List.getD_eq_getElem?_getD,List.getElem?_eq_getElem hlt];exact List.getElem_mem hlt);have e1:=R.f i hlt;obtain⟨w,hw⟩:∃w,w=l.getD i []:=⟨_,rfl⟩;rw[<-hw]at e1 hx;have HX:LeN w.length 100:=⟨hx⟩;have hst:=B.at_.step hD hlt;have VO:VI n2 i:=⟨by have:=B.g.row.n;rw[List.length_map,List.length_take]at this;omega⟩;have HI:LeN i 10:=⟨by have:=HL.h;omega⟩;clear hx;refine⟨B.at_.inB hD R.n hlt,λj hj=>?_⟩;cbv;obtain rfl:=B.at_.j hD hj;clear hj;rw[e1];cbv;intro g hg;cbv;have hg0:g 0=Dk ⟨sCL,w⟩:=hg.h 0 _ rfl;clear hg;refine⟨by subst hD;exact⟨rfl,by show (n2+1) * 32<=_;rw[VO.h];have:=HI.h;omega,by show n2+1<=_;rw[VO.h];have:=HI.h;omega⟩,λf' n' hm=>?_⟩;cbv;have G2:∀nl',nl'=false->GrH f' n' nl' (((l.take j).map λv=>(⟨sCL,v⟩:HF))++[⟨sCL,w⟩]):=λnl' hb=>B.g.more hg0 ⟨by show sCL.length<=_;decide,by have:=HX.h;show w.length<=_;omega⟩ (by subst hD;exact hm) (by rw[List.length_map,List.length_take];have:=HI.h;omega) hb;clear hm;refine⟨_,hst.1,?_⟩;rw[hJ];subst hD;refine⟨j+1,_,(b&&false),n',f',rfl,rfl,⟨hst.2,?_⟩⟩;have e:l.take (j+1)=l.take j++[w]:=by
   rw[List.take_add_one,List.getElem?_eq_getElem hlt,hw,List.getD_eq_getElem?_getD,List.getElem?_eq_getElem hlt];rfl
  rw[e,List.map_append];exact G2 _ (Bool.and_false _)
 ·have hi:=B.at_.eq R.n (of_decide_eq_false (p:=I<n) hb)
  clear hb;have G:=B.g;rw[hi,List.take_length]at G;refine⟨Io,lenH l,_,_,_,_,_,f2,rfl,rfl,by subst hD;exact⟨rfl,rfl,G.row⟩,by decide,λa c e hf=>?_⟩;cbv;unfold Aic at hk;rw[<-hf]at hk;simp only at hk;refine br hD (λhb=>?_) (λhb=>?_)<;>cbv
  ·have hb:(e==6)=true:=by subst hD;exact hb
   rw[if_pos (eq_of_beq hb)]at hk;exact Be hD hk.symm
  ·have hb:(e==6)=false:=by subst hD;exact hb
   rw[if_neg (by simpa using hb)]at hk;exact Be hD hk.symm
def Amg:List UInt8:=[72,84,84,80,47,49,46,49,32,50,48,48,32,79,75,13,10,67,111,110,116,101,110,116,45,76,101,110,103,116,104,58,32,50,13,10,13,10,97,98,99]
def exB9:List UInt8:=[72,84,84,80,47,49,46,49,32,49,48,48,32,67,111,110,116,105,110,117,101,13,10,13,10,72,84,84,80,47,49,46,49,32,50,48,48,32,79,75,13,10,67,111,110,116,101,110,116,45,76,101,110,103,116,104,58,32,50,13,10,13,10,97,98,99]
def exC9:List UInt8:=[72,84,84,80,47,49,46,48,32,50,48,48,32,79,75,13,10,13,10,97,98]
def exH9:RsH:=⟨1,200,[79,75],[⟨sCL,[50]⟩]⟩
def exG9:RsH:=⟨0,200,[79,75],[]⟩
def Aeh(i:Int):Rs:=⟨Io,2,i,[],exH9,1,[97,98],0,ch0⟩
def exRh:Rs:=⟨Qr,2,0,[],exH9,0,[],0,ch0⟩
def Y8(p:Int):Rs:=⟨Io,p,0,[],exG9,3,[97,98],0,ch0⟩
theorem Y7:A0 (rs0 Io) Amg=(Aeh 0,40,0):=by kernel_rfl
theorem Y6:A0 (rs0 Io) exB9=(Aeh 1,65,0):=by kernel_rfl
theorem ex_runH:A0 (rs0 Qr) Amg=(exRh,38,0):=by kernel_rfl
theorem Y5:A0 (rs0 Io) exC9=(Y8 1,21,0):=by kernel_rfl
theorem Abu:Aga exH9 1=true:=by kernel_rfl
theorem Amf:Aga exG9 3=false:=by kernel_rfl
theorem ex_len1:Aic [[50,44,32,50]]=2:=by kernel_rfl
theorem ex_len2:Aic [[50,44,32,51]]=-1:=by kernel_rfl
theorem ex_len3:Aic [[48,50],[50]]=2:=by kernel_rfl
theorem Gz:Bg Io=true:=by kernel_rfl
theorem Agm:Bg Qr=true:=by kernel_rfl
set_option maxHeartbeats 16000000
def spT:FSpec:=λ_ xs ls K=>xs=[]/\ls=[]/\K (.bool (.a true)) []
theorem A7.of{f:Nat->List SV}{n:Int}{s:List UInt8}(h:Ag3 f s)(hn:n=s.length):A7 f n s:=by
 refine⟨hn,λi hi=>?_⟩;rw[h.h];rfl
theorem A7.built{g:Nat->List SV}{n:Int}{t:List UInt8}(h:Vh g (t.map λb=>[.int .u8 (.a (b.toNat:Int))]))(hn:n=t.length):A7 g n t:=by
 refine⟨hn,λi hi=>h.h i _ ?_⟩;rw[List.getElem?_map,List.getElem?_eq_getElem hi,List.getD_eq_getElem?_getD,List.getElem?_eq_getElem hi];rfl
theorem Bl.built{g:Nat->List SV}{n:Int}{l:List (List UInt8)}(h:Vh g (l.map λv=>[.str v]))(hn:n=l.length)(hl:l.length<=9223372036854775807):Bl g n l:=by
 refine⟨hn,λi hi=>?_,hl⟩;refine (h.h i _ ?_);rw[List.getElem?_map,List.getElem?_eq_getElem hi,List.getD_eq_getElem?_getD,List.getElem?_eq_getElem hi];rfl
theorem Ame(i:Int)(h:i=0\/i=1):Du (Aeh i):=by
 rcases h with rfl|rfl
 ·have:=K5 Amg _ (Mz Gz) (by rw[Y7])
  rwa [Y7]at this
 ·have:=K5 exB9 _ (Mz Gz) (by rw[Y6])
  rwa [Y6]at this
theorem Amd:Du (Y8 1):=by
 have:=K5 exC9 _ (Mz Gz) (by rw[Y5])
 rwa [Y5]at this
theorem ex_okC2:Du (Y8 2):=(endR_ok (t:=Y8 2) Amd rfl).1
structure ExA(y:RsC)(i u:Int)(U:Int):Prop where
 bo:y.bo=[97,98]
 inf:y.inf=i
 u:u=U
theorem Ahh:Ay Tryz.prog gl 16 spT:=by
 refine Bq (gh:=[(999985,[]),(7000009,[]),(999986,[.freeze 3])]) mixed C6 (Ab Ajv (Bm (fnOk_or Agl (Abq Agl)) (Ab end_ok (Ab resp_ok (Ab Aib Ai))))) Tryz.func16 (by kernel_rfl) (by kernel_rfl) ?_;intro xs ls K h;unfold spT at h;obtain⟨rfl,rfl,h⟩:=h;refine⟨_,_,h,λD hD=>?_⟩;clear h;cbv;refine⟨Io,rfl,rfl,by decide,λy e hy he=>?_⟩;rw[if_pos Gz]at hy he;subst hy he;cbv;refine⟨⟨by decide⟩,λf1 h1=>?_⟩;cbv;refine .inl ⟨rs0 Io,RsC.nm D (Vn Io),Amg,_,_,f1,rfl,rfl,by subst hD;exact Afm Io,Mz Gz,by decide,by subst hD;exact A7.of h1 rfl,by decide,λh=>(by subst hD;cases h),λk hk=>?_⟩;obtain rfl:k=(Aeh 0,40,0):=hk.trans Y7;clear hk h1;refine⟨λhne=>?_,λ_ y2 u2 V2 N2 hu2=>?_⟩<;>cbv
 ·exact absurd rfl hne
 have E2:ExA y2 0 u2 40:=⟨V2.bo,V2.inf,hu2⟩;clear hu2 N2;refine⟨Aeh 0,RsC.nm D y2,rfl,rfl,by subst hD;exact V2,Ame 0 (.inl rfl),by decide,λhne=>?_,λ_ bo cb ct ctf kp hkp _ hc2=>?_⟩
 ·cbv
  exact absurd rfl hne
 obtain⟨rfl,rfl,rfl,rfl⟩:=hc2 (by decide);obtain rfl:kp=true:=hkp.trans Abu;clear hkp hc2;cbv;refine br hD (λhb=>?_) (λhb=>?_)<;>cbv
 ·exfalso
  have hb:((((((((0:Int) != 0)||((0:Int) != 0))||((0:Int) != 0))||(u2 != 40))||!(y2.bo==[97,98]))||!true)||(y2.inf != 0))=true:=by subst hD;exact hb
  rw[E2.u,E2.bo,E2.inf]at hb;revert hb;decide
 clear hb;refine⟨⟨by decide⟩,λt2 ht2=>?_⟩;cbv;have ht2:t2=exB9:=ht2.h;subst ht2;refine⟨Io,rfl,rfl,by decide,λy e hy he=>?_⟩;rw[if_pos Gz]at hy he;subst hy he;cbv;refine⟨⟨by decide⟩,λf3 h3=>?_⟩;cbv;refine .inl ⟨rs0 Io,RsC.nm D (Vn Io),exB9,_,_,f3,rfl,rfl,by subst hD;exact Afm Io,Mz Gz,by decide,by subst hD;exact A7.of h3 rfl,by decide,λh=>(by subst hD;cases h),λk hk=>?_⟩;obtain rfl:k=(Aeh 1,65,0):=hk.trans Y6;clear hk h3;refine⟨λhne=>?_,λ_ y3 u3 V3 N3 hu3=>?_⟩<;>cbv
 ·exact absurd rfl hne
 have E3:ExA y3 1 u3 65:=⟨V3.bo,V3.inf,hu3⟩;clear hu3 N3;refine⟨Aeh 1,RsC.nm D y3,rfl,rfl,by subst hD;exact V3,Ame 1 (.inr rfl),by decide,λhne=>?_,λ_ bo cb ct ctf kp hkp _ hc2=>?_⟩
 ·cbv
  exact absurd rfl hne
 obtain⟨rfl,rfl,rfl,rfl⟩:=hc2 (by decide);obtain rfl:kp=true:=hkp.trans Abu;clear hkp hc2;cbv;refine br hD (λhb=>?_) (λhb=>?_)<;>cbv
 ·exfalso
  have hb:((((((((0:Int) != 0)||((0:Int) != 0))||((0:Int) != 0))||(u3 != 65))||!(y3.bo==[97,98]))||!true)||(y3.inf != 1))=true:=by subst hD;exact hb
  rw[E3.u,E3.bo,E3.inf]at hb;revert hb;decide
 clear hb;refine⟨⟨by decide⟩,λt4 ht4=>?_⟩;cbv;clear ht4;refine⟨Qr,rfl,rfl,by decide,λy e hy he=>?_⟩;rw[if_pos Agm]at hy he;subst hy he;cbv;intro g1 hg1;cbv;refine⟨⟨rfl⟩,.inr ⟨_,_,_,_,_,_,_,g1,rfl,rfl,rfl,rfl,rs0 Qr,RsC.nm D (Vn Qr),Amg,_,_,g1,rfl,rfl,by subst hD;exact Afm Qr,Mz Agm,by decide,by subst hD;exact A7.built hg1 rfl,by decide,λh=>(by subst hD;cases h),λk hk=>?_⟩⟩;obtain rfl:k=(exRh,38,0):=hk.trans ex_runH;clear hk hg1;refine⟨λhne=>⟨rfl,?_⟩,λ_ y4 u4 V4 N4 hu4=>⟨rfl,?_⟩⟩<;>cbv
 ·exact absurd rfl hne
 have E4:EqI u4 38:=⟨hu4⟩;clear hu4 N4 V4;refine⟨Io,rfl,rfl,by decide,λy e hy he=>?_⟩;rw[if_pos Gz]at hy he;subst hy he;cbv;intro g2 hg2;cbv;refine⟨⟨rfl⟩,.inr ⟨_,_,_,_,_,_,_,g2,rfl,rfl,rfl,rfl,rs0 Io,RsC.nm D (Vn Io),exC9,_,_,g2,rfl,rfl,by subst hD;exact Afm Io,Mz Gz,by decide,by subst hD;exact A7.built hg2 rfl,by decide,λh=>(by subst hD;cases h),λk hk=>?_⟩⟩;obtain rfl:k=(Y8 1,21,0):=hk.trans Y5;clear hk hg2;refine⟨λhne=>⟨rfl,?_⟩,λ_ y5 u5 V5 N5 hu5=>⟨rfl,?_⟩⟩<;>cbv
 ·exact absurd rfl hne
 clear hu5 N5;refine⟨Y8 1,RsC.nm D y5,rfl,rfl,by subst hD;exact V5,Amd,by decide,λp e hpe=>?_⟩;obtain⟨rfl,rfl⟩:p=2/\e=0:=by
  have h1:endF (Y8 1)=(2,0):=rfl;rw[h1]at hpe;exact Prod.mk.inj hpe
 clear hpe;cbv;have V6:RsV (Y8 2) { y5 with ph:=2 }:=⟨V5.m,rfl,V5.inf,V5.ln,V5.mi,V5.st,V5.re,V5.fl,V5.fr,V5.bo,V5.lf,V5.cl,V5.cd,V5.cv⟩;refine⟨Y8 2,RsC.nm D { RsC.nm D y5 with ph:=2 },rfl,rfl,by subst hD;exact V6,ex_okC2,by decide,λhne=>?_,λ_ bo cb ct ctf kp hkp _ hc2=>?_⟩
 ·cbv
  exact absurd rfl hne
 obtain⟨rfl,rfl,rfl,rfl⟩:=hc2 (by decide);obtain rfl:kp=false:=hkp.trans Amf;clear hkp hc2;have E5:ExA y5 0 u4 38:=⟨V5.bo,V5.inf,E4.h⟩;cbv;refine br hD (λhb=>?_) (λhb=>?_)<;>cbv
 ·exfalso
  have hb:(((((((u4 != 38)||((0:Int) != 0))||((0:Int) != 0))||((0:Int) != 0))||((0:Int) != 0))||!(y5.bo==[97,98]))||false)=true:=by subst hD;exact hb
  rw[E5.u,E5.bo]at hb;revert hb;decide
 clear hb;intro g3 hg3;cbv;refine⟨[[50,44,32,50]],_,_,g3,rfl,rfl,by subst hD;exact Bl.built hg3 rfl (by decide),by decide,by decide,λr hr=>?_⟩;cbv;have R1:EqI r 2:=⟨hr.trans ex_len1⟩;clear hr hg3;refine⟨λhg=>?_,λhg=>?_⟩<;>cbv
 ·intro g4 hg4
  cbv;refine⟨[[50,44,32,51]],_,_,g4,rfl,rfl,by subst hD;exact Bl.built hg4 rfl (by decide),by decide,by decide,λr2 hr=>?_⟩;cbv;have R2:EqI r2 (-1):=⟨hr.trans ex_len2⟩;clear hr hg4;refine⟨λhg2=>?_,λhg2=>?_⟩<;>cbv
  ·intro g5 hg5
   cbv;refine⟨[[48,50],[50]],_,_,g5,rfl,rfl,by subst hD;exact Bl.built hg5 rfl (by decide),by decide,by decide,λr3 hr=>?_⟩;cbv;have R3:EqI r3 2:=⟨hr.trans ex_len3⟩;clear hr hg5;refine Aw hD ?_;show (((r==2)&&(r2==-1))&&(r3==2))=true;rw[R1.h,R2.h,R3.h];rfl
  ·exfalso
   have e1:(r==2)=true:=by rw[R1.h];rfl
   have e2:(r2==-1)=true:=by rw[R2.h];rfl
   first
    |(have hg2:((r==2)&&((r==2)&&(r2==-1)))=false:=(by subst hD;exact hg2);rw[e1,e2]at hg2;cases hg2)
    |(have hg2:(((r==2)&&(r2==-1))&&(r==2))=false:=(by subst hD;exact hg2);rw[e1,e2]at hg2;cases hg2)
    |(have hg2:((r==2)&&(r2==-1))=false:=(by subst hD;exact hg2);rw[e1,e2]at hg2;cases hg2)
 ·exfalso
  have hg:(r==2)=false:=by subst hD;exact hg
  rw[R1.h]at hg;cases hg
set_option maxHeartbeats 8000000
def spText08:FSpec:=λ_ xs ls K=>∃(c:UInt8) (ci:Int),xs=[.int .u8 (.a ci)]/\ls=[]/\ci=(c.toNat:Int)/\∀r,r=okB c->K (.bool (.a r)) []
theorem Ahc:Ay Tryz.prog gl 172 spText08:=by
 refine Bq (gh:=[]) mixed B4 Ai Tryz.func172 (by kernel_rfl) (by kernel_rfl) ?_;intro xs ls K h;unfold spText08 at h;obtain⟨c,ci,rfl,rfl,hc,h⟩:=h;obtain⟨k,hk⟩:∃k,k=okB c:=⟨_,rfl⟩;refine⟨_,_,h k hk,λD hD=>?_⟩;clear h;have e:=Ak5 c;rw[<-hk,<-hc]at e;clear hc hk;cbv;refine Aw hD ?_;show ((ci==9)||(decide (32<=ci)&&decide (ci<=126)))=k;have e2:k=!((!(ci==9))&&(decide (ci<32)||decide (126<ci))):=by rw[e,Bool.not_not]
 rw[e2,Bool.eq_iff_iff];simp only[Bool.or_eq_true,Bool.and_eq_true,Bool.not_eq_true',decide_eq_true_eq,beq_iff_eq,Bool.and_eq_false_iff,Bool.not_eq_false',Bool.or_eq_false_iff,decide_eq_false_iff_not];omega
theorem Aho:Ay Tryz.prog gl 121 (Ly Br):=by
 refine Bq (gh:=[]) mixed B4 (Ab Ahc Ai) Tryz.func121 (by kernel_rfl) (by kernel_rfl) ?_;intro xs ls K h;unfold Ly at h;obtain⟨s,rfl,rfl,hs,h⟩:=h;obtain⟨k,hk⟩:∃k,k=Br s:=⟨_,rfl⟩;refine⟨_,_,h k hk,λD hD=>?_⟩;cbv;clear h;obtain⟨J,hJ⟩:∃J,J=plJ s k:=⟨_,rfl⟩;refine⟨[0,3],J,⟨rfl,s.length,?_⟩,?_⟩
 ·rw[hJ]
  subst hD;exact⟨0,0,rfl,rfl,At.zero hs,hk⟩
 intro m vs hp hv;rw[hJ]at hv;unfold plJ at hv;obtain⟨i,I,rfl,rfl,V,hk2⟩:=hv;clear hk;cbv;refine br hD (λh=>?_) (λh=>?_)<;>cbv
 ·have hlt:=V.lt (of_decide_eq_true (p:=I<(s.length:Int)) h)
  clear h;rw[Bn hlt]at hk2;have hst:=V.step hD hlt;refine⟨V.inS hD hlt,λb hb=>?_⟩;cbv;have hb2:=Gk hD V.I hb;clear hb;have hk3:k=(okB (s.getD i 0)&&Br (s.drop (i+1))):=hk2;refine⟨s.getD i 0,D.i (.a b),rfl,rfl,by subst hD;exact hb2.h,λr hr=>?_⟩;cbv;refine br hD (λh=>?_) (λh=>?_)<;>cbv
  ·have h:(!r)=true:=by subst hD;exact h
   refine Aw hD ?_;rw[hk3,<-hr];have h:r=false:=by simpa using h
   rw[h];rfl
  ·have h:(!r)=false:=by subst hD;exact h
   refine⟨_,hst.1,?_⟩;rw[hJ];unfold plJ;subst hD;refine⟨i+1,_,rfl,rfl,hst.2,?_⟩;have h:r=true:=by simpa using h
   rw[hk3,<-hr,h];rfl
 have he:=V.eq (of_decide_eq_false (p:=I<(s.length:Int)) h);refine Aw hD ?_;rw[hk2,List.drop_eq_nil_of_le (by omega)];rfl
def Adp:Nat->List UInt8->Int
 |a,[]=>(a:Int)
 |a,c :: r=>if 48<=c.toNat/\c.toNat<=57 then Adp (10 * a+(c.toNat-48)) r else -1
theorem Wz:∀(l:List UInt8) (a:Nat),Adp a l=if Ca l then (B6 a l:Int) else -1
 | [],a=>rfl
 |c :: r,a=>by
  unfold Adp
  by_cases h:48<=c.toNat/\c.toNat<=57
  ·rw[if_pos h,Wz r]
   have hd:Ca (c :: r)=Ca r:=by
    unfold Ca;rw[List.all_cons];have:Qd (c.toNat:Int)=true:=by
     unfold Qd;simp only[Bool.and_eq_true,decide_eq_true_eq];omega
    rw[this,Bool.true_and]
   have hs:B6 a (c :: r)=B6 (10 * a+(c.toNat-48)) r:=by
    rw[B6,if_neg (by rintro rfl;exact absurd h.1 (by decide)),Nat.mul_comm a 10]
   rw[hd,hs]
  ·rw[if_neg h,if_neg]
   intro hd;unfold Ca at hd;rw[List.all_cons,Bool.and_eq_true]at hd;have h1:=hd.1;unfold Qd at h1;simp only[Bool.and_eq_true,decide_eq_true_eq]at h1;omega
theorem Amn(s:List UInt8):Bt s=if 1<=s.length/\s.length<=10 then Adp 0 s else -1:=by
 unfold Bt
 by_cases h:1<=s.length/\s.length<=10
 ·rw[if_pos h,Wz,decide_eq_true h.1,decide_eq_true h.2];rfl
 ·rw[if_neg h,if_neg]
  simp only[Bool.and_eq_true,decide_eq_true_eq];exact λg=>h g.1
structure Nm9J(s:List UInt8)(k:Int)(i:Nat)(I:Int)(m:Nat)(a:Nat)(A:Int):Prop where
 at_:At s i I m
 ea:A=(a:Int)
 lt:a<10 ^ i
 k:k=Adp a (s.drop i)
def nmJ9(s:List UInt8)(k:Int)(m:Nat)(vs:List (Option SV))(hp:List Hl):Prop :=
 ∃(i:Nat) (I:Int) (a:Nat) (A:Int),vs=[some (.str s),some (.int .i64 (.a A)),some (.int .i64 (.a I))]/\hp=[]/\Nm9J s k i I m a A
theorem Ts:Ay Tryz.prog gl 74 spDec9:=by
 refine Bq (gh:=[]) mixed B4 Ai Tryz.func74 (by kernel_rfl) (by kernel_rfl) ?_;intro xs ls K h;unfold spDec9 at h;obtain⟨s,rfl,rfl,hs,h⟩:=h;obtain⟨k,hk⟩:∃k,k=Bt s:=⟨_,rfl⟩;refine⟨_,_,h k hk,λD hD=>?_⟩;clear h;rw[Amn]at hk;cbv;refine br hD (λhb=>?_) (λhb=>?_)<;>cbv
 ·have hb:(decide ((s.length:Int)<1)||decide (10<(s.length:Int)))=true:=by subst hD;exact hb
  refine Be hD ?_;simp only[Bool.or_eq_true,decide_eq_true_eq]at hb;rw[hk,if_neg (by omega)];rfl
 have hb:(decide ((s.length:Int)<1)||decide (10<(s.length:Int)))=false:=by subst hD;exact hb
 simp only[Bool.or_eq_false_iff,decide_eq_false_iff_not]at hb;rw[if_pos (by omega)]at hk;have HS:LeN s.length 10:=⟨by omega⟩;clear hb;obtain⟨J,hJ⟩:∃J,J=nmJ9 s k:=⟨_,rfl⟩;refine⟨[0,3,4],J,⟨rfl,s.length,?_⟩,?_⟩
 ·rw[hJ]
  subst hD;exact⟨0,0,0,0,rfl,rfl,⟨At.zero hs,rfl,by decide,hk⟩⟩
 clear hk;intro m vs hp hv;rw[hJ]at hv;obtain⟨i,I,a,A,rfl,rfl,B⟩:=hv;cbv;refine br hD (λhb=>?_) (λhb=>?_)<;>cbv
 ·have hlt:=B.at_.lt (of_decide_eq_true (p:=I<(s.length:Int)) hb)
  clear hb;have hk2:=B.k;rw[Bn hlt]at hk2;have hst:=B.at_.step hD hlt;refine⟨B.at_.inS hD hlt,λb hb=>?_⟩;cbv;have hb2:=Gk hD B.at_.I hb;clear hb;refine⟨λ_=>B.at_.inS hD hlt,λb2 hb3=>?_⟩;cbv;have e2:b2=b:=by rw[(Gk hD B.at_.I hb3).h,hb2.h]
  subst e2;clear hb3;obtain⟨c,hc⟩:∃c,c=s.getD i 0:=⟨_,rfl⟩;rw[<-hc]at hk2;have HBC:VI b2 c.toNat:=⟨by rw[hb2.h,hc]⟩;refine br hD (λhb=>?_) (λhb=>?_)<;>cbv
  ·have hb:(decide (b2<48)||decide (57<b2))=true:=by subst hD;exact hb
   simp only[Bool.or_eq_true,decide_eq_true_eq]at hb;have hbc:=HBC.h;refine Be hD ?_;rw[hk2,Adp,if_neg (by omega)];rfl
  have hbc:=HBC.h;have hb:(decide (b2<48)||decide (57<b2))=false:=by subst hD;exact hb
  simp only[Bool.or_eq_false_iff,decide_eq_false_iff_not]at hb;have hcd:48<=c.toNat/\c.toNat<=57:=by omega
  rw[Adp,if_pos hcd]at hk2;have hi:i<10:=by have:=HS.h;omega
  have hlt2:10 * a+(c.toNat-48)<10 ^ (i+1):=by
   have:=B.lt;rw[Nat.pow_succ];omega
  have hp9:(10:Nat) ^ (i+1)<=10 ^ 10:=Nat.pow_le_pow_right (by decide) (by omega);have hA:=B.ea;have hw:IntKind.i64.wrap (IntKind.i64.wrap (10 * A)+IntKind.i64.wrap (IntKind.u8.wrap (b2-48)))=((10 * a+(c.toNat-48):Nat):Int):=by
   have e1:IntKind.u8.wrap (b2-48)=b2-48:=by rw[IntKind.wrap_u8];omega
   have h10:(10:Nat) ^ 10=10000000000:=by decide
   have w1:IntKind.i64.wrap (10 * A)=10 * A:=A4 (by omega) (by omega);have w2:IntKind.i64.wrap (b2-48)=b2-48:=A4 (by omega) (by omega);rw[e1,w1,w2,A4 (by omega) (by omega)];omega
  clear hbc hb hp9;refine⟨B.at_.inS hD hlt,λb3 hb3=>?_⟩;cbv;have e3:b3=b2:=by rw[(Gk hD B.at_.I hb3).h,hb2.h]
  subst e3;refine⟨_,hst.1,?_⟩;rw[hJ];subst hD;exact⟨i+1,_,_,_,rfl,rfl,⟨hst.2,hw,hlt2,hk2⟩⟩
 have he:=B.at_.eq (of_decide_eq_false (p:=I<(s.length:Int)) hb);refine Be hD ?_;rw[B.k,List.drop_eq_nil_of_le (by omega),B.ea];rfl
end Go.Proofs.YtdoogdbjiijifaaGreatDoor
