/- Part of the proofs of the statements about responses and messages (layers 9 and 10): a symbolic executor over the code, that it is sound, and contracts of functions; it has no conditions of its own. -/
import Derived.Test.YtdoogdbjiijifaaGreatDoorE3Pbm
import Derived.Test.YtdoogdbjiijifaaGreatDoorE3Pbc
import Derived.Test.YtdoogdbjiijifaaGreatDoorE3Pbg
import Derived.Test.YtdoogdbjiijifaaGreatDoorE3Pbf
import Derived.Test.YtdoogdbjiijifaaGreatDoorE3Pbb
namespace Go.Proofs.YtdoogdbjiijifaaGreatDoor
open Go Go.Sx
set_option maxRecDepth 100000
set_option maxHeartbeats 8000000
theorem eqA{α:Type}{a b c:α}(h:a=c)(k:b=c):a=b:=h.trans k.symm
theorem Alk{t:Rs}{y y':RsC}{nb nb' nn nn':Bool}{n n' nl nl' g g':Int}{f f':Nat->List SV}{r:List UInt8}(V:RsV t y)(V':RsV t y')(hf:y.fb=y'.fb)(hc:y.cb=y'.cb)(R:A7 f n r)(R':A7 f' n' r)(hb:nb=nb')(hn:nn=nn')(hl:nl=nl')(hg:g=g'):
  LeL (J1 y nb n f nn nl g) (J1 y' nb' n' f' nn' nl' g'):=by
 obtain⟨m,ph,inf,ln,mi,st,re,fb,fl,ff,fr,bo,lf,cp,cl,cd,cf,cb,ct,ctf⟩:=y;obtain⟨m',ph',inf',ln',mi',st',re',fb',fl',ff',fr',bo',lf',cp',cl',cd',cf',cb',ct',ctf'⟩:=y';obtain⟨a1,a2,a3,a4,a5,a6,a7,a8,a9,a10,a11,a12,a13,a14⟩:=V;obtain⟨b1,b2,b3,b4,b5,b6,b7,b8,b9,b10,b11,b12,b13,b14⟩:=V';have e1:=eqA a1 b1;have e2:=eqA a4 b4;have e3:=eqA a7 b7;have e4:=eqA a10 b10;have e5:=eqA a12 b12;have e6:=eqA a13 b13;simp only at e1 e2 e3 e4 e5 e6 hf hc;subst e1 e2 e3 e4 e5 e6 hf hc hb hn hl hg;exact Q5 (eqA a2 b2) (eqA a3 b3) (eqA a5 b5) (eqA a6 b6) (Ir a8 b8 rfl rfl rfl) (eqA a9 b9) (eqA a11 b11) (eqA a14.eph b14.eph) (eqA a14.elf b14.elf) (Ir a14.tr b14.tr rfl rfl rfl) (P3 R R' rfl rfl rfl) (LeV.refl _)
theorem leRsA{t:Rs}{y y':RsC}(V:RsV t y)(V':RsV t y')(hf:y.fb=y'.fb)(hc:y.cb=y'.cb):LeV (rsA y) (rsA y'):=by
 obtain⟨m,ph,inf,ln,mi,st,re,fb,fl,ff,fr,bo,lf,cp,cl,cd,cf,cb,ct,ctf⟩:=y;obtain⟨m',ph',inf',ln',mi',st',re',fb',fl',ff',fr',bo',lf',cp',cl',cd',cf',cb',ct',ctf'⟩:=y';obtain⟨a1,a2,a3,a4,a5,a6,a7,a8,a9,a10,a11,a12,a13,a14⟩:=V;obtain⟨b1,b2,b3,b4,b5,b6,b7,b8,b9,b10,b11,b12,b13,b14⟩:=V';have e1:=eqA a1 b1;have e2:=eqA a4 b4;have e3:=eqA a7 b7;have e4:=eqA a10 b10;have e5:=eqA a12 b12;have e6:=eqA a13 b13;simp only at e1 e2 e3 e4 e5 e6 hf hc;subst e1 e2 e3 e4 e5 e6 hf hc;exact LeV.agg (.cons (Cn _) (.cons (Ak (eqA a2 b2)) (.cons (Ak (eqA a3 b3)) (.cons (Cn _) (.cons (Ak (eqA a5 b5)) (.cons (Ak (eqA a6 b6)) (.cons (Cn _) (.cons (Ir a8 b8 rfl rfl rfl) (.cons (Ak (eqA a9 b9)) (.cons (Cn _) (.cons (Ak (eqA a11 b11)) (.cons (Ak (eqA a14.eph b14.eph)) (.cons (Cn _) (.cons (Cn _) (.cons (Ak (eqA a14.elf b14.elf)) (.cons (Ir a14.tr b14.tr rfl rfl rfl) .nil))))))))))))))))
def rsC(t:Rs)(fb:Bool)(fl:Int)(ff:Nat->List SV)(cb:Bool)(ct:Int)(ctf:Nat->List SV):RsC :=
 ⟨t.method,t.phase,t.infos,t.line,t.head.minor,t.head.status,t.head.reason,fb,fl,ff,t.framing,t.body,t.left,t.chunks.phase,t.chunks.line,t.chunks.data,t.chunks.left,cb,ct,ctf⟩
theorem rsC_V{t:Rs}{fb:Bool}{fl:Int}{ff:Nat->List SV}{cb:Bool}{ct:Int}{ctf:Nat->List SV}(h:Bu ff fl t.head.fields)(k:Bu ctf ct t.chunks.trailers):RsV t (rsC t fb fl ff cb ct ctf) :=
 ⟨rfl,rfl,rfl,rfl,rfl,rfl,rfl,h,rfl,rfl,rfl,rfl,rfl,⟨rfl,rfl,k⟩⟩
structure RsN(s t:Rs)(y x:RsC):Prop where
 f:y.fb=if t.phase≠0/\s.phase=0 then t.head.fields.isEmpty else x.fb
 c:y.cb=tnF s.chunks t.chunks x.cb
def spHeadsR:FSpec:=λ_ xs ls K=>∃(s:Rs) (x:RsC) (b:List UInt8) (nb:Bool) (n:Int) (f:Nat->List SV) (nn:Bool) (nl g:Int) (nf:Nat->List SV),
 xs=[.ptr 0 0]/\ls=[.blk 125 (J1 x nb n f nn nl g),.vec 5 (.a nl) (.a g) 1 nf]/\RsV s x/\Du s/\s.phase=0/\s.method.length<=9223372036854775807/\A7 f n b/\b.length<=1000000/\(nb=true->b=[])/\
 ∀k q,k=D4 s b->q=Yw s false (g+1) b->(k.2.2≠0->K (.int .i64 (.a k.2.2)) [.gone,.gone])/\
  (k.2.2=0->∀y nb' n' f' nl' nf',RsV k.1 y->RsN s k.1 y x->nb'=(if k.1.phase=0 then true else nb)->A7 f' n' (b.drop k.2.1)->A7 nf' nl' k.1.line->
   K (.int .i64 (.a 0)) [.blk 125 (J1 y nb' n' f' q.1 nl' q.2),.vec 5 (.a nl') (.a q.2) 1 nf'])
structure HdJ(s:Rs)(x:RsC)(b:List UInt8)(k:Rs×Nat×Int)(q:Bool×Int)(st:Rs)(inf:Int)(u:Nat)(rem:List UInt8)(nn:Bool)(g:Int)(nl:Int)(nf:Nat->List SV):Prop where
 k:k=((D4 st rem).1,u+(D4 st rem).2.1,(D4 st rem).2.2)
 q:q=Yw st nn g rem
 p0:st.phase=0
 ok:Du st
 met:st.method=s.method
 inf:inf=st.infos
 rem:rem=b.drop u
 li:A7 nf nl st.line
theorem HdJ.cells{s:Rs}{x:RsC}{b:List UInt8}{k:Rs×Nat×Int}{q:Bool×Int}{st:Rs}{inf:Int}{u:Nat}{rem:List UInt8}{nn:Bool}{g nl:Int}{nf:Nat->List SV}(H:HdJ s x b k q st inf u rem nn g nl nf)(V:RsV s x)(O:Du s)(p0:s.phase=0):
  RsV st { x with inf:=inf,ln:=st.line }:=by
 obtain⟨a1,a2,a3,a4,a5,a6,a7,a8,a9,a10,a11,a12,a13,a14⟩:=V;obtain⟨_,q2,q3,q4,q5,q6⟩:=O.p0 p0;obtain⟨_,r2,r3,r4,r5,r6⟩:=H.ok.p0 H.p0;rw[q2]at a5 a6 a7 a8;rw[q3]at a9;rw[q4]at a10;rw[q5]at a11;rw[q6]at a12 a13 a14;refine⟨by rw[H.met];exact a1,by rw[H.p0,<-p0];exact a2,H.inf,rfl,by rw[r2];exact a5,by rw[r2];exact a6,by rw[r2];exact a7,by rw[r2];exact a8,by rw[r3];exact a9,by rw[r4];exact a10,by rw[r5];exact a11,by rw[r6];exact a12,by rw[r6];exact a13,by rw[r6];exact a14⟩
theorem HdJ.more{s:Rs}{x:RsC}{b:List UInt8}{k:Rs×Nat×Int}{q:Bool×Int}{st:Rs}{inf:Int}{u:Nat}{rem:List UInt8}{nn:Bool}{g nl:Int}{nf:Nat->List SV}{c:UInt8}{r2:List UInt8}(H:HdJ s x b k q st inf u rem nn g nl nf)(hr:rem=c :: r2)
  (hm:(An (st.line++[c])).2.2=10) {nl':Int} {nf':Nat->List SV} {g':Int} {nn':Bool} (R:A7 nf' nl' (st.line++[c])) (hg:g'=g+1) (hn:nn'=false):
  HdJ s x b k q { st with line:=st.line++[c] } inf (u+1) r2 nn' g' nl' nf':=by
 have hs:rsS st c=({ st with line:=st.line++[c] },0):=by unfold rsS;rw[if_pos H.p0,if_pos hm]
 have hk:=H.k;have hq:=H.q;rw[hr,D4,hs,if_neg (by simp),if_neg (by simpa using H.p0)]at hk;rw[hr,Yw,if_pos hm,hs]at hq;refine⟨?_,by rw[hg,hn];exact hq,H.p0,Ya H.ok (by rw[H.p0];decide) hs,H.met,H.inf,?_,R⟩
 ·rw[hk]
  exact Prod.ext rfl (Prod.ext ((by intro d;omega:∀d:Nat,u+(d+1)=u+1+d) _) rfl)
 ·have:=H.rem
  rw[hr]at this;rw[<-List.drop_drop,<-this];rfl
theorem HdJ.info{s:Rs}{x:RsC}{b:List UInt8}{k:Rs×Nat×Int}{q:Bool×Int}{st:Rs}{inf:Int}{u:Nat}{rem:List UInt8}{nn:Bool}{g nl:Int}{nf:Nat->List SV}{c:UInt8}{r2:List UInt8}(H:HdJ s x b k q st inf u rem nn g nl nf)(hr:rem=c :: r2)
  (h0:(An (st.line++[c])).2.2=0) (h1:(An (st.line++[c])).1.status<200) (h2:(An (st.line++[c])).1.status≠101) (h3:¬10<st.infos+1) {nl':Int} {nf':Nat->List SV} {g':Int} {nn':Bool} (R:A7 nf' nl' []) (hg:g'=g+3) (hn:nn'=true):
  HdJ s x b k q { st with line:=[],infos:=st.infos+1 } (inf+1) (u+1) r2 nn' g' nl' nf':=by
 have hs:rsS st c=({ st with line:=[],infos:=st.infos+1 },0):=by unfold rsS;rw[if_pos H.p0,if_neg (by rw[h0];decide),if_neg (by simpa using h0),if_neg h2,if_neg (by omega),if_neg h3]
 have hk:=H.k;have hq:=H.q;rw[hr,D4,hs,if_neg (by simp),if_neg (by simpa using H.p0)]at hk;rw[hr,Yw,if_neg (by rw[h0];decide),hs,if_neg (by simpa using H.p0)]at hq;refine⟨?_,by rw[hg,hn];exact hq,H.p0,Ya H.ok (by rw[H.p0];decide) hs,H.met,by show inf+1=st.infos+1;rw[H.inf],?_,R⟩
 ·rw[hk]
  exact Prod.ext rfl (Prod.ext ((by intro d;omega:∀d:Nat,u+(d+1)=u+1+d) _) rfl)
 ·have:=H.rem
  rw[hr]at this;rw[<-List.drop_drop,<-this];rfl
theorem HdJ.err{s:Rs}{x:RsC}{b:List UInt8}{k:Rs×Nat×Int}{q:Bool×Int}{st:Rs}{inf:Int}{u:Nat}{rem:List UInt8}{nn:Bool}{g nl:Int}{nf:Nat->List SV}{c:UInt8}{r2:List UInt8}(H:HdJ s x b k q st inf u rem nn g nl nf)(hr:rem=c :: r2){e:Int}
  (he:(rsS st c).2=e) (h:e≠0):k.2.2=e:=by
 rw[H.k,hr,D4,if_pos (by rw[he];exact h)];exact he
theorem HdJ.last{s:Rs}{x:RsC}{b:List UInt8}{k:Rs×Nat×Int}{q:Bool×Int}{st:Rs}{inf:Int}{u:Nat}{rem:List UInt8}{nn:Bool}{g nl:Int}{nf:Nat->List SV}{c:UInt8}{r2:List UInt8}(H:HdJ s x b k q st inf u rem nn g nl nf)(hr:rem=c :: r2)
  (h0:(An (st.line++[c])).2.2=0) (h2:(An (st.line++[c])).1.status≠101) (h1:200<=(An (st.line++[c])).1.status) (hf:(Ar st.method (An (st.line++[c])).1).2.2=0):
  k=((Cg st (An (st.line++[c])).1).1,u+1,0)/\q=(true,g+3)/\(Cg st (An (st.line++[c])).1).1.phase≠0/\b.drop (u+1)=r2:=by
 have hs:rsS st c=Cg st (An (st.line++[c])).1:=by unfold rsS;rw[if_pos H.p0,if_neg (by rw[h0];decide),if_neg (by simpa using h0),if_neg h2,if_pos h1]
 have hp:(Cg st (An (st.line++[c])).1).1.phase≠0:=by
  unfold Cg;rw[if_neg (by simpa using hf)];show (if _ then (2:Int) else 1)≠0
  split<;>decide
 have h02:(Cg st (An (st.line++[c])).1).2=0:=by unfold Cg;rw[if_neg (by simpa using hf)]
 have hk:=H.k;have hq:=H.q;rw[hr,D4,hs,if_neg (by rw[h02];simp),if_pos hp]at hk;rw[hr,Yw,if_neg (by rw[h0];decide),hs,if_pos hp]at hq;refine⟨hk,hq,hp,?_⟩;have:=H.rem;rw[hr]at this;rw[<-List.drop_drop,<-this];rfl
def hdO(s:Rs)(b:List UInt8)(k:Rs×Nat×Int)(q:Bool×Int)(x:RsC)(nb0:Bool)(m:Nat)(vs:List (Option SV))(hp:List Hl):Prop :=
 ∃(st:Rs) (inf:Int) (u:Nat) (rem:List UInt8) (n:Int) (f:Nat->List SV) (nn:Bool) (nl g:Int) (nf:Nat->List SV),vs=[some (.ptr 0 0)]/\hp=[.blk 125 (J1 { x with inf:=inf,ln:=[] } nb0 n f nn nl g),.vec 5 (.a nl) (.a g) 1 nf,.gone]/\
  A7 f n rem/\HdJ s x b k q st inf u rem nn g nl nf/\m=rem.length
def hdI(s:Rs)(b:List UInt8)(k:Rs×Nat×Int)(q:Bool×Int)(x:RsC)(nb0:Bool)(rem:List UInt8)(n:Int)(f:Nat->List SV)(m:Nat)(vs:List (Option SV))(hp:List Hl):Prop :=
 ∃(st:Rs) (inf:Int) (u:Nat) (i:Nat) (I:Int) (nn:Bool) (nl g:Int) (nf:Nat->List SV),vs=[some (.ptr 0 0),some (.sl (.a nb0) (.a n) 1 f),some (.int .i64 (.a n)),some (.int .i64 (.a I))]/\hp=[.blk 125 (J1 { x with inf:=inf,ln:=[] } nb0 n f nn nl g),.vec 5 (.a nl) (.a g) 1 nf,.gone]/\
  AtR rem i I m/\HdJ s x b k q st inf u (rem.drop i) nn g nl nf
theorem begin_V{st:Rs}{x0:RsC}{inf:Int}{hd:RsH}{mi se:Int}{re:List UInt8}{hb:Bool}{hn:Int}{hf:Nat->List SV}{a b p:Int}(V:RsV st { x0 with inf:=inf,ln:=st.line })(h:(a,b,0)=Ar st.method hd)(W:Aez hd mi se hn hf)(hr:re=hd.reason)(hp:p=phB a b):
  RsV (Cg st hd).1 { x0 with inf:=inf,ln:=[],ph:=p,mi:=mi,st:=se,re:=re,fb:=hb,fl:=hn,ff:=hf,fr:=a,lf:=b }:=by
 obtain⟨a1,a2,a3,a4,a5,a6,a7,a8,a9,a10,a11,a12,a13,a14⟩:=V;unfold Cg;rw[<-h,if_neg (by simp)];exact⟨a1,hp,a3,rfl,W.emi,W.est,hr,W.row,rfl,a10,rfl,a12,a13,a14⟩
theorem Adg{b:List UInt8}(h:(An b).2.2≠0):(An b).1=rsH0:=by
 unfold An at h ⊢
 split
 ·rfl
 split
 ·rfl
 split
 ·rfl
 ·rename_i g1 g2 g3
  rw[if_neg g1,if_neg g2,if_neg g3]at h;exact absurd rfl h
theorem Aly:Ay Tryz.prog gl 76 spHeadsR:=by
 refine Ez (gh:=[(999983,[]),(1,[.vmov 0 17 1]),(12,[.vnil 0 17 1])]) mixed C6 (Bm (Xh Yv) (Bm Ai8 Ai)) Tryz.func76 (by kernel_rfl) (by kernel_rfl) ?_;intro xs ls K h;unfold spHeadsR at h;obtain⟨s,x,b,nb,n,f,nn,nl,g,nf,rfl,rfl,V,O,p0,hm,R,hb,hnb,h⟩:=h;obtain⟨k,hk⟩:∃k,k=D4 s b:=⟨_,rfl⟩;obtain⟨q,hq⟩:∃q,q=Yw s false (g+1) b:=⟨_,rfl⟩;have h2:=h k q hk hq;clear h;have hrow:k.2.2=0->Du k.1:=λe=>by rw[hk]at e ⊢;exact ((Abj b s p0).2 e).ok O
 obtain⟨L,hL1,hL2,hK⟩:∃L,(k.2.2≠0->L=[.gone,.gone])/\(k.2.2=0->∃y n' f' nl' nf',L=[.blk 125 (J1 y (if k.1.phase=0 then true else nb) n' f' q.1 nl' q.2),.vec 5 (.a nl') (.a q.2) 1 nf']/\RsV k.1 y/\RsN s k.1 y x/\A7 f' n' (b.drop k.2.1)/\A7 nf' nl' k.1.line)/\K (.int .i64 (.a k.2.2)) L:=by
  by_cases e0:k.2.2=0
  ·obtain⟨fl,ff,ct,ctf,r1,r2⟩:=Afj (hrow e0)
   have W:=rsC_V (fb:=if k.1.phase≠0/\s.phase=0 then k.1.head.fields.isEmpty else x.fb) (cb:=tnF s.chunks k.1.chunks x.cb) r1 r2;refine⟨_,λh=>absurd e0 h,λ_=>⟨_,_,_,_,_,rfl,W,⟨rfl,rfl⟩,L7 _,L7 _⟩,?_⟩;rw[e0];exact h2.2 e0 _ _ _ _ _ _ W ⟨rfl,rfl⟩ rfl (L7 _) (L7 _)
  ·exact⟨_,λ_=>rfl,λh=>absurd h e0,h2.1 e0⟩
 obtain⟨E,hE⟩:∃E,E=k.2.2:=⟨_,rfl⟩;rw[<-hE]at hK;have hln:x.ln=s.line:=V.ln;have hll:s.line.length<=8500:=Gg (O.p0 p0).1;have HLN:LeN x.ln.length 8500:=⟨by rw[hln];exact hll⟩;have HB:LeN b.length 1000000:=⟨hb⟩;have VN:VI n b.length:=⟨R.n⟩;refine⟨_,_,hK,λD hD=>?_⟩;clear hK h2 hrow hll hb;obtain⟨x0,hx0⟩:∃x0,x0=x:=⟨_,rfl⟩;obtain⟨m,ph,inf,ln,mi,st,re,fb,fl,ff,fr,bo,lf,cp,cl,cd,cf,cb,ct,ctf⟩:=x;simp only at hln HLN;cbv;refine⟨⟨by have:=HLN.h;omega⟩,λf3 hf3=>?_⟩;cbv;have R3:A7 f3 ln.length ln:=⟨rfl,λi _=>by rw[hf3.h];rfl⟩;clear hf3;refine⟨⟨rfl⟩,λg4 hg4=>?_⟩;cbv;have EG:EqI g4 (g+1):=⟨by subst hD;exact hg4.h⟩;clear hg4;obtain⟨J,hJ⟩:∃J,J=hdO s b k q x0 nb:=⟨_,rfl⟩;refine⟨[0],J,⟨rfl,b.length,?_⟩,?_⟩
 ·rw[hJ]
  subst hD hx0;refine⟨s,_,0,b,_,f,_,_,_,f3,rfl,rfl,R,⟨?_,?_,p0,O,rfl,V.inf,(List.drop_zero (l:=b)).symm,?_⟩,rfl⟩
  ·rw[hk,Nat.zero_add]
  ·rw[hq];show _=Yw s false g4 b;rw[EG.h]
  ·have e:ln=s.line:=V.ln
   rw[<-e];exact R3
 clear R3 EG;intro m3 vs hp hv;rw[hJ]at hv;obtain⟨st1,inf1,u1,rem,n2,f2,nn1,nl1,g1,nf1,rfl,rfl,R2,H1,hm3⟩:=hv;cbv;have HR:LeN rem.length 1000000:=⟨by rw[H1.rem,List.length_drop];have:=HB.h;omega⟩;obtain⟨J2,hJ2⟩:∃J2,J2=hdI s b k q x0 nb rem n2 f2:=⟨_,rfl⟩;refine⟨[0,24,25,26],J2,⟨rfl,rem.length,?_⟩,?_⟩
 ·rw[hJ2]
  subst hD;refine⟨st1,_,u1,0,_,_,_,_,nf1,rfl,rfl,AtR.zero (by have:=HR.h;omega),?_⟩;rw[List.drop_zero];exact H1
 clear H1;intro m4 vs4 hp4 hv;rw[hJ2]at hv;obtain⟨st,inf,u,i,I,nn,nl,g,nf,rfl,rfl,A,H⟩:=hv;cbv;refine br hD (λhbr=>?_) (λhbr=>?_)<;>cbv
 ·have hbr:decide (I<n2)=true:=by subst hD;exact hbr
  have hlt:=A.lt R2.n (of_decide_eq_true hbr);clear hbr;have e1:=R2.f i hlt;have hdr:=Bn hlt;obtain⟨c,hc⟩:∃c,c=rem.getD i 0:=⟨_,rfl⟩;rw[<-hc]at e1 hdr;refine⟨A.inB hD R2.n hlt,λj hj=>?_⟩;cbv;obtain rfl:=A.j hD hj;clear hj;rw[e1];cbv;have hmore:=(H.ok.p0 H.p0).1;have hll:=Gg hmore;have HL:LeN st.line.length 8500:=⟨hll⟩;have VL:VI nl st.line.length:=⟨H.li.n⟩;obtain⟨T,hT⟩:∃T,T=st.line++[c]:=⟨_,rfl⟩;have hTl:T.length=st.line.length+1:=by rw[hT,List.length_append];rfl
  have HT:EqNN T.length (st.line.length+1):=⟨hTl⟩;have hq1:c≠10->T.length<=301->(An T).2.2=10:=λh1 h2=>by rw[hT];exact Aim h1 (by omega) hmore
  obtain⟨hdT,hhd⟩:∃hdT,hdT=An T:=⟨_,rfl⟩;rw[<-hhd]at hq1;clear hmore hll hTl;intro f3 hf3;cbv;refine⟨by subst hD;exact⟨rfl,by show (nl+1) * 1<=_;rw[VL.h];have:=HL.h;omega,by show nl+1<=_;rw[VL.h];have:=HL.h;omega⟩,by subst hD;exact⟨rfl⟩,λf4 n4 hm g4 hg4=>?_⟩;cbv;have h30:f3 0=[.int .u8 (.a (c.toNat:Int))]:=by rw[hf3.h 0 _ rfl];subst hD;rfl
  have R4:A7 f4 n4 T:=by rw[hT];exact H.li.more (g:=f3) (u:=[c]) rfl (row1 h30) (by subst hD;exact hm)
  have EG:EqI g4 (g+1):=⟨by subst hD;exact hg4.h⟩;clear hm hf3 hg4 h30;have hstep:=A.step hD hlt;refine br hD (λhb=>?_) (λhb=>?_)<;>cbv
  ·have hb:(((c.toNat:Int) != 10)&&decide (n4<=301))=true:=by subst hD;exact hb
   rw[Bool.and_eq_true,bne_iff_ne,decide_eq_true_eq]at hb;have h10:(An T).2.2=10:=by rw[<-hhd];exact hq1 (λh=>hb.1 (by rw[h];rfl)) (by have:=R4.n;omega)
   refine⟨_,hstep.1,?_⟩;rw[hJ2];rw[hT]at h10 R4;subst hD;exact⟨_,inf,u+1,j+1,_,_,_,_,f4,rfl,rfl,hstep.2,H.more hdr h10 R4 EG.h (Bool.and_false _)⟩
  clear hb hq1;have HT2:LeN T.length 1000000:=⟨by have:=HT.h;have:=HL.h;omega⟩;refine⟨_,_,_,_,_,_,_,f4,rfl,rfl,rfl,rfl,T,_,_,f4,rfl,rfl,by subst hD;exact R4,HT2.h,λhd u5 e5 mi5 st5 re5 f5 n5 b5 hm5 V5=>?_⟩;have hne:e5≠0->b5=true:=λh=>by
   have h1:(An T).1=rsH0:=Adg (by rw[<-hm5];exact h);rw[<-hm5]at h1;have h1:hd=rsH0:=h1;have:=V5.g.nl;rw[h1]at this;exact this
  by_cases h10:e5=10
  ·refine .inl ⟨noRowH (hne (by rw[h10];decide)),?_⟩
   cbv;refine br hD (λhb=>?_) (λhb=>?_)<;>cbv
   ·have h10:(An T).2.2=10:=by rw[<-hm5];exact h10
    refine⟨_,hstep.1,?_⟩;rw[hJ2];rw[hT]at h10 R4;subst hD;exact⟨_,inf,u+1,j+1,_,_,_,_,f4,rfl,rfl,hstep.2,H.more hdr h10 R4 EG.h (Bool.and_false _)⟩
   ·exfalso
    have hb:(e5==10)=false:=by subst hD;exact hb
    rw[h10]at hb;cases hb
  refine .inr ⟨rfl,λg6 hg6=>?_⟩;cbv;have EG6:EqI g6 (g+2):=⟨by
   have:=EG.h;have h6:g6=g4+1:=by subst hD;exact hg6.h
   omega⟩
  clear hg6;refine br hD (λhb=>?_) (λhb=>?_)<;>cbv
  ·exfalso
   have hb:(e5==10)=true:=by subst hD;exact hb
   exact h10 (eq_of_beq hb)
  clear hb;refine br hD (λhb=>?_) (λhb=>?_)<;>cbv
  ·have hb:(e5 != 0)=true:=by subst hD;exact hb
   have h0:e5≠0:=by simpa using hb
   have hs:(rsS st c).2=e5:=by
    unfold rsS;rw[if_pos H.p0,<-hT,<-hm5,if_neg h10,if_pos h0]
   have hke:=H.err hdr hs h0;rw[hL1 (by rw[hke];exact h0)];subst hD;exact Kb (by exact (hE.trans hke).symm)
  have h0:e5=0:=by
   have hb:(e5 != 0)=false:=by subst hD;exact hb
   simpa using hb
  clear hb;have hI1:IntKind.i64.wrap (I+1)=((j+1:Nat):Int):=by
   have h1:=A.I;have h2:=HR.h;rw[A4 (by omega) (by omega)];omega
  have EI:EqI (IntKind.i64.wrap (I+1)) ((j+1:Nat):Int):=⟨hI1⟩;have VR2:VI n2 rem.length:=⟨R2.n⟩;have HJ:LeN (j+1) rem.length:=⟨hlt⟩;clear hI1;refine⟨by subst hD;exact⟨by show (0:Int)<=IntKind.i64.wrap (I+1);rw[EI.h];omega,by show IntKind.i64.wrap (I+1)<=n2;rw[EI.h,VR2.h];have:=HJ.h;omega,Int.le_refl _⟩,λf7 n7 hsub=>?_⟩;cbv;have R7:A7 f7 n7 (rem.drop (j+1)):=by
   have:=R2.sub (a:=j+1) (b:=rem.length) hsub (by subst hD;exact EI.h) (by subst hD;exact VR2.h) HJ.h (Nat.le_refl _);have e:(rem.drop (j+1)).take (rem.length-(j+1))=rem.drop (j+1):=List.take_of_length_le (by rw[List.length_drop];exact Nat.le_refl _)
   rwa [e]at this
  clear hsub;intro g8 hg8;cbv;have EG8:g8=g+3:=by
   have:=EG6.h;have h6:g8=g6+1:=by subst hD;exact hg8.h
   omega
  clear hg8;have R0:A7 (λ_=>[]) 0 []:=⟨rfl,λi hi=>by cases hi⟩;have hT0:(An (st.line++[c])).2.2=0:=by rw[<-hT,<-hm5];exact h0
  have hT1:(An (st.line++[c])).1=hd:=by rw[<-hT,<-hm5]
  have hst5:st5=hd.status:=V5.est;refine br hD (λhb=>?_) (λhb=>?_)<;>cbv
  ·have hb:(st5==101)=true:=by subst hD;exact hb
   have hb:=eq_of_beq hb;have hs:(rsS st c).2=6:=by
    unfold rsS;rw[if_pos H.p0,if_neg (by rw[hT0];decide),if_neg (by simpa using hT0),if_pos (by rw[hT1,<-hst5,hb])]
   have hke:=H.err hdr hs (by decide);rw[hL1 (by rw[hke];decide)];subst hD;exact Kb (by exact (hE.trans hke).symm)
  have h101:hd.status≠101:=by
   have hb:(st5==101)=false:=by subst hD;exact hb
   rw[<-hst5];simpa using hb
  clear hb;refine br hD (λhb=>?_) (λhb=>?_)<;>cbv
  ·have hb:decide (200<=st5)=true:=by subst hD;exact hb
   have h200:200<=hd.status:=by rw[<-hst5];exact of_decide_eq_true hb
   have hmet:st.method=x0.m:=by rw[H.met];exact V.m.symm.trans (by rw[hx0])
   have hmx:x0.m.length<=9223372036854775807:=by rw[<-hmet,H.met];exact hm
   refine⟨RsC.nm D { x0 with inf:=inf,ln:=[] },D.b (.a nb),D.i (.a n7),f7,D.b (.l true),D.i (.l 0),D.i (.a g8),_,hd,D.i (.a mi5),D.i (.a st5),re5,D.b (.a b5),D.i (.a n5),f5,rfl,rfl,⟨by subst hD;exact V5.emi,by subst hD;exact V5.est,by subst hD;exact V5.g.row⟩,hmx,λka kb ke hfr=>⟨λhne=>?_,λhe p hp=>?_⟩⟩<;>cbv
   ·have hs:(rsS st c).2=ke:=by
     unfold rsS;rw[if_pos H.p0,if_neg (by rw[hT0];decide),if_neg (by simpa using hT0),if_neg (by rw[hT1];exact h101),if_pos (by rw[hT1];exact h200),hT1];unfold Cg;have hfr:(ka,kb,ke)=Ar st.method hd:=by rw[hmet];exact hfr
     rw[<-hfr,if_pos hne]
    have hke:=H.err hdr hs hne;rw[hL1 (by rw[hke];exact hne)];subst hD;exact Kb (by exact (hE.trans hke).symm)
   ·have hfr:(ka,kb,0)=Ar st.method hd:=by rw[hmet,<-he];exact hfr
    obtain⟨l1,l2,l3,l4⟩:=H.last hdr hT0 (by rw[hT1];exact h101) (by rw[hT1];exact h200) (by rw[hT1,<-hfr]);rw[hT1]at l1 l3;have hk0:k.2.2=0:=by rw[l1]
    obtain⟨y,n',f',nl',nf',rfl,W,N,R',R''⟩:=hL2 hk0;have Vst:=H.cells (x:=x0) (by rw[hx0];exact V) O p0;have VB:=begin_V (hb:=b5) Vst hfr ⟨V5.emi,V5.est,V5.g.row⟩ V5.ere hp;have hk1:k.1=(Cg st hd).1:=by rw[l1]
    rw[hk1]at W N R'';have hkn:¬k.1.phase=0:=by rw[hk1];exact l3
    have hlin:(Cg st hd).1.line=[]:=by unfold Cg;rw[<-hfr,if_neg (by simp)]
    have hfld:(Cg st hd).1.head=hd:=by unfold Cg;rw[<-hfr,if_neg (by simp)]
    have hchk:(Cg st hd).1.chunks=st.chunks:=by unfold Cg;rw[<-hfr,if_neg (by simp)]
    rw[hlin]at R'';have hrem:b.drop k.2.1=rem.drop (j+1):=by rw[l1];exact l4
    rw[hrem]at R';rw[if_neg hkn,l2];have e1:b5=y.fb:=by
     rw[N.f,if_pos ⟨l3,p0⟩,hfld];exact V5.g.nl
    have e2:x0.cb=y.cb:=by
     rw[N.c,hchk,hx0];unfold tnF;rw[if_neg];rintro⟨g1,_⟩;rw[(H.ok.p0 H.p0).2.2.2.2.2]at g1;cases g1
    subst hD;exact⟨Ak (by exact (hE.trans hk0).symm),Cz (LeH.cons (Ao (Alk VB W e1 e2 R7 R' rfl rfl (by exact R''.n.symm) EG8)) (LeH.cons (Ia (by exact R''.n.symm) EG8 λi hi=>by exfalso;exact absurd hi (by show ¬(i:Int)<0;omega)) λ_ _ _ _ h=>h)),Nat.le_refl _⟩
  have h200:hd.status<200:=by
   have hb:decide (200<=st5)=false:=by subst hD;exact hb
   have:=of_decide_eq_false hb;omega
  clear hb;have hi1:=H.ok.i1;have hi0:=H.ok.i0;have hinf:=H.inf;have hw:IntKind.i64.wrap (inf+1)=inf+1:=A4 (by omega) (by omega);have EF:EqI (IntKind.i64.wrap (inf+1)) (inf+1):=⟨hw⟩;clear hw;refine br hD (λhb=>?_) (λhb=>?_)<;>cbv
  ·have hb:decide (10<IntKind.i64.wrap (inf+1))=true:=by subst hD;exact hb
   rw[EF.h,decide_eq_true_eq]at hb;have hs:(rsS st c).2=3:=by
    unfold rsS;rw[if_pos H.p0,if_neg (by rw[hT0];decide),if_neg (by simpa using hT0),if_neg (by rw[hT1];exact h101),if_neg (by rw[hT1];omega),if_pos (by omega)]
   have hke:=H.err hdr hs (by decide);rw[hL1 (by rw[hke];decide)];subst hD;exact Kb (by exact (hE.trans hke).symm)
  ·have hb:decide (10<IntKind.i64.wrap (inf+1))=false:=by subst hD;exact hb
   rw[EF.h,decide_eq_false_iff_not]at hb;have H2:=H.info hdr hT0 (by rw[hT1];exact h200) (by rw[hT1];exact h101) (by omega) R0 EG8 rfl;rw[<-EF.h]at H2;refine⟨(rem.drop (j+1)).length,by rw[List.length_drop,hm3];have:=HJ.h;omega,?_⟩;rw[hJ];subst hD;exact⟨_,_,u+1,_,_,f7,_,_,_,_,rfl,rfl,R7,H2,rfl⟩
 ·have hbr:decide (I<n2)=false:=by subst hD;exact hbr
  have hi:=A.eq R2.n (of_decide_eq_false hbr);clear hbr;refine⟨⟨rfl⟩,⟨rfl⟩,by subst hD;exact H.li.byte,λr hr=>?_⟩;cbv;have er:r=st.line:=H.li.str (by subst hD;exact hr);clear hr;have hnil:rem.drop i=[]:=by rw[hi,List.drop_length]
  have l1:=H.k;have l2:=H.q;have l3:=H.rem;rw[hnil]at l1 l2 l3;have hk0:k.2.2=0:=by rw[l1];rfl
  have hk1:k.1=st:=by rw[l1];rfl
  have hk2:k.2.1=u:=by rw[l1];rfl
  obtain⟨y,n',f',nl',nf',rfl,W,N,R',R''⟩:=hL2 hk0;have Vst:=H.cells (x:=x0) (by rw[hx0];exact V) O p0;rw[hk1]at W N R'';rw[hk2,<-l3]at R';have e1:x0.fb=y.fb:=by
   rw[N.f,if_neg (λh=>h.1 H.p0),hx0]
  have e2:x0.cb=y.cb:=by
   rw[N.c,hx0];unfold tnF;rw[if_neg];rintro⟨g1,_⟩;rw[(H.ok.p0 H.p0).2.2.2.2.2]at g1;cases g1
  have hkp:k.1.phase=0:=by rw[hk1];exact H.p0
  have l2:q=(nn,g):=l2;have R0:A7 (λ_=>[]) 0 []:=⟨rfl,λi hi=>by cases hi⟩;have hll:nl=nl':=H.li.n.trans R''.n.symm;have hlr:∀i:Nat,(i:Int)<nl->nf i=nf' i:=λi hi=>by
   have h1:=H.li.n;rw[H.li.f i (by omega),R''.f i (by omega)]
  rw[if_pos hkp,l2];subst hD er;exact⟨Ak (by exact (hE.trans hk0).symm),Cz (LeH.cons (Ao (Alk Vst W e1 e2 R0 R' rfl rfl hll rfl)) (LeH.cons (Ia (by exact hll) rfl (by exact hlr)) λ_ _ _ _ h=>h)),Nat.le_refl _⟩
def Afg(a b:RsH):Bool:=(((a.minor==b.minor)&&(a.status==b.status))&&(a.reason==b.reason))&&decide (a.fields=b.fields)
structure HeadV(h:RsH)(mi st:Int)(re:List UInt8)(n:Int)(f:Nat->List SV):Prop where
 mi:mi=h.minor
 st:st=h.status
 re:re=h.reason
 row:Bu f n h.fields
def spSameH:FSpec:=λ_ xs ls K=>∃(a b:RsH) (m1 s1 m2 s2:Int) (r1 r2:List UInt8) (b1 b2:Bool) (n1 n2:Int) (f1 f2:Nat->List SV),xs=[I8 m1 s1 r1 b1 n1 f1,I8 m2 s2 r2 b2 n2 f2]/\ls=[]/\HeadV a m1 s1 r1 n1 f1/\HeadV b m2 s2 r2 n2 f2/\
 ∀r,r=Afg a b->K (.bool (.a r)) []
theorem Aj5:Ay Tryz.prog gl 21 spSameH:=by
 refine Bq (gh:=[]) mixed C6 (Ab Ami Ai) Tryz.func21 (by kernel_rfl) (by kernel_rfl) ?_;intro xs ls K h;unfold spSameH at h;obtain⟨a,b,m1,s1,m2,s2,r1,r2,b1,b2,n1,n2,f1,f2,rfl,rfl,V,W,h⟩:=h;obtain⟨k,hk⟩:∃k,k=Afg a b:=⟨_,rfl⟩;refine⟨_,_,h k hk,λD hD=>?_⟩;clear h;unfold Afg at hk;rw[<-V.mi,<-V.st,<-V.re,<-W.mi,<-W.st,<-W.re]at hk;unfold I8;cbv;refine⟨a.fields,b.fields,_,_,_,_,f1,f2,rfl,rfl,by subst hD;exact V.row,by subst hD;exact W.row,λz hz=>?_⟩;cbv;refine Aw hD ?_;rw[hk,<-hz];rfl
theorem Acg{P:Go.Program}{gl:List (Nat×SV)}{f:Go.FuncId}{as1 as2:List SV}{ls:List Hl}{r:SV}{ls':List Hl}(h:LeL as1 as2)(c:Fh P gl f as2 ls r ls'):Fh P gl f as1 ls r ls' :=
 λB E w vals hw hI hdom hb hg hh hr=>c B E w vals hw hI hdom hb hg hh (h E w vals hr)
def rowT(l:List HF)(i:Nat):List SV:=Dk (l.getD i default)
theorem Bu.total{f:Nat->List SV}{n:Int}{l:List HF}(R:Bu f n l):Bu (rowT l) n l:=⟨R.n,λ_ _=>rfl,R.len,R.small⟩
theorem rowHLe{f:Nat->List SV}{n:Int}{l:List HF}{nl:Bool}(R:Bu f n l):LeV (.sl (.a nl) (.a n) 2 f) (.sl (.a nl) (.a n) 2 (rowT l)):=by
 refine .sl rfl rfl λi hi=>?_;have hi:(i:Int)<n:=hi;rw[R.f i (by have:=R.n;omega)];rfl
theorem A7.total{f:Nat->List SV}{n:Int}{b:List UInt8}(R:A7 f n b):A7 (byteRow b) n b/\Ae0 (byteRow b) b:=⟨⟨R.n,λ_ _=>rfl⟩,λ_=>rfl⟩
theorem rowULe{f:Nat->List SV}{n:Int}{b:List UInt8}{nl:Bool}(R:A7 f n b):LeV (.sl (.a nl) (.a n) 1 f) (.sl (.a nl) (.a n) 1 (byteRow b)):=by
 refine .sl rfl rfl λi hi=>?_;have hi:(i:Int)<n:=hi;rw[R.f i (by have:=R.n;omega)];rfl
open Go Go.Sx Go.ChangeShapes Go.WideShapes Go.RowKit
abbrev StD:={s:List UInt8 // s.length<=maxLen}
abbrev HfD:=StD×StD×Unit
def hfC(x:HfD):List SV:=[.str x.1.1]++([.str x.2.1.1]++[])
abbrev FsD:={x:Bool×List HfD // x.2.length<=maxLen/\(x.1=true->x.2=[])}
abbrev RsD:=Int×Int×StD×FsD×Unit
def rsC25(x:RsD):List SV:=[.int .i64 (.a x.1)]++([.int .i64 (.a x.2.1)]++([.str x.2.2.1.1]++(slC 2 hfC x.2.2.2.1.1++[])))
theorem open100:Do Tryz.prog 100 hfC:=.struct (fs:=[(0,9),(1,9)]) (len:=2) Tryz.underlying100 (by rfl) (by kernel_rfl) (Ig.cons 0 1 1 (by kernel_rfl) Afz (Ig.cons 1 1 0 (by kernel_rfl) Afz Ig.nil))
theorem open23:Do Tryz.prog 23 (λx:FsD=>slC 2 hfC x.1):=.sliceN Tryz.underlying23 (by kernel_rfl) (by decide) open100
theorem open25:Do Tryz.prog 25 rsC25:=.struct (fs:=[(0,3),(1,3),(2,9),(3,23)]) (len:=4) Tryz.underlying25 (by rfl) (by kernel_rfl)
 (Ig.cons 0 1 3 (by kernel_rfl) open3 (Ig.cons 1 1 2 (by kernel_rfl) open3 (Ig.cons 2 1 1 (by kernel_rfl) Afz (Ig.cons 3 1 0 (by kernel_rfl) open23 Ig.nil))))
def Aq(x:HfD):HF:=⟨x.1.1,x.2.1.1⟩
def rsOf(x:RsD):RsH:=⟨x.1,x.2.1,x.2.2.1.1,x.2.2.2.1.1.2.map Aq⟩
theorem Zy(x:StD):x.1.length<=9223372036854775807:=Nat.le_trans x.2 (by decide)
theorem rowH_of(l:List HfD)(h:l.length<=maxLen):Bu (Hk hfC l) (l.length:Int) (l.map Aq):=by
 refine⟨by rw[List.length_map],λi hi=>?_,by rw[List.length_map];exact Nat.le_trans h (by decide),λi hi=>?_⟩
 ·rw[List.length_map]at hi
  unfold Hk;rw[List.getElem?_eq_getElem hi,List.getD_eq_getElem?_getD,List.getElem?_map,List.getElem?_eq_getElem hi];rfl
 ·rw[List.length_map]at hi
  rw[List.getD_eq_getElem?_getD,List.getElem?_map,List.getElem?_eq_getElem hi];exact⟨Zy l[i].1,Zy l[i].2.1⟩
def rsF25(x:RsD):Nat->List SV:=Hk hfC x.2.2.2.1.1.2
def rs25(x:RsD):SV:=.agg (rsC25 x)
theorem rsV_of(x:RsD):Aez (rsOf x) x.1 x.2.1 (x.2.2.2.1.1.2.length:Int) (rsF25 x):=⟨rfl,rfl,rowH_of _ x.2.2.2.1.2.1⟩
set_option maxHeartbeats 400000
def sTE:List UInt8:=[84,114,97,110,115,102,101,114,45,69,110,99,111,100,105,110,103]
def Amc(k:Int)(n:Nat):List HF:=if k=1 then [⟨sCL,Lib.itoa (n:Int)⟩] else if k=2 then [⟨sTE,sChunked⟩] else []
def wOf(h:RsH):List UInt8:=Fl++(Lib.itoa h.minor++32 :: (Lib.itoa h.status++32 :: h.reason))
structure PrOk(h:RsH)(body:List UInt8)(k:Int)(b:List UInt8):Prop where
 ch:Gj h=0
 plain:Br h.reason=true
 te:B5 h.fields nTEnc=[]
 cl:B5 h.fields nLen=[]
 k0:0<=k
 k3:k<=3
 none:k=0->body=[]
 min:k=2->h.minor≠0
 bl:body.length<=65536
 rl:h.reason.length<=287
 cf:A6 (h.fields++Amc k body.length)=0
 b:b=headB (wOf h) (h.fields++Amc k body.length)++(if k=2 then encC body else body)
structure Ms where
 req:Rq
 out:List UInt8
 sent:Int
 inn:Rs
 maxH:Int
 maxB:Int
 phase:Int
 ended:Bool
 why:Int
structure Me where
 kind:Int
 n:Int
 bytes:List UInt8
 why:Int
def Ab2(r:Rs):Prop:=r.phase=0/\r.line=[]/\r.infos=0
instance (r:Rs):Decidable (Ab2 r):=by unfold Ab2;exact inferInstance
def Al6(r:Rs)(mb:Int):Prop:=(r.body.length:Int)+r.chunks.data.length<=mb/\r.left<=mb-((r.body.length:Int)+r.chunks.data.length)
instance (r:Rs) (mb:Int):Decidable (Al6 r mb):=by unfold Al6;exact inferInstance
def Yh(s:Ms):Prop :=
 (s.phase=0/\s.why=0/\s.ended=false/\s.inn.phase≠2)\/(s.phase=1/\s.why=0/\s.inn.phase=2)\/
 (s.phase=2/\(((s.why=10\/s.why=11\/s.why=4\/s.why=5\/s.why=1)/\s.ended=false/\s.inn.phase≠2)\/(s.why=12/\s.ended=false/\(s.inn.phase=2\/s.sent=0))\/
  (s.why=15/\s.ended=true/\Ab2 s.inn)\/(s.why=9/\s.ended=true/\¬Ab2 s.inn/\s.inn.phase≠2)\/(s.why=8/\s.ended=true/\s.inn.phase≠2)))
instance (s:Ms):Decidable (Yh s):=by unfold Yh;exact inferInstance
structure MsOk(s:Ms):Prop where
 enc:O0 s.req=(s.out,0)
 s0:0<=s.sent
 s1:s.sent<=s.out.length
 h0:64<=s.maxH
 h1:s.maxH<=65536
 b0:0<=s.maxB
 b1:s.maxB<=65536
 met:s.inn.method=s.req.method
 rs:Du s.inn
 line:(s.inn.line.length:Int)<=s.maxH
 fit:Al6 s.inn s.maxB
 ear:s.sent=0->Ab2 s.inn
 right:Yh s
def endR(r:Rs):Option Rs:=if r.phase=2 then some r else if r.phase=1/\r.framing=3 then some { r with phase:=2 } else none
theorem S9(s:Rs)(c:UInt8):(rsS s c).1.method=s.method:=by
 unfold rsS
 split
 ·split
  ·rfl
  split
  ·rfl
  split
  ·rfl
  split
  ·unfold Cg;split<;>rfl
  split<;>rfl
 split
 ·split<;>rfl
 split
 ·rfl
 split<;>rfl
theorem endR_ok{r t:Rs}(h:Du r)(he:endR r=some t):Du t/\t.phase=2/\t.method=r.method/\t.line=r.line/\t.body=r.body/\t.chunks=r.chunks/\t.left=r.left/\t.infos=r.infos:=by
 unfold endR at he
 split at he
 ·rename_i g;cases he;exact⟨h,g,rfl,rfl,rfl,rfl,rfl,rfl⟩
 split at he
 ·rename_i g0 g
  cases he;refine⟨⟨h.tok,h.i0,h.i1,.inr (.inr rfl),λe=>by simp at e,λ_=>h.p1 (by rw[g.1];decide),λ_ e=>?_,λ_ e=>?_,λ_ e=>?_,λ_ _=>h.f3 (by rw[g.1];decide) g.2⟩,rfl,rfl,rfl,rfl,rfl,rfl,rfl⟩
  ·have e:r.framing=0:=e;omega
  ·have e:r.framing=1:=e;omega
  ·have e:r.framing=2:=e;omega
 ·cases he
end Go.Proofs.YtdoogdbjiijifaaGreatDoor
