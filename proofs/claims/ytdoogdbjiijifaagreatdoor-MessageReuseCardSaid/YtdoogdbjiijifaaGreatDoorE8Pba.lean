/- A part of the proof: contracts of functions, or the executor and its soundness. No conditions. -/
import Derived.Test.YtdoogdbjiijifaaGreatDoorE8Paz
import Derived.Test.YtdoogdbjiijifaaGreatDoorE8Paw
namespace Go.Proofs.YtdoogdbjiijifaaGreatDoor
open Go Go.Sx
set_option maxRecDepth 100000
set_option maxHeartbeats 8000000
theorem kP{α:Type}{a b c:α}(h:a=c)(k:b=c):a=b:=h.trans k.symm
variable {t s st:Rs}{y y' x:bN}{nb nb' nn kT:Bool}{n n' nl dJ g g' inf:Int}{f f' nf jI:Nat->List SV}{k:Rs×Nat×Int}{q:Bool×Int}{u i:Nat}{rem r2 l:List UInt8}{c:UInt8}
theorem Alx{r:List UInt8}(V:iU t y)(V':iU t y')(hf:y.fb=y'.fb)(hc:y.cb=y'.cb)(R:Bl f n r)(R':Bl f' n' r)(hb:nb=nb')(hn:nn=kT)(hl:nl=dJ)(hg:g=g'):
  iM (Kb y nb n f nn nl g) (Kb y' nb' n' f' kT dJ g'):=by
 obtain⟨m,ph,inf,ln,mi,st,re,fb,fl,ff,fr,bo,lf,cp,cl,cd,cf,cb,ct,ctf⟩:=y;obtain⟨m',eV,tP,MX,wF,qM,pn,yD,yB,yC,nU,tE,gX,yG,cl',cd',yH,qV,pN,gH⟩:=y';obtain⟨a1,a2,a3,a4,a5,a6,a7,a8,a9,wU,wT,a12,uR,qK⟩:=V;obtain⟨b1,b2,b3,b4,b5,b6,b7,b8,b9,b10,b11,b12,b13,zu⟩:=V';have e1:=kP a1 b1;have e2:=kP a4 b4;have e3:=kP a7 b7;have e4:=kP wU b10;have e5:=kP a12 b12;have e6:=kP uR b13;simp only at e1 e2 e3 e4 e5 e6 hf hc;subst e1 e2 e3 e4 e5 e6 hf hc hb hn hl hg;exact Rd (kP a2 b2) (kP a3 b3) (kP a5 b5) (kP a6 b6) (E8 a8 b8 rfl rfl rfl) (kP a9 b9) (kP wT b11) (kP qK.gU zu.gU) (kP qK.iS zu.iS) (E8 qK.tr zu.tr rfl rfl rfl) (Qc R R' rfl rfl rfl) (aO.refl _)
theorem ES(V:iU t y)(V':iU t y')(hf:y.fb=y'.fb)(hc:y.cb=y'.cb):aO (nZ y) (nZ y'):=by
 obtain⟨m,ph,inf,ln,mi,st,re,fb,fl,ff,fr,bo,lf,cp,cl,cd,cf,cb,ct,ctf⟩:=y;obtain⟨m',eV,tP,MX,wF,qM,pn,yD,yB,yC,nU,tE,gX,yG,cl',cd',yH,qV,pN,gH⟩:=y';obtain⟨a1,a2,a3,a4,a5,a6,a7,a8,a9,wU,wT,a12,uR,qK⟩:=V;obtain⟨b1,b2,b3,b4,b5,b6,b7,b8,b9,b10,b11,b12,b13,zu⟩:=V';have e1:=kP a1 b1;have e2:=kP a4 b4;have e3:=kP a7 b7;have e4:=kP wU b10;have e5:=kP a12 b12;have e6:=kP uR b13;simp only at e1 e2 e3 e4 e5 e6 hf hc;subst e1 e2 e3 e4 e5 e6 hf hc;exact aO.agg (.cons (Cj _) (.cons (Ai (kP a2 b2)) (.cons (Ai (kP a3 b3)) (.cons (Cj _) (.cons (Ai (kP a5 b5)) (.cons (Ai (kP a6 b6)) (.cons (Cj _) (.cons (E8 a8 b8 rfl rfl rfl) (.cons (Ai (kP a9 b9)) (.cons (Cj _) (.cons (Ai (kP wT b11)) (.cons (Ai (kP qK.gU zu.gU)) (.cons (Cj _) (.cons (Cj _) (.cons (Ai (kP qK.iS zu.iS)) (.cons (E8 qK.tr zu.tr rfl rfl rfl) .nil))))))))))))))))
def rsC(t:Rs)(fb:Bool)(fl:Int)(ff:Nat->List SV)(cb:Bool)(ct:Int)(ctf:Nat->List SV):bN :=
 ⟨t.method,t.phase,t.infos,t.line,t.head.minor,t.head.status,t.head.reason,fb,fl,ff,t.aD,t.body,t.left,t.chunks.phase,t.chunks.line,t.chunks.data,t.chunks.left,cb,ct,ctf⟩
theorem pg{fb:Bool}{fl:Int}{ff:Nat->List SV}{cb:Bool}{ct:Int}{ctf:Nat->List SV}(h:A5 ff fl t.head.fields)(k:A5 ctf ct t.chunks.aE):iU t (rsC t fb fl ff cb ct ctf) :=
 ⟨rfl,rfl,rfl,rfl,rfl,rfl,rfl,h,rfl,rfl,rfl,rfl,rfl,⟨rfl,rfl,k⟩⟩
structure oT(s t:Rs)(y x:bN):Prop where
 f:y.fb=if t.phase≠0/\s.phase=0 then t.head.fields.isEmpty else x.fb
 c:y.cb=jS s.chunks t.chunks x.cb
def rE:aB:=λ_ xs ls K=>∃(s:Rs) (x:bN) (b:List UInt8) (nb:Bool) (n:Int) (f:Nat->List SV) (nn:Bool) (nl g:Int) (nf:Nat->List SV),
 xs=[.ptr 0 0]/\ls=[.aG 125 (Kb x nb n f nn nl g),.vec 5 (.a nl) (.a g) 1 nf]/\iU s x/\C7 s/\s.phase=0/\s.method.length<=9223372036854775807/\Bl f n b/\b.length<=1000000/\(nb=true->b=[])/\
 ∀k q,k=Eb s b->q=Zb s false (g+1) b->(k.2.2≠0->K (.int .i64 (.a k.2.2)) [.gone,.gone])/\
  (k.2.2=0->∀y nb' n' f' dJ jI,iU k.1 y->oT s k.1 y x->nb'=(if k.1.phase=0 then true else nb)->Bl f' n' (b.drop k.2.1)->Bl jI dJ k.1.line->
   K (.int .i64 (.a 0)) [.aG 125 (Kb y nb' n' f' q.1 dJ q.2),.vec 5 (.a dJ) (.a q.2) 1 jI])
structure wW(s:Rs)(x:bN)(b:List UInt8)(k:Rs×Nat×Int)(q:Bool×Int)(st:Rs)(inf:Int)(u:Nat)(rem:List UInt8)(nn:Bool)(g:Int)(nl:Int)(nf:Nat->List SV):Prop where
 k:k=((Eb st rem).1,u+(Eb st rem).2.1,(Eb st rem).2.2)
 q:q=Zb st nn g rem
 p0:st.phase=0
 ok:C7 st
 met:st.method=s.method
 inf:inf=st.infos
 rem:rem=b.drop u
 li:Bl nf nl st.line
theorem wW.cells{b:List UInt8}(H:wW s x b k q st inf u rem nn g nl nf)(V:iU s x)(O:C7 s)(p0:s.phase=0):
  iU st { x with inf:=inf,ln:=st.line }:=by
 obtain⟨a1,a2,a3,a4,a5,a6,a7,a8,a9,wU,wT,a12,uR,qK⟩:=V;obtain⟨_,q2,q3,q4,q5,q6⟩:=O.p0 p0;obtain⟨_,r2,r3,r4,r5,r6⟩:=H.ok.p0 H.p0;rw[q2]at a5 a6 a7 a8;rw[q3]at a9;rw[q4]at wU;rw[q5]at wT;rw[q6]at a12 uR qK;refine⟨by rw[H.met];exact a1,by rw[H.p0,<-p0];exact a2,H.inf,rfl,by rw[r2];exact a5,by rw[r2];exact a6,by rw[r2];exact a7,by rw[r2];exact a8,by rw[r3];exact a9,by rw[r4];exact wU,by rw[r5];exact wT,by rw[r6];exact a12,by rw[r6];exact uR,by rw[r6];exact qK⟩
theorem wW.more{b:List UInt8}(H:wW s x b k q st inf u rem nn g nl nf)(hr:rem=c :: r2)
  (hm:(Ar (st.line++[c])).2.2=10)     (R:Bl jI dJ (st.line++[c])) (hg:g'=g+1) (hn:kT=false):
  wW s x b k q { st with line:=st.line++[c] } inf (u+1) r2 kT g' dJ jI:=by
 have hs:bA st c=({ st with line:=st.line++[c] },0):=by unfold bA;rw[QB H.p0,QB hm]
 have hk:=H.k;have hq:=H.q;rw[hr,Eb,hs,QA (by simp),QA (by simpa using H.p0)]at hk;rw[hr,Zb,QB hm,hs]at hq;refine⟨?_,by rw[hg,hn];exact hq,H.p0,J7 H.ok (by rw[H.p0];decide) hs,H.met,H.inf,?_,R⟩
 .rw[hk]
  exact YF rfl (YF ((by intro d;omega:∀d:Nat,u+(d+1)=u+1+d) _) rfl)
 .have:=H.rem
  rw[hr]at this;rw[<-ZA,<-this];rfl
theorem wW.info{b:List UInt8}(H:wW s x b k q st inf u rem nn g nl nf)(hr:rem=c :: r2)
  (h0:(Ar (st.line++[c])).2.2=0) (h1:(Ar (st.line++[c])).1.status<200) (h2:(Ar (st.line++[c])).1.status≠101) (h3:¬10<st.infos+1)     (R:Bl jI dJ []) (hg:g'=g+3) (hn:kT=true):
  wW s x b k q { st with line:=[],infos:=st.infos+1 } (inf+1) (u+1) r2 kT g' dJ jI:=by
 have hs:bA st c=({ st with line:=[],infos:=st.infos+1 },0):=by unfold bA;rw[QB H.p0,QA (by rw[h0];decide),QA (by simpa using h0),QA h2,QA (by omega),QA h3]
 have hk:=H.k;have hq:=H.q;rw[hr,Eb,hs,QA (by simp),QA (by simpa using H.p0)]at hk;rw[hr,Zb,QA (by rw[h0];decide),hs,QA (by simpa using H.p0)]at hq;refine⟨?_,by rw[hg,hn];exact hq,H.p0,J7 H.ok (by rw[H.p0];decide) hs,H.met,by show inf+1=st.infos+1;rw[H.inf],?_,R⟩
 .rw[hk]
  exact YF rfl (YF ((by intro d;omega:∀d:Nat,u+(d+1)=u+1+d) _) rfl)
 .have:=H.rem
  rw[hr]at this;rw[<-ZA,<-this];rfl
theorem wW.err{b:List UInt8}(H:wW s x b k q st inf u rem nn g nl nf)(hr:rem=c :: r2){e:Int}
  (he:(bA st c).2=e) (h:e≠0):k.2.2=e:=by
 rw[H.k,hr,Eb,QB (by rw[he];exact h)];exact he
theorem wW.last{b:List UInt8}(H:wW s x b k q st inf u rem nn g nl nf)(hr:rem=c :: r2)
  (h0:(Ar (st.line++[c])).2.2=0) (h2:(Ar (st.line++[c])).1.status≠101) (h1:200<=(Ar (st.line++[c])).1.status) (hf:(Av st.method (Ar (st.line++[c])).1).2.2=0):
  k=((B8 st (Ar (st.line++[c])).1).1,u+1,0)/\q=(true,g+3)/\(B8 st (Ar (st.line++[c])).1).1.phase≠0/\b.drop (u+1)=r2:=by
 have hs:bA st c=B8 st (Ar (st.line++[c])).1:=by unfold bA;rw[QB H.p0,QA (by rw[h0];decide),QA (by simpa using h0),QA h2,QB h1]
 have hp:(B8 st (Ar (st.line++[c])).1).1.phase≠0:=by
  unfold B8;rw[QA (by simpa using hf)];show (if _ then (2:Int) else 1)≠0
  split<;>decide
 have h02:(B8 st (Ar (st.line++[c])).1).2=0:=by unfold B8;rw[QA (by simpa using hf)]
 have hk:=H.k;have hq:=H.q;rw[hr,Eb,hs,QA (by rw[h02];simp),QB hp]at hk;rw[hr,Zb,QA (by rw[h0];decide),hs,QB hp]at hq;refine⟨hk,hq,hp,?_⟩;have:=H.rem;rw[hr]at this;rw[<-ZA,<-this];rfl
def hdO(s:Rs)(b:List UInt8)(k:Rs×Nat×Int)(q:Bool×Int)(x:bN)(BK:Bool)(m:Nat)(vs:List (Option SV))(hp:List Hl):Prop :=
 ∃(st:Rs) (inf:Int) (u:Nat) (rem:List UInt8) (n:Int) (f:Nat->List SV) (nn:Bool) (nl g:Int) (nf:Nat->List SV),vs=[some (.ptr 0 0)]/\hp=[.aG 125 (Kb { x with inf:=inf,ln:=[] } BK n f nn nl g),.vec 5 (.a nl) (.a g) 1 nf,.gone]/\
  Bl f n rem/\wW s x b k q st inf u rem nn g nl nf/\m=rem.length
def hdI(s:Rs)(b:List UInt8)(k:Rs×Nat×Int)(q:Bool×Int)(x:bN)(BK:Bool)(rem:List UInt8)(n:Int)(f:Nat->List SV)(m:Nat)(vs:List (Option SV))(hp:List Hl):Prop :=
 ∃(st:Rs) (inf:Int) (u:Nat) (i:Nat) (I:Int) (nn:Bool) (nl g:Int) (nf:Nat->List SV),vs=[some (.ptr 0 0),some (.sl (.a BK) (.a n) 1 f),some (.int .i64 (.a n)),some (.int .i64 (.a I))]/\hp=[.aG 125 (Kb { x with inf:=inf,ln:=[] } BK n f nn nl g),.vec 5 (.a nl) (.a g) 1 nf,.gone]/\
  AtR rem i I m/\wW s x b k q st inf u (rem.drop i) nn g nl nf
theorem nz{x0:bN}{hd:qL}{mi se:Int}{re:List UInt8}{hb:Bool}{hn:Int}{hf:Nat->List SV}{a b p:Int}(V:iU st { x0 with inf:=inf,ln:=st.line })(h:(a,b,0)=Av st.method hd)(W:oq hd mi se hn hf)(hr:re=hd.reason)(hp:p=EH a b):
  iU (B8 st hd).1 { x0 with inf:=inf,ln:=[],ph:=p,mi:=mi,st:=se,re:=re,fb:=hb,fl:=hn,ff:=hf,fr:=a,lf:=b }:=by
 obtain⟨a1,a2,a3,a4,a5,a6,a7,a8,a9,wU,wT,a12,uR,qK⟩:=V;unfold B8;rw[<-h,QA (by simp)];exact⟨a1,hp,a3,rfl,W.CI,W.za,hr,W.row,rfl,wU,rfl,a12,uR,qK⟩
theorem Aeg{b:List UInt8}(h:(Ar b).2.2≠0):(Ar b).1=lZ:=by
 unfold Ar at h ⊢
 split
 .rfl
 split
 .rfl
 split
 .rfl
 .rename_i g1 g2 g3
  rw[QA g1,QA g2,QA g3]at h;exact absurd rfl h
theorem Amd:Ap Tryz.prog gl 76 rE:=by
 refine Bq (gh:=[(999983,[]),(1,[.qX 0 17 1]),(12,[.oI 0 17 1])]) mixed Ee (Al (Xy Agy) (Al Ajq Ae)) Tryz.func76 (by kernel_rfl) (by kernel_rfl) ?_;intro xs ls K h;unfold rE at h;obtain⟨s,x,b,nb,n,f,nn,nl,g,nf,rfl,rfl,V,O,p0,hm,R,hb,iB,h⟩:=h;obtain⟨k,hk⟩:∃k,k=Eb s b:=⟨_,rfl⟩;obtain⟨q,hq⟩:∃q,q=Zb s false (g+1) b:=⟨_,rfl⟩;have h2:=h k q hk hq;clear h;have aI:k.2.2=0->C7 k.1:=λe=>by rw[hk]at e ⊢;exact ((MF b s p0).2 e).ok O
 obtain⟨L,kO,nS,hK⟩:∃L,(k.2.2≠0->L=[.gone,.gone])/\(k.2.2=0->∃y n' f' dJ jI,L=[.aG 125 (Kb y (if k.1.phase=0 then true else nb) n' f' q.1 dJ q.2),.vec 5 (.a dJ) (.a q.2) 1 jI]/\iU k.1 y/\oT s k.1 y x/\Bl f' n' (b.drop k.2.1)/\Bl jI dJ k.1.line)/\K (.int .i64 (.a k.2.2)) L:=by
  by_cases e0:k.2.2=0
  .obtain⟨fl,ff,ct,ctf,r1,r2⟩:=Af5 (aI e0)
   have W:=pg (fb:=if k.1.phase≠0/\s.phase=0 then k.1.head.fields.isEmpty else x.fb) (cb:=jS s.chunks k.1.chunks x.cb) r1 r2;refine⟨_,λh=>absurd e0 h,λ_=>⟨_,_,_,_,_,rfl,W,⟨rfl,rfl⟩,Ml _,Ml _⟩,?_⟩;rw[e0];exact h2.2 e0 _ _ _ _ _ _ W ⟨rfl,rfl⟩ rfl (Ml _) (Ml _)
  .exact⟨_,λ_=>rfl,λh=>absurd h e0,h2.1 e0⟩
 obtain⟨E,hE⟩:∃E,E=k.2.2:=⟨_,rfl⟩;rw[<-hE]at hK;have gD:x.ln=s.line:=V.ln;have jD:s.line.length<=8500:=G8 (O.p0 p0).1;have LD:eU x.ln.length 8500:=⟨by rw[gD];exact jD⟩;have HB:eU b.length 1000000:=⟨hb⟩;have VN:VI n b.length:=⟨R.n⟩;refine⟨_,_,hK,λD hD=>?_⟩;clear hK h2 aI jD hb;obtain⟨x0,pZ⟩:∃x0,x0=x:=⟨_,rfl⟩;obtain⟨m,ph,inf,ln,mi,st,re,fb,fl,ff,fr,bo,lf,cp,cl,cd,cf,cb,ct,ctf⟩:=x;simp only at gD LD;cbv;refine⟨⟨by have:=LD.h;omega⟩,λf3 eN=>?_⟩;cbv;have R3:Bl f3 ln.length ln:=⟨rfl,λi _=>by rw[eN.h];rfl⟩;clear eN;refine⟨⟨rfl⟩,λg4 gS=>?_⟩;cbv;have EG:oH g4 (g+1):=⟨by subst hD;exact gS.h⟩;clear gS;obtain⟨J,hJ⟩:∃J,J=hdO s b k q x0 nb:=⟨_,rfl⟩;refine⟨[0],J,⟨rfl,b.length,?_⟩,?_⟩
 .rw[hJ]
  subst hD pZ;refine⟨s,_,0,b,_,f,_,_,_,f3,rfl,rfl,R,⟨?_,?_,p0,O,rfl,V.inf,(ZY (l:=b)).symm,?_⟩,rfl⟩
  .rw[hk,XE]
  .rw[hq];show _=Zb s false g4 b;rw[EG.h]
  .have e:ln=s.line:=V.ln
   rw[<-e];exact R3
 clear R3 EG;intro m3 vs hp hv;rw[hJ]at hv;obtain⟨st1,aJ7,u1,rem,n2,f2,nn1,nl1,g1,PW,rfl,rfl,R2,H1,mQ⟩:=hv;cbv;have HR:eU rem.length 1000000:=⟨by rw[H1.rem,QY];have:=HB.h;omega⟩;obtain⟨J2,wQ⟩:∃J2,J2=hdI s b k q x0 nb rem n2 f2:=⟨_,rfl⟩;refine⟨[0,24,25,26],J2,⟨rfl,rem.length,?_⟩,?_⟩
 .rw[wQ]
  subst hD;refine⟨st1,_,u1,0,_,_,_,_,PW,rfl,rfl,AtR.zero (by have:=HR.h;omega),?_⟩;rw[ZY];exact H1
 clear H1;intro m4 vs4 hp4 hv;rw[wQ]at hv;obtain⟨st,inf,u,i,I,nn,nl,g,nf,rfl,rfl,A,H⟩:=hv;cbv;refine br hD (λeB=>?_) (λeB=>?_)<;>cbv
 .have eB:decide (I<n2)=true:=by subst hD;exact eB
  have aC:=A.lt R2.n (QT eB);clear eB;have e1:=R2.f i aC;have pL:=drop_at aC;obtain⟨c,hc⟩:∃c,c=rem.getD i 0:=⟨_,rfl⟩;rw[<-hc]at e1 pL;refine⟨A.fS hD R2.n aC,λj hj=>?_⟩;cbv;obtain rfl:=A.j hD hj;clear hj;rw[e1];cbv;have nL:=(H.ok.p0 H.p0).1;have jD:=G8 nL;have HL:eU st.line.length 8500:=⟨jD⟩;have VL:VI nl st.line.length:=⟨H.li.n⟩;obtain⟨T,hT⟩:∃T,T=st.line++[c]:=⟨_,rfl⟩;have IS:T.length=st.line.length+1:=by rw[hT,QF];rfl
  have HT:AN T.length (st.line.length+1):=⟨IS⟩;have eQ:c≠10->T.length<=301->(Ar T).2.2=10:=λh1 h2=>by rw[hT];exact Ai7 h1 (by omega) nL
  obtain⟨hdT,xy⟩:∃hdT,hdT=Ar T:=⟨_,rfl⟩;rw[<-xy]at eQ;clear nL jD IS;intro f3 eN;cbv;refine⟨by subst hD;exact⟨rfl,by show (nl+1) * 1<=_;rw[VL.h];have:=HL.h;omega,by show nl+1<=_;rw[VL.h];have:=HL.h;omega⟩,by subst hD;exact⟨rfl⟩,λf4 n4 hm g4 gS=>?_⟩;cbv;have mS:f3 0=[.int .u8 (.a (c.toNat:Int))]:=by rw[eN.h 0 _ rfl];subst hD;rfl
  have R4:Bl f4 n4 T:=by rw[hT];exact H.li.more (g:=f3) (u:=[c]) rfl (jG mS) (by subst hD;exact hm)
  have EG:oH g4 (g+1):=⟨by subst hD;exact gS.h⟩;clear hm eN gS mS;have pD:=A.step hD aC;refine br hD (λhb=>?_) (λhb=>?_)<;>cbv
  .have hb:(((c.toNat:Int) != 10)&&decide (n4<=301))=true:=by subst hD;exact hb
   rw[QE,bne_iff_ne,QJ]at hb;have jN:(Ar T).2.2=10:=by rw[<-xy];exact eQ (λh=>hb.1 (by rw[h];rfl)) (by have:=R4.n;omega)
   refine⟨_,pD.1,?_⟩;rw[wQ];rw[hT]at jN R4;subst hD;exact⟨_,inf,u+1,j+1,_,_,_,_,f4,rfl,rfl,pD.2,H.more pL jN R4 EG.h (ZM _)⟩
  clear hb eQ;have HT2:eU T.length 1000000:=⟨by have:=HT.h;have:=HL.h;omega⟩;refine⟨_,_,_,_,_,_,_,f4,rfl,rfl,rfl,rfl,T,_,_,f4,rfl,rfl,by subst hD;exact R4,HT2.h,λhd u5 e5 mi5 BF re5 f5 n5 b5 xH V5=>?_⟩;have aY:e5≠0->b5=true:=λh=>by
   have h1:(Ar T).1=lZ:=Aeg (by rw[<-xH];exact h);rw[<-xH]at h1;have h1:hd=lZ:=h1;have:=V5.g.nl;rw[h1]at this;exact this
  by_cases jN:e5=10
  .refine .inl ⟨vn (aY (by rw[jN];decide)),?_⟩
   cbv;refine br hD (λhb=>?_) (λhb=>?_)<;>cbv
   .have jN:(Ar T).2.2=10:=by rw[<-xH];exact jN
    refine⟨_,pD.1,?_⟩;rw[wQ];rw[hT]at jN R4;subst hD;exact⟨_,inf,u+1,j+1,_,_,_,_,f4,rfl,rfl,pD.2,H.more pL jN R4 EG.h (ZM _)⟩
   .exfalso
    have hb:(e5==10)=false:=by subst hD;exact hb
    rw[jN]at hb;cases hb
  refine .inr ⟨rfl,λg6 IB=>?_⟩;cbv;have EG6:oH g6 (g+2):=⟨by
   have:=EG.h;have h6:g6=g4+1:=by subst hD;exact IB.h
   omega⟩
  clear IB;refine br hD (λhb=>?_) (λhb=>?_)<;>cbv
  .exfalso
   have hb:(e5==10)=true:=by subst hD;exact hb
   exact jN (eq_of_beq hb)
  clear hb;refine br hD (λhb=>?_) (λhb=>?_)<;>cbv
  .have hb:(e5 != 0)=true:=by subst hD;exact hb
   have h0:e5≠0:=by simpa using hb
   have hs:(bA st c).2=e5:=by
    unfold bA;rw[QB H.p0,<-hT,<-xH,QA jN,QB h0]
   have fI:=H.err pL hs h0;rw[kO (by rw[fI];exact h0)];subst hD;exact Kl (by exact (hE.trans fI).symm)
  have h0:e5=0:=by
   have hb:(e5 != 0)=false:=by subst hD;exact hb
   simpa using hb
  clear hb;have hI1:IntKind.i64.wrap (I+1)=((j+1:Nat):Int):=by
   have h1:=A.I;have h2:=HR.h;rw[wrap64 (by omega) (by omega)];omega
  have EI:oH (IntKind.i64.wrap (I+1)) ((j+1:Nat):Int):=⟨hI1⟩;have VR2:VI n2 rem.length:=⟨R2.n⟩;have HJ:eU (j+1) rem.length:=⟨aC⟩;clear hI1;refine⟨by subst hD;exact⟨by show (0:Int)<=IntKind.i64.wrap (I+1);rw[EI.h];omega,by show IntKind.i64.wrap (I+1)<=n2;rw[EI.h,VR2.h];have:=HJ.h;omega,ZC _⟩,λf7 n7 cT=>?_⟩;cbv;have R7:Bl f7 n7 (rem.drop (j+1)):=by
   have:=R2.sub (a:=j+1) (b:=rem.length) cT (by subst hD;exact EI.h) (by subst hD;exact VR2.h) HJ.h (QH _);have e:(rem.drop (j+1)).take (rem.length-(j+1))=rem.drop (j+1):=XI (by rw[QY];exact QH _)
   rwa [e]at this
  clear cT;intro g8 hg8;cbv;have EG8:g8=g+3:=by
   have:=EG6.h;have h6:g8=g6+1:=by subst hD;exact hg8.h
   omega
  clear hg8;have R0:Bl (λ_=>[]) 0 []:=⟨rfl,λi hi=>by cases hi⟩;have l7:(Ar (st.line++[c])).2.2=0:=by rw[<-hT,<-xH];exact h0
  have yA:(Ar (st.line++[c])).1=hd:=by rw[<-hT,<-xH]
  have wo:BF=hd.status:=V5.za;refine br hD (λhb=>?_) (λhb=>?_)<;>cbv
  .have hb:(BF==101)=true:=by subst hD;exact hb
   have hb:=eq_of_beq hb;have hs:(bA st c).2=6:=by
    unfold bA;rw[QB H.p0,QA (by rw[l7];decide),QA (by simpa using l7),QB (by rw[yA,<-wo,hb])]
   have fI:=H.err pL hs (by decide);rw[kO (by rw[fI];decide)];subst hD;exact Kl (by exact (hE.trans fI).symm)
  have ml:hd.status≠101:=by
   have hb:(BF==101)=false:=by subst hD;exact hb
   rw[<-wo];simpa using hb
  clear hb;refine br hD (λhb=>?_) (λhb=>?_)<;>cbv
  .have hb:decide (200<=BF)=true:=by subst hD;exact hb
   have eX:200<=hd.status:=by rw[<-wo];exact QT hb
   have xm:st.method=x0.m:=by rw[H.met];exact V.m.symm.trans (by rw[pZ])
   have hmx:x0.m.length<=9223372036854775807:=by rw[<-xm,H.met];exact hm
   refine⟨bN.nm D { x0 with inf:=inf,ln:=[] },D.b (.a nb),D.i (.a n7),f7,D.b (.l true),D.i (.l 0),D.i (.a g8),_,hd,D.i (.a mi5),D.i (.a BF),re5,D.b (.a b5),D.i (.a n5),f5,rfl,rfl,⟨by subst hD;exact V5.CI,by subst hD;exact V5.za,by subst hD;exact V5.g.row⟩,hmx,λka kb ke cE=>⟨λaY=>?_,λhe p hp=>?_⟩⟩<;>cbv
   .have hs:(bA st c).2=ke:=by
     unfold bA;rw[QB H.p0,QA (by rw[l7];decide),QA (by simpa using l7),QA (by rw[yA];exact ml),QB (by rw[yA];exact eX),yA];unfold B8;have cE:(ka,kb,ke)=Av st.method hd:=by rw[xm];exact cE
     rw[<-cE,QB aY]
    have fI:=H.err pL hs aY;rw[kO (by rw[fI];exact aY)];subst hD;exact Kl (by exact (hE.trans fI).symm)
   .have cE:(ka,kb,0)=Av st.method hd:=by rw[xm,<-he];exact cE
    obtain⟨l1,l2,l3,l4⟩:=H.last pL l7 (by rw[yA];exact ml) (by rw[yA];exact eX) (by rw[yA,<-cE]);rw[yA]at l1 l3;have fG:k.2.2=0:=by rw[l1]
    obtain⟨y,n',f',dJ,jI,rfl,W,N,R',ou⟩:=nS fG;have Vst:=H.cells (x:=x0) (by rw[pZ];exact V) O p0;have VB:=nz (hb:=b5) Vst cE ⟨V5.CI,V5.za,V5.g.row⟩ V5.ere hp;have fJ:k.1=(B8 st hd).1:=by rw[l1]
    rw[fJ]at W N ou;have kB:¬k.1.phase=0:=by rw[fJ];exact l3
    have TO:(B8 st hd).1.line=[]:=by unfold B8;rw[<-cE,QA (by simp)]
    have VV:(B8 st hd).1.head=hd:=by unfold B8;rw[<-cE,QA (by simp)]
    have WE:(B8 st hd).1.chunks=st.chunks:=by unfold B8;rw[<-cE,QA (by simp)]
    rw[TO]at ou;have SN:b.drop k.2.1=rem.drop (j+1):=by rw[l1];exact l4
    rw[SN]at R';rw[QA kB,l2];have e1:b5=y.fb:=by
     rw[N.f,QB ⟨l3,p0⟩,VV];exact V5.g.nl
    have e2:x0.cb=y.cb:=by
     rw[N.c,WE,pZ];unfold jS;rw[QA];rintro⟨g1,_⟩;rw[(H.ok.p0 H.p0).2.2.2.2.2]at g1;cases g1
    subst hD;exact⟨Ai (by exact (hE.trans fG).symm),Cn (cI.cons (Ao (Alx VB W e1 e2 R7 R' rfl rfl (by exact ou.n.symm) EG8)) (cI.cons (Ih (by exact ou.n.symm) EG8 λi hi=>by exfalso;exact absurd hi (by show ¬(i:Int)<0;omega)) λ_ _ _ _ h=>h)),QH _⟩
  have eX:hd.status<200:=by
   have hb:decide (200<=BF)=false:=by subst hD;exact hb
   have:=QW hb;omega
  clear hb;have oC:=H.ok.i1;have hi0:=H.ok.i0;have TZ:=H.inf;have hw:IntKind.i64.wrap (inf+1)=inf+1:=wrap64 (by omega) (by omega);have EF:oH (IntKind.i64.wrap (inf+1)) (inf+1):=⟨hw⟩;clear hw;refine br hD (λhb=>?_) (λhb=>?_)<;>cbv
  .have hb:decide (10<IntKind.i64.wrap (inf+1))=true:=by subst hD;exact hb
   rw[EF.h,QJ]at hb;have hs:(bA st c).2=3:=by
    unfold bA;rw[QB H.p0,QA (by rw[l7];decide),QA (by simpa using l7),QA (by rw[yA];exact ml),QA (by rw[yA];omega),QB (by omega)]
   have fI:=H.err pL hs (by decide);rw[kO (by rw[fI];decide)];subst hD;exact Kl (by exact (hE.trans fI).symm)
  .have hb:decide (10<IntKind.i64.wrap (inf+1))=false:=by subst hD;exact hb
   rw[EF.h,QL]at hb;have H2:=H.info pL l7 (by rw[yA];exact eX) (by rw[yA];exact ml) (by omega) R0 EG8 rfl;rw[<-EF.h]at H2;refine⟨(rem.drop (j+1)).length,by rw[QY,mQ];have:=HJ.h;omega,?_⟩;rw[hJ];subst hD;exact⟨_,_,u+1,_,_,f7,_,_,_,_,rfl,rfl,R7,H2,rfl⟩
 .have eB:decide (I<n2)=false:=by subst hD;exact eB
  have hi:=A.eq R2.n (QW eB);clear eB;refine⟨⟨rfl⟩,⟨rfl⟩,by subst hD;exact H.li.byte,λr hr=>?_⟩;cbv;have er:r=st.line:=H.li.str (by subst hD;exact hr);clear hr;have oO:rem.drop i=[]:=by rw[hi,XQ]
  have l1:=H.k;have l2:=H.q;have l3:=H.rem;rw[oO]at l1 l2 l3;have fG:k.2.2=0:=by rw[l1];rfl
  have fJ:k.1=st:=by rw[l1];rfl
  have aZ:k.2.1=u:=by rw[l1];rfl
  obtain⟨y,n',f',dJ,jI,rfl,W,N,R',ou⟩:=nS fG;have Vst:=H.cells (x:=x0) (by rw[pZ];exact V) O p0;rw[fJ]at W N ou;rw[aZ,<-l3]at R';have e1:x0.fb=y.fb:=by
   rw[N.f,QA (λh=>h.1 H.p0),pZ]
  have e2:x0.cb=y.cb:=by
   rw[N.c,pZ];unfold jS;rw[QA];rintro⟨g1,_⟩;rw[(H.ok.p0 H.p0).2.2.2.2.2]at g1;cases g1
  have ej:k.1.phase=0:=by rw[fJ];exact H.p0
  have l2:q=(nn,g):=l2;have R0:Bl (λ_=>[]) 0 []:=⟨rfl,λi hi=>by cases hi⟩;have jD:nl=dJ:=H.li.n.trans ou.n.symm;have hlr:∀i:Nat,(i:Int)<nl->nf i=jI i:=λi hi=>by
   have h1:=H.li.n;rw[H.li.f i (by omega),ou.f i (by omega)]
  rw[QB ej,l2];subst hD er;exact⟨Ai (by exact (hE.trans fG).symm),Cn (cI.cons (Ao (Alx Vst W e1 e2 R0 R' rfl rfl jD rfl)) (cI.cons (Ih (by exact jD) rfl (by exact hlr)) λ_ _ _ _ h=>h)),QH _⟩
set_option maxHeartbeats 400000
structure Ms where
 jH:Rq
 out:List UInt8
 aS:Int
 inn:Rs
 aW:Int
 cQ:Int
 phase:Int
 ended:Bool
 why:Int
structure Me where
 kind:Int
 n:Int
 bytes:List UInt8
 why:Int
def early(r:Rs):Prop:=r.phase=0/\r.line=[]/\r.infos=0
instance (r:Rs):Decidable (early r):=by unfold early;exact inferInstance
def Cd(r:Rs)(mb:Int):Prop:=(r.body.length:Int)+r.chunks.data.length<=mb/\r.left<=mb-((r.body.length:Int)+r.chunks.data.length)
instance (r:Rs) (mb:Int):Decidable (Cd r mb):=by unfold Cd;exact inferInstance
def Ss(s:Ms):Prop :=
 (s.phase=0/\s.why=0/\s.ended=false/\s.inn.phase≠2)\/(s.phase=1/\s.why=0/\s.inn.phase=2)\/
 (s.phase=2/\(((s.why=10\/s.why=11\/s.why=4\/s.why=5\/s.why=1)/\s.ended=false/\s.inn.phase≠2)\/(s.why=12/\s.ended=false/\(s.inn.phase=2\/s.aS=0))\/
  (s.why=15/\s.ended=true/\early s.inn)\/(s.why=9/\s.ended=true/\¬early s.inn/\s.inn.phase≠2)\/(s.why=8/\s.ended=true/\s.inn.phase≠2)))
instance (s:Ms):Decidable (Ss s):=by unfold Ss;exact inferInstance
structure Pp(s:Ms):Prop where
 enc:Bw s.jH=(s.out,0)
 s0:0<=s.aS
 s1:s.aS<=s.out.length
 h0:64<=s.aW
 h1:s.aW<=65536
 b0:0<=s.cQ
 b1:s.cQ<=65536
 met:s.inn.method=s.jH.method
 rs:C7 s.inn
 line:(s.inn.line.length:Int)<=s.aW
 fit:Cd s.inn s.cQ
 wR:s.aS=0->early s.inn
 right:Ss s
def broken(s:Ms)(w:Int):Ms:={ s with phase:=2,why:=w }
def B9(s:Ms):List UInt8->Ms
 | []=>s
 |c :: b =>
  if s.inn.phase=2 then broken s 12 else
  if s.inn.phase=0/\(s.inn.line.length:Int)=s.aW then broken s 11 else
  if (bA s.inn c).2=6 then broken s 10 else
  if (bA s.inn c).2≠0\/¬Cd (bA s.inn c).1 s.cQ then broken s 11 else
  B9 { s with inn:=(bA s.inn c).1,phase:=if (bA s.inn c).1.phase=2 then 1 else s.phase } b
def Da(s:Ms)(b:List UInt8):Ms:=if b≠[]/\(s.phase=1\/(s.phase=0/\s.aS=0)) then broken s 12 else B9 s b
def U9(r:Rs):Option Rs:=if r.phase=2 then some r else if r.phase=1/\r.aD=3 then some { r with phase:=2 } else none
def Cw(s:Ms):Ms :=
 if s.phase=1 then { s with ended:=true } else
 match U9 s.inn with
 |some r=>{ s with ended:=true,inn:=r,phase:=1 }
 |none=>if early s.inn then broken { s with ended:=true } 15 else broken { s with ended:=true } 9
def Cc(s:Ms)(x:Me):Int :=
 if (x.kind<1\/5<x.kind)\/(x.kind≠1/\x.n≠0)\/(x.kind≠2/\x.bytes≠[])\/(x.kind≠5/\x.why≠0)\/(x.kind=5/\x.why≠4/\x.why≠5/\x.why≠1) then 2 else
 if x.n<0\/(s.out.length:Int)-s.aS<x.n then 7 else
 if s.phase=2\/s.ended=true\/(x.kind=5/\s.phase=1) then 9 else 0
def A4(s:Ms)(x:Me):Ms :=
 if x.kind=1 then { s with aS:=s.aS+x.n } else
 if x.kind=2 then Da s x.bytes else
 if x.kind=3 then Cw s else
 if x.kind=4 then (if s.phase=0 then broken { s with ended:=true } 8 else { s with ended:=true }) else broken s x.why
theorem J8(s:Rs)(c:UInt8):(bA s c).1.method=s.method:=by
 unfold bA
 split
 .split
  .rfl
  split
  .rfl
  split
  .rfl
  split
  .unfold B8;split<;>rfl
  split<;>rfl
 split
 .split<;>rfl
 split
 .rfl
 split<;>rfl
theorem Od(_h:s.phase≠0->s.line=[]):(bA s c).1.line=s.line\/(bA s c).1.line=[]\/(s.phase=0/\(bA s c).1.line=s.line++[c]):=by
 unfold bA
 split
 .rename_i h0
  split
  .exact .inr (.inr ⟨h0,rfl⟩)
  split
  .exact .inl rfl
  split
  .exact .inl rfl
  split
  .unfold B8;split
   .exact .inl rfl
   .exact .inr (.inl rfl)
  split
  .exact .inl rfl
  .exact .inr (.inl rfl)
 split
 .split<;>exact .inl rfl
 split
 .exact .inl rfl
 split<;>exact .inl rfl
theorem Xh:∀(b:List UInt8) (s:Ms),Pp s->(s.phase=0\/s.phase=1)->s.ended=false->(s.aS≠0\/b=[])->Pp (B9 s b)
 | [],s,h,_,_,_=>h
 |c :: b,s,h,hp,he,hs=>by
  have hs:s.aS≠0:=hs.resolve_right (by simp);unfold B9
  split
  .rename_i h2
   exact⟨h.enc,h.s0,h.s1,h.h0,h.h1,h.b0,h.b1,h.met,h.rs,h.line,h.fit,h.wR,.inr (.inr ⟨rfl,.inr (.inl ⟨rfl,he,.inl h2⟩)⟩)⟩
  rename_i h2
  split
  .exact⟨h.enc,h.s0,h.s1,h.h0,h.h1,h.b0,h.b1,h.met,h.rs,h.line,h.fit,h.wR,.inr (.inr ⟨rfl,.inl ⟨.inr (.inl rfl),he,h2⟩⟩)⟩
  rename_i h3
  split
  .exact⟨h.enc,h.s0,h.s1,h.h0,h.h1,h.b0,h.b1,h.met,h.rs,h.line,h.fit,h.wR,.inr (.inr ⟨rfl,.inl ⟨.inl rfl,he,h2⟩⟩)⟩
  split
  .exact⟨h.enc,h.s0,h.s1,h.h0,h.h1,h.b0,h.b1,h.met,h.rs,h.line,h.fit,h.wR,.inr (.inr ⟨rfl,.inl ⟨.inr (.inl rfl),he,h2⟩⟩)⟩
  rename_i h4 h5;simp only[ne_eq,not_or,Decidable.not_not]at h5;have pD:bA s.inn c=((bA s.inn c).1,0):=by rw[<-h5.1]
  have fT:=J7 h.rs h2 pD;have lM:s.phase=0/\s.why=0:=by
   rcases h.right with g|g|g
   .exact⟨g.1,g.2.1⟩
   .exact absurd g.2.2 h2
   .rcases hp with e|e<;>omega
  refine Xh b _ ⟨h.enc,h.s0,h.s1,h.h0,h.h1,h.b0,h.b1,by rw[J8];exact h.met,fT,?_,h5.2,λe=>absurd e hs,?_⟩ (by simp only;split<;>simp[lM.1]) he (.inl hs)
  .have hl:=h.line
   have:=h.h0;rcases Od (s:=s.inn) (c:=c) (λg=>(h.rs.p1 g).1) with g|g|g
   .show ((bA s.inn c).1.line.length:Int)<=s.aW;rw[g];exact hl
   .show ((bA s.inn c).1.line.length:Int)<=s.aW;rw[g];simp;omega
   .show ((bA s.inn c).1.line.length:Int)<=s.aW
    rw[g.2,QF];have:(s.inn.line.length:Int)≠s.aW:=λe=>h3 ⟨g.1,e⟩;simp only[QG,QU];omega
  .by_cases g:(bA s.inn c).1.phase=2
   .exact .inr (.inl ⟨by simp only;rw[QB g],lM.2,g⟩)
   .exact .inl ⟨by simp only;rw[QA g];exact lM.1,lM.2,he,g⟩
theorem Ail{s:Ms}{b:List UInt8}(h:Pp s)(hp:s.phase=0\/s.phase=1)(he:s.ended=false):Pp (Da s b):=by
 unfold Da
 split
 .rename_i g
  refine⟨h.enc,h.s0,h.s1,h.h0,h.h1,h.b0,h.b1,h.met,h.rs,h.line,h.fit,h.wR,.inr (.inr ⟨rfl,.inr (.inl ⟨rfl,he,?_⟩)⟩)⟩;rcases g.2 with e|e
  .left
   rcases h.right with r|r|r
   .omega
   .exact r.2.2
   .omega
  .exact .inr e.2
 .rename_i g
  by_cases hb:b=[]
  .subst hb;exact h
  .by_cases h1:s.phase=1
   .exact absurd ⟨hb,.inl h1⟩ g
   .refine Xh b s h hp he (.inl λe=>g ⟨hb,.inr ⟨by omega,e⟩⟩)
theorem Ag4{r:Rs}(h:C7 r)(he:U9 r=some t):C7 t/\t.phase=2/\t.method=r.method/\t.line=r.line/\t.body=r.body/\t.chunks=r.chunks/\t.left=r.left/\t.infos=r.infos:=by
 unfold U9 at he
 split at he
 .rename_i g;cases he;exact⟨h,g,rfl,rfl,rfl,rfl,rfl,rfl⟩
 split at he
 .rename_i g0 g
  cases he;refine⟨⟨h.tok,h.i0,h.i1,.inr (.inr rfl),λe=>by simp at e,λ_=>h.p1 (by rw[g.1];decide),λ_ e=>?_,λ_ e=>?_,λ_ e=>?_,λ_ _=>h.f3 (by rw[g.1];decide) g.2⟩,rfl,rfl,rfl,rfl,rfl,rfl,rfl⟩
  .have e:r.aD=0:=e;omega
  .have e:r.aD=1:=e;omega
  .have e:r.aD=2:=e;omega
 .cases he
theorem Abo{s:Ms}(h:Pp s)(hp:s.phase=0\/s.phase=1):Pp (Cw s):=by
 unfold Cw
 split
 .rename_i h1
  refine⟨h.enc,h.s0,h.s1,h.h0,h.h1,h.b0,h.b1,h.met,h.rs,h.line,h.fit,h.wR,?_⟩;rcases h.right with g|g|g
  .omega
  .exact .inr (.inl g)
  .omega
 rename_i h1;have lM:s.phase=0/\s.why=0/\s.inn.phase≠2:=by
  rcases h.right with g|g|g
  .exact⟨g.1,g.2.1,g.2.2.2⟩
  .omega
  .omega
 split
 .rename_i r hr
  obtain⟨q1,q2,q3,q4,q5,q6,q7,q8⟩:=Ag4 h.rs hr;refine⟨h.enc,h.s0,h.s1,h.h0,h.h1,h.b0,h.b1,by rw[q3];exact h.met,q1,by show (r.line.length:Int)<=s.aW;rw[q4];exact h.line,?_,λe=>?_,.inr (.inl ⟨rfl,lM.2.1,q2⟩)⟩
  .have:=h.fit
   unfold Cd at this ⊢;simp only;rw[q5,q6,q7];exact this
  .have:=h.wR e
   unfold U9 at hr;rw[QA lM.2.2,QA (by rw[this.1];rintro⟨g,_⟩;cases g)]at hr;cases hr
 .rename_i hr
  split
  .rename_i hE
   exact⟨h.enc,h.s0,h.s1,h.h0,h.h1,h.b0,h.b1,h.met,h.rs,h.line,h.fit,h.wR,.inr (.inr ⟨rfl,.inr (.inr (.inl ⟨rfl,rfl,hE⟩))⟩)⟩
  .rename_i hE
   exact⟨h.enc,h.s0,h.s1,h.h0,h.h1,h.b0,h.b1,h.met,h.rs,h.line,h.fit,h.wR,.inr (.inr ⟨rfl,.inr (.inr (.inr (.inl ⟨rfl,rfl,hE,lM.2.2⟩)))⟩)⟩
theorem Ng{s:Ms}{x:Me}(h:Pp s)(he:Cc s x=0):Pp (A4 s x):=by
 unfold Cc at he
 split at he
 .cases he
 rename_i g1
 split at he
 .cases he
 rename_i g2
 split at he
 .cases he
 rename_i g3;simp only[not_or]at g1 g2 g3;have lh:s.ended=false:=by simpa using g3.2.1
 have hp:s.phase=0\/s.phase=1:=by
  rcases h.right with g|g|g
  .exact .inl g.1
  .exact .inr g.1
  .exact absurd g.1 g3.1
 unfold A4
 split
 .refine⟨h.enc,by show 0<=s.aS+x.n;have:=h.s0;omega,by show s.aS+x.n<=(s.out.length:Int);have:=Int.not_lt.mp g2.2;omega,h.h0,h.h1,h.b0,h.b1,h.met,h.rs,h.line,h.fit,λe=>h.wR (by have:=h.s0;have e:s.aS+x.n=0:=e;omega),?_⟩
  rcases h.right with g|g|g
  .exact .inl g
  .exact .inr (.inl g)
  .exact absurd g.1 g3.1
 split
 .exact Ail h hp lh
 split
 .exact Abo h hp
 split
 .split
  .rename_i h0
   have:s.inn.phase≠2:=by
    rcases h.right with g|g|g
    .exact g.2.2.2
    .omega
    .omega
   exact⟨h.enc,h.s0,h.s1,h.h0,h.h1,h.b0,h.b1,h.met,h.rs,h.line,h.fit,h.wR,.inr (.inr ⟨rfl,.inr (.inr (.inr (.inr ⟨rfl,rfl,this⟩)))⟩)⟩
  .rename_i h0
   refine⟨h.enc,h.s0,h.s1,h.h0,h.h1,h.b0,h.b1,h.met,h.rs,h.line,h.fit,h.wR,?_⟩;rcases h.right with g|g|g
   .exact absurd g.1 h0
   .exact .inr (.inl g)
   .exact absurd g.1 g3.1
 .rename_i k1 k2 k3 k4
  have k5:x.kind=5:=by omega
  have hw:x.why=4\/x.why=5\/x.why=1:=by
   have:=g1.2.2.2.2;rcases Decidable.em (x.why=4) with e|e
   .exact .inl e
   rcases Decidable.em (x.why=5) with e2|e2
   .exact .inr (.inl e2)
   rcases Decidable.em (x.why=1) with e3|e3
   .exact .inr (.inr e3)
   .exact absurd ⟨k5,e,e2,e3⟩ this
  have h1:s.phase≠1:=λe=>g3.2.2 ⟨k5,e⟩;have:s.inn.phase≠2:=by
   rcases h.right with g|g|g
   .exact g.2.2.2
   .exact absurd g.1 h1
   .exact absurd g.1 g3.1
  refine⟨h.enc,h.s0,h.s1,h.h0,h.h1,h.b0,h.b1,h.met,h.rs,h.line,h.fit,h.wR,.inr (.inr ⟨rfl,.inl ⟨?_,lh,this⟩⟩)⟩;rcases hw with e|e|e
  .exact .inr (.inr (.inl e))
  .exact .inr (.inr (.inr (.inl e)))
  .exact .inr (.inr (.inr (.inr e)))
theorem Fc(s:Ms)(c:UInt8)(b:List UInt8):B9 s (c :: b) =
  if s.inn.phase=2 then broken s 12 else
  if s.inn.phase=0/\(s.inn.line.length:Int)=s.aW then broken s 11 else
  if (bA s.inn c).2=6 then broken s 10 else
  if (bA s.inn c).2≠0\/¬Cd (bA s.inn c).1 s.cQ then broken s 11 else
  B9 { s with inn:=(bA s.inn c).1,phase:=if (bA s.inn c).1.phase=2 then 1 else s.phase } b:=rfl
set_option maxHeartbeats 8000000
def vY:aB:=λ_ xs ls K=>∃(s:Rs) (x:bN) (b:List UInt8) (nb:Bool) (n:Int) (f:Nat->List SV),
 xs=[nZ x,.sl (.a nb) (.a n) 1 f]/\ls=[]/\iU s x/\C7 s/\s.method.length<=9223372036854775807/\Bl f n b/\b.length<=1000000/\(nb=true->b=[])/\
 ∀k,k=Ag s b->(k.2.2≠0->K (.aJ [nZ x,.int .i64 (.a 0),.int .i64 (.a k.2.2)]) [])/\
  (k.2.2=0->∀y u,iU k.1 y->oT s k.1 y x->u=(k.2.1:Int)->K (.aJ [nZ y,.int .i64 (.a u),.int .i64 (.a 0)]) [])
def PL(x:bN)(nb:Bool)(n:Int)(f:Nat->List SV)(nn:Bool)(nl g:Int)(h:Nat):List SV :=
 [.str x.m,.int .i64 (.a x.ph),.int .i64 (.a x.inf),.str x.ln,.int .i64 (.a x.mi),.int .i64 (.a x.st),.str x.re,.sl (.a x.fb) (.a x.fl) 2 x.ff,.int .i64 (.a x.fr),.str x.bo,.int .i64 (.a x.lf),
  .int .i64 (.a x.cp),.str x.cl,.str x.cd,.int .i64 (.a x.cf),.sl (.a x.cb) (.a x.ct) 2 x.ctf,.sl (.a nb) (.a n) 1 f,.cP (.a nn) (.a nl) (.a g) h]
def Af7(x:bN):List SV:=[.str x.m,.int .i64 (.a x.ph),.int .i64 (.a x.inf),.str x.ln,.int .i64 (.a x.mi),.int .i64 (.a x.st),.str x.re,.sl (.a x.fb) (.a x.fl) 2 x.ff,.int .i64 (.a x.fr),.str x.bo,.int .i64 (.a x.lf),
  .int .i64 (.a x.cp),.str x.cl,.str x.cd,.int .i64 (.a x.cf),.sl (.a x.cb) (.a x.ct) 2 x.ctf]
structure CY(s:Rs)(x:bN)(b:List UInt8)(st:Rs)(y:bN)(i:Nat)(nb:Bool)(n:Int)(f:Nat->List SV):Prop where
 g:K8 s b st i
 v:iU st y
 nn:oT s st y x
 met:st.method=s.method
 row:Bl f n (b.drop i)
 nl:nb=true->b.drop i=[]
 p0:st.phase=0->s.phase=0
 p2:s.phase=2->st=s
def fdJ(s:Rs)(x:bN)(b:List UInt8)(BK:Bool)(n0:Int)(f0:Nat->List SV)(m:Nat)(vs:List (Option SV))(hp:List Hl):Prop :=
 ∃(st:Rs) (y:bN) (i:Nat) (nb:Bool) (n:Int) (f:Nat->List SV) (nn:Bool) (nl g:Int) (nf:Nat->List SV),vs=[some (.sl (.a BK) (.a n0) 1 f0),some (.ptr 0 0),some (.ptr 1 0),some (.ptr 2 0)]/\
  hp=[.aG 38 (Af7 x),.aG 38 (Af7 (Oc [])),.aG 125 (PL y nb n f nn nl g 3),.vec 5 (.a nl) (.a g) 1 nf]/\CY s x b st y i nb n f/\m=b.length-i
theorem O0:∀(b:List UInt8) (s:Rs),s.phase=0->(Eb s b).1.chunks=s.chunks/\(Eb s b).1.method=s.method
 | [],s,_=>⟨rfl,rfl⟩
 |c :: b,s,h=>by
  have hc:(bA s c).1.chunks=s.chunks:=by
   unfold bA;rw[QB h]
   split
   .rfl
   split
   .rfl
   split
   .rfl
   split
   .unfold B8;split<;>rfl
   .split<;>rfl
  rw[Eb]
  split
  .exact⟨rfl,rfl⟩
  split
  .exact⟨hc,J8 s c⟩
  .rename_i h2
   have:=O0 b (bA s c).1 (by simpa using h2);exact⟨this.1.trans hc,this.2.trans (J8 s c)⟩
theorem Akq{b:List UInt8}(O:C7 s)(k:Rs×Nat×Int)(hk:k=Ag s b)(e0:k.2.2=0):∃y,iU k.1 y/\oT s k.1 y x:=by
 have h2:C7 k.1:=by rw[hk]at e0 ⊢;exact Oe b s O e0
 obtain⟨fl,ff,ct,ctf,r1,r2⟩:=Af5 h2;exact⟨_,pg (fb:=if k.1.phase≠0/\s.phase=0 then k.1.head.fields.isEmpty else x.fb) (cb:=jS s.chunks k.1.chunks x.cb) r1 r2,⟨rfl,rfl⟩⟩
theorem CY.next{b:List UInt8}{j:Nat}(B:CY s x b st y i nb n f)(h2:st.phase≠2)(G:K8 st (b.drop i) t j)(V:iU t y')(N:oT s t y' x)(hm:t.method=st.method)
  (R:Bl f' n' ((b.drop i).drop j)) (hn:nb'=true->(b.drop i).drop j=[]) (h0:t.phase=0->st.phase=0):CY s x b t y' (i+j) nb' n' f' :=
 ⟨B.g.trans G,V,N,hm.trans B.met,by rw[<-ZA];exact R,by rw[<-ZA];exact hn,λh=>B.p0 (h0 h),λh=>absurd (by rw[B.p2 h];exact h) h2⟩
theorem CY.less{b:List UInt8}{j:Nat}(B:CY s x b st y i nb n f)(h:0<n)(hj:1<=j):b.length-(i+j)<b.length-i:=by
 have h1:=B.row.n;rw[QY]at h1;omega
theorem Ali(A:oT s st y x)(N:oT st t y' y)(p:st.phase=0)(p0:s.phase=0)(hc:t.chunks=st.chunks):oT s t y' x:=by
 have h1:=A.f;rw[QA (λh=>h.1 p)]at h1;refine⟨?_,?_⟩
 .rw[N.f,h1]
  by_cases h:t.phase=0
  .rw[QA (λg=>g.1 h),QA (λg=>g.1 h)]
  .rw[QB ⟨h,p⟩,QB ⟨h,p0⟩]
 .rw[N.c,hc,A.c]
  unfold jS;rw[QA (λh=>h.2 h.1)]
theorem Agm(A:oT s st y x)(p:st.phase≠0)(q:t.phase≠0)(hh:t.head=st.head)(hc:t.chunks=st.chunks)(hf:y'.fb=y.fb)(hb:y'.cb=y.cb):oT s t y' x:=by
 refine⟨?_,by rw[hb,A.c,hc]⟩;rw[hf,A.f,hh]
 by_cases h:s.phase=0
 .rw[QB ⟨p,h⟩,QB ⟨q,h⟩]
 .rw[QA (λg=>h g.2),QA (λg=>h g.2)]
theorem Alj(A:oT s st y x)(p:st.phase≠0)(q:t.phase≠0)(hh:t.head=st.head)(h4:s.chunks.phase≠4)(g4:st.chunks.phase≠4)(hf:y'.fb=y.fb)(hb:y'.cb=jS st.chunks t.chunks y.cb):oT s t y' x:=by
 have h1:=A.c;unfold jS at h1;rw[QA (λh=>g4 h.1)]at h1;refine⟨?_,?_⟩
 .rw[hf,A.f,hh]
  by_cases h:s.phase=0
  .rw[QB ⟨p,h⟩,QB ⟨q,h⟩]
  .rw[QA (λg=>h g.2),QA (λg=>h g.2)]
 .rw[hb,h1]
  unfold jS
  by_cases h:t.chunks.phase=4
  .rw[QB ⟨h,g4⟩,QB ⟨h,h4⟩]
  .rw[QA (λg=>h g.1),QA (λg=>h g.1)]
theorem Ac6(O:C7 s)(h:s.phase≠2):s.chunks.phase≠4:=by
 intro h4
 by_cases h0:s.phase=0
 .rw[(O.p0 h0).2.2.2.2.2]at h4;cases h4
 .by_cases h2:s.aD=2
  .exact h ((O.f2 h0 h2).2.2.2 h4)
  .rw[(O.p1 h0).2.2.2.2.2.2.1 h2]at h4;cases h4
theorem mu{u e u' e':ST}(V:iU t y)(V':iU t y')(hf:y.fb=y'.fb)(hc:y.cb=y'.cb)(hu:u.den=u'.den)(he:e.den=e'.den):Fin (.aJ [nZ y,.int .i64 u,.int .i64 e]) (.aJ [nZ y',.int .i64 u',.int .i64 e']) [] [] :=
 C6 (.aJ (.cons (ES V V' hf hc) (.cons (Ai hu) (.cons (Ai he) .nil))))
theorem Zo:Ap Tryz.prog gl 23 vY:=by
 refine Bq (gh:=[(3,[.qY 7 17 5])]) mixed Ee (Ab S6 (Al Amd (Al Ahw (Al Ac7 (Al Afi Ae))))) Tryz.func23 (by kernel_rfl) (by kernel_rfl) ?_;intro xs ls K h;unfold vY at h;obtain⟨s,x,b,nb,n,f,rfl,rfl,V,O,hm,R,hb,iB,h⟩:=h;obtain⟨k,hk⟩:∃k,k=Ag s b:=⟨_,rfl⟩;have h:=h k hk;have aI:=Akq (x:=x) O k hk;obtain⟨r,dB,cO,hK⟩:∃r,(k.2.2≠0->r=.aJ [nZ x,.int .i64 (.a 0),.int .i64 (.a k.2.2)])/\(k.2.2=0->∃y,r=.aJ [nZ y,.int .i64 (.a (k.2.1:Int)),.int .i64 (.a 0)]/\iU k.1 y/\oT s k.1 y x)/\K r []:=by
  by_cases e0:k.2.2=0
  .obtain⟨y,W,N⟩:=aI e0
   exact⟨_,λh=>absurd e0 h,λ_=>⟨y,rfl,W,N⟩,h.2 e0 y _ W N rfl⟩
  .exact⟨_,λ_=>rfl,λh=>absurd h e0,h.1 e0⟩
 have VN:VI n b.length:=⟨R.n⟩;have HB:eU b.length 1000000:=⟨hb⟩;refine⟨_,_,hK,λD hD=>?_⟩;clear hK h aI hb;obtain⟨x0,pZ⟩:∃x0,x0=x:=⟨_,rfl⟩;obtain⟨m,ph,inf,ln,mi,st,re,fb,fl,ff,fr,bo,lf,cp,cl,cd,cf,cb,ct,ctf⟩:=x;unfold nZ;cbv;refine⟨s,bN.nm D ⟨m,ph,inf,ln,mi,st,re,fb,fl,ff,fr,bo,lf,cp,cl,cd,cf,cb,ct,ctf⟩,rfl,rfl,by subst hD;exact V,O,hm,?_⟩;cbv;refine br hD (λhb=>?_) (λhb=>?_)<;>cbv
 .exfalso
  have hb:(!true)=true:=by subst hD;exact hb
  cases hb
 clear hb;obtain⟨J,hJ⟩:∃J,J=fdJ s x0 b nb n f:=⟨_,rfl⟩;refine⟨[1,2,4,7],J,⟨rfl,b.length,?_⟩,?_⟩
 .rw[hJ]
  subst hD pZ;refine⟨s,⟨m,ph,inf,ln,mi,st,re,fb,fl,ff,fr,bo,lf,cp,cl,cd,cf,cb,ct,ctf⟩,0,nb,n,f,_,_,_,_,rfl,rfl,⟨K8.zero b O,V,⟨?_,?_⟩,rfl,R,iB,λh=>h,λ_=>rfl⟩,rfl⟩
  .rw[QA (λh=>h.1 h.2)]
  .unfold jS;rw[QA (λh=>h.2 h.1)]
 intro m3 vs hp hv;rw[hJ]at hv;obtain⟨st,y,i,zU,n1,f1,nn,nl,g,nf,e1,e2,B,mQ⟩:=hv;subst e1;cbv at e2;subst e2;cbv;refine br hD (λhb=>?_) (λhb=>?_)<;>cbv
 .have hb:(decide (0<n1)&&(y.ph != 2))=true:=by subst hD;exact hb
  rw[QE,QJ,bne_iff_ne]at hb;obtain⟨lF,fX⟩:=hb;have fH:y.ph=st.phase:=B.v.ph;have h2:st.phase≠2:=by rw[<-fH];exact fX
  have BY:st.method.length<=9223372036854775807:=by rw[B.met];exact hm
  have OB:eU (b.drop i).length 1000000:=⟨by rw[QY];have:=HB.h;omega⟩;have ki:b.drop i≠[]:=by
   intro e;have:=B.row.n;rw[e]at this;simp at this;omega
  refine br hD (λhb=>?_) (λhb=>?_)<;>cbv
  .have hb:(y.ph==1)=true:=by subst hD;exact hb
   have pF:st.phase=1:=by rw[<-fH];exact eq_of_beq hb
   have kC:=M1 st.method st.head;have hfk:=(B.g.ok.p1 (by omega)).2.2.2.2.2.1;rw[hfk]at kC;have cE:y.fr=st.aD:=B.v.fr;have TE:st.aD≠0:=λh=>h2 (B.g.ok.f0 (by omega) h).1;have jL:y.bo=st.body:=B.v.bo;have lN:y.lf=st.left:=B.v.lf;clear hb hfk;refine⟨⟨by
    have h1:y.fr∈[(1:Int),2,3]:=by
     rw[cE];simp only[XS,YA,or_false];omega
    subst hD;exact h1⟩,λNG=>?_,λsV=>?_,λky=>?_,trivial⟩<;>cbv
   .have fO:st.aD=1:=by
     have h1:D.i (.a y.fr)=st.aD:=by subst hD;exact cE
     rw[<-h1];exact NG.h
    obtain⟨q1,q2⟩:=Af6 B.g.ok pF fO;obtain⟨kk,bC⟩:∃kk:Nat,(kk:Int)=min st.left ((b.drop i).length:Int):=⟨(min st.left ((b.drop i).length:Int)).toNat,by omega⟩;obtain⟨G,fN⟩:=Ae4 B.g.ok pF fO bC;have sJ:y.bo.length<=1000000:=by rw[jL];omega
    have qP:0<=y.lf/\y.lf<=1000000:=by rw[lN];omega
    have aZ:(kk:Int)=min y.lf ((b.drop i).length:Int):=by rw[lN];exact bC
    have EK:oH (kk:Int) (min y.lf ((b.drop i).length:Int)):=⟨aZ⟩;have HL0:LK 0 y.lf 1000000:=⟨qP.1,qP.2⟩;have HBL:eU y.bo.length 1000000:=⟨sJ⟩;clear aZ qP sJ bC q1 q2 NG;refine⟨bN.nm D y,b.drop i,kk,D.b (.a zU),D.i (.a n1),f1,D.b (.a nn),D.i (.a nl),D.i (.a g),nf,rfl,rfl,by subst hD;exact EK.h,by subst hD;exact B.row,OB.h,HBL.h,by subst hD;exact HL0.lo,by subst hD;exact HL0.hi,λeV tE gX n' f' xd yh TQ R'=>?_⟩;cbv;refine br hD (λhb=>?_) (λhb=>?_)<;>cbv
    .exfalso
     have hb:((0:Int) != 0)=true:=by subst hD;exact hb
     cases hb
    clear hb;have ey:=B.next h2 (y':={ y with ph:=eV,bo:=tE,lf:=gX }) (nb':=zU) G ?_ ?_ rfl R' ?_ ?_
    .refine⟨_,by rw[mQ];exact B.less lF (fN ki),?_⟩
     rw[hJ];subst hD;exact⟨_,_,_,zU,n',f',nn,nl,g,nf,rfl,rfl,ey,rfl⟩
    .obtain⟨a1,a2,a3,a4,a5,a6,a7,a8,a9,wU,wT,a12,uR,qK⟩:=B.v
     refine⟨a1,?_,a3,a4,a5,a6,a7,a8,a9,?_,?_,a12,uR,qK⟩
     .subst hD
      have h1:eV=if y.lf-(kk:Int)=0 then 2 else y.ph:=xd
      show eV=if st.left-(kk:Int)=0 then 2 else 1
      rw[h1,lN,fH,pF]
     .show tE=st.body++(b.drop i).take kk
      rw[yh,<-jL];rfl
     .subst hD
      have h1:gX=y.lf-(kk:Int):=TQ;show gX=st.left-(kk:Int);rw[h1,lN]
    .refine Agm B.nn (by omega) ?_ rfl rfl rfl rfl
     show (if st.left-(kk:Int)=0 then (2:Int) else 1)≠0
     split<;>decide
    .exact λh=>by rw[B.nl h];exact List.drop_nil
    .intro h
     exfalso;revert h;show (if st.left-(kk:Int)=0 then (2:Int) else 1)=0->False
     split<;>decide
   .have eS:st.aD=2:=by
     have h1:D.i (.a y.fr)=st.aD:=by subst hD;exact cE
     rw[<-h1];exact sV.h
    obtain⟨c1,c2,c3⟩:=B.g.ok.f2 (by omega) eS;obtain⟨G,kZ⟩:=Ze (b:=b.drop i) B.g.ok pF eS;have h4:st.chunks.phase≠4:=λh=>h2 (c3.2 h);clear sV;refine⟨bN.nm D y,st.chunks,b.drop i,D.b (.a zU),D.i (.a n1),f1,D.b (.a nn),D.i (.a nl),D.i (.a g),nf,rfl,rfl,B.v.cl,B.v.cd,by subst hD;exact B.v.cv,c2,λh=>absurd h h4,by subst hD;exact B.row,OB.h,λk1 fJ=>⟨λaY=>?_,λh0 eV yG yH qV pN gH n' f' W CF xd R'=>?_⟩⟩<;>cbv
    .have fI:k.2.2=k1.2.2:=by rw[hk];exact B.g.err (by rw[fJ];exact kZ (by rw[<-fJ];exact aY))
     obtain⟨e1,sY⟩:∃e1,e1=k1.2.2:=⟨_,rfl⟩;rw[<-sY]at aY fI;refine br hD (λhb=>?_) (λhb=>?_)<;>cbv
     .rw[dB (by rw[fI];exact aY),fI]
      subst hD pZ;exact C6 (.aJ (.cons (aO.refl _) (.cons (Ai rfl) (.cons (Ai (by exact sY.symm)) .nil))))
     .exfalso
      have hb:(k1.2.2 != 0)=false:=by subst hD;exact hb
      rw[<-sY]at hb;exact aY (by simpa using hb)
    .have G:=G (by rw[<-fJ];exact h0)
     rw[<-fJ]at G;refine br hD (λhb=>?_) (λhb=>?_)<;>cbv
     .exfalso
      have hb:((0:Int) != 0)=true:=by subst hD;exact hb
      cases hb
     clear hb;have WH:qV=jS st.chunks k1.1 y.cb:=by subst hD;exact CF
     have SX:eV=if k1.1.phase=4 then 2 else y.ph:=by subst hD;exact xd
     have fN:1<=k1.2.1:=by
      rw[fJ];cases sL:b.drop i with
      |nil=>exact absurd sL ki
      |cons c r =>
       rw[fJ,sL]at h0;rw[Di h4]at h0 ⊢
       by_cases e2:(cJ st.chunks c).2=0
       .rw[QA (by simpa using e2)];exact Nat.succ_le_succ (ZB _)
       .rw[QB e2]at h0;exact absurd h0 e2
     have ey:=B.next h2 (y':={ y with ph:=eV,cp:=yG,cl:=k1.1.line,cd:=k1.1.data,cf:=yH,cb:=qV,ct:=pN,ctf:=gH }) (nb':=zU) G ?_ ?_ rfl R' ?_ ?_
     .refine⟨_,by rw[mQ];exact B.less lF fN,?_⟩
      rw[hJ];subst hD;exact⟨_,_,_,zU,n',f',nn,nl,g,nf,rfl,rfl,ey,rfl⟩
     .obtain⟨a1,a2,a3,a4,a5,a6,a7,a8,a9,wU,wT,a12,uR,qK⟩:=B.v
      refine⟨a1,?_,a3,a4,a5,a6,a7,a8,a9,wU,wT,rfl,rfl,W⟩;show eV=if k1.1.phase=4 then 2 else 1
      rw[SX,fH,pF]
     .refine Alj B.nn (by omega) ?_ rfl (Ac6 O λh=>h2 (by rw[B.p2 h];exact h)) h4 rfl WH
      show (if k1.1.phase=4 then (2:Int) else 1)≠0
      split<;>decide
     .exact λh=>by rw[B.nl h];exact List.drop_nil
     .intro h
      exfalso;revert h;show (if k1.1.phase=4 then (2:Int) else 1)=0->False
      split<;>decide
   .have eN:st.aD=3:=by
     have h1:D.i (.a y.fr)=st.aD:=by subst hD;exact cE
     rw[<-h1];exact ky.h
    have sJ:=B.g.ok.f3 (by omega) eN;obtain⟨G,kZ⟩:=Aci (b:=b.drop i) B.g.ok pF eN;have HBL:eU y.bo.length 65536:=⟨by rw[jL];exact sJ⟩;have HBO:AN y.bo.length st.body.length:=⟨by rw[jL]⟩;clear sJ ky;refine⟨bN.nm D y,b.drop i,D.b (.a zU),D.i (.a n1),f1,D.b (.a nn),D.i (.a nl),D.i (.a g),nf,rfl,rfl,by subst hD;exact B.row,OB.h,by have:=HBL.h;show y.bo.length<=_;omega,λoR=>?_,λeF tE n' f' yh R'=>?_⟩<;>cbv
    .have fI:k.2.2=3:=by rw[hk];exact B.g.err (kZ (by rw[<-HBO.h];exact oR))
     refine br hD (λhb=>?_) (λhb=>?_)<;>cbv
     .rw[dB (by rw[fI];decide),fI]
      subst hD pZ;exact C6 (.aJ (.cons (aO.refl _) (.cons (Ai rfl) (.cons (Ai rfl) .nil))))
     .exfalso
      have hb:((3:Int) != 0)=false:=by subst hD;exact hb
      cases hb
    .have G:=G (by rw[<-HBO.h];exact eF)
     refine br hD (λhb=>?_) (λhb=>?_)<;>cbv
     .exfalso
      have hb:((0:Int) != 0)=true:=by subst hD;exact hb
      cases hb
     clear hb;have ey:=B.next h2 (y':={ y with bo:=tE }) (nb':=zU) G ?_ ?_ rfl (by rw[XQ];exact R') ?_ ?_
     .refine⟨_,by rw[mQ];exact B.less lF (List.length_pos_iff.2 ki),?_⟩
      rw[hJ];subst hD;exact⟨_,_,_,zU,n',f',nn,nl,g,nf,rfl,rfl,ey,rfl⟩
     .obtain⟨a1,a2,a3,a4,a5,a6,a7,a8,a9,wU,wT,a12,uR,qK⟩:=B.v
      refine⟨a1,a2,a3,a4,a5,a6,a7,a8,a9,?_,wT,a12,uR,qK⟩;show tE=st.body++b.drop i;rw[yh,<-jL];rfl
     .exact Agm B.nn (by omega) (by show st.phase≠0;omega) rfl rfl rfl rfl
     .exact λ_=>XQ
     .exact λh=>h
  .have hb:(y.ph==1)=false:=by subst hD;exact hb
   have wI:st.phase=0:=by
    have h1:st.phase≠1:=by rw[<-fH];simpa using hb
    have:=B.g.ok.ph;omega
   clear hb;refine⟨st,bN.nm D y,b.drop i,D.b (.a zU),D.i (.a n1),f1,D.b (.a nn),D.i (.a nl),D.i (.a g),nf,rfl,rfl,by subst hD;exact B.v,B.g.ok,wI,BY,by subst hD;exact B.row,OB.h,by subst hD;exact B.nl,λk1 q1 fJ eQ=>⟨λaY=>?_,λh0 y1 nb' n' f' dJ jI V' N' GZ R' ou=>?_⟩⟩<;>cbv
   .have fI:k.2.2=k1.2.2:=by rw[hk];exact B.g.err (by rw[fJ];exact (MF _ _ wI).1 (by rw[<-fJ];exact aY))
    obtain⟨e1,sY⟩:∃e1,e1=k1.2.2:=⟨_,rfl⟩;rw[<-sY]at aY fI;refine br hD (λhb=>?_) (λhb=>?_)<;>cbv
    .rw[dB (by rw[fI];exact aY),fI]
     subst hD pZ;exact C6 (.aJ (.cons (aO.refl _) (.cons (Ai rfl) (.cons (Ai (by exact sY.symm)) .nil))))
    .exfalso
     have hb:(k1.2.2 != 0)=false:=by subst hD;exact hb
     rw[<-sY]at hb;exact aY (by simpa using hb)
   .have G:=Ae5 B.g.ok wI (by rw[<-fJ];exact h0)
    have hd:=(MF (b.drop i) st wI).2 (by rw[<-fJ];exact h0);have WG:=O0 (b.drop i) st wI;rw[<-fJ]at G hd WG;refine br hD (λhb=>?_) (λhb=>?_)<;>cbv
    .exfalso
     have hb:((0:Int) != 0)=true:=by subst hD;exact hb
     cases hb
    clear hb;have N2:oT st k1.1 y1 y:=by subst hD;exact N'
    have ey:=B.next h2 (y':=y1) (nb':=nb') G V' (Ali B.nn N2 wI (B.p0 wI) WG.1) WG.2 R' ?_ ?_
    .refine⟨_,by rw[mQ];exact B.less lF (hd.one ki),?_⟩
     rw[hJ];subst hD;exact⟨_,_,_,nb',n',f',_,dJ,_,jI,rfl,rfl,ey,rfl⟩
    .intro h
     by_cases h7:k1.1.phase=0
     .rw[hd.all h7,XQ]
     .rw[QA h7]at GZ
      have uA:nb'=zU:=by subst hD;exact GZ
      rw[B.nl (by rw[<-uA];exact h)];exact List.drop_nil
    .exact λ_=>wI
 .have hb:(decide (0<n1)&&(y.ph != 2))=false:=by subst hD;exact hb
  have fH:y.ph=st.phase:=B.v.ph;have aI:=B.row.n;have ca:Ag s b=(st,i,0):=B.g.fin (by
   rw[ZI,QL,bne_eq_false_iff_eq]at hb;rcases hb with h|h
   .right
    exact XN (by omega)
   .left;rw[<-fH];exact h)
  rw[<-hk]at ca;obtain⟨y2,rfl,W,N⟩:=cO (by rw[ca]);rw[ca]at W N ⊢;have e1:y.fb=y2.fb:=by rw[B.nn.f,pZ];exact N.f.symm
  have e2:y.cb=y2.cb:=by rw[B.nn.c,pZ];exact N.c.symm
  have hu:IntKind.i64.wrap (n-n1)=(i:Int):=by
   have h1:=VN.h;have h3:=B.g.le;have h4:=HB.h;rw[QY]at aI;rw[h1,aI,wrap64 (by omega) (by omega)];omega
  subst hD;exact mu B.v W e1 e2 (by exact hu) rfl
set_option maxHeartbeats 400000
def Bp(s:Ms)(r:Rs):Ms:={ s with inn:=r,phase:=if r.phase=2 then 1 else s.phase }
def Fb(s:Ms)(c:UInt8):Ms :=
 if s.inn.phase=0/\s.aW<=(s.inn.line.length:Int) then broken s 11 else
 if (Ag s.inn [c]).2.2=6 then broken s 10 else
 if (Ag s.inn [c]).2.2≠0\/¬Cd (Ag s.inn [c]).1 s.cQ then broken s 11 else Bp s (Ag s.inn [c]).1
def Bx(s:Ms):List UInt8->Ms
 | []=>s
 |c :: b=>if s.phase≠0 then s else Bx (Fb s c) b
theorem EA(h:s.phase≠2):(Ag s [c]).2.2=(bA s c).2/\((bA s c).2=0->(Ag s [c]).1=(bA s c).1):=by
 unfold Ag;rw[QA h]
 by_cases g:(bA s c).2=0
 .rw[QA (by simpa using g)]
  exact⟨by simp[Ag,g],λ_=>rfl⟩
 .rw[QB g]
  exact⟨rfl,λe=>absurd e g⟩
theorem Alo{s:Ms}(h:s.inn.phase≠2)(hl:(s.inn.line.length:Int)<=s.aW):B9 s [c]=Fb s c:=by
 obtain⟨q1,q2⟩:=EA (c:=c) h;rw[Fc,QA h];unfold Fb
 by_cases g:s.inn.phase=0/\(s.inn.line.length:Int)=s.aW
 .rw[QB g,QB ⟨g.1,by omega⟩]
 rw[QA g,QA (c:=s.inn.phase=0/\s.aW<=_) (λe=>g ⟨e.1,by omega⟩),q1]
 by_cases g2:(bA s.inn c).2=6
 .rw[QB g2,QB g2]
 rw[QA g2,QA g2]
 by_cases g3:(bA s.inn c).2=0
 .rw[q2 g3];rfl
 .rw[QB (.inl g3),QB (.inl g3)]
theorem Am0(s:Ch)(c:UInt8):s.data.length<=(cJ s c).1.data.length:=by
 unfold cJ
 split
 .split
  .split
   .exact QH _
   .split<;>exact QH _
  .split<;>exact QH _
 split
 .show _<=(s.data++[c]).length;simp
 split
 .split
  .exact QH _
  .split<;>exact QH _
 .split
  .exact QH _
  split
  .exact QH _
  split
  .exact QH _
  split
  .exact QH _
  .exact QH _
theorem gz{m:Int}(h:C7 s)(hf:Cd (bA s c).1 m):Cd s m:=by
 by_cases h0:s.phase=0
 .obtain⟨_,_,_,p4,p5,p6⟩:=h.p0 h0
  have:0<=m:=by unfold Cd at hf;have:=hf.1;omega
  unfold Cd;rw[p4,p5,p6];simp[uP];omega
 obtain⟨_,_,_,_,_,_,_,p8⟩:=h.p1 h0;unfold bA at hf;rw[QA h0]at hf
 split at hf
 .rename_i f2
  split at hf
  .exact hf
  .have:=Am0 s.chunks c
   have hl:=p8 (by rw[f2];decide);unfold Cd at hf ⊢;simp only at hf;omega
 split at hf
 .exact hf
 split at hf
 .unfold Cd at hf ⊢
  simp only[QF,QG,QU]at hf;omega
 .unfold Cd at hf ⊢
  simp only[QF,QG,QU]at hf;omega
theorem gx(l:List UInt8):∀(s:Rs) (m:Int),C7 s->(Ag s l).2.2=0->Cd (Ag s l).1 m->Cd s m:=by
 induction l with
 |nil=>intro s m _ _ h;exact h
 |cons c l ih =>
  intro s m hs he hf;unfold Ag at he hf
  by_cases h2:s.phase=2
  .rw[QB h2]at hf;exact hf
  rw[QA h2]at he hf
  by_cases h3:(bA s c).2=0
  .rw[QA (by simpa using h3)]at he hf
   exact gz hs (ih _ m (J7 hs h2 (by rw[<-h3])) he hf)
  .rw[QB h3]at he;exact absurd he h3
theorem uz(h:s.phase=1):(bA s c).1.phase=1\/(bA s c).1.phase=2:=by
 unfold bA;rw[QA (by omega)]
 split
 .split
  .exact .inl h
  .by_cases e:(cJ s.chunks c).1.phase=4<;>simp[e,h]
 split
 .exact .inl h
 split
 .by_cases e:s.left-1=0<;>simp[e,h]
 .exact .inl h
structure Pq(s:Ms)(l:List UInt8):Prop where
 p:s.phase=0
 i:s.inn.phase≠2
 ok:C7 s.inn
 fit:Cd s.inn s.cQ
 room:s.inn.phase=0->(s.inn.line.length:Int)+l.length<=s.aW
theorem Pq.next{s:Ms}(h:Pq s (c :: l))(h0:(bA s.inn c).2=0)(hf:Cd (bA s.inn c).1 s.cQ)(h2:(bA s.inn c).1.phase≠2):Pq (Bp s (bA s.inn c).1) l:=by
 refine⟨by unfold Bp;simp only[QA h2];exact h.p,h2,J7 (c:=c) h.ok h.i (show bA s.inn c=((bA s.inn c).1,0) by rw[<-h0]),hf,λe=>?_⟩;show ((bA s.inn c).1.line.length:Int)+l.length<=s.aW;have h1:s.inn.phase=0:=by
  rcases h.ok.ph with g|g|g
  .exact g
  .have e:(bA s.inn c).1.phase=0:=e
   rcases uz (c:=c) g with q|q<;>omega
  .exact absurd g h.i
 have:=h.room h1;simp only[QG]at this;rcases Od (s:=s.inn) (c:=c) (λg=>(h.ok.p1 g).1) with g|g|g
 .rw[g];omega
 .rw[g];simp;omega
 .rw[g.2,QF];simp only[QG,QU];omega
theorem Pq.step{s:Ms}{u:List UInt8}(h:Pq s (c :: l)):B9 s (c :: u) =
  if (bA s.inn c).2=6 then broken s 10 else if (bA s.inn c).2≠0\/¬Cd (bA s.inn c).1 s.cQ then broken s 11 else B9 (Bp s (bA s.inn c).1) u:=by
 rw[Fc,QA h.i,QA]
 .rfl
 .rintro⟨g,e⟩
  have:=h.room g;simp only[QG]at this;omega
theorem Yc:∀(l u:List UInt8) (s:Ms),Pq s l->(Ag s.inn l).2.2=0->Cd (Ag s.inn l).1 s.cQ->B9 s (l++u)=B9 (Bp s (Ag s.inn l).1) (l.drop (Ag s.inn l).2.1++u)
 | [],u,s,h,_,_=>by
  show B9 s u=B9 (Bp s s.inn) u;have:Bp s s.inn=s:=by unfold Bp;rw[QA h.i]
  rw[this]
 |c :: l,u,s,h,he,hf=>by
  have hr:Ag s.inn (c :: l)=if s.inn.phase=2 then (s.inn,0,0) else if (bA s.inn c).2≠0 then (s.inn,0,(bA s.inn c).2) else ((Ag (bA s.inn c).1 l).1,(Ag (bA s.inn c).1 l).2.1+1,(Ag (bA s.inn c).1 l).2.2):=rfl
  rw[QA h.i]at hr
  by_cases h0:(bA s.inn c).2=0
  case neg=>rw[QB h0]at hr;rw[hr]at he;exact absurd he h0
  rw[QA (by simpa using h0)]at hr;rw[hr]at he hf ⊢;simp only at he hf;have fT:=J7 h.ok h.i (show bA s.inn c=((bA s.inn c).1,0) by rw[<-h0]);have fO:=gx l _ _ fT he hf;rw[UM,h.step,QA (by omega),QA (by simp[h0,fO])];show _=B9 (Bp s (Ag (bA s.inn c).1 l).1) (l.drop (Ag (bA s.inn c).1 l).2.1++u)
  by_cases h2:(bA s.inn c).1.phase=2
  .have:Ag (bA s.inn c).1 l=((bA s.inn c).1,0,0):=by
    cases l with
    |nil=>rfl
    |cons d l=>unfold Ag;rw[QB h2]
   rw[this];rfl
  .have hn:=h.next h0 fO h2
   have:=Yc l u _ hn he hf;rw[this];have e:Bp (Bp s (bA s.inn c).1) (Ag (bA s.inn c).1 l).1=Bp s (Ag (bA s.inn c).1 l).1:=by
    unfold Bp;simp only[QA h2]
   rw[<-e];rfl
theorem Add:∀(l u:List UInt8) (s:Ms),Pq s l->((Ag s.inn l).2.2≠0\/¬Cd (Ag s.inn l).1 s.cQ)->(s.inn.line.length:Int)<=s.aW->B9 s (l++u)=Bx s l/\(Bx s l).phase=2
 | [],u,s,h,hb,_=>by
  rcases hb with g|g
  .exact absurd rfl g
  .exact absurd h.fit g
 |c :: l,u,s,h,hb,hl=>by
  have hr:Ag s.inn (c :: l)=if s.inn.phase=2 then (s.inn,0,0) else if (bA s.inn c).2≠0 then (s.inn,0,(bA s.inn c).2) else ((Ag (bA s.inn c).1 l).1,(Ag (bA s.inn c).1 l).2.1+1,(Ag (bA s.inn c).1 l).2.2):=rfl
  rw[QA h.i]at hr;have he:Bx s (c :: l)=Bx (Fb s c) l:=by
   show (if s.phase≠0 then s else _)=_;rw[QA (by simp[h.p])]
  have eB:∀(s:Ms) (w:Int) (l:List UInt8),Bx (broken s w) l=broken s w:=λs w l=>by
   cases l with
   |nil=>rfl
   |cons d l=>show (if (broken s w).phase≠0 then _ else _)=_;rw[QB (by show (2:Int)≠0;decide)]
  have h1:=Alo (c:=c) h.i hl;rw[h.step (u:=[])]at h1;rw[UM,h.step,he,<-h1]
  by_cases h6:(bA s.inn c).2=6
  .rw[QB h6,QB h6,eB];exact⟨rfl,rfl⟩
  rw[QA h6,QA h6]
  by_cases hx:(bA s.inn c).2≠0\/¬Cd (bA s.inn c).1 s.cQ
  .rw[QB hx,QB hx,eB];exact⟨rfl,rfl⟩
  rw[QA hx,QA hx];simp only[not_or,Decidable.not_not]at hx;have h0:(bA s.inn c).2=0:=by simpa using hx.1
  rw[QA (by simpa using h0)]at hr;rw[hr]at hb;have h2:(bA s.inn c).1.phase≠2:=λh2=>by
   have:Ag (bA s.inn c).1 l=((bA s.inn c).1,0,0):=by
    cases l with
    |nil=>rfl
    |cons d l=>unfold Ag;rw[QB h2]
   rw[this]at hb;rcases hb with g|g
   .exact absurd rfl g
   .exact g hx.2
  have hn:=h.next h0 hx.2 h2;have iJ:((Bp s (bA s.inn c).1).inn.line.length:Int)<=(Bp s (bA s.inn c).1).aW:=by
   show ((bA s.inn c).1.line.length:Int)<=s.aW;rcases Od (s:=s.inn) (c:=c) (λg=>(h.ok.p1 g).1) with g|g|g
   .rw[g];exact hl
   .rw[g];simp;omega
   .rw[g.2,QF];have:=h.room g.1;simp only[QG,QU]at this ⊢;omega
  exact Add l u _ hn hb iJ
theorem Ajp{s:Ms}{u:List UInt8}(hp:s.phase=0)(hi:s.inn.phase=0)(hl:(s.inn.line.length:Int)=s.aW):B9 s (c :: u)=Bx s [c]/\(Bx s [c]).phase=2:=by
 have e:Bx s [c]=broken s 11:=by
  show (if s.phase≠0 then s else Fb s c)=_;rw[QA (by simp[hp])];unfold Fb;rw[QB ⟨hi,by omega⟩]
 rw[Fc,QA (by omega),QB ⟨hi,hl⟩,e];exact⟨rfl,rfl⟩
end Go.Proofs.YtdoogdbjiijifaaGreatDoor
