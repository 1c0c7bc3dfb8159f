/- Lemmas of the proof; no conditions. -/
import Derived.Test.YtdoogdbjiijifaaGreatDoorE9Paz
namespace Go.Proofs.YtdoogdbjiijifaaGreatDoor
open Go Go.Sx
set_option maxRecDepth 100000
set_option maxHeartbeats 8000000
theorem lK{α:Type}{a b c:α}(h:a=c)(k:b=c):a=b:=h.trans k.symm
variable {t s st:Rs}{y y' x:bB}{nb nb' nn jW:Bool}{n' nl dJ g g' inf:Int}{f f' nf jL:Nat->List SV}{q:Bool×Int}{u i:Nat}{rem r2:List UInt8}{c:UInt8}
theorem Am2{n:Int}{r:List UInt8}(V:gD t y)(V':gD t y')(hf:y.fb=y'.fb)(hc:y.cb=y'.cb)(R:Bo f n r)(R':Bo f' n' r)(hb:nb=nb')(hn:nn=jW)(hl:nl=dJ)(hg:g=g'):
  jS (Kj y nb n f nn nl g) (Kj y' nb' n' f' jW dJ g'):=by
 obtain⟨m,ph,inf,ln,mi,st,re,fb,fl,ff,fr,bo,lf,cp,cl,cd,cf,cb,ct,ctf⟩:=y;obtain⟨m',eW,uD,OI,wW,rC,rp,zD,zA,zC,oJ,tR,gK,zH,cl',cd',zI,rK,qC,gR⟩:=y';obtain⟨a1,a2,a3,a4,a5,a6,a7,a8,a9,xK,xJ,a12,vG,rB⟩:=V;obtain⟨b1,b2,b3,b4,b5,b6,b7,b8,b9,b10,b11,b12,b13,AY⟩:=V';have e1:=lK a1 b1;have e2:=lK a4 b4;have e3:=lK a7 b7;have e4:=lK xK b10;have e5:=lK a12 b12;have e6:=lK vG b13;simp only at e1 e2 e3 e4 e5 e6 hf hc;subst e1 e2 e3 e4 e5 e6 hf hc hb hn hl hg;exact Rt (lK a2 b2) (lK a3 b3) (lK a5 b5) (lK a6 b6) (Fe a8 b8 rfl rfl rfl) (lK a9 b9) (lK xJ b11) (lK rB.gM AY.gM) (lK rB.iG AY.iG) (Fe rB.tr AY.tr rfl rfl rfl) (Qm R R' rfl rfl rfl) (aM.refl _)
theorem FZ(V:gD t y)(V':gD t y')(hf:y.fb=y'.fb)(hc:y.cb=y'.cb):aM (kL y) (kL y'):=by
 obtain⟨m,ph,inf,ln,mi,st,re,fb,fl,ff,fr,bo,lf,cp,cl,cd,cf,cb,ct,ctf⟩:=y;obtain⟨m',eW,uD,OI,wW,rC,rp,zD,zA,zC,oJ,tR,gK,zH,cl',cd',zI,rK,qC,gR⟩:=y';obtain⟨a1,a2,a3,a4,a5,a6,a7,a8,a9,xK,xJ,a12,vG,rB⟩:=V;obtain⟨b1,b2,b3,b4,b5,b6,b7,b8,b9,b10,b11,b12,b13,AY⟩:=V';have e1:=lK a1 b1;have e2:=lK a4 b4;have e3:=lK a7 b7;have e4:=lK xK b10;have e5:=lK a12 b12;have e6:=lK vG b13;simp only at e1 e2 e3 e4 e5 e6 hf hc;subst e1 e2 e3 e4 e5 e6 hf hc;exact aM.agg (.cons (Cp _) (.cons (Af (lK a2 b2)) (.cons (Af (lK a3 b3)) (.cons (Cp _) (.cons (Af (lK a5 b5)) (.cons (Af (lK a6 b6)) (.cons (Cp _) (.cons (Fe a8 b8 rfl rfl rfl) (.cons (Af (lK a9 b9)) (.cons (Cp _) (.cons (Af (lK xJ b11)) (.cons (Af (lK rB.gM AY.gM)) (.cons (Cp _) (.cons (Cp _) (.cons (Af (lK rB.iG AY.iG)) (.cons (Fe rB.tr AY.tr rfl rfl rfl) .nil))))))))))))))))
def rsC(t:Rs)(fb:Bool)(fl:Int)(ff:Nat->List SV)(cb:Bool)(ct:Int)(ctf:Nat->List SV):bB :=
 ⟨t.method,t.phase,t.infos,t.line,t.head.minor,t.head.status,t.head.reason,fb,fl,ff,t.aD,t.body,t.left,t.chunks.phase,t.chunks.line,t.chunks.data,t.chunks.left,cb,ct,ctf⟩
theorem rk{fb:Bool}{fl:Int}{ff:Nat->List SV}{cb:Bool}{ct:Int}{ctf:Nat->List SV}(h:A0 ff fl t.head.fields)(k:A0 ctf ct t.chunks.aE):gD t (rsC t fb fl ff cb ct ctf) :=
 ⟨rfl,rfl,rfl,rfl,rfl,rfl,rfl,h,rfl,rfl,rfl,rfl,rfl,⟨rfl,rfl,k⟩⟩
structure pK(s t:Rs)(y x:bB):Prop where
 f:y.fb=if t.phase≠0/\s.phase=0 then t.head.fields.isEmpty else x.fb
 c:y.cb=kJ s.chunks t.chunks x.cb
def rV:aB:=λ_ xs ls K=>∃(s:Rs) (x:bB) (b:List UInt8) (nb:Bool) (n:Int) (f:Nat->List SV) (nn:Bool) (nl g:Int) (nf:Nat->List SV),
 xs=[.ptr 0 0]/\ls=[.aF 125 (Kj x nb n f nn nl g),.vec 5 (.a nl) (.a g) 1 nf]/\gD s x/\Ce s/\s.phase=0/\s.method.length<=9223372036854775807/\Bo f n b/\b.length<=1000000/\(nb=true->b=[])/\
 ∀k q,k=El s b->q=Z3 s false (g+1) b->(k.2.2≠0->K (.int .i64 (.a k.2.2)) [.gone,.gone])/\
  (k.2.2=0->∀y nb' n' f' dJ jL,gD k.1 y->pK s k.1 y x->nb'=(if k.1.phase=0 then true else nb)->Bo f' n' (b.drop k.2.1)->Bo jL dJ k.1.line->
   K (.int .i64 (.a 0)) [.aF 125 (Kj y nb' n' f' q.1 dJ q.2),.vec 5 (.a dJ) (.a q.2) 1 jL])
structure xM(s:Rs)(x:bB)(b:List UInt8)(k:Rs×Nat×Int)(q:Bool×Int)(st:Rs)(inf:Int)(u:Nat)(rem:List UInt8)(nn:Bool)(g:Int)(nl:Int)(nf:Nat->List SV):Prop where
 k:k=((El st rem).1,u+(El st rem).2.1,(El st rem).2.2)
 q:q=Z3 st nn g rem
 p0:st.phase=0
 ok:Ce st
 met:st.method=s.method
 inf:inf=st.infos
 rem:rem=b.drop u
 li:Bo nf nl st.line
theorem xM.cells{b:List UInt8}{k:Rs×Nat×Int}(H:xM s x b k q st inf u rem nn g nl nf)(V:gD s x)(O:Ce s)(p0:s.phase=0):
  gD st { x with inf:=inf,ln:=st.line }:=by
 obtain⟨a1,a2,a3,a4,a5,a6,a7,a8,a9,xK,xJ,a12,vG,rB⟩:=V;obtain⟨_,q2,q3,q4,q5,q6⟩:=O.p0 p0;obtain⟨_,r2,r3,r4,r5,r6⟩:=H.ok.p0 H.p0;rw[q2]at a5 a6 a7 a8;rw[q3]at a9;rw[q4]at xK;rw[q5]at xJ;rw[q6]at a12 vG rB;refine⟨by rw[H.met];exact a1,by rw[H.p0,<-p0];exact a2,H.inf,rfl,by rw[r2];exact a5,by rw[r2];exact a6,by rw[r2];exact a7,by rw[r2];exact a8,by rw[r3];exact a9,by rw[r4];exact xK,by rw[r5];exact xJ,by rw[r6];exact a12,by rw[r6];exact vG,by rw[r6];exact rB⟩
theorem xM.more{b:List UInt8}{k:Rs×Nat×Int}(H:xM s x b k q st inf u rem nn g nl nf)(hr:rem=c :: r2)
  (hm:(Au (st.line++[c])).2.2=10)     (R:Bo jL dJ (st.line++[c])) (hg:g'=g+1) (hn:jW=false):
  xM s x b k q { st with line:=st.line++[c] } inf (u+1) r2 jW g' dJ jL:=by
 have hs:aZ st c=({ st with line:=st.line++[c] },0):=by unfold aZ;rw[QC H.p0,QC hm]
 have hk:=H.k;have hq:=H.q;rw[hr,El,hs,QA (by simp),QA (by simpa using H.p0)]at hk;rw[hr,Z3,QC hm,hs]at hq;refine⟨?_,by rw[hg,hn];exact hq,H.p0,Kf H.ok (by rw[H.p0];decide) hs,H.met,H.inf,?_,R⟩
 .rw[hk]
  exact YJ rfl (YJ ((by intro d;omega:∀d:Nat,u+(d+1)=u+1+d) _) rfl)
 .have:=H.rem
  rw[hr]at this;rw[<-ZD,<-this];rfl
theorem xM.info{b:List UInt8}{k:Rs×Nat×Int}(H:xM s x b k q st inf u rem nn g nl nf)(hr:rem=c :: r2)
  (h0:(Au (st.line++[c])).2.2=0) (h1:(Au (st.line++[c])).1.status<200) (h2:(Au (st.line++[c])).1.status≠101) (h3:¬10<st.infos+1)     (R:Bo jL dJ []) (hg:g'=g+3) (hn:jW=true):
  xM s x b k q { st with line:=[],infos:=st.infos+1 } (inf+1) (u+1) r2 jW g' dJ jL:=by
 have hs:aZ st c=({ st with line:=[],infos:=st.infos+1 },0):=by unfold aZ;rw[QC H.p0,QA (by rw[h0];decide),QA (by simpa using h0),QA h2,QA (by omega),QA h3]
 have hk:=H.k;have hq:=H.q;rw[hr,El,hs,QA (by simp),QA (by simpa using H.p0)]at hk;rw[hr,Z3,QA (by rw[h0];decide),hs,QA (by simpa using H.p0)]at hq;refine⟨?_,by rw[hg,hn];exact hq,H.p0,Kf H.ok (by rw[H.p0];decide) hs,H.met,by show inf+1=st.infos+1;rw[H.inf],?_,R⟩
 .rw[hk]
  exact YJ rfl (YJ ((by intro d;omega:∀d:Nat,u+(d+1)=u+1+d) _) rfl)
 .have:=H.rem
  rw[hr]at this;rw[<-ZD,<-this];rfl
theorem xM.err{b:List UInt8}{k:Rs×Nat×Int}(H:xM s x b k q st inf u rem nn g nl nf)(hr:rem=c :: r2){e:Int}
  (he:(aZ st c).2=e) (h:e≠0):k.2.2=e:=by
 rw[H.k,hr,El,QC (by rw[he];exact h)];exact he
theorem xM.last{b:List UInt8}{k:Rs×Nat×Int}(H:xM s x b k q st inf u rem nn g nl nf)(hr:rem=c :: r2)
  (h0:(Au (st.line++[c])).2.2=0) (h2:(Au (st.line++[c])).1.status≠101) (h1:200<=(Au (st.line++[c])).1.status) (hf:(As st.method (Au (st.line++[c])).1).2.2=0):
  k=((Cd st (Au (st.line++[c])).1).1,u+1,0)/\q=(true,g+3)/\(Cd st (Au (st.line++[c])).1).1.phase≠0/\b.drop (u+1)=r2:=by
 have hs:aZ st c=Cd st (Au (st.line++[c])).1:=by unfold aZ;rw[QC H.p0,QA (by rw[h0];decide),QA (by simpa using h0),QA h2,QC h1]
 have hp:(Cd st (Au (st.line++[c])).1).1.phase≠0:=by
  unfold Cd;rw[QA (by simpa using hf)];show (if _ then (2:Int) else 1)≠0
  split<;>decide
 have h02:(Cd st (Au (st.line++[c])).1).2=0:=by unfold Cd;rw[QA (by simpa using hf)]
 have hk:=H.k;have hq:=H.q;rw[hr,El,hs,QA (by rw[h02];simp),QC hp]at hk;rw[hr,Z3,QA (by rw[h0];decide),hs,QC hp]at hq;refine⟨hk,hq,hp,?_⟩;have:=H.rem;rw[hr]at this;rw[<-ZD,<-this];rfl
def hdO(s:Rs)(b:List UInt8)(k:Rs×Nat×Int)(q:Bool×Int)(x:bB)(CL:Bool)(m:Nat)(vs:List (Option SV))(hp:List Hl):Prop :=
 ∃(st:Rs) (inf:Int) (u:Nat) (rem:List UInt8) (n:Int) (f:Nat->List SV) (nn:Bool) (nl g:Int) (nf:Nat->List SV),vs=[some (.ptr 0 0)]/\hp=[.aF 125 (Kj { x with inf:=inf,ln:=[] } CL n f nn nl g),.vec 5 (.a nl) (.a g) 1 nf,.gone]/\
  Bo f n rem/\xM s x b k q st inf u rem nn g nl nf/\m=rem.length
def hdI(s:Rs)(b:List UInt8)(k:Rs×Nat×Int)(q:Bool×Int)(x:bB)(CL:Bool)(rem:List UInt8)(n:Int)(f:Nat->List SV)(m:Nat)(vs:List (Option SV))(hp:List Hl):Prop :=
 ∃(st:Rs) (inf:Int) (u:Nat) (i:Nat) (I:Int) (nn:Bool) (nl g:Int) (nf:Nat->List SV),vs=[some (.ptr 0 0),some (.sl (.a CL) (.a n) 1 f),some (.int .i64 (.a n)),some (.int .i64 (.a I))]/\hp=[.aF 125 (Kj { x with inf:=inf,ln:=[] } CL n f nn nl g),.vec 5 (.a nl) (.a g) 1 nf,.gone]/\
  AtR rem i I m/\xM s x b k q st inf u (rem.drop i) nn g nl nf
theorem pf{x0:bB}{hd:oL}{mi se:Int}{re:List UInt8}{hb:Bool}{hn:Int}{hf:Nat->List SV}{a b p:Int}(V:gD st { x0 with inf:=inf,ln:=st.line })(h:(a,b,0)=As st.method hd)(W:pt hd mi se hn hf)(hr:re=hd.reason)(hp:p=FN a b):
  gD (Cd st hd).1 { x0 with inf:=inf,ln:=[],ph:=p,mi:=mi,st:=se,re:=re,fb:=hb,fl:=hn,ff:=hf,fr:=a,lf:=b }:=by
 obtain⟨a1,a2,a3,a4,a5,a6,a7,a8,a9,xK,xJ,a12,vG,rB⟩:=V;unfold Cd;rw[<-h,QA (by simp)];exact⟨a1,hp,a3,rfl,W.DD,W.AF,hr,W.row,rfl,xK,rfl,a12,vG,rB⟩
theorem Ae6{b:List UInt8}(h:(Au b).2.2≠0):(Au b).1=jU:=by
 unfold Au at h ⊢
 split
 .rfl
 split
 .rfl
 split
 .rfl
 .rename_i g1 g2 g3
  rw[QA g1,QA g2,QA g3]at h;exact absurd rfl h
theorem Ank:Ap Tryz.prog gl 76 rV:=by
 refine Bu (gh:=[(999983,[]),(1,[.rM 0 17 1]),(12,[.pA 0 17 1])]) mixed Du (Al (Yq Ahu) (Al Aks Ae)) Tryz.func76 (by kernel_rfl) (by kernel_rfl) ?_;intro xs ls K h;unfold rV at h;obtain⟨s,x,b,nb,n,f,nn,nl,g,nf,rfl,rfl,V,O,p0,hm,R,hb,iK,h⟩:=h;obtain⟨k,hk⟩:∃k,k=El s b:=⟨_,rfl⟩;obtain⟨q,hq⟩:∃q,q=Z3 s false (g+1) b:=⟨_,rfl⟩;have h2:=h k q hk hq;clear h;have aJ:k.2.2=0->Ce k.1:=λe=>by rw[hk]at e ⊢;exact ((NS b s p0).2 e).ok O
 obtain⟨L,lJ,gV,hK⟩:∃L,(k.2.2≠0->L=[.gone,.gone])/\(k.2.2=0->∃y n' f' dJ jL,L=[.aF 125 (Kj y (if k.1.phase=0 then true else nb) n' f' q.1 dJ q.2),.vec 5 (.a dJ) (.a q.2) 1 jL]/\gD k.1 y/\pK s k.1 y x/\Bo f' n' (b.drop k.2.1)/\Bo jL dJ k.1.line)/\K (.int .i64 (.a k.2.2)) L:=by
  by_cases e0:k.2.2=0
  .obtain⟨fl,ff,ct,ctf,r1,r2⟩:=Ag2 (aJ e0)
   have W:=rk (fb:=if k.1.phase≠0/\s.phase=0 then k.1.head.fields.isEmpty else x.fb) (cb:=kJ s.chunks k.1.chunks x.cb) r1 r2;refine⟨_,λh=>absurd e0 h,λ_=>⟨_,_,_,_,_,rfl,W,⟨rfl,rfl⟩,Mu _,Mu _⟩,?_⟩;rw[e0];exact h2.2 e0 _ _ _ _ _ _ W ⟨rfl,rfl⟩ rfl (Mu _) (Mu _)
  .exact⟨_,λ_=>rfl,λh=>absurd h e0,h2.1 e0⟩
 obtain⟨E,hE⟩:∃E,E=k.2.2:=⟨_,rfl⟩;rw[<-hE]at hK;have fN:x.ln=s.line:=V.ln;have mD:s.line.length<=8500:=Hc (O.p0 p0).1;have HLN:dX x.ln.length 8500:=⟨by rw[fN];exact mD⟩;have HB:dX b.length 1000000:=⟨hb⟩;have VN:VI n b.length:=⟨R.n⟩;refine⟨_,_,hK,λD hD=>?_⟩;clear hK h2 aJ mD hb;obtain⟨x0,oQ⟩:∃x0,x0=x:=⟨_,rfl⟩;obtain⟨m,ph,inf,ln,mi,st,re,fb,fl,ff,fr,bo,lf,cp,cl,cd,cf,cb,ct,ctf⟩:=x;simp only at fN HLN;cbv;refine⟨⟨by have:=HLN.h;omega⟩,λf3 eV=>?_⟩;cbv;have R3:Bo f3 ln.length ln:=⟨rfl,λi _=>by rw[eV.h];rfl⟩;clear eV;refine⟨⟨rfl⟩,λg4 iD=>?_⟩;cbv;have EG:oZ g4 (g+1):=⟨by subst hD;exact iD.h⟩;clear iD;obtain⟨J,hJ⟩:∃J,J=hdO s b k q x0 nb:=⟨_,rfl⟩;refine⟨[0],J,⟨rfl,b.length,?_⟩,?_⟩
 .rw[hJ]
  subst hD oQ;refine⟨s,_,0,b,_,f,_,_,_,f3,rfl,rfl,R,⟨?_,?_,p0,O,rfl,V.inf,(ZT (l:=b)).symm,?_⟩,rfl⟩
  .rw[hk,XF]
  .rw[hq];show _=Z3 s false g4 b;rw[EG.h]
  .have e:ln=s.line:=V.ln
   rw[<-e];exact R3
 clear R3 EG;intro m3 vs hp hv;rw[hJ]at hv;obtain⟨st1,aS1,u1,rem,n2,f2,nn1,nl1,g1,TE,rfl,rfl,R2,H1,lP⟩:=hv;cbv;have HR:dX rem.length 1000000:=⟨by rw[H1.rem,QX];have:=HB.h;omega⟩;obtain⟨J2,xG⟩:∃J2,J2=hdI s b k q x0 nb rem n2 f2:=⟨_,rfl⟩;refine⟨[0,24,25,26],J2,⟨rfl,rem.length,?_⟩,?_⟩
 .rw[xG]
  subst hD;refine⟨st1,_,u1,0,_,_,_,_,TE,rfl,rfl,AtR.zero (by have:=HR.h;omega),?_⟩;rw[ZT];exact H1
 clear H1;intro m4 vs4 hp4 hv;rw[xG]at hv;obtain⟨st,inf,u,i,I,nn,nl,g,nf,rfl,rfl,A,H⟩:=hv;cbv;refine br hD (λeE=>?_) (λeE=>?_)<;>cbv
 .have eE:decide (I<n2)=true:=by subst hD;exact eE
  have aC:=A.lt R2.n (QT eE);clear eE;have e1:=R2.f i aC;have qA:=drop_at aC;obtain⟨c,hc⟩:∃c,c=rem.getD i 0:=⟨_,rfl⟩;rw[<-hc]at e1 qA;refine⟨A.lY hD R2.n aC,λj hj=>?_⟩;cbv;obtain rfl:=A.j hD hj;clear hj;rw[e1];cbv;have oC:=(H.ok.p0 H.p0).1;have mD:=Hc oC;have HL:dX st.line.length 8500:=⟨mD⟩;have VL:VI nl st.line.length:=⟨H.li.n⟩;obtain⟨T,hT⟩:∃T,T=st.line++[c]:=⟨_,rfl⟩;have JX:T.length=st.line.length+1:=by rw[hT,QF];rfl
  have HT:BR T.length (st.line.length+1):=⟨JX⟩;have eZ:c≠10->T.length<=301->(Au T).2.2=10:=λh1 h2=>by rw[hT];exact Aj7 h1 (by omega) oC
  obtain⟨hdT,zb⟩:∃hdT,hdT=Au T:=⟨_,rfl⟩;rw[<-zb]at eZ;clear oC mD JX;intro f3 eV;cbv;refine⟨by subst hD;exact⟨rfl,by show (nl+1) * 1<=_;rw[VL.h];have:=HL.h;omega,by show nl+1<=_;rw[VL.h];have:=HL.h;omega⟩,by subst hD;exact⟨rfl⟩,λf4 n4 hm g4 iD=>?_⟩;cbv;have nH:f3 0=[.int .u8 (.a (c.toNat:Int))]:=by rw[eV.h 0 _ rfl];subst hD;rfl
  have R4:Bo f4 n4 T:=by rw[hT];exact H.li.more (g:=f3) (u:=[c]) rfl (jV nH) (by subst hD;exact hm)
  have EG:oZ g4 (g+1):=⟨by subst hD;exact iD.h⟩;clear hm eV iD nH;have pT:=A.step hD aC;refine br hD (λhb=>?_) (λhb=>?_)<;>cbv
  .have hb:(((c.toNat:Int) != 10)&&decide (n4<=301))=true:=by subst hD;exact hb
   rw[QE,bne_iff_ne,QG]at hb;have kC:(Au T).2.2=10:=by rw[<-zb];exact eZ (λh=>hb.1 (by rw[h];rfl)) (by have:=R4.n;omega)
   refine⟨_,pT.1,?_⟩;rw[xG];rw[hT]at kC R4;subst hD;exact⟨_,inf,u+1,j+1,_,_,_,_,f4,rfl,rfl,pT.2,H.more qA kC R4 EG.h (ZO _)⟩
  clear hb eZ;have HT2:dX T.length 1000000:=⟨by have:=HT.h;have:=HL.h;omega⟩;refine⟨_,_,_,_,_,_,_,f4,rfl,rfl,rfl,rfl,T,_,_,f4,rfl,rfl,by subst hD;exact R4,HT2.h,λhd u5 e5 mi5 CH re5 f5 n5 b5 yE V5=>?_⟩;have bA:e5≠0->b5=true:=λh=>by
   have h1:(Au T).1=jU:=Ae6 (by rw[<-yE];exact h);rw[<-yE]at h1;have h1:hd=jU:=h1;have:=V5.g.nl;rw[h1]at this;exact this
  by_cases kC:e5=10
  .refine .inl ⟨xh (bA (by rw[kC];decide)),?_⟩
   cbv;refine br hD (λhb=>?_) (λhb=>?_)<;>cbv
   .have kC:(Au T).2.2=10:=by rw[<-yE];exact kC
    refine⟨_,pT.1,?_⟩;rw[xG];rw[hT]at kC R4;subst hD;exact⟨_,inf,u+1,j+1,_,_,_,_,f4,rfl,rfl,pT.2,H.more qA kC R4 EG.h (ZO _)⟩
   .exfalso
    have hb:(e5==10)=false:=by subst hD;exact hb
    rw[kC]at hb;cases hb
  refine .inr ⟨rfl,λg6 JJ=>?_⟩;cbv;have EG6:oZ g6 (g+2):=⟨by
   have:=EG.h;have h6:g6=g4+1:=by subst hD;exact JJ.h
   omega⟩
  clear JJ;refine br hD (λhb=>?_) (λhb=>?_)<;>cbv
  .exfalso
   have hb:(e5==10)=true:=by subst hD;exact hb
   exact kC (eq_of_beq hb)
  clear hb;refine br hD (λhb=>?_) (λhb=>?_)<;>cbv
  .have hb:(e5 != 0)=true:=by subst hD;exact hb
   have h0:e5≠0:=by simpa using hb
   have hs:(aZ st c).2=e5:=by
    unfold aZ;rw[QC H.p0,<-hT,<-yE,QA kC,QC h0]
   have fP:=H.err qA hs h0;rw[lJ (by rw[fP];exact h0)];subst hD;exact Kt (by exact (hE.trans fP).symm)
  have h0:e5=0:=by
   have hb:(e5 != 0)=false:=by subst hD;exact hb
   simpa using hb
  clear hb;have hI1:IntKind.i64.wrap (I+1)=((j+1:Nat):Int):=by
   have h1:=A.I;have h2:=HR.h;rw[wrap64 (by omega) (by omega)];omega
  have EI:oZ (IntKind.i64.wrap (I+1)) ((j+1:Nat):Int):=⟨hI1⟩;have VR2:VI n2 rem.length:=⟨R2.n⟩;have HJ:dX (j+1) rem.length:=⟨aC⟩;clear hI1;refine⟨by subst hD;exact⟨by show (0:Int)<=IntKind.i64.wrap (I+1);rw[EI.h];omega,by show IntKind.i64.wrap (I+1)<=n2;rw[EI.h,VR2.h];have:=HJ.h;omega,ZE _⟩,λf7 n7 cU=>?_⟩;cbv;have R7:Bo f7 n7 (rem.drop (j+1)):=by
   have:=R2.sub (a:=j+1) (b:=rem.length) cU (by subst hD;exact EI.h) (by subst hD;exact VR2.h) HJ.h (QK _);have e:(rem.drop (j+1)).take (rem.length-(j+1))=rem.drop (j+1):=XJ (by rw[QX];exact QK _)
   rwa [e]at this
  clear cU;intro g8 hg8;cbv;have EG8:g8=g+3:=by
   have:=EG6.h;have h6:g8=g6+1:=by subst hD;exact hg8.h
   omega
  clear hg8;have R0:Bo (λ_=>[]) 0 []:=⟨rfl,λi hi=>by cases hi⟩;have nz:(Au (st.line++[c])).2.2=0:=by rw[<-hT,<-yE];exact h0
  have yZ:(Au (st.line++[c])).1=hd:=by rw[<-hT,<-yE]
  have yc:CH=hd.status:=V5.AF;refine br hD (λhb=>?_) (λhb=>?_)<;>cbv
  .have hb:(CH==101)=true:=by subst hD;exact hb
   have hb:=eq_of_beq hb;have hs:(aZ st c).2=6:=by
    unfold aZ;rw[QC H.p0,QA (by rw[nz];decide),QA (by simpa using nz),QC (by rw[yZ,<-yc,hb])]
   have fP:=H.err qA hs (by decide);rw[lJ (by rw[fP];decide)];subst hD;exact Kt (by exact (hE.trans fP).symm)
  have og:hd.status≠101:=by
   have hb:(CH==101)=false:=by subst hD;exact hb
   rw[<-yc];simpa using hb
  clear hb;refine br hD (λhb=>?_) (λhb=>?_)<;>cbv
  .have hb:decide (200<=CH)=true:=by subst hD;exact hb
   have fF:200<=hd.status:=by rw[<-yc];exact QT hb
   have yx:st.method=x0.m:=by rw[H.met];exact V.m.symm.trans (by rw[oQ])
   have hmx:x0.m.length<=9223372036854775807:=by rw[<-yx,H.met];exact hm
   refine⟨bB.nm D { x0 with inf:=inf,ln:=[] },D.b (.a nb),D.i (.a n7),f7,D.b (.l true),D.i (.l 0),D.i (.a g8),_,hd,D.i (.a mi5),D.i (.a CH),re5,D.b (.a b5),D.i (.a n5),f5,rfl,rfl,⟨by subst hD;exact V5.DD,by subst hD;exact V5.AF,by subst hD;exact V5.g.row⟩,hmx,λka kb ke cI=>⟨λbA=>?_,λhe p hp=>?_⟩⟩<;>cbv
   .have hs:(aZ st c).2=ke:=by
     unfold aZ;rw[QC H.p0,QA (by rw[nz];decide),QA (by simpa using nz),QA (by rw[yZ];exact og),QC (by rw[yZ];exact fF),yZ];unfold Cd;have cI:(ka,kb,ke)=As st.method hd:=by rw[yx];exact cI
     rw[<-cI,QC bA]
    have fP:=H.err qA hs bA;rw[lJ (by rw[fP];exact bA)];subst hD;exact Kt (by exact (hE.trans fP).symm)
   .have cI:(ka,kb,0)=As st.method hd:=by rw[yx,<-he];exact cI
    obtain⟨l1,l2,l3,l4⟩:=H.last qA nz (by rw[yZ];exact og) (by rw[yZ];exact fF) (by rw[yZ,<-cI]);rw[yZ]at l1 l3;have fD:k.2.2=0:=by rw[l1]
    obtain⟨y,n',f',dJ,jL,rfl,W,N,R',py⟩:=gV fD;have Vst:=H.cells (x:=x0) (by rw[oQ];exact V) O p0;have VB:=pf (hb:=b5) Vst cI ⟨V5.DD,V5.AF,V5.g.row⟩ V5.ere hp;have fH:k.1=(Cd st hd).1:=by rw[l1]
    rw[fH]at W N py;have kU:¬k.1.phase=0:=by rw[fH];exact l3
    have aa0:(Cd st hd).1.line=[]:=by unfold Cd;rw[<-cI,QA (by simp)]
    have ac3:(Cd st hd).1.head=hd:=by unfold Cd;rw[<-cI,QA (by simp)]
    have ad1:(Cd st hd).1.chunks=st.chunks:=by unfold Cd;rw[<-cI,QA (by simp)]
    rw[aa0]at py;have WC:b.drop k.2.1=rem.drop (j+1):=by rw[l1];exact l4
    rw[WC]at R';rw[QA kU,l2];have e1:b5=y.fb:=by
     rw[N.f,QC ⟨l3,p0⟩,ac3];exact V5.g.nl
    have e2:x0.cb=y.cb:=by
     rw[N.c,ad1,oQ];unfold kJ;rw[QA];rintro⟨g1,_⟩;rw[(H.ok.p0 H.p0).2.2.2.2.2]at g1;cases g1
    subst hD;exact⟨Af (by exact (hE.trans fD).symm),Ct (cL.cons (Ao (Am2 VB W e1 e2 R7 R' rfl rfl (by exact py.n.symm) EG8)) (cL.cons (It (by exact py.n.symm) EG8 λi hi=>by exfalso;exact absurd hi (by show ¬(i:Int)<0;omega)) λ_ _ _ _ h=>h)),QK _⟩
  have fF:hd.status<200:=by
   have hb:decide (200<=CH)=false:=by subst hD;exact hb
   have:=XA hb;omega
  clear hb;have oS:=H.ok.i1;have hi0:=H.ok.i0;have ab0:=H.inf;have hw:IntKind.i64.wrap (inf+1)=inf+1:=wrap64 (by omega) (by omega);have EF:oZ (IntKind.i64.wrap (inf+1)) (inf+1):=⟨hw⟩;clear hw;refine br hD (λhb=>?_) (λhb=>?_)<;>cbv
  .have hb:decide (10<IntKind.i64.wrap (inf+1))=true:=by subst hD;exact hb
   rw[EF.h,QG]at hb;have hs:(aZ st c).2=3:=by
    unfold aZ;rw[QC H.p0,QA (by rw[nz];decide),QA (by simpa using nz),QA (by rw[yZ];exact og),QA (by rw[yZ];omega),QC (by omega)]
   have fP:=H.err qA hs (by decide);rw[lJ (by rw[fP];decide)];subst hD;exact Kt (by exact (hE.trans fP).symm)
  .have hb:decide (10<IntKind.i64.wrap (inf+1))=false:=by subst hD;exact hb
   rw[EF.h,QJ]at hb;have H2:=H.info qA nz (by rw[yZ];exact fF) (by rw[yZ];exact og) (by omega) R0 EG8 rfl;rw[<-EF.h]at H2;refine⟨(rem.drop (j+1)).length,by rw[QX,lP];have:=HJ.h;omega,?_⟩;rw[hJ];subst hD;exact⟨_,_,u+1,_,_,f7,_,_,_,_,rfl,rfl,R7,H2,rfl⟩
 .have eE:decide (I<n2)=false:=by subst hD;exact eE
  have hi:=A.eq R2.n (XA eE);clear eE;refine⟨⟨rfl⟩,⟨rfl⟩,by subst hD;exact H.li.byte,λr hr=>?_⟩;cbv;have er:r=st.line:=H.li.str (by subst hD;exact hr);clear hr;have qN:rem.drop i=[]:=by rw[hi,XR]
  have l1:=H.k;have l2:=H.q;have l3:=H.rem;rw[qN]at l1 l2 l3;have fD:k.2.2=0:=by rw[l1];rfl
  have fH:k.1=st:=by rw[l1];rfl
  have aY:k.2.1=u:=by rw[l1];rfl
  obtain⟨y,n',f',dJ,jL,rfl,W,N,R',py⟩:=gV fD;have Vst:=H.cells (x:=x0) (by rw[oQ];exact V) O p0;rw[fH]at W N py;rw[aY,<-l3]at R';have e1:x0.fb=y.fb:=by
   rw[N.f,QA (λh=>h.1 H.p0),oQ]
  have e2:x0.cb=y.cb:=by
   rw[N.c,oQ];unfold kJ;rw[QA];rintro⟨g1,_⟩;rw[(H.ok.p0 H.p0).2.2.2.2.2]at g1;cases g1
  have gn:k.1.phase=0:=by rw[fH];exact H.p0
  have l2:q=(nn,g):=l2;have R0:Bo (λ_=>[]) 0 []:=⟨rfl,λi hi=>by cases hi⟩;have mD:nl=dJ:=H.li.n.trans py.n.symm;have hlr:∀i:Nat,(i:Int)<nl->nf i=jL i:=λi hi=>by
   have h1:=H.li.n;rw[H.li.f i (by omega),py.f i (by omega)]
  rw[QC gn,l2];subst hD er;exact⟨Af (by exact (hE.trans fD).symm),Ct (cL.cons (Ao (Am2 Vst W e1 e2 R0 R' rfl rfl mD rfl)) (cL.cons (It (by exact mD) rfl (by exact hlr)) λ_ _ _ _ h=>h)),QK _⟩
set_option maxHeartbeats 400000
structure Ms where
 eU:Rq
 out:List UInt8
 aN:Int
 inn:Rs
 aS:Int
 cM:Int
 phase:Int
 ended:Bool
 why:Int
structure Me where
 kind:Int
 n:Int
 bytes:List UInt8
 why:Int
def early(r:Rs):Prop:=r.phase=0/\r.line=[]/\r.infos=0
instance (r:Rs):Decidable (early r):=by unfold early;exact inferInstance
def Cl(r:Rs)(mb:Int):Prop:=(r.body.length:Int)+r.chunks.data.length<=mb/\r.left<=mb-((r.body.length:Int)+r.chunks.data.length)
instance (r:Rs) (mb:Int):Decidable (Cl r mb):=by unfold Cl;exact inferInstance
def Ir(s:Ms):Prop :=
 (s.phase=0/\s.why=0/\s.ended=false/\s.inn.phase≠2)\/(s.phase=1/\s.why=0/\s.inn.phase=2)\/
 (s.phase=2/\(((s.why=10\/s.why=11\/s.why=4\/s.why=5\/s.why=1)/\s.ended=false/\s.inn.phase≠2)\/(s.why=12/\s.ended=false/\(s.inn.phase=2\/s.aN=0))\/
  (s.why=15/\s.ended=true/\early s.inn)\/(s.why=9/\s.ended=true/\¬early s.inn/\s.inn.phase≠2)\/(s.why=8/\s.ended=true/\s.inn.phase≠2)))
instance (s:Ms):Decidable (Ir s):=by unfold Ir;exact inferInstance
structure If(s:Ms):Prop where
 enc:Ca s.eU=(s.out,0)
 s0:0<=s.aN
 s1:s.aN<=s.out.length
 h0:64<=s.aS
 h1:s.aS<=65536
 b0:0<=s.cM
 b1:s.cM<=65536
 met:s.inn.method=s.eU.method
 rs:Ce s.inn
 line:(s.inn.line.length:Int)<=s.aS
 fit:Cl s.inn s.cM
 xH:s.aN=0->early s.inn
 right:Ir s
def broken(s:Ms)(w:Int):Ms:={ s with phase:=2,why:=w }
def A6(s:Ms):List UInt8->Ms
 | []=>s
 |c :: b =>
  if s.inn.phase=2 then broken s 12 else
  if s.inn.phase=0/\(s.inn.line.length:Int)=s.aS then broken s 11 else
  if (aZ s.inn c).2=6 then broken s 10 else
  if (aZ s.inn c).2≠0\/¬Cl (aZ s.inn c).1 s.cM then broken s 11 else
  A6 { s with inn:=(aZ s.inn c).1,phase:=if (aZ s.inn c).1.phase=2 then 1 else s.phase } b
def Az(s:Ms)(b:List UInt8):Ms:=if b≠[]/\(s.phase=1\/(s.phase=0/\s.aN=0)) then broken s 12 else A6 s b
def Vs(r:Rs):Option Rs:=if r.phase=2 then some r else if r.phase=1/\r.aD=3 then some { r with phase:=2 } else none
def C8(s:Ms):Ms :=
 if s.phase=1 then { s with ended:=true } else
 match Vs s.inn with
 |some r=>{ s with ended:=true,inn:=r,phase:=1 }
 |none=>if early s.inn then broken { s with ended:=true } 15 else broken { s with ended:=true } 9
def Cg(s:Ms)(x:Me):Int :=
 if (x.kind<1\/5<x.kind)\/(x.kind≠1/\x.n≠0)\/(x.kind≠2/\x.bytes≠[])\/(x.kind≠5/\x.why≠0)\/(x.kind=5/\x.why≠4/\x.why≠5/\x.why≠1) then 2 else
 if x.n<0\/(s.out.length:Int)-s.aN<x.n then 7 else
 if s.phase=2\/s.ended=true\/(x.kind=5/\s.phase=1) then 9 else 0
def Be(s:Ms)(x:Me):Ms :=
 if x.kind=1 then { s with aN:=s.aN+x.n } else
 if x.kind=2 then Az s x.bytes else
 if x.kind=3 then C8 s else
 if x.kind=4 then (if s.phase=0 then broken { s with ended:=true } 8 else { s with ended:=true }) else broken s x.why
theorem Kg(s:Rs)(c:UInt8):(aZ s c).1.method=s.method:=by
 unfold aZ
 split
 .split
  .rfl
  split
  .rfl
  split
  .rfl
  split
  .unfold Cd;split<;>rfl
  split<;>rfl
 split
 .split<;>rfl
 split
 .rfl
 split<;>rfl
theorem Oj(_h:s.phase≠0->s.line=[]):(aZ s c).1.line=s.line\/(aZ s c).1.line=[]\/(s.phase=0/\(aZ s c).1.line=s.line++[c]):=by
 unfold aZ
 split
 .rename_i h0
  split
  .exact .inr (.inr ⟨h0,rfl⟩)
  split
  .exact .inl rfl
  split
  .exact .inl rfl
  split
  .unfold Cd;split
   .exact .inl rfl
   .exact .inr (.inl rfl)
  split
  .exact .inl rfl
  .exact .inr (.inl rfl)
 split
 .split<;>exact .inl rfl
 split
 .exact .inl rfl
 split<;>exact .inl rfl
theorem X4:∀(b:List UInt8) (s:Ms),If s->(s.phase=0\/s.phase=1)->s.ended=false->(s.aN≠0\/b=[])->If (A6 s b)
 | [],s,h,_,_,_=>h
 |c :: b,s,h,hp,he,hs=>by
  have hs:s.aN≠0:=hs.resolve_right (by simp);unfold A6
  split
  .rename_i h2
   exact⟨h.enc,h.s0,h.s1,h.h0,h.h1,h.b0,h.b1,h.met,h.rs,h.line,h.fit,h.xH,.inr (.inr ⟨rfl,.inr (.inl ⟨rfl,he,.inl h2⟩)⟩)⟩
  rename_i h2
  split
  .exact⟨h.enc,h.s0,h.s1,h.h0,h.h1,h.b0,h.b1,h.met,h.rs,h.line,h.fit,h.xH,.inr (.inr ⟨rfl,.inl ⟨.inr (.inl rfl),he,h2⟩⟩)⟩
  rename_i h3
  split
  .exact⟨h.enc,h.s0,h.s1,h.h0,h.h1,h.b0,h.b1,h.met,h.rs,h.line,h.fit,h.xH,.inr (.inr ⟨rfl,.inl ⟨.inl rfl,he,h2⟩⟩)⟩
  split
  .exact⟨h.enc,h.s0,h.s1,h.h0,h.h1,h.b0,h.b1,h.met,h.rs,h.line,h.fit,h.xH,.inr (.inr ⟨rfl,.inl ⟨.inr (.inl rfl),he,h2⟩⟩)⟩
  rename_i h4 h5;simp only[ne_eq,not_or,Decidable.not_not]at h5;have pT:aZ s.inn c=((aZ s.inn c).1,0):=by rw[<-h5.1]
  have gE:=Kf h.rs h2 pT;have mC:s.phase=0/\s.why=0:=by
   rcases h.right with g|g|g
   .exact⟨g.1,g.2.1⟩
   .exact absurd g.2.2 h2
   .rcases hp with e|e<;>omega
  refine X4 b _ ⟨h.enc,h.s0,h.s1,h.h0,h.h1,h.b0,h.b1,by rw[Kg];exact h.met,gE,?_,h5.2,λe=>absurd e hs,?_⟩ (by simp only;split<;>simp[mC.1]) he (.inl hs)
  .have hl:=h.line
   have:=h.h0;rcases Oj (s:=s.inn) (c:=c) (λg=>(h.rs.p1 g).1) with g|g|g
   .show ((aZ s.inn c).1.line.length:Int)<=s.aS;rw[g];exact hl
   .show ((aZ s.inn c).1.line.length:Int)<=s.aS;rw[g];simp;omega
   .show ((aZ s.inn c).1.line.length:Int)<=s.aS
    rw[g.2,QF];have:(s.inn.line.length:Int)≠s.aS:=λe=>h3 ⟨g.1,e⟩;simp only[QH,QV];omega
  .by_cases g:(aZ s.inn c).1.phase=2
   .exact .inr (.inl ⟨by simp only;rw[QC g],mC.2,g⟩)
   .exact .inl ⟨by simp only;rw[QA g];exact mC.1,mC.2,he,g⟩
theorem X3{s:Ms}{b:List UInt8}(h:If s)(hp:s.phase=0\/s.phase=1)(he:s.ended=false):If (Az s b):=by
 unfold Az
 split
 .rename_i g
  refine⟨h.enc,h.s0,h.s1,h.h0,h.h1,h.b0,h.b1,h.met,h.rs,h.line,h.fit,h.xH,.inr (.inr ⟨rfl,.inr (.inl ⟨rfl,he,?_⟩)⟩)⟩;rcases g.2 with e|e
  .left
   rcases h.right with r|r|r
   .omega
   .exact r.2.2
   .omega
  .exact .inr e.2
 .rename_i g
  by_cases hb:b=[]
  .subst hb;exact h
  .by_cases h1:s.phase=1
   .exact absurd ⟨hb,.inl h1⟩ g
   .refine X4 b s h hp he (.inl λe=>g ⟨hb,.inr ⟨by omega,e⟩⟩)
theorem Ah3{r:Rs}(h:Ce r)(he:Vs r=some t):Ce t/\t.phase=2/\t.method=r.method/\t.line=r.line/\t.body=r.body/\t.chunks=r.chunks/\t.left=r.left/\t.infos=r.infos:=by
 unfold Vs at he
 split at he
 .rename_i g;cases he;exact⟨h,g,rfl,rfl,rfl,rfl,rfl,rfl⟩
 split at he
 .rename_i g0 g
  cases he;refine⟨⟨h.tok,h.i0,h.i1,.inr (.inr rfl),λe=>by simp at e,λ_=>h.p1 (by rw[g.1];decide),λ_ e=>?_,λ_ e=>?_,λ_ e=>?_,λ_ _=>h.f3 (by rw[g.1];decide) g.2⟩,rfl,rfl,rfl,rfl,rfl,rfl,rfl⟩
  .have e:r.aD=0:=e;omega
  .have e:r.aD=1:=e;omega
  .have e:r.aD=2:=e;omega
 .cases he
theorem Acf{s:Ms}(h:If s)(hp:s.phase=0\/s.phase=1):If (C8 s):=by
 unfold C8
 split
 .rename_i h1
  refine⟨h.enc,h.s0,h.s1,h.h0,h.h1,h.b0,h.b1,h.met,h.rs,h.line,h.fit,h.xH,?_⟩;rcases h.right with g|g|g
  .omega
  .exact .inr (.inl g)
  .omega
 rename_i h1;have mC:s.phase=0/\s.why=0/\s.inn.phase≠2:=by
  rcases h.right with g|g|g
  .exact⟨g.1,g.2.1,g.2.2.2⟩
  .omega
  .omega
 split
 .rename_i r hr
  obtain⟨q1,q2,q3,q4,q5,q6,q7,q8⟩:=Ah3 h.rs hr;refine⟨h.enc,h.s0,h.s1,h.h0,h.h1,h.b0,h.b1,by rw[q3];exact h.met,q1,by show (r.line.length:Int)<=s.aS;rw[q4];exact h.line,?_,λe=>?_,.inr (.inl ⟨rfl,mC.2.1,q2⟩)⟩
  .have:=h.fit
   unfold Cl at this ⊢;simp only;rw[q5,q6,q7];exact this
  .have:=h.xH e
   unfold Vs at hr;rw[QA mC.2.2,QA (by rw[this.1];rintro⟨g,_⟩;cases g)]at hr;cases hr
 .rename_i hr
  split
  .rename_i hE
   exact⟨h.enc,h.s0,h.s1,h.h0,h.h1,h.b0,h.b1,h.met,h.rs,h.line,h.fit,h.xH,.inr (.inr ⟨rfl,.inr (.inr (.inl ⟨rfl,rfl,hE⟩))⟩)⟩
  .rename_i hE
   exact⟨h.enc,h.s0,h.s1,h.h0,h.h1,h.b0,h.b1,h.met,h.rs,h.line,h.fit,h.xH,.inr (.inr ⟨rfl,.inr (.inr (.inr (.inl ⟨rfl,rfl,hE,mC.2.2⟩)))⟩)⟩
theorem Um{s:Ms}{x:Me}(h:If s)(he:Cg s x=0):If (Be s x):=by
 unfold Cg at he
 split at he
 .cases he
 rename_i g1
 split at he
 .cases he
 rename_i g2
 split at he
 .cases he
 rename_i g3;simp only[not_or]at g1 g2 g3;have ni:s.ended=false:=by simpa using g3.2.1
 have hp:s.phase=0\/s.phase=1:=by
  rcases h.right with g|g|g
  .exact .inl g.1
  .exact .inr g.1
  .exact absurd g.1 g3.1
 unfold Be
 split
 .refine⟨h.enc,by show 0<=s.aN+x.n;have:=h.s0;omega,by show s.aN+x.n<=(s.out.length:Int);have:=Int.not_lt.mp g2.2;omega,h.h0,h.h1,h.b0,h.b1,h.met,h.rs,h.line,h.fit,λe=>h.xH (by have:=h.s0;have e:s.aN+x.n=0:=e;omega),?_⟩
  rcases h.right with g|g|g
  .exact .inl g
  .exact .inr (.inl g)
  .exact absurd g.1 g3.1
 split
 .exact X3 h hp ni
 split
 .exact Acf h hp
 split
 .split
  .rename_i h0
   have:s.inn.phase≠2:=by
    rcases h.right with g|g|g
    .exact g.2.2.2
    .omega
    .omega
   exact⟨h.enc,h.s0,h.s1,h.h0,h.h1,h.b0,h.b1,h.met,h.rs,h.line,h.fit,h.xH,.inr (.inr ⟨rfl,.inr (.inr (.inr (.inr ⟨rfl,rfl,this⟩)))⟩)⟩
  .rename_i h0
   refine⟨h.enc,h.s0,h.s1,h.h0,h.h1,h.b0,h.b1,h.met,h.rs,h.line,h.fit,h.xH,?_⟩;rcases h.right with g|g|g
   .exact absurd g.1 h0
   .exact .inr (.inl g)
   .exact absurd g.1 g3.1
 .rename_i k1 k2 k3 k4
  have k5:x.kind=5:=by omega
  have hw:x.why=4\/x.why=5\/x.why=1:=by
   have:=g1.2.2.2.2;rcases Decidable.em (x.why=4) with e|e
   .exact .inl e
   rcases Decidable.em (x.why=5) with e2|e2
   .exact .inr (.inl e2)
   rcases Decidable.em (x.why=1) with e3|e3
   .exact .inr (.inr e3)
   .exact absurd ⟨k5,e,e2,e3⟩ this
  have h1:s.phase≠1:=λe=>g3.2.2 ⟨k5,e⟩;have:s.inn.phase≠2:=by
   rcases h.right with g|g|g
   .exact g.2.2.2
   .exact absurd g.1 h1
   .exact absurd g.1 g3.1
  refine⟨h.enc,h.s0,h.s1,h.h0,h.h1,h.b0,h.b1,h.met,h.rs,h.line,h.fit,h.xH,.inr (.inr ⟨rfl,.inl ⟨?_,ni,this⟩⟩)⟩;rcases hw with e|e|e
  .exact .inr (.inr (.inl e))
  .exact .inr (.inr (.inr (.inl e)))
  .exact .inr (.inr (.inr (.inr e)))
theorem Dy(s:Ms)(c:UInt8)(b:List UInt8):A6 s (c :: b) =
  if s.inn.phase=2 then broken s 12 else
  if s.inn.phase=0/\(s.inn.line.length:Int)=s.aS then broken s 11 else
  if (aZ s.inn c).2=6 then broken s 10 else
  if (aZ s.inn c).2≠0\/¬Cl (aZ s.inn c).1 s.cM then broken s 11 else
  A6 { s with inn:=(aZ s.inn c).1,phase:=if (aZ s.inn c).1.phase=2 then 1 else s.phase } b:=rfl
theorem Ul:∀(a b:List UInt8) (s:Ms),(s.phase=0\/s.phase=1)->(s.phase=1↔s.inn.phase=2)->A6 s (a++b)=if (A6 s a).phase=2 then A6 s a else A6 (A6 s a) b
 | [],b,s,hp,_=>by
  rw[UI];show A6 s b=if s.phase=2 then s else A6 s b
  rw[QA (by omega)]
 |c :: a,b,s,hp,hw=>by
  rw[UE];have eL:=Dy s c (a++b);have eR:=Dy s c a;rw[eL,eR]
  split
  .rw[QC (by rfl)]
  rename_i h2
  split
  .rw[QC (by rfl)]
  split
  .rw[QC (by rfl)]
  split
  .rw[QC (by rfl)]
  have h0:s.phase=0:=by
   rcases hp with e|e
   .exact e
   .exact absurd (hw.1 e) h2
  have:=Ul a b { s with inn:=(aZ s.inn c).1,phase:=if (aZ s.inn c).1.phase=2 then 1 else s.phase } (by simp only;split<;>simp[h0]) (by
   simp only
   by_cases g:(aZ s.inn c).1.phase=2
   .rw[QC g];simp[g]
   .rw[QA g,h0];simp[g])
  exact this
def Et(s:Ms):List (List UInt8)->Ms
 | []=>s
 |p :: ps=>Et (if s.phase=2 then s else Az s p) ps
theorem Ox:∀(ps:List (List UInt8)) (s:Ms),s.phase=2->Et s ps=s
 | [],_,_=>rfl
 |p :: ps,s,h=>by unfold Et;rw[QC h];exact Ox ps s h
theorem No:∀(a:List UInt8) (s:Ms),(s.phase=0\/s.phase=1)->(s.phase=1↔s.inn.phase=2)->((A6 s a).phase=0\/(A6 s a).phase=1\/(A6 s a).phase=2)/\((A6 s a).phase≠2->((A6 s a).phase=1↔(A6 s a).inn.phase=2))/\(A6 s a).aN=s.aN
 | [],s,hp,hw=>⟨by rcases hp with e|e<;>simp[A6,e],λ_=>hw,rfl⟩
 |c :: a,s,hp,hw=>by
  unfold A6
  split
  .exact⟨.inr (.inr rfl),λg=>absurd rfl g,rfl⟩
  rename_i h2
  split
  .exact⟨.inr (.inr rfl),λg=>absurd rfl g,rfl⟩
  split
  .exact⟨.inr (.inr rfl),λg=>absurd rfl g,rfl⟩
  split
  .exact⟨.inr (.inr rfl),λg=>absurd rfl g,rfl⟩
  have h0:s.phase=0:=by
   rcases hp with e|e
   .exact e
   .exact absurd (hw.1 e) h2
  exact No a { s with inn:=(aZ s.inn c).1,phase:=if (aZ s.inn c).1.phase=2 then 1 else s.phase } (by simp only;split<;>simp[h0]) (by
   simp only
   by_cases g:(aZ s.inn c).1.phase=2
   .rw[QC g];simp[g]
   .rw[QA g,h0];simp[g])
theorem Afh(a b:List UInt8)(s:Ms)(hp:s.phase=0\/s.phase=1)(hw:s.phase=1↔s.inn.phase=2):Az s (a++b)=if (Az s a).phase=2 then Az s a else Az (Az s a) b:=by
 by_cases ha:a=[]
 .subst ha
  have:Az s []=s:=by unfold Az;rw[QA (by simp)];rfl
  rw[this,UI,QA (by omega)]
 by_cases hs:s.phase=1\/(s.phase=0/\s.aN=0)
 .have e1:Az s a=broken s 12:=by unfold Az;rw[QC ⟨ha,hs⟩]
  have e2:Az s (a++b)=broken s 12:=by unfold Az;rw[QC ⟨by simp[ha],hs⟩]
  rw[e1,e2,QC (show (broken s 12).phase=2 from rfl)]
 .have e1:Az s a=A6 s a:=by unfold Az;rw[QA (λg=>hs g.2)]
  have e2:Az s (a++b)=A6 s (a++b):=by unfold Az;rw[QA (λg=>hs g.2)]
  rw[e1,e2,Ul a b s hp hw];obtain⟨i1,i2,i3⟩:=No a s hp hw
  split
  .rfl
  rename_i g2;have iw:=i2 g2
  by_cases hb:b=[]
  .subst hb
   unfold Az;rw[QA (by simp)]
  .by_cases h1:(A6 s a).phase=1
   .have e3:Az (A6 s a) b=broken (A6 s a) 12:=by unfold Az;rw[QC ⟨hb,.inl h1⟩]
    rw[e3];cases b with
    |nil=>exact absurd rfl hb
    |cons c b =>
     conv=>lhs;unfold A6
     rw[QC (iw.1 h1)]
   .have h0:(A6 s a).phase=0:=by omega
    have IG:s.aN≠0:=λe=>by
     rcases hp with g|g
     .exact hs (.inr ⟨g,e⟩)
     .exact hs (.inl g)
    have e3:Az (A6 s a) b=A6 (A6 s a) b:=by
     unfold Az;rw[QA];rintro⟨_,g|g⟩
     .exact h1 g
     .rw[i3]at g;exact IG g.2
    rw[e3]
theorem Afg(a:List UInt8)(s:Ms)(hp:s.phase=0\/s.phase=1)(hw:s.phase=1↔s.inn.phase=2):(Az s a).phase≠2->((Az s a).phase=0\/(Az s a).phase=1)/\((Az s a).phase=1↔(Az s a).inn.phase=2):=by
 unfold Az
 split
 .intro g;exact absurd rfl g
 .obtain⟨i1,i2,_⟩:=No a s hp hw
  intro g;exact⟨by omega,i2 g⟩
theorem X5:∀(ps:List (List UInt8)) (s:Ms),(s.phase=0\/s.phase=1)->(s.phase=1↔s.inn.phase=2)->Et s ps=Az s ps.flatten
 | [],s,hp,hw=>by
  show s=Az s [];unfold Az;rw[QA (by simp)];rfl
 |p :: ps,s,hp,hw=>by
  unfold Et;rw[QA (by omega),List.flatten_cons,Afh p ps.flatten s hp hw]
  split
  .rename_i g;exact Ox ps _ g
  .rename_i g
   obtain⟨q1,q2⟩:=Afg p s hp hw g;exact X5 ps _ q1 q2
set_option maxHeartbeats 8000000
def wP:aB:=λ_ xs ls K=>∃(s:Rs) (x:bB) (b:List UInt8) (nb:Bool) (n:Int) (f:Nat->List SV),
 xs=[kL x,.sl (.a nb) (.a n) 1 f]/\ls=[]/\gD s x/\Ce s/\s.method.length<=9223372036854775807/\Bo f n b/\b.length<=1000000/\(nb=true->b=[])/\
 ∀k,k=Ah s b->(k.2.2≠0->K (.aI [kL x,.int .i64 (.a 0),.int .i64 (.a k.2.2)]) [])/\
  (k.2.2=0->∀y u,gD k.1 y->pK s k.1 y x->u=(k.2.1:Int)->K (.aI [kL y,.int .i64 (.a u),.int .i64 (.a 0)]) [])
def SR(x:bB)(nb:Bool)(n:Int)(f:Nat->List SV)(nn:Bool)(nl g:Int)(h:Nat):List SV :=
 [.str x.m,.int .i64 (.a x.ph),.int .i64 (.a x.inf),.str x.ln,.int .i64 (.a x.mi),.int .i64 (.a x.st),.str x.re,.sl (.a x.fb) (.a x.fl) 2 x.ff,.int .i64 (.a x.fr),.str x.bo,.int .i64 (.a x.lf),
  .int .i64 (.a x.cp),.str x.cl,.str x.cd,.int .i64 (.a x.cf),.sl (.a x.cb) (.a x.ct) 2 x.ctf,.sl (.a nb) (.a n) 1 f,.cR (.a nn) (.a nl) (.a g) h]
def Ml(x:bB):List SV:=[.str x.m,.int .i64 (.a x.ph),.int .i64 (.a x.inf),.str x.ln,.int .i64 (.a x.mi),.int .i64 (.a x.st),.str x.re,.sl (.a x.fb) (.a x.fl) 2 x.ff,.int .i64 (.a x.fr),.str x.bo,.int .i64 (.a x.lf),
  .int .i64 (.a x.cp),.str x.cl,.str x.cd,.int .i64 (.a x.cf),.sl (.a x.cb) (.a x.ct) 2 x.ctf]
structure DW(s:Rs)(x:bB)(b:List UInt8)(st:Rs)(y:bB)(i:Nat)(nb:Bool)(n:Int)(f:Nat->List SV):Prop where
 g:Lg s b st i
 v:gD st y
 nn:pK s st y x
 met:st.method=s.method
 row:Bo f n (b.drop i)
 nl:nb=true->b.drop i=[]
 p0:st.phase=0->s.phase=0
 p2:s.phase=2->st=s
def fdJ(s:Rs)(x:bB)(b:List UInt8)(CL:Bool)(n0:Int)(f0:Nat->List SV)(m:Nat)(vs:List (Option SV))(hp:List Hl):Prop :=
 ∃(st:Rs) (y:bB) (i:Nat) (nb:Bool) (n:Int) (f:Nat->List SV) (nn:Bool) (nl g:Int) (nf:Nat->List SV),vs=[some (.sl (.a CL) (.a n0) 1 f0),some (.ptr 0 0),some (.ptr 1 0),some (.ptr 2 0)]/\
  hp=[.aF 38 (Ml x),.aF 38 (Ml (Py [])),.aF 125 (SR y nb n f nn nl g 3),.vec 5 (.a nl) (.a g) 1 nf]/\DW s x b st y i nb n f/\m=b.length-i
theorem O7:∀(b:List UInt8) (s:Rs),s.phase=0->(El s b).1.chunks=s.chunks/\(El s b).1.method=s.method
 | [],s,_=>⟨rfl,rfl⟩
 |c :: b,s,h=>by
  have hc:(aZ s c).1.chunks=s.chunks:=by
   unfold aZ;rw[QC h]
   split
   .rfl
   split
   .rfl
   split
   .rfl
   split
   .unfold Cd;split<;>rfl
   .split<;>rfl
  rw[El]
  split
  .exact⟨rfl,rfl⟩
  split
  .exact⟨hc,Kg s c⟩
  .rename_i h2
   have:=O7 b (aZ s c).1 (by simpa using h2);exact⟨this.1.trans hc,this.2.trans (Kg s c)⟩
theorem Alx{b:List UInt8}(O:Ce s)(k:Rs×Nat×Int)(hk:k=Ah s b)(e0:k.2.2=0):∃y,gD k.1 y/\pK s k.1 y x:=by
 have h2:Ce k.1:=by rw[hk]at e0 ⊢;exact Ok b s O e0
 obtain⟨fl,ff,ct,ctf,r1,r2⟩:=Ag2 h2;exact⟨_,rk (fb:=if k.1.phase≠0/\s.phase=0 then k.1.head.fields.isEmpty else x.fb) (cb:=kJ s.chunks k.1.chunks x.cb) r1 r2,⟨rfl,rfl⟩⟩
theorem DW.next{b:List UInt8}{j:Nat}{n:Int}(B:DW s x b st y i nb n f)(h2:st.phase≠2)(G:Lg st (b.drop i) t j)(V:gD t y')(N:pK s t y' x)(hm:t.method=st.method)
  (R:Bo f' n' ((b.drop i).drop j)) (hn:nb'=true->(b.drop i).drop j=[]) (h0:t.phase=0->st.phase=0):DW s x b t y' (i+j) nb' n' f' :=
 ⟨B.g.trans G,V,N,hm.trans B.met,by rw[<-ZD];exact R,by rw[<-ZD];exact hn,λh=>B.p0 (h0 h),λh=>absurd (by rw[B.p2 h];exact h) h2⟩
theorem DW.less{b:List UInt8}{j:Nat}{n:Int}(B:DW s x b st y i nb n f)(h:0<n)(hj:1<=j):b.length-(i+j)<b.length-i:=by
 have h1:=B.row.n;rw[QX]at h1;omega
theorem Amp(A:pK s st y x)(N:pK st t y' y)(p:st.phase=0)(p0:s.phase=0)(hc:t.chunks=st.chunks):pK s t y' x:=by
 have h1:=A.f;rw[QA (λh=>h.1 p)]at h1;refine⟨?_,?_⟩
 .rw[N.f,h1]
  by_cases h:t.phase=0
  .rw[QA (λg=>g.1 h),QA (λg=>g.1 h)]
  .rw[QC ⟨h,p⟩,QC ⟨h,p0⟩]
 .rw[N.c,hc,A.c]
  unfold kJ;rw[QA (λh=>h.2 h.1)]
theorem Ahh(A:pK s st y x)(p:st.phase≠0)(q:t.phase≠0)(hh:t.head=st.head)(hc:t.chunks=st.chunks)(hf:y'.fb=y.fb)(hb:y'.cb=y.cb):pK s t y' x:=by
 refine⟨?_,by rw[hb,A.c,hc]⟩;rw[hf,A.f,hh]
 by_cases h:s.phase=0
 .rw[QC ⟨p,h⟩,QC ⟨q,h⟩]
 .rw[QA (λg=>h g.2),QA (λg=>h g.2)]
theorem Amq(A:pK s st y x)(p:st.phase≠0)(q:t.phase≠0)(hh:t.head=st.head)(h4:s.chunks.phase≠4)(g4:st.chunks.phase≠4)(hf:y'.fb=y.fb)(hb:y'.cb=kJ st.chunks t.chunks y.cb):pK s t y' x:=by
 have h1:=A.c;unfold kJ at h1;rw[QA (λh=>g4 h.1)]at h1;refine⟨?_,?_⟩
 .rw[hf,A.f,hh]
  by_cases h:s.phase=0
  .rw[QC ⟨p,h⟩,QC ⟨q,h⟩]
  .rw[QA (λg=>h g.2),QA (λg=>h g.2)]
 .rw[hb,h1]
  unfold kJ
  by_cases h:t.chunks.phase=4
  .rw[QC ⟨h,g4⟩,QC ⟨h,h4⟩]
  .rw[QA (λg=>h g.1),QA (λg=>h g.1)]
theorem Adu(O:Ce s)(h:s.phase≠2):s.chunks.phase≠4:=by
 intro h4
 by_cases h0:s.phase=0
 .rw[(O.p0 h0).2.2.2.2.2]at h4;cases h4
 .by_cases h2:s.aD=2
  .exact h ((O.f2 h0 h2).2.2.2 h4)
  .rw[(O.p1 h0).2.2.2.2.2.2.1 h2]at h4;cases h4
theorem Aaf{u e u' e':ST}(V:gD t y)(V':gD t y')(hf:y.fb=y'.fb)(hc:y.cb=y'.cb)(hu:u.den=u'.den)(he:e.den=e'.den):Fin (.aI [kL y,.int .i64 u,.int .i64 e]) (.aI [kL y',.int .i64 u',.int .i64 e']) [] [] :=
 Cm (.aI (.cons (FZ V V' hf hc) (.cons (Af hu) (.cons (Af he) .nil))))
theorem Ah1:Ap Tryz.prog gl 23 wP:=by
 refine Bu (gh:=[(3,[.rN 7 17 5])]) mixed Du (Aa Tl (Al Ank (Al Aix (Al Adv (Al Agf Ae))))) Tryz.func23 (by kernel_rfl) (by kernel_rfl) ?_;intro xs ls K h;unfold wP at h;obtain⟨s,x,b,nb,n,f,rfl,rfl,V,O,hm,R,hb,iK,h⟩:=h;obtain⟨k,hk⟩:∃k,k=Ah s b:=⟨_,rfl⟩;have h:=h k hk;have aJ:=Alx (x:=x) O k hk;obtain⟨r,bP,bZ,hK⟩:∃r,(k.2.2≠0->r=.aI [kL x,.int .i64 (.a 0),.int .i64 (.a k.2.2)])/\(k.2.2=0->∃y,r=.aI [kL y,.int .i64 (.a (k.2.1:Int)),.int .i64 (.a 0)]/\gD k.1 y/\pK s k.1 y x)/\K r []:=by
  by_cases e0:k.2.2=0
  .obtain⟨y,W,N⟩:=aJ e0
   exact⟨_,λh=>absurd e0 h,λ_=>⟨y,rfl,W,N⟩,h.2 e0 y _ W N rfl⟩
  .exact⟨_,λ_=>rfl,λh=>absurd h e0,h.1 e0⟩
 have VN:VI n b.length:=⟨R.n⟩;have HB:dX b.length 1000000:=⟨hb⟩;refine⟨_,_,hK,λD hD=>?_⟩;clear hK h aJ hb;obtain⟨x0,oQ⟩:∃x0,x0=x:=⟨_,rfl⟩;obtain⟨m,ph,inf,ln,mi,st,re,fb,fl,ff,fr,bo,lf,cp,cl,cd,cf,cb,ct,ctf⟩:=x;unfold kL;cbv;refine⟨s,bB.nm D ⟨m,ph,inf,ln,mi,st,re,fb,fl,ff,fr,bo,lf,cp,cl,cd,cf,cb,ct,ctf⟩,rfl,rfl,by subst hD;exact V,O,hm,?_⟩;cbv;refine br hD (λhb=>?_) (λhb=>?_)<;>cbv
 .exfalso
  have hb:(!true)=true:=by subst hD;exact hb
  cases hb
 clear hb;obtain⟨J,hJ⟩:∃J,J=fdJ s x0 b nb n f:=⟨_,rfl⟩;refine⟨[1,2,4,7],J,⟨rfl,b.length,?_⟩,?_⟩
 .rw[hJ]
  subst hD oQ;refine⟨s,⟨m,ph,inf,ln,mi,st,re,fb,fl,ff,fr,bo,lf,cp,cl,cd,cf,cb,ct,ctf⟩,0,nb,n,f,_,_,_,_,rfl,rfl,⟨Lg.zero b O,V,⟨?_,?_⟩,rfl,R,iK,λh=>h,λ_=>rfl⟩,rfl⟩
  .rw[QA (λh=>h.1 h.2)]
  .unfold kJ;rw[QA (λh=>h.2 h.1)]
 intro m3 vs hp hv;rw[hJ]at hv;obtain⟨st,y,i,bl,n1,f1,nn,nl,g,nf,e1,e2,B,lP⟩:=hv;subst e1;cbv at e2;subst e2;cbv;refine br hD (λhb=>?_) (λhb=>?_)<;>cbv
 .have hb:(decide (0<n1)&&(y.ph != 2))=true:=by subst hD;exact hb
  rw[QE,QG,bne_iff_ne]at hb;obtain⟨lU,gH⟩:=hb;have eB:y.ph=st.phase:=B.v.ph;have h2:st.phase≠2:=by rw[<-eB];exact gH
  have CU:st.method.length<=9223372036854775807:=by rw[B.met];exact hm
  have PQ:dX (b.drop i).length 1000000:=⟨by rw[QX];have:=HB.h;omega⟩;have mu:b.drop i≠[]:=by
   intro e;have:=B.row.n;rw[e]at this;simp at this;omega
  refine br hD (λhb=>?_) (λhb=>?_)<;>cbv
  .have hb:(y.ph==1)=true:=by subst hD;exact hb
   have pV:st.phase=1:=by rw[<-eB];exact eq_of_beq hb
   have kF:=Jb st.method st.head;have hfk:=(B.g.ok.p1 (by omega)).2.2.2.2.2.1;rw[hfk]at kF;have cI:y.fr=st.aD:=B.v.fr;have WR:st.aD≠0:=λh=>h2 (B.g.ok.f0 (by omega) h).1;have jH:y.bo=st.body:=B.v.bo;have mE:y.lf=st.left:=B.v.lf;clear hb hfk;refine⟨⟨by
    have h1:y.fr∈[(1:Int),2,3]:=by
     rw[cI];simp only[XT,ZU,or_false];omega
    subst hD;exact h1⟩,λOP=>?_,λrH=>?_,λy8=>?_,trivial⟩<;>cbv
   .have fV:st.aD=1:=by
     have h1:D.i (.a y.fr)=st.aD:=by subst hD;exact cI
     rw[<-h1];exact OP.h
    obtain⟨q1,q2⟩:=Ag3 B.g.ok pV fV;obtain⟨kk,bD⟩:∃kk:Nat,(kk:Int)=min st.left ((b.drop i).length:Int):=⟨(min st.left ((b.drop i).length:Int)).toNat,by omega⟩;obtain⟨G,fU⟩:=Afz B.g.ok pV fV bD;have tA:y.bo.length<=1000000:=by rw[jH];omega
    have rF:0<=y.lf/\y.lf<=1000000:=by rw[mE];omega
    have aY:(kk:Int)=min y.lf ((b.drop i).length:Int):=by rw[mE];exact bD
    have EK:oZ (kk:Int) (min y.lf ((b.drop i).length:Int)):=⟨aY⟩;have HL0:MR 0 y.lf 1000000:=⟨rF.1,rF.2⟩;have HBL:dX y.bo.length 1000000:=⟨tA⟩;clear aY rF tA bD q1 q2 OP;refine⟨bB.nm D y,b.drop i,kk,D.b (.a bl),D.i (.a n1),f1,D.b (.a nn),D.i (.a nl),D.i (.a g),nf,rfl,rfl,by subst hD;exact EK.h,by subst hD;exact B.row,PQ.h,HBL.h,by subst hD;exact HL0.lo,by subst hD;exact HL0.hi,λeW tR gK n' f' yn zn aa1 R'=>?_⟩;cbv;refine br hD (λhb=>?_) (λhb=>?_)<;>cbv
    .exfalso
     have hb:((0:Int) != 0)=true:=by subst hD;exact hb
     cases hb
    clear hb;have gw:=B.next h2 (y':={ y with ph:=eW,bo:=tR,lf:=gK }) (nb':=bl) G ?_ ?_ rfl R' ?_ ?_
    .refine⟨_,by rw[lP];exact B.less lU (fU mu),?_⟩
     rw[hJ];subst hD;exact⟨_,_,_,bl,n',f',nn,nl,g,nf,rfl,rfl,gw,rfl⟩
    .obtain⟨a1,a2,a3,a4,a5,a6,a7,a8,a9,xK,xJ,a12,vG,rB⟩:=B.v
     refine⟨a1,?_,a3,a4,a5,a6,a7,a8,a9,?_,?_,a12,vG,rB⟩
     .subst hD
      have h1:eW=if y.lf-(kk:Int)=0 then 2 else y.ph:=yn
      show eW=if st.left-(kk:Int)=0 then 2 else 1
      rw[h1,mE,eB,pV]
     .show tR=st.body++(b.drop i).take kk
      rw[zn,<-jH];rfl
     .subst hD
      have h1:gK=y.lf-(kk:Int):=aa1;show gK=st.left-(kk:Int);rw[h1,mE]
    .refine Ahh B.nn (by omega) ?_ rfl rfl rfl rfl
     show (if st.left-(kk:Int)=0 then (2:Int) else 1)≠0
     split<;>decide
    .exact λh=>by rw[B.nl h];exact List.drop_nil
    .intro h
     exfalso;revert h;show (if st.left-(kk:Int)=0 then (2:Int) else 1)=0->False
     split<;>decide
   .have fB:st.aD=2:=by
     have h1:D.i (.a y.fr)=st.aD:=by subst hD;exact cI
     rw[<-h1];exact rH.h
    obtain⟨c1,c2,c3⟩:=B.g.ok.f2 (by omega) fB;obtain⟨G,lS⟩:=Z6 (b:=b.drop i) B.g.ok pV fB;have h4:st.chunks.phase≠4:=λh=>h2 (c3.2 h);clear rH;refine⟨bB.nm D y,st.chunks,b.drop i,D.b (.a bl),D.i (.a n1),f1,D.b (.a nn),D.i (.a nl),D.i (.a g),nf,rfl,rfl,B.v.cl,B.v.cd,by subst hD;exact B.v.cv,c2,λh=>absurd h h4,by subst hD;exact B.row,PQ.h,λk1 fH=>⟨λbA=>?_,λh0 eW zH zI rK qC gR n' f' W DA yn R'=>?_⟩⟩<;>cbv
    .have fP:k.2.2=k1.2.2:=by rw[hk];exact B.g.err (by rw[fH];exact lS (by rw[<-fH];exact bA))
     obtain⟨e1,tN⟩:∃e1,e1=k1.2.2:=⟨_,rfl⟩;rw[<-tN]at bA fP;refine br hD (λhb=>?_) (λhb=>?_)<;>cbv
     .rw[bP (by rw[fP];exact bA),fP]
      subst hD oQ;exact Cm (.aI (.cons (aM.refl _) (.cons (Af rfl) (.cons (Af (by exact tN.symm)) .nil))))
     .exfalso
      have hb:(k1.2.2 != 0)=false:=by subst hD;exact hb
      rw[<-tN]at hb;exact bA (by simpa using hb)
    .have G:=G (by rw[<-fH];exact h0)
     rw[<-fH]at G;refine br hD (λhb=>?_) (λhb=>?_)<;>cbv
     .exfalso
      have hb:((0:Int) != 0)=true:=by subst hD;exact hb
      cases hb
     clear hb;have ad3:rK=kJ st.chunks k1.1 y.cb:=by subst hD;exact DA
     have WJ:eW=if k1.1.phase=4 then 2 else y.ph:=by subst hD;exact yn
     have fU:1<=k1.2.1:=by
      rw[fH];cases tC:b.drop i with
      |nil=>exact absurd tC mu
      |cons c r =>
       rw[fH,tC]at h0;rw[Dl h4]at h0 ⊢
       by_cases e2:(cF st.chunks c).2=0
       .rw[QA (by simpa using e2)];exact Nat.succ_le_succ (XX _)
       .rw[QC e2]at h0;exact absurd h0 e2
     have gw:=B.next h2 (y':={ y with ph:=eW,cp:=zH,cl:=k1.1.line,cd:=k1.1.data,cf:=zI,cb:=rK,ct:=qC,ctf:=gR }) (nb':=bl) G ?_ ?_ rfl R' ?_ ?_
     .refine⟨_,by rw[lP];exact B.less lU fU,?_⟩
      rw[hJ];subst hD;exact⟨_,_,_,bl,n',f',nn,nl,g,nf,rfl,rfl,gw,rfl⟩
     .obtain⟨a1,a2,a3,a4,a5,a6,a7,a8,a9,xK,xJ,a12,vG,rB⟩:=B.v
      refine⟨a1,?_,a3,a4,a5,a6,a7,a8,a9,xK,xJ,rfl,rfl,W⟩;show eW=if k1.1.phase=4 then 2 else 1
      rw[WJ,eB,pV]
     .refine Amq B.nn (by omega) ?_ rfl (Adu O λh=>h2 (by rw[B.p2 h];exact h)) h4 rfl ad3
      show (if k1.1.phase=4 then (2:Int) else 1)≠0
      split<;>decide
     .exact λh=>by rw[B.nl h];exact List.drop_nil
     .intro h
      exfalso;revert h;show (if k1.1.phase=4 then (2:Int) else 1)=0->False
      split<;>decide
   .have eV:st.aD=3:=by
     have h1:D.i (.a y.fr)=st.aD:=by subst hD;exact cI
     rw[<-h1];exact y8.h
    have tA:=B.g.ok.f3 (by omega) eV;obtain⟨G,lS⟩:=Ac6 (b:=b.drop i) B.g.ok pV eV;have HBL:dX y.bo.length 65536:=⟨by rw[jH];exact tA⟩;have HBO:BR y.bo.length st.body.length:=⟨by rw[jH]⟩;clear tA y8;refine⟨bB.nm D y,b.drop i,D.b (.a bl),D.i (.a n1),f1,D.b (.a nn),D.i (.a nl),D.i (.a g),nf,rfl,rfl,by subst hD;exact B.row,PQ.h,by have:=HBL.h;show y.bo.length<=_;omega,λpH=>?_,λeC tR n' f' zn R'=>?_⟩<;>cbv
    .have fP:k.2.2=3:=by rw[hk];exact B.g.err (lS (by rw[<-HBO.h];exact pH))
     refine br hD (λhb=>?_) (λhb=>?_)<;>cbv
     .rw[bP (by rw[fP];decide),fP]
      subst hD oQ;exact Cm (.aI (.cons (aM.refl _) (.cons (Af rfl) (.cons (Af rfl) .nil))))
     .exfalso
      have hb:((3:Int) != 0)=false:=by subst hD;exact hb
      cases hb
    .have G:=G (by rw[<-HBO.h];exact eC)
     refine br hD (λhb=>?_) (λhb=>?_)<;>cbv
     .exfalso
      have hb:((0:Int) != 0)=true:=by subst hD;exact hb
      cases hb
     clear hb;have gw:=B.next h2 (y':={ y with bo:=tR }) (nb':=bl) G ?_ ?_ rfl (by rw[XR];exact R') ?_ ?_
     .refine⟨_,by rw[lP];exact B.less lU (List.length_pos_iff.2 mu),?_⟩
      rw[hJ];subst hD;exact⟨_,_,_,bl,n',f',nn,nl,g,nf,rfl,rfl,gw,rfl⟩
     .obtain⟨a1,a2,a3,a4,a5,a6,a7,a8,a9,xK,xJ,a12,vG,rB⟩:=B.v
      refine⟨a1,a2,a3,a4,a5,a6,a7,a8,a9,?_,xJ,a12,vG,rB⟩;show tR=st.body++b.drop i;rw[zn,<-jH];rfl
     .exact Ahh B.nn (by omega) (by show st.phase≠0;omega) rfl rfl rfl rfl
     .exact λ_=>XR
     .exact λh=>h
  .have hb:(y.ph==1)=false:=by subst hD;exact hb
   have wZ:st.phase=0:=by
    have h1:st.phase≠1:=by rw[<-eB];simpa using hb
    have:=B.g.ok.ph;omega
   clear hb;refine⟨st,bB.nm D y,b.drop i,D.b (.a bl),D.i (.a n1),f1,D.b (.a nn),D.i (.a nl),D.i (.a g),nf,rfl,rfl,by subst hD;exact B.v,B.g.ok,wZ,CU,by subst hD;exact B.row,PQ.h,by subst hD;exact B.nl,λk1 q1 fH eZ=>⟨λbA=>?_,λh0 y1 nb' n' f' dJ jL V' N' IW R' py=>?_⟩⟩<;>cbv
   .have fP:k.2.2=k1.2.2:=by rw[hk];exact B.g.err (by rw[fH];exact (NS _ _ wZ).1 (by rw[<-fH];exact bA))
    obtain⟨e1,tN⟩:∃e1,e1=k1.2.2:=⟨_,rfl⟩;rw[<-tN]at bA fP;refine br hD (λhb=>?_) (λhb=>?_)<;>cbv
    .rw[bP (by rw[fP];exact bA),fP]
     subst hD oQ;exact Cm (.aI (.cons (aM.refl _) (.cons (Af rfl) (.cons (Af (by exact tN.symm)) .nil))))
    .exfalso
     have hb:(k1.2.2 != 0)=false:=by subst hD;exact hb
     rw[<-tN]at hb;exact bA (by simpa using hb)
   .have G:=Af0 B.g.ok wZ (by rw[<-fH];exact h0)
    have hd:=(NS (b.drop i) st wZ).2 (by rw[<-fH];exact h0);have hch:=O7 (b.drop i) st wZ;rw[<-fH]at G hd hch;refine br hD (λhb=>?_) (λhb=>?_)<;>cbv
    .exfalso
     have hb:((0:Int) != 0)=true:=by subst hD;exact hb
     cases hb
    clear hb;have N2:pK st k1.1 y1 y:=by subst hD;exact N'
    have gw:=B.next h2 (y':=y1) (nb':=nb') G V' (Amp B.nn N2 wZ (B.p0 wZ) hch.1) hch.2 R' ?_ ?_
    .refine⟨_,by rw[lP];exact B.less lU (hd.one mu),?_⟩
     rw[hJ];subst hD;exact⟨_,_,_,nb',n',f',_,dJ,_,jL,rfl,rfl,gw,rfl⟩
    .intro h
     by_cases h7:k1.1.phase=0
     .rw[hd.all h7,XR]
     .rw[QA h7]at IW
      have uQ:nb'=bl:=by subst hD;exact IW
      rw[B.nl (by rw[<-uQ];exact h)];exact List.drop_nil
    .exact λ_=>wZ
 .have hb:(decide (0<n1)&&(y.ph != 2))=false:=by subst hD;exact hb
  have eB:y.ph=st.phase:=B.v.ph;have aJ:=B.row.n;have dx:Ah s b=(st,i,0):=B.g.fin (by
   rw[ZA,QJ,bne_eq_false_iff_eq]at hb;rcases hb with h|h
   .right
    exact XH (by omega)
   .left;rw[<-eB];exact h)
  rw[<-hk]at dx;obtain⟨y2,rfl,W,N⟩:=bZ (by rw[dx]);rw[dx]at W N ⊢;have e1:y.fb=y2.fb:=by rw[B.nn.f,oQ];exact N.f.symm
  have e2:y.cb=y2.cb:=by rw[B.nn.c,oQ];exact N.c.symm
  have hu:IntKind.i64.wrap (n-n1)=(i:Int):=by
   have h1:=VN.h;have h3:=B.g.le;have h4:=HB.h;rw[QX]at aJ;rw[h1,aJ,wrap64 (by omega) (by omega)];omega
  subst hD;exact Aaf B.v W e1 e2 (by exact hu) rfl
def ES:List (Nat×TI):=[
 (3,⟨.int .i64,1,8,[.int .i64 (.l 0)]⟩),
 (4,⟨.bool,1,1,[.bool (.l false)]⟩),
 (5,⟨.int .u8,1,1,[.int .u8 (.l 0)]⟩),
 (9,⟨.string,1,16,[.str []]⟩),
 (28,⟨.int .i64,1,8,[.int .i64 (.l 0)]⟩),
 (2,⟨.int .i64,1,8,[.int .i64 (.l 0)]⟩),
 (57,⟨.int .i64,1,8,[.int .i64 (.l 0)]⟩),
 (22,⟨.slice 5,1,24,[(.sl (.l true) (.l 0) 1 λ_=>[])]⟩),
 (23,⟨.slice 100,1,24,[(.sl (.l true) (.l 0) 2 λ_=>[])]⟩),
 (100,⟨.struct [(0,9),(1,9)],2,32,[.str [],.str []]⟩),
 (55,⟨.struct [(0,2),(1,9),(2,9),(3,9),(4,23),(5,9)],6,96,[.int .i64 (.l 0),.str [],.str [],.str [],(.sl (.l true) (.l 0) 2 λ_=>[]),.str []]⟩),
 (36,⟨.struct [(0,3),(1,9),(2,9),(3,3),(4,23)],5,72,[.int .i64 (.l 0),.str [],.str [],.int .i64 (.l 0),(.sl (.l true) (.l 0) 2 λ_=>[])]⟩),
 (25,⟨.struct [(0,3),(1,3),(2,9),(3,23)],4,56,[.int .i64 (.l 0),.int .i64 (.l 0),.str [],(.sl (.l true) (.l 0) 2 λ_=>[])]⟩),
 (38,⟨.struct [(0,9),(1,3),(2,3),(3,9),(4,25),(8,3),(9,9),(10,3),(11,36)],16,208,[.str [],.int .i64 (.l 0),.int .i64 (.l 0),.str [],.int .i64 (.l 0),.int .i64 (.l 0),.str [],(.sl (.l true) (.l 0) 2 λ_=>[]),.int .i64 (.l 0),.str [],.int .i64 (.l 0),.int .i64 (.l 0),.str [],.str [],.int .i64 (.l 0),(.sl (.l true) (.l 0) 2 λ_=>[])]⟩),
 (45,⟨.struct [(0,25),(4,3),(5,9),(6,23),(7,4)],8,112,[.int .i64 (.l 0),.int .i64 (.l 0),.str [],(.sl (.l true) (.l 0) 2 λ_=>[]),.int .i64 (.l 0),.str [],(.sl (.l true) (.l 0) 2 λ_=>[]),.bool (.l false)]⟩),
 (59,⟨.struct [(0,55),(6,9),(7,3),(8,38),(24,3),(25,3),(26,3),(27,4),(28,57)],29,368,[.int .i64 (.l 0),.str [],.str [],.str [],(.sl (.l true) (.l 0) 2 λ_=>[]),.str [],.str [],.int .i64 (.l 0),.str [],.int .i64 (.l 0),.int .i64 (.l 0),.str [],.int .i64 (.l 0),.int .i64 (.l 0),.str [],(.sl (.l true) (.l 0) 2 λ_=>[]),.int .i64 (.l 0),.str [],.int .i64 (.l 0),.int .i64 (.l 0),.str [],.str [],.int .i64 (.l 0),(.sl (.l true) (.l 0) 2 λ_=>[]),.int .i64 (.l 0),.int .i64 (.l 0),.int .i64 (.l 0),.bool (.l false),.int .i64 (.l 0)]⟩),
 (142,⟨.pointer 144,1,8,[.eX]⟩),
 (144,⟨.struct [(0,59)],29,368,[.int .i64 (.l 0),.str [],.str [],.str [],(.sl (.l true) (.l 0) 2 λ_=>[]),.str [],.str [],.int .i64 (.l 0),.str [],.int .i64 (.l 0),.int .i64 (.l 0),.str [],.int .i64 (.l 0),.int .i64 (.l 0),.str [],(.sl (.l true) (.l 0) 2 λ_=>[]),.int .i64 (.l 0),.str [],.int .i64 (.l 0),.int .i64 (.l 0),.str [],.str [],.int .i64 (.l 0),(.sl (.l true) (.l 0) 2 λ_=>[]),.int .i64 (.l 0),.int .i64 (.l 0),.int .i64 (.l 0),.bool (.l false),.int .i64 (.l 0)]⟩),
 (83,⟨.struct [(0,3),(1,3),(2,9),(3,57)],4,40,[.int .i64 (.l 0),.int .i64 (.l 0),.str [],.int .i64 (.l 0)]⟩),
 (74,⟨.slice 83,1,24,[(.sl (.l true) (.l 0) 4 λ_=>[])]⟩),
 (68,⟨.struct [(0,45),(8,4),(9,57)],10,128,[.int .i64 (.l 0),.int .i64 (.l 0),.str [],(.sl (.l true) (.l 0) 2 λ_=>[]),.int .i64 (.l 0),.str [],(.sl (.l true) (.l 0) 2 λ_=>[]),.bool (.l false),.bool (.l false),.int .i64 (.l 0)]⟩),
 (194,⟨.struct [(0,3),(1,192)],2,16,[.int .i64 (.l 0),.raw .nilFunc]⟩),
 (190,⟨.slice 194,1,24,[(.sl (.l true) (.l 0) 2 λ_=>[])]⟩),
 (192,⟨.other,1,8,[.raw .nilFunc]⟩)]
theorem Ak7:Sx.yN Tryz.prog ES=true:=by kernel_rfl
theorem D0{eG:List (Nat×aB)}{gl:List (Nat×SV)}{gh:List (Nat×List Gh)}{its:List (Nat×(aB->aB))}{yl:List aB}:A4 Tryz.prog ⟨dn,ES,eG,gl,eqs,gh,its,yl⟩:=by
 refine⟨rfl,Ak7,λt ht=>?_⟩;simp only[eqs,XT,ZU,or_false]at ht;rcases ht with rfl
 all_goals
  refine⟨?_,?_,?_⟩
  .kernel_rfl
  .kernel_rfl
  .decide
structure fG where
 id:Int
 me:List UInt8
 ta:List UInt8
 ho:List UInt8
 qb:Bool
 ql:Int
 qf:Nat->List SV
 bo:List UInt8
 out:List UInt8
 aN:Int
 x:bB
 mh:Int
 mb:Int
 ph:Int
 en:Bool
 why:Int
def bT(c:fG):List SV:=[.int .i64 (.a c.id),.str c.me,.str c.ta,.str c.ho,.sl (.a c.qb) (.a c.ql) 2 c.qf,.str c.bo,.str c.out,.int .i64 (.a c.aN),
 .str c.x.m,.int .i64 (.a c.x.ph),.int .i64 (.a c.x.inf),.str c.x.ln,.int .i64 (.a c.x.mi),.int .i64 (.a c.x.st),.str c.x.re,.sl (.a c.x.fb) (.a c.x.fl) 2 c.x.ff,.int .i64 (.a c.x.fr),.str c.x.bo,.int .i64 (.a c.x.lf),
 .int .i64 (.a c.x.cp),.str c.x.cl,.str c.x.cd,.int .i64 (.a c.x.cf),.sl (.a c.x.cb) (.a c.x.ct) 2 c.x.ctf,
 .int .i64 (.a c.mh),.int .i64 (.a c.mb),.int .i64 (.a c.ph),.bool (.a c.en),.int .i64 (.a c.why)]
def rP:aB:=λ_ xs ls K=>∃c:fG,xs=[.ptr 0 0]/\ls=[.aF 144 (bT c)]/\∀r,r=(c.x.ph==2)->K (.bool (.a r)) [.aF 144 (bT c)]
theorem Xk:Ap Tryz.prog gl 151 rP:=by
 refine Bu (gh:=[]) mixed D0 Ae Tryz.func151 (by kernel_rfl) (by kernel_rfl) ?_;intro xs ls K h;unfold rP at h;obtain⟨c,rfl,rfl,h⟩:=h;obtain⟨k,hk⟩:∃k,k=(c.x.ph==2):=⟨_,rfl⟩;refine⟨_,_,h k hk,λD hD=>?_⟩;clear h;unfold bT;cbv;subst hD;exact By (by rw[hk];rfl) rfl
def aj:aB:=λ_ xs ls K=>∃(c:fG) (w:Int),xs=[.ptr 0 0,.int .i64 (.a w)]/\ls=[.aF 144 (bT c)]/\K (.aI []) [.aF 144 (bT { c with ph:=2,why:=w })]
theorem Ph:Ap Tryz.prog gl 266 aj:=by
 refine Bu (gh:=[]) mixed D0 Ae Tryz.func266 (by kernel_rfl) (by kernel_rfl) ?_;intro xs ls K h;unfold aj at h;obtain⟨c,w,rfl,rfl,h⟩:=h;refine⟨_,_,h,λD hD=>?_⟩;clear h;unfold bT;cbv;subst hD;exact By rfl rfl
def Nw(c:fG):Bool:=((c.x.ph==0)&&(c.x.ln==[]))&&(c.x.inf==0)
def rY:aB:=λ_ xs ls K=>∃c:fG,xs=[.ptr 0 0]/\ls=[.aF 144 (bT c)]/\∀r,r=Nw c->K (.bool (.a r)) [.aF 144 (bT c)]
theorem Qx:Ap Tryz.prog gl 98 rY:=by
 refine Bu (gh:=[]) mixed D0 Ae Tryz.func98 (by kernel_rfl) (by kernel_rfl) ?_;intro xs ls K h;unfold rY at h;obtain⟨c,rfl,rfl,h⟩:=h;obtain⟨k,hk⟩:∃k,k=Nw c:=⟨_,rfl⟩;refine⟨_,_,h k hk,λD hD=>?_⟩;clear h;unfold bT;cbv;subst hD;exact By (by rw[hk];rfl) rfl
def R8(mb:Int)(y:bB):Bool:=decide (0<=(mb-y.bo.length)-y.cd.length)&&decide (y.lf<=(mb-y.bo.length)-y.cd.length)
structure BP(mb:Int)(y:bB):Prop where
 b0:0<=mb
 b1:mb<=65536
 bo:y.bo.length<=1000000
 cd:y.cd.length<=1000000
structure MM(k:Bool)(mb:Int)(y:bB):Prop where
 h:k=R8 mb y
def ai:aB:=λ_ xs ls K=>∃(c:fG) (y:bB),xs=[.ptr 0 0,kL y]/\ls=[.aF 144 (bT c)]/\BP c.mb y/\∀r,MM r c.mb y->K (.bool (.a r)) [.aF 144 (bT c)]
theorem Aac:Ap Tryz.prog gl 97 ai:=by
 refine Bu (gh:=[]) mixed D0 Ae Tryz.func97 (by kernel_rfl) (by kernel_rfl) ?_;intro xs ls K h;unfold ai at h;obtain⟨c,y,rfl,rfl,V,h⟩:=h;obtain⟨k,hk⟩:∃k,MM k c.mb y:=⟨_,⟨rfl⟩⟩;refine⟨_,_,h k hk,λD hD=>?_⟩;clear h;unfold bT kL;cbv;subst hD;refine By ?_ rfl;have h1:=V.b0;have h2:=V.b1;have h3:=V.bo;have h4:=V.cd;have e:(decide (0<=IntKind.i64.wrap (IntKind.i64.wrap (c.mb-(y.bo.length:Int))-(y.cd.length:Int)))&&decide (y.lf<=IntKind.i64.wrap (IntKind.i64.wrap (c.mb-(y.bo.length:Int))-(y.cd.length:Int))))=k:=by
  rw[hk.h,wrap64 (n:=c.mb-(y.bo.length:Int)) (by omega) (by omega),wrap64 (by omega) (by omega)];rfl
 rw[<-e];rfl
def M0(c:fG):Bool:=!c.en&&!(c.x.ph==2)
def Ij(c:fG):Bool :=
 if c.why==10 then M0 c else if c.why==11 then M0 c else if c.why==4 then M0 c else if c.why==5 then M0 c else if c.why==1 then M0 c else
 if c.why==12 then !c.en&&((c.x.ph==2)||(c.aN==0)) else if c.why==15 then c.en&&Nw c else
 if c.why==9 then (c.en&&!Nw c)&&!(c.x.ph==2) else if c.why==8 then c.en&&!(c.x.ph==2) else false
def Bp(c:fG):Bool :=
 if c.ph==0 then ((c.why==0)&&!c.en)&&!(c.x.ph==2) else if c.ph==1 then (c.why==0)&&(c.x.ph==2) else if c.ph==2 then Ij c else false
end Go.Proofs.YtdoogdbjiijifaaGreatDoor
