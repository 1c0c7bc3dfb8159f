/- Lemmas of the proof; no conditions. -/
import Derived.Test.YtdoogdbjiijifaaGreatDoorE9Paw
namespace Go.Proofs.YtdoogdbjiijifaaGreatDoor
open Go Go.Sx
set_option maxRecDepth 100000
set_option maxHeartbeats 6000000
variable {v v':SV}{s:Ch}{c:UInt8}{i:Nat}{l:List UInt8}{tf gT:Nat->List SV}{eW lf gK iv qG:ST}{tn nK:BT}
theorem Add{a b:Hl}(h:aM v v'):Fin v v' [a,b] [.gone,.gone]:=by
 refine⟨h,λh E w hk=>?_,by simp⟩
 match h with
 |0=>trivial
 |1=>trivial
 |h+2=>exact hk
structure Nd(s:Ch):Prop where
 data:s.data.length<=65536
 left:s.phase=1↔s.left≠0
 gN:s.phase=4\/s.aE=[]
theorem Ajm(l:List UInt8)(c:UInt8):B8 l c=0\/B8 l c=6\/B8 l c=3:=by
 unfold B8
 repeat' split
 all_goals simp
theorem o9(h:s.phase=0):(cF s c).2=0\/(cF s c).2=6\/(cF s c).2=3:=by
 unfold cF;rw[QC h]
 split
 .split
  .simp
  split<;>simp
 split
 .exact Ajm _ _
 .simp
theorem o8(h:s.phase=0)(hm:B8 s.line c≠0)(he:(cF s c).2=0):(cF s c).1.phase≠0:=by
 unfold cF at he ⊢;rw[QC h]at he ⊢
 split at he
 .rename_i g
  rw[QC g]
  split at he
  .rename_i g2;rw[QC g2];show (3:Int)≠0;decide
  rename_i g2;rw[QA g2]
  split at he
  .exact absurd he (by show (3:Int)≠0;decide)
  .rename_i g3;rw[QA g3];show (1:Int)≠0;decide
 .exact absurd he hm
theorem Afr(hO:Nd s)(hp:s.phase=0)(hl:Cq (s.line.take i)):D7 (Ed s i):=by
 have hz:s.left=0:=by
  rcases Decidable.em (s.left=0) with e|e
  .exact e
  .have:=hO.left.2 e;omega
 exact⟨hO.data,by simp[Ed,hz],.inr (hO.gN.resolve_left (by omega)),.inl rfl,λ_=>hl,λg=>by simp[Ed]at g,λg=>by simp[Ed]at g,λg=>by simp[Ed]at g,λg=>by simp[Ed]at g⟩
theorem Zw(hm:B8 (s.line.take i) (s.line.getD i 0)=0)(hi:i<s.line.length):cF (Ed s i) (s.line.getD i 0)=(Ed s (i+1),0):=by
 have hn:¬((s.line.getD i 0)=10/\Da (Ed s i).line=true):=by
  rintro⟨_,h2⟩;have h2:Da (s.line.take i)=true:=h2;unfold B8 at hm;rw[QC h2]at hm;cases hm
 rw[Ady rfl hn];have e:B8 (Ed s i).line (s.line.getD i 0)=0:=hm;rw[e,QA (by simp)];have e2:s.line.take (i+1)=s.line.take i++[s.line.getD i 0]:=by
  rw[UA,QB hi,QD,QB hi];rfl
 show ((⟨0,s.line.take i++[s.line.getD i 0],s.data,s.left,s.aE⟩:Ch),(0:Int))=_;rw[<-e2];rfl
theorem Acs(h:Cq (l.take i))(hm:B8 (l.take i) (l.getD i 0)=0)(hi:i<l.length):Cq (l.take (i+1)):=by
 have e2:l.take (i+1)=l.take i++[l.getD i 0]:=by
  rw[UA,QB hi,QD,QB hi];rfl
 rw[e2];exact Ro h hm
def p9(s:Ch):Prop:=∃i,i<s.line.length/\Cq (s.line.take i)/\B8 (s.line.take i) (s.line.getD i 0)≠0/\(cF (Ed s i) (s.line.getD i 0)).2=0
theorem Aoh{j:Nat}(h:Cq (l.take j))(hj:j<=l.length)(OR:i<j):B8 (l.take i) (l.getD i 0)=0:=by
 have:=h i (by rw[QW];omega);rw[UW,UJ (by omega)]at this;have e:(l.take j).getD i 0=l.getD i 0:=by
  rw[QD,QD,List.getElem?_take_of_lt OR]
 rwa [e]at this
theorem Ahf(O:p9 s)(hl:Cq (s.line.take i))(hm:B8 (s.line.take i) (s.line.getD i 0)≠0)(hi:i<s.line.length)(he:(cF (Ed s i) (s.line.getD i 0)).2≠0):False:=by
 obtain⟨j,j1,j2,j3,j4⟩:=O;rcases YZ i j with g|g|g
 .exact hm (Aoh j2 (by omega) g)
 .subst g;exact he j4
 .exact j3 (Aoh hl (by omega) g)
def ja:aB:=λ_ xs ls K=>∃(s:Ch) (c:UInt8) (ci:Int) (ph lf:Int) (l0 d0:List UInt8) (tn:Bool) (tl:Int) (tf:Nat->List SV) (db:Bool) (dl:Int) (gr:Bool) (df:Nat->List SV) (nn:Bool) (nl g:Int) (nf:Nat->List SV) (fo sz:Int),
 xs=[.ptr 0 0,.int .u8 (.a ci)]/\ls=[.aF 220 (yQ ph l0 d0 lf tn tl tf db dl nn nl g fo sz),.own 5 (.a dl) 1 gr df,.vec 5 (.a nl) (.a g) 1 nf]/\
 ci=(c.toNat:Int)/\Eo s ph lf tl tf dl df nl nf fo sz/\s.phase=0/\db=false/\D7 s/\
 ∀e,e=(cF s c).2->(e=6->K (.int .i64 (.l 6)) [.gone,.gone,.gone])/\(e=3->K (.int .i64 (.l 3)) [.gone,.gone,.gone])/\
  (e=0->∀ph gK nK tl tf db dl df jW nl g' nf fo sz,Eo (cF s c).1 ph gK tl tf dl df nl nf fo sz->BX s (cF s c).1 tn nn g nK jW g' db->K (.int .i64 (.a e)) [.aF 220 (yQ ph l0 d0 gK nK tl tf db dl jW nl g' fo sz),.own 5 (.a dl) 1 gr df,.vec 5 (.a nl) (.a g') 1 nf])
theorem Ahw{f:Nat}{sp sp':aB}(h:Ap Tryz.prog gl f sp)(hs:∀(xs:List SV) (ls:List Hl) (K:SV->List Hl->Prop),sp' dn xs ls K->sp dn xs ls λr aK=>∃r',aM r r'/\K r' aK):Ap Tryz.prog gl f sp':=by
 refine⟨h.1,λxs ls K hk=>?_⟩;obtain⟨r,aK,⟨r',hle,jE⟩,hc⟩:=h.2 xs ls _ (hs xs ls K hk);refine⟨r',aK,jE,λB E w aX h1 h2 h3 h4 h5 h6 h7=>(hc B E w aX h1 h2 h3 h4 h5 h6 h7).mono λe w' hq=>?_⟩;obtain⟨v,E',e1,e2,e3,e4⟩:=hq;exact⟨v,E',e1,e2,e3,hle E' w' v e4⟩
theorem Aft:Ap Tryz.prog gl 186 ja:=by
 refine Ahw Yc λxs ls K h=>?_;obtain⟨s,c,ci,ph,lf,l0,d0,tn,tl,tf,db,dl,gr,df,nn,nl,g,nf,fo,sz,hx,hl,hc,V,hp,hd,O,h⟩:=h;refine⟨s,c,ci,ph,lf,l0,d0,tn,tl,tf,db,dl,gr,df,nn,nl,g,nf,fo,sz,hx,hl,hc,V,hp,hd,O,λe he=>⟨λbA=>?_,λh0 jK xV rO xR xT DF fh fj bh bj g2 bk fe yO V2 N2=>?_⟩⟩
 .rcases o9 (c:=c) hp with e0|e6|e3
  .exact absurd (he.trans e0) bA
  .have e6:=he.trans e6
   subst e6;exact⟨.int .i64 (.l 6),Af rfl,(h 6 he).1 rfl⟩
  .have e3:=he.trans e3
   subst e3;exact⟨.int .i64 (.l 3),Af rfl,(h 3 he).2.1 rfl⟩
 .exact⟨_,aM.refl _,(h e he).2.2 h0 jK xV rO xR xT DF fh fj bh bj g2 bk fe yO V2 N2⟩
def sI:aB:=λ_ xs ls K=>∃(s:Ch) (ln dt:List UInt8) (ph lf:Int) (tn:Bool) (tl:Int) (tf:Nat->List SV) (b1:Bool) (n1:Int) (f1:Nat->List SV) (b2:Bool) (n2 g:Int) (f2:Nat->List SV) (fo sz:Int),
 xs=[.ptr 0 0]/\ls=[.aF 220 [.int .i64 (.a ph),.str ln,.str dt,.int .i64 (.a lf),.sl (.a tn) (.a tl) 2 tf,.sl (.a b1) (.a n1) 1 f1,.cR (.a b2) (.a n2) (.a g) 1,.int .i64 (.a fo),.int .i64 (.a sz)],.vec 5 (.a n2) (.a g) 1 f2]/\
 ln=s.line/\dt=s.data/\ph=s.phase/\lf=s.left/\A0 tf tl s.aE/\Nd s/\s.line.length<=1000000/\fo=0/\sz=0/\
 ((s.phase=0->Cq s.line)->∀ph dl df nn nl g' nf fo sz,Eo s ph lf tl tf dl df nl nf fo sz->nn=kx s->g'=gB s g->K (.bool (.a true)) [.aF 220 [.int .i64 (.a ph),.str ln,.str dt,.int .i64 (.a lf),.sl (.a tn) (.a tl) 2 tf,.bV (.a false) (.a dl) 2,.cR (.a nn) (.a nl) (.a g') 1,.int .i64 (.a fo),.int .i64 (.a sz)],.vec 5 (.a nl) (.a g') 1 nf,.own 5 (.a dl) 1 false df])/\
 (¬(s.phase=0->Cq s.line)->K (.bool (.a false)) [.gone,.gone]/\K (.bool (.a false)) [.gone,.gone,.gone])
structure al0(s:Ch)(i:Nat)(I:Int)(m:Nat)(ph lf:Int)(tl:Int)(tf:Nat->List SV)(dl:Int)(df:Nat->List SV)(nn:Bool)(nl g G:Int)(nf:Nat->List SV)(fo sz:Int):Prop where
 at_:AtR s.line i I m
 rd:Eo (Ed s i) ph lf tl tf dl df nl nf fo sz
 en:nn=(s.line.take i).isEmpty
 eg:G=g+1+(i:Int)
 lo:Cq (s.line.take i)
def ah1(s:Ch)(ln dt:List UInt8)(tn:Bool)(g N:Int)(m:Nat)(vs:List (Option SV))(hp:List Hl):Prop :=
 ∃(i:Nat) (I ph lf tl:Int) (tf:Nat->List SV) (dl:Int) (df:Nat->List SV) (db nn:Bool) (nl G:Int) (nf:Nat->List SV) (fo sz:Int),vs=[some (.ptr 0 0),some (.str ln),some (.int .i64 (.a N)),some (.int .i64 (.a I))]/\
  hp=[.aF 220 [.int .i64 (.a ph),.str ln,.str dt,.int .i64 (.a lf),.sl (.a tn) (.a tl) 2 tf,.bV (.a db) (.a dl) 2,.cR (.a nn) (.a nl) (.a G) 1,.int .i64 (.a fo),.int .i64 (.a sz)],.vec 5 (.a nl) (.a G) 1 nf,.own 5 (.a dl) 1 false df]/\db=false/\al0 s i I m ph lf tl tf dl df nn nl g G nf fo sz
theorem Aku:Ap Tryz.prog gl 238 sI:=by
 refine Bu (gh:=[(999983,[]),(2,[.pA 0 6 1]),(4,[.rM 0 6 1])]) mixed Du (Al Aft Ae) Tryz.func238 (by kernel_rfl) (by kernel_rfl) ?_;intro xs ls K h;unfold sI at h;obtain⟨s,ln0,dt0,ph,lf,tn,tl,tf,b1,n1,f1,b2,n2,g,f2,fo,sz,rfl,rfl,rfl,rfl,eB,mE,hR,hO,mD,mX,bC,h⟩:=h;have V0:Eo s s.phase lf tl tf s.data.length (aQ s.data) s.line.length (aQ s.line) (if s.phase=0 then Bg s.line else 0) (if s.phase=0 then ((Bb s.line).2:Int) else 0):=⟨rfl,mE,hR,⟨rfl,λi _=>rfl⟩,⟨rfl,λi _=>rfl⟩,rfl,rfl⟩;obtain⟨r,L,hL,hF,hK⟩:∃r L,((s.phase=0->Cq s.line)->r=.bool (.a true)/\L=[.aF 220 [.int .i64 (.a s.phase),.str s.line,.str s.data,.int .i64 (.a lf),.sl (.a tn) (.a tl) 2 tf,.bV (.a false) (.a (s.data.length:Int)) 2,.cR (.a (kx s)) (.a (s.line.length:Int)) (.a (gB s g)) 1,.int .i64 (.a (if s.phase=0 then Bg s.line else 0)),.int .i64 (.a (if s.phase=0 then ((Bb s.line).2:Int) else 0))],.vec 5 (.a (s.line.length:Int)) (.a (gB s g)) 1 (aQ s.line),.own 5 (.a (s.data.length:Int)) 1 false (aQ s.data)])/\
   (¬(s.phase=0->Cq s.line)->(¬p9 s->r=.bool (.a false)/\L=[.gone,.gone])/\(p9 s->r=.bool (.a false)/\L=[.gone,.gone,.gone]))/\K r L:=by
  by_cases hc:s.phase=0->Cq s.line
  .exact⟨_,_,λ_=>⟨rfl,rfl⟩,λg=>absurd hc g,h.1 hc _ _ _ _ _ _ _ _ _ V0 rfl rfl⟩
  .by_cases ho:p9 s
   .exact⟨_,_,λg=>absurd g hc,λ_=>⟨λg=>absurd ho g,λ_=>⟨rfl,rfl⟩⟩,(h.2 hc).2⟩
   .exact⟨_,_,λg=>absurd g hc,λ_=>⟨λ_=>⟨rfl,rfl⟩,λg=>absurd g ho⟩,(h.2 hc).1⟩
 clear h;have HL:dX s.line.length 1000000:=⟨mD⟩;have HD:dX s.data.length 65536:=⟨hO.data⟩;obtain⟨ln,fN⟩:∃ln,ln=s.line:=⟨_,rfl⟩;obtain⟨dt,mG⟩:∃dt,dt=s.data:=⟨_,rfl⟩;rw[<-fN,<-mG];refine⟨_,_,hK,λD hD=>?_⟩;clear hK mD;cbv;refine⟨⟨by rw[mG];have:=HD.h;omega⟩,λf3 eV=>?_⟩;cbv;have R3:Bo f3 s.data.length s.data:=⟨rfl,λi _=>by rw[eV.h,mG];rfl⟩;clear eV;intro g3 gA;cbv;have EG3:oZ g3 (g+1):=⟨by subst hD;exact gA.h⟩;clear gA;refine br hD (λhb=>?_) (λhb=>?_)<;>cbv
 .have hp:s.phase≠0:=by
   have hb:(ph != 0)=true:=by subst hD;exact hb
   rw[eB,bne_iff_ne]at hb;exact hb
  refine⟨⟨by rw[fN];have:=HL.h;omega⟩,λf4 hf4=>?_⟩;cbv;have R4:Bo f4 s.line.length s.line:=⟨rfl,λi _=>by rw[hf4.h,fN];rfl⟩;clear hf4;refine⟨⟨rfl⟩,λg4 iD=>?_⟩;cbv;have EG4:g4=g+2:=by
   have:=EG3.h;have h6:g4=g3+1:=by subst hD;exact iD.h
   omega
  clear iD;have V2:Eo s ph lf tl tf s.data.length f3 s.line.length f4 fo sz:=⟨eB,mE,hR,R3,R4,by rw[QA hp];exact mX,by rw[QA hp];exact bC⟩;have gU:gB s g=g+2:=by unfold gB;rw[QA hp]
  have iT:kx s=false:=by unfold kx;rw[QA hp]
  obtain⟨bP,hL⟩:=hL λe=>absurd e hp;rw[bP,hL,gU,iT];subst hD fN mG;exact ug V2 V0 (aM.refl _) ⟨rfl,rfl⟩ ⟨rfl,rfl⟩ ⟨rfl,rfl,rfl⟩ ⟨rfl,rfl,rfl,rfl,rfl⟩ ⟨rfl,rfl,rfl,rfl,rfl⟩ ⟨by exact EG4,by exact EG4⟩ ⟨rfl,rfl⟩ ⟨rfl,rfl⟩
 have hp:s.phase=0:=by
  have hb:(ph != 0)=false:=by subst hD;exact hb
  rw[eB]at hb;simpa using hb
 clear hb;obtain⟨N,hN⟩:∃N:Int,N=ln.length:=⟨_,rfl⟩;obtain⟨J,hJ⟩:∃J,J=ah1 s ln dt tn g N:=⟨_,rfl⟩;have VN:VI N s.line.length:=⟨by rw[hN,fN]⟩;refine⟨[0,3,34,35],J,⟨rfl,s.line.length,?_⟩,?_⟩
 .rw[hJ]
  subst hD hN fN mG;refine⟨0,_,_,_,_,_,_,_,_,_,_,_,_,_,_,rfl,rfl,rfl,⟨AtR.zero (by have:=HL.h;omega),⟨?_,mE,hR,R3,⟨rfl,λi hi=>by cases hi⟩,?_,?_⟩,rfl,by have:=EG3.h;show g3=_;omega,λi hi=>by cases hi⟩⟩
  .show ph=0;rw[eB,hp]
  .show fo=if (0:Int)=0 then Bg [] else 0;rw[mX];rfl
  .show sz=if (0:Int)=0 then ((Bb []).2:Int) else 0;rw[bC];rfl
 have ENl:oZ N (ln.length:Int):=⟨hN⟩;clear R3 EG3 hN;intro m vs pU hv;rw[hJ]at hv;obtain⟨i,I,eW,gK,iC,gT,dl,df,db,nn,nl,G,nf,qV,cH,rfl,rfl,nG,B⟩:=hv;cbv;refine br hD (λhb=>?_) (λhb=>?_)<;>cbv
 .have hb:decide (I<N)=true:=by subst hD;exact hb
  have aC:=B.at_.lt VN.h (QT hb);clear hb;refine⟨⟨by subst hD;show 0<=I;have:=B.at_.I;omega,by subst hD;show I<ln.length;rw[fN];have:=B.at_.I;omega⟩,λb hc=>?_⟩;cbv;have OW:=(Agh hD B.at_.I hc).of;rw[fN]at OW;clear hc;obtain⟨c,lH⟩:∃c:UInt8,c=s.line.getD i 0:=⟨_,rfl⟩;rw[<-lH]at OW;have hOi:=Afr hO hp B.lo
  by_cases hm:B8 (s.line.take i) c=0
  .have eY:=Zw (s:=s) (i:=i) (by rw[<-lH];exact hm) aC
   rw[<-lH]at eY;refine⟨Ed s i,c,D.i (.a b),D.i (.a eW),D.i (.a gK),ln,dt,D.b (.a tn),D.i (.a iC),gT,D.b (.a db),D.i (.a dl),false,df,D.b (.a nn),D.i (.a nl),D.i (.a G),nf,D.i (.a qV),D.i (.a cH),rfl,rfl,by subst hD;exact OW.symm,by subst hD;exact B.rd,rfl,by subst hD;exact nG,hOi,λe he=>⟨λh6=>?_,λh3=>?_,λh0 jK xV rO xR xT DF fh fj bh bj g2 bk fe yO V2 N2=>?_⟩⟩<;>cbv
   .rw[eY]at he
    have:(6:Int)=0:=h6.symm.trans he;exact absurd this (by decide)
   .rw[eY]at he
    have:(3:Int)=0:=h3.symm.trans he;exact absurd this (by decide)
   rw[eY]at V2 N2;have mZ:e=0:=h0;have pU:jK=0:=V2.gM;refine br hD (λhb=>?_) (λhb=>?_)<;>cbv
   .exfalso
    have hb:((e != 0)||(jK != 0))=true:=by subst hD;exact hb
    rw[mZ,pU]at hb;cases hb
   have cC:=(AtR.step hD B.at_ aC);refine⟨_,cC.1,?_⟩;rw[hJ];subst hD;refine⟨i+1,_,jK,xV,xR,xT,fh,fj,DF,bh,bj,g2,bk,fe,yO,rfl,?_,N2.ed,⟨cC.2,V2,?_,?_,Acs B.lo (by rw[<-lH];exact hm) aC⟩⟩
   .have ht:rO=tn:=by have:=N2.et;rw[QA (by show ¬(0:Int)=4;decide)]at this;exact this
    rw[ht];rfl
   .have:=N2.en;rw[QA (by show ¬(0:Int)=1;decide)]at this;exact this
   .have h1:=N2.eg
    rw[QA (by show ¬(0:Int)=1;decide),QA (by show ¬(0:Int)=4;decide)]at h1;have h2:=B.eg;have h3:g2=G+1:=h1
    push_cast
    omega
  .have kE:¬(s.phase=0->Cq s.line):=λg=>hm (by have:=g hp i aC;rw[lH];exact this)
   obtain⟨hF2,hF3⟩:=hF kE;refine⟨Ed s i,c,D.i (.a b),D.i (.a eW),D.i (.a gK),ln,dt,D.b (.a tn),D.i (.a iC),gT,D.b (.a db),D.i (.a dl),false,df,D.b (.a nn),D.i (.a nl),D.i (.a G),nf,D.i (.a qV),D.i (.a cH),rfl,rfl,by subst hD;exact OW.symm,by subst hD;exact B.rd,rfl,by subst hD;exact nG,hOi,λe he=>⟨λh6=>?_,λh3=>?_,λh0 jK xV rO xR xT DF fh fj bh bj g2 bk fe yO V2 N2=>?_⟩⟩<;>cbv
   .obtain⟨bP,hL⟩:=hF2 λO=>Ahf O B.lo (by rw[<-lH];exact hm) aC (by rw[<-lH,<-he];rw[h6];decide)
    rw[bP,hL];subst hD;exact Add (aM.refl _)
   .obtain⟨bP,hL⟩:=hF2 λO=>Ahf O B.lo (by rw[<-lH];exact hm) aC (by rw[<-lH,<-he];rw[h3];decide)
    rw[bP,hL];subst hD;exact Add (aM.refl _)
   .have bA:jK≠0:=by
     have h1:jK=(cF (Ed s i) c).1.phase:=V2.gM;rw[h1];exact o8 rfl hm (by rw[<-he];exact h0)
    refine br hD (λhb=>?_) (λhb=>?_)<;>cbv
    .obtain⟨bP,hL⟩:=hF3 ⟨i,aC,B.lo,by rw[<-lH];exact hm,by rw[<-lH,<-he];exact h0⟩
     rw[bP,hL];subst hD;exact Ah0 (aM.refl _)
    .exfalso
     have hb:((e != 0)||(jK != 0))=false:=by subst hD;exact hb
     rw[QU]at hb;have:=hb.2;simp at this;exact bA this
 .have hb:decide (I<N)=false:=by subst hD;exact hb
  have hi:=B.at_.eq VN.h (XA hb);have jZ:Cq s.line:=by have:=B.lo;rwa [hi,YC]at this
  have ns:Ed s i=s:=by
   unfold Ed;rw[hi,YC,<-hp]
  have V2:=B.rd;rw[ns]at V2;have gU:gB s g=g+1+(s.line.length:Int):=by unfold gB;rw[QC hp]
  have iT:kx s=s.line.isEmpty:=by unfold kx;rw[QC hp]
  have jR:=B.en;rw[hi,YC]at jR;have heg:=B.eg;rw[hi]at heg;obtain⟨bP,hL⟩:=hL λ_=>jZ;rw[bP,hL,gU,iT];subst hD fN mG;exact ug V2 V0 (aM.refl _) ⟨rfl,rfl⟩ ⟨rfl,rfl⟩ ⟨rfl,rfl,rfl⟩ ⟨by exact nG,rfl,rfl,rfl,rfl⟩ ⟨by exact jR,rfl,rfl,rfl,rfl⟩ ⟨by exact heg,by exact heg⟩ ⟨rfl,rfl⟩ ⟨rfl,rfl⟩
theorem NM{s':Ch}{p l tl dl nl fo sz p' l' iC yK dJ qV cH:Int}{df nf gy jL:Nat->List SV}(V:Eo s' p l tl tf dl df nl nf fo sz)(V':Eo s' p' l' iC gT yK gy dJ jL qV cH)
  {ph AL vE AK vD xm uA xl tZ gt zu gu zt z1 vC vp tW:ST} {l0 d0:List UInt8} {db zG nn jW:BT} {gr:Bool}
  (he:aM v v') (h1:ph.den=p/\eW.den=p') (h2:lf.den=l/\gK.den=l') (h3:tn.den=nK.den/\iv.den=tl/\qG.den=iC) (h4:db.den=zG.den/\AL.den=dl/\vE.den=yK/\AK.den=dl/\vD.den=yK) (h5:nn.den=jW.den/\xm.den=nl/\uA.den=dJ/\xl.den=nl/\tZ.den=dJ)
  (h6:gt.den=zu.den/\gu.den=zt.den) (h7:z1.den=fo/\vC.den=qV) (h8:vp.den=sz/\tW.den=cH):
  Fin v v' [.aF 220 [.int .i64 ph,.str l0,.str d0,.int .i64 lf,.sl tn iv 2 tf,.bV db AL 1,.cR nn xm gt 2,.int .i64 z1,.int .i64 vp],.own 5 AK 1 gr df,.vec 5 xl gu 1 nf]
   [.aF 220 [.int .i64 eW,.str l0,.str d0,.int .i64 gK,.sl nK qG 2 gT,.bV zG vE 1,.cR jW uA zu 2,.int .i64 vC,.int .i64 tW],.own 5 vD 1 gr gy,.vec 5 tZ zt 1 jL]:=by
 have:=J6 V V' (t:=.l 0) (t':=.l 0) (l0:=l0) (d0:=d0) (gr:=gr) rfl h1 h2 h3 h4 h5 h6 h7 h8;exact⟨he,this.h,this.len⟩
def vr:aB:=λ_ xs ls K=>∃(s:Ch) (ln dt:List UInt8) (ph lf:Int) (tn:Bool) (tl:Int) (tf:Nat->List SV),
 xs=[.agg [.int .i64 (.a ph),.str ln,.str dt,.int .i64 (.a lf),.sl (.a tn) (.a tl) 2 tf]]/\ls=[]/\ln=s.line/\dt=s.data/\ph=s.phase/\lf=s.left/\A0 tf tl s.aE/\D7 s/\(s.phase=4->Hr s.aE)/\
 ∀ph dl df nl nf fo sz nn g,Eo s ph lf tl tf dl df nl nf fo sz->nn=kx s->g=gB s 0->K (.aI [.ptr 0 0,.int .i64 (.a 0)]) [.aF 220 (yQ ph ln dt lf tn tl tf false dl nn nl g fo sz),.own 5 (.a dl) 1 false df,.vec 5 (.a nl) (.a g) 1 nf]
theorem Q6(hO:D7 s):s.line.length<=1000000:=by
 rcases hO.ph with h|h|h|h|h
 .have:=U3 (hO.p0 h);omega
 .rw[(hO.p1 h).1];simp
 .rcases (hO.p2 h).1 with e|e<;>rw[e]<;>simp
 .have:=(H4 (hO.p3 h)).1;omega
 .rw[(hO.p4 h).1];simp
set_option maxHeartbeats 8000000
theorem D7.pre(h:D7 s):Nd s:=⟨h.data,h.left,h.gN⟩
theorem AU(P:Nd s)(h:s.phase=0):D7 s↔Cq s.line :=
 ⟨λO=>O.p0 h,λg=>⟨P.data,P.left,P.gN,.inl h,λ_=>g,λe=>by omega,λe=>by omega,λe=>by omega,λe=>by omega⟩⟩
theorem LB(P:Nd s)(h:s.phase=1):D7 s↔(s.line=[]/\1<=s.left/\s.left<=65536-(s.data.length:Int)) :=
 ⟨λO=>O.p1 h,λg=>⟨P.data,P.left,P.gN,.inr (.inl h),λe=>by omega,λ_=>g,λe=>by omega,λe=>by omega,λe=>by omega⟩⟩
theorem LA(P:Nd s)(h:s.phase=2):D7 s↔((s.line=[]\/s.line=[13])/\s.data≠[]) :=
 ⟨λO=>O.p2 h,λg=>⟨P.data,P.left,P.gN,.inr (.inr (.inl h)),λe=>by omega,λe=>by omega,λ_=>g,λe=>by omega,λe=>by omega⟩⟩
theorem KZ(P:Nd s)(h:s.phase=3):D7 s↔(A7 s.line).2.2=10 :=
 ⟨λO=>O.p3 h,λg=>⟨P.data,P.left,P.gN,.inr (.inr (.inr (.inl h))),λe=>by omega,λe=>by omega,λe=>by omega,λ_=>g,λe=>by omega⟩⟩
theorem KY(P:Nd s)(h:s.phase=4):D7 s↔(s.line=[]/\A9 s.aE=0/\Wa s.aE=false) :=
 ⟨λO=>O.p4 h,λg=>⟨P.data,P.left,P.gN,.inr (.inr (.inr (.inr h))),λe=>by omega,λe=>by omega,λe=>by omega,λe=>by omega,λ_=>g⟩⟩
theorem Ajj{l:List HF}(h:A9 l=0):Hr l:=⟨λx hx=>Zb (((Ic l).1 h).2.1 x hx).name⟩
def wJ:aB:=λ_ xs ls K=>∃(s:Ch) (ln dt:List UInt8) (ph lf:Int) (tn:Bool) (tl:Int) (tf:Nat->List SV),
 xs=[.agg [.int .i64 (.a ph),.str ln,.str dt,.int .i64 (.a lf),.sl (.a tn) (.a tl) 2 tf]]/\ls=[]/\ln=s.line/\dt=s.data/\ph=s.phase/\lf=s.left/\A0 tf tl s.aE/\dX ln.length 1000000/\dX dt.length 9223372036854775807/\
 (D7 s->∀ph dl df nl nf fo sz nn g,Eo s ph lf tl tf dl df nl nf fo sz->nn=kx s->g=gB s 0->K (.aI [.ptr 0 0,.int .i64 (.a 0)]) [.aF 220 (yQ ph ln dt lf tn tl tf false dl nn nl g fo sz),.own 5 (.a dl) 1 false df,.vec 5 (.a nl) (.a g) 1 nf])/\
 (¬D7 s->K (.aI [.eX,.int .i64 (.a 6)]) [])
theorem Uj:Ap Tryz.prog gl 185 wJ:=by
 refine Bu (gh:=[(1,[.rN 4 6 5]),(2000015,[.yL 5]),(8000141,[])]) mixed Du (Aa Qq (Aa Ia (Aa Aog (Al Aku Ae)))) Tryz.func185 (by kernel_rfl) (by kernel_rfl) ?_;intro xs ls K h;unfold wJ at h;obtain⟨s,ln0,dt0,ph,lf,tn,tl,tf,rfl,rfl,rfl,rfl,eB,mE,hR,HL,HD,h⟩:=h;have V0:Eo s s.phase lf tl tf s.data.length (aQ s.data) s.line.length (aQ s.line) (if s.phase=0 then Bg s.line else 0) (if s.phase=0 then ((Bb s.line).2:Int) else 0):=⟨rfl,mE,hR,⟨rfl,λi _=>rfl⟩,⟨rfl,λi _=>rfl⟩,rfl,rfl⟩;obtain⟨r,L,hL,hB,hK⟩:∃r L,(D7 s->r=.aI [.ptr 0 0,.int .i64 (.a 0)]/\L=[.aF 220 (yQ s.phase s.line s.data lf tn tl tf false s.data.length (kx s) s.line.length (gB s 0) (if s.phase=0 then Bg s.line else 0) (if s.phase=0 then ((Bb s.line).2:Int) else 0)),.own 5 (.a (s.data.length:Int)) 1 false (aQ s.data),.vec 5 (.a (s.line.length:Int)) (.a (gB s 0)) 1 (aQ s.line)])/\
   (¬D7 s->r=.aI [.eX,.int .i64 (.a 6)]/\L=[])/\K r L:=by
  by_cases hc:D7 s
  .exact⟨_,_,λ_=>⟨rfl,rfl⟩,λg=>absurd hc g,h.1 hc _ _ _ _ _ _ _ _ _ V0 rfl rfl⟩
  .exact⟨_,_,λg=>absurd g hc,λ_=>⟨rfl,rfl⟩,h.2 hc⟩
 clear h;obtain⟨ln,fN⟩:∃ln,ln=s.line:=⟨_,rfl⟩;obtain⟨dt,mG⟩:∃dt,dt=s.data:=⟨_,rfl⟩;rw[<-fN]at HL;rw[<-mG]at HD;rw[<-fN,<-mG];obtain⟨g0,oE⟩:∃g0,g0=((decide ((dt.length:Int)<=65536)&&((ph==1)==(lf != 0)))&&((ph==4)||(tl==0))):=⟨_,rfl⟩;have uM:g0=true↔Nd s:=by
  rw[oE,QE,QE,QG,QO,XS,QO,QO,XY,QO,bne_iff_ne];have hn:=hR.n;rw[mG,eB,mE];constructor
  .rintro⟨⟨a,b⟩,c⟩
   exact⟨by omega,b,c.imp id λe=>XH (by omega)⟩
  .intro P
   exact⟨⟨by have:=P.data;omega,P.left⟩,P.gN.imp id λe=>by rw[hn,e];rfl⟩
 refine⟨_,_,hK,λD hD=>?_⟩;clear hK;cbv;refine br hD (λhb=>?_) (λhb=>?_)<;>cbv
 .have hp:ph=0:=by
   have hb:(ph==0)=true:=by subst hD;exact hb
   exact eq_of_beq hb
  clear hb;have hs:s.phase=0:=by rw[<-eB,hp]
  rcases YH (((decide ((dt.length:Int)<=65536)&&((ph==1)==(lf != 0)))&&((ph==4)||(tl==0)))) with fQ|fQ
  .refine⟨true,⟨by subst hD;exact fQ⟩,?_⟩
   cbv;refine⟨s,ln,dt,D.i (.a ph),D.i (.a lf),D.b (.a tn),D.i (.a tl),tf,_,_,_,_,_,_,_,_,_,rfl,rfl,fN,mG,by subst hD;exact eB,by subst hD;exact mE,by subst hD;exact hR,uM.1 (oE.trans fQ),by rw[<-fN];exact HL.h,by subst hD;rfl,by subst hD;rfl,λjZ jK fh fj bh bj g2 bk fe yO V2 iT kV=>?_,λkE=>⟨?_,?_⟩⟩<;>cbv
   ·
    refine br hD (λhb=>?_) (λhb=>?_)<;>cbv
    .exfalso
     have hb:(!true)=true:=by subst hD;exact hb
     cases hb
    .obtain⟨bP,hL⟩:=hL ((AU (uM.1 (oE.trans fQ)) hs).2 (jZ hs))
     rw[bP,hL];subst hD fN mG;exact NM V2 V0 (.aI (.cons (aM.refl _) (.cons (Af rfl) .nil))) ⟨rfl,rfl⟩ ⟨rfl,rfl⟩ ⟨rfl,rfl,rfl⟩ ⟨rfl,rfl,rfl,rfl,rfl⟩ ⟨by exact iT,rfl,rfl,rfl,rfl⟩ ⟨by exact kV,by exact kV⟩ ⟨rfl,rfl⟩ ⟨rfl,rfl⟩
   ·
    refine br hD (λhb=>?_) (λhb=>?_)<;>cbv
    .obtain⟨bP,bZ⟩:=hB (λO=>kE λ_=>O.p0 hs)
     rw[bP,bZ];subst hD;exact Cm (.aI (.cons (aM.refl _) (.cons (Af rfl) .nil)))
    .exfalso
     have hb:(!false)=false:=by subst hD;exact hb
     cases hb
   ·
    refine br hD (λhb=>?_) (λhb=>?_)<;>cbv
    .obtain⟨bP,bZ⟩:=hB (λO=>kE λ_=>O.p0 hs)
     rw[bP,bZ];subst hD;exact Cm (.aI (.cons (aM.refl _) (.cons (Af rfl) .nil)))
    .exfalso
     have hb:(!false)=false:=by subst hD;exact hb
     cases hb
  .refine⟨false,⟨by subst hD;exact fQ⟩,?_⟩
   cbv;obtain⟨bP,bZ⟩:=hB (λO=>by have:=uM.2 O.pre;rw[oE,fQ]at this;cases this);rw[bP,bZ];subst hD;exact Cm (.aI (.cons (aM.refl _) (.cons (Af rfl) .nil)))
 have wZ:ph≠0:=by
  have hb:(ph==0)=false:=by subst hD;exact hb
  simpa using hb
 clear hb;refine br hD (λhb=>?_) (λhb=>?_)<;>cbv
 .have hp:ph=1:=by
   have hb:(ph==1)=true:=by subst hD;exact hb
   exact eq_of_beq hb
  clear hb;have hs:s.phase=1:=by rw[<-eB,hp]
  have hw:IntKind.i64.wrap (65536-(dt.length:Int))=65536-(dt.length:Int):=wrap64 (by have:=HD.h;omega) (by omega);have kA:(((((decide ((dt.length:Int)<=65536)&&((ph==1)==(lf != 0)))&&((ph==4)||(tl==0)))&&(ln==[]))&&decide (1<=lf))&&decide (lf<=IntKind.i64.wrap (65536-(dt.length:Int))))=true↔D7 s:=by
   rw[hw,QE,QE,QE,<-oE,uM,QG,QG,QO,fN,mG,mE];exact⟨λ⟨⟨⟨a,b⟩,c⟩,d⟩=>(LB a hs).2 ⟨b,c,d⟩,λO=>⟨⟨⟨O.pre,(O.p1 hs).1⟩,(O.p1 hs).2.1⟩,(O.p1 hs).2.2⟩⟩
  rcases YH ((((((decide ((dt.length:Int)<=65536)&&((ph==1)==(lf != 0)))&&((ph==4)||(tl==0)))&&(ln==[]))&&decide (1<=lf))&&decide (lf<=IntKind.i64.wrap (65536-(dt.length:Int))))) with fQ|fQ
  .refine⟨true,⟨by subst hD;exact fQ⟩,?_⟩
   cbv;refine⟨s,ln,dt,D.i (.a ph),D.i (.a lf),D.b (.a tn),D.i (.a tl),tf,_,_,_,_,_,_,_,_,_,rfl,rfl,fN,mG,by subst hD;exact eB,by subst hD;exact mE,by subst hD;exact hR,(kA.1 fQ).pre,by rw[<-fN];exact HL.h,by subst hD;rfl,by subst hD;rfl,λjZ jK fh fj bh bj g2 bk fe yO V2 iT kV=>?_,λkE=>⟨?_,?_⟩⟩<;>cbv
   ·
    refine br hD (λhb=>?_) (λhb=>?_)<;>cbv
    .exfalso
     have hb:(!true)=true:=by subst hD;exact hb
     cases hb
    .obtain⟨bP,hL⟩:=hL (kA.1 fQ)
     rw[bP,hL];subst hD fN mG;exact NM V2 V0 (.aI (.cons (aM.refl _) (.cons (Af rfl) .nil))) ⟨rfl,rfl⟩ ⟨rfl,rfl⟩ ⟨rfl,rfl,rfl⟩ ⟨rfl,rfl,rfl,rfl,rfl⟩ ⟨by exact iT,rfl,rfl,rfl,rfl⟩ ⟨by exact kV,by exact kV⟩ ⟨rfl,rfl⟩ ⟨rfl,rfl⟩
   .exfalso
    exact kE λe=>absurd e (by omega)
   .exfalso
    exact kE λe=>absurd e (by omega)
  .refine⟨false,⟨by subst hD;exact fQ⟩,?_⟩
   cbv;obtain⟨bP,bZ⟩:=hB (λO=>by rw[kA.2 O]at fQ;cases fQ);rw[bP,bZ];subst hD;exact Cm (.aI (.cons (aM.refl _) (.cons (Af rfl) .nil)))
 have pV:ph≠1:=by
  have hb:(ph==1)=false:=by subst hD;exact hb
  simpa using hb
 clear hb;refine br hD (λhb=>?_) (λhb=>?_)<;>cbv
 .have hp:ph=2:=by
   have hb:(ph==2)=true:=by subst hD;exact hb
   exact eq_of_beq hb
  clear hb;have hs:s.phase=2:=by rw[<-eB,hp]
  have kA:((((decide ((dt.length:Int)<=65536)&&((ph==1)==(lf != 0)))&&((ph==4)||(tl==0)))&&((ln==[])||(ln==[13])))&&!(dt==[]))=true↔D7 s:=by
   rw[QE,QE,<-oE,uM,XS,QO,QO,XL,beq_eq_false_iff_ne,fN,mG];exact⟨λ⟨⟨a,b⟩,c⟩=>(LA a hs).2 ⟨b,c⟩,λO=>⟨⟨O.pre,(O.p2 hs).1⟩,(O.p2 hs).2⟩⟩
  rcases YH (((((decide ((dt.length:Int)<=65536)&&((ph==1)==(lf != 0)))&&((ph==4)||(tl==0)))&&((ln==[])||(ln==[13])))&&!(dt==[]))) with fQ|fQ
  .refine⟨true,⟨by subst hD;exact fQ⟩,?_⟩
   cbv;refine⟨s,ln,dt,D.i (.a ph),D.i (.a lf),D.b (.a tn),D.i (.a tl),tf,_,_,_,_,_,_,_,_,_,rfl,rfl,fN,mG,by subst hD;exact eB,by subst hD;exact mE,by subst hD;exact hR,(kA.1 fQ).pre,by rw[<-fN];exact HL.h,by subst hD;rfl,by subst hD;rfl,λjZ jK fh fj bh bj g2 bk fe yO V2 iT kV=>?_,λkE=>⟨?_,?_⟩⟩<;>cbv
   ·
    refine br hD (λhb=>?_) (λhb=>?_)<;>cbv
    .exfalso
     have hb:(!true)=true:=by subst hD;exact hb
     cases hb
    .obtain⟨bP,hL⟩:=hL (kA.1 fQ)
     rw[bP,hL];subst hD fN mG;exact NM V2 V0 (.aI (.cons (aM.refl _) (.cons (Af rfl) .nil))) ⟨rfl,rfl⟩ ⟨rfl,rfl⟩ ⟨rfl,rfl,rfl⟩ ⟨rfl,rfl,rfl,rfl,rfl⟩ ⟨by exact iT,rfl,rfl,rfl,rfl⟩ ⟨by exact kV,by exact kV⟩ ⟨rfl,rfl⟩ ⟨rfl,rfl⟩
   .exfalso
    exact kE λe=>absurd e (by omega)
   .exfalso
    exact kE λe=>absurd e (by omega)
  .refine⟨false,⟨by subst hD;exact fQ⟩,?_⟩
   cbv;obtain⟨bP,bZ⟩:=hB (λO=>by rw[kA.2 O]at fQ;cases fQ);rw[bP,bZ];subst hD;exact Cm (.aI (.cons (aM.refl _) (.cons (Af rfl) .nil)))
 have pU:ph≠2:=by
  have hb:(ph==2)=false:=by subst hD;exact hb
  simpa using hb
 clear hb;refine br hD (λhb=>?_) (λhb=>?_)<;>cbv
 .have hp:ph=3:=by
   have hb:(ph==3)=true:=by subst hD;exact hb
   exact eq_of_beq hb
  clear hb;have hs:s.phase=3:=by rw[<-eB,hp]
  refine⟨⟨by have:=HL.h;omega⟩,λf3 eV=>?_⟩;cbv;have R3:Bo f3 ln.length ln:=⟨rfl,λi _=>by rw[eV.h];rfl⟩;refine⟨ln,_,_,f3,rfl,rfl,by subst hD;exact R3,HL.h,λl f5 n5 b5 k5 e5 yE G5=>?_⟩;cbv;have he5:e5=(A7 s.line).2.2:=by rw[<-fN,<-yE]
  clear yE eV;have kA:(((decide ((dt.length:Int)<=65536)&&((ph==1)==(lf != 0)))&&((ph==4)||(tl==0)))&&(e5==10))=true↔D7 s:=by
   rw[QE,<-oE,uM,QO,he5];exact⟨λ⟨a,b⟩=>(KZ a hs).2 b,λO=>⟨O.pre,O.p3 hs⟩⟩
  rcases YH ((((decide ((dt.length:Int)<=65536)&&((ph==1)==(lf != 0)))&&((ph==4)||(tl==0)))&&(e5==10))) with fQ|fQ
  .refine⟨true,⟨by subst hD;exact fQ⟩,?_⟩
   cbv;refine⟨s,ln,dt,D.i (.a ph),D.i (.a lf),D.b (.a tn),D.i (.a tl),tf,_,_,_,_,_,_,_,_,_,rfl,rfl,fN,mG,by subst hD;exact eB,by subst hD;exact mE,by subst hD;exact hR,(kA.1 fQ).pre,by rw[<-fN];exact HL.h,by subst hD;rfl,by subst hD;rfl,λjZ jK fh fj bh bj g2 bk fe yO V2 iT kV=>?_,λkE=>⟨?_,?_⟩⟩<;>cbv
   ·
    refine br hD (λhb=>?_) (λhb=>?_)<;>cbv
    .exfalso
     have hb:(!true)=true:=by subst hD;exact hb
     cases hb
    .obtain⟨bP,hL⟩:=hL (kA.1 fQ)
     rw[bP,hL];subst hD fN mG;exact NM V2 V0 (.aI (.cons (aM.refl _) (.cons (Af rfl) .nil))) ⟨rfl,rfl⟩ ⟨rfl,rfl⟩ ⟨rfl,rfl,rfl⟩ ⟨rfl,rfl,rfl,rfl,rfl⟩ ⟨by exact iT,rfl,rfl,rfl,rfl⟩ ⟨by exact kV,by exact kV⟩ ⟨rfl,rfl⟩ ⟨rfl,rfl⟩
   .exfalso
    exact kE λe=>absurd e (by omega)
   .exfalso
    exact kE λe=>absurd e (by omega)
  .refine⟨false,⟨by subst hD;exact fQ⟩,?_⟩
   cbv;obtain⟨bP,bZ⟩:=hB (λO=>by rw[kA.2 O]at fQ;cases fQ);rw[bP,bZ];subst hD;exact Cm (.aI (.cons (aM.refl _) (.cons (Af rfl) .nil)))
 have WK:ph≠3:=by
  have hb:(ph==3)=false:=by subst hD;exact hb
  simpa using hb
 clear hb;refine br hD (λhb=>?_) (λhb=>?_)<;>cbv
 .have hp:ph=4:=by
   have hb:(ph==4)=true:=by subst hD;exact hb
   exact eq_of_beq hb
  clear hb;have hs:s.phase=4:=by rw[<-eB,hp]
  refine⟨s.aE,_,_,tf,rfl,rfl,by subst hD;exact hR,λr1 bP=>?_⟩;cbv;have za:((((decide ((dt.length:Int)<=65536)&&((ph==1)==(lf != 0)))&&((ph==4)||(tl==0)))&&(ln==[]))&&(r1==0))=true↔(Nd s/\s.line=[])/\A9 s.aE=0:=by
   rw[QE,QE,<-oE,uM,QO,QO,fN,bP]
  refine br hD (λhb=>?_) (λhb=>?_)<;>cbv
  .have hb:((((decide ((dt.length:Int)<=65536)&&((ph==1)==(lf != 0)))&&((ph==4)||(tl==0)))&&(ln==[]))&&(r1==0))=true:=by subst hD;exact hb
   refine⟨s.aE,_,_,tf,rfl,rfl,by subst hD;exact hR,Ajj (za.1 hb).2,λr2 bZ=>?_⟩;cbv;have kA:(((((decide ((dt.length:Int)<=65536)&&((ph==1)==(lf != 0)))&&((ph==4)||(tl==0)))&&(ln==[]))&&(r1==0))&&!r2)=true↔D7 s:=by
    rw[QE,za,XL,bZ];exact⟨λ⟨⟨⟨a,b⟩,c⟩,d⟩=>(KY a hs).2 ⟨b,c,d⟩,λO=>⟨⟨⟨O.pre,(O.p4 hs).1⟩,(O.p4 hs).2.1⟩,(O.p4 hs).2.2⟩⟩
   clear hb;rcases YH ((((((decide ((dt.length:Int)<=65536)&&((ph==1)==(lf != 0)))&&((ph==4)||(tl==0)))&&(ln==[]))&&(r1==0))&&!r2)) with fQ|fQ
   .refine⟨true,⟨by subst hD;exact fQ⟩,?_⟩
    cbv;refine⟨s,ln,dt,D.i (.a ph),D.i (.a lf),D.b (.a tn),D.i (.a tl),tf,_,_,_,_,_,_,_,_,_,rfl,rfl,fN,mG,by subst hD;exact eB,by subst hD;exact mE,by subst hD;exact hR,(kA.1 fQ).pre,by rw[<-fN];exact HL.h,by subst hD;rfl,by subst hD;rfl,λjZ jK fh fj bh bj g2 bk fe yO V2 iT kV=>?_,λkE=>⟨?_,?_⟩⟩<;>cbv
    ·
     refine br hD (λhb=>?_) (λhb=>?_)<;>cbv
     .exfalso
      have hb:(!true)=true:=by subst hD;exact hb
      cases hb
     .obtain⟨bP,hL⟩:=hL (kA.1 fQ)
      rw[bP,hL];subst hD fN mG;exact NM V2 V0 (.aI (.cons (aM.refl _) (.cons (Af rfl) .nil))) ⟨rfl,rfl⟩ ⟨rfl,rfl⟩ ⟨rfl,rfl,rfl⟩ ⟨rfl,rfl,rfl,rfl,rfl⟩ ⟨by exact iT,rfl,rfl,rfl,rfl⟩ ⟨by exact kV,by exact kV⟩ ⟨rfl,rfl⟩ ⟨rfl,rfl⟩
    .exfalso
     exact kE λe=>absurd e (by omega)
    .exfalso
     exact kE λe=>absurd e (by omega)
   .refine⟨false,⟨by subst hD;exact fQ⟩,?_⟩
    cbv;obtain⟨bP,bZ⟩:=hB (λO=>by rw[kA.2 O]at fQ;cases fQ);rw[bP,bZ];subst hD;exact Cm (.aI (.cons (aM.refl _) (.cons (Af rfl) .nil)))
  .have hb:((((decide ((dt.length:Int)<=65536)&&((ph==1)==(lf != 0)))&&((ph==4)||(tl==0)))&&(ln==[]))&&(r1==0))=false:=by subst hD;exact hb
   have kE:¬D7 s:=λO=>by
    rw[za.2 ⟨⟨O.pre,(O.p4 hs).1⟩,(O.p4 hs).2.1⟩]at hb;cases hb
   refine⟨false,⟨by subst hD;show (((((decide ((dt.length:Int)<=65536)&&((ph==1)==(lf != 0)))&&((ph==4)||(tl==0)))&&(ln==[]))&&(r1==0))&&_)=false;rw[hb];rfl⟩,?_⟩;cbv;obtain⟨bP,bZ⟩:=hB kE;rw[bP,bZ];subst hD;exact Cm (.aI (.cons (aM.refl _) (.cons (Af rfl) .nil)))
 .have hp4:ph≠4:=by
   have hb:(ph==4)=false:=by subst hD;exact hb
   simpa using hb
  clear hb;have kE:¬D7 s:=λO=>by
   have:=O.ph;rw[<-eB]at this;omega
  refine⟨false,⟨by subst hD;rfl⟩,?_⟩;cbv;obtain⟨bP,bZ⟩:=hB kE;rw[bP,bZ];subst hD;exact Cm (.aI (.cons (aM.refl _) (.cons (Af rfl) .nil)))
theorem ki:Ap Tryz.prog gl 185 vr:=by
 refine⟨Uj.1,λxs ls K h=>Uj.2 xs ls K ?_⟩;obtain⟨s,ln,dt,ph,lf,tn,tl,tf,hx,hl,h1,h2,h3,h4,hR,hO,_,h⟩:=h;exact⟨s,ln,dt,ph,lf,tn,tl,tf,hx,hl,h1,h2,h3,h4,hR,⟨by rw[h1];exact Q6 hO⟩,⟨by rw[h2];exact XP hO.data (by decide)⟩,λ_=>h,λg=>absurd hO g⟩
set_option maxHeartbeats 6000000
def kJ(s s':Ch)(tn:Bool):Bool:=if s'.phase=4/\s.phase≠4 then s'.aE.isEmpty else tn
structure fw(s:Ch)(ph lf tl:Int)(tf:Nat->List SV):Prop where
 gM:ph=s.phase
 iG:lf=s.left
 tr:A0 tf tl s.aE
def qY(ph lf:Int)(ln dt:List UInt8)(tn:Bool)(tl:Int)(tf:Nat->List SV):SV:=.agg [.int .i64 (.a ph),.str ln,.str dt,.int .i64 (.a lf),.sl (.a tn) (.a tl) 2 tf]
def sF:aB:=λ_ xs ls K=>∃(s:Ch) (b ln dt:List UInt8) (ph lf:Int) (tn:Bool) (tl:Int) (tf:Nat->List SV) (nb:Bool) (n:Int) (f:Nat->List SV),
 xs=[qY ph lf ln dt tn tl tf,.sl (.a nb) (.a n) 1 f]/\ls=[]/\ln=s.line/\dt=s.data/\fw s ph lf tl tf/\D7 s/\(s.phase=4->Hr s.aE)/\Bo f n b/\b.length<=1000000/\
 ∀k,k=Bm s b->(k.2.2≠0->K (.aI [qY ph lf ln dt tn tl tf,.int .i64 (.a 0),.int .i64 (.a k.2.2)]) [])/\
  (k.2.2=0->∀eW gK nK iC gT u,fw k.1 eW gK iC gT->nK=kJ s k.1 tn->u=(k.2.1:Int)->K (.aI [qY eW gK k.1.line k.1.data nK iC gT,.int .i64 (.a u),.int .i64 (.a 0)]) [])
structure CfJ(s:Ch)(b:List UInt8)(k:Ch×Nat×Int)(CG:Bool)(st:Ch)(i:Nat)(I:Int)(m:Nat)(ph lf:Int)(tn:Bool)(tl:Int)(tf:Nat->List SV)(dl:Int)(df:Nat->List SV)(nl:Int)(nf:Nat->List SV)(fo sz:Int):Prop where
 at_:AtR b i I m
 rd:Eo st ph lf tl tf dl df nl nf fo sz
 ok:D7 st
 ek:k=((Bm st (b.drop i)).1,i+(Bm st (b.drop i)).2.1,(Bm st (b.drop i)).2.2)
 et:tn=kJ s st CG
 e4:s.phase=4->st=s
def cfJ(s:Ch)(b ln dt:List UInt8)(ph0 lf0:Int)(CG:Bool)(tl0:Int)(tf0:Nat->List SV)(nb:Bool)(n:Int)(f:Nat->List SV)(k:Ch×Nat×Int)(m:Nat)(vs:List (Option SV))(hp:List Hl):Prop :=
 ∃(st:Ch) (i:Nat) (I ph lf:Int) (tn:Bool) (tl:Int) (tf:Nat->List SV) (db:Bool) (dl:Int) (df:Nat->List SV) (nn:Bool) (nl g:Int) (nf:Nat->List SV) (fo sz:Int),
  vs=[some (.sl (.a nb) (.a n) 1 f),some (.ptr 0 0),some (.ptr 1 0),some (.ptr 2 0),some (.ptr 5 0),some (.sl (.a nb) (.a n) 1 f),some (.int .i64 (.a n)),some (.int .i64 (.a I))]/\
  hp=[.aF 36 [.int .i64 (.a ph0),.str ln,.str dt,.int .i64 (.a lf0),.sl (.a CG) (.a tl0) 2 tf0],.aF 36 [.int .i64 (.a 0),.str [],.str [],.int .i64 (.a 0),.sl (.a true) (.a 0) 2 (λ_=>[])],
   .aF 220 [.int .i64 (.a ph),.str ln,.str dt,.int .i64 (.a lf),.sl (.a tn) (.a tl) 2 tf,.bV (.a db) (.a dl) 3,.cR (.a nn) (.a nl) (.a g) 4,.int .i64 (.a fo),.int .i64 (.a sz)],.own 5 (.a dl) 1 false df,.vec 5 (.a nl) (.a g) 1 nf,
   .aF 218 [.gS 186 [.ptr 2 0],.gS 187 [.ptr 2 0],.gS 188 [.ptr 2 0],.gS 189 [.ptr 2 0]]]/\db=false/\CfJ s b k CG st i I m ph lf tn tl tf dl df nl nf fo sz
theorem Yt{ph u u' e e':ST}{ln OI dt dt':List UInt8}(h1:ph.den=eW.den)(h2:lf.den=gK.den)(h3:ln=OI/\dt=dt')(h4:aM (.sl tn iv 2 tf) (.sl nK qG 2 gT))(h5:u.den=u'.den)(h6:e.den=e'.den):
  Fin (.aI [.agg [.int .i64 ph,.str ln,.str dt,.int .i64 lf,.sl tn iv 2 tf],.int .i64 u,.int .i64 e]) (.aI [.agg [.int .i64 eW,.str OI,.str dt',.int .i64 gK,.sl nK qG 2 gT],.int .i64 u',.int .i64 e']) [] []:=by
 obtain⟨rfl,rfl⟩:=h3;exact Cm (.aI (.cons (aM.agg (.cons (Af h1) (.cons (Cp _) (.cons (Cp _) (.cons (Af h2) (.cons h4 .nil)))))) (.cons (Af h5) (.cons (Af h6) .nil))))
theorem Dl{b:List UInt8}(h4:s.phase≠4):Bm s (c :: b)=if (cF s c).2≠0 then (s,0,(cF s c).2) else ((Bm (cF s c).1 b).1,(Bm (cF s c).1 b).2.1+1,(Bm (cF s c).1 b).2.2):=by
 rw[Bm,QA h4]
theorem o7(h:∃tl tf,A0 tf tl s.aE)(hO:D7 s):∃tl tf,A0 tf tl (cF s c).1.aE:=by
 unfold cF
 split
 .split
  .split
   .exact h
   .split<;>exact h
  .split<;>exact h
 split
 .exact h
 split
 .split
  .exact h
  .split<;>exact h
 rename_i g0 g1 g2
 split
 .exact h
 split
 .exact h
 split
 .exact h
 split
 .exact h
 .have hl:(s.line++[c]).length<=1000000+1:=by rw[QF];have:=Q6 hO;simp only[QH,QV];omega
  have eC:=Jy ((s.line++[c]).length+1) 0 [] (s.line++[c]) (by
   rw[QF];have h3:s.phase=3\/s.phase=4:=by have:=hO.ph;omega
   rcases h3 with e|e
   .have:=(H4 (hO.p3 e)).1;simp only[QH,QV];omega
   .rw[(hO.p4 e).1];simp) (by simp) (λx hx=>by cases hx)
  exact⟨_,_,A0.row (by have:=eC.1;show (A7 _).1.length<=_;exact XP this (by decide)) (λi hi=>eC.2 _ (by rw[QD,QB hi];exact XO hi))⟩
theorem Q5:∀(b:List UInt8) (s:Ch),(∃tl tf,A0 tf tl s.aE)->0<=(0:Int)->D7 s->(Bm s b).2.2=0->∃tl tf,A0 tf tl (Bm s b).1.aE
 | [],s,h,_,_,_=>h
 |c :: b,s,h,h0,hO,he=>by
  by_cases h4:s.phase=4
  .rw[Bm,QC h4];exact h
  rw[Dl h4]at he ⊢
  by_cases h2:(cF s c).2=0
  .rw[QA (by simpa using h2)]at he ⊢
   exact Q5 b _ (o7 h hO) h0 (Q4 hO h4 (by rw[<-h2])) he
  .rw[QC h2]at he
   exact absurd he h2
theorem Akp:Ap Tryz.prog gl 137 sF:=by
 refine Bu (gh:=[]) mixed Du (Al ki (Al Ale (Al Yc (Al Aj2 (Al Anh (Al Z0 Ae)))))) Tryz.func137 (by kernel_rfl) (by kernel_rfl) ?_;intro xs ls K h;unfold sF at h;obtain⟨s,b,ln,dt,ph,lf,tn,tl,tf,nb,n,f,rfl,rfl,fN,mG,V,hO,yD,R,hb,h⟩:=h;obtain⟨k,hk⟩:∃k,k=Bm s b:=⟨_,rfl⟩;have h:=h k hk;have aJ:k.2.2=0->∃iC gT,A0 gT iC k.1.aE:=λe0=>by rw[hk]at e0 ⊢;exact Q5 b s ⟨_,_,V.tr⟩ (by omega) hO e0
 obtain⟨r,bP,bZ,hK⟩:∃r:SV,(k.2.2≠0->r=.aI [qY ph lf ln dt tn tl tf,.int .i64 (.a 0),.int .i64 (.a k.2.2)])/\
   (k.2.2=0->∃iC gT,r=.aI [qY k.1.phase k.1.left k.1.line k.1.data (kJ s k.1 tn) iC gT,.int .i64 (.a (k.2.1:Int)),.int .i64 (.a 0)]/\A0 gT iC k.1.aE)/\K r []:=by
  by_cases e0:k.2.2=0
  .have hT:∃iC gT,A0 gT iC k.1.aE:=aJ e0
   obtain⟨iC,gT,hT⟩:=hT;refine⟨_,λh=>absurd e0 h,λ_=>⟨iC,gT,rfl,hT⟩,?_⟩;exact h.2 e0 _ _ _ iC gT _ ⟨rfl,rfl,hT⟩ rfl rfl
  .exact⟨_,λ_=>rfl,λh=>absurd h e0,h.1 e0⟩
 refine⟨_,_,hK,λD hD=>?_⟩;clear hK h;unfold qY;cbv;refine⟨s,ln,dt,D.i (.a ph),D.i (.a lf),D.b (.a tn),D.i (.a tl),tf,rfl,rfl,fN,mG,by subst hD;exact V.gM,by subst hD;exact V.iG,by subst hD;exact V.tr,hO,yD,λph1 dl1 df1 nl1 TE fo1 sz1 nn1 g1 V1 yT yV=>?_⟩;cbv;refine br hD (λhb=>?_) (λhb=>?_)<;>cbv
 .exfalso
  have hb:((0:Int) != 0)=true:=by subst hD;exact hb
  cases hb
 obtain⟨J,hJ⟩:∃J,J=cfJ s b ln dt ph lf tn tl tf nb n f k:=⟨_,rfl⟩;refine⟨[1,2,4,7,9,31,32,33],J,⟨rfl,b.length,?_⟩,?_⟩
 .rw[hJ]
  subst hD;refine⟨s,0,0,_,_,_,_,tf,_,_,df1,_,_,_,TE,_,_,rfl,rfl,rfl,⟨AtR.zero (by omega),V1,hO,?_,?_,λ_=>rfl⟩⟩
  .rw[hk,ZT,XF]
  .unfold kJ;rw[QA (by rintro⟨a,b⟩;exact b a)];rfl
 clear V1 yT yV hb aJ;intro m vs hp hv;rw[hJ]at hv;obtain⟨st,i,I,jK,xV,rO,xR,xT,db,dl,df,nn,nl,g,nf,fo,sz,rfl,rfl,nG,B⟩:=hv;cbv;refine br hD (λhb=>?_) (λhb=>?_)<;>cbv
 .have hb:decide (I<n)=true:=by subst hD;exact hb
  have aC:=B.at_.lt R.n (QT hb);clear hb;have e1:=R.f i aC;have qA:=drop_at aC;obtain⟨c,hc⟩:∃c,c=b.getD i 0:=⟨_,rfl⟩;rw[<-hc]at e1 qA;obtain⟨ci,np⟩:∃ci:Int,ci=(c.toNat:Int):=⟨_,rfl⟩;rw[<-np]at e1;refine⟨B.at_.lY hD R.n aC,λj hj=>?_⟩;cbv;obtain rfl:=B.at_.j hD hj;clear hj;rw[e1];cbv;refine br hD (λhb=>?_) (λhb=>?_)<;>cbv
  .have hb:(jK==4)=true:=by subst hD;exact hb
   have h4:st.phase=4:=by rw[<-B.rd.gM];exact eq_of_beq hb
   have rG:k=(st,j,0):=by rw[B.ek,qA,Bm,QC h4];rfl
   refine⟨st,D.i (.a jK),D.i (.a xV),ln,dt,D.b (.a rO),D.i (.a xR),xT,D.b (.a db),D.i (.a dl),false,df,D.b (.a nn),D.i (.a nl),D.i (.a g),nf,D.i (.a fo),D.i (.a sz),rfl,rfl,by subst hD;exact B.rd,?_⟩;cbv;obtain⟨iC,gT,rfl,hT⟩:=bZ (by rw[rG]);rw[rG]at hT ⊢;have hT:A0 gT iC st.aE:=hT;unfold qY;subst hD;exact Yt (by exact B.rd.gM) (by exact B.rd.iG) ⟨rfl,rfl⟩ (Fe B.rd.tr hT (by exact B.et) rfl rfl) (by exact B.at_.I) rfl
  have h4:st.phase≠4:=by
   have hb:(jK==4)=false:=by subst hD;exact hb
   rw[<-B.rd.gM];simpa using hb
  clear hb;have yB:s.phase≠4:=λh=>h4 (by rw[B.e4 h];exact h);have eB:=B.ok.ph;have nh:=B.rd.gM;refine⟨⟨by subst hD;show 0<=jK;omega,by subst hD;show jK<4;omega⟩,λy9=>?_,λOP=>?_,λrH=>?_,λy8=>?_,trivial⟩<;>cbv
  .have hp:st.phase=0:=by
    have h:jK=(0:Int):=by subst hD;exact y9.h.symm
    rw[<-nh];exact h
   refine⟨st,c,D.i (.a ci),D.i (.a jK),D.i (.a xV),ln,dt,D.b (.a rO),D.i (.a xR),xT,D.b (.a db),D.i (.a dl),false,df,D.b (.a nn),D.i (.a nl),D.i (.a g),nf,D.i (.a fo),D.i (.a sz),rfl,rfl,by subst hD;exact np,by subst hD;exact B.rd,hp,by subst hD;exact nG,B.ok,λe he=>⟨λbA=>?_,λh0 wv xr xQ fz ga AR AM AO kM qK g3 qL qU qH V3 N3=>?_⟩⟩<;>cbv
   .refine br hD (λhb=>?_) (λhb=>?_)<;>cbv
    .have fP:k.2.2=e:=by rw[B.ek,qA,Dl h4,QC (by rw[<-he];exact bA)];exact he.symm
     rw[bP (by rw[fP];exact bA),fP];unfold qY;subst hD;exact Yt rfl rfl ⟨rfl,rfl⟩ (aM.refl _) rfl rfl
    .exfalso
     have hb:(e != 0)=false:=by subst hD;exact hb
     exact bA (by simpa using hb)
   .refine br hD (λhb=>?_) (λhb=>?_)<;>cbv
    .exfalso
     have hb:(e != 0)=true:=by subst hD;exact hb
     rw[h0]at hb;cases hb
    have cC:=B.at_.step hD aC;refine⟨_,cC.1,?_⟩;rw[hJ];have mZ:(cF st c).2=0:=by rw[<-he];exact h0
    subst hD;refine⟨(cF st c).1,j+1,_,wv,xr,xQ,fz,ga,AR,AM,AO,kM,qK,g3,qL,qU,qH,rfl,rfl,N3.ed,⟨cC.2,V3,Q4 B.ok h4 (by rw[<-mZ]),?_,?_,λh=>absurd h yB⟩⟩
    .rw[B.ek,qA,Dl h4,QA (by rw[mZ];simp)]
     refine YJ rfl (YJ ?_ rfl);show j+(_+1)=j+1+_;omega
    .have h1:=N3.et
     have h2:rO=tn:=by have:=B.et;unfold kJ at this;rw[QA (λh=>h4 h.1)]at this;exact this
     unfold kJ
     by_cases g4:(cF st c).1.phase=4
     .rw[QC g4]at h1;rw[QC ⟨g4,yB⟩];exact h1
     .rw[QA g4]at h1;rw[QA (λh=>g4 h.1)];exact h1.trans h2
  .have hp:st.phase=1:=by
    have h:jK=(1:Int):=by subst hD;exact OP.h.symm
    rw[<-nh];exact h
   refine⟨st,c,D.i (.a ci),D.i (.a jK),D.i (.a xV),ln,dt,D.b (.a rO),D.i (.a xR),xT,D.b (.a db),D.i (.a dl),false,df,D.b (.a nn),D.i (.a nl),D.i (.a g),nf,D.i (.a fo),D.i (.a sz),rfl,rfl,by subst hD;exact np,by subst hD;exact B.rd,hp,by subst hD;exact nG,B.ok,λe he=>⟨λbA=>?_,λh0 wv xr xQ fz ga AR AM AO kM qK g3 qL qU qH V3 N3=>?_⟩⟩<;>cbv
   .refine br hD (λhb=>?_) (λhb=>?_)<;>cbv
    .have fP:k.2.2=e:=by rw[B.ek,qA,Dl h4,QC (by rw[<-he];exact bA)];exact he.symm
     rw[bP (by rw[fP];exact bA),fP];unfold qY;subst hD;exact Yt rfl rfl ⟨rfl,rfl⟩ (aM.refl _) rfl rfl
    .exfalso
     have hb:(e != 0)=false:=by subst hD;exact hb
     exact bA (by simpa using hb)
   .refine br hD (λhb=>?_) (λhb=>?_)<;>cbv
    .exfalso
     have hb:(e != 0)=true:=by subst hD;exact hb
     rw[h0]at hb;cases hb
    have cC:=B.at_.step hD aC;refine⟨_,cC.1,?_⟩;rw[hJ];have mZ:(cF st c).2=0:=by rw[<-he];exact h0
    subst hD;refine⟨(cF st c).1,j+1,_,wv,xr,xQ,fz,ga,AR,AM,AO,kM,qK,g3,qL,qU,qH,rfl,rfl,N3.ed,⟨cC.2,V3,Q4 B.ok h4 (by rw[<-mZ]),?_,?_,λh=>absurd h yB⟩⟩
    .rw[B.ek,qA,Dl h4,QA (by rw[mZ];simp)]
     refine YJ rfl (YJ ?_ rfl);show j+(_+1)=j+1+_;omega
    .have h1:=N3.et
     have h2:rO=tn:=by have:=B.et;unfold kJ at this;rw[QA (λh=>h4 h.1)]at this;exact this
     unfold kJ
     by_cases g4:(cF st c).1.phase=4
     .rw[QC g4]at h1;rw[QC ⟨g4,yB⟩];exact h1
     .rw[QA g4]at h1;rw[QA (λh=>g4 h.1)];exact h1.trans h2
  .have hp:st.phase=2:=by
    have h:jK=(2:Int):=by subst hD;exact rH.h.symm
    rw[<-nh];exact h
   refine⟨st,c,D.i (.a ci),D.i (.a jK),D.i (.a xV),ln,dt,D.b (.a rO),D.i (.a xR),xT,D.b (.a db),D.i (.a dl),false,df,D.b (.a nn),D.i (.a nl),D.i (.a g),nf,D.i (.a fo),D.i (.a sz),rfl,rfl,by subst hD;exact np,by subst hD;exact B.rd,hp,by subst hD;exact nG,B.ok,λe he=>⟨λbA=>?_,λh0 wv xr xQ fz ga AR AM AO kM qK g3 qL qU qH V3 N3=>?_⟩⟩<;>cbv
   .refine br hD (λhb=>?_) (λhb=>?_)<;>cbv
    .have fP:k.2.2=e:=by rw[B.ek,qA,Dl h4,QC (by rw[<-he];exact bA)];exact he.symm
     rw[bP (by rw[fP];exact bA),fP];unfold qY;subst hD;exact Yt rfl rfl ⟨rfl,rfl⟩ (aM.refl _) rfl rfl
    .exfalso
     have hb:(e != 0)=false:=by subst hD;exact hb
     exact bA (by simpa using hb)
   .refine br hD (λhb=>?_) (λhb=>?_)<;>cbv
    .exfalso
     have hb:(e != 0)=true:=by subst hD;exact hb
     rw[h0]at hb;cases hb
    have cC:=B.at_.step hD aC;refine⟨_,cC.1,?_⟩;rw[hJ];have mZ:(cF st c).2=0:=by rw[<-he];exact h0
    subst hD;refine⟨(cF st c).1,j+1,_,wv,xr,xQ,fz,ga,AR,AM,AO,kM,qK,g3,qL,qU,qH,rfl,rfl,N3.ed,⟨cC.2,V3,Q4 B.ok h4 (by rw[<-mZ]),?_,?_,λh=>absurd h yB⟩⟩
    .rw[B.ek,qA,Dl h4,QA (by rw[mZ];simp)]
     refine YJ rfl (YJ ?_ rfl);show j+(_+1)=j+1+_;omega
    .have h1:=N3.et
     have h2:rO=tn:=by have:=B.et;unfold kJ at this;rw[QA (λh=>h4 h.1)]at this;exact this
     unfold kJ
     by_cases g4:(cF st c).1.phase=4
     .rw[QC g4]at h1;rw[QC ⟨g4,yB⟩];exact h1
     .rw[QA g4]at h1;rw[QA (λh=>g4 h.1)];exact h1.trans h2
  .have hp:st.phase=3:=by
    have h:jK=(3:Int):=by subst hD;exact y8.h.symm
    rw[<-nh];exact h
   refine⟨st,c,D.i (.a ci),D.i (.a jK),D.i (.a xV),ln,dt,D.b (.a rO),D.i (.a xR),xT,D.b (.a db),D.i (.a dl),false,df,D.b (.a nn),D.i (.a nl),D.i (.a g),nf,D.i (.a fo),D.i (.a sz),rfl,rfl,by subst hD;exact np,by subst hD;exact B.rd,hp,by subst hD;exact nG,B.ok,λe he=>⟨λbA=>?_,λh0 wv xr xQ fz ga AR AM AO kM qK g3 qL qU qH V3 N3=>?_⟩⟩<;>cbv
   .refine br hD (λhb=>?_) (λhb=>?_)<;>cbv
    .have fP:k.2.2=e:=by rw[B.ek,qA,Dl h4,QC (by rw[<-he];exact bA)];exact he.symm
     rw[bP (by rw[fP];exact bA),fP];unfold qY;subst hD;exact Yt rfl rfl ⟨rfl,rfl⟩ (aM.refl _) rfl rfl
    .exfalso
     have hb:(e != 0)=false:=by subst hD;exact hb
     exact bA (by simpa using hb)
   .refine br hD (λhb=>?_) (λhb=>?_)<;>cbv
    .exfalso
     have hb:(e != 0)=true:=by subst hD;exact hb
     rw[h0]at hb;cases hb
    have cC:=B.at_.step hD aC;refine⟨_,cC.1,?_⟩;rw[hJ];have mZ:(cF st c).2=0:=by rw[<-he];exact h0
    subst hD;refine⟨(cF st c).1,j+1,_,wv,xr,xQ,fz,ga,AR,AM,AO,kM,qK,g3,qL,qU,qH,rfl,rfl,N3.ed,⟨cC.2,V3,Q4 B.ok h4 (by rw[<-mZ]),?_,?_,λh=>absurd h yB⟩⟩
    .rw[B.ek,qA,Dl h4,QA (by rw[mZ];simp)]
     refine YJ rfl (YJ ?_ rfl);show j+(_+1)=j+1+_;omega
    .have h1:=N3.et
     have h2:rO=tn:=by have:=B.et;unfold kJ at this;rw[QA (λh=>h4 h.1)]at this;exact this
     unfold kJ
     by_cases g4:(cF st c).1.phase=4
     .rw[QC g4]at h1;rw[QC ⟨g4,yB⟩];exact h1
     .rw[QA g4]at h1;rw[QA (λh=>g4 h.1)];exact h1.trans h2
 .have hb:decide (I<n)=false:=by subst hD;exact hb
  have hi:=B.at_.eq R.n (XA hb);clear hb;have rG:k=(st,i,0):=by rw[B.ek,hi,XR];rfl
  refine⟨st,D.i (.a jK),D.i (.a xV),ln,dt,D.b (.a rO),D.i (.a xR),xT,D.b (.a db),D.i (.a dl),false,df,D.b (.a nn),D.i (.a nl),D.i (.a g),nf,D.i (.a fo),D.i (.a sz),rfl,rfl,by subst hD;exact B.rd,?_⟩;cbv;obtain⟨iC,gT,rfl,hT⟩:=bZ (by rw[rG]);rw[rG]at hT ⊢;have hT:A0 gT iC st.aE:=hT;unfold qY;subst hD;exact Yt (by exact B.rd.gM) (by exact B.rd.iG) ⟨rfl,rfl⟩ (Fe B.rd.tr hT (by exact B.et) rfl rfl) (by show n=(i:Int);rw[R.n,hi]) rfl
open Go Go.Sx Go.RowKit
theorem Ala:Ap Tryz.prog [] 115 qI:=by
 refine Bq (gh:=[]) mixed Ck Ae Tryz.func115 (by kernel_rfl) (by kernel_rfl) ?_;intro xs ls K h;unfold qI at h;obtain⟨x,rfl,rfl,h⟩:=h;obtain⟨k,hk⟩:∃k,k=Ie x:=⟨_,rfl⟩;refine⟨_,_,h k hk,λD hD=>?_⟩;clear h;cbv;refine Ar hD ?_;rw[hk];have e1:((x:Int)=9)↔x=9:=by omega
 have e2:((x:Int)<32)↔x<32:=by omega
 have e3:((126:Int)<x)↔126<x:=by omega
 simp only[BT.den,B6,ST.den,Ie];rw[XY];simp only[QE,XS,bne_iff_ne,QG,ZI];constructor
 .rintro⟨h1,h2⟩
  exact⟨λe=>h1 (e1.2 e),h2.imp (λe=>e2.1 (by first|exact e|exact QT e)) (λe=>e3.1 (by first|exact e|exact QT e))⟩
 .rintro⟨h1,h2⟩
  exact⟨λe=>h1 (e1.1 e),h2.imp (λe=>by first|exact e2.2 e|exact YI (e2.2 e)) (λe=>by first|exact e3.2 e|exact YI (e3.2 e))⟩
theorem Akx:∀args w,(callFunc 115 args).run Tryz.prog w=.ok (.enter 115 args) w:=enters_of Tryz.func115 (by kernel_rfl) rfl
theorem Aek(w:World):PredGrows Tryz.prog 115 #[] Ie w:=by
 intro W x _ _;obtain⟨r,aK,⟨hr,hl⟩,hc⟩:=Ala.2 [.int .i32 (.a (x:Int))] [] (λr aK=>r=.bool (.a (Ie x))/\aK=[]) ⟨x,rfl,rfl,λr hr=>by rw[hr];exact⟨rfl,rfl⟩⟩;subst hr hl;refine Xt (gl:=[]) hc (λg s h=>by simp[Sx.look]at h) (by simp[encR]) λi s v a b=>?_;cases i with
 |zero=>simp[encR]at a b;subst a b;exact .int rfl
 |succ i=>simp at a
def vv:aB:=λ_ xs ls K=>∃(s:List UInt8),xs=[.str s,.fn 115]/\ls=[]/\∀r,decide (r<0)=Ds s->r=Lib.idxFunc Ie true (Sx.bytes s)->K (.int .i64 (.a r)) []
theorem l9:Ap Tryz.prog gl 114 vv:=by
 refine⟨⟨Tryz.f114,_,Tryz.func114,rfl,by kernel_rfl⟩,λxs ls K h=>?_⟩;obtain⟨s,rfl,rfl,h⟩:=h;have hd:decide (Lib.idxFunc Ie true (Sx.bytes s)<0)=Ds s:=by
  have:=Vb (Sx.bytes s) (Sx.bytes s).size 0 (by omega);have h2:decide (0<=Lib.idxFunc Ie true (Sx.bytes s))=!Ds s:=this;have h3:decide (Lib.idxFunc Ie true (Sx.bytes s)<0)=!decide (0<=Lib.idxFunc Ie true (Sx.bytes s)):=by
   rw[XY];simp
  rw[h3,h2,Bool.not_not]
 refine⟨_,_,h _ hd rfl,Bi λE B w aX _ _ _ hr=>?_⟩;obtain⟨v,g,rfl,hu,zc⟩:=D8 hr;rw[Cy hu,zc.qW];refine (Hy 115 #[] Akx Ie (Sx.bytes s) w (Aek w)).mono ?_;rintro e w' ⟨rfl,hB⟩;exact⟨_,rfl,λE=>.ro (.int rfl),hB⟩
theorem Agu:Ap Tryz.prog gl 56 kK:=by
 refine Bq (gh:=[]) mixed Ck (Aa l9 Ae) Tryz.func56 (by kernel_rfl) (by kernel_rfl) ?_;intro xs ls K h;unfold kK at h;obtain⟨s,rfl,rfl,h⟩:=h;obtain⟨k,hk⟩:∃k,k=Ds s:=⟨_,rfl⟩;refine⟨_,_,h k hk,λD hD=>?_⟩;clear h;cbv;refine⟨s,rfl,rfl,λr hr _=>?_⟩;cbv;refine Ar hD ?_;rw[hk,<-hr];rfl
def v8:aB:=λ_ xs ls K=>∃(s:List UInt8) (n:Int),xs=[.str s]/\ls=[]/\s.length<=18/\Lib.atoi s=some n/\K (.aI [.int .i64 (.a n),.raw .nilIface]) []
theorem pj:Ap Tryz.prog gl 117 v8:=by
 refine⟨⟨Tryz.f117,_,Tryz.func117,rfl,by kernel_rfl⟩,λxs ls K h=>?_⟩;obtain⟨s,n,rfl,rfl,hs,hn,h⟩:=h;refine⟨_,_,h,Bi λE B w aX _ _ _ hr=>?_⟩;obtain⟨v,rfl,hv⟩:=On hr;rw[Cy hv];refine (Sm ⟨s.toArray⟩ n (by simpa[ByteArray.size] using hs) (by simpa using hn) w).mono ?_;rintro e w' ⟨rfl,t,rfl⟩;refine⟨_,rfl,λE=>.aI rfl λi s v a b=>?_,⟨rfl,rfl,rfl,by rw[Lib.bytesWorld_size];omega,λj hj=>Lib.bytesWorld_at_old w 5 t j hj⟩⟩
 match i,a,b with
 |0,a,b=>cases a;cases b;exact .ro (.int rfl)
 |1,a,b=>cases a;cases b;exact .ro (.raw rfl)
 |i+2,a,b=>simp at a
theorem Pj:∀(l:List UInt8) (acc:Nat),(∀c∈l,48<=c.toNat/\c.toNat<=57)->Lib.decFrom acc l=some (Xo acc l)
 | [],acc,_=>rfl
 |c :: r,acc,h=>by
  have hc:=h c (XB ..);have bA:c≠45:=by rintro rfl;exact absurd hc.1 (by decide)
  have hd:Lib.digitVal c=some (c.toNat-48):=by unfold Lib.digitVal;simp;omega
  rw[Lib.decFrom,hd,Xo,QA bA];exact Pj r _ λd hd=>h d (XC _ hd)
theorem Aok{s:List UInt8}(h:Qy s=true)(hl:1<=s.length):Lib.atoi s=some (Xo 0 s:Int):=by
 match s,hl with
 |c :: r,_ =>
  have hd:=Agd h;have hc:=hd c (XB ..);have h45:(c==45)=false:=by rw[beq_eq_false_iff_ne];rintro rfl;exact absurd hc.1 (by decide)
  have h43:(c==43)=false:=by rw[beq_eq_false_iff_ne];rintro rfl;exact absurd hc.1 (by decide)
  show (if (c==45)=true then (Lib.decNat r).map λ(m:Nat)=>-(m:Int) else if (c==43)=true then (Lib.decNat r).map λ(m:Nat)=>(m:Int) else (Lib.decNat (c :: r)).map λ(m:Nat)=>(m:Int))=_;rw[h45,h43];simp only[XE,if_false];unfold Lib.decNat;rw[QA (by simp),Pj _ _ hd];rfl
def aw:aB:=λ_ xs ls K=>∃(s:List UInt8),xs=[.str s]/\ls=[]/\s.length<=9223372036854775807/\∀r,r=J7 s->K (.int .i64 (.a r)) []
theorem Sf:Ap Tryz.prog gl 57 aw:=by
 refine Bq (gh:=[]) mixed Ck (Aa Jd (Aa pj Ae)) Tryz.func57 (by kernel_rfl) (by kernel_rfl) ?_;intro xs ls K h;unfold aw at h;obtain⟨s,rfl,rfl,hs,h⟩:=h;obtain⟨k,hk⟩:∃k,k=J7 s:=⟨_,rfl⟩;refine⟨_,_,h k hk,λD hD=>?_⟩;clear h;unfold J7 at hk;obtain⟨N,hN⟩:∃N:Int,N=(s.length:Int):=⟨_,rfl⟩;cbv;refine⟨s,BZ,rfl,rfl,hs,by decide,by decide,λt ht=>?_⟩;cbv;have VW:(t==[])=Qy s:=by
  rw[XY,QO,ht];exact An3 s
 refine br hD (λhb=>?_) (λhb=>?_)<;>cbv
 .have hb:((decide ((s.length:Int)<1)||decide (10<(s.length:Int)))||!(t==[]))=true:=by subst hD;exact hb
  refine Bj hD ?_;rw[VW]at hb;rw[hk,QA]
  .rfl
  .simp only[XS,QE,XL,QG]at hb ⊢
   rintro⟨⟨h1,h2⟩,h3⟩;rcases hb with (h|h)|h
   .omega
   .omega
   .rw[h3]at h;cases h
 have hb:((decide ((s.length:Int)<1)||decide (10<(s.length:Int)))||!(t==[]))=false:=by subst hD;exact hb
 rw[VW]at hb;simp only[QU,XZ,QJ]at hb;obtain⟨⟨h1,h2⟩,h3⟩:=hb;rw[QC (by simp only[QE,QG];exact⟨⟨by omega,by omega⟩,h3⟩)]at hk;have ha:Lib.atoi s=some k:=by rw[hk];exact Aok h3 (by omega)
 clear ht VW;refine⟨s,k,rfl,rfl,by omega,ha,?_⟩;cbv;exact Bj hD rfl
def T5(mi st:Int)(re:List UInt8)(nl:Bool)(n:Int)(f:Nat->List SV):SV:=.agg [.int .i64 (.a mi),.int .i64 (.a st),.str re,.sl (.a nl) (.a n) 2 f]
structure pt(h:oL)(mi st:Int)(n:Int)(f:Nat->List SV):Prop where
 DD:mi=h.minor
 AF:st=h.status
 row:A0 f n h.fields
def sD:aB:=λ_ xs ls K=>∃(hd:oL) (mi st:Int) (re:List UInt8) (nl:Bool) (n:Int) (f:Nat->List SV),xs=[T5 mi st re nl n f]/\ls=[]/\pt hd mi st n f/\∀e,e=Ib hd->K (.int .i64 (.a e)) []
theorem Akn:Ap Tryz.prog gl 62 sD:=by
 refine Bq (gh:=[]) mixed Ck (Aa Ia Ae) Tryz.func62 (by kernel_rfl) (by kernel_rfl) ?_;intro xs ls K h;unfold sD at h;obtain⟨hd,mi,st,re,nl,n,f,rfl,rfl,V,h⟩:=h;obtain⟨k,hk⟩:∃k,k=Ib hd:=⟨_,rfl⟩;refine⟨_,_,h k hk,λD hD=>?_⟩;clear h;unfold T5;unfold Ib at hk;rw[<-V.DD,<-V.AF]at hk;cbv;refine br hD (λhb=>?_) (λhb=>?_)<;>cbv
 .have hb:((((mi != 0)&&(mi != 1))||decide (st<100))||decide (599<st))=true:=by subst hD;exact hb
  refine Bj hD ?_;rw[hk,QC]
  .rfl
  .simp only[XS,QE,bne_iff_ne,QG]at hb
   omega
 have hb:((((mi != 0)&&(mi != 1))||decide (st<100))||decide (599<st))=false:=by subst hD;exact hb
 rw[QA (by simp only[QU,ZA,bne_eq_false_iff_eq,QJ]at hb;omega)]at hk;clear hb;refine⟨hd.fields,_,_,f,rfl,rfl,by subst hD;exact V.row,λe he=>?_⟩;cbv;exact Bj hD (he.trans hk.symm)
structure bB where
 m:List UInt8
 ph:Int
 inf:Int
 ln:List UInt8
 mi:Int
 st:Int
 re:List UInt8
 fb:Bool
 fl:Int
 ff:Nat->List SV
 fr:Int
 bo:List UInt8
 lf:Int
 cp:Int
 cl:List UInt8
 cd:List UInt8
 cf:Int
 cb:Bool
 ct:Int
 ctf:Nat->List SV
def kL(x:bB):SV:=.agg [.str x.m,.int .i64 (.a x.ph),.int .i64 (.a x.inf),.str x.ln,.int .i64 (.a x.mi),.int .i64 (.a x.st),.str x.re,.sl (.a x.fb) (.a x.fl) 2 x.ff,.int .i64 (.a x.fr),.str x.bo,.int .i64 (.a x.lf),
  .int .i64 (.a x.cp),.str x.cl,.str x.cd,.int .i64 (.a x.cf),.sl (.a x.cb) (.a x.ct) 2 x.ctf]
def Py(m:List UInt8):bB:=⟨m,0,0,[],0,0,[],true,0,λ_=>[],0,[],0,0,[],[],0,true,0,λ_=>[]⟩
def Kj(x:bB)(nb:Bool)(n:Int)(f:Nat->List SV)(nn:Bool)(nl g:Int):List SV :=
 [.str x.m,.int .i64 (.a x.ph),.int .i64 (.a x.inf),.str x.ln,.int .i64 (.a x.mi),.int .i64 (.a x.st),.str x.re,.sl (.a x.fb) (.a x.fl) 2 x.ff,.int .i64 (.a x.fr),.str x.bo,.int .i64 (.a x.lf),
  .int .i64 (.a x.cp),.str x.cl,.str x.cd,.int .i64 (.a x.cf),.sl (.a x.cb) (.a x.ct) 2 x.ctf,.sl (.a nb) (.a n) 1 f,.cR (.a nn) (.a nl) (.a g) 1]
def bB.nm(D:Dn)(x:bB):bB:=⟨x.m,D.i (.a x.ph),D.i (.a x.inf),x.ln,D.i (.a x.mi),D.i (.a x.st),x.re,D.b (.a x.fb),D.i (.a x.fl),x.ff,D.i (.a x.fr),x.bo,D.i (.a x.lf),D.i (.a x.cp),x.cl,x.cd,D.i (.a x.cf),D.b (.a x.cb),D.i (.a x.ct),x.ctf⟩
def zN:aB:=λ_ xs ls K=>∃(x:bB) (b:List UInt8) (k:Nat) (kI:Int) (nb:Bool) (n:Int) (f:Nat->List SV) (nn:Bool) (nl g:Int) (nf:Nat->List SV),
 xs=[.ptr 0 0,.int .i64 (.a kI)]/\ls=[.aF 125 (Kj x nb n f nn nl g),.vec 5 (.a nl) (.a g) 1 nf]/\kI=(k:Int)/\Bo f n b/\k<=b.length/\b.length<=1000000/\x.bo.length<=1000000/\
 ∀tR n' f',tR=x.bo++b.take k->Bo f' n' (b.drop k)->K (.aI []) [.aF 125 (Kj { x with bo:=tR } nb n' f' nn nl g),.vec 5 (.a nl) (.a g) 1 nf]
theorem Agv:Ap Tryz.prog gl 136 zN:=by
 refine Bu (gh:=[]) mixed Du Ae Tryz.func136 (by kernel_rfl) (by kernel_rfl) ?_;intro xs ls K h;unfold zN at h;obtain⟨x,b,k,kI,nb,n,f,nn,nl,g,nf,rfl,rfl,hk,R,lR,hb,jH,h⟩:=h;obtain⟨T,hT⟩:∃T,T=b.drop k:=⟨_,rfl⟩;obtain⟨N,VN⟩:∃N:Int,VI N T.length:=⟨_,⟨rfl⟩⟩;obtain⟨B,hB⟩:∃B,B=x.bo++b.take k:=⟨_,rfl⟩;have RT:Bo (aQ T) N T:=⟨VN.h,λi _=>rfl⟩;have h:=h B N (aQ T) hB (by rw[<-hT];exact RT);have VK:VI kI k:=⟨hk⟩;have VB:VI n b.length:=⟨R.n⟩;have HK:dX k b.length:=⟨lR⟩;have HB:dX b.length 1000000:=⟨hb⟩;have HO:dX x.bo.length 1000000:=⟨jH⟩;clear hk lR hb jH;refine⟨_,_,h,λD hD=>?_⟩;clear h;obtain⟨m,ph,inf,ln,mi,st,re,fb,fl,ff,fr,bo,lf,cp,cl,cd,cf,cb,ct,ctf⟩:=x;cbv;refine⟨by subst hD;exact⟨ZE _,by show (0:Int)<=kI;rw[VK.h];omega,by show kI<=n;rw[VK.h,VB.h];have:=HK.h;omega⟩,λf1 n1 cU=>?_⟩;cbv;have R1:Bo f1 n1 (b.take k):=by
  have:=R.sub (a:=0) (b:=k) cU (by subst hD;rfl) (by subst hD;exact VK.h) (XX _) HK.h;simpa using this
 clear cU;refine⟨by subst hD;exact R1.byte,λs hs=>?_⟩;cbv;have hs:s=b.take k:=by subst hD;exact R1.str hs
 have bE:s.length<=1000000:=by rw[hs,QW];have:=HB.h;omega
 refine⟨⟨by have h2:bo.length<=1000000:=HO.h;omega⟩,λr hr=>?_⟩;cbv;have hr:r=B:=by rw[hB,hr.h,hs]
 clear R1 hs bE;refine⟨by subst hD;exact⟨by show (0:Int)<=kI;rw[VK.h];omega,by show kI<=n;rw[VK.h,VB.h];have:=HK.h;omega,ZE _⟩,λf2 n2 cU=>?_⟩;cbv;have R2:Bo f2 n2 T:=by
  have:=R.sub (a:=k) (b:=b.length) cU (by subst hD;exact VK.h) (by subst hD;exact VB.h) HK.h (QK _);have e:(b.drop k).take (b.length-k)=b.drop k:=XJ (by rw[QX];exact QK _);rw[e,<-hT]at this;exact this
 clear cU;have e1:=R2.n;have e2:=VN.h;subst hD hr;refine⟨aM.refl _,Ct (cL.cons (Ao (.cons (Cp _) (.cons (Af rfl) (.cons (Af rfl) (.cons (Cp _) (.cons (Af rfl) (.cons (Af rfl) (.cons (Cp _) (.cons (aM.refl _) (.cons (Af rfl) (.cons (Cp _) (.cons (Af rfl) (.cons (Af rfl) (.cons (Cp _) (.cons (Cp _) (.cons (Af rfl) (.cons (aM.refl _) (.cons (aM.sl rfl (by exact e1.trans e2.symm) λi hi=>?_) (.cons (aM.refl _) .nil))))))))))))))))))) λ_ _ _ _ h=>h),QK _⟩;have hi:(i:Int)<n2:=hi;rw[R2.f i (by omega)];rfl
end Go.Proofs.YtdoogdbjiijifaaGreatDoor
