/- A part of the proof: contracts of functions, or the executor and its soundness. No conditions. -/
import Derived.Test.YtdoogdbjiijifaaGreatDoorE7Pbb
import Derived.Test.YtdoogdbjiijifaaGreatDoorE7Pba
import Derived.Test.YtdoogdbjiijifaaGreatDoorE7Paz
import Derived.Test.YtdoogdbjiijifaaGreatDoorE7Mbr
import Derived.Test.YtdoogdbjiijifaaGreatDoorE7Pay
namespace Go.Proofs.YtdoogdbjiijifaaGreatDoor
open Go Go.Sx
set_option maxRecDepth 100000
set_option maxHeartbeats 8000000
theorem Vt(r:Rq):Fa r=((r.body != [])||jH [Ui,AR,Nb] r.method):=by
 unfold Fa;have e:∀(a b:List UInt8),(a==b)=(b==a):=λa b=>by rw[ZC,XI,XI];exact eq_comm
 show _=((r.body != [])||((Ui==r.method)||((AR==r.method)||((Nb==r.method)||false))));rw[e Ui,e AR,e Nb,VQ,VL,VL]
def tD:aD:=λ_ xs ls K=>∃(r:Rq) (nl:Bool) (n:Int) (f:Nat->List SV),xs=[.agg [.int .i64 (.a r.id),.str r.method,.str r.target,.str r.host,.sl (.a nl) (.a n) 2 f,.str r.body]]/\ls=[]/\Rc r nl n f/\0<=r.id/\
 ∀l e nb n' g,(l,e)=A2 r->A3 g n' l->nb=(e != 0)->K (.tup [.sl (.a nb) (.a n') 2 g,.int .i64 (.a e)]) []
theorem Mv:Aw Tryz.prog gl 147 tD:=by
 refine Bd (gh:=[]) mixed Be (Ab Acc (Ab Aeh (Ab Agq Ai))) Tryz.func147 (by kernel_rfl) (by kernel_rfl) ?_;intro xs ls K h;unfold tD at h;obtain⟨r,nl,n,f,rfl,rfl,R,hid,h⟩:=h;obtain⟨k,hk⟩:∃k,k=A2 r:=⟨_,rfl⟩;obtain⟨kl,ke⟩:=k;have xM:∀x:HF,∀(a b:List UInt8),x=⟨a,b⟩->a.length<=100->b.length<=9223372036854775807->x.small:=λx a b e h1 h2=>by subst e;exact⟨by show a.length<=_;omega,h2⟩
 have kB:HF.small ⟨Kg,r.host⟩:=xM _ _ _ rfl (by decide) R.host;have sG:HF.small ⟨Uh,Lib.itoa r.id⟩:=xM _ _ _ rfl (by decide) (Lf R.BE R.BD);have jI:HF.small ⟨bj,Lib.itoa r.body.length⟩:=xM _ _ _ rfl (by decide) (Lf (by omega) (by have:=R.body;omega));have hg:∃g n',A3 g n' kl:=by
  unfold A2 at hk
  split at hk
  .simp only[Prod.mk.injEq]at hk
   rw[hk.1];exact rowOf [] (by simp) (λi hi=>absurd hi (by simp))
  .rename_i h1
   have h1:(Ci r.fields).2=0:=by simpa using h1
   have h2:=Hi _ h1;simp only[Prod.mk.injEq]at hk;rw[hk.1];refine rowOf _ ?_ (D3 (D3 (λi hi=>?_) (Jr R.row.small)) ?_)
   .simp only[QW]
    split<;>simp<;>omega
   .match i,hi with
    |0,_=>exact kB
    |1,_=>exact sG
   .split
    .intro i hi
     have:i=0:=by simpa using hi
     subst this;exact jI
    .intro i hi;simp at hi
 obtain⟨g,n2,R2⟩:=hg;obtain⟨nb,eY⟩:∃nb,nb=(ke != 0):=⟨_,rfl⟩;refine⟨_,_,h kl ke nb n2 g hk R2 eY,λD hD=>?_⟩;clear h;obtain⟨id,me,ta,ho,fs,bo⟩:=r;simp only at R kB sG jI hid;unfold A2 at hk;simp only at hk;cbv;refine⟨fs,_,_,f,rfl,rfl,by subst hD;exact R.row,λl e g3 n3 uq hl RR=>?_⟩;have gW:=Hi fs;rw[<-hl]at gW hk;simp only at gW hk;have R3:=RR.row;clear RR hl;cbv;refine br hD (λh=>?_) (λh=>?_)<;>cbv
 .have h1:e≠0:=by simpa using h
  rw[QE h1]at hk;simp only[Prod.mk.injEq]at hk;obtain⟨rfl,rfl⟩:=hk;exact Km hD (by rw[eY];simp[h1]) (l:=[]) ⟨rfl,λi hi=>absurd hi (by simp),by simp,λi hi=>absurd hi (by simp)⟩ rfl rfl R2
 have h1:e=0:=by simpa using h
 rw[QD (by simp[h1])]at hk;have WM:=gW h1;clear h gW;refine⟨_,rfl,rfl,by subst hD;exact hid,by subst hD;exact R.BD,λids pH=>?_⟩;cbv;have pH:ids=Lib.itoa id:=by subst hD;exact pH
 rw[<-pH]at hk sG;clear pH;intro f2 iR;cbv;have JG:A3 f2 2 [⟨Kg,ho⟩,⟨Uh,ids⟩]:=A3.two (iR.h 0 _ rfl) (iR.h 1 _ rfl) kB sG;clear iR;have BP:=R3.n;refine⟨?_,λf4 n4 hm=>?_⟩
 .subst hD
  refine⟨rfl,?_,?_⟩
  .show ((2:Int)+n3) * 32<=140737488355328
   omega
  .show (2:Int)+n3<=9223372036854775807
   omega
 cbv;have R4:A3 f4 n4 ([⟨Kg,ho⟩,⟨Uh,ids⟩]++l):=JG.app R3 (by subst hD;exact hm) (by simp only[QT,XV];omega);clear hm JG BP;have WL:(([⟨Kg,ho⟩,⟨Uh,ids⟩]:List HF)++l).length<=102:=by simp;omega
 obtain⟨l4,yD⟩:∃l4,l4=([⟨Kg,ho⟩,⟨Uh,ids⟩]:List HF)++l:=⟨_,rfl⟩;rw[<-yD]at hk R4 WL;clear yD;refine br hD (λkW=>?_) (λkW=>?_)<;>cbv
 .intro f7 hf7
  cbv;have R7:Bz f7 3 [Ui,AR,Nb]:=Oc (l:=[Ui,AR,Nb]) hf7 (by decide);clear hf7;refine⟨[Ui,AR,Nb],me,false,3,f7,by subst hD;rfl,rfl,R7,λq hq=>?_⟩;cbv;have yJ:Fa ⟨id,me,ta,ho,fs,bo⟩=((bo != [])||q):=by rw[hq,Vt]
  clear hq;refine br hD (λh=>?_) (λh=>?_)<;>cbv
  .have hb:Fa ⟨id,me,ta,ho,fs,bo⟩=true:=by rw[yJ];exact h
   rw[QE hb]at hk;clear h hb;refine⟨_,rfl,rfl,by subst hD;show 0<=(bo.length:Int);omega,by subst hD;show (bo.length:Int)<=_;have:=R.body;simp only at this;omega,λbs lL=>?_⟩;cbv;have lL:bs=Lib.itoa (bo.length:Int):=by subst hD;exact lL
   rw[<-lL]at hk jI;clear lL;intro f5 pn;cbv;have JF:A3 f5 1 [⟨bj,bs⟩]:=A3.one (pn.h 0 _ rfl) jI;clear pn;refine⟨by subst hD;exact⟨rfl,by have:=R4.n;show (n4+1) * 32<=_;omega,by have:=R4.n;show n4+1<=_;omega⟩,λf6 n6 hm=>?_⟩;cbv;have R6:A3 f6 n6 (l4++[⟨bj,bs⟩]):=R4.app JF (by subst hD;exact hm) (by simp only[QT,XV];omega);clear hm;simp only[Prod.mk.injEq]at hk;obtain⟨cT,bE⟩:=hk;subst cT bE;exact Km hD (by rw[eY];rfl) R6 rfl rfl R2
  .have hb:Fa ⟨id,me,ta,ho,fs,bo⟩=false:=by rw[yJ];exact h
   rw[QD (by rw[hb];simp),YS]at hk;simp only[Prod.mk.injEq]at hk;obtain⟨cT,bE⟩:=hk;subst cT bE;exact Km hD (by rw[eY];rfl) R4 rfl rfl R2
 .have kW:(!(bo != []))=false:=kW
  have kW:(bo != [])=true:=by simpa only[YJ] using kW
  refine⟨[],me,true,0,λ_=>[],by subst hD;rfl,rfl,Bz.nil,λq hq=>?_⟩;cbv;have yJ:Fa ⟨id,me,ta,ho,fs,bo⟩=((bo != [])||q):=by rw[Vt];simp only;rw[kW,VP,VP]
  clear hq kW;refine br hD (λh=>?_) (λh=>?_)<;>cbv
  .have hb:Fa ⟨id,me,ta,ho,fs,bo⟩=true:=by rw[yJ];exact h
   rw[QE hb]at hk;clear h hb;refine⟨_,rfl,rfl,by subst hD;show 0<=(bo.length:Int);omega,by subst hD;show (bo.length:Int)<=_;have:=R.body;simp only at this;omega,λbs lL=>?_⟩;cbv;have lL:bs=Lib.itoa (bo.length:Int):=by subst hD;exact lL
   rw[<-lL]at hk jI;clear lL;intro f5 pn;cbv;have JF:A3 f5 1 [⟨bj,bs⟩]:=A3.one (pn.h 0 _ rfl) jI;clear pn;refine⟨by subst hD;exact⟨rfl,by have:=R4.n;show (n4+1) * 32<=_;omega,by have:=R4.n;show n4+1<=_;omega⟩,λf6 n6 hm=>?_⟩;cbv;have R6:A3 f6 n6 (l4++[⟨bj,bs⟩]):=R4.app JF (by subst hD;exact hm) (by simp only[QT,XV];omega);clear hm;simp only[Prod.mk.injEq]at hk;obtain⟨cT,bE⟩:=hk;subst cT bE;exact Km hD (by rw[eY];rfl) R6 rfl rfl R2
  .have hb:Fa ⟨id,me,ta,ho,fs,bo⟩=false:=by rw[yJ];exact h
   rw[QD (by rw[hb];simp),YS]at hk;simp only[Prod.mk.injEq]at hk;obtain⟨cT,bE⟩:=hk;subst cT bE;exact Km hD (by rw[eY];rfl) R4 rfl rfl R2
set_option maxHeartbeats 16000000
def amS:List UInt8:=[33,36,38,39,40,41,42,43,44,59,61,58,64,47]
theorem di:∀c:Fin 256,(!Ni (c.1:Int)&&!Iq (c.1:Int) amS)=decide (Ct c.1=0):=by decide +kernel
theorem Ano{c:Int}(h:0<=c/\c<=255):(!Ni c&&!Iq c amS)=decide (Ct c.toNat=0):=by
 have:=di ⟨c.toNat,by omega⟩;have e:((c.toNat:Nat):Int)=c:=by omega
 simp only[e]at this;exact this
theorem FJ{s:List UInt8}{i:Nat}{I:Int}{m:Nat}(V:At s i I m)(h:i<s.length)(hl:s.length<=1000000):IntKind.i64.wrap (IntKind.i64.wrap (I+2)+1)=((i+3:Nat):Int):=by
 have:=V.I;rw[wrap64 (n:=I+2) (by omega) (by omega),wrap64 (by omega) (by omega)];omega
def NL(s:List UInt8)(k:Option Nat)(m:Nat)(vs:List (Option SV))(hp:List Hl):Prop :=
 ∃(i e:Nat) (I E:Int),vs=[some (.str s),some (.int .i64 (.a E)),some (.int .i64 (.a I))]/\hp=[]/\LW s k i e I E m
theorem FG(s:List UInt8):Lib.hasPrefix s [47]=decide (s≠[]/\aC s 0=47):=by
 cases s with
 |nil=>rfl
 |cons b r =>
  rw[ZC];simp only[Lib.hasPrefix,List.isPrefixOf,Bool.and_true,XI,QN,ne_eq,reduceCtorEq,not_false_eq_true,true_and];unfold aC;simp only[List.getD_cons_zero];constructor
  .intro h;rw[<-h];rfl
  .intro h
   have:b.toNat=47:=by omega
   exact (UInt8.toNat_inj.1 this).symm
theorem Zy:Aw Tryz.prog gl 203 tM:=by
 refine Bd (gh:=[]) mixed Be (Ab Agz (Ab Aj3 (Ab Ae2 Ai))) Tryz.func203 (by kernel_rfl) (by kernel_rfl) ?_;intro xs ls K h;unfold tM at h;obtain⟨s,rfl,rfl,hs,h⟩:=h;obtain⟨k,hk⟩:∃k,k=Xe s:=⟨_,rfl⟩;obtain⟨ke,kr⟩:=k;refine⟨_,_,h ke kr hk,λD hD=>?_⟩;cbv;clear h;unfold Xe at hk;refine br hD (λh=>?_) (λh=>?_)<;>cbv
 .have h2:500<s.length:=by have h:decide ((500:Int)<(s.length:Int))=true:=h;simp only[QN]at h;omega
  rw[QE h2]at hk;simp only[Prod.mk.injEq]at hk;exact R9 hD hk.1.symm hk.2.symm
 have hlen:s.length<=500:=by have h:decide ((500:Int)<(s.length:Int))=false:=h;simp only[XG]at h;omega
 rw[QD (by omega),FG]at hk;clear h;refine⟨λhg=>?_,λc hc=>?_⟩
 .subst hD
  have hg:(!(s==[]))=true:=hg;have hg:(s==[])=false:=by simpa only[XK] using hg
  have aV:s≠[]:=λe=>by rw[e]at hg;cases hg
  exact⟨by decide,by show (0:Int)<_;have:=List.length_pos_iff.2 aV;omega⟩
 cbv;have cQ:Cq c s 0:=by subst hD;exact⟨hc.h⟩
 rw[<-cQ.aC]at hk;clear hc;refine br hD (λh=>?_) (λh=>?_)<;>cbv
 .have h2:((s==[])||(c != 47))=true:=h
  rw[QE (by
   simp only[ZB,XI,bne_iff_ne,ne_eq]at h2;simp only[XK,XG,not_and];rintro h3 h4;rcases h2 with h2|h2
   .exact h3 h2
   .exact h2 h4)]at hk
  simp only[Prod.mk.injEq]at hk;exact R9 hD hk.1.symm hk.2.symm
 have h2:((s==[])||(c != 47))=false:=h;rw[QD (by
   simp only[XU,beq_eq_false_iff_ne,bne_eq_false_iff_eq,ne_eq]at h2;simp only[XK,XG];exact λh=>h h2)]at hk
 clear h h2 cQ;obtain⟨kk,bD⟩:∃kk,kk=I8 s 0 s.length:=⟨_,rfl⟩;rw[<-bD]at hk;obtain⟨J,hJ⟩:∃J,J=NL s kk:=⟨_,rfl⟩;refine⟨[0,4,5],J,⟨rfl,s.length,?_⟩,?_⟩
 .rw[hJ]
  subst hD;exact⟨0,s.length,_,_,rfl,rfl,At.zero hs,rfl,bD,hlen⟩
 clear bD;intro m vs hp hj;rw[hJ]at hj;obtain⟨i,e,I,E,rfl,rfl,V⟩:=hj;cbv;refine br hD (λh=>?_) (λh=>?_)<;>cbv
 .have aA:=V.aZ.lt (QS (p:=I<(s.length:Int)) h)
  clear h;refine⟨V.aZ.nU hD aA,λc hc=>?_⟩;cbv;have cQ:Cq c s i:=D0 hD V.aZ.I hc;clear hc;refine br hD (λh=>?_) (λh=>?_)<;>cbv
  .have h2:c=63:=by have h:(c==63)=true:=h;exact eq_of_beq h
   have he:Du s i=false:=by
    unfold Du;rw[UW];rintro⟨_,h3,_⟩;rw[<-cQ.aC,h2]at h3;cases h3
   have wy:=Yh (e:=e) aA he (by rw[<-cQ.aC];exact h2);intro mn pe;cbv;have wx:mn=min E I:=by subst hD;exact pe.h
   clear pe;refine⟨s.length-(i+1),by have:=V.aZ.m;omega,?_⟩;rw[hJ];unfold NL;subst hD;refine⟨i+1,min e i,_,_,rfl,rfl,(V.aZ.step rfl aA).2,?_,by rw[V.k,wy],hlen⟩;have:=V.aZ.I;have:=V.E;show mn=_;rw[wx];omega
  have h2:c≠63:=by have h:(c==63)=false:=h;simpa using h
  clear h;refine⟨s,i,I,by subst hD;rfl,rfl,V.aZ.I,by omega,by omega,λb hb=>?_⟩;cbv;refine br hD (λh=>?_) (λh=>?_)<;>cbv
  .have h3:Du s i=true:=by rw[<-hb];exact h
   have h4:=Y6 h3;refine⟨s.length-(i+3),by have:=V.aZ.m;omega,?_⟩;rw[hJ];unfold NL;subst hD;exact⟨i+3,e,_,_,rfl,rfl,⟨by omega,FJ V.aZ aA (by omega),rfl,V.aZ.len⟩,V.E,by rw[V.k,Acr aA h3],hlen⟩
  have he:Du s i=false:=by rw[<-hb];exact h
  clear h hb;refine⟨V.aZ.nU hD aA,λd hd=>?_⟩;cbv;have hdc:d=c:=by rw[(D0 hD V.aZ.I hd).h,cQ.h]
  subst hdc;clear hd;refine⟨_,rfl,rfl,by subst hD;exact cQ.le,λp hp=>?_⟩;cbv;have hp:p=Ni d:=by subst hD;exact hp
  refine⟨λ_=>V.aZ.nU hD aA,λd2 lX=>?_⟩;cbv;have hdc:d2=d:=by rw[(D0 hD V.aZ.I lX).h,cQ.h]
  subst hdc;clear lX;refine⟨_,[33,36,38,39,40,41,42,43,44,59,61,58,64,47],rfl,rfl,by decide,λq hq=>?_⟩;cbv;have hq:q=Iq d2 amS:=by subst hD;exact hq
  have fW:=Ano cQ.le;rw[<-hp,<-hq]at fW;clear hp hq;have kX:=cQ.aC;refine br hD (λh=>?_) (λh=>?_)<;>cbv
  .have h:(!p&&!q)=true:=h
   rw[fW]at h;rw[V.k,Acu aA he (by rw[<-kX];exact h2) (by rw[<-kX];exact QS h)]at hk;simp only[Prod.mk.injEq]at hk;exact R9 hD hk.1.symm hk.2.symm
  .have h:(!p&&!q)=false:=h
   rw[fW]at h;refine⟨s.length-(i+1),by have:=V.aZ.m;omega,?_⟩;rw[hJ];unfold NL;subst hD;exact⟨i+1,e,_,_,rfl,rfl,(V.aZ.step rfl aA).2,V.E,by rw[V.k,Yg aA he (by rw[<-kX];exact h2) (by rw[<-kX];exact QZ h)],hlen⟩
 have hi:=V.aZ.eq (QZ (p:=I<(s.length:Int)) h);clear h;rw[V.k,Acs hi]at hk;simp only[Prod.mk.injEq]at hk;exact R9 hD (by rw[hk.1];exact V.E) hk.2.symm
theorem cg(t:List UInt8):r9 t=jH uU t:=by
 have e:∀(a b:List UInt8),(a==b)=(b==a):=λa b=>by rw[ZC,XI,XI];exact eq_comm
 unfold r9;rw[e t,e t,e t,e t];show _=(_||(_||(_||(_||false))));rw[VQ]
theorem Ae1(x:HF)(l:List HF):Kd (x :: l)=(r9 (Bg x.name)||Kd l):=rfl
def oF:aD:=λ_ xs ls K=>∃(r:Rq) (nl:Bool) (n:Int) (f:Nat->List SV),xs=[.agg [.int .i64 (.a r.id),.str r.method,.str r.target,.str r.host,.sl (.a nl) (.a n) 2 f,.str r.body]]/\ls=[]/\Rc r nl n f/\0<=r.id/\∀e,e=(A9 r).2->K (.int .i64 (.a e)) []
def fiJ(r:Rq)(k:Bool)(nl:Bool)(n:Int)(f:Nat->List SV)(m:Nat)(vs:List (Option SV))(hp:List Hl):Prop :=
 ∃(i:Nat) (I:Int),vs=[some (.ptr 0 0),some (.int .i64 (.a I))]/\hp=[.aE 55 [.int .i64 (.a r.id),.str r.method,.str r.target,.str r.host,.sl (.a nl) (.a n) 2 f,.str r.body]]/\OwJ r.fields k i I m
theorem Z0:Aw Tryz.prog gl 205 oF:=by
 refine Bd (gh:=[]) mixed Be (Ab K2 (Ab ug (Ab Jy (Ab Agq (Ab Mv Ai))))) Tryz.func205 (by kernel_rfl) (by kernel_rfl) ?_;intro xs ls K h;unfold oF at h;obtain⟨r,nl,n,f,rfl,rfl,R,hid,h⟩:=h;obtain⟨k,hk⟩:∃k,k=(A9 r).2:=⟨_,rfl⟩;obtain⟨wg,wn,hwR⟩:=Jm R;refine⟨_,_,h k hk,λD hD=>?_⟩;clear h;have BH:=Rf r;obtain⟨wl,ei⟩:∃w,w=A2 r:=⟨_,rfl⟩;unfold A9 at hk;rw[<-ei]at hk hwR BH;obtain⟨wl,we⟩:=wl;simp only at hk hwR BH;obtain⟨ao,gp⟩:∃a,a=Kd r.fields:=⟨_,rfl⟩;obtain⟨J,hJ⟩:∃J,J=fiJ r ao nl n f:=⟨_,rfl⟩;rw[<-gp]at hk;obtain⟨id,me,ta,ho,fs,bo⟩:=r;simp only at R gp hk hid;cbv;refine⟨fs,_,_,f,by subst hD;rfl,rfl,R.row,λe he=>?_⟩;cbv;rw[<-he]at hk;clear he;refine br hD (λh=>?_) (λh=>?_)<;>cbv
 .have h1:e≠0:=by simpa using h
  rw[QE h1]at hk;exact Bj hD hk.symm
 have h1:¬e≠0:=by simpa using h
 rw[QD h1]at hk;clear h h1;refine⟨[1,4],J,⟨rfl,fs.length,?_⟩,?_⟩
 .rw[hJ]
  subst hD;exact⟨0,0,rfl,rfl,⟨AtR.zero R.row.len,gp⟩⟩
 clear gp;intro m vs hp hj;rw[hJ]at hj;obtain⟨i,I,rfl,rfl,V⟩:=hj;have VR:=R.row;simp only at VR;cbv;refine br hD (λh=>?_) (λh=>?_)<;>cbv
 .have aA:=V.aZ.lt VR.n (QS (p:=I<n) h)
  clear h;have oJ:=V.aZ.mP hD VR.n aA;have hx:=VR.f i aA;have fF:=VR.small i aA;have cM:=V.aZ.step hD aA;have rL:=V.k;simp only at aA hx fF rL;rw[MV aA,Ae1,cg]at rL;obtain⟨x,jU⟩:∃x,x=fs.getD i default:=⟨_,rfl⟩;rw[<-jU]at hx rL fF;clear jU;obtain⟨xn,xv⟩:=x;simp only at rL;intro of on ob Go;cbv;refine⟨oJ,λj hj=>?_⟩;have hj:=V.aZ.j hD hj;cbv;rw[hj,hx];cbv;refine⟨xn,rfl,rfl,fF.1,λw hw=>?_⟩;cbv;rw[<-hw]at rL;refine⟨uU,w,ob,on,of,by subst hD;rfl,rfl,Go.row,λq hq=>?_⟩;cbv;rw[<-hq]at rL;refine br hD (λh=>?_) (λh=>?_)<;>cbv
  .have h:q=true:=h
   rw[h,VP]at rL;rw[QE rL]at hk;exact Bj hD hk.symm
  .have h:q=false:=h
   rw[h,UM]at rL;refine⟨_,cM.1,?_⟩;rw[hJ];unfold fiJ;subst hD;exact⟨i+1,_,rfl,rfl,⟨cM.2,rL⟩⟩
 have hi:=V.aZ.eq VR.n (QZ (p:=I<n) h);have rL:=V.k;simp only at hi rL;have rN:fs.drop i=[]:=XM (by omega);rw[rN]at rL;have rL:ao=false:=rL;rw[QD (by rw[rL];simp)]at hk;clear h rN;refine⟨⟨id,me,ta,ho,fs,bo⟩,nl,n,f,by subst hD;rfl,rfl,R,hid,λl e2 uq n3 g3 hc R3 sO=>?_⟩;cbv;rw[<-ei]at hc;simp only[Prod.mk.injEq]at hc;obtain⟨cT,bE⟩:=hc;subst cT bE;refine br hD (λh=>?_) (λh=>?_)<;>cbv
 .have h1:e2≠0:=by simpa using h
  rw[QE h1]at hk;exact Bj hD hk.symm
 have h1:¬e2≠0:=by simpa using h
 rw[QD h1]at hk;clear h h1;refine⟨l,uq,n3,g3,by subst hD;rfl,rfl,R3,λe3 IT=>?_⟩;cbv;rw[<-IT]at hk;exact Bj hD hk.symm
structure ae7(id:Int):Prop where
 lo:0<=id
theorem Pj{D:Dn}(hD:D=dn){p p':List UInt8}{e:Int}{z:ST}(hp:p'=p)(h3:z.den=e):Fin (.tup [.str p',.int .i64 (.a (D.i z))]) (.tup [.str p,.int .i64 (.a e)]) [] []:=by
 subst hD hp h3;exact Fb (fE.refl _)
theorem Ajx:Aw Tryz.prog gl 146 qC:=by
 refine Bd (gh:=[]) mixed Be (Ab Xc (Ab Zy (Ab Afx (Ab Z0 (Ab Afy Ai))))) Tryz.func146 (by kernel_rfl) (by kernel_rfl) ?_;intro xs ls K h;unfold qC at h;obtain⟨r,nl,n,f,rfl,rfl,R,h⟩:=h;obtain⟨k,hk⟩:∃k,k=Av r:=⟨_,rfl⟩;obtain⟨kp,kl,ke⟩:=k;refine⟨_,_,h kp ke (by unfold Aa0;rw[<-hk]),λD hD=>?_⟩;clear h;unfold Av at hk;obtain⟨ck,pS⟩:∃w,w=A9 r:=⟨_,rfl⟩;rw[<-pS]at hk;obtain⟨cl,ce⟩:=ck;obtain⟨id,me,ta,ho,fs,bo⟩:=r;have AB:=R.method;have LQ:=R.target;have LU:=R.host;simp only at hk AB LQ LU;cbv;refine br hD (λh=>?_) (λh=>?_)<;>cbv
 .have h1:id<1\/1000000000<id:=by
   have h:(decide (id<1)||decide (1000000000<id))=true:=h;simpa using h
  rw[QE h1]at hk;simp only[Prod.mk.injEq]at hk;obtain⟨cT,bE,gV⟩:=hk;subst cT bE gV;exact Pj hD rfl rfl
 have h1:¬(id<1\/1000000000<id):=by
  have h:(decide (id<1)||decide (1000000000<id))=false:=h;simp only[XU,XG]at h;omega
 rw[QD h1]at hk;have WT:ae7 id:=⟨by show 0<=id;omega⟩;clear h h1;refine⟨me,rfl,rfl,AB,λim ID=>?_⟩;cbv;rw[<-ID]at hk;clear ID;refine br hD (λh=>?_) (λh=>?_)<;>cbv
 .have h1:(!im)=true:=h
  rw[QE h1]at hk;simp only[Prod.mk.injEq]at hk;obtain⟨cT,bE,gV⟩:=hk;subst cT bE gV;exact Pj hD rfl rfl
 have h1:(!im)=false:=h;rw[QD (by rw[h1];simp)]at hk;clear h h1;refine br hD (λh=>?_) (λh=>?_)<;>cbv
 .have h1:me=eN:=eq_of_beq (show (me==eN)=true from h)
  rw[QE h1]at hk;simp only[Prod.mk.injEq]at hk;obtain⟨cT,bE,gV⟩:=hk;subst cT bE gV;exact Pj hD rfl rfl
 have h1:¬me=eN:=by
  have h:(me==eN)=false:=h;intro e;rw[e]at h;simp at h
 rw[QD h1]at hk;clear h h1;refine⟨ta,rfl,rfl,LQ,λoi oe BO=>?_⟩;cbv;rw[<-BO]at hk;simp only at hk;clear BO;refine br hD (λh=>?_) (λh=>?_)<;>cbv
 .have h1:oe≠0:=by simpa using h
  rw[QE h1]at hk;simp only[Prod.mk.injEq]at hk;obtain⟨cT,bE,gV⟩:=hk;subst cT bE gV;exact Pj hD rfl rfl
 have h1:¬oe≠0:=by simpa using h
 rw[QD h1]at hk;clear h h1;refine⟨ho,rfl,rfl,LU,λhh IH=>?_⟩;cbv;rw[<-IH]at hk;clear IH;refine br hD (λh=>?_) (λh=>?_)<;>cbv
 .have h1:(!hh)=true:=h
  rw[QE h1]at hk;simp only[Prod.mk.injEq]at hk;obtain⟨cT,bE,gV⟩:=hk;subst cT bE gV;exact Pj hD rfl rfl
 have h1:(!hh)=false:=h;rw[QD (by rw[h1];simp)]at hk;clear h h1;refine⟨⟨id,me,ta,ho,fs,bo⟩,nl,n,f,by subst hD;rfl,rfl,R,WT.lo,λe hc=>?_⟩;cbv;rw[<-pS]at hc;have hc:e=ce:=hc;subst hc;refine br hD (λh=>?_) (λh=>?_)<;>cbv
 .have h1:e≠0:=by simpa using h
  rw[QE h1]at hk;simp only[Prod.mk.injEq]at hk;obtain⟨cT,bE,gV⟩:=hk;subst cT bE gV;exact Pj hD rfl rfl
 have h1:¬e≠0:=by simpa using h
 rw[QD h1]at hk;clear h h1;refine br hD (λh=>?_) (λh=>?_)<;>cbv
 .have h1:65536<bo.length:=by have h:decide ((65536:Int)<(bo.length:Int))=true:=h;simp only[QN]at h;omega
  rw[QE h1]at hk;simp only[Prod.mk.injEq]at hk;obtain⟨cT,bE,gV⟩:=hk;subst cT bE gV;exact Pj hD rfl rfl
 have h1:¬65536<bo.length:=by have h:decide ((65536:Int)<(bo.length:Int))=false:=h;simp only[XG]at h;omega
 rw[QD h1]at hk;clear h h1;refine⟨me,rfl,rfl,AB,λb hb=>?_⟩;cbv;rw[<-hb]at hk;clear hb;refine br hD (λh=>?_) (λh=>?_)<;>cbv
 .have h1:(bo != []&&b)=true:=h
  rw[QE h1]at hk;simp only[Prod.mk.injEq]at hk;obtain⟨cT,bE,gV⟩:=hk;subst cT bE gV;exact Pj hD rfl rfl
 .have h1:¬(bo != []&&b)=true:=by
   have h:(bo != []&&b)=false:=h;rw[h];simp
  rw[QD h1]at hk;simp only[Prod.mk.injEq]at hk;obtain⟨cT,bE,gV⟩:=hk;subst cT bE gV;exact Pj hD rfl rfl
set_option maxHeartbeats 8000000
def tP:aD:=λ_ xs ls K=>∃(l:List HF) (nl:Bool) (n:Int) (f:Nat->List SV),xs=[.sl (.a nl) (.a n) 2 f]/\ls=[]/\A3 f n l/\Bh l=0/\∀t,t=Gs l->K (.str t) []
def liJ(l:List HF)(k:List UInt8)(nl:Bool)(n:Int)(f:Nat->List SV)(m:Nat)(vs:List (Option SV))(hp:List Hl):Prop :=
 ∃(t:List UInt8) (i:Nat) (I:Int),vs=[some (.sl (.a nl) (.a n) 2 f),some (.str t),some (.int .i64 (.a I))]/\hp=[]/\PrJ l k t i I m
theorem Anj:Aw Tryz.prog gl 210 tP:=by
 refine Bd (gh:=[]) mixed Be Ai Tryz.func210 (by kernel_rfl) (by kernel_rfl) ?_;intro xs ls K h;unfold tP at h;obtain⟨l,nl,n,f,rfl,rfl,R,h1,h⟩:=h;obtain⟨k,hk⟩:∃k,k=Gs l:=⟨_,rfl⟩;have rP:=G9 h1;have yM:=Dl h1;refine⟨_,_,h k hk,λD hD=>?_⟩;clear h h1;cbv;obtain⟨J,hJ⟩:∃J,J=liJ l k nl n f:=⟨_,rfl⟩;refine⟨[0,3,4],J,⟨rfl,l.length,?_⟩,?_⟩
 .rw[hJ]
  subst hD;exact⟨[],0,0,rfl,rfl,AtR.zero R.len,hk,by simp⟩
 clear hk;intro m vs hp hj;rw[hJ]at hj;obtain⟨t,i,I,rfl,rfl,V⟩:=hj;cbv;refine br hD (λh=>?_) (λh=>?_)<;>cbv
 .have aA:=V.aZ.lt R.n (QS (p:=I<n) h)
  clear h;have oJ:=V.aZ.mP hD R.n aA;have e1:=R.f i aA;have fF:=rP (l.getD i default) (by rw[QC,QA aA];exact XQ aA);have aR:=V.k;have hlen:=V.len;rw[Pn (d:=default) aA]at aR;obtain⟨x,hx⟩:∃x,x=l.getD i default:=⟨_,rfl⟩;rw[<-hx]at e1 aR fF;obtain⟨a,b⟩:=x;simp only at fF;refine⟨oJ,λj hj=>?_⟩;have hj:=V.aZ.j hD hj;cbv;rw[hj,e1];cbv;refine⟨⟨by omega⟩,λs1 cC=>?_⟩;cbv;have cC:s1=t++a:=cC.h;have l1:s1.length<=3000 * i+64:=by rw[cC,QW];omega
  refine⟨⟨by simp only[QT,XV];omega⟩,λs2 eE=>?_⟩;cbv;have eE:s2=s1++[58,32]:=eE.h;have l2:s2.length<=3000 * i+66:=by rw[eE];simp;omega
  refine⟨oJ,λj2 iZ=>?_⟩;have iZ:=V.aZ.j hD iZ;cbv;rw[iZ,e1];cbv;refine⟨⟨by omega⟩,λs3 kT=>?_⟩;cbv;have kT:s3=s2++b:=kT.h;have l3:s3.length<=3000 * i+2066:=by rw[kT,QW];omega
  refine⟨⟨by simp only[QT,XV];omega⟩,λs4 sI=>?_⟩;cbv;have sI:s4=s3++[13,10]:=sI.h;have l4:s4.length<=3000 * (i+1):=by rw[sI];simp;omega
  have yB:s4=t++Yn ⟨a,b⟩:=by rw[sI,kT,eE,cC];simp[Yn]
  clear cC eE kT sI;obtain⟨g1,g2⟩:=V.aZ.step hD aA;refine⟨_,g1,?_⟩;rw[hJ];unfold liJ;subst hD;refine⟨s4,i+1,_,rfl,rfl,g2,?_,l4⟩;rw[aR,yB];simp[Gs]
 .have hi:=V.aZ.eq R.n (QZ (p:=I<n) h)
  have aR:=V.k;have hlen:=V.len;rw[hi,ZR]at aR;clear h;refine⟨⟨by simp only[QT,XV];omega⟩,λr hr=>?_⟩;cbv;have hr:r=t++[13,10]:=hr.h;have:r=k:=by rw[hr,aR];rfl
  rw[this];subst hD;exact Ce rfl rfl
theorem Acd:Aw Tryz.prog gl 148 mD:=by
 refine Bd (gh:=[]) mixed Be (Ab K2 (Ab Anj Ai)) Tryz.func148 (by kernel_rfl) (by kernel_rfl) ?_;intro xs ls K h;unfold mD at h;obtain⟨l,nl,n,f,rfl,rfl,R,h⟩:=h;obtain⟨k,hk⟩:∃k,k=Fs l:=⟨_,rfl⟩;obtain⟨kt,ke⟩:=k;refine⟨_,_,h kt ke hk,λD hD=>?_⟩;clear h;cbv;unfold Fs at hk;refine⟨l,_,_,f,rfl,rfl,by subst hD;exact R,λe he=>?_⟩;cbv;rw[<-he]at hk;refine br hD (λh=>?_) (λh=>?_)<;>cbv
 .have h1:e≠0:=by simpa using h
  rw[QE h1]at hk;simp only[Prod.mk.injEq]at hk;obtain⟨cT,bE⟩:=hk;subst cT bE;subst hD;exact Ce rfl rfl
 have h1:e=0:=by simpa using h
 rw[QD (by simp[h1])]at hk;simp only[Prod.mk.injEq]at hk;obtain⟨cT,bE⟩:=hk;refine⟨l,_,_,f,rfl,rfl,by subst hD;exact R,by rw[<-he,h1],λt ht=>?_⟩;cbv;have:t=kt:=by rw[ht,cT]
 rw[this,bE];subst hD;exact Ce rfl rfl
variable {r:Rq}{f:Nat->List SV}{n:Int}{l:List HF}
theorem Ln(h:(A9 r).2=0):(A2 r).2=0/\(A9 r).1=(A2 r).1/\Bh (A2 r).1=0/\Bh r.fields=0/\Kd r.fields=false:=by
 unfold A9 at h ⊢
 split at h
 .rename_i g;exact absurd h g
 rename_i g1
 split at h
 .cases h
 rename_i g2
 split at h
 .rename_i g;exact absurd h g
 rename_i g3;rw[QD g1,QD g2,QD g3];exact⟨by simpa using g3,rfl,h,by simpa using g1,by simpa using g2⟩
theorem Ag0(h:(Av r).2.2=0):Cy r=(((((r.method++[32])++r.target)++sA)++Gs (A2 r).1)++r.body,0):=by
 have E:=Gj h;obtain⟨_,h2,h3,_,_⟩:=Ln E.CI;unfold Cy;have hp:Fs (A2 r).1=(Gs (A2 r).1,0):=by unfold Fs;rw[QD (by simp[h3])]
 rw[QD (by simp[h]),E.fields,h2,hp,QD (by simp)]
theorem Ag1(h:(Av r).2.2≠0):Cy r=([],(Av r).2.2):=by
 unfold Cy;rw[QE h]
theorem Z1:Aw Tryz.prog gl 92 tS:=by
 refine Bd (gh:=[]) mixed Be (Ab Ajx (Ab Mv (Ab Acd Ai))) Tryz.func92 (by kernel_rfl) (by kernel_rfl) ?_;intro xs ls K h;unfold tS at h;obtain⟨r,nl,n,f,rfl,rfl,R,h⟩:=h;obtain⟨k,hk⟩:∃k,k=Cy r:=⟨_,rfl⟩;obtain⟨kt,ke⟩:=k;refine⟨_,_,h kt ke hk,λD hD=>?_⟩;clear h;have hE:=Gj (r:=r);have hM:(Av r).2.2=0->r.method.length<=16:=λh=>(hE h).mN;have hT:(Av r).2.2=0->r.target.length<=500:=λh=>Acv (hE h).org;have hB:(Av r).2.2=0->r.body.length<=65536:=λh=>(hE h).body;have hI:(Av r).2.2=0->0<=r.id:=λh=>by have:=(hE h).BE;omega
 have hW:(Av r).2.2=0->(A2 r).2=0/\Bh (A2 r).1=0:=λh=>by
  have:=Ln (hE h).CI;exact⟨this.1,this.2.2.1⟩
 have hy:(Av r).2.2=0->(kt,ke)=(((((r.method++[32])++r.target)++sA)++Gs (A2 r).1)++r.body,0):=λh=>by rw[hk];exact Ag0 h
 have hn:(Av r).2.2≠0->(kt,ke)=([],(Av r).2.2):=λh=>by rw[hk];exact Ag1 h
 clear hE hk;obtain⟨ck,pS⟩:∃w,w=Aa0 r:=⟨_,rfl⟩;have JB:(Av r).2.2=ck.2:=by rw[pS];rfl
 rw[JB]at hM hT hB hI hW hy hn;clear JB;obtain⟨cp,ce⟩:=ck;obtain⟨wl,ei⟩:∃w,w=A2 r:=⟨_,rfl⟩;rw[<-ei]at hW hy;obtain⟨wl,we⟩:=wl;obtain⟨id,me,ta,ho,fs,bo⟩:=r;simp only at hM hT hB hI hW hy hn;cbv;refine⟨⟨id,me,ta,ho,fs,bo⟩,nl,n,f,by subst hD;rfl,rfl,R,λp e hc=>?_⟩;cbv;rw[<-pS]at hc;simp only[Prod.mk.injEq]at hc;obtain⟨cT,bE⟩:=hc;subst cT bE;clear pS;refine br hD (λh=>?_) (λh=>?_)<;>cbv
 .have h1:e≠0:=by simpa using h
  have hk:=hn h1;simp only[Prod.mk.injEq]at hk;obtain⟨cT,bE⟩:=hk;subst cT bE;subst hD;exact Ce rfl rfl
 have h1:e=0:=by simpa using h
 have hM:=hM h1;have hT:=hT h1;have hB:=hB h1;have hI:=hI h1;have hW:=hW h1;have hk:=hy h1;clear h hy hn;refine⟨⟨id,me,ta,ho,fs,bo⟩,nl,n,f,by subst hD;rfl,rfl,R,hI,λl e2 uq n3 g3 hc R3 sO=>?_⟩;cbv;rw[<-ei]at hc;simp only[Prod.mk.injEq]at hc;obtain⟨cT,bE⟩:=hc;subst cT bE;clear ei;refine⟨l,_,_,g3,rfl,rfl,by subst hD;exact R3,λt e3 ht=>?_⟩;cbv;have JI:=Us (l:=l);rw[<-ht]at JI;have uY:(t,e3)=(Gs l,0):=by rw[ht];unfold Fs;rw[QD (by simp[hW.2])]
 simp only[Prod.mk.injEq]at uY;obtain⟨uY,ht3⟩:=uY;rw[<-uY]at hk;simp only at JI;simp only[Prod.mk.injEq]at hk;obtain⟨cT,bE⟩:=hk;clear ht uY;refine⟨⟨by simp only[QT,XV];omega⟩,λs1 cC=>?_⟩;cbv;have cC:s1=me++[32]:=cC.h;have l1:s1.length<=17:=by rw[cC];simp;omega
 refine⟨⟨by omega⟩,λs2 eE=>?_⟩;cbv;have eE:s2=s1++ta:=eE.h;have l2:s2.length<=517:=by rw[eE];simp;omega
 refine⟨⟨by simp only[QT,XV];omega⟩,λs3 kT=>?_⟩;cbv;have kT:s3=s2++sA:=kT.h;have l3:s3.length<=528:=by rw[kT,QW];have:sA.length=11:=rfl;omega
 refine⟨⟨by omega⟩,λs4 sI=>?_⟩;cbv;have sI:s4=s3++t:=sI.h;have l4:s4.length<=400528:=by rw[sI,QW];omega
 refine⟨⟨by omega⟩,λs5 wh=>?_⟩;cbv;have wh:s5=s4++bo:=wh.h;have:s5=kt:=by rw[wh,sI,kT,eE,cC,cT]
 rw[this,bE,ht3];subst hD;exact Ce rfl rfl
def AZ(r:Rq)(nb:Bool)(n:Int)(f:Nat->List SV)(out m:List UInt8)(a b:Int):SV:=.agg [.int .i64 (.a r.id),.str r.method,.str r.target,.str r.host,.sl (.a nb) (.a n) 2 f,.str r.body,.str out,.int .i64 (.a 0),
 .str m,.int .i64 (.a 0),.int .i64 (.a 0),.str [],.int .i64 (.a 0),.int .i64 (.a 0),.str [],.sl (.a true) (.a 0) 2 λ_=>[],.int .i64 (.a 0),.str [],.int .i64 (.a 0),.int .i64 (.a 0),.str [],.str [],.int .i64 (.a 0),.sl (.a true) (.a 0) 2 λ_=>[],
 .int .i64 (.a a),.int .i64 (.a b),.int .i64 (.a 0),.bool (.a false),.int .i64 (.a 0)]
def Kb(r:Rq)(a b:Int):Rq×List UInt8×List UInt8×Int×Int×Int :=
 if (Cy r).2≠0 then (NQ,[],[],0,0,(Cy r).2) else if DA a b then (r,(Cy r).1,r.method,a,b,0) else (NQ,[],[],0,0,7)
def jY:aD:=λ_ xs ls K=>∃(r:Rq) (nl:Bool) (n:Int) (f:Nat->List SV) (a b:Int),xs=[.agg [.int .i64 (.a r.id),.str r.method,.str r.target,.str r.host,.sl (.a nl) (.a n) 2 f,.str r.body],.int .i64 (.a a),.int .i64 (.a b)]/\ls=[]/\Rc r nl n f/\
 ∀q out m a' b' e nb n' f',(q,out,m,a',b',e)=Kb r a b->A3 f' n' q.fields->K (.tup [AZ q nb n' f' out m a' b',.int .i64 (.a e)]) []
theorem Wd(h:(Cy r).2=0):Cc r.method=true:=by
 have h1:(Av r).2.2=0:=by
  unfold Cy at h
  split at h
  .rename_i g;exact absurd h g
  .rename_i g;simpa using g
 have:=(Gj h1).method;unfold Dq at this;simp only[QB]at this;exact this.2
theorem leB{t t':BT}(h:t.den=t'.den):fE (.bool t) (.bool t'):=by
 intro E w v hr;obtain rfl:=hr.bG;exact .ro (.bool h.symm)
theorem DB{q:Rq}{nb od:BT}{n n':ST}{f':Nat->List SV}{out m:List UInt8}{i s1 s2 s3 s4 s5 s6 s7 s8 s9 a b p w:ST}{b1 b2 bb:BT}{c1 c2:ST}{a' b' i':Int}
  (hi:i.den=q.id) (hr:fE (.sl nb n 2 f) (.sl od n' 2 f')) (h1:s1.den=0) (h2:s2.den=0) (h3:s3.den=0) (h4:s4.den=0) (h5:s5.den=0) (h6:s6.den=0) (h7:s7.den=0) (h8:s8.den=0) (h9:s9.den=0)
  (ha:a.den=a') (hb:b.den=b') (hp:p.den=0) (hw:w.den=0) (cB:bb.den=false) (vJ:b1.den=true) (mW:c1.den=0) (eA:b2.den=true) (cQ:c2.den=0) (g1 g2:Nat->List SV) (he:i'=q.id):
  fE (.agg [.int .i64 i,.str q.method,.str q.target,.str q.host,.sl nb n 2 f,.str q.body,.str out,.int .i64 s1,.str m,.int .i64 s2,.int .i64 s3,.str [],.int .i64 s4,.int .i64 s5,.str [],.sl b1 c1 2 g1,.int .i64 s6,.str [],.int .i64 s7,.int .i64 s8,.str [],.str [],.int .i64 s9,.sl b2 c2 2 g2,.int .i64 a,.int .i64 b,.int .i64 p,.bool bb,.int .i64 w])
   (.agg [.int .i64 (.a i'),.str q.method,.str q.target,.str q.host,.sl od n' 2 f',.str q.body,.str out,.int .i64 (.a 0),
 .str m,.int .i64 (.a 0),.int .i64 (.a 0),.str [],.int .i64 (.a 0),.int .i64 (.a 0),.str [],.sl (.a true) (.a 0) 2 λ_=>[],.int .i64 (.a 0),.str [],.int .i64 (.a 0),.int .i64 (.a 0),.str [],.str [],.int .i64 (.a 0),.sl (.a true) (.a 0) 2 λ_=>[],
 .int .i64 (.a a'),.int .i64 (.a b'),.int .i64 (.a 0),.bool (.a false),.int .i64 (.a 0)]):=by
 have hz:∀ {b c g},BT.den b=true->ST.den c=0->fE (.sl b c 2 g) (.sl (.a true) (.a 0) 2 λ_=>[]):=λ{b c g} hb hc=>.sl hb hc λi hi=>absurd hi (by rw[hc];omega);subst he;exact .agg (.cons (Cs hi) (.cons (.refl _) (.cons (.refl _) (.cons (.refl _) (.cons hr (.cons (.refl _) (.cons (.refl _) (.cons (Cs h1) (.cons (.refl _) (.cons (Cs h2) (.cons (Cs h3) (.cons (.refl _) (.cons (Cs h4) (.cons (Cs h5) (.cons (.refl _) (.cons (hz vJ mW) (.cons (Cs h6) (.cons (.refl _) (.cons (Cs h7) (.cons (Cs h8) (.cons (.refl _) (.cons (.refl _) (.cons (Cs h9) (.cons (hz eA cQ) (.cons (Cs ha) (.cons (Cs hb) (.cons (Cs hp) (.cons (leB cB) (.cons (Cs hw) .nil)))))))))))))))))))))))))))))
theorem Ag2(h:(Cy r).2=0):r.fields.length<=100000:=by
 have h1:(Av r).2.2=0:=by
  unfold Cy at h
  split at h
  .rename_i g;exact absurd h g
  .rename_i g;simpa using g
 have h2:=Dl (Ln (Gj h1).CI).2.2.2.1;omega
theorem Aln:Aw Tryz.prog yU 31 jY:=by
 refine Bd (gh:=[]) mixed Fy (Ab Ak9 (Ab (Gt u9) (Ab (Gt Al8) Ai))) Tryz.func31 (by kernel_rfl) (by kernel_rfl) ?_;intro xs ls K h;unfold jY at h;obtain⟨r,nl,n,f,a,b,rfl,rfl,R,h⟩:=h;obtain⟨k,hk⟩:∃k,k=Kb r a b:=⟨_,rfl⟩;obtain⟨kq,ko,km,ka,kb,ke⟩:=k;have fR:=Wd (r:=r);have pJ:=Ag2 (r:=r);obtain⟨kn,fW⟩:∃x:Bool,x=kq.fields.isEmpty:=⟨_,rfl⟩;obtain⟨kf,rM⟩:∃x,x=Vs kq.fields:=⟨_,rfl⟩;obtain⟨kl,pF⟩:∃x:Int,x=kq.fields.length:=⟨_,rfl⟩;have BL:kq=r\/kq=NQ:=by
  unfold Kb at hk
  split at hk
  .exact .inr (Prod.mk.inj hk).1
  .split at hk
   .exact .inl (Prod.mk.inj hk).1
   .exact .inr (Prod.mk.inj hk).1
 have R0:A3 kf kl kq.fields:=by
  rw[rM,pF];rcases BL with rfl|rfl
  .exact A3.row R.row.len R.row.small
  .exact A3.row (by decide) λi hi=>absurd hi (by show ¬i<0;omega)
 refine⟨_,_,h kq ko km ka kb ke kn kl kf hk R0,λD hD=>?_⟩;clear h BL rM pF;unfold Kb at hk;obtain⟨c,hc⟩:∃c,c=Cy r:=⟨_,rfl⟩;rw[<-hc]at hk fR pJ;obtain⟨ct,ce⟩:=c;obtain⟨ir,IB⟩:∃x,x=DA a b:=⟨_,rfl⟩;rw[<-IB]at hk;obtain⟨id,me,ta,ho,fs,bo⟩:=r;unfold AZ;obtain⟨qi,qm,qt,qh,qf,qb⟩:=kq;simp only at hk fR fW R0 pJ;have OG:=R.method;have zP:=R.row.len;cbv;refine⟨⟨id,me,ta,ho,fs,bo⟩,nl,n,f,by subst hD;rfl,rfl,R,λt e iT=>?_⟩;cbv;rw[<-hc]at iT;simp only[Prod.mk.injEq]at iT;obtain⟨rfl,rfl⟩:=iT;refine br hD (λhb=>?_) (λhb=>?_)<;>cbv
 .have he:e≠0:=by simpa using hb
  rw[QE he]at hk;simp only[Prod.mk.injEq]at hk;obtain⟨hq,rfl,rfl,rfl,rfl,rfl⟩:=hk
  injection hq with q1 q2 q3 q4 q5 q6
  subst q1 q2 q3 q4 q5 q6;have sQ:kl=0:=R0.n;subst hD;exact Fb (.tup (.cons (DB (q:=⟨0,[],[],[],[],[]⟩) rfl (.sl (by rw[fW];rfl) (by exact sQ.symm) λi hi=>absurd hi (by show ¬((i:Int)<0);omega)) rfl rfl rfl rfl rfl rfl rfl rfl rfl rfl rfl rfl rfl rfl rfl rfl rfl rfl _ _ rfl) (.cons (Cs rfl) .nil)))
 have he:e=0:=by simpa using hb
 rw[QD (by simp[he])]at hk;have fR:=fR he;have pJ:=pJ he;clear hb;refine⟨a,b,by subst hD;rfl,rfl,λz hz=>?_⟩;cbv;rw[<-IB]at hz;subst hz;refine br hD (λhb=>?_) (λhb=>?_)<;>cbv
 .have hb:(!z)=true:=by subst hD;exact hb
  rw[QD (by simpa using hb)]at hk;simp only[Prod.mk.injEq]at hk;obtain⟨hq,rfl,rfl,rfl,rfl,rfl⟩:=hk
  injection hq with q1 q2 q3 q4 q5 q6
  subst q1 q2 q3 q4 q5 q6;have sQ:kl=0:=R0.n;subst hD;exact Fb (.tup (.cons (DB (q:=⟨0,[],[],[],[],[]⟩) rfl (.sl (by rw[fW];rfl) (by exact sQ.symm) λi hi=>absurd hi (by show ¬((i:Int)<0);omega)) rfl rfl rfl rfl rfl rfl rfl rfl rfl rfl rfl rfl rfl rfl rfl rfl rfl rfl _ _ rfl) (.cons (Cs rfl) .nil)))
 have hb:(!z)=false:=by subst hD;exact hb
 rw[QE (by simpa using hb)]at hk;clear hb;simp only[Prod.mk.injEq]at hk;obtain⟨hq,rfl,rfl,rfl,rfl,rfl⟩:=hk
 injection hq with q1 q2 q3 q4 q5 q6
 subst q1 q2 q3 q4 q5 q6;refine⟨_,rfl,rfl,OG,λy e hy xh=>?_⟩;rw[QE fR]at hy xh;subst hy xh;cbv;clear fR hc hb;refine br hD (λhb=>?_) (λhb=>?_)<;>cbv
 .have hb:((0:Int) != 0)=true:=by subst hD;exact hb
  exact absurd hb (by decide)
 clear hb;refine⟨?_,λf1 n1 hm=>?_⟩
 .have hn:n=(qf.length:Int):=R.row.n
  subst hD;exact⟨by show n * 32<=_;omega,by show n<=_;omega⟩
 cbv;have hn:n=(qf.length:Int):=R.row.n;have lW:kl=n:=R0.n.trans R.row.n.symm;have wv:n1=n:=by subst hD;exact hm.len
 have aP:∀i:Nat,(i:Int)<n->f1 i=kf i:=λi hi=>by
  have qZ:i<qf.length:=by omega
  rw[hm.row i (by subst hD;exact hi),R.row.f i qZ,R0.f i qZ]
 have sN:decide (n=0)=kn:=by
  rw[fW,hn];clear hm aP lW wv hn fW R0 R OG zP pJ;cases qf with
  |nil=>rfl
  |cons x l=>simp;omega
 clear hm;subst hD;exact Fb (.tup (.cons (DB (q:=⟨qi,qm,qt,qh,qf,qb⟩) rfl (.sl (by exact sN) (by show n1=kl;rw[wv,lW]) λi hi=>aP i (by have hi:(i:Int)<n1:=hi;omega)) rfl rfl rfl rfl rfl rfl rfl rfl rfl rfl rfl rfl rfl rfl rfl rfl rfl rfl _ _ rfl) (.cons (Cs rfl) .nil)))
theorem Ahb:Aw Tryz.prog yU 32 jY:=by
 refine Bd (gh:=[]) mixed Fy (Ab (Gt Z1) (Ab (Gt Akj) (Ab (Gt Ajl) Ai))) Tryz.func32 (by kernel_rfl) (by kernel_rfl) ?_;intro xs ls K h;unfold jY at h;obtain⟨r,nl,n,f,a,b,rfl,rfl,R,h⟩:=h;obtain⟨k,hk⟩:∃k,k=Kb r a b:=⟨_,rfl⟩;obtain⟨kq,ko,km,ka,kb,ke⟩:=k;have fR:=Wd (r:=r);have BL:(ke≠0->kq=NQ)/\(ke=0->kq=r):=by
  unfold Kb at hk
  split at hk
  .rename_i g
   simp only[Prod.mk.injEq]at hk;exact⟨λ_=>hk.1,λe=>absurd (hk.2.2.2.2.2.symm.trans e) g⟩
  .split at hk
   .simp only[Prod.mk.injEq]at hk
    exact⟨λe=>absurd hk.2.2.2.2.2 e,λ_=>hk.1⟩
   .simp only[Prod.mk.injEq]at hk
    exact⟨λ_=>hk.1,λe=>absurd (hk.2.2.2.2.2.symm.trans e) (by decide)⟩
 obtain⟨kn,kl,kf,R0,qP,TP⟩:∃(kn:Bool) (kl:Int) (kf:Nat->List SV),A3 kf kl kq.fields/\(ke≠0->kn=true)/\(ke=0->kn=nl/\kl=n/\kf=f):=by
  by_cases g:ke=0
  .exact⟨nl,n,f,by rw[BL.2 g];exact R.row,λe=>absurd g e,λ_=>⟨rfl,rfl,rfl⟩⟩
  .exact⟨true,0,λ_=>[],by rw[BL.1 g];exact Ma,λ_=>rfl,λe=>absurd e g⟩
 refine⟨_,_,h kq ko km ka kb ke kn kl kf hk R0,λD hD=>?_⟩;clear h BL;unfold Kb at hk;obtain⟨c,hc⟩:∃c,c=Cy r:=⟨_,rfl⟩;rw[<-hc]at hk fR;obtain⟨ct,ce⟩:=c;obtain⟨ir,IB⟩:∃x,x=DA a b:=⟨_,rfl⟩;rw[<-IB]at hk;obtain⟨id,me,ta,ho,fs,bo⟩:=r;unfold AZ;obtain⟨qi,qm,qt,qh,qf,qb⟩:=kq;simp only at hk fR R0;have OG:=R.method;cbv;refine⟨⟨id,me,ta,ho,fs,bo⟩,nl,n,f,by subst hD;rfl,rfl,R,λt e iT=>?_⟩;cbv;rw[<-hc]at iT;simp only[Prod.mk.injEq]at iT;obtain⟨rfl,rfl⟩:=iT;refine br hD (λhb=>?_) (λhb=>?_)<;>cbv
 .have he:e≠0:=by simpa using hb
  rw[QE he]at hk;simp only[Prod.mk.injEq]at hk;obtain⟨hq,rfl,rfl,rfl,rfl,rfl⟩:=hk
  injection hq with q1 q2 q3 q4 q5 q6
  subst q1 q2 q3 q4 q5 q6;have sQ:kl=0:=R0.n;subst hD;exact Fb (.tup (.cons (DB (q:=⟨0,[],[],[],[],[]⟩) rfl (.sl (by exact (qP (by assumption)).symm) (by exact sQ.symm) λi hi=>absurd hi (by show ¬((i:Int)<0);omega)) rfl rfl rfl rfl rfl rfl rfl rfl rfl rfl rfl rfl rfl rfl rfl rfl rfl rfl _ _ rfl) (.cons (Cs rfl) .nil)))
 have he:e=0:=by simpa using hb
 rw[QD (by simp[he])]at hk;have fR:=fR he;clear hb;refine⟨a,b,by subst hD;rfl,rfl,λz hz=>?_⟩;cbv;rw[<-IB]at hz;subst hz;refine br hD (λhb=>?_) (λhb=>?_)<;>cbv
 .have hb:(!z)=true:=by subst hD;exact hb
  rw[QD (by simpa using hb)]at hk;simp only[Prod.mk.injEq]at hk;obtain⟨hq,rfl,rfl,rfl,rfl,rfl⟩:=hk
  injection hq with q1 q2 q3 q4 q5 q6
  subst q1 q2 q3 q4 q5 q6;have sQ:kl=0:=R0.n;subst hD;exact Fb (.tup (.cons (DB (q:=⟨0,[],[],[],[],[]⟩) rfl (.sl (by exact (qP (by decide)).symm) (by exact sQ.symm) λi hi=>absurd hi (by show ¬((i:Int)<0);omega)) rfl rfl rfl rfl rfl rfl rfl rfl rfl rfl rfl rfl rfl rfl rfl rfl rfl rfl _ _ rfl) (.cons (Cs rfl) .nil)))
 have hb:(!z)=false:=by subst hD;exact hb
 rw[QE (by simpa using hb)]at hk;clear hb;simp only[Prod.mk.injEq]at hk;obtain⟨hq,rfl,rfl,rfl,rfl,rfl⟩:=hk
 injection hq with q1 q2 q3 q4 q5 q6
 subst q1 q2 q3 q4 q5 q6;refine⟨_,rfl,rfl,OG,λy e hy xh=>?_⟩;rw[QE fR]at hy xh;subst hy xh;cbv;clear fR hc hb;obtain⟨rfl,rfl,rfl⟩:=TP rfl;subst hD;exact Fb (.tup (.cons (DB (q:=⟨qi,qm,qt,qh,qf,qb⟩) rfl (fE.refl _) rfl rfl rfl rfl rfl rfl rfl rfl rfl rfl rfl rfl rfl rfl rfl rfl rfl rfl _ _ rfl) (.cons (Cs rfl) .nil)))
theorem Aes{P:Go.Program}{gl:List (Nat×SV)}{f:Go.FuncId}{as1 as2:List SV}{ls:List Hl}{r:SV}{aI:List Hl}(h:nE as1 as2)(c:Em P gl f as2 ls r aI):Em P gl f as1 ls r aI :=
 λB E w bB hw hI eM hb hg hh hr=>c B E w bB hw hI eM hb hg hh (h E w bB hr)
def ub(l:List HF)(i:Nat):List SV:=Dk (l.getD i default)
theorem A3.total(R:A3 f n l):A3 (ub l) n l:=⟨R.n,λ_ _=>rfl,R.len,R.small⟩
theorem uc{nl:Bool}(R:A3 f n l):fE (.sl (.a nl) (.a n) 2 f) (.sl (.a nl) (.a n) 2 (ub l)):=by
 refine .sl rfl rfl λi hi=>?_;have hi:(i:Int)<n:=hi;rw[R.f i (by have:=R.n;omega)];rfl
def tJ:aD:=λ_ xs ls K=>∃(q:Rq) (nb od:Bool) (n n':Int) (f f':Nat->List SV) (out m:List UInt8) (a b:Int),xs=[AZ q nb n f out m a b,AZ q od n' f' out m a b]/\ls=[]/\A3 f n q.fields/\A3 f' n' q.fields/\K (.bool (.a true)) []
theorem Ame:Aw Tryz.prog gl 33 tJ:=by
 refine Bd (gh:=[]) mixed Fy (Ab Amd (Ab Amf Ai)) Tryz.func33 (by kernel_rfl) (by kernel_rfl) ?_;intro xs ls K h;unfold tJ at h;obtain⟨q,nb,od,n,n',f,f',out,m,a,b,rfl,rfl,R,R',h⟩:=h;refine⟨_,_,h,λD hD=>?_⟩;clear h;unfold AZ;obtain⟨qi,qm,qt,qh,qf,qb⟩:=q;cbv;refine⟨⟨qi,qm,qt,qh,qf,qb⟩,⟨qi,qm,qt,qh,qf,qb⟩,nb,od,n,n',f,f',by subst hD;rfl,rfl,R,R',λr hr=>?_⟩;cbv;have hr:r=true:=by rw[hr];simp
 refine⟨m,by subst hD;rfl,rfl,?_⟩;cbv;refine Al hD ?_;show ((((((((r&&(out==out))&&((0:Int)==0))&&true)&&(a==a))&&(b==b))&&((0:Int)==0))&&(false==false))&&((0:Int)==0))=true;rw[hr];simp
def mq(n:Int):List HF->Int->Bool
 | [],c=>decide (3000<c)
 |x :: l,c=>if decide (3000<(x.name.length:Int))||decide (3000<(x.value.length:Int)) then true else mq n l (c+x.name.length+x.value.length)
def iw(l:List HF):Bool:=if decide (60<(l.length:Int)) then true else mq 0 l 0
structure Ap6(l:List HF)(r:Bool):Prop where
 h:r=iw l
def oG:aD:=λ_ xs ls K=>∃(l:List HF) (nl:Bool) (n:Int) (f:Nat->List SV),xs=[.sl (.a nl) (.a n) 2 f]/\ls=[]/\A3 f n l/\(∀j,f j=Dk (l.getD j default))/\∀r,Ap6 l r->K (.bool (.a r)) []
structure FdC(c C:Int)(x:HF):Prop where
 e:c=C+x.name.length+x.value.length
 n:x.name.length<=3000
 v:x.value.length<=3000
structure FdL(l:List HF)(k:Bool)(i:Nat)(I C:Int)(m:Nat):Prop where
 aZ:AtR l i I m
 le:l.length<=60
 c0:0<=C
 cc:C<=6000 * i
 k:k=mq 0 (l.drop i) C
def fdJ(l:List HF)(k nl:Bool)(n:Int)(f:Nat->List SV)(m:Nat)(vs:List (Option SV))(hp:List Hl):Prop :=
 ∃(i:Nat) (I C:Int),vs=[some (.sl (.a nl) (.a n) 2 f),some (.int .i64 (.a C)),some (.int .i64 (.a I))]/\hp=[]/\FdL l k i I C m
theorem Wa:Aw Tryz.prog gl 88 oG:=by
 refine Bd (gh:=[]) mixed Fy Ai Tryz.func88 (by kernel_rfl) (by kernel_rfl) ?_;intro xs ls K h;unfold oG at h;obtain⟨l,nl,n,f,rfl,rfl,R,hT,h⟩:=h;obtain⟨k,hk⟩:∃k,k=iw l:=⟨_,rfl⟩;refine⟨_,_,h k ⟨hk⟩,λD hD=>?_⟩;clear h;unfold iw at hk;cbv;refine br hD (λh=>?_) (λh=>?_)<;>cbv
 .have h:decide (60<n)=true:=by subst hD;exact h
  rw[R.n]at h;rw[QE h]at hk;exact Al hD hk.symm
 have h:decide (60<n)=false:=by subst hD;exact h
 rw[R.n]at h;rw[h]at hk;have hk:k=mq 0 l 0:=hk;have hl:l.length<=60:=by have:=QZ h;omega
 clear h;obtain⟨J,hJ⟩:∃J,J=fdJ l k nl n f:=⟨_,rfl⟩;refine⟨[0,3,4],J,⟨rfl,l.length,?_⟩,?_⟩
 .rw[hJ]
  subst hD;exact⟨0,0,0,rfl,rfl,⟨AtR.zero R.len,hl,by omega,by omega,hk⟩⟩
 clear hk hl;intro m vs hp hv;rw[hJ]at hv;obtain⟨i,I,C,rfl,rfl,V⟩:=hv;cbv;refine br hD (λh=>?_) (λh=>?_)<;>cbv
 .have aA:=V.aZ.lt R.n (QS (p:=I<n) h)
  clear h;refine⟨V.aZ.mP hD R.n aA,λj hj=>?_⟩;obtain rfl:=V.aZ.j hD hj;clear hj;obtain⟨x,hx⟩:∃x,x=l.getD j default:=⟨_,rfl⟩;have hk:=V.k;rw[Pn (d:=default) aA,<-hx,mq]at hk;have e:=hT j;rw[<-hx]at e;cbv;rw[e];cbv;refine⟨λ_=>V.aZ.mP hD R.n aA,λj2 iZ=>?_⟩;have iZ:(decide (3000<(x.name.length:Int)))=false->j2=j:=λh0=>V.aZ.j hD (iZ (by subst hD;show (!decide (3000<(x.name.length:Int)))=true;rw[h0];rfl));obtain⟨y,hy⟩:∃y,y=l.getD j2 default:=⟨_,rfl⟩;have e2:=hT j2;rw[<-hy]at e2;cbv;rw[e2];cbv;have dZ:(decide (3000<(x.name.length:Int))||decide (3000<(y.value.length:Int)))=(decide (3000<(x.name.length:Int))||decide (3000<(x.value.length:Int))):=by
   cases h0:decide (3000<(x.name.length:Int)) with
   |true=>rfl
   |false=>rw[hy,iZ h0,<-hx]
  refine br hD (λh=>?_) (λh=>?_)<;>cbv
  .have h:(decide (3000<(x.name.length:Int))||decide (3000<(y.value.length:Int)))=true:=by subst hD;exact h
   rw[dZ]at h;rw[QE h]at hk;exact Al hD hk.symm
  have h:(decide (3000<(x.name.length:Int))||decide (3000<(y.value.length:Int)))=false:=by subst hD;exact h
  rw[dZ]at h;rw[h]at hk;have hk:k=mq 0 (l.drop (j+1)) (C+x.name.length+x.value.length):=hk;obtain⟨c,hc,hk⟩:∃c,FdC c C x/\k=mq 0 (l.drop (j+1)) c:=by
   rw[XU,XG,XG]at h;have h1:¬3000<(x.name.length:Int):=h.1;have h2:¬3000<(x.value.length:Int):=h.2;exact⟨_,⟨rfl,by omega,by omega⟩,hk⟩
  clear h dZ iZ hy e2;refine⟨V.aZ.mP hD R.n aA,λj1 h1=>?_⟩;obtain rfl:=V.aZ.j hD h1;clear h1;cbv;rw[e];cbv;refine⟨V.aZ.mP hD R.n aA,λj1 h1=>?_⟩;obtain rfl:=V.aZ.j hD h1;clear h1;cbv;rw[e];cbv;refine⟨l.length-(j1+1),(V.aZ.step hD aA).1,?_⟩;rw[hJ];have lY:=V.c0;have kX:=V.cc;have hle:=V.le;have hw:IntKind.i64.wrap (IntKind.i64.wrap (C+(x.name.length:Int))+(x.value.length:Int))=c:=by
   have:=hc.e;have:=hc.n;have:=hc.v;rw[wrap64 (n:=C+(x.name.length:Int)) (by omega) (by omega),wrap64 (by omega) (by omega)];exact hc.e.symm
  subst hD;refine⟨j1+1,_,_,rfl,rfl,⟨(V.aZ.step rfl aA).2,hle,?_,?_,?_⟩⟩
  .show 0<=IntKind.i64.wrap (IntKind.i64.wrap (C+(x.name.length:Int))+(x.value.length:Int))
   rw[hw,hc.e];omega
  .show IntKind.i64.wrap (IntKind.i64.wrap (C+(x.name.length:Int))+(x.value.length:Int))<=_
   have:=hc.e;have:=hc.n;have:=hc.v;rw[hw,hc.e];omega
  .show k=mq 0 _ (IntKind.i64.wrap (IntKind.i64.wrap (C+(x.name.length:Int))+(x.value.length:Int)))
   rw[hw];exact hk
 .have hi:=V.aZ.eq R.n (QZ (p:=I<n) h)
  have hk:=V.k;rw[hi,ZR,mq]at hk;exact Al hD hk.symm
def av:aD:=λ_ xs ls K=>xs=[]/\ls=[]/\K (.bool (.a true)) []
theorem Ajo:Aw Tryz.prog yU 30 av :=
 Ak5 (λ_ _ _ _ h=>h) ⟨_,_,Tryz.func30,rfl,by kernel_rfl⟩ λB hB=>by
  obtain⟨a1,a2⟩:=Aak (cs:=OW) (vs:=mv) hB (g:=1) (ss:=K5) rfl (by kernel_rfl) (by decide) (by kernel_rfl);obtain⟨b1,b2⟩:=Aal (cs:=OX) (vs:=pv) hB (g:=4) (n:=20) (f:=Ut) rfl (by kernel_rfl) (λ_=>rfl) (by decide) (by kernel_rfl);exact messageBegins_fact (Cv.wD B.w0) (Cv.oT b2 (Cv.oT a2 Cv.yV)) (Cv.tV b1 (Cv.tV a1 Cv.uw))
def SM(r:Rq):Bool:=((((decide (100<(r.method.length:Int))||decide (600<(r.target.length:Int)))||decide (200<(r.host.length:Int)))||decide (1500<(r.body.length:Int)))||iw r.fields)
structure rj(r:Rq)(b:Bool):Prop where
 h:b=SM r
def wI:aD:=λ_ xs ls K=>∃(r:Rq) (nl:Bool) (n:Int) (f:Nat->List SV),xs=[.agg [.int .i64 (.a r.id),.str r.method,.str r.target,.str r.host,.sl (.a nl) (.a n) 2 f,.str r.body]]/\ls=[]/\Rc r nl n f/\∀b,rj r b->K (.bool (.a b)) []
def uS:aD:=λ_ xs ls K=>∃(l:List HF) (nl:Bool) (n:Int) (f:Nat->List SV),xs=[.sl (.a nl) (.a n) 2 f]/\ls=[]/\A3 f n l/\∀r,Ap6 l r->K (.bool (.a r)) []
theorem Ad0:Aw Tryz.prog gl 88 uS:=by
 refine⟨Wa.1,λxs ls K h=>?_⟩;obtain⟨l,nl,n,f,rfl,rfl,R,h⟩:=h;obtain⟨v,aI,hK,hc⟩:=Wa.2 _ [] K ⟨l,nl,n,ub l,rfl,rfl,R.total,λ_=>rfl,h⟩;exact⟨v,aI,hK,Aes (nE.cons (uc R) nE.nil) hc⟩
structure VB(k c:Bool)(me ta ho bo:List UInt8):Prop where
 h:k=((((decide (100<(me.length:Int))||decide (600<(ta.length:Int)))||decide (200<(ho.length:Int)))||decide (1500<(bo.length:Int)))||c)
theorem bu:Aw Tryz.prog gl 29 wI:=by
 refine Bd (gh:=[]) mixed Fy (Ab Ad0 Ai) Tryz.func29 (by kernel_rfl) (by kernel_rfl) ?_;intro xs ls K h;unfold wI at h;obtain⟨r,nl,n,f,rfl,rfl,R,h⟩:=h;obtain⟨id,me,ta,ho,fs,bo⟩:=r;have hR:A3 f n fs:=R.row;obtain⟨c,kX⟩:∃c,Ap6 fs c:=⟨_,⟨rfl⟩⟩;obtain⟨k,hk,bD⟩:∃k,rj ⟨id,me,ta,ho,fs,bo⟩ k/\VB k c me ta ho bo:=⟨_,⟨rfl⟩,⟨by rw[kX.h];rfl⟩⟩;have h:=h k hk;clear hk R;refine⟨_,_,h,λD hD=>?_⟩;cbv;refine⟨fs,_,_,f,rfl,rfl,by subst hD;exact hR,λz hz=>?_⟩;cbv;have hz:z=c:=hz.h.trans kX.h.symm;subst hz;exact Al hD bD.h.symm
def wK:aD:=λ_ xs ls K=>∃(r:Rq) (nl:Bool) (n:Int) (f:Nat->List SV) (a b:Int),xs=[.agg [.int .i64 (.a r.id),.str r.method,.str r.target,.str r.host,.sl (.a nl) (.a n) 2 f,.str r.body],.int .i64 (.a a),.int .i64 (.a b)]/\ls=[]/\Rc r nl n f/\K (.bool (.a true)) []
theorem dh:Aw Tryz.prog yU 7 wK:=by
 refine Bd (gh:=[]) mixed Fy (Ab (Gt bu) (Ab Ajo (Ab Aln (Ab Ahb (Ab (Gt Ame) Ai))))) Tryz.func7 (by kernel_rfl) (by kernel_rfl) ?_;intro xs ls K h;unfold wK at h;obtain⟨r,nl,n,f,a,b,rfl,rfl,R,h⟩:=h;obtain⟨id,me,ta,ho,fs,bo⟩:=r;refine⟨_,_,h,λD hD=>?_⟩;clear h;cbv;refine⟨⟨id,me,ta,ho,fs,bo⟩,nl,n,f,by subst hD;rfl,rfl,R,λg hg=>?_⟩;cbv;refine br hD (λhb=>?_) (λhb=>?_)<;>cbv
 .exact Al hD rfl
 clear hb hg;refine⟨⟨id,me,ta,ho,fs,bo⟩,nl,n,f,a,b,by subst hD;rfl,rfl,R,λq out m a1 b1 e nb n1 f1 k1 R1=>?_⟩;cbv;refine⟨⟨id,me,ta,ho,fs,bo⟩,nl,n,f,a,b,by subst hD;rfl,rfl,R,λq' SR m' a1' b1' e' od n1' OO k2 R2=>?_⟩;cbv;rw[<-k1]at k2;simp only[Prod.mk.injEq]at k2;obtain⟨rfl,rfl,rfl,rfl,rfl,rfl⟩:=k2;refine⟨q',nb,od,n1,n1',f1,OO,SR,m',a1',b1',by subst hD;rfl,rfl,R1,R2,?_⟩;cbv;refine Al hD ?_;show ((true&&(e'==e'))&&true)=true;simp
end Go.Proofs.YtdoogdbjiijifaaGreatDoor
