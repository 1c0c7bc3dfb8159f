/- Part of the proofs of the statements about responses and messages (layers 9 and 10): a symbolic executor over the code, that it is sound, and contracts of functions; it has no conditions of its own. -/
import Derived.Test.YtdoogdbjiijifaaGreatDoorE3Pbi
namespace Go.Proofs.YtdoogdbjiijifaaGreatDoor
open Go Go.Sx
set_option maxRecDepth 100000
set_option maxHeartbeats 6000000
def tnF(s s':Ch)(tn:Bool):Bool:=if s'.phase=4/\s.phase≠4 then s'.trailers.isEmpty else tn
structure ChV(s:Ch)(ph lf tl:Int)(tf:Nat->List SV):Prop where
 eph:ph=s.phase
 elf:lf=s.left
 tr:Bu tf tl s.trailers
def chA(ph lf:Int)(ln dt:List UInt8)(tn:Bool)(tl:Int)(tf:Nat->List SV):SV:=.agg [.int .i64 (.a ph),.str ln,.str dt,.int .i64 (.a lf),.sl (.a tn) (.a tl) 2 tf]
def spChFeed:FSpec:=λ_ xs ls K=>∃(s:Ch) (b ln dt:List UInt8) (ph lf:Int) (tn:Bool) (tl:Int) (tf:Nat->List SV) (nb:Bool) (n:Int) (f:Nat->List SV),
 xs=[chA ph lf ln dt tn tl tf,.sl (.a nb) (.a n) 1 f]/\ls=[]/\ln=s.line/\dt=s.data/\ChV s ph lf tl tf/\Ix s/\(s.phase=4->Ih s.trailers)/\A7 f n b/\b.length<=1000000/\
 ∀k,k=Bi s b->(k.2.2≠0->K (.tup [chA ph lf ln dt tn tl tf,.int .i64 (.a 0),.int .i64 (.a k.2.2)]) [])/\
  (k.2.2=0->∀ph' lf' tn' tl' tf' u,ChV k.1 ph' lf' tl' tf'->tn'=tnF s k.1 tn->u=(k.2.1:Int)->K (.tup [chA ph' lf' k.1.line k.1.data tn' tl' tf',.int .i64 (.a u),.int .i64 (.a 0)]) [])
structure CfJ(s:Ch)(b:List UInt8)(k:Ch×Nat×Int)(tn0:Bool)(st:Ch)(i:Nat)(I:Int)(m:Nat)(ph lf:Int)(tn:Bool)(tl:Int)(tf:Nat->List SV)(dl:Int)(df:Nat->List SV)(nl:Int)(nf:Nat->List SV)(fo sz:Int):Prop where
 at_:AtR b i I m
 rd:En st ph lf tl tf dl df nl nf fo sz
 ok:Ix st
 ek:k=((Bi st (b.drop i)).1,i+(Bi st (b.drop i)).2.1,(Bi st (b.drop i)).2.2)
 et:tn=tnF s st tn0
 e4:s.phase=4->st=s
def cfJ(s:Ch)(b ln dt:List UInt8)(ph0 lf0:Int)(tn0:Bool)(tl0:Int)(tf0:Nat->List SV)(nb:Bool)(n:Int)(f:Nat->List SV)(k:Ch×Nat×Int)(m:Nat)(vs:List (Option SV))(hp:List Hl):Prop :=
 ∃(st:Ch) (i:Nat) (I ph lf:Int) (tn:Bool) (tl:Int) (tf:Nat->List SV) (db:Bool) (dl:Int) (df:Nat->List SV) (nn:Bool) (nl g:Int) (nf:Nat->List SV) (fo sz:Int),
  vs=[some (.sl (.a nb) (.a n) 1 f),some (.ptr 0 0),some (.ptr 1 0),some (.ptr 2 0),some (.ptr 5 0),some (.sl (.a nb) (.a n) 1 f),some (.int .i64 (.a n)),some (.int .i64 (.a I))]/\
  hp=[.blk 36 [.int .i64 (.a ph0),.str ln,.str dt,.int .i64 (.a lf0),.sl (.a tn0) (.a tl0) 2 tf0],.blk 36 [.int .i64 (.a 0),.str [],.str [],.int .i64 (.a 0),.sl (.a true) (.a 0) 2 (λ_=>[])],
   .blk 220 [.int .i64 (.a ph),.str ln,.str dt,.int .i64 (.a lf),.sl (.a tn) (.a tl) 2 tf,.osl (.a db) (.a dl) 3,.vsl (.a nn) (.a nl) (.a g) 4,.int .i64 (.a fo),.int .i64 (.a sz)],.own 5 (.a dl) 1 false df,.vec 5 (.a nl) (.a g) 1 nf,
   .blk 218 [.bnd 186 [.ptr 2 0],.bnd 187 [.ptr 2 0],.bnd 188 [.ptr 2 0],.bnd 189 [.ptr 2 0]]]/\db=false/\CfJ s b k tn0 st i I m ph lf tn tl tf dl df nl nf fo sz
theorem Xm{ph ph' lf lf' u u' e e' tlt tlt':ST}{ln ln' dt dt':List UInt8}{tn tn':BT}{tf tf':Nat->List SV}(h1:ph.den=ph'.den)(h2:lf.den=lf'.den)(h3:ln=ln'/\dt=dt')(h4:LeV (.sl tn tlt 2 tf) (.sl tn' tlt' 2 tf'))(h5:u.den=u'.den)(h6:e.den=e'.den):
  Fin (.tup [.agg [.int .i64 ph,.str ln,.str dt,.int .i64 lf,.sl tn tlt 2 tf],.int .i64 u,.int .i64 e]) (.tup [.agg [.int .i64 ph',.str ln',.str dt',.int .i64 lf',.sl tn' tlt' 2 tf'],.int .i64 u',.int .i64 e']) [] []:=by
 obtain⟨rfl,rfl⟩:=h3;exact D6 (.tup (.cons (LeV.agg (.cons (Ak h1) (.cons (Cn _) (.cons (Cn _) (.cons (Ak h2) (.cons h4 .nil)))))) (.cons (Ak h5) (.cons (Ak h6) .nil))))
theorem Dg{s:Ch}{c:UInt8}{b:List UInt8}(h4:s.phase≠4):Bi s (c :: b)=if (chS s c).2≠0 then (s,0,(chS s c).2) else ((Bi (chS s c).1 b).1,(Bi (chS s c).1 b).2.1+1,(Bi (chS s c).1 b).2.2):=by
 rw[Bi,if_neg h4]
theorem chS_row{s:Ch}{c:UInt8}(h:∃tl tf,Bu tf tl s.trailers)(hO:Ix s):∃tl tf,Bu tf tl (chS s c).1.trailers:=by
 unfold chS
 split
 ·split
  ·split
   ·exact h
   ·split<;>exact h
  ·split<;>exact h
 split
 ·exact h
 split
 ·split
  ·exact h
  ·split<;>exact h
 rename_i g0 g1 g2
 split
 ·exact h
 split
 ·exact h
 split
 ·exact h
 split
 ·exact h
 ·have hl:(s.line++[c]).length<=1000000+1:=by rw[List.length_append];have:=Xu hO;simp only[List.length_cons,List.length_nil];omega
  have hsm:=Hc ((s.line++[c]).length+1) 0 [] (s.line++[c]) (by
   rw[List.length_append];have h3:s.phase=3\/s.phase=4:=by have:=hO.ph;omega
   rcases h3 with e|e
   ·have:=(Hr (hO.p3 e)).1;simp only[List.length_cons,List.length_nil];omega
   ·rw[(hO.p4 e).1];simp) (by simp) (λx hx=>by cases hx)
  exact⟨_,_,Bu.row (by have:=hsm.1;show (Av _).1.length<=_;exact Nat.le_trans this (by decide)) (λi hi=>hsm.2 _ (by rw[List.getD_eq_getElem?_getD,List.getElem?_eq_getElem hi];exact List.getElem_mem hi))⟩
theorem Qi:∀(b:List UInt8) (s:Ch),(∃tl tf,Bu tf tl s.trailers)->0<=(0:Int)->Ix s->(Bi s b).2.2=0->∃tl tf,Bu tf tl (Bi s b).1.trailers
 | [],s,h,_,_,_=>h
 |c :: b,s,h,h0,hO,he=>by
  by_cases h4:s.phase=4
  ·rw[Bi,if_pos h4];exact h
  rw[Dg h4]at he ⊢
  by_cases h2:(chS s c).2=0
  ·rw[if_neg (by simpa using h2)]at he ⊢
   exact Qi b _ (chS_row h hO) h0 (Qh hO h4 (by rw[<-h2])) he
  ·rw[if_pos h2]at he
   exact absurd he h2
theorem Ai6:Ay Tryz.prog gl 137 spChFeed:=by
 refine Ez (gh:=[]) mixed C6 (Bm Afy (Bm Aju (Bm W4 (Bm Aih (Bm Alr (Bm Ys Ai)))))) Tryz.func137 (by kernel_rfl) (by kernel_rfl) ?_;intro xs ls K h;unfold spChFeed at h;obtain⟨s,b,ln,dt,ph,lf,tn,tl,tf,nb,n,f,rfl,rfl,hln,hdt,V,hO,hnm,R,hb,h⟩:=h;obtain⟨k,hk⟩:∃k,k=Bi s b:=⟨_,rfl⟩;have h:=h k hk;have hrow:k.2.2=0->∃tl' tf',Bu tf' tl' k.1.trailers:=λe0=>by rw[hk]at e0 ⊢;exact Qi b s ⟨_,_,V.tr⟩ (by omega) hO e0
 obtain⟨r,hr1,hr2,hK⟩:∃r:SV,(k.2.2≠0->r=.tup [chA ph lf ln dt tn tl tf,.int .i64 (.a 0),.int .i64 (.a k.2.2)])/\
   (k.2.2=0->∃tl' tf',r=.tup [chA k.1.phase k.1.left k.1.line k.1.data (tnF s k.1 tn) tl' tf',.int .i64 (.a (k.2.1:Int)),.int .i64 (.a 0)]/\Bu tf' tl' k.1.trailers)/\K r []:=by
  by_cases e0:k.2.2=0
  ·have hT:∃tl' tf',Bu tf' tl' k.1.trailers:=hrow e0
   obtain⟨tl',tf',hT⟩:=hT;refine⟨_,λh=>absurd e0 h,λ_=>⟨tl',tf',rfl,hT⟩,?_⟩;exact h.2 e0 _ _ _ tl' tf' _ ⟨rfl,rfl,hT⟩ rfl rfl
  ·exact⟨_,λ_=>rfl,λh=>absurd h e0,h.1 e0⟩
 refine⟨_,_,hK,λD hD=>?_⟩;clear hK h;unfold chA;cbv;refine⟨s,ln,dt,D.i (.a ph),D.i (.a lf),D.b (.a tn),D.i (.a tl),tf,rfl,rfl,hln,hdt,by subst hD;exact V.eph,by subst hD;exact V.elf,by subst hD;exact V.tr,hO,hnm,λph1 dl1 df1 nl1 nf1 fo1 sz1 nn1 g1 V1 hn1 hg1=>?_⟩;cbv;refine br hD (λhb=>?_) (λhb=>?_)<;>cbv
 ·exfalso
  have hb:((0:Int) != 0)=true:=by subst hD;exact hb
  cases hb
 obtain⟨J,hJ⟩:∃J,J=cfJ s b ln dt ph lf tn tl tf nb n f k:=⟨_,rfl⟩;refine⟨[1,2,4,7,9,31,32,33],J,⟨rfl,b.length,?_⟩,?_⟩
 ·rw[hJ]
  subst hD;refine⟨s,0,0,_,_,_,_,tf,_,_,df1,_,_,_,nf1,_,_,rfl,rfl,rfl,⟨AtR.zero (by omega),V1,hO,?_,?_,λ_=>rfl⟩⟩
  ·rw[hk,List.drop_zero,Nat.zero_add]
  ·unfold tnF;rw[if_neg (by rintro⟨a,b⟩;exact b a)];rfl
 clear V1 hn1 hg1 hb hrow;intro m vs hp hv;rw[hJ]at hv;obtain⟨st,i,I,ph2,lf2,tn2,tl2,tf2,db,dl,df,nn,nl,g,nf,fo,sz,rfl,rfl,hdb,B⟩:=hv;cbv;refine br hD (λhb=>?_) (λhb=>?_)<;>cbv
 ·have hb:decide (I<n)=true:=by subst hD;exact hb
  have hlt:=B.at_.lt R.n (of_decide_eq_true hb);clear hb;have e1:=R.f i hlt;have hdr:=Bn hlt;obtain⟨c,hc⟩:∃c,c=b.getD i 0:=⟨_,rfl⟩;rw[<-hc]at e1 hdr;obtain⟨ci,hci⟩:∃ci:Int,ci=(c.toNat:Int):=⟨_,rfl⟩;rw[<-hci]at e1;refine⟨B.at_.inB hD R.n hlt,λj hj=>?_⟩;cbv;obtain rfl:=B.at_.j hD hj;clear hj;rw[e1];cbv;refine br hD (λhb=>?_) (λhb=>?_)<;>cbv
  ·have hb:(ph2==4)=true:=by subst hD;exact hb
   have h4:st.phase=4:=by rw[<-B.rd.eph];exact eq_of_beq hb
   have hks:k=(st,j,0):=by rw[B.ek,hdr,Bi,if_pos h4];rfl
   refine⟨st,D.i (.a ph2),D.i (.a lf2),ln,dt,D.b (.a tn2),D.i (.a tl2),tf2,D.b (.a db),D.i (.a dl),false,df,D.b (.a nn),D.i (.a nl),D.i (.a g),nf,D.i (.a fo),D.i (.a sz),rfl,rfl,by subst hD;exact B.rd,?_⟩;cbv;obtain⟨tl',tf',rfl,hT⟩:=hr2 (by rw[hks]);rw[hks]at hT ⊢;have hT:Bu tf' tl' st.trailers:=hT;unfold chA;subst hD;exact Xm (by exact B.rd.eph) (by exact B.rd.elf) ⟨rfl,rfl⟩ (Ir B.rd.tr hT (by exact B.et) rfl rfl) (by exact B.at_.I) rfl
  have h4:st.phase≠4:=by
   have hb:(ph2==4)=false:=by subst hD;exact hb
   rw[<-B.rd.eph];simpa using hb
  clear hb;have hs4:s.phase≠4:=λh=>h4 (by rw[B.e4 h];exact h);have hph:=B.ok.ph;have heph:=B.rd.eph;refine⟨⟨by subst hD;show 0<=ph2;omega,by subst hD;show ph2<4;omega⟩,λhj0=>?_,λhj1=>?_,λhj2=>?_,λhj3=>?_,trivial⟩<;>cbv
  ·have hp:st.phase=0:=by
    have h:ph2=(0:Int):=by subst hD;exact hj0.h.symm
    rw[<-heph];exact h
   refine⟨st,c,D.i (.a ci),D.i (.a ph2),D.i (.a lf2),ln,dt,D.b (.a tn2),D.i (.a tl2),tf2,D.b (.a db),D.i (.a dl),false,df,D.b (.a nn),D.i (.a nl),D.i (.a g),nf,D.i (.a fo),D.i (.a sz),rfl,rfl,by subst hD;exact hci,by subst hD;exact B.rd,hp,by subst hD;exact hdb,B.ok,λe he=>⟨λhne=>?_,λh0 ph3 lf3 tn3 tl3 tf3 db3 dl3 df3 nn3 nl3 g3 nf3 fo3 sz3 V3 N3=>?_⟩⟩<;>cbv
   ·refine br hD (λhb=>?_) (λhb=>?_)<;>cbv
    ·have hke:k.2.2=e:=by rw[B.ek,hdr,Dg h4,if_pos (by rw[<-he];exact hne)];exact he.symm
     rw[hr1 (by rw[hke];exact hne),hke];unfold chA;subst hD;exact Xm rfl rfl ⟨rfl,rfl⟩ (LeV.refl _) rfl rfl
    ·exfalso
     have hb:(e != 0)=false:=by subst hD;exact hb
     exact hne (by simpa using hb)
   ·refine br hD (λhb=>?_) (λhb=>?_)<;>cbv
    ·exfalso
     have hb:(e != 0)=true:=by subst hD;exact hb
     rw[h0]at hb;cases hb
    have hs1:=B.at_.step hD hlt;refine⟨_,hs1.1,?_⟩;rw[hJ];have he0:(chS st c).2=0:=by rw[<-he];exact h0
    subst hD;refine⟨(chS st c).1,j+1,_,ph3,lf3,tn3,tl3,tf3,db3,dl3,df3,nn3,nl3,g3,nf3,fo3,sz3,rfl,rfl,N3.ed,⟨hs1.2,V3,Qh B.ok h4 (by rw[<-he0]),?_,?_,λh=>absurd h hs4⟩⟩
    ·rw[B.ek,hdr,Dg h4,if_neg (by rw[he0];simp)]
     refine Prod.ext rfl (Prod.ext ?_ rfl);show j+(_+1)=j+1+_;omega
    ·have h1:=N3.et
     have h2:tn2=tn:=by have:=B.et;unfold tnF at this;rw[if_neg (λh=>h4 h.1)]at this;exact this
     unfold tnF
     by_cases g4:(chS st c).1.phase=4
     ·rw[if_pos g4]at h1;rw[if_pos ⟨g4,hs4⟩];exact h1
     ·rw[if_neg g4]at h1;rw[if_neg (λh=>g4 h.1)];exact h1.trans h2
  ·have hp:st.phase=1:=by
    have h:ph2=(1:Int):=by subst hD;exact hj1.h.symm
    rw[<-heph];exact h
   refine⟨st,c,D.i (.a ci),D.i (.a ph2),D.i (.a lf2),ln,dt,D.b (.a tn2),D.i (.a tl2),tf2,D.b (.a db),D.i (.a dl),false,df,D.b (.a nn),D.i (.a nl),D.i (.a g),nf,D.i (.a fo),D.i (.a sz),rfl,rfl,by subst hD;exact hci,by subst hD;exact B.rd,hp,by subst hD;exact hdb,B.ok,λe he=>⟨λhne=>?_,λh0 ph3 lf3 tn3 tl3 tf3 db3 dl3 df3 nn3 nl3 g3 nf3 fo3 sz3 V3 N3=>?_⟩⟩<;>cbv
   ·refine br hD (λhb=>?_) (λhb=>?_)<;>cbv
    ·have hke:k.2.2=e:=by rw[B.ek,hdr,Dg h4,if_pos (by rw[<-he];exact hne)];exact he.symm
     rw[hr1 (by rw[hke];exact hne),hke];unfold chA;subst hD;exact Xm rfl rfl ⟨rfl,rfl⟩ (LeV.refl _) rfl rfl
    ·exfalso
     have hb:(e != 0)=false:=by subst hD;exact hb
     exact hne (by simpa using hb)
   ·refine br hD (λhb=>?_) (λhb=>?_)<;>cbv
    ·exfalso
     have hb:(e != 0)=true:=by subst hD;exact hb
     rw[h0]at hb;cases hb
    have hs1:=B.at_.step hD hlt;refine⟨_,hs1.1,?_⟩;rw[hJ];have he0:(chS st c).2=0:=by rw[<-he];exact h0
    subst hD;refine⟨(chS st c).1,j+1,_,ph3,lf3,tn3,tl3,tf3,db3,dl3,df3,nn3,nl3,g3,nf3,fo3,sz3,rfl,rfl,N3.ed,⟨hs1.2,V3,Qh B.ok h4 (by rw[<-he0]),?_,?_,λh=>absurd h hs4⟩⟩
    ·rw[B.ek,hdr,Dg h4,if_neg (by rw[he0];simp)]
     refine Prod.ext rfl (Prod.ext ?_ rfl);show j+(_+1)=j+1+_;omega
    ·have h1:=N3.et
     have h2:tn2=tn:=by have:=B.et;unfold tnF at this;rw[if_neg (λh=>h4 h.1)]at this;exact this
     unfold tnF
     by_cases g4:(chS st c).1.phase=4
     ·rw[if_pos g4]at h1;rw[if_pos ⟨g4,hs4⟩];exact h1
     ·rw[if_neg g4]at h1;rw[if_neg (λh=>g4 h.1)];exact h1.trans h2
  ·have hp:st.phase=2:=by
    have h:ph2=(2:Int):=by subst hD;exact hj2.h.symm
    rw[<-heph];exact h
   refine⟨st,c,D.i (.a ci),D.i (.a ph2),D.i (.a lf2),ln,dt,D.b (.a tn2),D.i (.a tl2),tf2,D.b (.a db),D.i (.a dl),false,df,D.b (.a nn),D.i (.a nl),D.i (.a g),nf,D.i (.a fo),D.i (.a sz),rfl,rfl,by subst hD;exact hci,by subst hD;exact B.rd,hp,by subst hD;exact hdb,B.ok,λe he=>⟨λhne=>?_,λh0 ph3 lf3 tn3 tl3 tf3 db3 dl3 df3 nn3 nl3 g3 nf3 fo3 sz3 V3 N3=>?_⟩⟩<;>cbv
   ·refine br hD (λhb=>?_) (λhb=>?_)<;>cbv
    ·have hke:k.2.2=e:=by rw[B.ek,hdr,Dg h4,if_pos (by rw[<-he];exact hne)];exact he.symm
     rw[hr1 (by rw[hke];exact hne),hke];unfold chA;subst hD;exact Xm rfl rfl ⟨rfl,rfl⟩ (LeV.refl _) rfl rfl
    ·exfalso
     have hb:(e != 0)=false:=by subst hD;exact hb
     exact hne (by simpa using hb)
   ·refine br hD (λhb=>?_) (λhb=>?_)<;>cbv
    ·exfalso
     have hb:(e != 0)=true:=by subst hD;exact hb
     rw[h0]at hb;cases hb
    have hs1:=B.at_.step hD hlt;refine⟨_,hs1.1,?_⟩;rw[hJ];have he0:(chS st c).2=0:=by rw[<-he];exact h0
    subst hD;refine⟨(chS st c).1,j+1,_,ph3,lf3,tn3,tl3,tf3,db3,dl3,df3,nn3,nl3,g3,nf3,fo3,sz3,rfl,rfl,N3.ed,⟨hs1.2,V3,Qh B.ok h4 (by rw[<-he0]),?_,?_,λh=>absurd h hs4⟩⟩
    ·rw[B.ek,hdr,Dg h4,if_neg (by rw[he0];simp)]
     refine Prod.ext rfl (Prod.ext ?_ rfl);show j+(_+1)=j+1+_;omega
    ·have h1:=N3.et
     have h2:tn2=tn:=by have:=B.et;unfold tnF at this;rw[if_neg (λh=>h4 h.1)]at this;exact this
     unfold tnF
     by_cases g4:(chS st c).1.phase=4
     ·rw[if_pos g4]at h1;rw[if_pos ⟨g4,hs4⟩];exact h1
     ·rw[if_neg g4]at h1;rw[if_neg (λh=>g4 h.1)];exact h1.trans h2
  ·have hp:st.phase=3:=by
    have h:ph2=(3:Int):=by subst hD;exact hj3.h.symm
    rw[<-heph];exact h
   refine⟨st,c,D.i (.a ci),D.i (.a ph2),D.i (.a lf2),ln,dt,D.b (.a tn2),D.i (.a tl2),tf2,D.b (.a db),D.i (.a dl),false,df,D.b (.a nn),D.i (.a nl),D.i (.a g),nf,D.i (.a fo),D.i (.a sz),rfl,rfl,by subst hD;exact hci,by subst hD;exact B.rd,hp,by subst hD;exact hdb,B.ok,λe he=>⟨λhne=>?_,λh0 ph3 lf3 tn3 tl3 tf3 db3 dl3 df3 nn3 nl3 g3 nf3 fo3 sz3 V3 N3=>?_⟩⟩<;>cbv
   ·refine br hD (λhb=>?_) (λhb=>?_)<;>cbv
    ·have hke:k.2.2=e:=by rw[B.ek,hdr,Dg h4,if_pos (by rw[<-he];exact hne)];exact he.symm
     rw[hr1 (by rw[hke];exact hne),hke];unfold chA;subst hD;exact Xm rfl rfl ⟨rfl,rfl⟩ (LeV.refl _) rfl rfl
    ·exfalso
     have hb:(e != 0)=false:=by subst hD;exact hb
     exact hne (by simpa using hb)
   ·refine br hD (λhb=>?_) (λhb=>?_)<;>cbv
    ·exfalso
     have hb:(e != 0)=true:=by subst hD;exact hb
     rw[h0]at hb;cases hb
    have hs1:=B.at_.step hD hlt;refine⟨_,hs1.1,?_⟩;rw[hJ];have he0:(chS st c).2=0:=by rw[<-he];exact h0
    subst hD;refine⟨(chS st c).1,j+1,_,ph3,lf3,tn3,tl3,tf3,db3,dl3,df3,nn3,nl3,g3,nf3,fo3,sz3,rfl,rfl,N3.ed,⟨hs1.2,V3,Qh B.ok h4 (by rw[<-he0]),?_,?_,λh=>absurd h hs4⟩⟩
    ·rw[B.ek,hdr,Dg h4,if_neg (by rw[he0];simp)]
     refine Prod.ext rfl (Prod.ext ?_ rfl);show j+(_+1)=j+1+_;omega
    ·have h1:=N3.et
     have h2:tn2=tn:=by have:=B.et;unfold tnF at this;rw[if_neg (λh=>h4 h.1)]at this;exact this
     unfold tnF
     by_cases g4:(chS st c).1.phase=4
     ·rw[if_pos g4]at h1;rw[if_pos ⟨g4,hs4⟩];exact h1
     ·rw[if_neg g4]at h1;rw[if_neg (λh=>g4 h.1)];exact h1.trans h2
 ·have hb:decide (I<n)=false:=by subst hD;exact hb
  have hi:=B.at_.eq R.n (of_decide_eq_false hb);clear hb;have hks:k=(st,i,0):=by rw[B.ek,hi,List.drop_length];rfl
  refine⟨st,D.i (.a ph2),D.i (.a lf2),ln,dt,D.b (.a tn2),D.i (.a tl2),tf2,D.b (.a db),D.i (.a dl),false,df,D.b (.a nn),D.i (.a nl),D.i (.a g),nf,D.i (.a fo),D.i (.a sz),rfl,rfl,by subst hD;exact B.rd,?_⟩;cbv;obtain⟨tl',tf',rfl,hT⟩:=hr2 (by rw[hks]);rw[hks]at hT ⊢;have hT:Bu tf' tl' st.trailers:=hT;unfold chA;subst hD;exact Xm (by exact B.rd.eph) (by exact B.rd.elf) ⟨rfl,rfl⟩ (Ir B.rd.tr hT (by exact B.et) rfl rfl) (by show n=(i:Int);rw[R.n,hi]) rfl
open Go Go.Sx Go.RowKit
theorem Ajs:Ay Tryz.prog [] 115 spRune:=by
 refine Bq (gh:=[]) mixed B4 Ai Tryz.func115 (by kernel_rfl) (by kernel_rfl) ?_;intro xs ls K h;unfold spRune at h;obtain⟨x,rfl,rfl,h⟩:=h;obtain⟨k,hk⟩:∃k,k=H0 x:=⟨_,rfl⟩;refine⟨_,_,h k hk,λD hD=>?_⟩;clear h;cbv;refine Aw hD ?_;rw[hk];have e1:((x:Int)=9)↔x=9:=by omega
 have e2:((x:Int)<32)↔x<32:=by omega
 have e3:((126:Int)<x)↔126<x:=by omega
 simp only[BT.den,B9,ST.den,H0];rw[Bool.eq_iff_iff];simp only[Bool.and_eq_true,Bool.or_eq_true,bne_iff_ne,decide_eq_true_eq,Int.ofNat_eq_natCast];constructor
 ·rintro⟨h1,h2⟩
  exact⟨λe=>h1 (e1.2 e),h2.imp (λe=>e2.1 (of_decide_eq_true e)) (λe=>e3.1 (of_decide_eq_true e))⟩
 ·rintro⟨h1,h2⟩
  exact⟨λe=>h1 (e1.1 e),h2.imp (λe=>decide_eq_true (e2.2 e)) (λe=>decide_eq_true (e3.2 e))⟩
theorem Ajb:∀args w,(callFunc 115 args).run Tryz.prog w=.ok (.enter 115 args) w:=enters_of Tryz.func115 (by kernel_rfl) rfl
theorem Acx(w:World):PredGrows Tryz.prog 115 #[] H0 w:=by
 intro W x _ _;obtain⟨r,ls',⟨hr,hl⟩,hc⟩:=Ajs.2 [.int .i32 (.a (x:Int))] [] (λr ls'=>r=.bool (.a (H0 x))/\ls'=[]) ⟨x,rfl,rfl,λr hr=>by rw[hr];exact⟨rfl,rfl⟩⟩;subst hr hl;refine Wp (gl:=[]) hc (λg s h=>by simp[Sx.look]at h) (by simp[encR]) λi s v a b=>?_;cases i with
 |zero=>simp[encR]at a b;subst a b;exact .int rfl
 |succ i=>simp at a
def spIdxR:FSpec:=λ_ xs ls K=>∃(s:List UInt8),xs=[.str s,.fn 115]/\ls=[]/\∀r,decide (r<0)=Br s->r=Lib.idxFunc H0 true (Sx.bytes s)->K (.int .i64 (.a r)) []
theorem idxR_ok:Ay Tryz.prog gl 114 spIdxR:=by
 refine⟨⟨Tryz.f114,_,Tryz.func114,rfl,by kernel_rfl⟩,λxs ls K h=>?_⟩;obtain⟨s,rfl,rfl,h⟩:=h;have hd:decide (Lib.idxFunc H0 true (Sx.bytes s)<0)=Br s:=by
  have:=Uf (Sx.bytes s) (Sx.bytes s).size 0 (by omega);have h2:decide (0<=Lib.idxFunc H0 true (Sx.bytes s))=!Br s:=this;have h3:decide (Lib.idxFunc H0 true (Sx.bytes s)<0)=!decide (0<=Lib.idxFunc H0 true (Sx.bytes s)):=by
   rw[Bool.eq_iff_iff];simp
  rw[h3,h2,Bool.not_not]
 refine⟨_,_,h _ hd rfl,Bx λE B w vals _ _ _ hr=>?_⟩;obtain⟨v,g,rfl,hu,hgv⟩:=Eg hr;rw[Dj hu,hgv.fn_inv];refine (Hi 115 #[] Ajb H0 (Sx.bytes s) w (Acx w)).mono ?_;rintro e w' ⟨rfl,hB⟩;exact⟨_,rfl,λE=>.ro (.int rfl),hB⟩
theorem Ae8:Ay Tryz.prog gl 56 spPlainH:=by
 refine Bq (gh:=[]) mixed B4 (Ab idxR_ok Ai) Tryz.func56 (by kernel_rfl) (by kernel_rfl) ?_;intro xs ls K h;unfold spPlainH at h;obtain⟨s,rfl,rfl,h⟩:=h;obtain⟨k,hk⟩:∃k,k=Br s:=⟨_,rfl⟩;refine⟨_,_,h k hk,λD hD=>?_⟩;clear h;cbv;refine⟨s,rfl,rfl,λr hr _=>?_⟩;cbv;refine Aw hD ?_;rw[hk,<-hr];rfl
def spAtoi:FSpec:=λ_ xs ls K=>∃(s:List UInt8) (n:Int),xs=[.str s]/\ls=[]/\s.length<=18/\Lib.atoi s=some n/\K (.tup [.int .i64 (.a n),.raw .nilIface]) []
theorem atoi_ok:Ay Tryz.prog gl 117 spAtoi:=by
 refine⟨⟨Tryz.f117,_,Tryz.func117,rfl,by kernel_rfl⟩,λxs ls K h=>?_⟩;obtain⟨s,n,rfl,rfl,hs,hn,h⟩:=h;refine⟨_,_,h,Bx λE B w vals _ _ _ hr=>?_⟩;obtain⟨v,rfl,hv⟩:=Aab hr;rw[Dj hv];refine (Rj ⟨s.toArray⟩ n (by simpa[ByteArray.size] using hs) (by simpa using hn) w).mono ?_;rintro e w' ⟨rfl,t,rfl⟩;refine⟨_,rfl,λE=>.tup rfl λi s v a b=>?_,⟨rfl,rfl,rfl,by rw[Lib.bytesWorld_size];omega,λj hj=>Lib.bytesWorld_at_old w 5 t j hj⟩⟩
 match i,a,b with
 |0,a,b=>cases a;cases b;exact .ro (.int rfl)
 |1,a,b=>cases a;cases b;exact .ro (.raw rfl)
 |i+2,a,b=>simp at a
theorem O5:∀(l:List UInt8) (acc:Nat),(∀c∈l,48<=c.toNat/\c.toNat<=57)->Lib.decFrom acc l=some (B6 acc l)
 | [],acc,_=>rfl
 |c :: r,acc,h=>by
  have hc:=h c (List.mem_cons_self ..);have hne:c≠45:=by rintro rfl;exact absurd hc.1 (by decide)
  have hd:Lib.digitVal c=some (c.toNat-48):=by unfold Lib.digitVal;simp;omega
  rw[Lib.decFrom,hd,B6,if_neg hne];exact O5 r _ λd hd=>h d (List.mem_cons_of_mem _ hd)
theorem Amz{s:List UInt8}(h:Ca s=true)(hl:1<=s.length):Lib.atoi s=some (B6 0 s:Int):=by
 match s,hl with
 |c :: r,_ =>
  have hd:=Nb h;have hc:=hd c (List.mem_cons_self ..);have h45:(c==45)=false:=by rw[beq_eq_false_iff_ne];rintro rfl;exact absurd hc.1 (by decide)
  have h43:(c==43)=false:=by rw[beq_eq_false_iff_ne];rintro rfl;exact absurd hc.1 (by decide)
  show (if (c==45)=true then (Lib.decNat r).map λ(m:Nat)=>-(m:Int) else if (c==43)=true then (Lib.decNat r).map λ(m:Nat)=>(m:Int) else (Lib.decNat (c :: r)).map λ(m:Nat)=>(m:Int))=_;rw[h45,h43];simp only[Bool.false_eq_true,if_false];unfold Lib.decNat;rw[if_neg (by simp),O5 _ _ hd];rfl
def spDec9:FSpec:=λ_ xs ls K=>∃(s:List UInt8),xs=[.str s]/\ls=[]/\s.length<=9223372036854775807/\∀r,r=Bt s->K (.int .i64 (.a r)) []
theorem Rf:Ay Tryz.prog gl 57 spDec9:=by
 refine Bq (gh:=[]) mixed B4 (Ab Lw (Ab atoi_ok Ai)) Tryz.func57 (by kernel_rfl) (by kernel_rfl) ?_;intro xs ls K h;unfold spDec9 at h;obtain⟨s,rfl,rfl,hs,h⟩:=h;obtain⟨k,hk⟩:∃k,k=Bt s:=⟨_,rfl⟩;refine⟨_,_,h k hk,λD hD=>?_⟩;clear h;unfold Bt at hk;obtain⟨N,hN⟩:∃N:Int,N=(s.length:Int):=⟨_,rfl⟩;cbv;refine⟨s,Zb,rfl,rfl,hs,by decide,by decide,λt ht=>?_⟩;cbv;have htd:(t==[])=Ca s:=by
  rw[Bool.eq_iff_iff,beq_iff_eq,ht];exact Ab4 s
 refine br hD (λhb=>?_) (λhb=>?_)<;>cbv
 ·have hb:((decide ((s.length:Int)<1)||decide (10<(s.length:Int)))||!(t==[]))=true:=by subst hD;exact hb
  refine Be hD ?_;rw[htd]at hb;rw[hk,if_neg]
  ·rfl
  ·simp only[Bool.or_eq_true,Bool.and_eq_true,Bool.not_eq_true',decide_eq_true_eq]at hb ⊢
   rintro⟨⟨h1,h2⟩,h3⟩;rcases hb with (h|h)|h
   ·omega
   ·omega
   ·rw[h3]at h;cases h
 have hb:((decide ((s.length:Int)<1)||decide (10<(s.length:Int)))||!(t==[]))=false:=by subst hD;exact hb
 rw[htd]at hb;simp only[Bool.or_eq_false_iff,Bool.not_eq_false',decide_eq_false_iff_not]at hb;obtain⟨⟨h1,h2⟩,h3⟩:=hb;rw[if_pos (by simp only[Bool.and_eq_true,decide_eq_true_eq];exact⟨⟨by omega,by omega⟩,h3⟩)]at hk;have ha:Lib.atoi s=some k:=by rw[hk];exact Amz h3 (by omega)
 clear ht htd;refine⟨s,k,rfl,rfl,by omega,ha,?_⟩;cbv;exact Be hD rfl
def I8(mi st:Int)(re:List UInt8)(nl:Bool)(n:Int)(f:Nat->List SV):SV:=.agg [.int .i64 (.a mi),.int .i64 (.a st),.str re,.sl (.a nl) (.a n) 2 f]
structure Aez(h:RsH)(mi st:Int)(n:Int)(f:Nat->List SV):Prop where
 emi:mi=h.minor
 est:st=h.status
 row:Bu f n h.fields
def spCheckH:FSpec:=λ_ xs ls K=>∃(hd:RsH) (mi st:Int) (re:List UInt8) (nl:Bool) (n:Int) (f:Nat->List SV),xs=[I8 mi st re nl n f]/\ls=[]/\Aez hd mi st n f/\∀e,e=Gj hd->K (.int .i64 (.a e)) []
theorem Ai4:Ay Tryz.prog gl 62 spCheckH:=by
 refine Bq (gh:=[]) mixed B4 (Ab O8 Ai) Tryz.func62 (by kernel_rfl) (by kernel_rfl) ?_;intro xs ls K h;unfold spCheckH at h;obtain⟨hd,mi,st,re,nl,n,f,rfl,rfl,V,h⟩:=h;obtain⟨k,hk⟩:∃k,k=Gj hd:=⟨_,rfl⟩;refine⟨_,_,h k hk,λD hD=>?_⟩;clear h;unfold I8;unfold Gj at hk;rw[<-V.emi,<-V.est]at hk;cbv;refine br hD (λhb=>?_) (λhb=>?_)<;>cbv
 ·have hb:((((mi != 0)&&(mi != 1))||decide (st<100))||decide (599<st))=true:=by subst hD;exact hb
  refine Be hD ?_;rw[hk,if_pos]
  ·rfl
  ·simp only[Bool.or_eq_true,Bool.and_eq_true,bne_iff_ne,decide_eq_true_eq]at hb
   omega
 have hb:((((mi != 0)&&(mi != 1))||decide (st<100))||decide (599<st))=false:=by subst hD;exact hb
 rw[if_neg (by simp only[Bool.or_eq_false_iff,Bool.and_eq_false_iff,bne_eq_false_iff_eq,decide_eq_false_iff_not]at hb;omega)]at hk;clear hb;refine⟨hd.fields,_,_,f,rfl,rfl,by subst hD;exact V.row,λe he=>?_⟩;cbv;exact Be hD (he.trans hk.symm)
structure RsC where
 m:List UInt8
 ph:Int
 inf:Int
 ln:List UInt8
 mi:Int
 st:Int
 re:List UInt8
 fb:Bool
 fl:Int
 ff:Nat->List SV
 fr:Int
 bo:List UInt8
 lf:Int
 cp:Int
 cl:List UInt8
 cd:List UInt8
 cf:Int
 cb:Bool
 ct:Int
 ctf:Nat->List SV
def J1(x:RsC)(nb:Bool)(n:Int)(f:Nat->List SV)(nn:Bool)(nl g:Int):List SV :=
 [.str x.m,.int .i64 (.a x.ph),.int .i64 (.a x.inf),.str x.ln,.int .i64 (.a x.mi),.int .i64 (.a x.st),.str x.re,.sl (.a x.fb) (.a x.fl) 2 x.ff,.int .i64 (.a x.fr),.str x.bo,.int .i64 (.a x.lf),
  .int .i64 (.a x.cp),.str x.cl,.str x.cd,.int .i64 (.a x.cf),.sl (.a x.cb) (.a x.ct) 2 x.ctf,.sl (.a nb) (.a n) 1 f,.vsl (.a nn) (.a nl) (.a g) 1]
def RsC.nm(D:Dn)(x:RsC):RsC:=⟨x.m,D.i (.a x.ph),D.i (.a x.inf),x.ln,D.i (.a x.mi),D.i (.a x.st),x.re,D.b (.a x.fb),D.i (.a x.fl),x.ff,D.i (.a x.fr),x.bo,D.i (.a x.lf),D.i (.a x.cp),x.cl,x.cd,D.i (.a x.cf),D.b (.a x.cb),D.i (.a x.ct),x.ctf⟩
def spTake:FSpec:=λ_ xs ls K=>∃(x:RsC) (b:List UInt8) (k:Nat) (kI:Int) (nb:Bool) (n:Int) (f:Nat->List SV) (nn:Bool) (nl g:Int) (nf:Nat->List SV),
 xs=[.ptr 0 0,.int .i64 (.a kI)]/\ls=[.blk 125 (J1 x nb n f nn nl g),.vec 5 (.a nl) (.a g) 1 nf]/\kI=(k:Int)/\A7 f n b/\k<=b.length/\b.length<=1000000/\x.bo.length<=1000000/\
 ∀bo' n' f',bo'=x.bo++b.take k->A7 f' n' (b.drop k)->K (.tup []) [.blk 125 (J1 { x with bo:=bo' } nb n' f' nn nl g),.vec 5 (.a nl) (.a g) 1 nf]
theorem Ae9:Ay Tryz.prog gl 136 spTake:=by
 refine Ez (gh:=[]) mixed C6 Ai Tryz.func136 (by kernel_rfl) (by kernel_rfl) ?_;intro xs ls K h;unfold spTake at h;obtain⟨x,b,k,kI,nb,n,f,nn,nl,g,nf,rfl,rfl,hk,R,hkb,hb,hbo,h⟩:=h;obtain⟨T,hT⟩:∃T,T=b.drop k:=⟨_,rfl⟩;obtain⟨N,VN⟩:∃N:Int,VI N T.length:=⟨_,⟨rfl⟩⟩;obtain⟨B,hB⟩:∃B,B=x.bo++b.take k:=⟨_,rfl⟩;have RT:A7 (byteRow T) N T:=⟨VN.h,λi _=>rfl⟩;have h:=h B N (byteRow T) hB (by rw[<-hT];exact RT);have VK:VI kI k:=⟨hk⟩;have VB:VI n b.length:=⟨R.n⟩;have HK:LeN k b.length:=⟨hkb⟩;have HB:LeN b.length 1000000:=⟨hb⟩;have HO:LeN x.bo.length 1000000:=⟨hbo⟩;clear hk hkb hb hbo;refine⟨_,_,h,λD hD=>?_⟩;clear h;obtain⟨m,ph,inf,ln,mi,st,re,fb,fl,ff,fr,bo,lf,cp,cl,cd,cf,cb,ct,ctf⟩:=x;cbv;refine⟨by subst hD;exact⟨Int.le_refl _,by show (0:Int)<=kI;rw[VK.h];omega,by show kI<=n;rw[VK.h,VB.h];have:=HK.h;omega⟩,λf1 n1 hsub=>?_⟩;cbv;have R1:A7 f1 n1 (b.take k):=by
  have:=R.sub (a:=0) (b:=k) hsub (by subst hD;rfl) (by subst hD;exact VK.h) (Nat.zero_le _) HK.h;simpa using this
 clear hsub;refine⟨by subst hD;exact R1.byte,λs hs=>?_⟩;cbv;have hs:s=b.take k:=by subst hD;exact R1.str hs
 have hsl:s.length<=1000000:=by rw[hs,List.length_take];have:=HB.h;omega
 refine⟨⟨by have h2:bo.length<=1000000:=HO.h;omega⟩,λr hr=>?_⟩;cbv;have hr:r=B:=by rw[hB,hr.h,hs]
 clear R1 hs hsl;refine⟨by subst hD;exact⟨by show (0:Int)<=kI;rw[VK.h];omega,by show kI<=n;rw[VK.h,VB.h];have:=HK.h;omega,Int.le_refl _⟩,λf2 n2 hsub=>?_⟩;cbv;have R2:A7 f2 n2 T:=by
  have:=R.sub (a:=k) (b:=b.length) hsub (by subst hD;exact VK.h) (by subst hD;exact VB.h) HK.h (Nat.le_refl _);have e:(b.drop k).take (b.length-k)=b.drop k:=List.take_of_length_le (by rw[List.length_drop];exact Nat.le_refl _);rw[e,<-hT]at this;exact this
 clear hsub;have e1:=R2.n;have e2:=VN.h;subst hD hr;refine⟨LeV.refl _,Cz (LeH.cons (Ao (.cons (Cn _) (.cons (Ak rfl) (.cons (Ak rfl) (.cons (Cn _) (.cons (Ak rfl) (.cons (Ak rfl) (.cons (Cn _) (.cons (LeV.refl _) (.cons (Ak rfl) (.cons (Cn _) (.cons (Ak rfl) (.cons (Ak rfl) (.cons (Cn _) (.cons (Cn _) (.cons (Ak rfl) (.cons (LeV.refl _) (.cons (LeV.sl rfl (by exact e1.trans e2.symm) λi hi=>?_) (.cons (LeV.refl _) .nil))))))))))))))))))) λ_ _ _ _ h=>h),Nat.le_refl _⟩;have hi:(i:Int)<n2:=hi;rw[R2.f i (by omega)];rfl
theorem Q5{ph ph' inf inf' mi mi' st st' fl fl' fr fr' lf lf' cp cp' cf cf' ct ct' n n' nl nl' g g':ST}{m ln re bo cl cd:List UInt8}{fb fb' cb cb' nb nb' nn nn':BT}{ff ff' ctf ctf' f f':Nat->List SV}
  (h1:ph.den=ph'.den) (h2:inf.den=inf'.den) (h3:mi.den=mi'.den) (h4:st.den=st'.den) (h5:LeV (.sl fb fl 2 ff) (.sl fb' fl' 2 ff')) (h6:fr.den=fr'.den) (h7:lf.den=lf'.den) (h8:cp.den=cp'.den) (h9:cf.den=cf'.den) (h10:LeV (.sl cb ct 2 ctf) (.sl cb' ct' 2 ctf')) (h11:LeV (.sl nb n 1 f) (.sl nb' n' 1 f')) (h12:LeV (.vsl nn nl g 1) (.vsl nn' nl' g' 1)):
  LeL [.str m,.int .i64 ph,.int .i64 inf,.str ln,.int .i64 mi,.int .i64 st,.str re,.sl fb fl 2 ff,.int .i64 fr,.str bo,.int .i64 lf,.int .i64 cp,.str cl,.str cd,.int .i64 cf,.sl cb ct 2 ctf,.sl nb n 1 f,.vsl nn nl g 1]
   [.str m,.int .i64 ph',.int .i64 inf',.str ln,.int .i64 mi',.int .i64 st',.str re,.sl fb' fl' 2 ff',.int .i64 fr',.str bo,.int .i64 lf',.int .i64 cp',.str cl,.str cd,.int .i64 cf',.sl cb' ct' 2 ctf',.sl nb' n' 1 f',.vsl nn' nl' g' 1] :=
 .cons (Cn _) (.cons (Ak h1) (.cons (Ak h2) (.cons (Cn _) (.cons (Ak h3) (.cons (Ak h4) (.cons (Cn _) (.cons h5 (.cons (Ak h6) (.cons (Cn _) (.cons (Ak h7) (.cons (Ak h8) (.cons (Cn _) (.cons (Cn _) (.cons (Ak h9) (.cons h10 (.cons h11 (.cons h12 .nil)))))))))))))))))
theorem P3{nb nb':BT}{n n':ST}{f f':Nat->List SV}{N N':Int}{t:List UInt8}(R:A7 f N t)(R':A7 f' N' t)(h:nb.den=nb'.den)(hn:n.den=N)(hn':n'.den=N'):LeV (.sl nb n 1 f) (.sl nb' n' 1 f'):=by
 have e1:=R.n;have e2:=R'.n;refine LeV.sl h (by omega) λi hi=>?_;rw[R.f i (by omega),R'.f i (by omega)]
def spSizedR:FSpec:=λ_ xs ls K=>∃(x:RsC) (b:List UInt8) (k:Nat) (nb:Bool) (n:Int) (f:Nat->List SV) (nn:Bool) (nl g:Int) (nf:Nat->List SV),
 xs=[.ptr 0 0]/\ls=[.blk 125 (J1 x nb n f nn nl g),.vec 5 (.a nl) (.a g) 1 nf]/\(k:Int)=min x.lf (b.length:Int)/\A7 f n b/\b.length<=1000000/\x.bo.length<=1000000/\0<=x.lf/\x.lf<=1000000/\
 ∀ph' bo' lf' n' f',ph'=(if x.lf-(k:Int)=0 then 2 else x.ph)->bo'=x.bo++b.take k->lf'=x.lf-(k:Int)->A7 f' n' (b.drop k)->K (.int .i64 (.a 0)) [.blk 125 (J1 { x with ph:=ph',bo:=bo',lf:=lf' } nb n' f' nn nl g),.vec 5 (.a nl) (.a g) 1 nf]
theorem Ahg:Ay Tryz.prog gl 77 spSizedR:=by
 refine Ez (gh:=[]) mixed C6 (Bm Ae9 Ai) Tryz.func77 (by kernel_rfl) (by kernel_rfl) ?_;intro xs ls K h;unfold spSizedR at h;obtain⟨x,b,k,nb,n,f,nn,nl,g,nf,rfl,rfl,hk,R,hb,hbo,hl0,hl1,h⟩:=h;obtain⟨T,hT⟩:∃T,T=b.drop k:=⟨_,rfl⟩;obtain⟨N,VN⟩:∃N:Int,VI N T.length:=⟨_,⟨rfl⟩⟩;obtain⟨B,hB⟩:∃B,B=x.bo++b.take k:=⟨_,rfl⟩;obtain⟨W,hW⟩:∃W:Int,W=x.lf-(k:Int):=⟨_,rfl⟩;obtain⟨P,hP⟩:∃P:Int,P=if W=0 then 2 else x.ph:=⟨_,rfl⟩
 have RT:A7 (byteRow T) N T:=⟨VN.h,λi _=>rfl⟩;have h:=h P B W N (byteRow T) (by rw[hP,hW]) hB hW (by rw[<-hT];exact RT);have VB:VI n b.length:=⟨R.n⟩;have HB:LeN b.length 1000000:=⟨hb⟩;have HO:LeN x.bo.length 1000000:=⟨hbo⟩;obtain⟨LF,hLF⟩:∃LF,LF=x.lf:=⟨_,rfl⟩;obtain⟨PH,hPH⟩:∃PH,PH=x.ph:=⟨_,rfl⟩;obtain⟨BO,hBO⟩:∃BO,BO=x.bo:=⟨_,rfl⟩;rw[<-hLF]at hk hl0 hl1 hW;rw[<-hPH]at hP;rw[<-hBO]at hB;have hkl:k<=b.length:=by omega
 have hwr:IntKind.i64.wrap (LF-(k:Int))=W:=by rw[hW];exact A4 (by omega) (by omega)
 have EK:EqI (k:Int) (min LF (b.length:Int)):=⟨hk⟩;obtain⟨KI,hKI⟩:∃KI:Int,KI=(k:Int):=⟨_,rfl⟩;rw[<-hKI]at hwr;have EW:EqI (IntKind.i64.wrap (LF-KI)) W:=⟨hwr⟩;have HK:LeN k b.length:=⟨hkl⟩;clear hk hb hbo hl0 hl1 hkl hwr;refine⟨_,_,h,λD hD=>?_⟩;clear h;obtain⟨m,ph,inf,ln,mi,st,re,fb,fl,ff,fr,bo,lf,cp,cl,cd,cf,cb,ct,ctf⟩:=x;simp only at hLF hPH hBO;subst hLF hPH hBO;cbv;intro r hr;cbv;have hr:r=KI:=by
  have h1:r=min LF n:=by subst hD;exact hr.h
  rw[h1,hKI,EK.h,VB.h]
 subst hr;refine⟨RsC.nm D ⟨m,PH,inf,ln,mi,st,re,fb,fl,ff,fr,BO,LF,cp,cl,cd,cf,cb,ct,ctf⟩,b,k,D.i (.a r),D.b (.a nb),D.i (.a n),f,D.b (.a nn),D.i (.a nl),D.i (.a g),nf,rfl,rfl,by subst hD;exact hKI,by subst hD;exact R,HK.h,HB.h,HO.h,λbo2 n2 f2 hb2 R2=>?_⟩;cbv;have hb2:bo2=B:=hb2.trans hB.symm;rw[<-hT]at R2;subst hb2;refine br hD (λhb=>?_) (λhb=>?_)<;>cbv
 ·have hb:(IntKind.i64.wrap (LF-r)==0)=true:=by subst hD;exact hb
  rw[EW.h,beq_iff_eq]at hb;rw[if_pos hb]at hP;subst hD hP;exact⟨Ak rfl,Cz (LeH.cons (Ao (Q5 rfl rfl rfl rfl (LeV.refl _) rfl (by exact EW.h) rfl rfl (LeV.refl _) (P3 R2 RT rfl rfl rfl) (LeV.refl _))) λ_ _ _ _ h=>h),Nat.le_refl _⟩
 ·have hb:(IntKind.i64.wrap (LF-r)==0)=false:=by subst hD;exact hb
  rw[EW.h,beq_eq_false_iff_ne]at hb;rw[if_neg hb]at hP;subst hD hP;exact⟨Ak rfl,Cz (LeH.cons (Ao (Q5 rfl rfl rfl rfl (LeV.refl _) rfl (by exact EW.h) rfl rfl (LeV.refl _) (P3 R2 RT rfl rfl rfl) (LeV.refl _))) λ_ _ _ _ h=>h),Nat.le_refl _⟩
theorem Kb{t t':ST}{a b:Hl}(he:t.den=t'.den):Fin (.int .i64 t) (.int .i64 t') [a,b] [.gone,.gone]:=by
 refine⟨Ak he,λh E w hk=>?_,Nat.le_refl _⟩
 match h with
 |0=>trivial
 |1=>trivial
 |h+2=>exact hk
def spClosedR:FSpec:=λ_ xs ls K=>∃(x:RsC) (b:List UInt8) (nb:Bool) (n:Int) (f:Nat->List SV) (nn:Bool) (nl g:Int) (nf:Nat->List SV),
 xs=[.ptr 0 0]/\ls=[.blk 125 (J1 x nb n f nn nl g),.vec 5 (.a nl) (.a g) 1 nf]/\A7 f n b/\b.length<=1000000/\x.bo.length<=1000000/\
 (65536<x.bo.length+b.length->K (.int .i64 (.a 3)) [.gone,.gone])/\
 (x.bo.length+b.length<=65536->∀bo' n' f',bo'=x.bo++b->A7 f' n' []->K (.int .i64 (.a 0)) [.blk 125 (J1 { x with bo:=bo' } nb n' f' nn nl g),.vec 5 (.a nl) (.a g) 1 nf])
theorem Aen:Ay Tryz.prog gl 79 spClosedR:=by
 refine Ez (gh:=[]) mixed C6 (Bm Ae9 Ai) Tryz.func79 (by kernel_rfl) (by kernel_rfl) ?_;intro xs ls K h;unfold spClosedR at h;obtain⟨x,b,nb,n,f,nn,nl,g,nf,rfl,rfl,R,hb,hbo,h1,h2⟩:=h;obtain⟨B,hB⟩:∃B,B=x.bo++b:=⟨_,rfl⟩;have VB:VI n b.length:=⟨R.n⟩;have HB:LeN b.length 1000000:=⟨hb⟩;have HO:LeN x.bo.length 1000000:=⟨hbo⟩;have R0:A7 (λ_=>[]) 0 []:=⟨rfl,λi hi=>by cases hi⟩;obtain⟨BO,hBO⟩:∃BO,BO=x.bo:=⟨_,rfl⟩;obtain⟨W,hW⟩:∃W:Int,W=IntKind.i64.wrap ((BO.length:Int)+n):=⟨_,rfl⟩;have hw:W=(BO.length:Int)+b.length:=by rw[hW,VB.h];rw[hBO];exact A4 (by omega) (by omega)
 have EW:EqI W (IntKind.i64.wrap ((BO.length:Int)+n)):=⟨hW⟩;clear hW;rw[<-hBO]at hB h1 h2
 by_cases hbig:65536<BO.length+b.length
 ·have hd:decide (65536<W)=true:=by rw[hw,decide_eq_true_eq];omega
  refine⟨_,_,h1 hbig,λD hD=>?_⟩;clear h1 h2 hw hb hbo;obtain⟨m,ph,inf,ln,mi,st,re,fb,fl,ff,fr,bo,lf,cp,cl,cd,cf,cb,ct,ctf⟩:=x;simp only at hBO;subst hBO;cbv;refine br hD (λhb=>?_) (λhb=>?_)<;>cbv
  ·subst hD;exact Kb rfl
  ·exfalso
   have hb:decide (65536<IntKind.i64.wrap ((BO.length:Int)+n))=false:=by subst hD;exact hb
   rw[<-EW.h,hd]at hb;cases hb
 ·have hd:decide (65536<W)=false:=by rw[hw,decide_eq_false_iff_not];omega
  have h:=h2 (by omega) B 0 (λ_=>[]) hB R0;refine⟨_,_,h,λD hD=>?_⟩;clear h1 h2 h hw hb hbo;obtain⟨m,ph,inf,ln,mi,st,re,fb,fl,ff,fr,bo,lf,cp,cl,cd,cf,cb,ct,ctf⟩:=x;simp only at hBO;subst hBO;cbv;refine br hD (λhb=>?_) (λhb=>?_)<;>cbv
  ·exfalso
   have hb:decide (65536<IntKind.i64.wrap ((BO.length:Int)+n))=true:=by subst hD;exact hb
   rw[<-EW.h,hd]at hb;cases hb
  refine⟨RsC.nm D ⟨m,ph,inf,ln,mi,st,re,fb,fl,ff,fr,BO,lf,cp,cl,cd,cf,cb,ct,ctf⟩,b,b.length,D.i (.a n),D.b (.a nb),D.i (.a n),f,D.b (.a nn),D.i (.a nl),D.i (.a g),nf,rfl,rfl,by subst hD;exact VB.h,by subst hD;exact R,Nat.le_refl _,HB.h,HO.h,λbo2 n2 f2 hb2 R2=>?_⟩;cbv;have hbx:bo2=B:=by rw[hb2,hB,List.take_length];rfl
  clear hb2;rw[List.drop_length]at R2;subst hD hbx;exact⟨Ak rfl,Cz (LeH.cons (Ao (Q5 rfl rfl rfl rfl (LeV.refl _) rfl rfl rfl rfl (LeV.refl _) (P3 R2 R0 rfl rfl rfl) (LeV.refl _))) λ_ _ _ _ h=>h),Nat.le_refl _⟩
def spChunkedR:FSpec:=λ_ xs ls K=>∃(x:RsC) (s:Ch) (b:List UInt8) (nb:Bool) (n:Int) (f:Nat->List SV) (nn:Bool) (nl g:Int) (nf:Nat->List SV),
 xs=[.ptr 0 0]/\ls=[.blk 125 (J1 x nb n f nn nl g),.vec 5 (.a nl) (.a g) 1 nf]/\x.cl=s.line/\x.cd=s.data/\ChV s x.cp x.cf x.ct x.ctf/\Ix s/\(s.phase=4->Ih s.trailers)/\A7 f n b/\b.length<=1000000/\
 ∀k,k=Bi s b->(k.2.2≠0->K (.int .i64 (.a k.2.2)) [.gone,.gone])/\
  (k.2.2=0->∀ph' cp' cf' cb' ct' ctf' n' f',ChV k.1 cp' cf' ct' ctf'->cb'=tnF s k.1 x.cb->ph'=(if k.1.phase=4 then 2 else x.ph)->A7 f' n' (b.drop k.2.1)->
   K (.int .i64 (.a 0)) [.blk 125 (J1 { x with ph:=ph',cp:=cp',cl:=k.1.line,cd:=k.1.data,cf:=cf',cb:=cb',ct:=ct',ctf:=ctf' } nb n' f' nn nl g),.vec 5 (.a nl) (.a g) 1 nf])
theorem Acf:∀(b:List UInt8) (s:Ch),(Bi s b).2.1<=b.length
 | [],s=>Nat.le_refl _
 |c :: b,s=>by
  unfold Bi
  split
  ·simp
  split
  ·simp
  ·have:=Acf b (chS s c).1
   simp only[List.length_cons];omega
theorem Acb:Ay Tryz.prog gl 78 spChunkedR:=by
 refine Ez (gh:=[]) mixed C6 (Ab Ai6 Ai) Tryz.func78 (by kernel_rfl) (by kernel_rfl) ?_;intro xs ls K h;unfold spChunkedR at h;obtain⟨x,s,b,nb,n,f,nn,nl,g,nf,rfl,rfl,hcl,hcd,V,hO,hnm,R,hb,h⟩:=h;obtain⟨k,hk⟩:∃k,k=Bi s b:=⟨_,rfl⟩;have h:=h k hk;have hkl:k.2.1<=b.length:=by rw[hk];exact Acf b s
 have hrow:k.2.2=0->∃tl' tf',Bu tf' tl' k.1.trailers:=λe0=>by rw[hk]at e0 ⊢;exact Qi b s ⟨_,_,V.tr⟩ (by omega) hO e0
 obtain⟨T,hT⟩:∃T,T=b.drop k.2.1:=⟨_,rfl⟩;obtain⟨N,VN⟩:∃N:Int,VI N T.length:=⟨_,⟨rfl⟩⟩;have RT:A7 (byteRow T) N T:=⟨VN.h,λi _=>rfl⟩;obtain⟨L,hL1,hL2,hK⟩:∃L:List Hl,(k.2.2≠0->L=[.gone,.gone])/\(k.2.2=0->∃ct' ctf',L=[.blk 125 (J1 { x with ph:=(if k.1.phase=4 then 2 else x.ph),cp:=k.1.phase,cl:=k.1.line,cd:=k.1.data,cf:=k.1.left,cb:=tnF s k.1 x.cb,ct:=ct',ctf:=ctf' } nb N (byteRow T) nn nl g),.vec 5 (.a nl) (.a g) 1 nf]/\Bu ctf' ct' k.1.trailers)/\K (.int .i64 (.a k.2.2)) L:=by
  by_cases e0:k.2.2=0
  ·obtain⟨tl',tf',hR⟩:=hrow e0
   refine⟨_,λh=>absurd e0 h,λ_=>⟨tl',tf',rfl,hR⟩,?_⟩;rw[e0];exact h.2 e0 _ _ _ _ tl' tf' _ _ ⟨rfl,rfl,hR⟩ rfl rfl (by rw[<-hT];exact RT)
  ·exact⟨_,λ_=>rfl,λh=>absurd h e0,h.1 e0⟩
 have VB:VI n b.length:=⟨R.n⟩;have HB:LeN b.length 1000000:=⟨hb⟩;have HK:LeN k.2.1 b.length:=⟨hkl⟩;obtain⟨E,hE⟩:∃E,E=k.2.2:=⟨_,rfl⟩;rw[<-hE]at hK hL1 hL2;refine⟨_,_,hK,λD hD=>?_⟩;clear hK h hrow hkl hb;obtain⟨m,ph,inf,ln,mi,st,re,fb,fl,ff,fr,bo,lf,cp,cl,cd,cf,cb,ct,ctf⟩:=x;simp only at hcl hcd;cbv;refine⟨s,b,cl,cd,D.i (.a cp),D.i (.a cf),D.b (.a cb),D.i (.a ct),ctf,D.b (.a nb),D.i (.a n),f,rfl,rfl,hcl,hcd,by subst hD;exact⟨V.eph,V.elf,V.tr⟩,hO,hnm,by subst hD;exact R,HB.h,λk2 hk2=>?_⟩;obtain rfl:k2=k:=hk2.trans hk.symm;refine⟨λhne=>?_,λh0 cp2 cf2 cb2 ct2 ctf2 u hV hcb hu=>?_⟩<;>cbv
 ·refine br hD (λhb=>?_) (λhb=>?_)<;>cbv
  ·rw[hL1 (by rw[hE];exact hne)]
   subst hD;exact Kb (by exact hE.symm)
  ·exfalso
   have hb:(k2.2.2 != 0)=false:=by subst hD;exact hb
   exact hne (by simpa using hb)
 ·refine br hD (λhb=>?_) (λhb=>?_)<;>cbv
  ·exfalso
   have hb:((0:Int) != 0)=true:=by subst hD;exact hb
   cases hb
  clear hb;have VU:VI u k2.2.1:=⟨hu⟩;have hu0:0<=u:=by rw[VU.h];exact Int.natCast_nonneg _
  have hu1:u<=n:=by rw[VU.h,VB.h];exact Int.ofNat_le.2 HK.h
  refine⟨by subst hD;exact⟨by show (0:Int)<=u;exact hu0,by show u<=n;exact hu1,Int.le_refl _⟩,λf2 n2 hsub=>?_⟩;cbv;have R2:A7 f2 n2 T:=by
   have:=R.sub (a:=k2.2.1) (b:=b.length) hsub (by subst hD;exact hu) (by subst hD;exact VB.h) HK.h (Nat.le_refl _);have e:(b.drop k2.2.1).take (b.length-k2.2.1)=b.drop k2.2.1:=List.take_of_length_le (by rw[List.length_drop];exact Nat.le_refl _);rw[e,<-hT]at this;exact this
  clear hsub;refine br hD (λhb=>?_) (λhb=>?_)<;>cbv
  ·have hb:(cp2==4)=true:=by subst hD;exact hb
   have h4:k2.1.phase=4:=by rw[<-hV.eph];exact eq_of_beq hb
   obtain⟨ct3,ctf3,rfl,hR3⟩:=hL2 (by rw[hE];exact h0);rw[if_pos h4];have e0:E=0:=by rw[hE];exact h0
   subst hD;exact⟨Ak (by exact e0.symm),Cz (LeH.cons (Ao (Q5 rfl rfl rfl rfl (LeV.refl _) rfl rfl (by exact hV.eph) (by exact hV.elf) (Ir hV.tr hR3 (by exact hcb) rfl rfl) (P3 R2 RT rfl rfl rfl) (LeV.refl _))) λ_ _ _ _ h=>h),Nat.le_refl _⟩
  ·have hb:(cp2==4)=false:=by subst hD;exact hb
   have h4:¬k2.1.phase=4:=by rw[<-hV.eph];simpa using hb
   obtain⟨ct3,ctf3,rfl,hR3⟩:=hL2 (by rw[hE];exact h0);rw[if_neg h4];have e0:E=0:=by rw[hE];exact h0
   subst hD;exact⟨Ak (by exact e0.symm),Cz (LeH.cons (Ao (Q5 rfl rfl rfl rfl (LeV.refl _) rfl rfl (by exact hV.eph) (by exact hV.elf) (Ir hV.tr hR3 (by exact hcb) rfl rfl) (P3 R2 RT rfl rfl rfl) (LeV.refl _))) λ_ _ _ _ h=>h),Nat.le_refl _⟩
end Go.Proofs.YtdoogdbjiijifaaGreatDoor
