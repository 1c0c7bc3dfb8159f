/- A part of the proof: contracts of functions, or the executor and its soundness. No conditions. -/
import Derived.Test.YtdoogdbjiijifaaGreatDoorE8Paw
import Derived.Test.YtdoogdbjiijifaaGreatDoorE8Pau
namespace Go.Proofs.YtdoogdbjiijifaaGreatDoor
open Go Go.Sx Go.RowKit
set_option maxRecDepth 100000
set_option maxHeartbeats 8000000
def Asc(s:List UInt8):Prop:=∀b∈s,b.toNat<128
structure OD(s:List UInt8):Prop where
 a:Asc s
 len:s.length<=1000000
theorem Aeq:∀d:Fin 256,Go.Lib.lowerB (UInt8.ofNat d.1)=OJ (UInt8.ofNat d.1):=by decide +kernel
theorem Abs(s:List UInt8):Go.Lib.toLowerA s=bG s:=by
 unfold Go.Lib.toLowerA bG;refine UB λb _=>?_;have:=Aeq ⟨b.toNat,b.toNat_lt⟩;simpa using this
def ga:aB:=λ_ xs ls K=>∃(s:List UInt8),xs=[.str s]/\ls=[]/\OD s/\∀r,r=bG s->K (.str r) []
theorem Alr:Ap Tryz.prog gl 195 ga:=by
 refine⟨⟨Tryz.f195,_,Tryz.func195,rfl,by kernel_rfl⟩,λxs ls K h=>?_⟩;obtain⟨s,rfl,rfl,hs,h⟩:=h;refine⟨_,_,h _ rfl,Bg λE B w aX _ _ _ hr=>?_⟩;obtain⟨v,rfl,hv⟩:=Oh hr;rw[Cr hv];refine (Is ⟨s.toArray⟩ w (by have:=hs.len;show s.length<=_;omega) (λj b hj=>hs.a b (QK hj))).mono ?_;rintro e w' ⟨rfl,hB⟩;refine⟨_,rfl,λE=>.ro (.str ?_),hB⟩;show Value.string _=Value.string _;rw[<-Abs];rfl
def DB(x:HF):Bool:=BR L6 (bG x.name)
def zR:aB:=λ_ xs ls K=>∃(a b:List UInt8),xs=[.agg [.str a,.str b]]/\ls=[]/\OD a/\∀r,r=DB ⟨a,b⟩->K (.bool (.a r)) []
theorem oa:Ap Tryz.prog gl 194 zR:=by
 refine Bv (gh:=[]) mixed Ck (Ab Alr Ae) Tryz.func194 (by kernel_rfl) (by kernel_rfl) ?_;intro xs ls K h;unfold zR at h;obtain⟨a,b,rfl,rfl,hs,h⟩:=h;obtain⟨k,hk⟩:∃k,k=DB ⟨a,b⟩:=⟨_,rfl⟩;refine⟨_,_,h k hk,λD hD=>?_⟩;clear h;cbv;refine⟨a,rfl,rfl,hs,λt ht=>?_⟩;cbv;have hk:k=BR L6 t:=by rw[hk,ht];rfl
 clear ht;refine br hD (λh1=>?_) (λh1=>?_)<;>cbv
 .refine Aw hD ?_
  have h1:(t==[99,111,110,110,101,99,116,105,111,110])=true:=h1;have h1:=eq_of_beq h1;rw[hk,h1];decide
 have n0:¬ [99,111,110,110,101,99,116,105,111,110]=t:=λe=>by
  have h1:(t==[99,111,110,110,101,99,116,105,111,110])=false:=h1;rw[e]at h1;simp at h1
 clear h1;refine br hD (λh1=>?_) (λh1=>?_)<;>cbv
 .refine Aw hD ?_
  have h1:(t==[99,111,110,116,101,110,116,45,108,101,110,103,116,104])=true:=h1;have h1:=eq_of_beq h1;rw[hk,h1];decide
 have n1:¬ [99,111,110,116,101,110,116,45,108,101,110,103,116,104]=t:=λe=>by
  have h1:(t==[99,111,110,116,101,110,116,45,108,101,110,103,116,104])=false:=h1;rw[e]at h1;simp at h1
 clear h1;refine br hD (λh1=>?_) (λh1=>?_)<;>cbv
 .refine Aw hD ?_
  have h1:(t==[104,111,115,116])=true:=h1;have h1:=eq_of_beq h1;rw[hk,h1];decide
 have n2:¬ [104,111,115,116]=t:=λe=>by
  have h1:(t==[104,111,115,116])=false:=h1;rw[e]at h1;simp at h1
 clear h1;refine br hD (λh1=>?_) (λh1=>?_)<;>cbv
 .refine Aw hD ?_
  have h1:(t==[116,114,97,105,108,101,114])=true:=h1;have h1:=eq_of_beq h1;rw[hk,h1];decide
 have n3:¬ [116,114,97,105,108,101,114]=t:=λe=>by
  have h1:(t==[116,114,97,105,108,101,114])=false:=h1;rw[e]at h1;simp at h1
 clear h1;refine br hD (λh1=>?_) (λh1=>?_)<;>cbv
 .refine Aw hD ?_
  have h1:(t==[116,114,97,110,115,102,101,114,45,101,110,99,111,100,105,110,103])=true:=h1;have h1:=eq_of_beq h1;rw[hk,h1];decide
 have n4:¬ [116,114,97,110,115,102,101,114,45,101,110,99,111,100,105,110,103]=t:=λe=>by
  have h1:(t==[116,114,97,110,115,102,101,114,45,101,110,99,111,100,105,110,103])=false:=h1;rw[e]at h1;simp at h1
 clear h1;refine Aw hD ?_;rw[hk];unfold L6 fD;simp only[BR,beq_eq_false_iff_ne.2 n0,beq_eq_false_iff_ne.2 n1,beq_eq_false_iff_ne.2 n2,beq_eq_false_iff_ne.2 n3,beq_eq_false_iff_ne.2 n4,Bool.or_false];rfl
def tw:List HF->Int->Int
 | [],_=>-1
 |x :: l,i=>if DB x then i else tw l (i+1)
theorem Acc:∀(l:List HF) (i:Int),0<=i->decide (0<=tw l i)=Wy l
 | [],i,_=>rfl
 |x :: l,i,h=>by
  unfold tw Wy;rw[List.any_cons];have e:BR L6 (bG x.name)=DB x:=rfl;rw[e]
  by_cases hb:DB x=true
  .rw[QB hb,hb];simpa using h
  .rw[QA hb]
   have:DB x=false:=by simpa using hb
   rw[this,YU];exact Acc l (i+1) (by omega)
structure In(l:List HF):Prop where
 h:∀x∈l,OD x.name
def yW:aB:=λ_ xs ls K=>∃(l:List HF) (nl:Bool) (n:Int) (f:Nat->List SV),xs=[.sl (.a nl) (.a n) 2 f,.fn 194]/\ls=[]/\A5 f n l/\In l/\∀r,r=tw l 0->K (.int .i64 (.a r)) []
def RF(k:Int)(l:List HF)(nl:Bool)(n:Int)(f:Nat->List SV)(m:Nat)(vs:List (Option SV))(hp:List Hl):Prop :=
 ∃(i:Nat) (I:Int),vs=[some (.sl (.a nl) (.a n) 2 f),some (.fn 194),some (.int .i64 (.a n)),some (.int .i64 (.a I))]/\hp=[]/\AtR l i I m/\k=tw (l.drop i) I
theorem js:Ap Tryz.prog gl 246 yW:=by
 refine Bv (gh:=[]) mixed Ck (Ab oa Ae) Tryz.func246 (by kernel_rfl) (by kernel_rfl) ?_;intro xs ls K h;unfold yW at h;obtain⟨l,nl,n,f,rfl,rfl,R,hA,h⟩:=h;obtain⟨k,hk⟩:∃k,k=tw l 0:=⟨_,rfl⟩;refine⟨_,_,h k hk,λD hD=>?_⟩;clear h;obtain⟨J,hJ⟩:∃J,J=RF k l nl n f:=⟨_,rfl⟩;cbv;refine⟨[0,1,7,8],J,⟨rfl,l.length,?_⟩,?_⟩
 .rw[hJ]
  subst hD;exact⟨0,0,rfl,rfl,AtR.zero R.len,hk⟩
 intro m vs hp hj;rw[hJ]at hj;obtain⟨i,I,rfl,rfl,V,aZ⟩:=hj;clear hk;cbv;refine br hD (λh=>?_) (λh=>?_)<;>cbv
 .have aC:=V.lt R.n (QT (p:=I<n) h)
  clear h;refine⟨V.fS hD R.n aC,λj hj=>?_⟩;obtain rfl:=V.j hD hj;clear hj;have e1:=R.f j aC;have dP:l.getD j default∈l:=by rw[QD,QC aC];exact XL aC
  have eF:=hA.h _ dP;rw[Hb (d:=default) aC]at aZ;obtain⟨x,hx⟩:∃x,x=l.getD j default:=⟨_,rfl⟩;rw[<-hx]at e1 aZ eF;clear dP;obtain⟨a,b⟩:=x;cbv;rw[e1];cbv;refine⟨a,b,rfl,rfl,eF,λr hr=>?_⟩;cbv;unfold tw at aZ;rw[<-hr]at aZ;clear hr;refine br hD (λh=>?_) (λh=>?_)<;>cbv
  .have h:r=true:=h
   rw[QB h]at aZ;exact B6 hD aZ.symm
  have h:¬r=true:=by have h:r=false:=h;rw[h];decide
  rw[QA h]at aZ;obtain⟨g1,g2⟩:=V.step hD aC;refine⟨_,g1,?_⟩;rw[hJ];have e2:=V.I;have e3:=V.len;have e4:IntKind.i64.wrap (I+1)=I+1:=wrap64 (by omega) (by omega);subst hD;exact⟨j+1,_,rfl,rfl,g2,by rw[aZ];show _=tw _ (IntKind.i64.wrap (I+1));rw[e4]⟩
 .have hi:=V.eq R.n (QW (p:=I<n) h)
  rw[hi,XQ]at aZ;refine B6 hD ?_;rw[aZ];rfl
def zC:aB:=λ_ xs ls K=>∃(l:List HF) (nl:Bool) (n:Int) (f:Nat->List SV),xs=[.sl (.a nl) (.a n) 2 f,.fn 194]/\ls=[]/\A5 f n l/\In l/\∀r,r=Wy l->K (.bool (.a r)) []
theorem lv:Ap Tryz.prog gl 193 zC:=by
 refine Bv (gh:=[]) mixed Ck (Ab js Ae) Tryz.func193 (by kernel_rfl) (by kernel_rfl) ?_;intro xs ls K h;unfold zC at h;obtain⟨l,nl,n,f,rfl,rfl,R,hA,h⟩:=h;obtain⟨k,hk⟩:∃k,k=Wy l:=⟨_,rfl⟩;refine⟨_,_,h k hk,λD hD=>?_⟩;clear h;cbv;refine⟨l,_,_,f,rfl,rfl,by subst hD;exact R,hA,λr hr=>?_⟩;cbv;refine Aw hD ?_;show decide (0<=r)=k;rw[hr,hk,Acc l 0 (by decide)]
def zQ:aB:=λ_ xs ls K=>∃(l:List HF) (nl:Bool) (n:Int) (f:Nat->List SV),xs=[.sl (.a nl) (.a n) 2 f]/\ls=[]/\A5 f n l/\In l/\∀r,r=Wy l->K (.bool (.a r)) []
theorem Am5:Ap Tryz.prog gl 141 zQ:=by
 refine Bv (gh:=[]) mixed Ck (Ab lv Ae) Tryz.func141 (by kernel_rfl) (by kernel_rfl) ?_;intro xs ls K h;unfold zQ at h;obtain⟨l,nl,n,f,rfl,rfl,R,hA,h⟩:=h;refine⟨_,_,h _ rfl,λD hD=>?_⟩;clear h;obtain⟨k,hk⟩:∃k,k=Wy l:=⟨_,rfl⟩;rw[<-hk];cbv;refine⟨l,_,_,f,rfl,rfl,by subst hD;exact R,hA,λr hr=>?_⟩;cbv;exact Aw hD (hr.trans hk.symm)
open Go Go.Sx
set_option maxHeartbeats 16000000
theorem Afw{s:List UInt8}(h:Ca s=true):OD s:=by
 unfold Ca at h;simp only[QE,QJ,List.all_eq_true,QS]at h;refine⟨λb hb=>?_,by omega⟩;have:=h.1 b hb;unfold Ek at this
 split at this
 .cases this
 .omega
theorem Agw(b:List UInt8):∀(m p:Nat) (r:List HF),(∀x∈r,Ca x.name=true)->∀x∈(kK b m p r).1,Ca x.name=true
 |0,p,r,_,x,hx=>by simp[kK]at hx
 |m+1,p,r,hr,x,hx=>by
  unfold kK at hx
  split at hx
  .cases hx
  split at hx
  .cases hx
  split at hx
  .cases hx
  split at hx
  .exact hr x hx
  split at hx
  .cases hx
  rename_i g
  split at hx
  .cases hx
  refine Agw b m _ _ (λy hy=>?_) x hx;rcases List.mem_append.1 hy with hy|hy
  .exact hr y hy
  .rw[List.mem_singleton.1 hy]
   simp only[XR,not_or,Bool.not_eq_true,ZO]at g;exact g.1.2
theorem Za(b:List UInt8):In (A7 b).1:=⟨λx hx=>Afw (Agw b _ _ _ (λy hy=>by cases hy) x hx)⟩
theorem Ace(b:List UInt8):∀(m p:Nat) (r:List HF),(kK b m p r).2.2=10->b.length<=8192/\(kK b m p r).1=[]
 |0,p,r,h=>by simp[kK]at h
 |m+1,p,r,h=>by
  unfold kK at h ⊢
  split at h
  .cases h
  rename_i g1;rw[QA g1]
  split at h
  .rename_i g2
   rw[QB g2];refine⟨?_,rfl⟩;refine Decidable.byContradiction λhl=>g1 ?_;rw[ZN g2,ZN (show 8192<b.length by omega)];rfl
  rename_i g2;rw[QA g2]
  split at h
  .cases h
  rename_i g3;rw[QA g3]
  split at h
  .cases h
  rename_i g4;rw[QA g4]
  split at h
  .cases h
  rename_i g5;rw[QA g5]
  split at h
  .cases h
  rename_i g6;rw[QA g6];exact Ace b m _ _ h
theorem Hu{b:List UInt8}(h:(A7 b).2.2=10):b.length<=8192/\(A7 b).1=[]:=Ace b _ _ _ h
variable {s s':Ch}{c:UInt8}{v v':SV}{p l tl dl nl fo sz p' l' gV xN dJ qU cD:Int}{tf df nf gR nj jI:Nat->List SV}{i:Nat}{eV lf gX fx pS zh uO zg uN vr tM vq tL gt yp gu yo yx uM um tI:ST}{l0 d0:List UInt8}{tn pR db dd nn kT:BT}{gr:Bool}
theorem ns(hp:s.phase=3):cJ s c =
  (if (A7 (s.line++[c])).2.2=10 then (⟨3,s.line++[c],s.data,s.left,s.aE⟩,0) else
   if (A7 (s.line++[c])).2.2≠0 then (s,(A7 (s.line++[c])).2.2) else
   if Wy (A7 (s.line++[c])).1 then (s,6) else
   if Bb (A7 (s.line++[c])).1≠0 then (s,Bb (A7 (s.line++[c])).1) else
   (⟨4,[],s.data,s.left,(A7 (s.line++[c])).1⟩,0)):=by
 unfold cJ;rw[QA (by omega),QA (by omega),QA (by omega)]
theorem Y8:Ap Tryz.prog gl 189 (La 3):=by
 refine Bq (gh:=[(14,[.oI 0 6 2])]) mixed Ee (Al (Xy Qg) (Ab Am5 (Ab H0 Ae))) Tryz.func189 (by kernel_rfl) (by kernel_rfl) ?_;intro xs ls K h;unfold La at h;obtain⟨s,c,ci,ph,lf,l0,d0,tn,tl,tf,db,dl,gr,df,nn,nl,g,nf,fo,sz,rfl,rfl,rfl,V,hp,nQ,hO,h⟩:=h;unfold Vv at h;have nL:=hO.p3 hp;obtain⟨jD,_⟩:=Hu nL;obtain⟨T,hT⟩:∃T,T=s.line++[c]:=⟨_,rfl⟩;have IS:T.length=s.line.length+1:=by rw[hT,QF];rfl
 have hc:=ns (c:=c) hp;rw[<-hT]at hc;have hq:c≠10->T.length<=8192->(A7 T).2.2=10:=λh1 h2=>by rw[hT];exact Rg h1 (by omega) nL
 have tZ:=Za T;have eF:=Jm (T.length+1) 0 [] T (by omega) (by simp) (λx hx=>by cases hx);have TH:=λh=>(Hu (b:=T) h).2;have SS:A7 T=kK T (T.length+1) 0 []:=rfl;rw[<-SS]at eF;obtain⟨q,SQ⟩:∃q,q=A7 T:=⟨_,rfl⟩;rw[<-SQ]at hc hq tZ eF TH;clear SS;obtain⟨ql,qk,qe⟩:=q;simp only at hc hq tZ eF TH;obtain⟨e,he⟩:∃e,e=(cJ s c).2:=⟨_,rfl⟩;obtain⟨s',cB⟩:∃s',s'=(cJ s c).1:=⟨_,rfl⟩;have h:=h e he;rw[<-cB]at h;rw[hc]at he cB;clear hc;have mI:fo=0:=by have:=V.sd;rwa [QA (by omega)]at this
 have bB:sz=0:=by have:=V.nc;rwa [QA (by omega)]at this
 have lO:e=0->s'.data=s.data/\((s'.phase=3/\s'.aE=s.aE)\/(s'.phase=4/\s'.aE=ql)):=by
  intro e0;rw[e0]at he
  by_cases g1:qe=10
  .rw[QB g1]at cB;rw[cB];exact⟨rfl,.inl ⟨rfl,rfl⟩⟩
  rw[QA g1]at cB he
  by_cases g2:qe=0
  .rw[QA (by simpa using g2)]at cB he
   by_cases g3:Wy ql=true
   .rw[QB g3]at he;cases he
   rw[QA g3]at cB he
   by_cases g4:Bb ql=0
   .rw[QA (by simpa using g4)]at cB;rw[cB];exact⟨rfl,.inr ⟨rfl,rfl⟩⟩
   .rw[QB g4]at he;exact absurd he.symm g4
  .rw[QB g2]at he;exact absurd he.symm g2
 obtain⟨L,kO,nS,hK⟩:∃L:List Hl,(e≠0->L=[.gone,.gone,.gone])/\(e=0->∃eV gX pR gV gR kT dJ g' jI qU cD,L=[.aG 220 (po eV l0 d0 gX pR gV gR db dl kT dJ g' qU cD),.own 5 (.a dl) 1 gr df,.vec 5 (.a dJ) (.a g') 1 jI]/\
   Eu s' eV gX gV gR dl df dJ jI qU cD/\CZ s s' tn nn g pR kT g' db)/\K (.int .i64 (.a e)) L:=by
  by_cases e0:e=0
  .obtain⟨k3,k4⟩:=lO e0
   rcases k4 with⟨k1,k2⟩|⟨k1,k2⟩
   .have V':Eu s' s'.phase s'.left tl tf dl df s'.line.length (aU s'.line) (if s'.phase=0 then Be s'.line else 0) (if s'.phase=0 then ((Ba s'.line).2:Int) else 0):=⟨rfl,rfl,by rw[k2];exact V.tr,by rw[k3];exact V.da,⟨rfl,λi _=>rfl⟩,rfl,rfl⟩
    have N':CZ s s' tn nn g tn s'.line.isEmpty (g+1) db:=⟨nQ,by rw[QA (by omega)],by rw[QA (by omega)],by rw[QA (by omega),QA (by omega)]⟩;exact⟨_,λh=>absurd e0 h,λ_=>⟨_,_,_,_,_,_,_,_,_,_,_,rfl,V',N'⟩,h.2 e0 _ _ _ _ _ _ _ _ _ _ _ _ _ _ V' N'⟩
   .have V':Eu s' s'.phase s'.left ql.length (Mz ql) dl df s'.line.length (aU s'.line) (if s'.phase=0 then Be s'.line else 0) (if s'.phase=0 then ((Ba s'.line).2:Int) else 0):=⟨rfl,rfl,by rw[k2];exact A5.row (by have:=eF.1;omega) (λi hi=>eF.2 _ (by rw[QD,QC hi];exact XL hi)),by rw[k3];exact V.da,⟨rfl,λi _=>rfl⟩,rfl,rfl⟩
    have N':CZ s s' tn nn g ql.isEmpty s'.line.isEmpty (g+3) db:=⟨nQ,by rw[QB k1,k2],by rw[QA (by omega)],by rw[QA (by omega),QB k1]⟩;exact⟨_,λh=>absurd e0 h,λ_=>⟨_,_,_,_,_,_,_,_,_,_,_,rfl,V',N'⟩,h.2 e0 _ _ _ _ _ _ _ _ _ _ _ _ _ _ V' N'⟩
  .exact⟨_,λ_=>rfl,λh=>absurd h e0,h.1 e0⟩
 have eK:nl=s.line.length:=V.li.n;have VN:VI nl s.line.length:=⟨eK⟩;have HL:eU s.line.length 8192:=⟨jD⟩;have HT:AN T.length (s.line.length+1):=⟨IS⟩;clear eK jD IS nL lO h eF;refine⟨_,_,hK,λD hD=>?_⟩;clear hK;cbv;intro f3 eN;cbv;refine⟨by subst hD;exact⟨rfl,by show (nl+1) * 1<=_;rw[VN.h];have:=HL.h;omega,by show nl+1<=_;rw[VN.h];have:=HL.h;omega⟩,by subst hD;exact⟨rfl⟩,λf4 n4 hm g4 gS=>?_⟩;cbv;have mS:f3 0=[.int .u8 (.a (c.toNat:Int))]:=by rw[eN.h 0 _ rfl];subst hD;rfl
 have R4:Bl f4 n4 T:=by rw[hT];exact V.li.more (g:=f3) (u:=[c]) rfl (jG mS) (by subst hD;exact hm)
 have EG:oH g4 (g+1):=⟨by subst hD;exact gS.h⟩;clear hm eN gS
 -- fm is left when all bytes are read and more is wanted
 have ar:qe=10->e=0/\s'=⟨3,T,s.data,s.left,s.aE⟩:=λh=>by rw[he,cB,QB h];exact⟨rfl,rfl⟩
 refine br hD (λhb=>?_) (λhb=>?_)<;>cbv
 .have hb:(((c.toNat:Int) != 10)&&decide (n4<=8192))=true:=by subst hD;exact hb
  rw[QE,bne_iff_ne,QJ]at hb;obtain⟨e0,es⟩:=ar (hq (λh=>hb.1 (by rw[h];rfl)) (by have:=R4.n;omega));obtain⟨p3,l3,wZ,dr,dv,jU,pW,g3,pX,qG,pT,rfl,V3,N3⟩:=nS e0;have V2:Eu s' ph lf tl tf dl df n4 f4 fo sz:=by rw[es];exact⟨V.gU.trans hp,V.iS,V.tr,V.da,R4,by rw[QA (by show ¬(3:Int)=0;decide)];exact mI,by rw[QA (by show ¬(3:Int)=0;decide)];exact bB⟩
  have gC:jU=false:=by have:=N3.en;rw[QA (by omega),es]at this;rw[this];show T.isEmpty=false;rw[hT];simp
  have gT:g3=g+1:=by have:=N3.eg;rw[QA (by omega),es,QA (by show ¬(3:Int)=4;decide)]at this;exact this
  have GC:tn=wZ:=by have:=N3.et;rw[es,QA (by show ¬(3:Int)=4;decide)]at this;exact this.symm
  subst hD;exact Jr V2 V3 (by exact e0.symm) ⟨rfl,rfl⟩ ⟨rfl,rfl⟩ ⟨by exact GC,rfl,rfl⟩ ⟨rfl,rfl,rfl,rfl,rfl⟩ ⟨by rw[gC];exact ZM _,rfl,rfl,rfl,rfl⟩ ⟨by exact EG.h.trans gT.symm,by exact EG.h.trans gT.symm⟩ ⟨rfl,rfl⟩ ⟨rfl,rfl⟩
 clear hb hq;have HT2:eU T.length 1000000:=⟨by have:=HT.h;have:=HL.h;omega⟩;refine⟨_,_,_,_,_,_,_,f4,rfl,rfl,rfl,rfl,T,_,_,f4,rfl,rfl,by subst hD;exact R4,HT2.h,λl f5 n5 b5 k5 e5 xH G5=>?_⟩;rw[<-SQ]at xH;simp only[Prod.mk.injEq]at xH;obtain⟨rfl,rfl,rfl⟩:=xH;clear SQ
 by_cases jN:e5=10
 .refine .inl ⟨vo (by have:=G5.nl;rw[TH jN]at this;exact this),?_⟩
  cbv;refine br hD (λhb=>?_) (λhb=>?_)<;>cbv
  .obtain⟨e0,es⟩:=ar jN
   obtain⟨p3,l3,wZ,dr,dv,jU,pW,g3,pX,qG,pT,rfl,V3,N3⟩:=nS e0;have V2:Eu s' ph lf tl tf dl df n4 f4 fo sz:=by rw[es];exact⟨V.gU.trans hp,V.iS,V.tr,V.da,R4,by rw[QA (by show ¬(3:Int)=0;decide)];exact mI,by rw[QA (by show ¬(3:Int)=0;decide)];exact bB⟩
   have gC:jU=false:=by have:=N3.en;rw[QA (by omega),es]at this;rw[this];show T.isEmpty=false;rw[hT];simp
   have gT:g3=g+1:=by have:=N3.eg;rw[QA (by omega),es,QA (by show ¬(3:Int)=4;decide)]at this;exact this
   have GC:tn=wZ:=by have:=N3.et;rw[es,QA (by show ¬(3:Int)=4;decide)]at this;exact this.symm
   subst hD;exact Jr V2 V3 (by exact e0.symm) ⟨rfl,rfl⟩ ⟨rfl,rfl⟩ ⟨by exact GC,rfl,rfl⟩ ⟨rfl,rfl,rfl,rfl,rfl⟩ ⟨by rw[gC];exact ZM _,rfl,rfl,rfl,rfl⟩ ⟨by exact EG.h.trans gT.symm,by exact EG.h.trans gT.symm⟩ ⟨rfl,rfl⟩ ⟨rfl,rfl⟩
  .exfalso
   have hb:(e5==10)=false:=by subst hD;exact hb
   rw[jN]at hb;cases hb
 refine .inr ⟨rfl,λg6 IB=>?_⟩;cbv;have EG6:oH g6 (g+2):=⟨by
  have:=EG.h;have h6:g6=g4+1:=by subst hD;exact IB.h
  omega⟩
 clear IB ar;rw[QA jN]at he cB;refine br hD (λhb=>?_) (λhb=>?_)<;>cbv
 .exfalso
  have hb:(e5==10)=true:=by subst hD;exact hb
  exact jN (eq_of_beq hb)
 clear hb;refine br hD (λhb=>?_) (λhb=>?_)<;>cbv
 .have hb:(e5 != 0)=true:=by subst hD;exact hb
  rw[bne_iff_ne]at hb;rw[QB hb]at he;rw[kO (by rw[he];exact hb)];subst hD;exact Dy he.symm
 have h0:e5=0:=by
  have hb:(e5 != 0)=false:=by subst hD;exact hb
  simpa using hb
 rw[QA (by simpa using h0)]at he cB;clear hb;refine⟨l,_,_,f5,rfl,rfl,by subst hD;exact G5.row,tZ,λr hr=>?_⟩;cbv;rw[<-hr]at he cB;clear hr;refine br hD (λhb=>?_) (λhb=>?_)<;>cbv
 .have hb:r=true:=by subst hD;exact hb
  rw[QB hb]at he;rw[kO (by rw[he];show ¬(6:Int)=0;decide)];subst hD;exact Dy he.symm
 have hrf:¬r=true:=by
  have hb:r=false:=by subst hD;exact hb
  rw[hb];decide
 rw[QA hrf]at he cB;clear hb hrf;refine⟨l,_,_,f5,rfl,rfl,by subst hD;exact G5.row,λr2 cO=>?_⟩;cbv;rw[<-cO]at he cB;clear cO;refine br hD (λhb=>?_) (λhb=>?_)<;>cbv
 .have hb:(r2 != 0)=true:=by subst hD;exact hb
  rw[bne_iff_ne]at hb;rw[QB hb]at he;rw[kO (by rw[he];exact hb)];subst hD;exact Dy he.symm
 have h2:r2=0:=by
  have hb:(r2 != 0)=false:=by subst hD;exact hb
  simpa using hb
 rw[QA (by simpa using h2)]at he cB;clear hb;intro g7 hg7;cbv;have EG7:g7=g+3:=by
  have:=EG6.h;have h6:g7=g6+1:=by subst hD;exact hg7.h
  omega
 clear hg7;obtain⟨p3,l3,wZ,dr,dv,jU,pW,g3,pX,qG,pT,rfl,V3,N3⟩:=nS he;have V2:Eu s' 4 lf n5 f5 dl df 0 (λ_=>[]) fo sz:=by rw[cB];exact⟨rfl,V.iS,G5.row,V.da,⟨rfl,λi hi=>by cases hi⟩,by rw[QA (by show ¬(4:Int)=0;decide)];exact mI,by rw[QA (by show ¬(4:Int)=0;decide)];exact bB⟩
 have gC:jU=true:=by have:=N3.en;rw[QA (by omega),cB]at this;rw[this];rfl
 have gT:g3=g+3:=by have:=N3.eg;rw[QA (by omega),cB,QB (by rfl)]at this;exact this
 have GC:b5=wZ:=by have:=N3.et;rw[cB,QB (by rfl)]at this;rw[this];exact G5.nl
 subst hD;exact Jr V2 V3 (by exact he.symm) ⟨rfl,rfl⟩ ⟨rfl,rfl⟩ ⟨by exact GC,rfl,rfl⟩ ⟨rfl,rfl,rfl,rfl,rfl⟩ ⟨by rw[gC];rfl,rfl,rfl,rfl,rfl⟩ ⟨by exact EG7.trans gT.symm,by exact EG7.trans gT.symm⟩ ⟨rfl,rfl⟩ ⟨rfl,rfl⟩
set_option maxHeartbeats 3000000
def vI:aB:=λ_ xs ls K=>∃(s:Ch) (ph lf:Int) (l0 d0:List UInt8) (tn:Bool) (tl:Int) (tf:Nat->List SV) (db:Bool) (dl:Int) (gr:Bool) (df:Nat->List SV) (nn:Bool) (nl g:Int) (nf:Nat->List SV) (fo sz:Int),
 xs=[.ptr 0 0]/\ls=[.aG 220 (po ph l0 d0 lf tn tl tf db dl nn nl g fo sz),.own 5 (.a dl) 1 gr df,.vec 5 (.a nl) (.a g) 1 nf]/\Eu s ph lf tl tf dl df nl nf fo sz/\
 K (.agg [.int .i64 (.a ph),.str s.line,.str s.data,.int .i64 (.a lf),.sl (.a tn) (.a tl) 2 tf]) [.gone,.gone,.gone]
theorem mr{a b c:Hl}(h:aO v v'):Fin v v' [a,b,c] [.gone,.gone,.gone]:=by
 refine⟨h,λh E w hk=>?_,QH _⟩
 match h with
 |0=>trivial
 |1=>trivial
 |2=>trivial
 |h+3=>exact hk
theorem Aka:Ap Tryz.prog gl 190 vI:=by
 refine Bq (gh:=[]) mixed Ee Ae Tryz.func190 (by kernel_rfl) (by kernel_rfl) ?_;intro xs ls K h;unfold vI at h;obtain⟨s,ph,lf,l0,d0,tn,tl,tf,db,dl,gr,df,nn,nl,g,nf,fo,sz,rfl,rfl,V,h⟩:=h;refine⟨_,_,h,λD hD=>?_⟩;clear h;cbv;refine⟨⟨rfl⟩,⟨rfl⟩,by subst hD;exact V.li.byte,λr hr=>?_⟩;cbv;have e1:r=s.line:=V.li.str (by subst hD;exact hr);clear hr;refine⟨⟨rfl⟩,by subst hD;exact V.da.byte,λr2 cO=>?_⟩;cbv;have e2:r2=s.data:=V.da.str (by subst hD;exact cO);clear cO;subst hD e1 e2;exact mr (aO.refl _)
theorem r8(V:Eu s' p l tl tf dl df nl nf fo sz)(V':Eu s' p' l' gV gR xN nj dJ jI qU cD){j:Nat}
  {ph:ST}   
  (he:aO v v') (h1:ph.den=p/\eV.den=p') (h2:lf.den=l/\gX.den=l') (h3:tn.den=pR.den/\fx.den=tl/\pS.den=gV) (h4:db.den=dd.den/\zh.den=dl/\uO.den=xN/\zg.den=dl/\uN.den=xN) (h5:nn.den=kT.den/\vr.den=nl/\tM.den=dJ/\vq.den=nl/\tL.den=dJ)
  (h6:gt.den=yp.den/\gu.den=yo.den) (h7:yx.den=fo/\uM.den=qU) (h8:um.den=sz/\tI.den=cD):
  Fin v v' [.aG 220 [.int .i64 ph,.str l0,.str d0,.int .i64 lf,.sl tn fx 2 tf,.bV db zh i,.cP nn vr gt j,.int .i64 yx,.int .i64 um],.vec 5 vq gu 1 nf,.own 5 zg 1 gr df]
   [.aG 220 [.int .i64 eV,.str l0,.str d0,.int .i64 gX,.sl pR pS 2 gR,.bV dd uO i,.cP kT tM yp j,.int .i64 uM,.int .i64 tI],.vec 5 tL yo 1 jI,.own 5 uN 1 gr nj]:=by
 have d1:=V.da.n;have d2:=V'.da.n;have n1:=V.li.n;have n2:=V'.li.n;refine⟨he,Cn (cI.cons (Ao (.cons (Ai (by rw[h1.1,h1.2,V.gU,V'.gU])) (.cons (Cj _) (.cons (Cj _) (.cons (Ai (by rw[h2.1,h2.2,V.iS,V'.iS])) (.cons (E8 V.tr V'.tr h3.1 h3.2.1 h3.2.2) (.cons (Xl h4.1 (by rw[h4.2.1,h4.2.2.1,d1,d2])) (.cons (OL h5.1 (by rw[h5.2.1,h5.2.2.1,n1,n2]) h6.1) (.cons (Ai (by rw[h7.1,h7.2,V.sd,V'.sd])) (.cons (Ai (by rw[h8.1,h8.2,V.nc,V'.nc])) .nil))))))))))
  (cI.cons (Ih (by rw[h5.2.2.2.1,h5.2.2.2.2,n1,n2]) h6.2 λi hi=>?_) (cI.cons (Y5 (by rw[h4.2.2.2.1,h4.2.2.2.2,d1,d2]) λi hi=>?_) λ_ _ _ _ h=>h))),QH _⟩
 .rw[h5.2.2.2.1]at hi
  rw[V.li.f i (by omega),V'.li.f i (by omega)]
 .rw[h4.2.2.2.1]at hi
  rw[V.da.f i (by omega),V'.da.f i (by omega)]
def BJ(s:Ch):Bool:=if s.phase=0 then s.line.isEmpty else false
def gB(s:Ch)(g:Int):Int:=if s.phase=0 then g+1+(s.line.length:Int) else g+2
def wC:aB:=λ_ xs ls K=>∃(s:Ch) (ln dt:List UInt8) (ph lf:Int) (tn:Bool) (tl:Int) (tf:Nat->List SV) (b1:Bool) (n1:Int) (f1:Nat->List SV) (b2:Bool) (n2 g:Int) (f2:Nat->List SV) (fo sz:Int),
 xs=[.ptr 0 0]/\ls=[.aG 220 [.int .i64 (.a ph),.str ln,.str dt,.int .i64 (.a lf),.sl (.a tn) (.a tl) 2 tf,.sl (.a b1) (.a n1) 1 f1,.cP (.a b2) (.a n2) (.a g) 1,.int .i64 (.a fo),.int .i64 (.a sz)],.vec 5 (.a n2) (.a g) 1 f2]/\
 ln=s.line/\dt=s.data/\ph=s.phase/\lf=s.left/\A5 tf tl s.aE/\Iz s/\s.line.length<=1000000/\fo=0/\sz=0/\
 ∀ph dl df nn nl g' nf fo sz,Eu s ph lf tl tf dl df nl nf fo sz->nn=BJ s->g'=gB s g->K (.bool (.a true)) [.aG 220 [.int .i64 (.a ph),.str ln,.str dt,.int .i64 (.a lf),.sl (.a tn) (.a tl) 2 tf,.bV (.a false) (.a dl) 2,.cP (.a nn) (.a nl) (.a g') 1,.int .i64 (.a fo),.int .i64 (.a sz)],.vec 5 (.a nl) (.a g') 1 nf,.own 5 (.a dl) 1 false df]
def Fs(s:Ch)(i:Nat):Ch:=⟨0,s.line.take i,s.data,s.left,s.aE⟩
theorem Ait(hO:Iz s)(hp:s.phase=0)(i:Nat):Iz (Fs s i):=by
 have hl:s.left=0:=by
  rcases Decidable.em (s.left=0) with e|e
  .exact e
  .have:=hO.left.2 e;omega
 exact⟨hO.data,by simp[Fs,hl],.inr (hO.oV.resolve_left (by omega)),.inl rfl,λ_=>Ab3 (hO.p0 hp) i,λg=>by simp[Fs]at g,λg=>by simp[Fs]at g,λg=>by simp[Fs]at g,λg=>by simp[Fs]at g⟩
theorem Ab5(hO:Iz s)(hp:s.phase=0)(hi:i<s.line.length):cJ (Fs s i) (s.line.getD i 0)=(Fs s (i+1),0):=by
 have hm:=hO.p0 hp i hi;have hn:¬((s.line.getD i 0)=10/\Cz (Fs s i).line=true):=by
  rintro⟨_,h2⟩;have h2:Cz (s.line.take i)=true:=h2;unfold C8 at hm;rw[QB h2]at hm;cases hm
 rw[Ada rfl hn];have e:C8 (Fs s i).line (s.line.getD i 0)=0:=hm;rw[e,QA (by simp)];have e2:s.line.take (i+1)=s.line.take i++[s.line.getD i 0]:=by
  rw[UK,QC hi,QD,QC hi];rfl
 show ((⟨0,s.line.take i++[s.line.getD i 0],s.data,s.left,s.aE⟩:Ch),(0:Int))=_;rw[<-e2];rfl
structure BgJ(s:Ch)(i:Nat)(I:Int)(m:Nat)(ph lf:Int)(tl:Int)(tf:Nat->List SV)(dl:Int)(df:Nat->List SV)(nn:Bool)(nl g G:Int)(nf:Nat->List SV)(fo sz:Int):Prop where
 at_:AtR s.line i I m
 rd:Eu (Fs s i) ph lf tl tf dl df nl nf fo sz
 en:nn=(s.line.take i).isEmpty
 eg:G=g+1+(i:Int)
def bgJ(s:Ch)(ln dt:List UInt8)(tn:Bool)(g N:Int)(m:Nat)(vs:List (Option SV))(hp:List Hl):Prop :=
 ∃(i:Nat) (I ph lf tl:Int) (tf:Nat->List SV) (dl:Int) (df:Nat->List SV) (db nn:Bool) (nl G:Int) (nf:Nat->List SV) (fo sz:Int),vs=[some (.ptr 0 0),some (.str ln),some (.int .i64 (.a N)),some (.int .i64 (.a I))]/\
  hp=[.aG 220 [.int .i64 (.a ph),.str ln,.str dt,.int .i64 (.a lf),.sl (.a tn) (.a tl) 2 tf,.bV (.a db) (.a dl) 2,.cP (.a nn) (.a nl) (.a G) 1,.int .i64 (.a fo),.int .i64 (.a sz)],.vec 5 (.a nl) (.a G) 1 nf,.own 5 (.a dl) 1 false df]/\db=false/\BgJ s i I m ph lf tl tf dl df nn nl g G nf fo sz
theorem Am4:Ap Tryz.prog gl 238 wC:=by
 refine Bq (gh:=[(999983,[]),(2,[.oI 0 6 1]),(4,[.qX 0 6 1])]) mixed Ee (Al Xm Ae) Tryz.func238 (by kernel_rfl) (by kernel_rfl) ?_;intro xs ls K h;unfold wC at h;obtain⟨s,ln0,dt0,ph,lf,tn,tl,tf,b1,n1,f1,b2,n2,g,f2,fo,sz,rfl,rfl,rfl,rfl,fH,lN,hR,hO,jD,mI,bB,h⟩:=h;have V0:Eu s s.phase lf tl tf s.data.length (aU s.data) s.line.length (aU s.line) (if s.phase=0 then Be s.line else 0) (if s.phase=0 then ((Ba s.line).2:Int) else 0):=⟨rfl,lN,hR,⟨rfl,λi _=>rfl⟩,⟨rfl,λi _=>rfl⟩,rfl,rfl⟩;have h:=h _ _ _ _ _ _ _ _ _ V0 rfl rfl;obtain⟨L,hL,hK⟩:∃L,L=_/\K (.bool (.a true)) L:=⟨_,rfl,h⟩;clear h;have HL:eU s.line.length 1000000:=⟨jD⟩;have HD:eU s.data.length 65536:=⟨hO.data⟩;obtain⟨ln,gD⟩:∃ln,ln=s.line:=⟨_,rfl⟩;obtain⟨dt,lQ⟩:∃dt,dt=s.data:=⟨_,rfl⟩;rw[<-gD,<-lQ];refine⟨_,_,hK,λD hD=>?_⟩;clear hK jD;cbv;refine⟨⟨by rw[lQ];have:=HD.h;omega⟩,λf3 eN=>?_⟩;cbv;have R3:Bl f3 s.data.length s.data:=⟨rfl,λi _=>by rw[eN.h,lQ];rfl⟩;clear eN;intro g3 gT;cbv;have EG3:oH g3 (g+1):=⟨by subst hD;exact gT.h⟩;clear gT;refine br hD (λhb=>?_) (λhb=>?_)<;>cbv
 .have hp:s.phase≠0:=by
   have hb:(ph != 0)=true:=by subst hD;exact hb
   rw[fH,bne_iff_ne]at hb;exact hb
  refine⟨⟨by rw[gD];have:=HL.h;omega⟩,λf4 hf4=>?_⟩;cbv;have R4:Bl f4 s.line.length s.line:=⟨rfl,λi _=>by rw[hf4.h,gD];rfl⟩;clear hf4;refine⟨⟨rfl⟩,λg4 gS=>?_⟩;cbv;have EG4:g4=g+2:=by
   have:=EG3.h;have h6:g4=g3+1:=by subst hD;exact gS.h
   omega
  clear gS;have V2:Eu s ph lf tl tf s.data.length f3 s.line.length f4 fo sz:=⟨fH,lN,hR,R3,R4,by rw[QA hp];exact mI,by rw[QA hp];exact bB⟩;have fU:gB s g=g+2:=by unfold gB;rw[QA hp]
  have kW:BJ s=false:=by unfold BJ;rw[QA hp]
  rw[hL,fU,kW];subst hD gD lQ;exact r8 V2 V0 (aO.refl _) ⟨rfl,rfl⟩ ⟨rfl,rfl⟩ ⟨rfl,rfl,rfl⟩ ⟨rfl,rfl,rfl,rfl,rfl⟩ ⟨rfl,rfl,rfl,rfl,rfl⟩ ⟨by exact EG4,by exact EG4⟩ ⟨rfl,rfl⟩ ⟨rfl,rfl⟩
 have hp:s.phase=0:=by
  have hb:(ph != 0)=false:=by subst hD;exact hb
  rw[fH]at hb;simpa using hb
 clear hb;obtain⟨N,hN⟩:∃N:Int,N=ln.length:=⟨_,rfl⟩;obtain⟨J,hJ⟩:∃J,J=bgJ s ln dt tn g N:=⟨_,rfl⟩;have VN:VI N s.line.length:=⟨by rw[hN,gD]⟩;refine⟨[0,3,34,35],J,⟨rfl,s.line.length,?_⟩,?_⟩
 .rw[hJ]
  subst hD hN gD lQ;refine⟨0,_,_,_,_,_,_,_,_,_,_,_,_,_,_,rfl,rfl,rfl,⟨AtR.zero (by have:=HL.h;omega),⟨?_,lN,hR,R3,⟨rfl,λi hi=>by cases hi⟩,?_,?_⟩,rfl,by have:=EG3.h;show g3=_;omega⟩⟩
  .show ph=0;rw[fH,hp]
  .show fo=if (0:Int)=0 then Be [] else 0;rw[mI];rfl
  .show sz=if (0:Int)=0 then ((Ba []).2:Int) else 0;rw[bB];rfl
 have ENl:oH N (ln.length:Int):=⟨hN⟩;clear R3 EG3 hN;intro m vs pE hv;rw[hJ]at hv;obtain⟨i,I,eV,gX,gV,gR,dl,df,db,nn,nl,G,nf,qU,cD,rfl,rfl,nQ,B⟩:=hv;cbv;refine br hD (λhb=>?_) (λhb=>?_)<;>cbv
 .have hb:decide (I<N)=true:=by subst hD;exact hb
  have aC:=B.at_.lt VN.h (QT hb);clear hb;refine⟨⟨by subst hD;show 0<=I;have:=B.at_.I;omega,by subst hD;show I<ln.length;rw[gD];have:=B.at_.I;omega⟩,λb hc=>?_⟩;cbv;have WB:=(Afk hD B.at_.I hc).of;rw[gD]at WB;clear hc;obtain⟨c,qD⟩:∃c:UInt8,c=s.line.getD i 0:=⟨_,rfl⟩;rw[<-qD]at WB;have fE:=Ab5 hO hp aC;rw[<-qD]at fE;refine⟨Fs s i,c,D.i (.a b),D.i (.a eV),D.i (.a gX),ln,dt,D.b (.a tn),D.i (.a gV),gR,D.b (.a db),D.i (.a dl),false,df,D.b (.a nn),D.i (.a nl),D.i (.a G),nf,D.i (.a qU),D.i (.a cD),rfl,rfl,by subst hD;exact WB.symm,by subst hD;exact B.rd,rfl,by subst hD;exact nQ,Ait hO hp i,λe he=>⟨λaY=>?_,λh0 lK dz uX du dw db2 sg sh px rS g2 py rv fy V2 N2=>?_⟩⟩
  .cbv
   rw[fE]at he;exact absurd he aY
  cbv;rw[fE]at V2 N2;have mK:e=0:=h0;have pE:lK=0:=V2.gU;refine br hD (λhb=>?_) (λhb=>?_)<;>cbv
  .exfalso
   have hb:((e != 0)||(lK != 0))=true:=by subst hD;exact hb
   rw[mK,pE]at hb;cases hb
  have cA:=(AtR.step hD B.at_ aC);refine⟨_,cA.1,?_⟩;rw[hJ];subst hD;refine⟨i+1,_,lK,dz,du,dw,sg,sh,db2,px,rS,g2,py,rv,fy,rfl,?_,N2.ed,⟨cA.2,V2,?_,?_⟩⟩
  .have ht:uX=tn:=by have:=N2.et;rw[QA (by show ¬(0:Int)=4;decide)]at this;exact this
   rw[ht];rfl
  .have:=N2.en;rw[QA (by show ¬(0:Int)=1;decide)]at this;exact this
  .have h1:=N2.eg
   rw[QA (by show ¬(0:Int)=1;decide),QA (by show ¬(0:Int)=4;decide)]at h1;have h2:=B.eg;have h3:g2=G+1:=h1
   push_cast
   omega
 .have hb:decide (I<N)=false:=by subst hD;exact hb
  have hi:=B.at_.eq VN.h (QW hb);have lu:Fs s i=s:=by
   unfold Fs;rw[hi,YQ,<-hp]
  have V2:=B.rd;rw[lu]at V2;have fU:gB s g=g+1+(s.line.length:Int):=by unfold gB;rw[QB hp]
  have kW:BJ s=s.line.isEmpty:=by unfold BJ;rw[QB hp]
  have gO:=B.en;rw[hi,YQ]at gO;have VX:=B.eg;rw[hi]at VX;rw[hL,fU,kW];subst hD gD lQ;exact r8 V2 V0 (aO.refl _) ⟨rfl,rfl⟩ ⟨rfl,rfl⟩ ⟨rfl,rfl,rfl⟩ ⟨by exact nQ,rfl,rfl,rfl,rfl⟩ ⟨by exact gO,rfl,rfl,rfl,rfl⟩ ⟨by exact VX,by exact VX⟩ ⟨rfl,rfl⟩ ⟨rfl,rfl⟩
set_option maxHeartbeats 6000000
theorem MC(V:Eu s' p l tl tf dl df nl nf fo sz)(V':Eu s' p' l' gV gR xN nj dJ jI qU cD)
  {ph:ST}   
  (he:aO v v') (h1:ph.den=p/\eV.den=p') (h2:lf.den=l/\gX.den=l') (h3:tn.den=pR.den/\fx.den=tl/\pS.den=gV) (h4:db.den=dd.den/\zh.den=dl/\uO.den=xN/\zg.den=dl/\uN.den=xN) (h5:nn.den=kT.den/\vr.den=nl/\tM.den=dJ/\vq.den=nl/\tL.den=dJ)
  (h6:gt.den=yp.den/\gu.den=yo.den) (h7:yx.den=fo/\uM.den=qU) (h8:um.den=sz/\tI.den=cD):
  Fin v v' [.aG 220 [.int .i64 ph,.str l0,.str d0,.int .i64 lf,.sl tn fx 2 tf,.bV db zh 1,.cP nn vr gt 2,.int .i64 yx,.int .i64 um],.own 5 zg 1 gr df,.vec 5 vq gu 1 nf]
   [.aG 220 [.int .i64 eV,.str l0,.str d0,.int .i64 gX,.sl pR pS 2 gR,.bV dd uO 1,.cP kT tM yp 2,.int .i64 uM,.int .i64 tI],.own 5 uN 1 gr nj,.vec 5 tL yo 1 jI]:=by
 have:=Jr V V' (t:=.l 0) (t':=.l 0) (l0:=l0) (d0:=d0) (gr:=gr) rfl h1 h2 h3 h4 h5 h6 h7 h8;exact⟨he,this.h,this.len⟩
def yS:aB:=λ_ xs ls K=>∃(s:Ch) (ln dt:List UInt8) (ph lf:Int) (tn:Bool) (tl:Int) (tf:Nat->List SV),
 xs=[.agg [.int .i64 (.a ph),.str ln,.str dt,.int .i64 (.a lf),.sl (.a tn) (.a tl) 2 tf]]/\ls=[]/\ln=s.line/\dt=s.data/\ph=s.phase/\lf=s.left/\A5 tf tl s.aE/\Iz s/\(s.phase=4->In s.aE)/\
 ∀ph dl df nl nf fo sz nn g,Eu s ph lf tl tf dl df nl nf fo sz->nn=BJ s->g=gB s 0->K (.aJ [.ptr 0 0,.int .i64 (.a 0)]) [.aG 220 (po ph ln dt lf tn tl tf false dl nn nl g fo sz),.own 5 (.a dl) 1 false df,.vec 5 (.a nl) (.a g) 1 nf]
theorem Yb(hO:Iz s):s.line.length<=1000000:=by
 rcases hO.ph with h|h|h|h|h
 .have:=Uk (hO.p0 h);omega
 .rw[(hO.p1 h).1];simp
 .rcases (hO.p2 h).1 with e|e<;>rw[e]<;>simp
 .have:=(Hu (hO.p3 h)).1;omega
 .rw[(hO.p4 h).1];simp
theorem Agi:Ap Tryz.prog gl 185 yS:=by
 refine Bq (gh:=[(1,[.qY 4 6 5]),(2000015,[.xO 5])]) mixed Ee (Ab Qg (Ab H0 (Ab Am5 (Al Am4 Ae)))) Tryz.func185 (by kernel_rfl) (by kernel_rfl) ?_;intro xs ls K h;unfold yS at h;obtain⟨s,ln0,dt0,ph,lf,tn,tl,tf,rfl,rfl,rfl,rfl,fH,lN,hR,hO,tZ,h⟩:=h;have V0:Eu s s.phase lf tl tf s.data.length (aU s.data) s.line.length (aU s.line) (if s.phase=0 then Be s.line else 0) (if s.phase=0 then ((Ba s.line).2:Int) else 0):=⟨rfl,lN,hR,⟨rfl,λi _=>rfl⟩,⟨rfl,λi _=>rfl⟩,rfl,rfl⟩;have h:=h _ _ _ _ _ _ _ _ _ V0 rfl rfl;obtain⟨L,hL,hK⟩:∃L,L=_/\K (.aJ [.ptr 0 0,.int .i64 (.a 0)]) L:=⟨_,rfl,h⟩;clear h;have jD:=Yb hO;have HL:eU s.line.length 1000000:=⟨jD⟩;have HD:eU s.data.length 65536:=⟨hO.data⟩;obtain⟨ln,gD⟩:∃ln,ln=s.line:=⟨_,rfl⟩;obtain⟨dt,lQ⟩:∃dt,dt=s.data:=⟨_,rfl⟩;rw[<-gD,<-lQ]
 -- fm is known of qZ state
 have dO:(decide (dt.length<=65536)&&((ph==1)==(lf != 0)))=true:=by
  rw[lQ,QE,QJ,QS];refine⟨hO.data,?_⟩;have:=hO.left;rw[fH,lN,XX,QS,bne_iff_ne];exact this
 have an:ph=4\/tl=0:=by
  rcases hO.oV with e|e
  .exact .inl (by rw[fH,e])
  .right;rw[hR.n,e];rfl
 obtain⟨N,hN⟩:∃N:Int,N=(dt.length:Int):=⟨_,rfl⟩;have fU:((decide ((dt.length:Int)<=65536)&&((ph==1)==(lf != 0)))&&((ph==4)||(tl==0)))=true:=by
  rw[show decide ((dt.length:Int)<=65536)=decide (dt.length<=65536) by rw[YV];omega,dO,UG,XR,QS,QS];exact an
 refine⟨_,_,hK,λD hD=>?_⟩;clear hK jD dO an;cbv;refine br hD (λhb=>?_) (λhb=>?_)<;>cbv
 ·
  refine⟨true,⟨by subst hD;exact fU⟩,?_⟩;cbv;refine⟨s,ln,dt,D.i (.a ph),D.i (.a lf),D.b (.a tn),D.i (.a tl),tf,_,_,_,_,_,_,_,_,_,rfl,rfl,gD,lQ,by subst hD;exact fH,by subst hD;exact lN,by subst hD;exact hR,hO,HL.h,by subst hD;rfl,by subst hD;rfl,λlK sg sh px rS g2 py rv fy V2 kW kD=>?_⟩;cbv;refine br hD (λhb=>?_) (λhb=>?_)<;>cbv
  .exfalso
   have hb:(!true)=true:=by subst hD;exact hb
   cases hb
  .rw[hL]
   subst hD gD lQ;exact MC V2 V0 (.aJ (.cons (aO.refl _) (.cons (Ai rfl) .nil))) ⟨rfl,rfl⟩ ⟨rfl,rfl⟩ ⟨rfl,rfl,rfl⟩ ⟨rfl,rfl,rfl,rfl,rfl⟩ ⟨by exact kW,rfl,rfl,rfl,rfl⟩ ⟨by exact kD,by exact kD⟩ ⟨rfl,rfl⟩ ⟨rfl,rfl⟩
 have wI:ph≠0:=by
  have hb:(ph==0)=false:=by subst hD;exact hb
  simpa using hb
 clear hb;refine br hD (λhb=>?_) (λhb=>?_)<;>cbv
 .have hp:ph=1:=by
   have hb:(ph==1)=true:=by subst hD;exact hb
   exact eq_of_beq hb
  clear hb;have hs:s.phase=1:=by rw[<-fH,hp]
  obtain⟨q1,q2,q3⟩:=hO.p1 hs;have hw:IntKind.i64.wrap (65536-(dt.length:Int))=65536-(dt.length:Int):=wrap64 (by have:=HD.h;rw[<-lQ]at this;omega) (by omega);have uD:(((((decide ((dt.length:Int)<=65536)&&((ph==1)==(lf != 0)))&&((ph==4)||(tl==0)))&&(ln==[]))&&decide (1<=lf))&&decide (lf<=IntKind.i64.wrap (65536-(dt.length:Int))))=true:=by
   rw[fU,hw,gD,q1,lQ,lN,ZN q2,ZN q3];rfl
  refine⟨true,⟨by subst hD;exact uD⟩,?_⟩;cbv;refine⟨s,ln,dt,D.i (.a ph),D.i (.a lf),D.b (.a tn),D.i (.a tl),tf,_,_,_,_,_,_,_,_,_,rfl,rfl,gD,lQ,by subst hD;exact fH,by subst hD;exact lN,by subst hD;exact hR,hO,HL.h,by subst hD;rfl,by subst hD;rfl,λlK sg sh px rS g2 py rv fy V2 kW kD=>?_⟩;cbv;refine br hD (λhb=>?_) (λhb=>?_)<;>cbv
  .exfalso
   have hb:(!true)=true:=by subst hD;exact hb
   cases hb
  .rw[hL]
   subst hD gD lQ;exact MC V2 V0 (.aJ (.cons (aO.refl _) (.cons (Ai rfl) .nil))) ⟨rfl,rfl⟩ ⟨rfl,rfl⟩ ⟨rfl,rfl,rfl⟩ ⟨rfl,rfl,rfl,rfl,rfl⟩ ⟨by exact kW,rfl,rfl,rfl,rfl⟩ ⟨by exact kD,by exact kD⟩ ⟨rfl,rfl⟩ ⟨rfl,rfl⟩
 have pF:ph≠1:=by
  have hb:(ph==1)=false:=by subst hD;exact hb
  simpa using hb
 clear hb;refine br hD (λhb=>?_) (λhb=>?_)<;>cbv
 .have hp:ph=2:=by
   have hb:(ph==2)=true:=by subst hD;exact hb
   exact eq_of_beq hb
  clear hb;have hs:s.phase=2:=by rw[<-fH,hp]
  obtain⟨q1,q2⟩:=hO.p2 hs;have uD:((((decide ((dt.length:Int)<=65536)&&((ph==1)==(lf != 0)))&&((ph==4)||(tl==0)))&&((ln==[])||(ln==[13])))&&!(dt==[]))=true:=by
   have e1:((ln==[])||(ln==[13]))=true:=by rw[gD];rcases q1 with e|e<;>rw[e]<;>rfl
   have e2:(dt==[])=false:=by rw[lQ];simpa using q2
   rw[fU,e1,e2];rfl
  refine⟨true,⟨by subst hD;exact uD⟩,?_⟩;cbv;refine⟨s,ln,dt,D.i (.a ph),D.i (.a lf),D.b (.a tn),D.i (.a tl),tf,_,_,_,_,_,_,_,_,_,rfl,rfl,gD,lQ,by subst hD;exact fH,by subst hD;exact lN,by subst hD;exact hR,hO,HL.h,by subst hD;rfl,by subst hD;rfl,λlK sg sh px rS g2 py rv fy V2 kW kD=>?_⟩;cbv;refine br hD (λhb=>?_) (λhb=>?_)<;>cbv
  .exfalso
   have hb:(!true)=true:=by subst hD;exact hb
   cases hb
  .rw[hL]
   subst hD gD lQ;exact MC V2 V0 (.aJ (.cons (aO.refl _) (.cons (Ai rfl) .nil))) ⟨rfl,rfl⟩ ⟨rfl,rfl⟩ ⟨rfl,rfl,rfl⟩ ⟨rfl,rfl,rfl,rfl,rfl⟩ ⟨by exact kW,rfl,rfl,rfl,rfl⟩ ⟨by exact kD,by exact kD⟩ ⟨rfl,rfl⟩ ⟨rfl,rfl⟩
 have pE:ph≠2:=by
  have hb:(ph==2)=false:=by subst hD;exact hb
  simpa using hb
 clear hb;refine br hD (λhb=>?_) (λhb=>?_)<;>cbv
 .have hp:ph=3:=by
   have hb:(ph==3)=true:=by subst hD;exact hb
   exact eq_of_beq hb
  clear hb;have hs:s.phase=3:=by rw[<-fH,hp]
  have q1:=hO.p3 hs;refine⟨⟨by rw[gD];have:=HL.h;omega⟩,λf3 eN=>?_⟩;cbv;have R3:Bl f3 ln.length ln:=⟨rfl,λi _=>by rw[eN.h];rfl⟩;refine⟨ln,_,_,f3,rfl,rfl,by subst hD;exact R3,by rw[gD];exact HL.h,λl f5 n5 b5 k5 e5 xH G5=>?_⟩;cbv;have VY:e5=10:=by rw[<-gD]at q1;rw[<-xH]at q1;exact q1
  clear xH eN;have uD:(((decide ((dt.length:Int)<=65536)&&((ph==1)==(lf != 0)))&&((ph==4)||(tl==0)))&&(e5==10))=true:=by rw[fU,VY];rfl
  refine⟨true,⟨by subst hD;exact uD⟩,?_⟩;cbv;refine⟨s,ln,dt,D.i (.a ph),D.i (.a lf),D.b (.a tn),D.i (.a tl),tf,_,_,_,_,_,_,_,_,_,rfl,rfl,gD,lQ,by subst hD;exact fH,by subst hD;exact lN,by subst hD;exact hR,hO,HL.h,by subst hD;rfl,by subst hD;rfl,λlK sg sh px rS g2 py rv fy V2 kW kD=>?_⟩;cbv;refine br hD (λhb=>?_) (λhb=>?_)<;>cbv
  .exfalso
   have hb:(!true)=true:=by subst hD;exact hb
   cases hb
  .rw[hL]
   subst hD gD lQ;exact MC V2 V0 (.aJ (.cons (aO.refl _) (.cons (Ai rfl) .nil))) ⟨rfl,rfl⟩ ⟨rfl,rfl⟩ ⟨rfl,rfl,rfl⟩ ⟨rfl,rfl,rfl,rfl,rfl⟩ ⟨by exact kW,rfl,rfl,rfl,rfl⟩ ⟨by exact kD,by exact kD⟩ ⟨rfl,rfl⟩ ⟨rfl,rfl⟩
 have SY:ph≠3:=by
  have hb:(ph==3)=false:=by subst hD;exact hb
  simpa using hb
 clear hb;refine br hD (λhb=>?_) (λhb=>?_)<;>cbv
 .have hp:ph=4:=by
   have hb:(ph==4)=true:=by subst hD;exact hb
   exact eq_of_beq hb
  clear hb;have hs:s.phase=4:=by rw[<-fH,hp]
  obtain⟨q1,q2,q3⟩:=hO.p4 hs;refine⟨s.aE,_,_,tf,rfl,rfl,by subst hD;exact hR,λr hr=>?_⟩;cbv;have oM:r=0:=hr.trans q2;clear hr;refine⟨s.aE,_,_,tf,rfl,rfl,by subst hD;exact hR,tZ hs,λr2 cO=>?_⟩;cbv;have SO:r2=false:=cO.trans q3;clear cO;have uD:(((((decide ((dt.length:Int)<=65536)&&((ph==1)==(lf != 0)))&&((ph==4)||(tl==0)))&&(ln==[]))&&(r==0))&&!r2)=true:=by rw[fU,gD,q1,oM,SO];rfl
  refine⟨true,⟨by subst hD;exact uD⟩,?_⟩;cbv;refine⟨s,ln,dt,D.i (.a ph),D.i (.a lf),D.b (.a tn),D.i (.a tl),tf,_,_,_,_,_,_,_,_,_,rfl,rfl,gD,lQ,by subst hD;exact fH,by subst hD;exact lN,by subst hD;exact hR,hO,HL.h,by subst hD;rfl,by subst hD;rfl,λlK sg sh px rS g2 py rv fy V2 kW kD=>?_⟩;cbv;refine br hD (λhb=>?_) (λhb=>?_)<;>cbv
  .exfalso
   have hb:(!true)=true:=by subst hD;exact hb
   cases hb
  .rw[hL]
   subst hD gD lQ;exact MC V2 V0 (.aJ (.cons (aO.refl _) (.cons (Ai rfl) .nil))) ⟨rfl,rfl⟩ ⟨rfl,rfl⟩ ⟨rfl,rfl,rfl⟩ ⟨rfl,rfl,rfl,rfl,rfl⟩ ⟨by exact kW,rfl,rfl,rfl,rfl⟩ ⟨by exact kD,by exact kD⟩ ⟨rfl,rfl⟩ ⟨rfl,rfl⟩
 .exfalso
  have hb:(ph==4)=false:=by subst hD;exact hb
  have hp4:ph≠4:=by simpa using hb
  have:=hO.ph;omega
def jS(s s':Ch)(tn:Bool):Bool:=if s'.phase=4/\s.phase≠4 then s'.aE.isEmpty else tn
structure AQ(s:Ch)(ph lf tl:Int)(tf:Nat->List SV):Prop where
 gU:ph=s.phase
 iS:lf=s.left
 tr:A5 tf tl s.aE
def tD(ph lf:Int)(ln dt:List UInt8)(tn:Bool)(tl:Int)(tf:Nat->List SV):SV:=.agg [.int .i64 (.a ph),.str ln,.str dt,.int .i64 (.a lf),.sl (.a tn) (.a tl) 2 tf]
def rO:aB:=λ_ xs ls K=>∃(s:Ch) (b ln dt:List UInt8) (ph lf:Int) (tn:Bool) (tl:Int) (tf:Nat->List SV) (nb:Bool) (n:Int) (f:Nat->List SV),
 xs=[tD ph lf ln dt tn tl tf,.sl (.a nb) (.a n) 1 f]/\ls=[]/\ln=s.line/\dt=s.data/\AQ s ph lf tl tf/\Iz s/\(s.phase=4->In s.aE)/\Bl f n b/\b.length<=1000000/\
 ∀k,k=Bj s b->(k.2.2≠0->K (.aJ [tD ph lf ln dt tn tl tf,.int .i64 (.a 0),.int .i64 (.a k.2.2)]) [])/\
  (k.2.2=0->∀eV gX pR gV gR u,AQ k.1 eV gX gV gR->pR=jS s k.1 tn->u=(k.2.1:Int)->K (.aJ [tD eV gX k.1.line k.1.data pR gV gR,.int .i64 (.a u),.int .i64 (.a 0)]) [])
structure CfJ(s:Ch)(b:List UInt8)(k:Ch×Nat×Int)(BE:Bool)(st:Ch)(i:Nat)(I:Int)(m:Nat)(ph lf:Int)(tn:Bool)(tl:Int)(tf:Nat->List SV)(dl:Int)(df:Nat->List SV)(nl:Int)(nf:Nat->List SV)(fo sz:Int):Prop where
 at_:AtR b i I m
 rd:Eu st ph lf tl tf dl df nl nf fo sz
 ok:Iz st
 ek:k=((Bj st (b.drop i)).1,i+(Bj st (b.drop i)).2.1,(Bj st (b.drop i)).2.2)
 et:tn=jS s st BE
 e4:s.phase=4->st=s
def cfJ(s:Ch)(b ln dt:List UInt8)(ph0 lf0:Int)(BE:Bool)(tl0:Int)(tf0:Nat->List SV)(nb:Bool)(n:Int)(f:Nat->List SV)(k:Ch×Nat×Int)(m:Nat)(vs:List (Option SV))(hp:List Hl):Prop :=
 ∃(st:Ch) (i:Nat) (I ph lf:Int) (tn:Bool) (tl:Int) (tf:Nat->List SV) (db:Bool) (dl:Int) (df:Nat->List SV) (nn:Bool) (nl g:Int) (nf:Nat->List SV) (fo sz:Int),
  vs=[some (.sl (.a nb) (.a n) 1 f),some (.ptr 0 0),some (.ptr 1 0),some (.ptr 2 0),some (.ptr 5 0),some (.sl (.a nb) (.a n) 1 f),some (.int .i64 (.a n)),some (.int .i64 (.a I))]/\
  hp=[.aG 36 [.int .i64 (.a ph0),.str ln,.str dt,.int .i64 (.a lf0),.sl (.a BE) (.a tl0) 2 tf0],.aG 36 [.int .i64 (.a 0),.str [],.str [],.int .i64 (.a 0),.sl (.a true) (.a 0) 2 (λ_=>[])],
   .aG 220 [.int .i64 (.a ph),.str ln,.str dt,.int .i64 (.a lf),.sl (.a tn) (.a tl) 2 tf,.bV (.a db) (.a dl) 3,.cP (.a nn) (.a nl) (.a g) 4,.int .i64 (.a fo),.int .i64 (.a sz)],.own 5 (.a dl) 1 false df,.vec 5 (.a nl) (.a g) 1 nf,
   .aG 218 [.gI 186 [.ptr 2 0],.gI 187 [.ptr 2 0],.gI 188 [.ptr 2 0],.gI 189 [.ptr 2 0]]]/\db=false/\CfJ s b k BE st i I m ph lf tn tl tf dl df nl nf fo sz
theorem X1{ph u u' e e':ST}{ln MX dt dt':List UInt8}(h1:ph.den=eV.den)(h2:lf.den=gX.den)(h3:ln=MX/\dt=dt')(h4:aO (.sl tn fx 2 tf) (.sl pR pS 2 gR))(h5:u.den=u'.den)(h6:e.den=e'.den):
  Fin (.aJ [.agg [.int .i64 ph,.str ln,.str dt,.int .i64 lf,.sl tn fx 2 tf],.int .i64 u,.int .i64 e]) (.aJ [.agg [.int .i64 eV,.str MX,.str dt',.int .i64 gX,.sl pR pS 2 gR],.int .i64 u',.int .i64 e']) [] []:=by
 obtain⟨rfl,rfl⟩:=h3;exact C6 (.aJ (.cons (aO.agg (.cons (Ai h1) (.cons (Cj _) (.cons (Cj _) (.cons (Ai h2) (.cons h4 .nil)))))) (.cons (Ai h5) (.cons (Ai h6) .nil))))
theorem Di{b:List UInt8}(h4:s.phase≠4):Bj s (c :: b)=if (cJ s c).2≠0 then (s,0,(cJ s c).2) else ((Bj (cJ s c).1 b).1,(Bj (cJ s c).1 b).2.1+1,(Bj (cJ s c).1 b).2.2):=by
 rw[Bj,QA h4]
theorem nu(h:∃tl tf,A5 tf tl s.aE)(hO:Iz s):∃tl tf,A5 tf tl (cJ s c).1.aE:=by
 unfold cJ
 split
 .split
  .split
   .exact h
   .split<;>exact h
  .split<;>exact h
 split
 .exact h
 split
 .split
  .exact h
  .split<;>exact h
 rename_i g0 g1 g2
 split
 .exact h
 split
 .exact h
 split
 .exact h
 split
 .exact h
 .have hl:(s.line++[c]).length<=1000000+1:=by rw[QF];have:=Yb hO;simp only[QG,QU];omega
  have eF:=Jm ((s.line++[c]).length+1) 0 [] (s.line++[c]) (by
   rw[QF];have h3:s.phase=3\/s.phase=4:=by have:=hO.ph;omega
   rcases h3 with e|e
   .have:=(Hu (hO.p3 e)).1;simp only[QG,QU];omega
   .rw[(hO.p4 e).1];simp) (by simp) (λx hx=>by cases hx)
  exact⟨_,_,A5.row (by have:=eF.1;show (A7 _).1.length<=_;exact XV this (by decide)) (λi hi=>eF.2 _ (by rw[QD,QC hi];exact XL hi))⟩
theorem Qs:∀(b:List UInt8) (s:Ch),(∃tl tf,A5 tf tl s.aE)->0<=(0:Int)->Iz s->(Bj s b).2.2=0->∃tl tf,A5 tf tl (Bj s b).1.aE
 | [],s,h,_,_,_=>h
 |c :: b,s,h,h0,hO,he=>by
  by_cases h4:s.phase=4
  .rw[Bj,QB h4];exact h
  rw[Di h4]at he ⊢
  by_cases h2:(cJ s c).2=0
  .rw[QA (by simpa using h2)]at he ⊢
   exact Qs b _ (nu h hO) h0 (Qr hO h4 (by rw[<-h2])) he
  .rw[QB h2]at he
   exact absurd he h2
theorem Ajn:Ap Tryz.prog gl 137 rO:=by
 refine Bq (gh:=[]) mixed Ee (Al Agi (Al Aka (Al Xm (Al Ai2 (Al Ama (Al Y8 Ae)))))) Tryz.func137 (by kernel_rfl) (by kernel_rfl) ?_;intro xs ls K h;unfold rO at h;obtain⟨s,b,ln,dt,ph,lf,tn,tl,tf,nb,n,f,rfl,rfl,gD,lQ,V,hO,tZ,R,hb,h⟩:=h;obtain⟨k,hk⟩:∃k,k=Bj s b:=⟨_,rfl⟩;have h:=h k hk;have aI:k.2.2=0->∃gV gR,A5 gR gV k.1.aE:=λe0=>by rw[hk]at e0 ⊢;exact Qs b s ⟨_,_,V.tr⟩ (by omega) hO e0
 obtain⟨r,dB,cO,hK⟩:∃r:SV,(k.2.2≠0->r=.aJ [tD ph lf ln dt tn tl tf,.int .i64 (.a 0),.int .i64 (.a k.2.2)])/\
   (k.2.2=0->∃gV gR,r=.aJ [tD k.1.phase k.1.left k.1.line k.1.data (jS s k.1 tn) gV gR,.int .i64 (.a (k.2.1:Int)),.int .i64 (.a 0)]/\A5 gR gV k.1.aE)/\K r []:=by
  by_cases e0:k.2.2=0
  .have hT:∃gV gR,A5 gR gV k.1.aE:=aI e0
   obtain⟨gV,gR,hT⟩:=hT;refine⟨_,λh=>absurd e0 h,λ_=>⟨gV,gR,rfl,hT⟩,?_⟩;exact h.2 e0 _ _ _ gV gR _ ⟨rfl,rfl,hT⟩ rfl rfl
  .exact⟨_,λ_=>rfl,λh=>absurd h e0,h.1 e0⟩
 refine⟨_,_,hK,λD hD=>?_⟩;clear hK h;unfold tD;cbv;refine⟨s,ln,dt,D.i (.a ph),D.i (.a lf),D.b (.a tn),D.i (.a tl),tf,rfl,rfl,gD,lQ,by subst hD;exact V.gU,by subst hD;exact V.iS,by subst hD;exact V.tr,hO,tZ,λph1 dl1 df1 nl1 PW fo1 sz1 nn1 g1 V1 xU xW=>?_⟩;cbv;refine br hD (λhb=>?_) (λhb=>?_)<;>cbv
 .exfalso
  have hb:((0:Int) != 0)=true:=by subst hD;exact hb
  cases hb
 obtain⟨J,hJ⟩:∃J,J=cfJ s b ln dt ph lf tn tl tf nb n f k:=⟨_,rfl⟩;refine⟨[1,2,4,7,9,31,32,33],J,⟨rfl,b.length,?_⟩,?_⟩
 .rw[hJ]
  subst hD;refine⟨s,0,0,_,_,_,_,tf,_,_,df1,_,_,_,PW,_,_,rfl,rfl,rfl,⟨AtR.zero (by omega),V1,hO,?_,?_,λ_=>rfl⟩⟩
  .rw[hk,ZY,XE]
  .unfold jS;rw[QA (by rintro⟨a,b⟩;exact b a)];rfl
 clear V1 xU xW hb aI;intro m vs hp hv;rw[hJ]at hv;obtain⟨st,i,I,lK,dz,uX,du,dw,db,dl,df,nn,nl,g,nf,fo,sz,rfl,rfl,nQ,B⟩:=hv;cbv;refine br hD (λhb=>?_) (λhb=>?_)<;>cbv
 .have hb:decide (I<n)=true:=by subst hD;exact hb
  have aC:=B.at_.lt R.n (QT hb);clear hb;have e1:=R.f i aC;have pL:=drop_at aC;obtain⟨c,hc⟩:∃c,c=b.getD i 0:=⟨_,rfl⟩;rw[<-hc]at e1 pL;obtain⟨ci,IK⟩:∃ci:Int,ci=(c.toNat:Int):=⟨_,rfl⟩;rw[<-IK]at e1;refine⟨B.at_.fS hD R.n aC,λj hj=>?_⟩;cbv;obtain rfl:=B.at_.j hD hj;clear hj;rw[e1];cbv;refine br hD (λhb=>?_) (λhb=>?_)<;>cbv
  .have hb:(lK==4)=true:=by subst hD;exact hb
   have h4:st.phase=4:=by rw[<-B.rd.gU];exact eq_of_beq hb
   have qQ:k=(st,j,0):=by rw[B.ek,pL,Bj,QB h4];rfl
   refine⟨st,D.i (.a lK),D.i (.a dz),ln,dt,D.b (.a uX),D.i (.a du),dw,D.b (.a db),D.i (.a dl),false,df,D.b (.a nn),D.i (.a nl),D.i (.a g),nf,D.i (.a fo),D.i (.a sz),rfl,rfl,by subst hD;exact B.rd,?_⟩;cbv;obtain⟨gV,gR,rfl,hT⟩:=cO (by rw[qQ]);rw[qQ]at hT ⊢;have hT:A5 gR gV st.aE:=hT;unfold tD;subst hD;exact X1 (by exact B.rd.gU) (by exact B.rd.iS) ⟨rfl,rfl⟩ (E8 B.rd.tr hT (by exact B.et) rfl rfl) (by exact B.at_.I) rfl
  have h4:st.phase≠4:=by
   have hb:(lK==4)=false:=by subst hD;exact hb
   rw[<-B.rd.gU];simpa using hb
  clear hb;have xF:s.phase≠4:=λh=>h4 (by rw[B.e4 h];exact h);have fH:=B.ok.ph;have lg:=B.rd.gU;refine⟨⟨by subst hD;show 0<=lK;omega,by subst hD;show lK<4;omega⟩,λxx=>?_,λNG=>?_,λsV=>?_,λky=>?_,trivial⟩<;>cbv
  .have hp:st.phase=0:=by
    have h:lK=(0:Int):=by subst hD;exact xx.h.symm
    rw[<-lg];exact h
   refine⟨st,c,D.i (.a ci),D.i (.a lK),D.i (.a dz),ln,dt,D.b (.a uX),D.i (.a du),dw,D.b (.a db),D.i (.a dl),false,df,D.b (.a nn),D.i (.a nl),D.i (.a g),nf,D.i (.a fo),D.i (.a sz),rfl,rfl,by subst hD;exact IK,by subst hD;exact B.rd,hp,by subst hD;exact nQ,B.ok,λe he=>⟨λaY=>?_,λh0 ve vz wZ dr dv zn zi zk jU pW g3 pX qG pT V3 N3=>?_⟩⟩<;>cbv
   .refine br hD (λhb=>?_) (λhb=>?_)<;>cbv
    .have fI:k.2.2=e:=by rw[B.ek,pL,Di h4,QB (by rw[<-he];exact aY)];exact he.symm
     rw[dB (by rw[fI];exact aY),fI];unfold tD;subst hD;exact X1 rfl rfl ⟨rfl,rfl⟩ (aO.refl _) rfl rfl
    .exfalso
     have hb:(e != 0)=false:=by subst hD;exact hb
     exact aY (by simpa using hb)
   .refine br hD (λhb=>?_) (λhb=>?_)<;>cbv
    .exfalso
     have hb:(e != 0)=true:=by subst hD;exact hb
     rw[h0]at hb;cases hb
    have cA:=B.at_.step hD aC;refine⟨_,cA.1,?_⟩;rw[hJ];have mK:(cJ st c).2=0:=by rw[<-he];exact h0
    subst hD;refine⟨(cJ st c).1,j+1,_,ve,vz,wZ,dr,dv,zn,zi,zk,jU,pW,g3,pX,qG,pT,rfl,rfl,N3.ed,⟨cA.2,V3,Qr B.ok h4 (by rw[<-mK]),?_,?_,λh=>absurd h xF⟩⟩
    .rw[B.ek,pL,Di h4,QA (by rw[mK];simp)]
     refine YF rfl (YF ?_ rfl);show j+(_+1)=j+1+_;omega
    .have h1:=N3.et
     have h2:uX=tn:=by have:=B.et;unfold jS at this;rw[QA (λh=>h4 h.1)]at this;exact this
     unfold jS
     by_cases g4:(cJ st c).1.phase=4
     .rw[QB g4]at h1;rw[QB ⟨g4,xF⟩];exact h1
     .rw[QA g4]at h1;rw[QA (λh=>g4 h.1)];exact h1.trans h2
  .have hp:st.phase=1:=by
    have h:lK=(1:Int):=by subst hD;exact NG.h.symm
    rw[<-lg];exact h
   refine⟨st,c,D.i (.a ci),D.i (.a lK),D.i (.a dz),ln,dt,D.b (.a uX),D.i (.a du),dw,D.b (.a db),D.i (.a dl),false,df,D.b (.a nn),D.i (.a nl),D.i (.a g),nf,D.i (.a fo),D.i (.a sz),rfl,rfl,by subst hD;exact IK,by subst hD;exact B.rd,hp,by subst hD;exact nQ,B.ok,λe he=>⟨λaY=>?_,λh0 ve vz wZ dr dv zn zi zk jU pW g3 pX qG pT V3 N3=>?_⟩⟩<;>cbv
   .refine br hD (λhb=>?_) (λhb=>?_)<;>cbv
    .have fI:k.2.2=e:=by rw[B.ek,pL,Di h4,QB (by rw[<-he];exact aY)];exact he.symm
     rw[dB (by rw[fI];exact aY),fI];unfold tD;subst hD;exact X1 rfl rfl ⟨rfl,rfl⟩ (aO.refl _) rfl rfl
    .exfalso
     have hb:(e != 0)=false:=by subst hD;exact hb
     exact aY (by simpa using hb)
   .refine br hD (λhb=>?_) (λhb=>?_)<;>cbv
    .exfalso
     have hb:(e != 0)=true:=by subst hD;exact hb
     rw[h0]at hb;cases hb
    have cA:=B.at_.step hD aC;refine⟨_,cA.1,?_⟩;rw[hJ];have mK:(cJ st c).2=0:=by rw[<-he];exact h0
    subst hD;refine⟨(cJ st c).1,j+1,_,ve,vz,wZ,dr,dv,zn,zi,zk,jU,pW,g3,pX,qG,pT,rfl,rfl,N3.ed,⟨cA.2,V3,Qr B.ok h4 (by rw[<-mK]),?_,?_,λh=>absurd h xF⟩⟩
    .rw[B.ek,pL,Di h4,QA (by rw[mK];simp)]
     refine YF rfl (YF ?_ rfl);show j+(_+1)=j+1+_;omega
    .have h1:=N3.et
     have h2:uX=tn:=by have:=B.et;unfold jS at this;rw[QA (λh=>h4 h.1)]at this;exact this
     unfold jS
     by_cases g4:(cJ st c).1.phase=4
     .rw[QB g4]at h1;rw[QB ⟨g4,xF⟩];exact h1
     .rw[QA g4]at h1;rw[QA (λh=>g4 h.1)];exact h1.trans h2
  .have hp:st.phase=2:=by
    have h:lK=(2:Int):=by subst hD;exact sV.h.symm
    rw[<-lg];exact h
   refine⟨st,c,D.i (.a ci),D.i (.a lK),D.i (.a dz),ln,dt,D.b (.a uX),D.i (.a du),dw,D.b (.a db),D.i (.a dl),false,df,D.b (.a nn),D.i (.a nl),D.i (.a g),nf,D.i (.a fo),D.i (.a sz),rfl,rfl,by subst hD;exact IK,by subst hD;exact B.rd,hp,by subst hD;exact nQ,B.ok,λe he=>⟨λaY=>?_,λh0 ve vz wZ dr dv zn zi zk jU pW g3 pX qG pT V3 N3=>?_⟩⟩<;>cbv
   .refine br hD (λhb=>?_) (λhb=>?_)<;>cbv
    .have fI:k.2.2=e:=by rw[B.ek,pL,Di h4,QB (by rw[<-he];exact aY)];exact he.symm
     rw[dB (by rw[fI];exact aY),fI];unfold tD;subst hD;exact X1 rfl rfl ⟨rfl,rfl⟩ (aO.refl _) rfl rfl
    .exfalso
     have hb:(e != 0)=false:=by subst hD;exact hb
     exact aY (by simpa using hb)
   .refine br hD (λhb=>?_) (λhb=>?_)<;>cbv
    .exfalso
     have hb:(e != 0)=true:=by subst hD;exact hb
     rw[h0]at hb;cases hb
    have cA:=B.at_.step hD aC;refine⟨_,cA.1,?_⟩;rw[hJ];have mK:(cJ st c).2=0:=by rw[<-he];exact h0
    subst hD;refine⟨(cJ st c).1,j+1,_,ve,vz,wZ,dr,dv,zn,zi,zk,jU,pW,g3,pX,qG,pT,rfl,rfl,N3.ed,⟨cA.2,V3,Qr B.ok h4 (by rw[<-mK]),?_,?_,λh=>absurd h xF⟩⟩
    .rw[B.ek,pL,Di h4,QA (by rw[mK];simp)]
     refine YF rfl (YF ?_ rfl);show j+(_+1)=j+1+_;omega
    .have h1:=N3.et
     have h2:uX=tn:=by have:=B.et;unfold jS at this;rw[QA (λh=>h4 h.1)]at this;exact this
     unfold jS
     by_cases g4:(cJ st c).1.phase=4
     .rw[QB g4]at h1;rw[QB ⟨g4,xF⟩];exact h1
     .rw[QA g4]at h1;rw[QA (λh=>g4 h.1)];exact h1.trans h2
  .have hp:st.phase=3:=by
    have h:lK=(3:Int):=by subst hD;exact ky.h.symm
    rw[<-lg];exact h
   refine⟨st,c,D.i (.a ci),D.i (.a lK),D.i (.a dz),ln,dt,D.b (.a uX),D.i (.a du),dw,D.b (.a db),D.i (.a dl),false,df,D.b (.a nn),D.i (.a nl),D.i (.a g),nf,D.i (.a fo),D.i (.a sz),rfl,rfl,by subst hD;exact IK,by subst hD;exact B.rd,hp,by subst hD;exact nQ,B.ok,λe he=>⟨λaY=>?_,λh0 ve vz wZ dr dv zn zi zk jU pW g3 pX qG pT V3 N3=>?_⟩⟩<;>cbv
   .refine br hD (λhb=>?_) (λhb=>?_)<;>cbv
    .have fI:k.2.2=e:=by rw[B.ek,pL,Di h4,QB (by rw[<-he];exact aY)];exact he.symm
     rw[dB (by rw[fI];exact aY),fI];unfold tD;subst hD;exact X1 rfl rfl ⟨rfl,rfl⟩ (aO.refl _) rfl rfl
    .exfalso
     have hb:(e != 0)=false:=by subst hD;exact hb
     exact aY (by simpa using hb)
   .refine br hD (λhb=>?_) (λhb=>?_)<;>cbv
    .exfalso
     have hb:(e != 0)=true:=by subst hD;exact hb
     rw[h0]at hb;cases hb
    have cA:=B.at_.step hD aC;refine⟨_,cA.1,?_⟩;rw[hJ];have mK:(cJ st c).2=0:=by rw[<-he];exact h0
    subst hD;refine⟨(cJ st c).1,j+1,_,ve,vz,wZ,dr,dv,zn,zi,zk,jU,pW,g3,pX,qG,pT,rfl,rfl,N3.ed,⟨cA.2,V3,Qr B.ok h4 (by rw[<-mK]),?_,?_,λh=>absurd h xF⟩⟩
    .rw[B.ek,pL,Di h4,QA (by rw[mK];simp)]
     refine YF rfl (YF ?_ rfl);show j+(_+1)=j+1+_;omega
    .have h1:=N3.et
     have h2:uX=tn:=by have:=B.et;unfold jS at this;rw[QA (λh=>h4 h.1)]at this;exact this
     unfold jS
     by_cases g4:(cJ st c).1.phase=4
     .rw[QB g4]at h1;rw[QB ⟨g4,xF⟩];exact h1
     .rw[QA g4]at h1;rw[QA (λh=>g4 h.1)];exact h1.trans h2
 .have hb:decide (I<n)=false:=by subst hD;exact hb
  have hi:=B.at_.eq R.n (QW hb);clear hb;have qQ:k=(st,i,0):=by rw[B.ek,hi,XQ];rfl
  refine⟨st,D.i (.a lK),D.i (.a dz),ln,dt,D.b (.a uX),D.i (.a du),dw,D.b (.a db),D.i (.a dl),false,df,D.b (.a nn),D.i (.a nl),D.i (.a g),nf,D.i (.a fo),D.i (.a sz),rfl,rfl,by subst hD;exact B.rd,?_⟩;cbv;obtain⟨gV,gR,rfl,hT⟩:=cO (by rw[qQ]);rw[qQ]at hT ⊢;have hT:A5 gR gV st.aE:=hT;unfold tD;subst hD;exact X1 (by exact B.rd.gU) (by exact B.rd.iS) ⟨rfl,rfl⟩ (E8 B.rd.tr hT (by exact B.et) rfl rfl) (by show n=(i:Int);rw[R.n,hi]) rfl
end Go.Proofs.YtdoogdbjiijifaaGreatDoor
