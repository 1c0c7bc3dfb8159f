/- Lemmas of the proof; no conditions. -/
import Derived.Test.YtdoogdbjiijifaaGreatDoorE9Pax
namespace Go.Proofs.YtdoogdbjiijifaaGreatDoor
open Go Go.Sx
set_option maxRecDepth 100000
set_option maxHeartbeats 6000000
variable {mi wW st rC n':ST}{re t:List UInt8}{nb nb':BT}{f f':Nat->List SV}{x y:Bool}{i:Nat}
theorem Rt{ph eW inf uD fl zA fr oJ lf gK cp zH cf zI ct qC n nl dJ g g':ST}{m ln bo cl cd:List UInt8}{fb zD cb rK nn jW:BT}{ff zC ctf gR:Nat->List SV}
  (h1:ph.den=eW.den) (h2:inf.den=uD.den) (h3:mi.den=wW.den) (h4:st.den=rC.den) (h5:aM (.sl fb fl 2 ff) (.sl zD zA 2 zC)) (h6:fr.den=oJ.den) (h7:lf.den=gK.den) (h8:cp.den=zH.den) (h9:cf.den=zI.den) (kC:aM (.sl cb ct 2 ctf) (.sl rK qC 2 gR)) (od:aM (.sl nb n 1 f) (.sl nb' n' 1 f')) (KF:aM (.cR nn nl g 1) (.cR jW dJ g' 1)):
  jS [.str m,.int .i64 ph,.int .i64 inf,.str ln,.int .i64 mi,.int .i64 st,.str re,.sl fb fl 2 ff,.int .i64 fr,.str bo,.int .i64 lf,.int .i64 cp,.str cl,.str cd,.int .i64 cf,.sl cb ct 2 ctf,.sl nb n 1 f,.cR nn nl g 1]
   [.str m,.int .i64 eW,.int .i64 uD,.str ln,.int .i64 wW,.int .i64 rC,.str re,.sl zD zA 2 zC,.int .i64 oJ,.str bo,.int .i64 gK,.int .i64 zH,.str cl,.str cd,.int .i64 zI,.sl rK qC 2 gR,.sl nb' n' 1 f',.cR jW dJ g' 1] :=
 .cons (Cp _) (.cons (Af h1) (.cons (Af h2) (.cons (Cp _) (.cons (Af h3) (.cons (Af h4) (.cons (Cp _) (.cons h5 (.cons (Af h6) (.cons (Cp _) (.cons (Af h7) (.cons (Af h8) (.cons (Cp _) (.cons (Cp _) (.cons (Af h9) (.cons kC (.cons od (.cons KF .nil)))))))))))))))))
theorem Qm{n:ST}{N N':Int}(R:Bo f N t)(R':Bo f' N' t)(h:nb.den=nb'.den)(hn:n.den=N)(yU:n'.den=N'):aM (.sl nb n 1 f) (.sl nb' n' 1 f'):=by
 have e1:=R.n;have e2:=R'.n;refine aM.sl h (by omega) λi hi=>?_;rw[R.f i (by omega),R'.f i (by omega)]
def rR:aB:=λ_ xs ls K=>∃(x:bB) (b:List UInt8) (k:Nat) (nb:Bool) (n:Int) (f:Nat->List SV) (nn:Bool) (nl g:Int) (nf:Nat->List SV),
 xs=[.ptr 0 0]/\ls=[.aF 125 (Kj x nb n f nn nl g),.vec 5 (.a nl) (.a g) 1 nf]/\(k:Int)=min x.lf (b.length:Int)/\Bo f n b/\b.length<=1000000/\x.bo.length<=1000000/\0<=x.lf/\x.lf<=1000000/\
 ∀eW tR gK n' f',eW=(if x.lf-(k:Int)=0 then 2 else x.ph)->tR=x.bo++b.take k->gK=x.lf-(k:Int)->Bo f' n' (b.drop k)->K (.int .i64 (.a 0)) [.aF 125 (Kj { x with ph:=eW,bo:=tR,lf:=gK } nb n' f' nn nl g),.vec 5 (.a nl) (.a g) 1 nf]
theorem Aix:Ap Tryz.prog gl 77 rR:=by
 refine Bu (gh:=[]) mixed Du (Al Agv Ae) Tryz.func77 (by kernel_rfl) (by kernel_rfl) ?_;intro xs ls K h;unfold rR at h;obtain⟨x,b,k,nb,n,f,nn,nl,g,nf,rfl,rfl,hk,R,hb,jH,rF,y5,h⟩:=h;obtain⟨T,hT⟩:∃T,T=b.drop k:=⟨_,rfl⟩;obtain⟨N,VN⟩:∃N:Int,VI N T.length:=⟨_,⟨rfl⟩⟩;obtain⟨B,hB⟩:∃B,B=x.bo++b.take k:=⟨_,rfl⟩;obtain⟨W,hW⟩:∃W:Int,W=x.lf-(k:Int):=⟨_,rfl⟩;obtain⟨P,hP⟩:∃P:Int,P=if W=0 then 2 else x.ph:=⟨_,rfl⟩
 have RT:Bo (aQ T) N T:=⟨VN.h,λi _=>rfl⟩;have h:=h P B W N (aQ T) (by rw[hP,hW]) hB hW (by rw[<-hT];exact RT);have VB:VI n b.length:=⟨R.n⟩;have HB:dX b.length 1000000:=⟨hb⟩;have HO:dX x.bo.length 1000000:=⟨jH⟩;obtain⟨LF,hLF⟩:∃LF,LF=x.lf:=⟨_,rfl⟩;obtain⟨PH,hPH⟩:∃PH,PH=x.ph:=⟨_,rfl⟩;obtain⟨BO,gq⟩:∃BO,BO=x.bo:=⟨_,rfl⟩;rw[<-hLF]at hk rF y5 hW;rw[<-hPH]at hP;rw[<-gq]at hB;have mW:k<=b.length:=by omega
 have TZ:IntKind.i64.wrap (LF-(k:Int))=W:=by rw[hW];exact wrap64 (by omega) (by omega)
 have EK:oZ (k:Int) (min LF (b.length:Int)):=⟨hk⟩;obtain⟨KI,hKI⟩:∃KI:Int,KI=(k:Int):=⟨_,rfl⟩;rw[<-hKI]at TZ;have EW:oZ (IntKind.i64.wrap (LF-KI)) W:=⟨TZ⟩;have HK:dX k b.length:=⟨mW⟩;clear hk hb jH rF y5 mW TZ;refine⟨_,_,h,λD hD=>?_⟩;clear h;obtain⟨m,ph,inf,ln,mi,st,re,fb,fl,ff,fr,bo,lf,cp,cl,cd,cf,cb,ct,ctf⟩:=x;simp only at hLF hPH gq;subst hLF hPH gq;cbv;intro r hr;cbv;have hr:r=KI:=by
  have h1:r=min LF n:=by subst hD;exact hr.h
  rw[h1,hKI,EK.h,VB.h]
 subst hr;refine⟨bB.nm D ⟨m,PH,inf,ln,mi,st,re,fb,fl,ff,fr,BO,LF,cp,cl,cd,cf,cb,ct,ctf⟩,b,k,D.i (.a r),D.b (.a nb),D.i (.a n),f,D.b (.a nn),D.i (.a nl),D.i (.a g),nf,rfl,rfl,by subst hD;exact hKI,by subst hD;exact R,HK.h,HB.h,HO.h,λbo2 n2 f2 gH R2=>?_⟩;cbv;have gH:bo2=B:=gH.trans hB.symm;rw[<-hT]at R2;subst gH;refine br hD (λhb=>?_) (λhb=>?_)<;>cbv
 .have hb:(IntKind.i64.wrap (LF-r)==0)=true:=by subst hD;exact hb
  rw[EW.h,QO]at hb;rw[QC hb]at hP;subst hD hP;exact⟨Af rfl,Ct (cL.cons (Ao (Rt rfl rfl rfl rfl (aM.refl _) rfl (by exact EW.h) rfl rfl (aM.refl _) (Qm R2 RT rfl rfl rfl) (aM.refl _))) λ_ _ _ _ h=>h),QK _⟩
 .have hb:(IntKind.i64.wrap (LF-r)==0)=false:=by subst hD;exact hb
  rw[EW.h,beq_eq_false_iff_ne]at hb;rw[QA hb]at hP;subst hD hP;exact⟨Af rfl,Ct (cL.cons (Ao (Rt rfl rfl rfl rfl (aM.refl _) rfl (by exact EW.h) rfl rfl (aM.refl _) (Qm R2 RT rfl rfl rfl) (aM.refl _))) λ_ _ _ _ h=>h),QK _⟩
theorem Kt{t t':ST}{a b:Hl}(he:t.den=t'.den):Fin (.int .i64 t) (.int .i64 t') [a,b] [.gone,.gone]:=by
 refine⟨Af he,λh E w hk=>?_,QK _⟩
 match h with
 |0=>trivial
 |1=>trivial
 |h+2=>exact hk
def pQ:aB:=λ_ xs ls K=>∃(x:bB) (b:List UInt8) (nb:Bool) (n:Int) (f:Nat->List SV) (nn:Bool) (nl g:Int) (nf:Nat->List SV),
 xs=[.ptr 0 0]/\ls=[.aF 125 (Kj x nb n f nn nl g),.vec 5 (.a nl) (.a g) 1 nf]/\Bo f n b/\b.length<=1000000/\x.bo.length<=1000000/\
 (65536<x.bo.length+b.length->K (.int .i64 (.a 3)) [.gone,.gone])/\
 (x.bo.length+b.length<=65536->∀tR n' f',tR=x.bo++b->Bo f' n' []->K (.int .i64 (.a 0)) [.aF 125 (Kj { x with bo:=tR } nb n' f' nn nl g),.vec 5 (.a nl) (.a g) 1 nf])
theorem Agf:Ap Tryz.prog gl 79 pQ:=by
 refine Bu (gh:=[]) mixed Du (Al Agv Ae) Tryz.func79 (by kernel_rfl) (by kernel_rfl) ?_;intro xs ls K h;unfold pQ at h;obtain⟨x,b,nb,n,f,nn,nl,g,nf,rfl,rfl,R,hb,jH,h1,h2⟩:=h;obtain⟨B,hB⟩:∃B,B=x.bo++b:=⟨_,rfl⟩;have VB:VI n b.length:=⟨R.n⟩;have HB:dX b.length 1000000:=⟨hb⟩;have HO:dX x.bo.length 1000000:=⟨jH⟩;have R0:Bo (λ_=>[]) 0 []:=⟨rfl,λi hi=>by cases hi⟩;obtain⟨BO,gq⟩:∃BO,BO=x.bo:=⟨_,rfl⟩;obtain⟨W,hW⟩:∃W:Int,W=IntKind.i64.wrap ((BO.length:Int)+n):=⟨_,rfl⟩;have hw:W=(BO.length:Int)+b.length:=by rw[hW,VB.h];rw[gq];exact wrap64 (by omega) (by omega)
 have EW:oZ W (IntKind.i64.wrap ((BO.length:Int)+n)):=⟨hW⟩;clear hW;rw[<-gq]at hB h1 h2
 by_cases pH:65536<BO.length+b.length
 .have hd:decide (65536<W)=true:=by rw[hw,QG];omega
  refine⟨_,_,h1 pH,λD hD=>?_⟩;clear h1 h2 hw hb jH;obtain⟨m,ph,inf,ln,mi,st,re,fb,fl,ff,fr,bo,lf,cp,cl,cd,cf,cb,ct,ctf⟩:=x;simp only at gq;subst gq;cbv;refine br hD (λhb=>?_) (λhb=>?_)<;>cbv
  .subst hD;exact Kt rfl
  .exfalso
   have hb:decide (65536<IntKind.i64.wrap ((BO.length:Int)+n))=false:=by subst hD;exact hb
   rw[<-EW.h,hd]at hb;cases hb
 .have hd:decide (65536<W)=false:=by rw[hw,QJ];omega
  have h:=h2 (by omega) B 0 (λ_=>[]) hB R0;refine⟨_,_,h,λD hD=>?_⟩;clear h1 h2 h hw hb jH;obtain⟨m,ph,inf,ln,mi,st,re,fb,fl,ff,fr,bo,lf,cp,cl,cd,cf,cb,ct,ctf⟩:=x;simp only at gq;subst gq;cbv;refine br hD (λhb=>?_) (λhb=>?_)<;>cbv
  .exfalso
   have hb:decide (65536<IntKind.i64.wrap ((BO.length:Int)+n))=true:=by subst hD;exact hb
   rw[<-EW.h,hd]at hb;cases hb
  refine⟨bB.nm D ⟨m,ph,inf,ln,mi,st,re,fb,fl,ff,fr,BO,lf,cp,cl,cd,cf,cb,ct,ctf⟩,b,b.length,D.i (.a n),D.b (.a nb),D.i (.a n),f,D.b (.a nn),D.i (.a nl),D.i (.a g),nf,rfl,rfl,by subst hD;exact VB.h,by subst hD;exact R,QK _,HB.h,HO.h,λbo2 n2 f2 gH R2=>?_⟩;cbv;have hbx:bo2=B:=by rw[gH,hB,YC];rfl
  clear gH;rw[XR]at R2;subst hD hbx;exact⟨Af rfl,Ct (cL.cons (Ao (Rt rfl rfl rfl rfl (aM.refl _) rfl rfl rfl rfl (aM.refl _) (Qm R2 R0 rfl rfl rfl) (aM.refl _))) λ_ _ _ _ h=>h),QK _⟩
def nL:aB:=λ_ xs ls K=>∃(x:bB) (s:Ch) (b:List UInt8) (nb:Bool) (n:Int) (f:Nat->List SV) (nn:Bool) (nl g:Int) (nf:Nat->List SV),
 xs=[.ptr 0 0]/\ls=[.aF 125 (Kj x nb n f nn nl g),.vec 5 (.a nl) (.a g) 1 nf]/\x.cl=s.line/\x.cd=s.data/\fw s x.cp x.cf x.ct x.ctf/\D7 s/\(s.phase=4->Hr s.aE)/\Bo f n b/\b.length<=1000000/\
 ∀k,k=Bm s b->(k.2.2≠0->K (.int .i64 (.a k.2.2)) [.gone,.gone])/\
  (k.2.2=0->∀eW zH zI rK qC gR n' f',fw k.1 zH zI qC gR->rK=kJ s k.1 x.cb->eW=(if k.1.phase=4 then 2 else x.ph)->Bo f' n' (b.drop k.2.1)->
   K (.int .i64 (.a 0)) [.aF 125 (Kj { x with ph:=eW,cp:=zH,cl:=k.1.line,cd:=k.1.data,cf:=zI,cb:=rK,ct:=qC,ctf:=gR } nb n' f' nn nl g),.vec 5 (.a nl) (.a g) 1 nf])
theorem Adz:∀(b:List UInt8) (s:Ch),(Bm s b).2.1<=b.length
 | [],s=>QK _
 |c :: b,s=>by
  unfold Bm
  split
  .simp
  split
  .simp
  .have:=Adz b (cF s c).1
   simp only[QH];omega
theorem Adv:Ap Tryz.prog gl 78 nL:=by
 refine Bu (gh:=[]) mixed Du (Aa Akp Ae) Tryz.func78 (by kernel_rfl) (by kernel_rfl) ?_;intro xs ls K h;unfold nL at h;obtain⟨x,s,b,nb,n,f,nn,nl,g,nf,rfl,rfl,qR,ua,V,hO,yD,R,hb,h⟩:=h;obtain⟨k,hk⟩:∃k,k=Bm s b:=⟨_,rfl⟩;have h:=h k hk;have mW:k.2.1<=b.length:=by rw[hk];exact Adz b s
 have aJ:k.2.2=0->∃iC gT,A0 gT iC k.1.aE:=λe0=>by rw[hk]at e0 ⊢;exact Q5 b s ⟨_,_,V.tr⟩ (by omega) hO e0
 obtain⟨T,hT⟩:∃T,T=b.drop k.2.1:=⟨_,rfl⟩;obtain⟨N,VN⟩:∃N:Int,VI N T.length:=⟨_,⟨rfl⟩⟩;have RT:Bo (aQ T) N T:=⟨VN.h,λi _=>rfl⟩;obtain⟨L,lJ,gV,hK⟩:∃L:List Hl,(k.2.2≠0->L=[.gone,.gone])/\(k.2.2=0->∃qC gR,L=[.aF 125 (Kj { x with ph:=(if k.1.phase=4 then 2 else x.ph),cp:=k.1.phase,cl:=k.1.line,cd:=k.1.data,cf:=k.1.left,cb:=kJ s k.1 x.cb,ct:=qC,ctf:=gR } nb N (aQ T) nn nl g),.vec 5 (.a nl) (.a g) 1 nf]/\A0 gR qC k.1.aE)/\K (.int .i64 (.a k.2.2)) L:=by
  by_cases e0:k.2.2=0
  .obtain⟨iC,gT,hR⟩:=aJ e0
   refine⟨_,λh=>absurd e0 h,λ_=>⟨iC,gT,rfl,hR⟩,?_⟩;rw[e0];exact h.2 e0 _ _ _ _ iC gT _ _ ⟨rfl,rfl,hR⟩ rfl rfl (by rw[<-hT];exact RT)
  .exact⟨_,λ_=>rfl,λh=>absurd h e0,h.1 e0⟩
 have VB:VI n b.length:=⟨R.n⟩;have HB:dX b.length 1000000:=⟨hb⟩;have HK:dX k.2.1 b.length:=⟨mW⟩;obtain⟨E,hE⟩:∃E,E=k.2.2:=⟨_,rfl⟩;rw[<-hE]at hK lJ gV;refine⟨_,_,hK,λD hD=>?_⟩;clear hK h aJ mW hb;obtain⟨m,ph,inf,ln,mi,st,re,fb,fl,ff,fr,bo,lf,cp,cl,cd,cf,cb,ct,ctf⟩:=x;simp only at qR ua;cbv;refine⟨s,b,cl,cd,D.i (.a cp),D.i (.a cf),D.b (.a cb),D.i (.a ct),ctf,D.b (.a nb),D.i (.a n),f,rfl,rfl,qR,ua,by subst hD;exact⟨V.gM,V.iG,V.tr⟩,hO,yD,by subst hD;exact R,HB.h,λk2 aY=>?_⟩;obtain rfl:k2=k:=aY.trans hk.symm;refine⟨λbA=>?_,λh0 cp2 cf2 cb2 ct2 a36 u hV DA hu=>?_⟩<;>cbv
 .refine br hD (λhb=>?_) (λhb=>?_)<;>cbv
  .rw[lJ (by rw[hE];exact bA)]
   subst hD;exact Kt (by exact hE.symm)
  .exfalso
   have hb:(k2.2.2 != 0)=false:=by subst hD;exact hb
   exact bA (by simpa using hb)
 .refine br hD (λhb=>?_) (λhb=>?_)<;>cbv
  .exfalso
   have hb:((0:Int) != 0)=true:=by subst hD;exact hb
   cases hb
  clear hb;have VU:VI u k2.2.1:=⟨hu⟩;have hu0:0<=u:=by rw[VU.h];exact Int.natCast_nonneg _
  have uG:u<=n:=by rw[VU.h,VB.h];exact Int.ofNat_le.2 HK.h
  refine⟨by subst hD;exact⟨by show (0:Int)<=u;exact hu0,by show u<=n;exact uG,ZE _⟩,λf2 n2 cU=>?_⟩;cbv;have R2:Bo f2 n2 T:=by
   have:=R.sub (a:=k2.2.1) (b:=b.length) cU (by subst hD;exact hu) (by subst hD;exact VB.h) HK.h (QK _);have e:(b.drop k2.2.1).take (b.length-k2.2.1)=b.drop k2.2.1:=XJ (by rw[QX];exact QK _);rw[e,<-hT]at this;exact this
  clear cU;refine br hD (λhb=>?_) (λhb=>?_)<;>cbv
  .have hb:(cp2==4)=true:=by subst hD;exact hb
   have h4:k2.1.phase=4:=by rw[<-hV.gM];exact eq_of_beq hb
   obtain⟨ct3,ag8,rfl,zs⟩:=gV (by rw[hE];exact h0);rw[QC h4];have e0:E=0:=by rw[hE];exact h0
   subst hD;exact⟨Af (by exact e0.symm),Ct (cL.cons (Ao (Rt rfl rfl rfl rfl (aM.refl _) rfl rfl (by exact hV.gM) (by exact hV.iG) (Fe hV.tr zs (by exact DA) rfl rfl) (Qm R2 RT rfl rfl rfl) (aM.refl _))) λ_ _ _ _ h=>h),QK _⟩
  .have hb:(cp2==4)=false:=by subst hD;exact hb
   have h4:¬k2.1.phase=4:=by rw[<-hV.gM];simpa using hb
   obtain⟨ct3,ag8,rfl,zs⟩:=gV (by rw[hE];exact h0);rw[QA h4];have e0:E=0:=by rw[hE];exact h0
   subst hD;exact⟨Af (by exact e0.symm),Ct (cL.cons (Ao (Rt rfl rfl rfl rfl (aM.refl _) rfl rfl (by exact hV.gM) (by exact hV.iG) (Fe hV.tr zs (by exact DA) rfl rfl) (Qm R2 RT rfl rfl rfl) (aM.refl _))) λ_ _ _ _ h=>h),QK _⟩
open Go Go.Sx Go.RowKit
def ay:aB:=λ_ xs ls K=>∃(s p:List UInt8),xs=[.str s,.str p]/\ls=[]/\∀r b,r=Lib.trimPrefix s p->b=Lib.hasPrefix s p->K (.aI [.str r,.bool (.a b)]) []
theorem Akj:Ap Tryz.prog gl 55 ay:=by
 refine⟨⟨Tryz.f55,_,Tryz.func55,rfl,by kernel_rfl⟩,λxs ls K h=>?_⟩;obtain⟨s,p,rfl,rfl,h⟩:=h;refine⟨_,_,h _ _ rfl rfl,Bi λE B w aX _ _ _ hr=>?_⟩;obtain⟨v,u,rfl,hv,hu⟩:=D8 hr;rw[Cy hv,Cy hu];refine (Lm ⟨s.toArray⟩ ⟨p.toArray⟩ w).mono ?_;rintro e w' ⟨rfl,rfl⟩;refine⟨_,rfl,λE=>?_,Below.refl _ _⟩;refine .aI rfl λi x y a b=>?_
 match i,a,b with
 |0,a,b=>cases a;cases b;exact .ro (.str rfl)
 |1,a,b=>cases a;cases b;exact .ro (.bool rfl)
 |i+2,a,b=>simp at a
theorem Pz{b:List UInt8}(h:Lib.indexByte (b.take 302) 10<0):Au b=(jU,0,if 302<=b.length then 3 else 10):=by
 have h2:(Bh 10 (b.take 302)).2.2=false:=by
  cases e:(Bh 10 (b.take 302)).2.2 with
  |false=>rfl
  |true=>have:=(Ma e).1;omega
 unfold Au;rw[h2];rfl
def Yk(b w:List UInt8)(suf:Bool)(p:Nat):oL×Int×Int :=
 if !(suf&&vc w) then (jU,0,6) else
 if (A7 (b.drop (p+1))).2.2≠0 then (jU,0,(A7 (b.drop (p+1))).2.2) else
 ({ qj w with fields:=(A7 (b.drop (p+1))).1 },(p:Int)+1+(A7 (b.drop (p+1))).2.1,0)
theorem T8{b:List UInt8}{p:Nat}(h:Lib.indexByte (b.take 302) 10=(p:Int)):p<302/\p<b.length/\Au b=Yk b (Lib.trimSuffix (b.take p) [13]) (Lib.hasSuffix (b.take p) [13]) p:=by
 have h2:(Bh 10 (b.take 302)).2.2=true:=by
  cases e:(Bh 10 (b.take 302)).2.2 with
  |true=>rfl
  |false=>have:=(Tf e).2.2;omega
 obtain⟨e1,e2,_,e4⟩:=Ma h2;have hp:(Bh 10 (b.take 302)).1.length=p:=by omega
 rw[hp]at e2 e4;rw[QW]at e4;have e5:(Bh 10 (b.take 302)).1=b.take p:=by rw[e2,UW,UJ (by omega)]
 refine⟨by omega,by omega,?_⟩;unfold Au Yk;rw[h2,hp,e5];simp only[YK,XE,if_false]
def P6(r:List UInt8):Bool:=!((((decide (r.length<6)||((r.getD 0 0 != 48)&&(r.getD 0 0 != 49)))||(r.getD 1 0 != 32))||(r.getD 5 0 != 32))||!Ds (r.drop 6))
theorem Aiv(w:List UInt8):vc w=(Lib.hasPrefix w Hz&&P6 (Lib.trimPrefix w Hz)&&(decide (100<=J7 (((Lib.trimPrefix w Hz).drop 2).take 3))&&decide (J7 (((Lib.trimPrefix w Hz).drop 2).take 3)<=599))):=by
 have hp:Lib.hasPrefix w Hz=(w.take 7==Hz):=by
  unfold Lib.hasPrefix;rw[XY,QO];rw[List.isPrefixOf_iff_prefix,List.prefix_iff_eq_take];exact eq_comm
 cases hw:(w.take 7==Hz) with
 |false=>rw[hp,hw];unfold vc;rw[hw];simp
 |true =>
  have ht:Lib.trimPrefix w Hz=w.drop 7:=by unfold Lib.trimPrefix;rw[hp,hw];rfl
  have hg:∀i,(w.drop 7).getD i 0=w.getD (7+i) 0:=λi=>by rw[QD,XG,<-QD]
  rw[hp,hw,ht];unfold vc P6;rw[hw,hg,hg,hg,ZD,ZD,QX,XY];simp only[QE,XS,QG,QO,XL,QU,ZA,bne_eq_false_iff_eq,QJ,XZ,Nat.not_lt,true_and];constructor
  .rintro⟨⟨⟨⟨⟨⟨⟨h1,_⟩,h3⟩,h4⟩,h5⟩,h6⟩,h7⟩,h8⟩
   exact⟨⟨⟨⟨⟨by omega,h3⟩,h4⟩,h5⟩,h6⟩,h7,h8⟩
  .rintro⟨⟨⟨⟨⟨h1,h3⟩,h4⟩,h5⟩,h6⟩,h7,h8⟩
   exact⟨⟨⟨⟨⟨⟨⟨by omega,trivial⟩,h3⟩,h4⟩,h5⟩,h6⟩,h7⟩,h8⟩
theorem Alh{w:List UInt8}(h:Lib.hasPrefix w Hz=true):qj w=⟨(((Lib.trimPrefix w Hz).getD 0 0).toNat:Int)-48,J7 (((Lib.trimPrefix w Hz).drop 2).take 3),(Lib.trimPrefix w Hz).drop 6,[]⟩:=by
 have ht:Lib.trimPrefix w Hz=w.drop 7:=by unfold Lib.trimPrefix;rw[h];rfl
 have hg:(w.drop 7).getD 0 0=w.getD 7 0:=by rw[QD,XG,<-QD]
 rw[ht,hg,ZD,ZD];rfl
structure HdV(h:oL)(mi st:Int)(re:List UInt8)(f:Nat->List SV)(n:Int)(nl:Bool):Prop where
 DD:mi=h.minor
 AF:st=h.status
 ere:re=h.reason
 g:nD f n nl h.fields
def wM:aB:=λ_ xs ls K=>∃(b:List UInt8) (nl:Bool) (n:Int) (f:Nat->List SV),xs=[.sl (.a nl) (.a n) 1 f]/\ls=[]/\Bo f n b/\b.length<=1000000/\
 ∀hd u e mi st re f1 n1 b1,(hd,u,e)=Au b->HdV hd mi st re f1 n1 b1->K (.aI [T5 mi st re b1 n1 f1,.int .i64 (.a u),.int .i64 (.a e)]) []
theorem Ae5(b:List UInt8)(hb:b.length<=1000000):∃mi st re f n nl,HdV (Au b).1 mi st re f n nl:=by
 have h0:∃f n nl,nD f n nl ([]:List HF):=⟨_,_,_,nD.nil⟩;have kB:∃f n nl,nD f n nl (Au b).1.fields:=by
  unfold Au
  split
  .exact h0
  split
  .exact h0
  split
  .exact h0
  .have hl:(b.drop ((Bh 10 (b.take 302)).1.length+1)).length<=1000000:=by rw[QX];omega
   have hS:=Jy ((b.drop ((Bh 10 (b.take 302)).1.length+1)).length+1) 0 [] _ hl (by simp) (λx hx=>by cases hx);exact⟨_,_,_,⟨A0.row (by have:=hS.1;exact XP this (by decide)) (λi hi=>hS.2 _ (by rw[QD,QB hi];exact XO hi)),rfl⟩⟩
 obtain⟨f,n,nl,h⟩:=kB;exact⟨_,_,_,f,n,nl,rfl,rfl,rfl,h⟩
theorem uf{u u' e e' n:ST}{rp:List UInt8}{nl dJ:BT}(h1:mi.den=wW.den)(h2:st.den=rC.den)(h3:re=rp)(h4:aM (.sl nl n 2 f) (.sl dJ n' 2 f'))(h5:u.den=u'.den)(h6:e.den=e'.den):
  Fin (.aI [.agg [.int .i64 mi,.int .i64 st,.str re,.sl nl n 2 f],.int .i64 u,.int .i64 e]) (.aI [.agg [.int .i64 wW,.int .i64 rC,.str rp,.sl dJ n' 2 f'],.int .i64 u',.int .i64 e']) [] []:=by
 subst h3;exact Cm (.aI (.cons (aM.agg (.cons (Af h1) (.cons (Af h2) (.cons (Cp _) (.cons h4 .nil))))) (.cons (Af h5) (.cons (Af h6) .nil))))
theorem Vm{D:Dn}(hD:D=dn){hd:oL}{u e mi st:Int}{f1:Nat->List SV}{n1:Int}{b1:Bool}{c:Int}{y:ST}(hk:(hd,u,e)=(jU,0,c))(V:HdV hd mi st re f1 n1 b1)(hy:y.den=c):
  Fin (.aI [.agg [.int .i64 (.a (D.i (.l 0))),.int .i64 (.a (D.i (.l 0))),.str [],.sl (.a (D.b (.l true))) (.a (D.i (.l 0))) 2 λ_=>[]],.int .i64 (.a (D.i (.l 0))),.int .i64 (.a (D.i y))]) (.aI [.agg [.int .i64 (.a mi),.int .i64 (.a st),.str re,.sl (.a b1) (.a n1) 2 f1],.int .i64 (.a u),.int .i64 (.a e)]) [] []:=by
 simp only[Prod.mk.injEq]at hk;obtain⟨rfl,rfl,rfl⟩:=hk;obtain⟨rfl,rfl,rfl,G⟩:=V;subst hD;exact uf rfl rfl rfl (Am3 nD.nil G rfl rfl) rfl hy
theorem GV(h:(!(x||decide ((t.length:Int)<6)))=true)(hi:i<6):DV (i:Int) t:=by
 simp only[XL,QU,QJ]at h;exact⟨by omega,by omega⟩
theorem GU(h:(!((x||decide ((t.length:Int)<6))||y))=true)(hi:i<6):DV (i:Int) t:=by
 simp only[XL,QU,QJ]at h;exact⟨by omega,by omega⟩
theorem Anf{z:Bool}(h:(!(((x||decide ((t.length:Int)<6))||y)||z))=true)(hi:i<6):DV (i:Int) t:=by
 simp only[XL,QU,QJ]at h;exact⟨by omega,by omega⟩
structure MR(lo x hi:Int):Prop where
 lo:lo<=x
 hi:x<=hi
theorem ic{a b:Int}(h:MR 0 a 302)(k:MR 0 b 1000000):IntKind.i64.wrap (a+1+b)=a+1+b:=by
 have:=h.lo;have:=h.hi;have:=k.lo;have:=k.hi;exact wrap64 (by omega) (by omega)
theorem ij(c k:UInt8):(((c.toNat:Int)) != ((k.toNat:Nat):Int))=(c != k):=by
 rw[XY,bne_iff_ne,bne_iff_ne];refine not_congr ⟨λh=>?_,λh=>by rw[h]⟩;exact UInt8.toNat_inj.1 (by omega)
theorem Aoa{is ht pl:Bool}{c0 c1 c5:Int}(h0:c0=((t.getD 0 0).toNat:Int))(h1:c1=((t.getD 1 0).toNat:Int))(h5:c5=((t.getD 5 0).toNat:Int))(hp:pl=Ds (t.drop 6)):
  ((((((!is||!ht)||decide ((t.length:Int)<6))||((c0 != 48)&&(c0 != 49)))||(c1 != 32))||(c5 != 32))||!pl)=!(is&&(ht&&P6 t)):=by
 have e0:(c0 != 48)=(t.getD 0 0 != 48):=by rw[h0];exact ij _ 48
 have e0':(c0 != 49)=(t.getD 0 0 != 49):=by rw[h0];exact ij _ 49
 have e1:(c1 != 32)=(t.getD 1 0 != 32):=by rw[h1];exact ij _ 32
 have e5:(c5 != 32)=(t.getD 5 0 != 32):=by rw[h5];exact ij _ 32
 have el:decide ((t.length:Int)<6)=decide (t.length<6):=by rw[UF];omega
 rw[e0,e0',e1,e5,hp,el];unfold P6;cases is<;>cases ht<;>simp
theorem Ahu:Ap Tryz.prog gl 17 wM:=by
 refine Bq (gh:=[]) mixed Ck (Aa Yf (Aa Yy (Aa Akj (Aa Agu (Aa Sf (Aa Qq Ae)))))) Tryz.func17 (by kernel_rfl) (by kernel_rfl) ?_;intro xs ls K h;unfold wM at h;obtain⟨b,nl,n,f,rfl,rfl,R,hb,h⟩:=h;obtain⟨k,hk⟩:∃k,k=Au b:=⟨_,rfl⟩;obtain⟨mi,st,re,f1,n1,b1,V⟩:=Ae5 b hb;rw[<-hk]at V;obtain⟨hd,u,e⟩:=k;have h:=h hd u e mi st re f1 n1 b1 hk V;have VB:VI n b.length:=⟨R.n⟩;have HB:dX b.length 1000000:=⟨hb⟩;clear hb;refine⟨_,_,h,λD hD=>?_⟩;clear h;unfold T5;cbv;intro r hr;cbv;have hr:r=min n 302:=by subst hD;exact hr.h
 have VR:VI r (b.take 302).length:=⟨by rw[hr,VB.h,QW];omega⟩;clear hr;refine⟨by subst hD;exact⟨ZE _,by show (0:Int)<=r;rw[VR.h];omega,by show r<=n;rw[VR.h,VB.h,QW];omega⟩,λf2 n2 cU=>?_⟩;cbv;have R2:Bo f2 n2 (b.take 302):=by
  have:=R.sub (a:=0) (b:=(b.take 302).length) cU (by subst hD;rfl) (by subst hD;exact VR.h) (XX _) (by rw[QW];omega);rw[ZT,QW,Nat.sub_zero]at this;have e2:b.take (min 302 b.length)=b.take 302:=by
   rcases Nat.le_total 302 b.length with h|h
   .rw[UJ h]
   .rw[Nat.min_eq_right h,XJ (QK _),XJ h]
  rwa [e2]at this
 clear cU;refine⟨_,_,_,_,f2,rfl,rfl,by subst hD;exact R2,by subst hD;rfl,λq hq=>?_⟩;cbv;refine br hD (λhb=>?_) (λhb=>?_)<;>cbv
 .have hb:(decide (q<0)&&decide (302<=n))=true:=by subst hD;exact hb
  simp only[QE,QG]at hb;rw[Pz (by omega),QC (by have:=VB.h;omega)]at hk;exact Vm hD hk V rfl
 have lU:(decide (q<0)&&decide (302<=n))=false:=by subst hD;exact hb
 clear hb;refine br hD (λhb=>?_) (λhb=>?_)<;>cbv
 .have hb:decide (q<0)=true:=by subst hD;exact hb
  rw[hb,US]at lU;rw[QG]at hb;rw[QJ]at lU;rw[Pz (by omega),QA (by have:=VB.h;omega)]at hk;exact Vm hD hk V rfl
 have gH:¬q<0:=by
  have hb:decide (q<0)=false:=by subst hD;exact hb
  simpa using hb
 clear hb lU R2 VR;obtain⟨p,hp⟩:∃p:Nat,q=(p:Int):=⟨q.toNat,by omega⟩;obtain⟨pV,pU,WK⟩:=T8 (b:=b) (p:=p) (by omega);rw[WK]at hk;have VQ:VI q p:=⟨hp⟩;have HP:dX (p+1) b.length:=⟨pU⟩;have HP3:dX (p+1) 302:=⟨pV⟩;clear hp pV pU WK hq gH;refine⟨by subst hD;exact⟨ZE _,by show (0:Int)<=q;rw[VQ.h];omega,by show q<=n;rw[VQ.h,VB.h];have:=HP.h;omega⟩,λf3 n3 cU=>?_⟩;cbv;have R3:Bo f3 n3 (b.take p):=by
  have:=R.sub (a:=0) (b:=p) cU (by subst hD;rfl) (by subst hD;exact VQ.h) (XX _) (by have:=HP.h;omega)
  rwa [ZT,Nat.sub_zero]at this
 clear cU;refine⟨by subst hD;exact R3.byte,λs hs=>?_⟩;cbv;have hs:s=b.take p:=by subst hD;exact R3.str hs
 rw[<-hs]at hk;have bE:dX s.length 302:=⟨by rw[hs,QW];have:=HP3.h;omega⟩;clear hs R3;refine⟨s,[13],rfl,rfl,by have:=bE.h;omega,λw is hw JI=>?_⟩;cbv;rw[<-hw,<-JI]at hk;have ml:dX w.length 302:=⟨by
  have:=bE.h;rw[hw,Lib.trimSuffix]
  split
  .rw[QW];omega
  .exact this⟩
 clear hw JI bE;refine⟨w,Hz,rfl,rfl,λt ht OS hb=>?_⟩;cbv;refine⟨λhg=>?_,λc0 nA=>?_⟩
 .subst hD;exact GV (i:=0) hg (by decide)
 cbv;refine⟨λ_=>?_,λur JS=>?_⟩
 .subst hD;intro hg;exact GV (i:=0) hg (by decide)
 cbv;refine⟨λhg=>?_,λc1 ep=>?_⟩
 .subst hD;exact GU (i:=1) hg (by decide)
 cbv;refine⟨λhg=>?_,λc5 hc5=>?_⟩
 .subst hD;exact Anf (i:=5) hg (by decide)
 cbv;refine⟨λhg=>?_,λrp IL=>?_⟩
 .subst hD
  have:=Anf (i:=5) (x:=(!is||!ht)) (y:=((c0 != 48)&&(ur != 49))) (z:=(c1 != 32)) (t:=t) (by
   have hg:(!(((((!is||!ht)||decide ((t.length:Int)<6))||((c0 != 48)&&(ur != 49)))||(c1 != 32))||(c5 != 32)))=true:=hg;simp only[XL,QU]at hg ⊢;exact hg.1) (by decide)
  exact⟨by decide,by show (6:Int)<=(t.length:Int);have:=this.hi;omega,ZE _⟩
 cbv;have h0:c0=((t.getD 0 0).toNat:Int):=by subst hD;exact nA.h
 have h0':ur=c0:=by subst hD;exact JS.h.trans nA.h.symm
 have h1:c1=((t.getD 1 0).toNat:Int):=by subst hD;exact ep.h
 have h5:c5=((t.getD 5 0).toNat:Int):=by subst hD;exact hc5.h
 have cz:rp=t.drop 6:=by
  subst hD;have h:rp=(t.drop 6).take (((t.length:Int)).toNat-6):=IL.h;rw[h,XJ (by rw[QX];omega)]
 subst h0';refine⟨rp,rfl,rfl,λpl gP=>?_⟩;cbv;rw[cz]at gP;have dE:=Aoa (is:=is) (ht:=ht) h0 h1 h5 gP;have eY:=Aiv w;rw[<-OS,<-hb]at eY;refine br hD (λeE=>?_) (λeE=>?_)<;>cbv
 .have eE:((((((!is||!ht)||decide ((t.length:Int)<6))||((ur != 48)&&(ur != 49)))||(c1 != 32))||(c5 != 32))||!pl)=true:=by subst hD;exact eE
  rw[dE,XL]at eE;unfold Yk at hk;rw[eY,<-Bool.and_assoc is,eE,Bool.false_and]at hk;exact Vm hD hk V rfl
 have eE:((((((!is||!ht)||decide ((t.length:Int)<6))||((ur != 48)&&(ur != 49)))||(c1 != 32))||(c5 != 32))||!pl)=false:=by subst hD;exact eE
 rw[dE,XZ]at eE;simp only[QE]at eE;obtain⟨rfl,rfl,iF⟩:=eE;rw[iF,US,US]at eY;have yS:6<=t.length:=by
  unfold P6 at iF;simp only[XL,QU,QJ]at iF;omega
 have HD0:t.getD 0 0=48\/t.getD 0 0=49:=by
  unfold P6 at iF;simp only[XL,QU,ZA,bne_eq_false_iff_eq]at iF;exact iF.1.1.1.2
 have HT:dX 6 t.length:=⟨yS⟩;have HU:=Alh hb.symm;rw[<-OS]at HU;have EH0:oZ ur ((t.getD 0 0).toNat:Int):=⟨h0⟩;have aT2:dX t.length 302:=⟨by
  have:=ml.h;rw[OS,Lib.trimPrefix]
  split
  .rw[QX];omega
  .exact this⟩
 clear dE iF yS h0 h1 h5 nA JS ep hc5 gP OS hb ml IL cz;refine⟨by subst hD;exact⟨by decide,by decide,by show (5:Int)<=(t.length:Int);have:=HT.h;omega⟩,λd rJ=>?_⟩;cbv;have rJ:d=(t.drop 2).take 3:=by subst hD;exact rJ.h
 rw[<-rJ]at eY HU;have eh:dX d.length 3:=⟨by rw[rJ,QW];omega⟩;clear rJ;refine⟨d,rfl,rfl,by have:=eh.h;omega,λsv cg=>?_⟩;cbv;rw[<-cg]at eY HU;refine br hD (λeE=>?_) (λeE=>?_)<;>cbv
 .have eE:(decide (sv<100)||decide (599<sv))=true:=by subst hD;exact eE
  have hf:(decide (100<=sv)&&decide (sv<=599))=false:=by
   rw[ZA,QJ,QJ];simp only[XS,QG]at eE;omega
  unfold Yk at hk;rw[eY,hf]at hk;exact Vm hD hk V rfl
 have eE:(decide (sv<100)||decide (599<sv))=false:=by subst hD;exact eE
 have hf:(decide (100<=sv)&&decide (sv<=599))=true:=by
  rw[QE,QG,QG];simp only[QU,QJ]at eE;omega
 unfold Yk at hk;rw[eY,hf,HU]at hk;simp only[Bool.and_true,YK,XE,if_false]at hk;clear eE hf eY HU;obtain⟨B,hB⟩:∃B,B=b.drop (p+1):=⟨_,rfl⟩;rw[<-hB]at hk;have hBl:dX B.length 1000000:=⟨by rw[hB,QX];have:=HB.h;omega⟩;have si:IntKind.i64.wrap (q+1)=((p+1:Nat):Int):=by
  have:=HP3.h;rw[VQ.h,wrap64 (by omega) (by omega)];omega
 have EW:oZ (IntKind.i64.wrap (q+1)) ((p+1:Nat):Int):=⟨si⟩;clear si;refine⟨by subst hD;exact⟨by show (0:Int)<=IntKind.i64.wrap (q+1);rw[EW.h];omega,by show IntKind.i64.wrap (q+1)<=n;rw[EW.h,VB.h];have:=HP.h;omega,ZE _⟩,λf4 n4 cU=>?_⟩;cbv;have R4:Bo f4 n4 B:=by
  have:=R.sub (a:=p+1) (b:=b.length) cU (by subst hD;exact EW.h) (by subst hD;exact VB.h) HP.h (QK _);have e:(b.drop (p+1)).take (b.length-(p+1))=b.drop (p+1):=XJ (by rw[QX];exact QK _)
  rwa [e,<-hB]at this
 clear cU hB;refine⟨B,_,_,f4,rfl,rfl,by subst hD;exact R4,hBl.h,λl f5 n5 b5 kk ke hl G=>?_⟩;cbv;rw[<-hl]at hk;simp only at hk;refine br hD (λeE=>?_) (λeE=>?_)<;>cbv
 .have eE:(ke != 0)=true:=by subst hD;exact eE
  rw[QC (by simpa using eE)]at hk;exact Vm hD hk V (by subst hD;rfl)
 have eE:(ke != 0)=false:=by subst hD;exact eE
 rw[QA (by simpa using eE)]at hk;have HKK:0<=kk/\kk<=B.length:=by have:=Afw B;rw[<-hl]at this;exact this.2
 have HKB:MR 0 kk 1000000:=⟨HKK.1,by have:=hBl.h;omega⟩;have HPB:MR 0 (p:Int) 302:=⟨Int.natCast_nonneg _,by have:=HP3.h;omega⟩;clear eE hl HKK;refine⟨by subst hD;exact⟨by decide,by show (0:Int)<(t.length:Int);have:=HT.h;omega⟩,λc hc=>?_⟩;cbv;refine⟨by subst hD;exact⟨by decide,by show (6:Int)<=(t.length:Int);have:=HT.h;omega,ZE _⟩,λSQ yh=>?_⟩;cbv;have yh:SQ=t.drop 6:=by
  subst hD;have h:SQ=(t.drop 6).take (((t.length:Int)).toNat-6):=yh.h;rw[h,XJ (by rw[QX];omega)]
 have lH:c=((t.getD 0 0).toNat:Int):=by subst hD;exact hc.h
 clear hc;simp only[Prod.mk.injEq]at hk;obtain⟨rfl,rfl,rfl⟩:=hk;obtain⟨rfl,rfl,rfl,G2⟩:=V;refine uf ?_ (by subst hD;rfl) yh (Am3 G G2 (by subst hD;rfl) (by subst hD;rfl)) ?_ (by subst hD;rfl)
 .subst hD
  show IntKind.i64.wrap (IntKind.u8.wrap (c-48))=((t.getD 0 0).toNat:Int)-48;rw[lH];rcases HD0 with e|e<;>rw[e]<;>decide
 .subst hD
  show IntKind.i64.wrap (IntKind.i64.wrap (q+1)+kk)=(p:Int)+1+kk;have h5:IntKind.i64.wrap (q+1)=(p:Int)+1:=EW.h.trans (UT p 1);rw[h5];exact ic HPB HKB
set_option maxHeartbeats 8000000
def Wc(l:List HF)(t:List UInt8):Int:=if A9 l≠0 then A9 l else if Cb t then 0 else 2
def ri:aB:=λ_ xs ls K=>∃(l:List HF) (nl:Bool) (n:Int) (f:Nat->List SV) (t:List UInt8),xs=[.sl (.a nl) (.a n) 2 f,.str t]/\ls=[]/\A0 f n l/\t.length<=9223372036854775807/\∀e,e=Wc l t->K (.int .i64 (.a e)) []
theorem AZ:Ap Tryz.prog gl 176 ri:=by
 refine Bq (gh:=[]) mixed Ck (Aa Ia (Aa Gt Ae)) Tryz.func176 (by kernel_rfl) (by kernel_rfl) ?_;intro xs ls K h;unfold ri at h;obtain⟨l,nl,n,f,t,rfl,rfl,R,ht,h⟩:=h;obtain⟨k,hk⟩:∃k,k=Wc l t:=⟨_,rfl⟩;refine⟨_,_,h k hk,λD hD=>?_⟩;clear h;unfold Wc at hk;cbv;refine⟨l,_,_,f,rfl,rfl,by subst hD;exact R,λe he=>?_⟩;cbv;rw[<-he]at hk;refine br hD (λhb=>?_) (λhb=>?_)<;>cbv
 .have hb:(e != 0)=true:=by subst hD;exact hb
  rw[QC (by simpa using hb)]at hk;exact Bj hD hk.symm
 have hb:(e != 0)=false:=by subst hD;exact hb
 rw[QA (by simpa using hb)]at hk;refine⟨t,rfl,rfl,ht,λx hx=>?_⟩;cbv;rw[<-hx]at hk;refine br hD (λhb=>?_) (λhb=>?_)<;>cbv
 .have hb:(!x)=true:=by subst hD;exact hb
  rw[QA (by simpa using hb)]at hk;exact Bj hD hk.symm
 .have hb:(!x)=false:=by subst hD;exact hb
  rw[QC (by simpa using hb)]at hk;exact Bj hD hk.symm
structure BN(out:List (List UInt8))(b:Bool)(n g:Int)(f:Nat->List SV):Prop where
 eb:b=out.isEmpty
 en:n=out.length
 eg:g=out.length
 row:Dp f n out
def NR(a:Nat):List (Nat×Option SV):=[(7,some (.ptr a 0))]
def KH(c:LC):aB:=λ_ xs ls K=>∃(i:Int) (v:List UInt8) (out:List (List UInt8)) (b:Bool) (n g:Int) (f:Nat->List SV),
 xs=[.yv 0,.int .i64 (.a i),.str v]/\ls=[.bO c (NR 1) 0 none,.aF 111 [.cR (.a b) (.a n) (.a g) 2],.vec 9 (.a n) (.a g) 1 f]/\BN out b n g f/\out.length<=100/\
 ∀b' n' g' f',BN (out++[v]) b' n' g' f'->K (.bool (.a true)) [.bO c (NR 1) 0 none,.aF 111 [.cR (.a b') (.a n') (.a g') 2],.vec 9 (.a n') (.a g') 1 f']
def Anb(Y:aB):aB:=λ_ xs ls K=>∃(c:LC) (l:List HF) (nl:Bool) (n:Int) (f:Nat->List SV) (t:List UInt8) (b:Bool) (m g:Int) (h:Nat->List SV),Y=KH c/\
 xs=[.yv 0,.ptr 1 0,.ptr 2 0]/\ls=[.bO c (NR 3) 0 none,.aF 23 [.sl (.a nl) (.a n) 2 f],.aF 9 [.str t],.aF 111 [.cR (.a b) (.a m) (.a g) 4],.vec 9 (.a m) (.a g) 1 h]/\A0 f n l/\l.length<=100/\BN [] b m g h/\
 ∀b' m' g' h',BN (Dv l t) b' m' g' h'->K (.aI []) [.bO c (NR 3) 0 none,.aF 23 [.sl (.a nl) (.a n) 2 f],.aF 9 [.str t],.aF 111 [.cR (.a b') (.a m') (.a g') 4],.vec 9 (.a m') (.a g') 1 h']
structure GyJ(l:List HF)(t:List UInt8)(k out:List (List UInt8))(i:Nat)(I:Int)(m:Nat)(b:Bool)(n g:Int)(f:Nat->List SV):Prop where
 cG:AtR l i I m
 v:BN out b n g f
 ol:out.length<=i
 k:k=out++Dv (l.drop i) t
def gyJ(c:LC)(l:List HF)(t:List UInt8)(k:List (List UInt8))(nl:Bool)(n:Int)(f:Nat->List SV)(m:Nat)(vs:List (Option SV))(hp:List Hl):Prop :=
 ∃(out:List (List UInt8)) (i:Nat) (I:Int) (b:Bool) (n1 g:Int) (h:Nat->List SV),vs=[some (.yv 0),some (.ptr 2 0),some (.sl (.a nl) (.a n) 2 f),some (.int .i64 (.a n)),some (.int .i64 (.a I))]/\
  hp=[.bO c (NR 3) 0 none,.aF 23 [.sl (.a nl) (.a n) 2 f],.aF 9 [.str t],.aF 111 [.cR (.a b) (.a n1) (.a g) 4],.vec 9 (.a n1) (.a g) 1 h]/\GyJ l t k out i I m b n1 g h
theorem Ajk(Y:aB)(hY:DS Tryz.prog gl Y):Ap Tryz.prog gl 230 (Anb Y):=by
 refine RC (gh:=[]) (its:=[]) (yl:=[Y]) mixed Ck (Aa Kp Ae) ⟨λ_ h=>(by cases h),λZ h=>by rw[YQ]at h;subst h;exact hY⟩ Tryz.func230 (by kernel_rfl) (by kernel_rfl) ?_;intro xs ls K h;unfold Anb at h;obtain⟨c,l,nl,n,f,t,b,m0,g,hh,rfl,rfl,rfl,R,hl,V0,h⟩:=h;obtain⟨k,hk⟩:∃k,k=Dv l t:=⟨_,rfl⟩;rw[<-hk]at h;have mW:=Tm l t;rw[<-hk]at mW;obtain⟨b1,m1,g1,h1,VK⟩:∃b1 m1 g1 h1,BN k b1 m1 g1 h1:=⟨_,_,_,_,⟨rfl,rfl,rfl,Dp.row (l:=k) (by omega)⟩⟩;clear mW;have h:=h b1 m1 g1 h1 VK;refine⟨_,_,h,λD hD=>?_⟩;clear h;obtain⟨J,hJ⟩:∃J,J=gyJ c l t k nl n f:=⟨_,rfl⟩;cbv;refine⟨[0,2,6,7,8],J,⟨rfl,l.length,?_⟩,?_⟩
 .rw[hJ]
  subst hD;exact⟨[],0,0,_,_,_,_,rfl,rfl,AtR.zero R.len,V0,QK _,hk⟩
 intro m vs hp hj;rw[hJ]at hj;obtain⟨out,i,I,b2,m2,g2,h2,rfl,rfl,V⟩:=hj;clear hk;cbv;refine br hD (λh=>?_) (λh=>?_)<;>cbv
 .have aC:=V.cG.lt R.n (QT (p:=I<n) h)
  clear h;refine⟨V.cG.lY hD R.n aC,λj hj=>?_⟩;obtain rfl:=V.cG.j hD hj;clear hj;have e1:=R.f j aC;have eC:=R.small j aC;have aY:=V.k;rw[Hg (d:=default) aC,Aio]at aY;obtain⟨x,hx⟩:∃x,x=l.getD j default:=⟨_,rfl⟩;rw[<-hx]at e1 aY eC;obtain⟨a,v⟩:=x;obtain⟨s1,s2⟩:=V.cG.step hD aC
  generalize l.length-(j+1)=m' at s1 s2
  cbv;rw[e1];cbv;refine⟨a,rfl,rfl,eC.1,λz hz=>?_⟩;cbv;simp only at aY;rw[<-hz]at aY;refine br hD (λh=>?_) (λh=>?_)<;>cbv
  .have h3:(z==t)=true:=by subst hD;exact h
   clear h;rw[QC h3]at aY;refine⟨I,v,out,b2,m2,g2,h2,by subst hD;rfl,by subst hD;rfl,V.v,by have:=V.ol;omega,λb3 m3 g3 PB V3=>?_⟩;cbv;refine br hD (λh=>?_) (λh=>?_)<;>cbv
   .exact absurd h (by simp[BT.den])
   refine⟨m',s1,?_⟩;rw[hJ];unfold gyJ;cbv;subst hD;exact⟨out++[v],j+1,_,b3,m3,g3,PB,rfl,rfl,s2,V3,by have:=V.ol;rw[QF];simp only[QH,QV];omega,by rw[aY];simp⟩
  .have h3:(z==t)=false:=by subst hD;exact h
   clear h;rw[QA (by rw[h3];simp)]at aY;refine br hD (λh=>?_) (λh=>?_)<;>cbv
   .exact absurd h (by rw[BT.den,BT.den];simp[BT.den,h3])
   refine⟨m',s1,?_⟩;rw[hJ];unfold gyJ;cbv;subst hD;exact⟨out,j+1,_,b2,m2,g2,h2,rfl,rfl,s2,V.v,by have:=V.ol;omega,aY⟩
 .have hi:=V.cG.eq R.n (XA (p:=I<n) h)
  have aY:=V.k;rw[hi,XR]at aY;clear h;have aY:k=out:=by rw[aY];exact YT _
  subst aY;subst hD;refine⟨aM.refl _,Ct (cL.cons (λ_ _ _ h=>h) (cL.cons (Ao (.cons (aM.refl _) .nil)) (cL.cons (Ao (.cons (aM.refl _) .nil)) (cL.cons (Ao (.cons (RG (by exact V.v.eb.trans VK.eb.symm) (by exact V.v.en.trans VK.en.symm) (by exact V.v.eg.trans VK.eg.symm)) .nil)) (cL.cons (It (by exact V.v.en.trans VK.en.symm) (by exact V.v.eg.trans VK.eg.symm) λi hi=>?_) λ_ _ _ _ h=>h))))),QK _⟩;have hi:(i:Int)<m2:=hi;have:=V.v.en;rw[V.v.row.f i (by omega),VK.row.f i (by omega)]
structure GkI(l:List HF)(t:List UInt8)(e:Int)(r:List (List UInt8)):Prop where
 ee:e=Wc l t
 er:r=if Wc l t=0 then Dv l (bH t) else []
def af:aB:=λ_ xs ls K=>∃(l:List HF) (nl:Bool) (n:Int) (f:Nat->List SV) (t:List UInt8),xs=[.sl (.a nl) (.a n) 2 f,.str t]/\ls=[]/\A0 f n l/\t.length<=9223372036854775807/\
 ∀r e g n' b,GkI l t e r->vH g n' b r->K (.aI [.sl (.a b) (.a n') 1 g,.int .i64 (.a e)]) []
theorem oh:Ap Tryz.prog gl 126 af:=by
 refine RC (gh:=[(4,[.rN 7 0 9]),(2000008,[.fX 7 0])]) (its:=[(230,Anb)]) (yl:=[]) mixed Ck (Aa AZ (Al Ace Ae)) ⟨λx h Y hY=>by rw[YQ]at h;subst h;exact Ajk Y hY,λ_ h=>(by cases h)⟩ Tryz.func126 (by kernel_rfl) (by kernel_rfl) ?_;intro xs ls K h;unfold af at h;obtain⟨l,nl,n,f,t,rfl,rfl,R,ht,h⟩:=h;obtain⟨e,he⟩:∃e,e=Wc l t:=⟨_,rfl⟩;obtain⟨r,hr⟩:∃r,r=if Wc l t=0 then Dv l (bH t) else []:=⟨_,rfl⟩
 have uK:r.length<=9223372036854775807:=by
  rw[hr]
  split
  .have:=Tm l (bH t);have:=R.len;omega
  .simp
 obtain⟨g,n',b,G⟩:∃g n' b,vH g n' b r:=⟨_,_,_,⟨Dp.row uK,rfl⟩⟩;refine⟨_,_,h r e g n' b ⟨he,hr⟩ G,λD hD=>?_⟩;clear h uK;rw[<-he]at hr;cbv;refine⟨l,_,_,f,t,rfl,rfl,by subst hD;exact R,ht,λe2 oT=>?_⟩;cbv;obtain rfl:e2=e:=oT.trans he.symm;refine br hD (λhb=>?_) (λhb=>?_)<;>cbv
 .have hb:(e2 != 0)=true:=by subst hD;exact hb
  rw[QA (by simpa using hb)]at hr;subst hr;subst hD;exact Cm (.aI (.cons (RF vH.nil G rfl rfl) (.cons (Af rfl) .nil)))
 have hb:e2=0:=by
  have hb:(e2 != 0)=false:=by subst hD;exact hb
  simpa using hb
 rw[QC hb]at hr;have hl:l.length<=100:=by
  rw[hb]at he;refine D6 ?_;unfold Wc at he
  by_cases g:A9 l=0
  .exact g
  .rw[QC g]at he;exact he.symm
 clear oT;refine⟨_,_,f,t,rfl,rfl,ht,λs hs=>?_⟩;cbv;rw[<-hs]at hr;clear hs;intro c hc;refine⟨[7],KH c,?_,?_⟩
 .rintro xs ls K' ⟨i,v,out,b1,n1,g1,f1,rfl,rfl,V,yp,h1⟩
  refine⟨⟨_,rfl⟩,?_⟩;obtain⟨b2,n2,g2,f2,V2⟩:∃b2 n2 g2 f2,BN (out++[v]) b2 n2 g2 f2:=⟨_,_,_,_,⟨rfl,rfl,rfl,Dp.row (l:=out++[v]) (by rw[QF];simp only[QH,QV];omega)⟩⟩;refine⟨_,_,h1 b2 n2 g2 f2 V2,?_⟩;clear h1;cbv;intro f3 eV;cbv;have en:=V.en;have NB:dX out.length 100:=⟨yp⟩;have VN:VI n1 out.length:=⟨en⟩;clear en yp;refine⟨by subst hD;exact⟨rfl,by show (n1+1) * 16<=_;rw[VN.h];have:=NB.h;omega,by show n1+1<=_;rw[VN.h];have:=NB.h;omega⟩,by subst hD;exact⟨rfl⟩,λf4 n4 hm g4 iD=>?_⟩;cbv;have nH:f3 0=[.str v]:=eV.h 0 _ rfl;have R4:Dp f4 n4 (out++[v]):=V.row.more nH (by subst hD;exact hm) (by have:=NB.h;omega);have e4:g4=g2:=by
   have h:g4=g1+1:=by subst hD;exact iD.h
   rw[h,V.eg,V2.eg,QF];rfl
  have eb:b2=false:=by rw[V2.eb];cases out<;>rfl
  have aJ:n4=n2/\∀i:Nat,(i:Int)<n4->f4 i=f2 i:=by
   have e1:=R4.n;refine⟨e1.trans V2.en.symm,λi hi=>?_⟩;rw[R4.f i (by omega),V2.row.f i (by omega)]
  clear hm eV iD;subst hD e4 eb;exact⟨aM.refl _,Ct (cL.cons (λ_ _ _ h=>h) (cL.cons (Ao (.cons (RG (by exact ZO _) (by exact aJ.1) rfl) .nil)) (cL.cons (It (by exact aJ.1) rfl (by exact aJ.2)) λ_ _ _ _ h=>h))),QK _⟩
 .cbv
  refine⟨c,l,_,_,f,s,D.b (.l true),D.i (.l 0),D.i (.l 0),λ_=>[],rfl,rfl,rfl,by subst hD;exact R,hl,by subst hD;exact⟨rfl,rfl,rfl,vH.nil.row⟩,λb1 n1 g1 f1 V1=>?_⟩;cbv;rw[<-hr]at V1;refine⟨by subst hD;exact⟨⟨rfl⟩,⟨rfl⟩⟩,?_⟩;subst hD;exact Cm (.aI (.cons (RF ⟨V1.row,V1.eb⟩ G rfl rfl) (.cons (Af (by exact hb.symm)) .nil)))
def Ik(l:List HF)(t:List UInt8):List (List UInt8):=if Wc l t=0 then Dv l (bH t) else []
theorem Aa0(l:List HF)(t:List UInt8):(Ik l t).length<=100/\∀v∈Ik l t,v.length<=2000:=by
 unfold Ik
 split
 .rename_i h
  have hc:A9 l=0:=by
   unfold Wc at h
   by_cases g:A9 l=0
   .exact g
   .rw[QC g]at h;exact h
  have hl:=D6 hc;refine⟨XP (Tm l _) hl,λv hv=>?_⟩;obtain⟨_,h2,_⟩:=(Ic l).1 hc;unfold Dv at hv;obtain⟨x,hx,rfl⟩:=List.mem_map.1 hv;exact (h2 x (List.mem_filter.1 hx).1).len
 .exact⟨by simp,λv hv=>by cases hv⟩
structure VrI(l:List HF)(t:List UInt8)(out:List (List UInt8))(th ok:Bool):Prop where
 eo:out=(Cc (Ik l t)).getD []
 et:th=!(Ik l t).isEmpty
 ek:ok=(Cc (Ik l t)).isSome
def vN:aB:=λ_ xs ls K=>∃(l:List HF) (nl:Bool) (n:Int) (f:Nat->List SV) (t:List UInt8),xs=[.sl (.a nl) (.a n) 2 f,.str t]/\ls=[]/\A0 f n l/\t.length<=9223372036854775807/\
 ∀out th ok g n' b,VrI l t out th ok->vH g n' b out->K (.aI [.sl (.a b) (.a n') 1 g,.bool (.a th),.bool (.a ok)]) []
structure VrJ(r:List (List UInt8))(k:Option (List (List UInt8)))(O:List (List UInt8))(i:Nat)(I:Int)(m:Nat)(n:Int)(b:Bool)(f:Nat->List SV):Prop where
 cG:AtR r i I m
 row:vH f n b O
 ol:O.length<=2001 * i
 k:k=(Cc (r.drop i)).map λL=>O++L
def vrJ(r:List (List UInt8))(k:Option (List (List UInt8)))(rb:Bool)(rn:Int)(rf:Nat->List SV)(m:Nat)(vs:List (Option SV))(hp:List Hl):Prop :=
 ∃(O:List (List UInt8)) (i:Nat) (I n:Int) (b:Bool) (f:Nat->List SV),vs=[some (.dO (.a b) (.a n) 1 f 0),some (.sl (.a rb) (.a rn) 1 rf),some (.sl (.a rb) (.a rn) 1 rf),some (.int .i64 (.a rn)),some (.int .i64 (.a I))]/\hp=[.tail 9 (.a n) 1]/\VrJ r k O i I m n b f
structure ai2(kG X O:List (List UInt8))(B:Nat)(j:Nat)(Jx:Int)(m:Nat)(n:Int)(b:Bool)(f:Nat->List SV):Prop where
 cG:AtR kG j Jx m
 row:vH f n b O
 ol:O.length<=B+j
 x:X=O++(kG.drop j).map bH
def EP(kG X:List (List UInt8))(B:Nat)(rb:Bool)(rn:Int)(rf:Nat->List SV)(I:Int)(eb:Bool)(en:Int)(ef:Nat->List SV)(m:Nat)(vs:List (Option SV))(hp:List Hl):Prop :=
 ∃(O:List (List UInt8)) (j:Nat) (Jx n:Int) (b:Bool) (f:Nat->List SV),vs=[some (.dO (.a b) (.a n) 1 f 0),some (.sl (.a rb) (.a rn) 1 rf),some (.sl (.a rb) (.a rn) 1 rf),some (.int .i64 (.a rn)),some (.int .i64 (.a I)),some (.sl (.a eb) (.a en) 1 ef),some (.int .i64 (.a en)),some (.int .i64 (.a Jx))]/\hp=[.tail 9 (.a n) 1]/\ai2 kG X O B j Jx m n b f
theorem Vv:∀(r:List (List UInt8)) (L:List (List UInt8)),Cc r=some L->L.length<=2001 * r.length
 | [],L,h=>by cases h;simp
 |v :: r,L,h=>by
  unfold Cc at h
  split at h
  .cases hr:Cc r with
   |none=>rw[hr]at h;cases h
   |some L' =>
    rw[hr]at h;simp only[QQ,Option.some.injEq]at h;subst h;have h1:=Vv r L' hr;have h2:=(Dr v).1;rw[QF,XW,QH];omega
  .cases h
structure BW(r:List (List UInt8)):Prop where
 len:r.length<=100
 h:∀v∈r,v.length<=2000
theorem Tk:Ap Tryz.prog gl 63 vN:=by
 refine Bq (gh:=[(0,[.attach 4 9])]) mixed Ck (Aa oh (Aa Se (Aa Kp Ae))) Tryz.func63 (by kernel_rfl) (by kernel_rfl) ?_;intro xs ls K h;unfold vN at h;obtain⟨l,nl,n,f,t,rfl,rfl,R,ht,h⟩:=h;obtain⟨r,hr⟩:∃r,r=Ik l t:=⟨_,rfl⟩;have eC:=Aa0 l t;rw[<-hr]at eC;have hAL:BW r:=⟨eC.1,eC.2⟩;obtain⟨k,hk⟩:∃k,k=Cc r:=⟨_,rfl⟩;obtain⟨out,ho⟩:∃out,out=k.getD []:=⟨_,rfl⟩;have yp:out.length<=9223372036854775807:=by
  rw[ho];cases aY:k with
  |none=>simp
  |some L=>have:=Vv r L (by rw[<-hk,aY]);have:=eC.1;simp only[XD];omega
 obtain⟨th,VT⟩:∃th,th=!r.isEmpty:=⟨_,rfl⟩;obtain⟨ok,gE⟩:∃ok,ok=k.isSome:=⟨_,rfl⟩;obtain⟨g',n',b',G⟩:∃g n' b,vH g n' b out:=⟨_,_,_,⟨Dp.row yp,rfl⟩⟩;have h:=h out th ok g' n' b' ⟨by rw[ho,hk,hr],by rw[VT,hr],by rw[gE,hk,hr]⟩ G;clear eC yp;refine⟨_,_,h,λD hD=>?_⟩;clear h;cbv;refine⟨l,_,_,f,t,rfl,rfl,by subst hD;exact R,ht,λr2 e2 rf rn rb PA G2=>?_⟩;obtain rfl:r2=r:=by rw[hr];exact PA.er
 clear PA hr;cbv;obtain⟨J,hJ⟩:∃J,J=vrJ r2 k rb rn rf:=⟨_,rfl⟩;refine⟨[4,7,21,22,23],J,⟨rfl,r2.length,?_⟩,?_⟩
 .rw[hJ]
  subst hD;exact⟨[],0,_,_,_,_,rfl,rfl,⟨AtR.zero (by have:=hAL.len;omega),vH.nil,QK _,by rw[hk,ZT];cases Cc r2<;>rfl⟩⟩
 clear hk;intro m vs hp hj;rw[hJ]at hj;obtain⟨O,i,I,n1,b1,f1,rfl,rfl,V⟩:=hj;cbv;refine br hD (λhb=>?_) (λhb=>?_)<;>cbv
 .have aC:=V.cG.lt G2.row.n (QT (p:=I<rn) hb)
  clear hb;have VM:th=true:=by rw[VT];cases r2 with
   |nil=>simp at aC
   |cons=>rfl
  refine⟨V.cG.lY hD G2.row.n aC,λj hj=>?_⟩;obtain rfl:=V.cG.j hD hj;clear hj;have e1:=G2.row.f j aC;have aY:=V.k;rw[Hg (d:=[]) aC]at aY;have cg:(r2.getD j []).length<=2000:=hAL.h _ (by rw[QD,QB aC];exact XO aC);obtain⟨v,hv⟩:∃v,v=r2.getD j []:=⟨_,rfl⟩;rw[<-hv]at e1 aY cg;have HV:dX v.length 2000:=⟨cg⟩;obtain⟨s1,s2⟩:=V.cG.step hD aC;have HJ:dX j 100:=⟨by have:=hAL.len;omega⟩
  generalize r2.length-(j+1)=m' at s1 s2
  clear cg;cbv;rw[e1];cbv;refine⟨v,rfl,rfl,by have:=HV.h;omega,λkG e en enb hle hn iK=>?_⟩;cbv;rw[Cc]at aY;obtain⟨uW,ec⟩:kG=(A5 v).1/\e=(A5 v).2:=by rw[<-hle];exact⟨rfl,rfl⟩
  have mD:kG.length<=2001/\∀x∈kG,x.length<=2000:=by rw[uW];exact Dr v
  rw[<-uW,<-ec]at aY;clear hle uW ec iK;refine br hD (λhb=>?_) (λhb=>?_)<;>cbv
  .have hb:(e != 0)=true:=by subst hD;exact hb
   rw[QA (by simpa using hb)]at aY;have lG:k=none:=aY;have WN:out=[]:=by rw[ho,lG];rfl
   have yq:ok=false:=by rw[gE,lG];rfl
   subst VM WN yq;subst hD;exact Cm (.aI (.cons (RF vH.nil G rfl rfl) (.cons (aM.refl _) (.cons (aM.refl _) .nil))))
  have hb:e=0:=by
   have hb:(e != 0)=false:=by subst hD;exact hb
   simpa using hb
  rw[QC hb]at aY;clear hb;have RE:Dp (Fc kG) en kG:=by rw[hn];exact Dp.row (by omega)
  have HE:dX kG.length 2001:=⟨mD.1⟩;obtain⟨ef,zj⟩:∃ef,ef=Fc kG:=⟨_,rfl⟩;rw[<-zj]at RE;rw[<-zj];clear hn zj;obtain⟨X,hX⟩:∃X,X=O++kG.map bH:=⟨_,rfl⟩;obtain⟨B,hB⟩:∃B,B=2001 * j:=⟨_,rfl⟩;have HB:dX B 200100:=⟨by have:=HJ.h;omega⟩;have lG:k=(Cc (r2.drop (j+1))).map λL=>X++L:=by
   rw[aY,hX];cases Cc (r2.drop (j+1)) with
   |none=>rfl
   |some L=>simp
  have yp:O.length<=B:=by rw[hB];exact V.ol
  have gw:B+2001<=2001 * (j+1):=by omega
  have hB3:dX (B+2001) (2001 * (j+1)):=⟨gw⟩;clear aY hB gw;obtain⟨J2,xG⟩:∃J2,J2=EP kG X B rb rn rf I enb en ef:=⟨_,rfl⟩;refine⟨[4,7,21,22,23,34,35,36],J2,⟨rfl,kG.length,?_⟩,?_⟩
  .rw[xG]
   subst hD;exact⟨O,0,_,_,_,_,rfl,rfl,⟨AtR.zero RE.len,V.row,by omega,by rw[hX,ZT]⟩⟩
  clear hX yp;intro m2 vs hp hj;rw[xG]at hj;obtain⟨O2,i2,I2,n2,b2,f2,rfl,rfl,V2⟩:=hj;cbv;refine br hD (λhb=>?_) (λhb=>?_)<;>cbv
  .have eS:=V2.cG.lt RE.n (QT (p:=I2<en) hb)
   clear hb;refine⟨V2.cG.lY hD RE.n eS,λj2 hj=>?_⟩;obtain rfl:=V2.cG.j hD hj;clear hj;have e2:=RE.f j2 eS;have xX:=V2.x;rw[Hg (d:=[]) eS,UY]at xX;have cg:(kG.getD j2 []).length<=2000:=mD.2 _ (by rw[QD,QB eS];exact XO eS);obtain⟨w,hw⟩:∃w,w=kG.getD j2 []:=⟨_,rfl⟩;rw[<-hw]at e2 xX cg;have HW:dX w.length 2000:=⟨cg⟩;have HO2:dX O2.length 202101:=⟨by have:=V2.ol;have:=HE.h;have:=HB.h;omega⟩;have VO:VI n2 O2.length:=⟨V2.row.row.n⟩;obtain⟨s3,s4⟩:=V2.cG.step hD eS
   generalize kG.length-(j2+1)=m3 at s3 s4
   clear cg;cbv;rw[e2];cbv;refine⟨w,rfl,rfl,by have:=HW.h;omega,λz hz=>?_⟩;cbv;have hz:z=bH w:=hz;rw[<-hz]at xX;clear hz;intro g3 gA;cbv;have nH:g3 0=[.str z]:=gA.h 0 _ rfl;clear gA;refine⟨by subst hD;exact⟨rfl,by show (n2+1) * 16<=_;rw[VO.h];have:=HO2.h;omega,by show n2+1<=_;rw[VO.h];have:=HO2.h;omega⟩,λf4 n4 hm=>?_⟩;cbv;have G4:∀dJ,dJ=false->vH f4 n4 dJ (O2++[z]):=λdJ hb=>⟨V2.row.row.more nH (by subst hD;exact hm) (by have:=HO2.h;omega),by rw[hb];simp⟩;clear hm;refine⟨m3,s3,?_⟩;rw[xG];unfold EP;subst hD;exact⟨O2++[z],j2+1,_,n4,(b2&&false),f4,rfl,rfl,⟨s4,G4 _ (ZO _),by have:=V2.ol;rw[QF];simp only[QH,QV];omega,by rw[xX];simp⟩⟩
  .have hi:=V2.cG.eq RE.n (XA (p:=I2<en) hb)
   have xX:=V2.x;rw[hi,XR,List.map_nil,YT]at xX;clear hb;subst xX;refine⟨m',s1,?_⟩;rw[hJ];unfold vrJ;subst hD;exact⟨X,j+1,_,n2,b2,f2,rfl,rfl,⟨s2,V2.row,by have:=V2.ol;have:=HE.h;have:=hB3.h;omega,lG⟩⟩
 .have hi:=V.cG.eq G2.row.n (XA (p:=I<rn) hb)
  have aY:=V.k;rw[hi,XR]at aY;have lG:k=some O:=by rw[aY];simp[Cc]
  have WN:out=O:=by rw[ho,lG];rfl
  have yq:ok=true:=by rw[gE,lG];rfl
  have VJ:th=decide (0<rn):=by
   rw[VT,G2.row.n];cases r2 with
   |nil=>rfl
   |cons a l=>symm;rw[List.isEmpty_cons,Bool.not_false,QG,QH];omega
  clear hb;subst WN yq;subst hD;exact Cm (.aI (.cons (RF V.row G rfl rfl) (.cons (Dh (by exact VJ.symm)) (.cons (aM.refl _) .nil))))
def Vc(l:List (List UInt8))(x:List UInt8):Nat->Int
 |i=>match l with
  | []=>-1
  |y :: r=>if x=y then i else Vc r x (i+1)
def GQ(l:List (List UInt8))(x:List UInt8)(k:Int)(nl:Bool)(n:Int)(f:Nat->List SV)(m:Nat)(vs:List (Option SV))(hp:List Hl):Prop :=
 ∃(i:Nat) (I:Int),vs=[some (.sl (.a nl) (.a n) 1 f),some (.str x),some (.int .i64 (.a n)),some (.int .i64 (.a I))]/\hp=[]/\AtR l i I m/\k=Vc (l.drop i) x i
def zU:aB:=λ_ xs ls K=>∃(l:List (List UInt8)) (x:List UInt8) (nl:Bool) (n:Int) (f:Nat->List SV),xs=[.sl (.a nl) (.a n) 1 f,.str x]/\ls=[]/\Dp f n l/\∀k,k=Vc l x 0->K (.int .i64 (.a k)) []
theorem l8:Ap Tryz.prog gl 138 zU:=by
 refine Bq (gh:=[]) mixed Ck Ae Tryz.func138 (by kernel_rfl) (by kernel_rfl) ?_;intro xs ls K h;unfold zU at h;obtain⟨l,x,nl,n,f,rfl,rfl,R,h⟩:=h;obtain⟨k,hk⟩:∃k,k=Vc l x 0:=⟨_,rfl⟩;refine⟨_,_,h k hk,λD hD=>?_⟩;clear h;cbv;obtain⟨J,hJ⟩:∃J,J=GQ l x k nl n f:=⟨_,rfl⟩;refine⟨[0,1,7,8],J,⟨rfl,l.length,?_⟩,?_⟩
 .rw[hJ]
  subst hD;exact⟨0,_,rfl,rfl,AtR.zero R.len,hk⟩
 clear hk;intro m vs hp hj;rw[hJ]at hj;obtain⟨i,I,rfl,rfl,V,hk⟩:=hj;cbv;refine br hD (λhb=>?_) (λhb=>?_)<;>cbv
 .have aC:=V.lt R.n (QT (p:=I<n) hb)
  clear hb;refine⟨V.lY hD R.n aC,λj hj=>?_⟩;obtain rfl:=V.j hD hj;clear hj;have e1:=R.f j aC;rw[Hg (d:=[]) aC,Vc]at hk;obtain⟨y,hy⟩:∃y,y=l.getD j []:=⟨_,rfl⟩;rw[<-hy]at e1 hk;have hI:=V.I;have VI2:VI I j:=⟨hI⟩;clear hI;obtain⟨s1,s2⟩:=V.step hD aC
  generalize l.length-(j+1)=m' at s1 s2
  cbv;rw[e1];cbv;refine br hD (λhb=>?_) (λhb=>?_)<;>cbv
  .have hb:(x==y)=true:=by subst hD;exact hb
   rw[QC (eq_of_beq hb)]at hk;exact Bj hD (by rw[hk];exact VI2.h)
  .have hb:(x==y)=false:=by subst hD;exact hb
   rw[QA (by simpa using hb)]at hk;refine⟨m',s1,?_⟩;rw[hJ];unfold GQ;subst hD;exact⟨j+1,_,rfl,rfl,s2,hk⟩
 .have hi:=V.eq R.n (XA (p:=I<n) hb)
  rw[hi,XR]at hk;clear hb;exact Bj hD (by rw[hk];rfl)
def wS:aB:=λ_ xs ls K=>∃(l:List (List UInt8)) (x:List UInt8) (nl:Bool) (n:Int) (f:Nat->List SV),xs=[.sl (.a nl) (.a n) 1 f,.str x]/\ls=[]/\Dp f n l/\∀k,k=l.contains x->K (.bool (.a k)) []
theorem Ye:∀(l:List (List UInt8)) (x:List UInt8) (i:Nat),decide (0<=Vc l x i)=l.contains x
 | [],x,i=>rfl
 |y :: r,x,i=>by
  show decide (0<=(if x=y then (i:Int) else Vc r x (i+1)))=_
  by_cases e:x=y
  .rw[QC e,List.contains_cons,e];simp
  .rw[QA e,List.contains_cons,Ye r x (i+1)]
   have:(x==y)=false:=by simpa using e
   rw[this,UB]
theorem An8:Ap Tryz.prog gl 80 wS:=by
 refine Bq (gh:=[]) mixed Ck (Aa l8 Ae) Tryz.func80 (by kernel_rfl) (by kernel_rfl) ?_;intro xs ls K h;unfold wS at h;obtain⟨l,x,nl,n,f,rfl,rfl,R,h⟩:=h;obtain⟨k,hk⟩:∃k,k=l.contains x:=⟨_,rfl⟩;refine⟨_,_,h k hk,λD hD=>?_⟩;clear h;cbv;refine⟨l,x,_,_,f,rfl,rfl,by subst hD;exact R,λk2 aY=>?_⟩;cbv;refine Ar hD ?_;show decide (0<=k2)=k;rw[aY,hk,Ye]
def KP(a b:List (List UInt8))(k:Bool)(na nb:Bool)(A B:Int)(f g:Nat->List SV)(m:Nat)(vs:List (Option SV))(hp:List Hl):Prop :=
 ∃(i:Nat) (I:Int),vs=[some (.sl (.a na) (.a A) 1 f),some (.sl (.a nb) (.a B) 1 g),some (.int .i64 (.a A)),some (.int .i64 (.a I))]/\hp=[]/\AtR a i I m/\k=(a.drop i==b.drop i)
theorem AG:Ap Tryz.prog gl 66 pN:=by
 refine Bq (gh:=[]) mixed Ck Ae Tryz.func66 (by kernel_rfl) (by kernel_rfl) ?_;intro xs ls K h;unfold pN at h;obtain⟨a,b,na,nb,A,B,f,g,rfl,rfl,R,S,h⟩:=h;obtain⟨k,hk⟩:∃k,k=(a==b):=⟨_,rfl⟩;refine⟨_,_,h k hk,λD hD=>?_⟩;clear h;have hAB:(A != B)=!(decide (a.length=b.length)):=by
  rw[R.n,S.n,XY,bne_iff_ne,XL,QJ];omega
 cbv;refine br hD (λhb=>?_) (λhb=>?_)<;>cbv
 .have hb:(A != B)=true:=by subst hD;exact hb
  rw[hAB,XL,QJ]at hb;refine Ar hD ?_;rw[hk];have h0:(a==b)=false:=by
   rw[beq_eq_false_iff_ne];intro e;rw[e]at hb;exact hb rfl
  exact h0.symm
 have hlen:a.length=b.length:=by
  have hb:(A != B)=false:=by subst hD;exact hb
  rw[hAB,XZ,QG]at hb;exact hb
 clear hb hAB;obtain⟨J,hJ⟩:∃J,J=KP a b k na nb A B f g:=⟨_,rfl⟩;refine⟨[0,1,12,13],J,⟨rfl,a.length,?_⟩,?_⟩
 .rw[hJ]
  subst hD;exact⟨0,_,rfl,rfl,AtR.zero R.len,hk⟩
 clear hk;intro m vs hp hj;rw[hJ]at hj;obtain⟨i,I,rfl,rfl,V,hk⟩:=hj;cbv;refine br hD (λhb=>?_) (λhb=>?_)<;>cbv
 .have aC:=V.lt R.n (QT (p:=I<A) hb)
  clear hb;have di:i<b.length:=by omega
  have lY:fv (D.i (.a I)) (D.i (.a B)):=by
   have:=V.I;have:=S.n;subst hD;exact⟨by show 0<=I;omega,by show I<B;omega⟩
  refine⟨V.lY hD R.n aC,λj hj=>?_⟩;obtain rfl:=V.j hD hj;clear hj;have e1:=R.f j aC;have e2:=S.f j di;rw[Hg (d:=[]) aC,Hg (d:=[]) di]at hk;obtain⟨y,hy⟩:∃y,y=a.getD j []:=⟨_,rfl⟩;obtain⟨z,hz⟩:∃z,z=b.getD j []:=⟨_,rfl⟩;rw[<-hy]at e1 hk;rw[<-hz]at e2 hk;obtain⟨s1,s2⟩:=V.step hD aC
  generalize a.length-(j+1)=m' at s1 s2
  cbv;rw[e1];cbv;refine⟨lY,λj2 rH=>?_⟩;obtain rfl:j=j2:=(V.j hD rH).symm;clear rH;cbv;rw[e2];cbv;refine br hD (λhb=>?_) (λhb=>?_)<;>cbv
  .have hb:(y != z)=true:=by subst hD;exact hb
   refine Ar hD ?_;rw[hk];have h0:(y :: a.drop (j+1)==z :: b.drop (j+1))=false:=by
    rw[beq_eq_false_iff_ne];intro e;rw[bne_iff_ne]at hb;exact hb (List.cons.inj e).1
   exact h0.symm
  .have hb:(y != z)=false:=by subst hD;exact hb
   have hb:y=z:=by simpa using hb
   refine⟨m',s1,?_⟩;rw[hJ];unfold KP;subst hD;refine⟨_,_,rfl,rfl,s2,?_⟩;rw[hk,hb,XY,QO,QO];exact⟨λe=>(List.cons.inj e).2,λe=>by rw[e]⟩
 .have hi:=V.eq R.n (XA (p:=I<A) hb)
  rw[hi,XR,hlen,XR]at hk;clear hb;exact Ar hD (by rw[hk];rfl)
def vY:aB:=λ_ xs ls K=>∃(l:List (List UInt8)) (dF:Bool) (nl:Bool) (n:Int) (f:Nat->List SV),xs=[.sl (.a nl) (.a n) 1 f,.bool (.a dF)]/\ls=[]/\Dp f n l/\(∀x∈l,x.length<=9223372036854775807)/\∀r e,(r,e)=(if dF then Fs l else (0,6))->K (.aI [.int .i64 (.a r),.int .i64 (.a e)]) []
structure SzI(l:List (List UInt8))(v r e:Int)(i:Nat)(I:Int)(m:Nat):Prop where
 cG:AtR l i I m
 k:(r,e)=if (l.drop i).all (λs=>decide (0<=J7 s)&&(J7 s==v)) then (if 65536<v then (0,3) else (v,0)) else (0,6)
def szJ(l:List (List UInt8))(v r e:Int)(nl:Bool)(n:Int)(f:Nat->List SV)(m:Nat)(vs:List (Option SV))(hp:List Hl):Prop :=
 ∃(i:Nat) (I:Int),vs=[some (.int .i64 (.a v)),some (.sl (.a nl) (.a n) 1 f),some (.int .i64 (.a n)),some (.int .i64 (.a I))]/\hp=[]/\SzI l v r e i I m
theorem Alm:Ap Tryz.prog gl 68 vY:=by
 refine Bq (gh:=[]) mixed Ck (Aa Sf Ae) Tryz.func68 (by kernel_rfl) (by kernel_rfl) ?_;intro xs ls K h;unfold vY at h;obtain⟨l,dF,nl,n,f,rfl,rfl,R,eC,h⟩:=h;obtain⟨r,e,hk⟩:∃r e,(r,e)=(if dF then Fs l else (0,6)):=⟨_,_,rfl⟩;refine⟨_,_,h r e hk,λD hD=>?_⟩;clear h;have oR:(n==0)=l.isEmpty:=by
  rw[R.n];cases l with
  |nil=>rfl
  |cons a b=>rw[List.isEmpty_cons,beq_eq_false_iff_ne,QH];omega
 cbv;refine br hD (λhb=>?_) (λhb=>?_)<;>cbv
 .have hb:(!dF||(n==0))=true:=by subst hD;exact hb
  rw[oR]at hb;have aY:(r,e)=(0,6):=by
   rw[hk];cases dF with
   |false=>rfl
   |true =>
    cases l with
    |nil=>rfl
    |cons=>cases hb
  obtain⟨rfl,rfl⟩:=Prod.mk.inj aY;subst hD;exact Cm (.aI (.cons (Af rfl) (.cons (Af rfl) .nil)))
 have hb:(!dF||(n==0))=false:=by subst hD;exact hb
 rw[oR,QU,XZ]at hb;obtain⟨rfl,bA⟩:=hb;clear oR;have yz:0<l.length:=by
  cases l with
  |nil=>cases bA
  |cons a b=>simp
 have e0:=R.f 0 yz;obtain⟨x,hx⟩:∃x,x=l.getD 0 []:=⟨_,rfl⟩;have nZ:x.length<=9223372036854775807:=eC _ (by rw[hx,QD,QB yz];exact XO yz);obtain⟨v,hv⟩:∃v,v=J7 x:=⟨_,rfl⟩;have aY:(r,e)=if (l.drop 0).all (λs=>decide (0<=J7 s)&&(J7 s==v)) then (if 65536<v then (0,3) else (v,0)) else (0,6):=by
  rw[hk,QC rfl,hv,hx];cases l with
  |nil=>cases bA
  |cons a b=>rfl
 rw[<-hx]at e0;clear hk bA;refine⟨by subst hD;exact⟨by decide,by show (0:Int)<n;rw[R.n];omega⟩,λj hj=>?_⟩;have y9:j=0:=by
  have h2:(j:Int)=0:=by subst hD;exact hj.h
  omega
 subst y9;clear hj;cbv;rw[e0];cbv;refine⟨x,rfl,rfl,nZ,λv2 jY=>?_⟩;obtain rfl:v2=v:=jY.trans hv.symm;cbv;obtain⟨J,hJ⟩:∃J,J=szJ l v2 r e nl n f:=⟨_,rfl⟩;refine⟨[6,21,22,23],J,⟨rfl,l.length,?_⟩,?_⟩
 .rw[hJ]
  subst hD;exact⟨0,_,rfl,rfl,AtR.zero R.len,aY⟩
 clear aY;intro m vs hp hj;rw[hJ]at hj;obtain⟨i,I,rfl,rfl,V⟩:=hj;cbv;refine br hD (λhb=>?_) (λhb=>?_)<;>cbv
 .have aC:=V.cG.lt R.n (QT (p:=I<n) hb)
  clear hb;refine⟨V.cG.lY hD R.n aC,λj hj=>?_⟩;obtain rfl:=V.cG.j hD hj;clear hj;have e1:=R.f j aC;have hk:=V.k;rw[Hg (d:=[]) aC,List.all_cons]at hk;have xw:(l.getD j []).length<=9223372036854775807:=eC _ (by rw[QD,QB aC];exact XO aC);obtain⟨y,hy⟩:∃y,y=l.getD j []:=⟨_,rfl⟩;rw[<-hy]at e1 hk xw;obtain⟨s1,s2⟩:=V.cG.step hD aC
  generalize l.length-(j+1)=m' at s1 s2
  cbv;rw[e1];cbv;refine⟨y,rfl,rfl,xw,λu hu=>?_⟩;rw[<-hu]at hk;cbv;refine br hD (λhb=>?_) (λhb=>?_)<;>cbv
  .have hb:(decide (u<0)||(u != v2))=true:=by subst hD;exact hb
   have hf:(decide (0<=u)&&(u==v2))=false:=by
    rw[ZA];rcases Bool.or_eq_true_iff.1 hb with h|h
    .left;rw[QJ];have:=QT h;omega
    .right;simpa using h
   rw[hf]at hk;obtain⟨rfl,rfl⟩:=Prod.mk.inj hk;subst hD;exact Cm (.aI (.cons (Af rfl) (.cons (Af rfl) .nil)))
  .have hb:(decide (u<0)||(u != v2))=false:=by subst hD;exact hb
   have hf:(decide (0<=u)&&(u==v2))=true:=by
    rw[QU]at hb;rw[QE];refine⟨?_,by simpa using hb.2⟩;rw[QG];have:=XA hb.1;omega
   rw[hf,US]at hk;refine⟨m',s1,?_⟩;rw[hJ];unfold szJ;subst hD;exact⟨j+1,_,rfl,rfl,s2,hk⟩
 .have hi:=V.cG.eq R.n (XA (p:=I<n) hb)
  have hk:=V.k;rw[hi,XR,List.all_nil,QC rfl]at hk;clear hb;refine br hD (λhb=>?_) (λhb=>?_)<;>cbv
  .have hb:decide (65536<v2)=true:=by subst hD;exact hb
   rw[QC (QT hb)]at hk;obtain⟨rfl,rfl⟩:=Prod.mk.inj hk;subst hD;exact Cm (.aI (.cons (Af rfl) (.cons (Af rfl) .nil)))
  .have hb:decide (65536<v2)=false:=by subst hD;exact hb
   rw[QA (XA hb)]at hk;obtain⟨rfl,rfl⟩:=Prod.mk.inj hk;subst hD;exact Cm (.aI (.cons (Af rfl) (.cons (Af rfl) .nil)))
end Go.Proofs.YtdoogdbjiijifaaGreatDoor
