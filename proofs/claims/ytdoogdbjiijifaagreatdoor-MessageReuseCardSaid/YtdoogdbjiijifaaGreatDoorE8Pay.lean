/- A part of the proof: contracts of functions, or the executor and its soundness. No conditions. -/
import Derived.Test.YtdoogdbjiijifaaGreatDoorE8Pax
import Derived.Test.YtdoogdbjiijifaaGreatDoorE8Pat
import Derived.Test.YtdoogdbjiijifaaGreatDoorE8Pau
import Derived.Test.YtdoogdbjiijifaaGreatDoorE8Pas
import Derived.Test.YtdoogdbjiijifaaGreatDoorE8Pav
namespace Go.Proofs.YtdoogdbjiijifaaGreatDoor
open Go Go.Sx Go.RowKit
set_option maxRecDepth 100000
set_option maxHeartbeats 6000000
theorem Aj6:Ap Tryz.prog [] 115 pU:=by
 refine Bv (gh:=[]) mixed Ck Ae Tryz.func115 (by kernel_rfl) (by kernel_rfl) ?_;intro xs ls K h;unfold pU at h;obtain⟨x,rfl,rfl,h⟩:=h;obtain⟨k,hk⟩:∃k,k=H5 x:=⟨_,rfl⟩;refine⟨_,_,h k hk,λD hD=>?_⟩;clear h;cbv;refine Aw hD ?_;rw[hk];have e1:((x:Int)=9)↔x=9:=by omega
 have e2:((x:Int)<32)↔x<32:=by omega
 have e3:((126:Int)<x)↔126<x:=by omega
 simp only[BT.den,Bz,ST.den,H5];rw[XX];simp only[QE,XR,bne_iff_ne,QJ,ZG];constructor
 .rintro⟨h1,h2⟩
  exact⟨λe=>h1 (e1.2 e),h2.imp (λe=>e2.1 (by first|exact e|exact QT e)) (λe=>e3.1 (by first|exact e|exact QT e))⟩
 .rintro⟨h1,h2⟩
  exact⟨λe=>h1 (e1.1 e),h2.imp (λe=>by first|exact e2.2 e|exact ZN (e2.2 e)) (λe=>by first|exact e3.2 e|exact ZN (e3.2 e))⟩
theorem Ajt:∀args w,(callFunc 115 args).run Tryz.prog w=.ok (.enter 115 args) w:=enters_of Tryz.func115 (by kernel_rfl) rfl
theorem Adu(w:World):PredGrows Tryz.prog 115 #[] H5 w:=by
 intro W x _ _;obtain⟨r,aK,⟨hr,hl⟩,hc⟩:=Aj6.2 [.int .i32 (.a (x:Int))] [] (λr aK=>r=.bool (.a (H5 x))/\aK=[]) ⟨x,rfl,rfl,λr hr=>by rw[hr];exact⟨rfl,rfl⟩⟩;subst hr hl;refine W8 (gl:=[]) hc (λg s h=>by simp[Sx.look]at h) (by simp[encR]) λi s v a b=>?_;cases i with
 |zero=>simp[encR]at a b;subst a b;exact .int rfl
 |succ i=>simp at a
def uq:aB:=λ_ xs ls K=>∃(s:List UInt8),xs=[.str s,.fn 115]/\ls=[]/\∀r,decide (r<0)=D3 s->r=Lib.idxFunc H5 true (Sx.bytes s)->K (.int .i64 (.a r)) []
theorem ju:Ap Tryz.prog gl 114 uq:=by
 refine⟨⟨Tryz.f114,_,Tryz.func114,rfl,by kernel_rfl⟩,λxs ls K h=>?_⟩;obtain⟨s,rfl,rfl,h⟩:=h;have hd:decide (Lib.idxFunc H5 true (Sx.bytes s)<0)=D3 s:=by
  have:=Us (Sx.bytes s) (Sx.bytes s).size 0 (by omega);have h2:decide (0<=Lib.idxFunc H5 true (Sx.bytes s))=!D3 s:=this;have h3:decide (Lib.idxFunc H5 true (Sx.bytes s)<0)=!decide (0<=Lib.idxFunc H5 true (Sx.bytes s)):=by
   rw[XX];simp
  rw[h3,h2,Bool.not_not]
 refine⟨_,_,h _ hd rfl,Bg λE B w aX _ _ _ hr=>?_⟩;obtain⟨v,g,rfl,hu,xz⟩:=D0 hr;rw[Cr hu,xz.qH];refine (Hq 115 #[] Ajt H5 (Sx.bytes s) w (Adu w)).mono ?_;rintro e w' ⟨rfl,hB⟩;exact⟨_,rfl,λE=>.ro (.int rfl),hB⟩
theorem Afx:Ap Tryz.prog gl 56 jT:=by
 refine Bv (gh:=[]) mixed Ck (Ab ju Ae) Tryz.func56 (by kernel_rfl) (by kernel_rfl) ?_;intro xs ls K h;unfold jT at h;obtain⟨s,rfl,rfl,h⟩:=h;obtain⟨k,hk⟩:∃k,k=D3 s:=⟨_,rfl⟩;refine⟨_,_,h k hk,λD hD=>?_⟩;clear h;cbv;refine⟨s,rfl,rfl,λr hr _=>?_⟩;cbv;refine Aw hD ?_;rw[hk,<-hr];rfl
def uw:aB:=λ_ xs ls K=>∃(s:List UInt8) (n:Int),xs=[.str s]/\ls=[]/\s.length<=18/\Lib.atoi s=some n/\K (.aJ [.int .i64 (.a n),.raw .nilIface]) []
theorem ob:Ap Tryz.prog gl 117 uw:=by
 refine⟨⟨Tryz.f117,_,Tryz.func117,rfl,by kernel_rfl⟩,λxs ls K h=>?_⟩;obtain⟨s,n,rfl,rfl,hs,hn,h⟩:=h;refine⟨_,_,h,Bg λE B w aX _ _ _ hr=>?_⟩;obtain⟨v,rfl,hv⟩:=Oh hr;rw[Cr hv];refine (R5 ⟨s.toArray⟩ n (by simpa[ByteArray.size] using hs) (by simpa using hn) w).mono ?_;rintro e w' ⟨rfl,t,rfl⟩;refine⟨_,rfl,λE=>.aJ rfl λi s v a b=>?_,⟨rfl,rfl,rfl,by rw[Lib.bytesWorld_size];omega,λj hj=>Lib.bytesWorld_at_old w 5 t j hj⟩⟩
 match i,a,b with
 |0,a,b=>cases a;cases b;exact .ro (.int rfl)
 |1,a,b=>cases a;cases b;exact .ro (.raw rfl)
 |i+2,a,b=>simp at a
theorem Pf:∀(l:List UInt8) (acc:Nat),(∀c∈l,48<=c.toNat/\c.toNat<=57)->Lib.decFrom acc l=some (W4 acc l)
 | [],acc,_=>rfl
 |c :: r,acc,h=>by
  have hc:=h c (XA ..);have aY:c≠45:=by rintro rfl;exact absurd hc.1 (by decide)
  have hd:Lib.digitVal c=some (c.toNat-48):=by unfold Lib.digitVal;simp;omega
  rw[Lib.decFrom,hd,W4,QA aY];exact Pf r _ λd hd=>h d (XB _ hd)
theorem Am8{s:List UInt8}(h:Qo s=true)(hl:1<=s.length):Lib.atoi s=some (W4 0 s:Int):=by
 match s,hl with
 |c :: r,_ =>
  have hd:=Afg h;have hc:=hd c (XA ..);have h45:(c==45)=false:=by rw[beq_eq_false_iff_ne];rintro rfl;exact absurd hc.1 (by decide)
  have h43:(c==43)=false:=by rw[beq_eq_false_iff_ne];rintro rfl;exact absurd hc.1 (by decide)
  show (if (c==45)=true then (Lib.decNat r).map λ(m:Nat)=>-(m:Int) else if (c==43)=true then (Lib.decNat r).map λ(m:Nat)=>(m:Int) else (Lib.decNat (c :: r)).map λ(m:Nat)=>(m:Int))=_;rw[h45,h43];simp only[XD,if_false];unfold Lib.decNat;rw[QA (by simp),Pf _ _ hd];rfl
def zN:aB:=λ_ xs ls K=>∃(s:List UInt8),xs=[.str s]/\ls=[]/\s.length<=9223372036854775807/\∀r,r=Js s->K (.int .i64 (.a r)) []
theorem Rr:Ap Tryz.prog gl 57 zN:=by
 refine Bv (gh:=[]) mixed Ck (Ab I3 (Ab ob Ae)) Tryz.func57 (by kernel_rfl) (by kernel_rfl) ?_;intro xs ls K h;unfold zN at h;obtain⟨s,rfl,rfl,hs,h⟩:=h;obtain⟨k,hk⟩:∃k,k=Js s:=⟨_,rfl⟩;refine⟨_,_,h k hk,λD hD=>?_⟩;clear h;unfold Js at hk;obtain⟨N,hN⟩:∃N:Int,N=(s.length:Int):=⟨_,rfl⟩;cbv;refine⟨s,AX,rfl,rfl,hs,by decide,by decide,λt ht=>?_⟩;cbv;have SH:(t==[])=Qo s:=by
  rw[XX,QS,ht];exact Ams s
 refine br hD (λhb=>?_) (λhb=>?_)<;>cbv
 .have hb:((decide ((s.length:Int)<1)||decide (10<(s.length:Int)))||!(t==[]))=true:=by subst hD;exact hb
  refine B6 hD ?_;rw[SH]at hb;rw[hk,QA]
  .rfl
  .simp only[XR,QE,XO,QJ]at hb ⊢
   rintro⟨⟨h1,h2⟩,h3⟩;rcases hb with (h|h)|h
   .omega
   .omega
   .rw[h3]at h;cases h
 have hb:((decide ((s.length:Int)<1)||decide (10<(s.length:Int)))||!(t==[]))=false:=by subst hD;exact hb
 rw[SH]at hb;simp only[XC,ZO,QL]at hb;obtain⟨⟨h1,h2⟩,h3⟩:=hb;rw[QB (by simp only[QE,QJ];exact⟨⟨by omega,by omega⟩,h3⟩)]at hk;have ha:Lib.atoi s=some k:=by rw[hk];exact Am8 h3 (by omega)
 clear ht SH;refine⟨s,k,rfl,rfl,by omega,ha,?_⟩;cbv;exact B6 hD rfl
def ub(mi st:Int)(re:List UInt8)(nl:Bool)(n:Int)(f:Nat->List SV):SV:=.agg [.int .i64 (.a mi),.int .i64 (.a st),.str re,.sl (.a nl) (.a n) 2 f]
structure oq(h:qL)(mi st:Int)(n:Int)(f:Nat->List SV):Prop where
 CI:mi=h.minor
 za:st=h.status
 row:A5 f n h.fields
def rN:aB:=λ_ xs ls K=>∃(hd:qL) (mi st:Int) (re:List UInt8) (nl:Bool) (n:Int) (f:Nat->List SV),xs=[ub mi st re nl n f]/\ls=[]/\oq hd mi st n f/\∀e,e=H3 hd->K (.int .i64 (.a e)) []
theorem Ajl:Ap Tryz.prog gl 62 rN:=by
 refine Bv (gh:=[]) mixed Ck (Ab H0 Ae) Tryz.func62 (by kernel_rfl) (by kernel_rfl) ?_;intro xs ls K h;unfold rN at h;obtain⟨hd,mi,st,re,nl,n,f,rfl,rfl,V,h⟩:=h;obtain⟨k,hk⟩:∃k,k=H3 hd:=⟨_,rfl⟩;refine⟨_,_,h k hk,λD hD=>?_⟩;clear h;unfold ub;unfold H3 at hk;rw[<-V.CI,<-V.za]at hk;cbv;refine br hD (λhb=>?_) (λhb=>?_)<;>cbv
 .have hb:((((mi != 0)&&(mi != 1))||decide (st<100))||decide (599<st))=true:=by subst hD;exact hb
  refine B6 hD ?_;rw[hk,QB]
  .rfl
  .simp only[XR,QE,bne_iff_ne,QJ]at hb
   omega
 have hb:((((mi != 0)&&(mi != 1))||decide (st<100))||decide (599<st))=false:=by subst hD;exact hb
 rw[QA (by simp only[XC,ZI,bne_eq_false_iff_eq,QL]at hb;omega)]at hk;clear hb;refine⟨hd.fields,_,_,f,rfl,rfl,by subst hD;exact V.row,λe he=>?_⟩;cbv;exact B6 hD (he.trans hk.symm)
open Go Go.Sx
def Kb(x:bN)(nb:Bool)(n:Int)(f:Nat->List SV)(nn:Bool)(nl g:Int):List SV :=
 [.str x.m,.int .i64 (.a x.ph),.int .i64 (.a x.inf),.str x.ln,.int .i64 (.a x.mi),.int .i64 (.a x.st),.str x.re,.sl (.a x.fb) (.a x.fl) 2 x.ff,.int .i64 (.a x.fr),.str x.bo,.int .i64 (.a x.lf),
  .int .i64 (.a x.cp),.str x.cl,.str x.cd,.int .i64 (.a x.cf),.sl (.a x.cb) (.a x.ct) 2 x.ctf,.sl (.a nb) (.a n) 1 f,.cP (.a nn) (.a nl) (.a g) 1]
def bN.nm(D:Dn)(x:bN):bN:=⟨x.m,D.i (.a x.ph),D.i (.a x.inf),x.ln,D.i (.a x.mi),D.i (.a x.st),x.re,D.b (.a x.fb),D.i (.a x.fl),x.ff,D.i (.a x.fr),x.bo,D.i (.a x.lf),D.i (.a x.cp),x.cl,x.cd,D.i (.a x.cf),D.b (.a x.cb),D.i (.a x.ct),x.ctf⟩
def yN:aB:=λ_ xs ls K=>∃(x:bN) (b:List UInt8) (k:Nat) (kI:Int) (nb:Bool) (n:Int) (f:Nat->List SV) (nn:Bool) (nl g:Int) (nf:Nat->List SV),
 xs=[.ptr 0 0,.int .i64 (.a kI)]/\ls=[.aG 125 (Kb x nb n f nn nl g),.vec 5 (.a nl) (.a g) 1 nf]/\kI=(k:Int)/\Bl f n b/\k<=b.length/\b.length<=1000000/\x.bo.length<=1000000/\
 ∀tE n' f',tE=x.bo++b.take k->Bl f' n' (b.drop k)->K (.aJ []) [.aG 125 (Kb { x with bo:=tE } nb n' f' nn nl g),.vec 5 (.a nl) (.a g) 1 nf]
theorem Afy:Ap Tryz.prog gl 136 yN:=by
 refine Bq (gh:=[]) mixed Ee Ae Tryz.func136 (by kernel_rfl) (by kernel_rfl) ?_;intro xs ls K h;unfold yN at h;obtain⟨x,b,k,kI,nb,n,f,nn,nl,g,nf,rfl,rfl,hk,R,kY,hb,jL,h⟩:=h;obtain⟨T,hT⟩:∃T,T=b.drop k:=⟨_,rfl⟩;obtain⟨N,VN⟩:∃N:Int,VI N T.length:=⟨_,⟨rfl⟩⟩;obtain⟨B,hB⟩:∃B,B=x.bo++b.take k:=⟨_,rfl⟩;have RT:Bl (aU T) N T:=⟨VN.h,λi _=>rfl⟩;have h:=h B N (aU T) hB (by rw[<-hT];exact RT);have VK:VI kI k:=⟨hk⟩;have VB:VI n b.length:=⟨R.n⟩;have HK:eU k b.length:=⟨kY⟩;have HB:eU b.length 1000000:=⟨hb⟩;have HO:eU x.bo.length 1000000:=⟨jL⟩;clear hk kY hb jL;refine⟨_,_,h,λD hD=>?_⟩;clear h;obtain⟨m,ph,inf,ln,mi,st,re,fb,fl,ff,fr,bo,lf,cp,cl,cd,cf,cb,ct,ctf⟩:=x;cbv;refine⟨by subst hD;exact⟨ZC _,by show (0:Int)<=kI;rw[VK.h];omega,by show kI<=n;rw[VK.h,VB.h];have:=HK.h;omega⟩,λf1 n1 cT=>?_⟩;cbv;have R1:Bl f1 n1 (b.take k):=by
  have:=R.sub (a:=0) (b:=k) cT (by subst hD;rfl) (by subst hD;exact VK.h) (ZB _) HK.h;simpa using this
 clear cT;refine⟨by subst hD;exact R1.byte,λs hs=>?_⟩;cbv;have hs:s=b.take k:=by subst hD;exact R1.str hs
 have bD:s.length<=1000000:=by rw[hs,QZ];have:=HB.h;omega
 refine⟨⟨by have h2:bo.length<=1000000:=HO.h;omega⟩,λr hr=>?_⟩;cbv;have hr:r=B:=by rw[hB,hr.h,hs]
 clear R1 hs bD;refine⟨by subst hD;exact⟨by show (0:Int)<=kI;rw[VK.h];omega,by show kI<=n;rw[VK.h,VB.h];have:=HK.h;omega,ZC _⟩,λf2 n2 cT=>?_⟩;cbv;have R2:Bl f2 n2 T:=by
  have:=R.sub (a:=k) (b:=b.length) cT (by subst hD;exact VK.h) (by subst hD;exact VB.h) HK.h (QH _);have e:(b.drop k).take (b.length-k)=b.drop k:=XI (by rw[QY];exact QH _);rw[e,<-hT]at this;exact this
 clear cT;have e1:=R2.n;have e2:=VN.h;subst hD hr;refine⟨aO.refl _,Cn (cI.cons (Ao (.cons (Cj _) (.cons (Ai rfl) (.cons (Ai rfl) (.cons (Cj _) (.cons (Ai rfl) (.cons (Ai rfl) (.cons (Cj _) (.cons (aO.refl _) (.cons (Ai rfl) (.cons (Cj _) (.cons (Ai rfl) (.cons (Ai rfl) (.cons (Cj _) (.cons (Cj _) (.cons (Ai rfl) (.cons (aO.refl _) (.cons (aO.sl rfl (by exact e1.trans e2.symm) λi hi=>?_) (.cons (aO.refl _) .nil))))))))))))))))))) λ_ _ _ _ h=>h),QH _⟩;have hi:(i:Int)<n2:=hi;rw[R2.f i (by omega)];rfl
variable {mi wF st qM n n':ST}{re t:List UInt8}{nb nb':BT}{f f':Nat->List SV}{x y:Bool}{i:Nat}
theorem Rd{ph eV inf tP fl yB fr nU lf gX cp yG cf yH ct pN nl dJ g g':ST}{m ln bo cl cd:List UInt8}{fb yD cb qV nn kT:BT}{ff yC ctf gH:Nat->List SV}
  (h1:ph.den=eV.den) (h2:inf.den=tP.den) (h3:mi.den=wF.den) (h4:st.den=qM.den) (h5:aO (.sl fb fl 2 ff) (.sl yD yB 2 yC)) (h6:fr.den=nU.den) (h7:lf.den=gX.den) (h8:cp.den=yG.den) (h9:cf.den=yH.den) (jN:aO (.sl cb ct 2 ctf) (.sl qV pN 2 gH)) (mj:aO (.sl nb n 1 f) (.sl nb' n' 1 f')) (JA:aO (.cP nn nl g 1) (.cP kT dJ g' 1)):
  iM [.str m,.int .i64 ph,.int .i64 inf,.str ln,.int .i64 mi,.int .i64 st,.str re,.sl fb fl 2 ff,.int .i64 fr,.str bo,.int .i64 lf,.int .i64 cp,.str cl,.str cd,.int .i64 cf,.sl cb ct 2 ctf,.sl nb n 1 f,.cP nn nl g 1]
   [.str m,.int .i64 eV,.int .i64 tP,.str ln,.int .i64 wF,.int .i64 qM,.str re,.sl yD yB 2 yC,.int .i64 nU,.str bo,.int .i64 gX,.int .i64 yG,.str cl,.str cd,.int .i64 yH,.sl qV pN 2 gH,.sl nb' n' 1 f',.cP kT dJ g' 1] :=
 .cons (Cj _) (.cons (Ai h1) (.cons (Ai h2) (.cons (Cj _) (.cons (Ai h3) (.cons (Ai h4) (.cons (Cj _) (.cons h5 (.cons (Ai h6) (.cons (Cj _) (.cons (Ai h7) (.cons (Ai h8) (.cons (Cj _) (.cons (Cj _) (.cons (Ai h9) (.cons jN (.cons mj (.cons JA .nil)))))))))))))))))
theorem Qc{N N':Int}(R:Bl f N t)(R':Bl f' N' t)(h:nb.den=nb'.den)(hn:n.den=N)(xV:n'.den=N'):aO (.sl nb n 1 f) (.sl nb' n' 1 f'):=by
 have e1:=R.n;have e2:=R'.n;refine aO.sl h (by omega) λi hi=>?_;rw[R.f i (by omega),R'.f i (by omega)]
def rB:aB:=λ_ xs ls K=>∃(x:bN) (b:List UInt8) (k:Nat) (nb:Bool) (n:Int) (f:Nat->List SV) (nn:Bool) (nl g:Int) (nf:Nat->List SV),
 xs=[.ptr 0 0]/\ls=[.aG 125 (Kb x nb n f nn nl g),.vec 5 (.a nl) (.a g) 1 nf]/\(k:Int)=min x.lf (b.length:Int)/\Bl f n b/\b.length<=1000000/\x.bo.length<=1000000/\0<=x.lf/\x.lf<=1000000/\
 ∀eV tE gX n' f',eV=(if x.lf-(k:Int)=0 then 2 else x.ph)->tE=x.bo++b.take k->gX=x.lf-(k:Int)->Bl f' n' (b.drop k)->K (.int .i64 (.a 0)) [.aG 125 (Kb { x with ph:=eV,bo:=tE,lf:=gX } nb n' f' nn nl g),.vec 5 (.a nl) (.a g) 1 nf]
theorem Ahw:Ap Tryz.prog gl 77 rB:=by
 refine Bq (gh:=[]) mixed Ee (Al Afy Ae) Tryz.func77 (by kernel_rfl) (by kernel_rfl) ?_;intro xs ls K h;unfold rB at h;obtain⟨x,b,k,nb,n,f,nn,nl,g,nf,rfl,rfl,hk,R,hb,jL,qP,xp,h⟩:=h;obtain⟨T,hT⟩:∃T,T=b.drop k:=⟨_,rfl⟩;obtain⟨N,VN⟩:∃N:Int,VI N T.length:=⟨_,⟨rfl⟩⟩;obtain⟨B,hB⟩:∃B,B=x.bo++b.take k:=⟨_,rfl⟩;obtain⟨W,hW⟩:∃W:Int,W=x.lf-(k:Int):=⟨_,rfl⟩;obtain⟨P,hP⟩:∃P:Int,P=if W=0 then 2 else x.ph:=⟨_,rfl⟩
 have RT:Bl (aU T) N T:=⟨VN.h,λi _=>rfl⟩;have h:=h P B W N (aU T) (by rw[hP,hW]) hB hW (by rw[<-hT];exact RT);have VB:VI n b.length:=⟨R.n⟩;have HB:eU b.length 1000000:=⟨hb⟩;have HO:eU x.bo.length 1000000:=⟨jL⟩;obtain⟨LF,WQ⟩:∃LF,LF=x.lf:=⟨_,rfl⟩;obtain⟨PH,WN⟩:∃PH,PH=x.ph:=⟨_,rfl⟩;obtain⟨BO,ew⟩:∃BO,BO=x.bo:=⟨_,rfl⟩;rw[<-WQ]at hk qP xp hW;rw[<-WN]at hP;rw[<-ew]at hB;have mH:k<=b.length:=by omega
 have RV:IntKind.i64.wrap (LF-(k:Int))=W:=by rw[hW];exact wrap64 (by omega) (by omega)
 have EK:oH (k:Int) (min LF (b.length:Int)):=⟨hk⟩;obtain⟨KI,WR⟩:∃KI:Int,KI=(k:Int):=⟨_,rfl⟩;rw[<-WR]at RV;have EW:oH (IntKind.i64.wrap (LF-KI)) W:=⟨RV⟩;have HK:eU k b.length:=⟨mH⟩;clear hk hb jL qP xp mH RV;refine⟨_,_,h,λD hD=>?_⟩;clear h;obtain⟨m,ph,inf,ln,mi,st,re,fb,fl,ff,fr,bo,lf,cp,cl,cd,cf,cb,ct,ctf⟩:=x;simp only at WQ WN ew;subst WQ WN ew;cbv;intro r hr;cbv;have hr:r=KI:=by
  have h1:r=min LF n:=by subst hD;exact hr.h
  rw[h1,WR,EK.h,VB.h]
 subst hr;refine⟨bN.nm D ⟨m,PH,inf,ln,mi,st,re,fb,fl,ff,fr,BO,LF,cp,cl,cd,cf,cb,ct,ctf⟩,b,k,D.i (.a r),D.b (.a nb),D.i (.a n),f,D.b (.a nn),D.i (.a nl),D.i (.a g),nf,rfl,rfl,by subst hD;exact WR,by subst hD;exact R,HK.h,HB.h,HO.h,λbo2 n2 f2 fX R2=>?_⟩;cbv;have fX:bo2=B:=fX.trans hB.symm;rw[<-hT]at R2;subst fX;refine br hD (λhb=>?_) (λhb=>?_)<;>cbv
 .have hb:(IntKind.i64.wrap (LF-r)==0)=true:=by subst hD;exact hb
  rw[EW.h,QS]at hb;rw[QB hb]at hP;subst hD hP;exact⟨Ai rfl,Cn (cI.cons (Ao (Rd rfl rfl rfl rfl (aO.refl _) rfl (by exact EW.h) rfl rfl (aO.refl _) (Qc R2 RT rfl rfl rfl) (aO.refl _))) λ_ _ _ _ h=>h),QH _⟩
 .have hb:(IntKind.i64.wrap (LF-r)==0)=false:=by subst hD;exact hb
  rw[EW.h,beq_eq_false_iff_ne]at hb;rw[QA hb]at hP;subst hD hP;exact⟨Ai rfl,Cn (cI.cons (Ao (Rd rfl rfl rfl rfl (aO.refl _) rfl (by exact EW.h) rfl rfl (aO.refl _) (Qc R2 RT rfl rfl rfl) (aO.refl _))) λ_ _ _ _ h=>h),QH _⟩
theorem Kl{t t':ST}{a b:Hl}(he:t.den=t'.den):Fin (.int .i64 t) (.int .i64 t') [a,b] [.gone,.gone]:=by
 refine⟨Ai he,λh E w hk=>?_,QH _⟩
 match h with
 |0=>trivial
 |1=>trivial
 |h+2=>exact hk
def pA:aB:=λ_ xs ls K=>∃(x:bN) (b:List UInt8) (nb:Bool) (n:Int) (f:Nat->List SV) (nn:Bool) (nl g:Int) (nf:Nat->List SV),
 xs=[.ptr 0 0]/\ls=[.aG 125 (Kb x nb n f nn nl g),.vec 5 (.a nl) (.a g) 1 nf]/\Bl f n b/\b.length<=1000000/\x.bo.length<=1000000/\
 (65536<x.bo.length+b.length->K (.int .i64 (.a 3)) [.gone,.gone])/\
 (x.bo.length+b.length<=65536->∀tE n' f',tE=x.bo++b->Bl f' n' []->K (.int .i64 (.a 0)) [.aG 125 (Kb { x with bo:=tE } nb n' f' nn nl g),.vec 5 (.a nl) (.a g) 1 nf])
theorem Afi:Ap Tryz.prog gl 79 pA:=by
 refine Bq (gh:=[]) mixed Ee (Al Afy Ae) Tryz.func79 (by kernel_rfl) (by kernel_rfl) ?_;intro xs ls K h;unfold pA at h;obtain⟨x,b,nb,n,f,nn,nl,g,nf,rfl,rfl,R,hb,jL,h1,h2⟩:=h;obtain⟨B,hB⟩:∃B,B=x.bo++b:=⟨_,rfl⟩;have VB:VI n b.length:=⟨R.n⟩;have HB:eU b.length 1000000:=⟨hb⟩;have HO:eU x.bo.length 1000000:=⟨jL⟩;have R0:Bl (λ_=>[]) 0 []:=⟨rfl,λi hi=>by cases hi⟩;obtain⟨BO,ew⟩:∃BO,BO=x.bo:=⟨_,rfl⟩;obtain⟨W,hW⟩:∃W:Int,W=IntKind.i64.wrap ((BO.length:Int)+n):=⟨_,rfl⟩;have hw:W=(BO.length:Int)+b.length:=by rw[hW,VB.h];rw[ew];exact wrap64 (by omega) (by omega)
 have EW:oH W (IntKind.i64.wrap ((BO.length:Int)+n)):=⟨hW⟩;clear hW;rw[<-ew]at hB h1 h2
 by_cases oR:65536<BO.length+b.length
 .have hd:decide (65536<W)=true:=by rw[hw,QJ];omega
  refine⟨_,_,h1 oR,λD hD=>?_⟩;clear h1 h2 hw hb jL;obtain⟨m,ph,inf,ln,mi,st,re,fb,fl,ff,fr,bo,lf,cp,cl,cd,cf,cb,ct,ctf⟩:=x;simp only at ew;subst ew;cbv;refine br hD (λhb=>?_) (λhb=>?_)<;>cbv
  .subst hD;exact Kl rfl
  .exfalso
   have hb:decide (65536<IntKind.i64.wrap ((BO.length:Int)+n))=false:=by subst hD;exact hb
   rw[<-EW.h,hd]at hb;cases hb
 .have hd:decide (65536<W)=false:=by rw[hw,QL];omega
  have h:=h2 (by omega) B 0 (λ_=>[]) hB R0;refine⟨_,_,h,λD hD=>?_⟩;clear h1 h2 h hw hb jL;obtain⟨m,ph,inf,ln,mi,st,re,fb,fl,ff,fr,bo,lf,cp,cl,cd,cf,cb,ct,ctf⟩:=x;simp only at ew;subst ew;cbv;refine br hD (λhb=>?_) (λhb=>?_)<;>cbv
  .exfalso
   have hb:decide (65536<IntKind.i64.wrap ((BO.length:Int)+n))=true:=by subst hD;exact hb
   rw[<-EW.h,hd]at hb;cases hb
  refine⟨bN.nm D ⟨m,ph,inf,ln,mi,st,re,fb,fl,ff,fr,BO,lf,cp,cl,cd,cf,cb,ct,ctf⟩,b,b.length,D.i (.a n),D.b (.a nb),D.i (.a n),f,D.b (.a nn),D.i (.a nl),D.i (.a g),nf,rfl,rfl,by subst hD;exact VB.h,by subst hD;exact R,QH _,HB.h,HO.h,λbo2 n2 f2 fX R2=>?_⟩;cbv;have hbx:bo2=B:=by rw[fX,hB,YQ];rfl
  clear fX;rw[XQ]at R2;subst hD hbx;exact⟨Ai rfl,Cn (cI.cons (Ao (Rd rfl rfl rfl rfl (aO.refl _) rfl rfl rfl rfl (aO.refl _) (Qc R2 R0 rfl rfl rfl) (aO.refl _))) λ_ _ _ _ h=>h),QH _⟩
def mV:aB:=λ_ xs ls K=>∃(x:bN) (s:Ch) (b:List UInt8) (nb:Bool) (n:Int) (f:Nat->List SV) (nn:Bool) (nl g:Int) (nf:Nat->List SV),
 xs=[.ptr 0 0]/\ls=[.aG 125 (Kb x nb n f nn nl g),.vec 5 (.a nl) (.a g) 1 nf]/\x.cl=s.line/\x.cd=s.data/\AQ s x.cp x.cf x.ct x.ctf/\Iz s/\(s.phase=4->In s.aE)/\Bl f n b/\b.length<=1000000/\
 ∀k,k=Bj s b->(k.2.2≠0->K (.int .i64 (.a k.2.2)) [.gone,.gone])/\
  (k.2.2=0->∀eV yG yH qV pN gH n' f',AQ k.1 yG yH pN gH->qV=jS s k.1 x.cb->eV=(if k.1.phase=4 then 2 else x.ph)->Bl f' n' (b.drop k.2.1)->
   K (.int .i64 (.a 0)) [.aG 125 (Kb { x with ph:=eV,cp:=yG,cl:=k.1.line,cd:=k.1.data,cf:=yH,cb:=qV,ct:=pN,ctf:=gH } nb n' f' nn nl g),.vec 5 (.a nl) (.a g) 1 nf])
theorem Adb:∀(b:List UInt8) (s:Ch),(Bj s b).2.1<=b.length
 | [],s=>QH _
 |c :: b,s=>by
  unfold Bj
  split
  .simp
  split
  .simp
  .have:=Adb b (cJ s c).1
   simp only[QG];omega
theorem Ac7:Ap Tryz.prog gl 78 mV:=by
 refine Bq (gh:=[]) mixed Ee (Ab Ajn Ae) Tryz.func78 (by kernel_rfl) (by kernel_rfl) ?_;intro xs ls K h;unfold mV at h;obtain⟨x,s,b,nb,n,f,nn,nl,g,nf,rfl,rfl,qS,yf,V,hO,tZ,R,hb,h⟩:=h;obtain⟨k,hk⟩:∃k,k=Bj s b:=⟨_,rfl⟩;have h:=h k hk;have mH:k.2.1<=b.length:=by rw[hk];exact Adb b s
 have aI:k.2.2=0->∃gV gR,A5 gR gV k.1.aE:=λe0=>by rw[hk]at e0 ⊢;exact Qs b s ⟨_,_,V.tr⟩ (by omega) hO e0
 obtain⟨T,hT⟩:∃T,T=b.drop k.2.1:=⟨_,rfl⟩;obtain⟨N,VN⟩:∃N:Int,VI N T.length:=⟨_,⟨rfl⟩⟩;have RT:Bl (aU T) N T:=⟨VN.h,λi _=>rfl⟩;obtain⟨L,kO,nS,hK⟩:∃L:List Hl,(k.2.2≠0->L=[.gone,.gone])/\(k.2.2=0->∃pN gH,L=[.aG 125 (Kb { x with ph:=(if k.1.phase=4 then 2 else x.ph),cp:=k.1.phase,cl:=k.1.line,cd:=k.1.data,cf:=k.1.left,cb:=jS s k.1 x.cb,ct:=pN,ctf:=gH } nb N (aU T) nn nl g),.vec 5 (.a nl) (.a g) 1 nf]/\A5 gH pN k.1.aE)/\K (.int .i64 (.a k.2.2)) L:=by
  by_cases e0:k.2.2=0
  .obtain⟨gV,gR,hR⟩:=aI e0
   refine⟨_,λh=>absurd e0 h,λ_=>⟨gV,gR,rfl,hR⟩,?_⟩;rw[e0];exact h.2 e0 _ _ _ _ gV gR _ _ ⟨rfl,rfl,hR⟩ rfl rfl (by rw[<-hT];exact RT)
  .exact⟨_,λ_=>rfl,λh=>absurd h e0,h.1 e0⟩
 have VB:VI n b.length:=⟨R.n⟩;have HB:eU b.length 1000000:=⟨hb⟩;have HK:eU k.2.1 b.length:=⟨mH⟩;obtain⟨E,hE⟩:∃E,E=k.2.2:=⟨_,rfl⟩;rw[<-hE]at hK kO nS;refine⟨_,_,hK,λD hD=>?_⟩;clear hK h aI mH hb;obtain⟨m,ph,inf,ln,mi,st,re,fb,fl,ff,fr,bo,lf,cp,cl,cd,cf,cb,ct,ctf⟩:=x;simp only at qS yf;cbv;refine⟨s,b,cl,cd,D.i (.a cp),D.i (.a cf),D.b (.a cb),D.i (.a ct),ctf,D.b (.a nb),D.i (.a n),f,rfl,rfl,qS,yf,by subst hD;exact⟨V.gU,V.iS,V.tr⟩,hO,tZ,by subst hD;exact R,HB.h,λk2 aZ=>?_⟩;obtain rfl:k2=k:=aZ.trans hk.symm;refine⟨λaY=>?_,λh0 cp2 cf2 cb2 ct2 aT0 u hV CF hu=>?_⟩<;>cbv
 .refine br hD (λhb=>?_) (λhb=>?_)<;>cbv
  .rw[kO (by rw[hE];exact aY)]
   subst hD;exact Kl (by exact hE.symm)
  .exfalso
   have hb:(k2.2.2 != 0)=false:=by subst hD;exact hb
   exact aY (by simpa using hb)
 .refine br hD (λhb=>?_) (λhb=>?_)<;>cbv
  .exfalso
   have hb:((0:Int) != 0)=true:=by subst hD;exact hb
   cases hb
  clear hb;have VU:VI u k2.2.1:=⟨hu⟩;have hu0:0<=u:=by rw[VU.h];exact Int.natCast_nonneg _
  have j8:u<=n:=by rw[VU.h,VB.h];exact Int.ofNat_le.2 HK.h
  refine⟨by subst hD;exact⟨by show (0:Int)<=u;exact hu0,by show u<=n;exact j8,ZC _⟩,λf2 n2 cT=>?_⟩;cbv;have R2:Bl f2 n2 T:=by
   have:=R.sub (a:=k2.2.1) (b:=b.length) cT (by subst hD;exact hu) (by subst hD;exact VB.h) HK.h (QH _);have e:(b.drop k2.2.1).take (b.length-k2.2.1)=b.drop k2.2.1:=XI (by rw[QY];exact QH _);rw[e,<-hT]at this;exact this
  clear cT;refine br hD (λhb=>?_) (λhb=>?_)<;>cbv
  .have hb:(cp2==4)=true:=by subst hD;exact hb
   have h4:k2.1.phase=4:=by rw[<-hV.gU];exact eq_of_beq hb
   obtain⟨ct3,ab7,rfl,yn⟩:=nS (by rw[hE];exact h0);rw[QB h4];have e0:E=0:=by rw[hE];exact h0
   subst hD;exact⟨Ai (by exact e0.symm),Cn (cI.cons (Ao (Rd rfl rfl rfl rfl (aO.refl _) rfl rfl (by exact hV.gU) (by exact hV.iS) (E8 hV.tr yn (by exact CF) rfl rfl) (Qc R2 RT rfl rfl rfl) (aO.refl _))) λ_ _ _ _ h=>h),QH _⟩
  .have hb:(cp2==4)=false:=by subst hD;exact hb
   have h4:¬k2.1.phase=4:=by rw[<-hV.gU];simpa using hb
   obtain⟨ct3,ab7,rfl,yn⟩:=nS (by rw[hE];exact h0);rw[QA h4];have e0:E=0:=by rw[hE];exact h0
   subst hD;exact⟨Ai (by exact e0.symm),Cn (cI.cons (Ao (Rd rfl rfl rfl rfl (aO.refl _) rfl rfl (by exact hV.gU) (by exact hV.iS) (E8 hV.tr yn (by exact CF) rfl rfl) (Qc R2 RT rfl rfl rfl) (aO.refl _))) λ_ _ _ _ h=>h),QH _⟩
def zP:aB:=λ_ xs ls K=>∃(s p:List UInt8),xs=[.str s,.str p]/\ls=[]/\∀r b,r=Lib.trimPrefix s p->b=Lib.hasPrefix s p->K (.aJ [.str r,.bool (.a b)]) []
theorem Ajh:Ap Tryz.prog gl 55 zP:=by
 refine⟨⟨Tryz.f55,_,Tryz.func55,rfl,by kernel_rfl⟩,λxs ls K h=>?_⟩;obtain⟨s,p,rfl,rfl,h⟩:=h;refine⟨_,_,h _ _ rfl rfl,Bg λE B w aX _ _ _ hr=>?_⟩;obtain⟨v,u,rfl,hv,hu⟩:=D0 hr;rw[Cr hv,Cr hu];refine (Le ⟨s.toArray⟩ ⟨p.toArray⟩ w).mono ?_;rintro e w' ⟨rfl,rfl⟩;refine⟨_,rfl,λE=>?_,Below.refl _ _⟩;refine .aJ rfl λi x y a b=>?_
 match i,a,b with
 |0,a,b=>cases a;cases b;exact .ro (.str rfl)
 |1,a,b=>cases a;cases b;exact .ro (.bool rfl)
 |i+2,a,b=>simp at a
theorem Pv{b:List UInt8}(h:Lib.indexByte (b.take 302) 10<0):Ar b=(lZ,0,if 302<=b.length then 3 else 10):=by
 have h2:(Bf 10 (b.take 302)).2.2=false:=by
  cases e:(Bf 10 (b.take 302)).2.2 with
  |false=>rfl
  |true=>have:=(Lz e).1;omega
 unfold Ar;rw[h2];rfl
def Xu(b w:List UInt8)(suf:Bool)(p:Nat):qL×Int×Int :=
 if !(suf&&uc w) then (lZ,0,6) else
 if (A7 (b.drop (p+1))).2.2≠0 then (lZ,0,(A7 (b.drop (p+1))).2.2) else
 ({ ox w with fields:=(A7 (b.drop (p+1))).1 },(p:Int)+1+(A7 (b.drop (p+1))).2.1,0)
theorem Tq{b:List UInt8}{p:Nat}(h:Lib.indexByte (b.take 302) 10=(p:Int)):p<302/\p<b.length/\Ar b=Xu b (Lib.trimSuffix (b.take p) [13]) (Lib.hasSuffix (b.take p) [13]) p:=by
 have h2:(Bf 10 (b.take 302)).2.2=true:=by
  cases e:(Bf 10 (b.take 302)).2.2 with
  |true=>rfl
  |false=>have:=(S1 e).2.2;omega
 obtain⟨e1,e2,_,e4⟩:=Lz h2;have hp:(Bf 10 (b.take 302)).1.length=p:=by omega
 rw[hp]at e2 e4;rw[QZ]at e4;have e5:(Bf 10 (b.take 302)).1=b.take p:=by rw[e2,UT,UQ (by omega)]
 refine⟨by omega,by omega,?_⟩;unfold Ar Xu;rw[h2,hp,e5];simp only[YH,XD,if_false]
def Pw(r:List UInt8):Bool:=!((((decide (r.length<6)||((r.getD 0 0 != 48)&&(r.getD 0 0 != 49)))||(r.getD 1 0 != 32))||(r.getD 5 0 != 32))||!D3 (r.drop 6))
theorem Ahu(w:List UInt8):uc w=(Lib.hasPrefix w Hr&&Pw (Lib.trimPrefix w Hr)&&(decide (100<=Js (((Lib.trimPrefix w Hr).drop 2).take 3))&&decide (Js (((Lib.trimPrefix w Hr).drop 2).take 3)<=599))):=by
 have hp:Lib.hasPrefix w Hr=(w.take 7==Hr):=by
  unfold Lib.hasPrefix;rw[XX,QS];rw[List.isPrefixOf_iff_prefix,List.prefix_iff_eq_take];exact eq_comm
 cases hw:(w.take 7==Hr) with
 |false=>rw[hp,hw];unfold uc;rw[hw];simp
 |true =>
  have ht:Lib.trimPrefix w Hr=w.drop 7:=by unfold Lib.trimPrefix;rw[hp,hw];rfl
  have hg:∀i,(w.drop 7).getD i 0=w.getD (7+i) 0:=λi=>by rw[QD,XF,<-QD]
  rw[hp,hw,ht];unfold uc Pw;rw[hw,hg,hg,hg,ZA,ZA,QY,XX];simp only[QE,XR,QJ,QS,XO,XC,ZI,bne_eq_false_iff_eq,QL,ZO,Nat.not_lt,true_and];constructor
  .rintro⟨⟨⟨⟨⟨⟨⟨h1,_⟩,h3⟩,h4⟩,h5⟩,h6⟩,h7⟩,h8⟩
   exact⟨⟨⟨⟨⟨by omega,h3⟩,h4⟩,h5⟩,h6⟩,h7,h8⟩
  .rintro⟨⟨⟨⟨⟨h1,h3⟩,h4⟩,h5⟩,h6⟩,h7,h8⟩
   exact⟨⟨⟨⟨⟨⟨⟨by omega,trivial⟩,h3⟩,h4⟩,h5⟩,h6⟩,h7⟩,h8⟩
theorem Akd{w:List UInt8}(h:Lib.hasPrefix w Hr=true):ox w=⟨(((Lib.trimPrefix w Hr).getD 0 0).toNat:Int)-48,Js (((Lib.trimPrefix w Hr).drop 2).take 3),(Lib.trimPrefix w Hr).drop 6,[]⟩:=by
 have ht:Lib.trimPrefix w Hr=w.drop 7:=by unfold Lib.trimPrefix;rw[h];rfl
 have hg:(w.drop 7).getD 0 0=w.getD 7 0:=by rw[QD,XF,<-QD]
 rw[ht,hg,ZA,ZA];rfl
structure HdV(h:qL)(mi st:Int)(re:List UInt8)(f:Nat->List SV)(n:Int)(nl:Bool):Prop where
 CI:mi=h.minor
 za:st=h.status
 ere:re=h.reason
 g:mO f n nl h.fields
def vW:aB:=λ_ xs ls K=>∃(b:List UInt8) (nl:Bool) (n:Int) (f:Nat->List SV),xs=[.sl (.a nl) (.a n) 1 f]/\ls=[]/\Bl f n b/\b.length<=1000000/\
 ∀hd u e mi st re f1 n1 b1,(hd,u,e)=Ar b->HdV hd mi st re f1 n1 b1->K (.aJ [ub mi st re b1 n1 f1,.int .i64 (.a u),.int .i64 (.a e)]) []
theorem Aef(b:List UInt8)(hb:b.length<=1000000):∃mi st re f n nl,HdV (Ar b).1 mi st re f n nl:=by
 have h0:∃f n nl,mO f n nl ([]:List HF):=⟨_,_,_,mO.nil⟩;have jM:∃f n nl,mO f n nl (Ar b).1.fields:=by
  unfold Ar
  split
  .exact h0
  split
  .exact h0
  split
  .exact h0
  .have hl:(b.drop ((Bf 10 (b.take 302)).1.length+1)).length<=1000000:=by rw[QY];omega
   have hS:=Jm ((b.drop ((Bf 10 (b.take 302)).1.length+1)).length+1) 0 [] _ hl (by simp) (λx hx=>by cases hx);exact⟨_,_,_,⟨A5.row (by have:=hS.1;exact XV this (by decide)) (λi hi=>hS.2 _ (by rw[QD,QC hi];exact XL hi)),rfl⟩⟩
 obtain⟨f,n,nl,h⟩:=jM;exact⟨_,_,_,f,n,nl,rfl,rfl,rfl,h⟩
theorem rz{u u' e e':ST}{pn:List UInt8}{nl dJ:BT}(h1:mi.den=wF.den)(h2:st.den=qM.den)(h3:re=pn)(h4:aO (.sl nl n 2 f) (.sl dJ n' 2 f'))(h5:u.den=u'.den)(h6:e.den=e'.den):
  Fin (.aJ [.agg [.int .i64 mi,.int .i64 st,.str re,.sl nl n 2 f],.int .i64 u,.int .i64 e]) (.aJ [.agg [.int .i64 wF,.int .i64 qM,.str pn,.sl dJ n' 2 f'],.int .i64 u',.int .i64 e']) [] []:=by
 subst h3;exact C6 (.aJ (.cons (aO.agg (.cons (Ai h1) (.cons (Ai h2) (.cons (Cj _) (.cons h4 .nil))))) (.cons (Ai h5) (.cons (Ai h6) .nil))))
theorem U3{D:Dn}(hD:D=dn){hd:qL}{u e mi st:Int}{f1:Nat->List SV}{n1:Int}{b1:Bool}{c:Int}{y:ST}(hk:(hd,u,e)=(lZ,0,c))(V:HdV hd mi st re f1 n1 b1)(hy:y.den=c):
  Fin (.aJ [.agg [.int .i64 (.a (D.i (.l 0))),.int .i64 (.a (D.i (.l 0))),.str [],.sl (.a (D.b (.l true))) (.a (D.i (.l 0))) 2 λ_=>[]],.int .i64 (.a (D.i (.l 0))),.int .i64 (.a (D.i y))]) (.aJ [.agg [.int .i64 (.a mi),.int .i64 (.a st),.str re,.sl (.a b1) (.a n1) 2 f1],.int .i64 (.a u),.int .i64 (.a e)]) [] []:=by
 simp only[Prod.mk.injEq]at hk;obtain⟨rfl,rfl,rfl⟩:=hk;obtain⟨rfl,rfl,rfl,G⟩:=V;subst hD;exact rz rfl rfl rfl (Aly mO.nil G rfl rfl) rfl hy
theorem FI(h:(!(x||decide ((t.length:Int)<6)))=true)(hi:i<6):CX (i:Int) t:=by
 simp only[XO,XC,QL]at h;exact⟨by omega,by omega⟩
theorem FH(h:(!((x||decide ((t.length:Int)<6))||y))=true)(hi:i<6):CX (i:Int) t:=by
 simp only[XO,XC,QL]at h;exact⟨by omega,by omega⟩
theorem Al8{z:Bool}(h:(!(((x||decide ((t.length:Int)<6))||y)||z))=true)(hi:i<6):CX (i:Int) t:=by
 simp only[XO,XC,QL]at h;exact⟨by omega,by omega⟩
structure LK(lo x hi:Int):Prop where
 lo:lo<=x
 hi:x<=hi
theorem fh{a b:Int}(h:LK 0 a 302)(k:LK 0 b 1000000):IntKind.i64.wrap (a+1+b)=a+1+b:=by
 have:=h.lo;have:=h.hi;have:=k.lo;have:=k.hi;exact wrap64 (by omega) (by omega)
theorem fp(c k:UInt8):(((c.toNat:Int)) != ((k.toNat:Nat):Int))=(c != k):=by
 rw[XX,bne_iff_ne,bne_iff_ne];refine not_congr ⟨λh=>?_,λh=>by rw[h]⟩;exact UInt8.toNat_inj.1 (by omega)
theorem Amy{is ht pl:Bool}{c0 c1 c5:Int}(h0:c0=((t.getD 0 0).toNat:Int))(h1:c1=((t.getD 1 0).toNat:Int))(h5:c5=((t.getD 5 0).toNat:Int))(hp:pl=D3 (t.drop 6)):
  ((((((!is||!ht)||decide ((t.length:Int)<6))||((c0 != 48)&&(c0 != 49)))||(c1 != 32))||(c5 != 32))||!pl)=!(is&&(ht&&Pw t)):=by
 have e0:(c0 != 48)=(t.getD 0 0 != 48):=by rw[h0];exact fp _ 48
 have e0':(c0 != 49)=(t.getD 0 0 != 49):=by rw[h0];exact fp _ 49
 have e1:(c1 != 32)=(t.getD 1 0 != 32):=by rw[h1];exact fp _ 32
 have e5:(c5 != 32)=(t.getD 5 0 != 32):=by rw[h5];exact fp _ 32
 have el:decide ((t.length:Int)<6)=decide (t.length<6):=by rw[YV];omega
 rw[e0,e0',e1,e5,hp,el];unfold Pw;cases is<;>cases ht<;>simp
theorem Agy:Ap Tryz.prog gl 17 vW:=by
 refine Bv (gh:=[]) mixed Ck (Ab Xp (Ab X6 (Ab Ajh (Ab Afx (Ab Rr (Ab Qg Ae)))))) Tryz.func17 (by kernel_rfl) (by kernel_rfl) ?_;intro xs ls K h;unfold vW at h;obtain⟨b,nl,n,f,rfl,rfl,R,hb,h⟩:=h;obtain⟨k,hk⟩:∃k,k=Ar b:=⟨_,rfl⟩;obtain⟨mi,st,re,f1,n1,b1,V⟩:=Aef b hb;rw[<-hk]at V;obtain⟨hd,u,e⟩:=k;have h:=h hd u e mi st re f1 n1 b1 hk V;have VB:VI n b.length:=⟨R.n⟩;have HB:eU b.length 1000000:=⟨hb⟩;clear hb;refine⟨_,_,h,λD hD=>?_⟩;clear h;unfold ub;cbv;intro r hr;cbv;have hr:r=min n 302:=by subst hD;exact hr.h
 have VR:VI r (b.take 302).length:=⟨by rw[hr,VB.h,QZ];omega⟩;clear hr;refine⟨by subst hD;exact⟨ZC _,by show (0:Int)<=r;rw[VR.h];omega,by show r<=n;rw[VR.h,VB.h,QZ];omega⟩,λf2 n2 cT=>?_⟩;cbv;have R2:Bl f2 n2 (b.take 302):=by
  have:=R.sub (a:=0) (b:=(b.take 302).length) cT (by subst hD;rfl) (by subst hD;exact VR.h) (ZB _) (by rw[QZ];omega);rw[ZY,QZ,Nat.sub_zero]at this;have e2:b.take (min 302 b.length)=b.take 302:=by
   rcases Nat.le_total 302 b.length with h|h
   .rw[UQ h]
   .rw[Nat.min_eq_right h,XI (QH _),XI h]
  rwa [e2]at this
 clear cT;refine⟨_,_,_,_,f2,rfl,rfl,by subst hD;exact R2,by subst hD;rfl,λq hq=>?_⟩;cbv;refine br hD (λhb=>?_) (λhb=>?_)<;>cbv
 .have hb:(decide (q<0)&&decide (302<=n))=true:=by subst hD;exact hb
  simp only[QE,QJ]at hb;rw[Pv (by omega),QB (by have:=VB.h;omega)]at hk;exact U3 hD hk V rfl
 have lF:(decide (q<0)&&decide (302<=n))=false:=by subst hD;exact hb
 clear hb;refine br hD (λhb=>?_) (λhb=>?_)<;>cbv
 .have hb:decide (q<0)=true:=by subst hD;exact hb
  rw[hb,UG]at lF;rw[QJ]at hb;rw[QL]at lF;rw[Pv (by omega),QA (by have:=VB.h;omega)]at hk;exact U3 hD hk V rfl
 have fX:¬q<0:=by
  have hb:decide (q<0)=false:=by subst hD;exact hb
  simpa using hb
 clear hb lF R2 VR;obtain⟨p,hp⟩:∃p:Nat,q=(p:Int):=⟨q.toNat,by omega⟩;obtain⟨pF,pE,SY⟩:=Tq (b:=b) (p:=p) (by omega);rw[SY]at hk;have VQ:VI q p:=⟨hp⟩;have HP:eU (p+1) b.length:=⟨pE⟩;have HP3:eU (p+1) 302:=⟨pF⟩;clear hp pF pE SY hq fX;refine⟨by subst hD;exact⟨ZC _,by show (0:Int)<=q;rw[VQ.h];omega,by show q<=n;rw[VQ.h,VB.h];have:=HP.h;omega⟩,λf3 n3 cT=>?_⟩;cbv;have R3:Bl f3 n3 (b.take p):=by
  have:=R.sub (a:=0) (b:=p) cT (by subst hD;rfl) (by subst hD;exact VQ.h) (ZB _) (by have:=HP.h;omega)
  rwa [ZY,Nat.sub_zero]at this
 clear cT;refine⟨by subst hD;exact R3.byte,λs hs=>?_⟩;cbv;have hs:s=b.take p:=by subst hD;exact R3.str hs
 rw[<-hs]at hk;have bD:eU s.length 302:=⟨by rw[hs,QZ];have:=HP3.h;omega⟩;clear hs R3;refine⟨s,[13],rfl,rfl,by have:=bD.h;omega,λw is hw IA=>?_⟩;cbv;rw[<-hw,<-IA]at hk;have jy:eU w.length 302:=⟨by
  have:=bD.h;rw[hw,Lib.trimSuffix]
  split
  .rw[QZ];omega
  .exact this⟩
 clear hw IA bD;refine⟨w,Hr,rfl,rfl,λt ht NH hb=>?_⟩;cbv;refine⟨λhg=>?_,λc0 mL=>?_⟩
 .subst hD;exact FI (i:=0) hg (by decide)
 cbv;refine⟨λ_=>?_,λsj IM=>?_⟩
 .subst hD;intro hg;exact FI (i:=0) hg (by decide)
 cbv;refine⟨λhg=>?_,λc1 cw=>?_⟩
 .subst hD;exact FH (i:=1) hg (by decide)
 cbv;refine⟨λhg=>?_,λc5 hc5=>?_⟩
 .subst hD;exact Al8 (i:=5) hg (by decide)
 cbv;refine⟨λhg=>?_,λpn GL=>?_⟩
 .subst hD
  have:=Al8 (i:=5) (x:=(!is||!ht)) (y:=((c0 != 48)&&(sj != 49))) (z:=(c1 != 32)) (t:=t) (by
   have hg:(!(((((!is||!ht)||decide ((t.length:Int)<6))||((c0 != 48)&&(sj != 49)))||(c1 != 32))||(c5 != 32)))=true:=hg;simp only[XO,XC]at hg ⊢;exact hg.1) (by decide)
  exact⟨by decide,by show (6:Int)<=(t.length:Int);have:=this.hi;omega,ZC _⟩
 cbv;have h0:c0=((t.getD 0 0).toNat:Int):=by subst hD;exact mL.h
 have h0':sj=c0:=by subst hD;exact IM.h.trans mL.h.symm
 have h1:c1=((t.getD 1 0).toNat:Int):=by subst hD;exact cw.h
 have h5:c5=((t.getD 5 0).toNat:Int):=by subst hD;exact hc5.h
 have xT:pn=t.drop 6:=by
  subst hD;have h:pn=(t.drop 6).take (((t.length:Int)).toNat-6):=GL.h;rw[h,XI (by rw[QY];omega)]
 subst h0';refine⟨pn,rfl,rfl,λpl gJ=>?_⟩;cbv;rw[xT]at gJ;have dD:=Amy (is:=is) (ht:=ht) h0 h1 h5 gJ;have fE:=Ahu w;rw[<-NH,<-hb]at fE;refine br hD (λeB=>?_) (λeB=>?_)<;>cbv
 .have eB:((((((!is||!ht)||decide ((t.length:Int)<6))||((sj != 48)&&(sj != 49)))||(c1 != 32))||(c5 != 32))||!pl)=true:=by subst hD;exact eB
  rw[dD,XO]at eB;unfold Xu at hk;rw[fE,<-Bool.and_assoc is,eB,Bool.false_and]at hk;exact U3 hD hk V rfl
 have eB:((((((!is||!ht)||decide ((t.length:Int)<6))||((sj != 48)&&(sj != 49)))||(c1 != 32))||(c5 != 32))||!pl)=false:=by subst hD;exact eB
 rw[dD,ZO]at eB;simp only[QE]at eB;obtain⟨rfl,rfl,gY⟩:=eB;rw[gY,UG,UG]at fE;have xR:6<=t.length:=by
  unfold Pw at gY;simp only[XO,XC,QL]at gY;omega
 have HD0:t.getD 0 0=48\/t.getD 0 0=49:=by
  unfold Pw at gY;simp only[XO,XC,ZI,bne_eq_false_iff_eq]at gY;exact gY.1.1.1.2
 have HT:eU 6 t.length:=⟨xR⟩;have FV:=Akd hb.symm;rw[<-NH]at FV;have EH0:oH sj ((t.getD 0 0).toNat:Int):=⟨h0⟩;have aK6:eU t.length 302:=⟨by
  have:=jy.h;rw[NH,Lib.trimPrefix]
  split
  .rw[QY];omega
  .exact this⟩
 clear dD gY xR h0 h1 h5 mL IM cw hc5 gJ NH hb jy GL xT;refine⟨by subst hD;exact⟨by decide,by decide,by show (5:Int)<=(t.length:Int);have:=HT.h;omega⟩,λd qR=>?_⟩;cbv;have qR:d=(t.drop 2).take 3:=by subst hD;exact qR.h
 rw[<-qR]at fE FV;have cm:eU d.length 3:=⟨by rw[qR,QZ];omega⟩;clear qR;refine⟨d,rfl,rfl,by have:=cm.h;omega,λsv aq=>?_⟩;cbv;rw[<-aq]at fE FV;refine br hD (λeB=>?_) (λeB=>?_)<;>cbv
 .have eB:(decide (sv<100)||decide (599<sv))=true:=by subst hD;exact eB
  have hf:(decide (100<=sv)&&decide (sv<=599))=false:=by
   rw[ZI,QL,QL];simp only[XR,QJ]at eB;omega
  unfold Xu at hk;rw[fE,hf]at hk;exact U3 hD hk V rfl
 have eB:(decide (sv<100)||decide (599<sv))=false:=by subst hD;exact eB
 have hf:(decide (100<=sv)&&decide (sv<=599))=true:=by
  rw[QE,QJ,QJ];simp only[XC,QL]at eB;omega
 unfold Xu at hk;rw[fE,hf,FV]at hk;simp only[Bool.and_true,YH,XD,if_false]at hk;clear eB hf fE FV;obtain⟨B,hB⟩:∃B,B=b.drop (p+1):=⟨_,rfl⟩;rw[<-hB]at hk;have hBl:eU B.length 1000000:=⟨by rw[hB,QY];have:=HB.h;omega⟩;have qp:IntKind.i64.wrap (q+1)=((p+1:Nat):Int):=by
  have:=HP3.h;rw[VQ.h,wrap64 (by omega) (by omega)];omega
 have EW:oH (IntKind.i64.wrap (q+1)) ((p+1:Nat):Int):=⟨qp⟩;clear qp;refine⟨by subst hD;exact⟨by show (0:Int)<=IntKind.i64.wrap (q+1);rw[EW.h];omega,by show IntKind.i64.wrap (q+1)<=n;rw[EW.h,VB.h];have:=HP.h;omega,ZC _⟩,λf4 n4 cT=>?_⟩;cbv;have R4:Bl f4 n4 B:=by
  have:=R.sub (a:=p+1) (b:=b.length) cT (by subst hD;exact EW.h) (by subst hD;exact VB.h) HP.h (QH _);have e:(b.drop (p+1)).take (b.length-(p+1))=b.drop (p+1):=XI (by rw[QY];exact QH _)
  rwa [e,<-hB]at this
 clear cT hB;refine⟨B,_,_,f4,rfl,rfl,by subst hD;exact R4,hBl.h,λl f5 n5 b5 kk ke hl G=>?_⟩;cbv;rw[<-hl]at hk;simp only at hk;refine br hD (λeB=>?_) (λeB=>?_)<;>cbv
 .have eB:(ke != 0)=true:=by subst hD;exact eB
  rw[QB (by simpa using eB)]at hk;exact U3 hD hk V (by subst hD;rfl)
 have eB:(ke != 0)=false:=by subst hD;exact eB
 rw[QA (by simpa using eB)]at hk;have HKK:0<=kk/\kk<=B.length:=by have:=Ae1 B;rw[<-hl]at this;exact this.2
 have HKB:LK 0 kk 1000000:=⟨HKK.1,by have:=hBl.h;omega⟩;have HPB:LK 0 (p:Int) 302:=⟨Int.natCast_nonneg _,by have:=HP3.h;omega⟩;clear eB hl HKK;refine⟨by subst hD;exact⟨by decide,by show (0:Int)<(t.length:Int);have:=HT.h;omega⟩,λc hc=>?_⟩;cbv;refine⟨by subst hD;exact⟨by decide,by show (6:Int)<=(t.length:Int);have:=HT.h;omega,ZC _⟩,λPK wz=>?_⟩;cbv;have wz:PK=t.drop 6:=by
  subst hD;have h:PK=(t.drop 6).take (((t.length:Int)).toNat-6):=wz.h;rw[h,XI (by rw[QY];omega)]
 have qD:c=((t.getD 0 0).toNat:Int):=by subst hD;exact hc.h
 clear hc;simp only[Prod.mk.injEq]at hk;obtain⟨rfl,rfl,rfl⟩:=hk;obtain⟨rfl,rfl,rfl,G2⟩:=V;refine rz ?_ (by subst hD;rfl) wz (Aly G G2 (by subst hD;rfl) (by subst hD;rfl)) ?_ (by subst hD;rfl)
 .subst hD
  show IntKind.i64.wrap (IntKind.u8.wrap (c-48))=((t.getD 0 0).toNat:Int)-48;rw[qD];rcases HD0 with e|e<;>rw[e]<;>decide
 .subst hD
  show IntKind.i64.wrap (IntKind.i64.wrap (q+1)+kk)=(p:Int)+1+kk;have h5:IntKind.i64.wrap (q+1)=(p:Int)+1:=EW.h.trans (UP p 1);rw[h5];exact fh HPB HKB
set_option maxHeartbeats 8000000
def Vn(l:List HF)(t:List UInt8):Int:=if Bb l≠0 then Bb l else if Ca t then 0 else 2
def pe:aB:=λ_ xs ls K=>∃(l:List HF) (nl:Bool) (n:Int) (f:Nat->List SV) (t:List UInt8),xs=[.sl (.a nl) (.a n) 2 f,.str t]/\ls=[]/\A5 f n l/\t.length<=9223372036854775807/\∀e,e=Vn l t->K (.int .i64 (.a e)) []
theorem zv:Ap Tryz.prog gl 176 pe:=by
 refine Bv (gh:=[]) mixed Ck (Ab H0 (Ab Gq Ae)) Tryz.func176 (by kernel_rfl) (by kernel_rfl) ?_;intro xs ls K h;unfold pe at h;obtain⟨l,nl,n,f,t,rfl,rfl,R,ht,h⟩:=h;obtain⟨k,hk⟩:∃k,k=Vn l t:=⟨_,rfl⟩;refine⟨_,_,h k hk,λD hD=>?_⟩;clear h;unfold Vn at hk;cbv;refine⟨l,_,_,f,rfl,rfl,by subst hD;exact R,λe he=>?_⟩;cbv;rw[<-he]at hk;refine br hD (λhb=>?_) (λhb=>?_)<;>cbv
 .have hb:(e != 0)=true:=by subst hD;exact hb
  rw[QB (by simpa using hb)]at hk;exact B6 hD hk.symm
 have hb:(e != 0)=false:=by subst hD;exact hb
 rw[QA (by simpa using hb)]at hk;refine⟨t,rfl,rfl,ht,λx hx=>?_⟩;cbv;rw[<-hx]at hk;refine br hD (λhb=>?_) (λhb=>?_)<;>cbv
 .have hb:(!x)=true:=by subst hD;exact hb
  rw[QA (by simpa using hb)]at hk;exact B6 hD hk.symm
 .have hb:(!x)=false:=by subst hD;exact hb
  rw[QB (by simpa using hb)]at hk;exact B6 hD hk.symm
structure AJ(out:List (List UInt8))(b:Bool)(n g:Int)(f:Nat->List SV):Prop where
 eb:b=out.isEmpty
 en:n=out.length
 eg:g=out.length
 row:Dk f n out
def ME(a:Nat):List (Nat×Option SV):=[(7,some (.ptr a 0))]
def JC(c:LC):aB:=λ_ xs ls K=>∃(i:Int) (v:List UInt8) (out:List (List UInt8)) (b:Bool) (n g:Int) (f:Nat->List SV),
 xs=[.yv 0,.int .i64 (.a i),.str v]/\ls=[.bO c (ME 1) 0 none,.aG 111 [.cP (.a b) (.a n) (.a g) 2],.vec 9 (.a n) (.a g) 1 f]/\AJ out b n g f/\out.length<=100/\
 ∀b' n' g' f',AJ (out++[v]) b' n' g' f'->K (.bool (.a true)) [.bO c (ME 1) 0 none,.aG 111 [.cP (.a b') (.a n') (.a g') 2],.vec 9 (.a n') (.a g') 1 f']
def Al5(Y:aB):aB:=λ_ xs ls K=>∃(c:LC) (l:List HF) (nl:Bool) (n:Int) (f:Nat->List SV) (t:List UInt8) (b:Bool) (m g:Int) (h:Nat->List SV),Y=JC c/\
 xs=[.yv 0,.ptr 1 0,.ptr 2 0]/\ls=[.bO c (ME 3) 0 none,.aG 23 [.sl (.a nl) (.a n) 2 f],.aG 9 [.str t],.aG 111 [.cP (.a b) (.a m) (.a g) 4],.vec 9 (.a m) (.a g) 1 h]/\A5 f n l/\l.length<=100/\AJ [] b m g h/\
 ∀b' m' g' h',AJ (Do l t) b' m' g' h'->K (.aJ []) [.bO c (ME 3) 0 none,.aG 23 [.sl (.a nl) (.a n) 2 f],.aG 9 [.str t],.aG 111 [.cP (.a b') (.a m') (.a g') 4],.vec 9 (.a m') (.a g') 1 h']
structure GyJ(l:List HF)(t:List UInt8)(k out:List (List UInt8))(i:Nat)(I:Int)(m:Nat)(b:Bool)(n g:Int)(f:Nat->List SV):Prop where
 bY:AtR l i I m
 v:AJ out b n g f
 ol:out.length<=i
 k:k=out++Do (l.drop i) t
def WX(c:LC)(l:List HF)(t:List UInt8)(k:List (List UInt8))(nl:Bool)(n:Int)(f:Nat->List SV)(m:Nat)(vs:List (Option SV))(hp:List Hl):Prop :=
 ∃(out:List (List UInt8)) (i:Nat) (I:Int) (b:Bool) (n1 g:Int) (h:Nat->List SV),vs=[some (.yv 0),some (.ptr 2 0),some (.sl (.a nl) (.a n) 2 f),some (.int .i64 (.a n)),some (.int .i64 (.a I))]/\
  hp=[.bO c (ME 3) 0 none,.aG 23 [.sl (.a nl) (.a n) 2 f],.aG 9 [.str t],.aG 111 [.cP (.a b) (.a n1) (.a g) 4],.vec 9 (.a n1) (.a g) 1 h]/\GyJ l t k out i I m b n1 g h
theorem Aij(Y:aB)(hY:CW Tryz.prog gl Y):Ap Tryz.prog gl 230 (Al5 Y):=by
 refine OT (gh:=[]) (its:=[]) (yl:=[Y]) mixed Ck (Ab Kh Ae) ⟨λ_ h=>(by cases h),λZ h=>by rw[YP]at h;subst h;exact hY⟩ Tryz.func230 (by kernel_rfl) (by kernel_rfl) ?_;intro xs ls K h;unfold Al5 at h;obtain⟨c,l,nl,n,f,t,b,m0,g,hh,rfl,rfl,rfl,R,hl,V0,h⟩:=h;obtain⟨k,hk⟩:∃k,k=Do l t:=⟨_,rfl⟩;rw[<-hk]at h;have mH:=S7 l t;rw[<-hk]at mH;obtain⟨b1,m1,g1,h1,VK⟩:∃b1 m1 g1 h1,AJ k b1 m1 g1 h1:=⟨_,_,_,_,⟨rfl,rfl,rfl,Dk.row (l:=k) (by omega)⟩⟩;clear mH;have h:=h b1 m1 g1 h1 VK;refine⟨_,_,h,λD hD=>?_⟩;clear h;obtain⟨J,hJ⟩:∃J,J=WX c l t k nl n f:=⟨_,rfl⟩;cbv;refine⟨[0,2,6,7,8],J,⟨rfl,l.length,?_⟩,?_⟩
 .rw[hJ]
  subst hD;exact⟨[],0,0,_,_,_,_,rfl,rfl,AtR.zero R.len,V0,QH _,hk⟩
 intro m vs hp hj;rw[hJ]at hj;obtain⟨out,i,I,b2,m2,g2,h2,rfl,rfl,V⟩:=hj;clear hk;cbv;refine br hD (λh=>?_) (λh=>?_)<;>cbv
 .have aC:=V.bY.lt R.n (QT (p:=I<n) h)
  clear h;refine⟨V.bY.fS hD R.n aC,λj hj=>?_⟩;obtain rfl:=V.bY.j hD hj;clear hj;have e1:=R.f j aC;have eF:=R.small j aC;have aZ:=V.k;rw[Hb (d:=default) aC,Ahn]at aZ;obtain⟨x,hx⟩:∃x,x=l.getD j default:=⟨_,rfl⟩;rw[<-hx]at e1 aZ eF;obtain⟨a,v⟩:=x;obtain⟨s1,s2⟩:=V.bY.step hD aC
  generalize l.length-(j+1)=m' at s1 s2
  cbv;rw[e1];cbv;refine⟨a,rfl,rfl,eF.1,λz hz=>?_⟩;cbv;simp only at aZ;rw[<-hz]at aZ;refine br hD (λh=>?_) (λh=>?_)<;>cbv
  .have h3:(z==t)=true:=by subst hD;exact h
   clear h;rw[QB h3]at aZ;refine⟨I,v,out,b2,m2,g2,h2,by subst hD;rfl,by subst hD;rfl,V.v,by have:=V.ol;omega,λb3 m3 g3 NQ V3=>?_⟩;cbv;refine br hD (λh=>?_) (λh=>?_)<;>cbv
   .exact absurd h (by simp[BT.den])
   refine⟨m',s1,?_⟩;rw[hJ];unfold WX;cbv;subst hD;exact⟨out++[v],j+1,_,b3,m3,g3,NQ,rfl,rfl,s2,V3,by have:=V.ol;rw[QF];simp only[QG,QU];omega,by rw[aZ];simp⟩
  .have h3:(z==t)=false:=by subst hD;exact h
   clear h;rw[QA (by rw[h3];simp)]at aZ;refine br hD (λh=>?_) (λh=>?_)<;>cbv
   .exact absurd h (by rw[BT.den,BT.den];simp[BT.den,h3])
   refine⟨m',s1,?_⟩;rw[hJ];unfold WX;cbv;subst hD;exact⟨out,j+1,_,b2,m2,g2,h2,rfl,rfl,s2,V.v,by have:=V.ol;omega,aZ⟩
 .have hi:=V.bY.eq R.n (QW (p:=I<n) h)
  have aZ:=V.k;rw[hi,XQ]at aZ;clear h;have aZ:k=out:=by rw[aZ];exact YT _
  subst aZ;subst hD;refine⟨aO.refl _,Cn (cI.cons (λ_ _ _ h=>h) (cI.cons (Ao (.cons (aO.refl _) .nil)) (cI.cons (Ao (.cons (aO.refl _) .nil)) (cI.cons (Ao (.cons (OL (by exact V.v.eb.trans VK.eb.symm) (by exact V.v.en.trans VK.en.symm) (by exact V.v.eg.trans VK.eg.symm)) .nil)) (cI.cons (Ih (by exact V.v.en.trans VK.en.symm) (by exact V.v.eg.trans VK.eg.symm) λi hi=>?_) λ_ _ _ _ h=>h))))),QH _⟩;have hi:(i:Int)<m2:=hi;have:=V.v.en;rw[V.v.row.f i (by omega),VK.row.f i (by omega)]
structure GkI(l:List HF)(t:List UInt8)(e:Int)(r:List (List UInt8)):Prop where
 ee:e=Vn l t
 er:r=if Vn l t=0 then Do l (bG t) else []
def zE:aB:=λ_ xs ls K=>∃(l:List HF) (nl:Bool) (n:Int) (f:Nat->List SV) (t:List UInt8),xs=[.sl (.a nl) (.a n) 2 f,.str t]/\ls=[]/\A5 f n l/\t.length<=9223372036854775807/\
 ∀r e g n' b,GkI l t e r->uT g n' b r->K (.aJ [.sl (.a b) (.a n') 1 g,.int .i64 (.a e)]) []
theorem mm:Ap Tryz.prog gl 126 zE:=by
 refine OT (gh:=[(4,[.qY 7 0 9]),(2000008,[.fP 7 0])]) (its:=[(230,Al5)]) (yl:=[]) mixed Ck (Ab zv (Al Abm Ae)) ⟨λx h Y hY=>by rw[YP]at h;subst h;exact Aij Y hY,λ_ h=>(by cases h)⟩ Tryz.func126 (by kernel_rfl) (by kernel_rfl) ?_;intro xs ls K h;unfold zE at h;obtain⟨l,nl,n,f,t,rfl,rfl,R,ht,h⟩:=h;obtain⟨e,he⟩:∃e,e=Vn l t:=⟨_,rfl⟩;obtain⟨r,hr⟩:∃r,r=if Vn l t=0 then Do l (bG t) else []:=⟨_,rfl⟩
 have tU:r.length<=9223372036854775807:=by
  rw[hr]
  split
  .have:=S7 l (bG t);have:=R.len;omega
  .simp
 obtain⟨g,n',b,G⟩:∃g n' b,uT g n' b r:=⟨_,_,_,⟨Dk.row tU,rfl⟩⟩;refine⟨_,_,h r e g n' b ⟨he,hr⟩ G,λD hD=>?_⟩;clear h tU;rw[<-he]at hr;cbv;refine⟨l,_,_,f,t,rfl,rfl,by subst hD;exact R,ht,λe2 sX=>?_⟩;cbv;obtain rfl:e2=e:=sX.trans he.symm;refine br hD (λhb=>?_) (λhb=>?_)<;>cbv
 .have hb:(e2 != 0)=true:=by subst hD;exact hb
  rw[QA (by simpa using hb)]at hr;subst hr;subst hD;exact C6 (.aJ (.cons (OK uT.nil G rfl rfl) (.cons (Ai rfl) .nil)))
 have hb:e2=0:=by
  have hb:(e2 != 0)=false:=by subst hD;exact hb
  simpa using hb
 rw[QB hb]at hr;have hl:l.length<=100:=by
  rw[hb]at he;refine Dz ?_;unfold Vn at he
  by_cases g:Bb l=0
  .exact g
  .rw[QB g]at he;exact he.symm
 clear sX;refine⟨_,_,f,t,rfl,rfl,ht,λs hs=>?_⟩;cbv;rw[<-hs]at hr;clear hs;intro c hc;refine⟨[7],JC c,?_,?_⟩
 .rintro xs ls K' ⟨i,v,out,b1,n1,g1,f1,rfl,rfl,V,xf,h1⟩
  refine⟨⟨_,rfl⟩,?_⟩;obtain⟨b2,n2,g2,f2,V2⟩:∃b2 n2 g2 f2,AJ (out++[v]) b2 n2 g2 f2:=⟨_,_,_,_,⟨rfl,rfl,rfl,Dk.row (l:=out++[v]) (by rw[QF];simp only[QG,QU];omega)⟩⟩;refine⟨_,_,h1 b2 n2 g2 f2 V2,?_⟩;clear h1;cbv;intro f3 eN;cbv;have en:=V.en;have NB:eU out.length 100:=⟨xf⟩;have VN:VI n1 out.length:=⟨en⟩;clear en xf;refine⟨by subst hD;exact⟨rfl,by show (n1+1) * 16<=_;rw[VN.h];have:=NB.h;omega,by show n1+1<=_;rw[VN.h];have:=NB.h;omega⟩,by subst hD;exact⟨rfl⟩,λf4 n4 hm g4 gS=>?_⟩;cbv;have mS:f3 0=[.str v]:=eN.h 0 _ rfl;have R4:Dk f4 n4 (out++[v]):=V.row.more mS (by subst hD;exact hm) (by have:=NB.h;omega);have e4:g4=g2:=by
   have h:g4=g1+1:=by subst hD;exact gS.h
   rw[h,V.eg,V2.eg,QF];rfl
  have eb:b2=false:=by rw[V2.eb];cases out<;>rfl
  have aI:n4=n2/\∀i:Nat,(i:Int)<n4->f4 i=f2 i:=by
   have e1:=R4.n;refine⟨e1.trans V2.en.symm,λi hi=>?_⟩;rw[R4.f i (by omega),V2.row.f i (by omega)]
  clear hm eN gS;subst hD e4 eb;exact⟨aO.refl _,Cn (cI.cons (λ_ _ _ h=>h) (cI.cons (Ao (.cons (OL (by exact ZM _) (by exact aI.1) rfl) .nil)) (cI.cons (Ih (by exact aI.1) rfl (by exact aI.2)) λ_ _ _ _ h=>h))),QH _⟩
 .cbv
  refine⟨c,l,_,_,f,s,D.b (.l true),D.i (.l 0),D.i (.l 0),λ_=>[],rfl,rfl,rfl,by subst hD;exact R,hl,by subst hD;exact⟨rfl,rfl,rfl,uT.nil.row⟩,λb1 n1 g1 f1 V1=>?_⟩;cbv;rw[<-hr]at V1;refine⟨by subst hD;exact⟨⟨rfl⟩,⟨rfl⟩⟩,?_⟩;subst hD;exact C6 (.aJ (.cons (OK ⟨V1.row,V1.eb⟩ G rfl rfl) (.cons (Ai (by exact hb.symm)) .nil)))
def Ib(l:List HF)(t:List UInt8):List (List UInt8):=if Vn l t=0 then Do l (bG t) else []
theorem Z9(l:List HF)(t:List UInt8):(Ib l t).length<=100/\∀v∈Ib l t,v.length<=2000:=by
 unfold Ib
 split
 .rename_i h
  have hc:Bb l=0:=by
   unfold Vn at h
   by_cases g:Bb l=0
   .exact g
   .rw[QB g]at h;exact h
  have hl:=Dz hc;refine⟨XV (S7 l _) hl,λv hv=>?_⟩;obtain⟨_,h2,_⟩:=(Ko l).1 hc;unfold Do at hv;obtain⟨x,hx,rfl⟩:=List.mem_map.1 hv;exact (h2 x (List.mem_filter.1 hx).1).len
 .exact⟨by simp,λv hv=>by cases hv⟩
structure VrI(l:List HF)(t:List UInt8)(out:List (List UInt8))(th ok:Bool):Prop where
 eo:out=(B7 (Ib l t)).getD []
 et:th=!(Ib l t).isEmpty
 ek:ok=(B7 (Ib l t)).isSome
def vA:aB:=λ_ xs ls K=>∃(l:List HF) (nl:Bool) (n:Int) (f:Nat->List SV) (t:List UInt8),xs=[.sl (.a nl) (.a n) 2 f,.str t]/\ls=[]/\A5 f n l/\t.length<=9223372036854775807/\
 ∀out th ok g n' b,VrI l t out th ok->uT g n' b out->K (.aJ [.sl (.a b) (.a n') 1 g,.bool (.a th),.bool (.a ok)]) []
structure VrJ(r:List (List UInt8))(k:Option (List (List UInt8)))(O:List (List UInt8))(i:Nat)(I:Int)(m:Nat)(n:Int)(b:Bool)(f:Nat->List SV):Prop where
 bY:AtR r i I m
 row:uT f n b O
 ol:O.length<=2001 * i
 k:k=(B7 (r.drop i)).map λL=>O++L
def vrJ(r:List (List UInt8))(k:Option (List (List UInt8)))(rb:Bool)(rn:Int)(rf:Nat->List SV)(m:Nat)(vs:List (Option SV))(hp:List Hl):Prop :=
 ∃(O:List (List UInt8)) (i:Nat) (I n:Int) (b:Bool) (f:Nat->List SV),vs=[some (.dQ (.a b) (.a n) 1 f 0),some (.sl (.a rb) (.a rn) 1 rf),some (.sl (.a rb) (.a rn) 1 rf),some (.int .i64 (.a rn)),some (.int .i64 (.a I))]/\hp=[.tail 9 (.a n) 1]/\VrJ r k O i I m n b f
structure ad0(jQ X O:List (List UInt8))(B:Nat)(j:Nat)(Jx:Int)(m:Nat)(n:Int)(b:Bool)(f:Nat->List SV):Prop where
 bY:AtR jQ j Jx m
 row:uT f n b O
 ol:O.length<=B+j
 x:X=O++(jQ.drop j).map bG
def DN(jQ X:List (List UInt8))(B:Nat)(rb:Bool)(rn:Int)(rf:Nat->List SV)(I:Int)(eb:Bool)(en:Int)(ef:Nat->List SV)(m:Nat)(vs:List (Option SV))(hp:List Hl):Prop :=
 ∃(O:List (List UInt8)) (j:Nat) (Jx n:Int) (b:Bool) (f:Nat->List SV),vs=[some (.dQ (.a b) (.a n) 1 f 0),some (.sl (.a rb) (.a rn) 1 rf),some (.sl (.a rb) (.a rn) 1 rf),some (.int .i64 (.a rn)),some (.int .i64 (.a I)),some (.sl (.a eb) (.a en) 1 ef),some (.int .i64 (.a en)),some (.int .i64 (.a Jx))]/\hp=[.tail 9 (.a n) 1]/\ad0 jQ X O B j Jx m n b f
theorem Vc:∀(r:List (List UInt8)) (L:List (List UInt8)),B7 r=some L->L.length<=2001 * r.length
 | [],L,h=>by cases h;simp
 |v :: r,L,h=>by
  unfold B7 at h
  split at h
  .cases hr:B7 r with
   |none=>rw[hr]at h;cases h
   |some L' =>
    rw[hr]at h;simp only[QP,Option.some.injEq]at h;subst h;have h1:=Vc r L' hr;have h2:=(Dl v).1;rw[QF,XW,QG];omega
  .cases h
structure AS(r:List (List UInt8)):Prop where
 len:r.length<=100
 h:∀v∈r,v.length<=2000
theorem S5:Ap Tryz.prog gl 63 vA:=by
 refine Bv (gh:=[(0,[.attach 4 9])]) mixed Ck (Ab mm (Ab Rp (Ab Kh Ae))) Tryz.func63 (by kernel_rfl) (by kernel_rfl) ?_;intro xs ls K h;unfold vA at h;obtain⟨l,nl,n,f,t,rfl,rfl,R,ht,h⟩:=h;obtain⟨r,hr⟩:∃r,r=Ib l t:=⟨_,rfl⟩;have eF:=Z9 l t;rw[<-hr]at eF;have WU:AS r:=⟨eF.1,eF.2⟩;obtain⟨k,hk⟩:∃k,k=B7 r:=⟨_,rfl⟩;obtain⟨out,ho⟩:∃out,out=k.getD []:=⟨_,rfl⟩;have xf:out.length<=9223372036854775807:=by
  rw[ho];cases aZ:k with
  |none=>simp
  |some L=>have:=Vc r L (by rw[<-hk,aZ]);have:=eF.1;simp only[XG];omega
 obtain⟨th,SE⟩:∃th,th=!r.isEmpty:=⟨_,rfl⟩;obtain⟨ok,fT⟩:∃ok,ok=k.isSome:=⟨_,rfl⟩;obtain⟨g',n',b',G⟩:∃g n' b,uT g n' b out:=⟨_,_,_,⟨Dk.row xf,rfl⟩⟩;have h:=h out th ok g' n' b' ⟨by rw[ho,hk,hr],by rw[SE,hr],by rw[fT,hk,hr]⟩ G;clear eF xf;refine⟨_,_,h,λD hD=>?_⟩;clear h;cbv;refine⟨l,_,_,f,t,rfl,rfl,by subst hD;exact R,ht,λr2 e2 rf rn rb NP G2=>?_⟩;obtain rfl:r2=r:=by rw[hr];exact NP.er
 clear NP hr;cbv;obtain⟨J,hJ⟩:∃J,J=vrJ r2 k rb rn rf:=⟨_,rfl⟩;refine⟨[4,7,21,22,23],J,⟨rfl,r2.length,?_⟩,?_⟩
 .rw[hJ]
  subst hD;exact⟨[],0,_,_,_,_,rfl,rfl,⟨AtR.zero (by have:=WU.len;omega),uT.nil,QH _,by rw[hk,ZY];cases B7 r2<;>rfl⟩⟩
 clear hk;intro m vs hp hj;rw[hJ]at hj;obtain⟨O,i,I,n1,b1,f1,rfl,rfl,V⟩:=hj;cbv;refine br hD (λhb=>?_) (λhb=>?_)<;>cbv
 .have aC:=V.bY.lt G2.row.n (QT (p:=I<rn) hb)
  clear hb;have SD:th=true:=by rw[SE];cases r2 with
   |nil=>simp at aC
   |cons=>rfl
  refine⟨V.bY.fS hD G2.row.n aC,λj hj=>?_⟩;obtain rfl:=V.bY.j hD hj;clear hj;have e1:=G2.row.f j aC;have aZ:=V.k;rw[Hb (d:=[]) aC]at aZ;have aq:(r2.getD j []).length<=2000:=WU.h _ (by rw[QD,QC aC];exact XL aC);obtain⟨v,hv⟩:∃v,v=r2.getD j []:=⟨_,rfl⟩;rw[<-hv]at e1 aZ aq;have HV:eU v.length 2000:=⟨aq⟩;obtain⟨s1,s2⟩:=V.bY.step hD aC;have HJ:eU j 100:=⟨by have:=WU.len;omega⟩
  generalize r2.length-(j+1)=m' at s1 s2
  clear aq;cbv;rw[e1];cbv;refine⟨v,rfl,rfl,by have:=HV.h;omega,λjQ e en enb hle hn iB=>?_⟩;cbv;rw[B7]at aZ;obtain⟨uH,eu⟩:jQ=(A0 v).1/\e=(A0 v).2:=by rw[<-hle];exact⟨rfl,rfl⟩
  have jD:jQ.length<=2001/\∀x∈jQ,x.length<=2000:=by rw[uH];exact Dl v
  rw[<-uH,<-eu]at aZ;clear hle uH eu iB;refine br hD (λhb=>?_) (λhb=>?_)<;>cbv
  .have hb:(e != 0)=true:=by subst hD;exact hb
   rw[QA (by simpa using hb)]at aZ;have lO:k=none:=aZ;have TB:out=[]:=by rw[ho,lO];rfl
   have xg:ok=false:=by rw[fT,lO];rfl
   subst SD TB xg;subst hD;exact C6 (.aJ (.cons (OK uT.nil G rfl rfl) (.cons (aO.refl _) (.cons (aO.refl _) .nil))))
  have hb:e=0:=by
   have hb:(e != 0)=false:=by subst hD;exact hb
   simpa using hb
  rw[QB hb]at aZ;clear hb;have RE:Dk (E6 jQ) en jQ:=by rw[hn];exact Dk.row (by omega)
  have HE:eU jQ.length 2001:=⟨jD.1⟩;obtain⟨ef,yc⟩:∃ef,ef=E6 jQ:=⟨_,rfl⟩;rw[<-yc]at RE;rw[<-yc];clear hn yc;obtain⟨X,hX⟩:∃X,X=O++jQ.map bG:=⟨_,rfl⟩;obtain⟨B,hB⟩:∃B,B=2001 * j:=⟨_,rfl⟩;have HB:eU B 200100:=⟨by have:=HJ.h;omega⟩;have lO:k=(B7 (r2.drop (j+1))).map λL=>X++L:=by
   rw[aZ,hX];cases B7 (r2.drop (j+1)) with
   |none=>rfl
   |some L=>simp
  have xf:O.length<=B:=by rw[hB];exact V.ol
  have ey:B+2001<=2001 * (j+1):=by omega
  have hB3:eU (B+2001) (2001 * (j+1)):=⟨ey⟩;clear aZ hB ey;obtain⟨J2,wQ⟩:∃J2,J2=DN jQ X B rb rn rf I enb en ef:=⟨_,rfl⟩;refine⟨[4,7,21,22,23,34,35,36],J2,⟨rfl,jQ.length,?_⟩,?_⟩
  .rw[wQ]
   subst hD;exact⟨O,0,_,_,_,_,rfl,rfl,⟨AtR.zero RE.len,V.row,by omega,by rw[hX,ZY]⟩⟩
  clear hX xf;intro m2 vs hp hj;rw[wQ]at hj;obtain⟨O2,i2,I2,n2,b2,f2,rfl,rfl,V2⟩:=hj;cbv;refine br hD (λhb=>?_) (λhb=>?_)<;>cbv
  .have eL:=V2.bY.lt RE.n (QT (p:=I2<en) hb)
   clear hb;refine⟨V2.bY.fS hD RE.n eL,λj2 hj=>?_⟩;obtain rfl:=V2.bY.j hD hj;clear hj;have e2:=RE.f j2 eL;have ae:=V2.x;rw[Hb (d:=[]) eL,UV]at ae;have aq:(jQ.getD j2 []).length<=2000:=jD.2 _ (by rw[QD,QC eL];exact XL eL);obtain⟨w,hw⟩:∃w,w=jQ.getD j2 []:=⟨_,rfl⟩;rw[<-hw]at e2 ae aq;have HW:eU w.length 2000:=⟨aq⟩;have HO2:eU O2.length 202101:=⟨by have:=V2.ol;have:=HE.h;have:=HB.h;omega⟩;have VO:VI n2 O2.length:=⟨V2.row.row.n⟩;obtain⟨s3,s4⟩:=V2.bY.step hD eL
   generalize jQ.length-(j2+1)=m3 at s3 s4
   clear aq;cbv;rw[e2];cbv;refine⟨w,rfl,rfl,by have:=HW.h;omega,λz hz=>?_⟩;cbv;have hz:z=bG w:=hz;rw[<-hz]at ae;clear hz;intro g3 gT;cbv;have mS:g3 0=[.str z]:=gT.h 0 _ rfl;clear gT;refine⟨by subst hD;exact⟨rfl,by show (n2+1) * 16<=_;rw[VO.h];have:=HO2.h;omega,by show n2+1<=_;rw[VO.h];have:=HO2.h;omega⟩,λf4 n4 hm=>?_⟩;cbv;have G4:∀dJ,dJ=false->uT f4 n4 dJ (O2++[z]):=λdJ hb=>⟨V2.row.row.more mS (by subst hD;exact hm) (by have:=HO2.h;omega),by rw[hb];simp⟩;clear hm;refine⟨m3,s3,?_⟩;rw[wQ];unfold DN;subst hD;exact⟨O2++[z],j2+1,_,n4,(b2&&false),f4,rfl,rfl,⟨s4,G4 _ (ZM _),by have:=V2.ol;rw[QF];simp only[QG,QU];omega,by rw[ae];simp⟩⟩
  .have hi:=V2.bY.eq RE.n (QW (p:=I2<en) hb)
   have ae:=V2.x;rw[hi,XQ,List.map_nil,YT]at ae;clear hb;subst ae;refine⟨m',s1,?_⟩;rw[hJ];unfold vrJ;subst hD;exact⟨X,j+1,_,n2,b2,f2,rfl,rfl,⟨s2,V2.row,by have:=V2.ol;have:=HE.h;have:=hB3.h;omega,lO⟩⟩
 .have hi:=V.bY.eq G2.row.n (QW (p:=I<rn) hb)
  have aZ:=V.k;rw[hi,XQ]at aZ;have lO:k=some O:=by rw[aZ];simp[B7]
  have TB:out=O:=by rw[ho,lO];rfl
  have xg:ok=true:=by rw[fT,lO];rfl
  have SC:th=decide (0<rn):=by
   rw[SE,G2.row.n];cases r2 with
   |nil=>rfl
   |cons a l=>symm;rw[List.isEmpty_cons,Bool.not_false,QJ,QG];omega
  clear hb;subst TB xg;subst hD;exact C6 (.aJ (.cons (OK V.row G rfl rfl) (.cons (Dv (by exact SC.symm)) (.cons (aO.refl _) .nil))))
end Go.Proofs.YtdoogdbjiijifaaGreatDoor
