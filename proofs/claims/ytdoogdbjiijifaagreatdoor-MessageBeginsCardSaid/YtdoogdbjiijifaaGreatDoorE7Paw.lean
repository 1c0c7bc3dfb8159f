/- A part of the proof: contracts of functions, or the executor and its soundness. No conditions. -/
import Derived.Lib.ItoaNum
import Derived.Test.YtdoogdbjiijifaaGreatDoorProg
import Derived.Test.YtdoogdbjiijifaaGreatDoorE7Pan
namespace Go.Proofs.YtdoogdbjiijifaaGreatDoor
open Go.Sx
set_option maxRecDepth 10000
def tt:List (Nat×TI):=[
 (2,⟨.int .i64,1,8,[.int .i64 (.l 0)]⟩),
 (3,⟨.int .i64,1,8,[.int .i64 (.l 0)]⟩),
 (4,⟨.bool,1,1,[.bool (.l false)]⟩),
 (5,⟨.int .u8,1,1,[.int .u8 (.l 0)]⟩),
 (9,⟨.string,1,16,[.str []]⟩),
 (28,⟨.int .i64,1,8,[.int .i64 (.l 0)]⟩),
 (22,⟨.slice 5,1,24,[(.sl (.l true) (.l 0) 1 λ_=>[])]⟩),
 (23,⟨.slice 100,1,24,[(.sl (.l true) (.l 0) 2 λ_=>[])]⟩),
 (100,⟨.struct [(0,9),(1,9)],2,32,[.str [],.str []]⟩),
 (111,⟨.slice 9,1,24,[(.sl (.l true) (.l 0) 1 λ_=>[])]⟩),
 (55,⟨.struct [(0,2),(1,9),(2,9),(3,9),(4,23),(5,9)],6,96,[.int .i64 (.l 0),.str [],.str [],.str [],(.sl (.l true) (.l 0) 2 λ_=>[]),.str []]⟩),
 (36,⟨.struct [(0,3),(1,9),(2,9),(3,3),(4,23)],5,72,[.int .i64 (.l 0),.str [],.str [],.int .i64 (.l 0),(.sl (.l true) (.l 0) 2 λ_=>[])]⟩),
 (25,⟨.struct [(0,3),(1,3),(2,9),(3,23)],4,56,[.int .i64 (.l 0),.int .i64 (.l 0),.str [],(.sl (.l true) (.l 0) 2 λ_=>[])]⟩),
 (38,⟨.struct [(0,9),(1,3),(2,3),(3,9),(4,25),(8,3),(9,9),(10,3),(11,36)],16,208,[.str [],.int .i64 (.l 0),.int .i64 (.l 0),.str [],.int .i64 (.l 0),.int .i64 (.l 0),.str [],(.sl (.l true) (.l 0) 2 λ_=>[]),.int .i64 (.l 0),.str [],.int .i64 (.l 0),.int .i64 (.l 0),.str [],.str [],.int .i64 (.l 0),(.sl (.l true) (.l 0) 2 λ_=>[])]⟩),
 (45,⟨.struct [(0,25),(4,3),(5,9),(6,23),(7,4)],8,112,[.int .i64 (.l 0),.int .i64 (.l 0),.str [],(.sl (.l true) (.l 0) 2 λ_=>[]),.int .i64 (.l 0),.str [],(.sl (.l true) (.l 0) 2 λ_=>[]),.bool (.l false)]⟩),
 (97,⟨.int .u16,1,2,[.int .u16 (.l 0)]⟩),
 (88,⟨.slice 97,1,24,[(.sl (.l true) (.l 0) 1 λ_=>[])]⟩),
 (265,⟨.struct [(0,9),(1,4),(2,4),(3,4)],4,24,[.str [],.bool (.l false),.bool (.l false),.bool (.l false)]⟩),
 (178,⟨.pointer 180,1,8,[.iC]⟩),
 (180,⟨.struct [(0,178),(1,22)],2,32,[.iC,(.sl (.l true) (.l 0) 1 λ_=>[])]⟩),
 (157,⟨.iface,1,16,[.raw .nilIface]⟩),
 (314,⟨.map 9 4,1,8,[.raw (.map none)]⟩)]
def eqs:List TypeId:=[100]
def K5:List SV:=[
 .str [71,69,84],.bool (.l true),.bool (.l true),.bool (.l true),
 .str [72,69,65,68],.bool (.l true),.bool (.l true),.bool (.l true),
 .str [79,80,84,73,79,78,83],.bool (.l true),.bool (.l true),.bool (.l false),
 .str [84,82,65,67,69],.bool (.l true),.bool (.l true),.bool (.l true),
 .str [80,85,84],.bool (.l false),.bool (.l true),.bool (.l false),
 .str [68,69,76,69,84,69],.bool (.l false),.bool (.l true),.bool (.l false)]
def Agv(_:Nat):List SV:=[.ifc (.l false)]
def Ut(i:Nat):List SV:=[.int .u64 (.a (Go.Lib.pow10Tab.getD i 0))]
def gl:List (Nat×SV):=[(3,.dP 1 1 Agv),(4,.dP 20 1 Ut)]
def yU:List (Nat×SV):=[(1,.dB K5),(3,.dP 1 1 Agv),(4,.dP 20 1 Ut)]
section
variable {sp:aD}{n I c L:Int}{D:Dn}{j i m:Nat}{s r t:List UInt8}{p:Int->Bool}{f:Nat->List SV}{e a b:ST}
theorem Gt{f:Go.FuncId}(h:Aw Tryz.prog gl f sp):Aw Tryz.prog yU f sp :=
 ⟨h.1,λxs ls K hs=>let ⟨r,aI,hk,hc⟩:=h.2 xs ls K hs;⟨r,aI,hk,λB E w bB a b c d e=>hc B E w bB a b c d λg s hh=>e g s (by
  unfold gl at hh;unfold yU;simp only[Sx.look]at hh ⊢
  split
  .rename_i e1
   have e1:1=g:=by simpa using e1
   subst e1;simp at hh
  .exact hh)⟩⟩
theorem An4{f:Go.FuncId}(h:Aw Tryz.prog [] f sp):Aw Tryz.prog gl f sp :=
 ⟨h.1,λxs ls K hs=>let ⟨r,aI,hk,hc⟩:=h.2 xs ls K hs;⟨r,aI,hk,λB E w bB a b c d _=>hc B E w bB a b c d (λ_ _ hh=>nomatch hh)⟩⟩
theorem DO:nc Tryz.prog tt=true:=by kernel_rfl
theorem mixed:Tryz.prog.follows .mixedOrders=true:=by kernel_rfl
theorem Be{fC:List (Nat×aD)}{gl:List (Nat×SV)}{gh:List (Nat×List Gh)}{its:List (Nat×(aD->aD))}{yl:List aD}:Az Tryz.prog ⟨dn,tt,fC,gl,eqs,gh,its,yl⟩:=by
 refine⟨rfl,DO,λt ht=>?_⟩;simp only[eqs,ZO,List.mem_nil_iff,or_false]at ht;rcases ht with rfl
 all_goals
  refine⟨?_,?_,?_⟩
  .kernel_rfl
  .kernel_rfl
  .decide
set_option maxHeartbeats 2000000
def Qp:List UInt8:=[48,48,48,48,48,48,48,48,48,50,48,48,48,48,48,48,48,48,48,48,48,48,48,48,48,48,48,48,48,48,48,48,50,51,49,51,51,51,51,51,49,49,51,51,49,51,51,49,51,51,51,51,51,51,51,51,51,51,49,49,49,49,49,49,49,51,51,51,51,51,51,51,51,51,51,51,51,51,51,51,51,51,51,51,51,51,51,51,51,51,51,49,49,49,51,51,51,51,51,51,51,51,51,51,51,51,51,51,51,51,51,51,51,51,51,51,51,51,51,51,51,51,51,49,51,49,51,48]
def D9(c:Int):Int:=if 128<=c then 0 else ((Qp.getD c.toNat 48).toNat:Int)-48
def wL:aD:=λ_ xs ls K=>∃(c:Int),xs=[.int .u8 (.a c)]/\ls=[]/\(0<=c/\c<=255)/\∀r,r=D9 c->K (.int .i64 (.a r)) []
theorem Akp:∀i:Fin 128,48<=(Qp.getD i.1 0).toNat/\(Qp.getD i.1 0).toNat<=51/\Qp.getD i.1 0=Qp.getD i.1 48:=by decide
theorem Rg(h1:0<=n)(h2:n<=255):IntKind.u8.wrap n=n:=IntWalk.u8_in _ ⟨by omega,by omega⟩
theorem Aaf:Aw Tryz.prog gl 124 wL:=by
 refine Bd (gh:=[]) mixed Be Ai Tryz.func124 (by kernel_rfl) (by kernel_rfl) ?_;intro xs ls K h;unfold wL at h;obtain⟨c,rfl,rfl,hb,h⟩:=h;obtain⟨k,hk⟩:∃k,k=D9 c:=⟨_,rfl⟩;refine⟨_,_,h k hk,λD hD=>?_⟩;clear h;have w:IntKind.i64.wrap c=c:=wrap64 (by omega) (by omega);cbv;refine br hD (λh=>?_) (λh=>?_)<;>cbv
 .refine Bj hD ?_
  simp[w]at h;rw[hk,D9,QE h];rfl
 .have hc:c<128:=by simp[BT.den,Bl,ST.den,w]at h;omega
  clear h;refine⟨by subst hD;exact⟨hb.1,hc⟩,λc' jA=>?_⟩;cbv;refine Bj hD ?_;have e1:c'=((Qp.getD c.toNat 0).toNat:Int):=by subst hD;exact jA.h
  obtain⟨t1,t2,t3⟩:=Akp ⟨c.toNat,by omega⟩;simp only at t1 t2 t3;show IntKind.i64.wrap (IntKind.u8.wrap (c'-48))=k;rw[Rg (by omega) (by omega),wrap64 (by omega) (by omega),hk,D9,QD (by omega),<-t3,e1]
def A8(c:Int):Bool:=c==9||(decide (32<=c)&&decide (c<=126))
def tL:aD:=λ_ xs ls K=>∃(c:Int),xs=[.int .u8 (.a c)]/\ls=[]/\∀r,r=A8 c->K (.bool (.a r)) []
theorem Acl:Aw Tryz.prog gl 235 tL:=by
 refine Bd (gh:=[]) mixed Be Ai Tryz.func235 (by kernel_rfl) (by kernel_rfl) ?_;intro xs ls K h;unfold tL at h;obtain⟨c,rfl,rfl,h⟩:=h;obtain⟨k,hk⟩:∃k,k=A8 c:=⟨_,rfl⟩;refine⟨_,_,h k hk,λD hD=>?_⟩;clear h;cbv;refine Al hD ?_;rw[hk];simp[BT.den,Bl,ST.den,A8];rfl
structure Cq(c:Int)(s:List UInt8)(i:Nat):Prop where
 h:c=((s.getD i 0).toNat:Int)
theorem zN(hD:D=dn)(h:CU j (D.i (.a I))):(j:Int)=I:=by subst hD;exact h.h
structure ae4(s:List UInt8)(i:Nat)(I L:Int)(m:Nat):Prop where
 L:L=s.length
 le:i<=s.length
 I:I=i
 all:∀j:Nat,j<i->D9 ((s.getD j 0).toNat:Int)=3
 m:m=s.length-i
def Cc(s:List UInt8):Bool:=(s.all λc=>D9 (c.toNat:Int)==3)&&(decide (0<s.length)&&decide (s.length<=64))
theorem Ajh(hj:j<s.length)(h:D9 ((s.getD j 0).toNat:Int)≠3):Cc s=false:=by
 unfold Cc;rw[YV]
 left
 rw[List.all_eq_false];refine⟨s[j],XQ hj,?_⟩;rw[QC,QA hj]at h;simpa using h
theorem Afd(h:∀j:Nat,j<s.length->D9 ((s.getD j 0).toNat:Int)=3):Cc s=(decide (0<s.length)&&decide (s.length<=64)):=by
 unfold Cc;have:(s.all λc=>D9 (c.toNat:Int)==3)=true:=by
  rw[VD];intro c hc;obtain⟨j,hj,rfl⟩:=List.mem_iff_getElem.1 hc;have:=h j hj;rw[QC,QA hj]at this;simpa using this
 rw[this];simp
def tF:aD:=λ_ xs ls K=>∃(s:List UInt8),xs=[.str s]/\ls=[]/\s.length<=9223372036854775807/\∀r,r=Cc s->K (.bool (.a r)) []
def EP(s:List UInt8)(f:Nat->List SV)(m:Nat)(vs:List (Option SV))(hp:List Hl):Prop :=
 ∃(i:Nat) (I L:Int),vs=[some (.str s),some (.sl (.a false) (.a L) 1 f),some (.int .i64 (.a L)),some (.int .i64 (.a I))]/\hp=[]/\ae4 s i I L m
theorem N9:Aw Tryz.prog gl 61 tF:=by
 refine Bd (gh:=[]) mixed Be (Ab Aaf Ai) Tryz.func61 (by kernel_rfl) (by kernel_rfl) ?_;intro xs ls K h;unfold tF at h;obtain⟨s,rfl,rfl,hl,h⟩:=h;obtain⟨k,hk⟩:∃k,k=Cc s:=⟨_,rfl⟩;refine⟨_,_,h k hk,λD hD=>?_⟩;clear h;cbv;refine⟨⟨hl⟩,λf hf=>?_⟩;cbv;obtain⟨J,hJ⟩:∃J,J=EP s f:=⟨_,rfl⟩;refine⟨[0,6,7,8],J,⟨rfl,s.length,?_⟩,?_⟩
 .rw[hJ]
  subst hD;exact⟨0,0,_,rfl,rfl,⟨rfl,ZD _,rfl,by omega,rfl⟩⟩
 intro m vs hp hv;rw[hJ]at hv;unfold EP at hv;obtain⟨i,I,L,rfl,rfl,V⟩:=hv;cbv;refine br hD (λh=>?_) (λh=>?_)<;>cbv
 .have aA:i<s.length:=by simp at h;have:=V.I;have:=V.L;omega
  clear h;refine⟨?_,λj hj=>?_⟩
  .have:=V.I;have:=V.L;subst hD;exact⟨by simp[dn];omega,by simp[dn];omega⟩
  have pj:j=i:=by have:=zN hD hj;have:=V.I;omega
  obtain⟨c,hc⟩:∃c:Int,c=((s.getD i 0).toNat:Int):=⟨_,rfl⟩;have hb:0<=c/\c<=255:=by have:=(s.getD i 0).toNat_lt;omega
  have pR:f i=[.int .u8 (.a c)]:=by rw[hf.h,hc];rfl
  have hc:Cq c s i:=⟨hc⟩;subst pj;clear hj;cbv;rw[pR];cbv;refine⟨_,rfl,rfl,by subst hD;exact hb,λr hr=>?_⟩;have hr:r=D9 c:=by subst hD;exact hr
  cbv;refine br hD (λh=>?_) (λh=>?_)<;>cbv
  .refine Al hD ?_
   have:r≠3:=by simpa[BT.den,Bl,ST.den] using h
   rw[hk,Ajh aA (by rw[<-hc.h,<-hr];exact this)];rfl
  .have h3:r=3:=by simpa[BT.den,Bl,ST.den] using h
   refine⟨s.length-(j+1),by have:=V.m;omega,?_⟩;rw[hJ];subst hD;have hI:=V.I;refine⟨j+1,_,_,rfl,rfl,⟨V.L,by omega,?_,λq hq=>?_,rfl⟩⟩
   .simp[dn]
    rw[wrap64 (by omega) (by omega)];omega
   .by_cases hqj:q=j
    .subst hqj
     rw[<-hc.h];exact hr.symm.trans h3
    .exact V.all q (by omega)
 .have hi:i=s.length:=by simp at h;have:=V.I;have:=V.L;have:=V.le;omega
  clear h;have hy:=Afd (s:=s) (λj hj=>V.all j (by omega));refine Al hD ?_;rw[hk,hy];show (decide ((0:Int)<(s.length:Int))&&decide ((s.length:Int)<=64))=_;congr 1<;>exact decide_eq_decide.2 (by omega)
def MD(p:Int->Bool)(s:List UInt8):Bool:=s.any λc=>p (c.toNat:Int)
theorem Pe(hj:j<s.length):s.getD j 0=s[j]:=by
 rw[QC,QA hj];rfl
theorem D0(hD:D=dn)(hI:I=i)(h:Ahh c s (D.i (.a I))):Cq c s i:=by
 subst hD;refine⟨?_⟩;have h:=h.h;show c=_;rw[h];show (((s.getD I.toNat 0).toNat:Nat):Int)=_;rw[hI,ZP]
theorem Cq.le(h:Cq c s i):0<=c/\c<=255:=by
 have h1:=h.h;have:=(s.getD i 0).toNat_lt;omega
structure At(s:List UInt8)(i:Nat)(I:Int)(m:Nat):Prop where
 le:i<=s.length
 I:I=i
 m:m=s.length-i
 len:s.length<=9223372036854775807
theorem At.zero(h:s.length<=9223372036854775807):At s 0 0 s.length:=⟨ZD _,rfl,by omega,h⟩
theorem drop_at(h:i<s.length):s.drop i=s.getD i 0 :: s.drop (i+1):=by
 rw[Pe h];exact XY h
theorem At.lt(V:At s i I m)(h:I<(s.length:Int)):i<s.length:=by have:=V.I;omega
theorem At.eq(V:At s i I m)(h:¬I<(s.length:Int)):i=s.length:=by have:=V.I;have:=V.le;omega
theorem At.nU(hD:D=dn)(V:At s i I m)(h:i<s.length):InS (D.i (.a I)) s:=by
 have:=V.I;subst hD;exact⟨by show 0<=I;omega,by show I<s.length;omega⟩
theorem At.step(hD:D=dn)(V:At s i I m)(h:i<s.length):s.length-(i+1)<m/\At s (i+1) (D.i (.bin .add .i64 (.a I) (.l 1))) (s.length-(i+1)):=by
 have h1:=V.I;have h2:=V.len;have h3:=V.m;subst hD;refine⟨by omega,by omega,?_,rfl,h2⟩;show IntKind.i64.wrap (I+1)=_;rw[wrap64 (by omega) (by omega)];omega
theorem Cq.of(h:Cq c s i):((s.getD i 0).toNat:Int)=c:=h.h.symm
def mO:List UInt8:=[33,35,36,37,38,39,42,43,45,46,94,95,96,124,126]
def Afz(c:Int):Bool:=((decide (97<=c)&&decide (c<=122))||(decide (65<=c)&&decide (c<=90)))||(decide (48<=c)&&decide (c<=57))
def fV(c:Int):Bool:=Afz c||MD (λx=>x==c) mO
theorem Alq(h:i<s.length):MD p (s.drop i)=(p ((s.getD i 0).toNat:Int)||MD p (s.drop (i+1))):=by
 rw[drop_at h];rfl
theorem Aps(h:i=s.length):MD p (s.drop i)=false:=by
 rw[h,ZR];rfl
def FU(c:Int)(k:Bool)(s:List UInt8)(m:Nat)(vs:List (Option SV))(hp:List Hl):Prop :=
 ∃(i:Nat) (I:Int),vs=[some (.int .u8 (.a c)),some (.str s),some (.int .i64 (.a I))]/\hp=[]/\At s i I m/\k=MD (λx=>x==c) (s.drop i)
def qA:aD:=λ_ xs ls K=>∃(c:Int),xs=[.int .u8 (.a c)]/\ls=[]/\∀r,r=fV c->K (.bool (.a r)) []
theorem Akk:Aw Tryz.prog gl 129 qA:=by
 refine Bd (gh:=[]) mixed Be Ai Tryz.func129 (by kernel_rfl) (by kernel_rfl) ?_;intro xs ls K h;unfold qA at h;obtain⟨c,rfl,rfl,h⟩:=h;obtain⟨k,hk⟩:∃k,k=fV c:=⟨_,rfl⟩;refine⟨_,_,h k hk,λD hD=>?_⟩;clear h;cbv;refine br hD (λh=>?_) (λh=>?_)<;>cbv
 .refine Al hD ?_
  have h2:Afz c=true:=h;rw[hk,fV,h2];rfl
 have hr:Afz c=false:=h;clear h;obtain⟨J,hJ⟩:∃J,J=FU c k mO:=⟨_,rfl⟩;refine⟨[0,3,4],J,⟨rfl,15,?_⟩,?_⟩
 .rw[hJ]
  subst hD;refine⟨0,0,rfl,rfl,At.zero (by decide),?_⟩;rw[hk,fV,hr];rfl
 intro m vs dS hv;rw[hJ]at hv;unfold FU at hv;obtain⟨i,I,rfl,rfl,V,aR⟩:=hv;clear hk;obtain⟨s,hs⟩:∃s,s=mO:=⟨_,rfl⟩;rw[<-hs]at aR V hJ ⊢;clear hs;cbv;refine br hD (λh=>?_) (λh=>?_)<;>cbv
 .have aA:=V.lt (QS (p:=I<(s.length:Int)) h)
  clear h;refine⟨V.nU hD aA,λb hc=>?_⟩;have hc:=D0 hD V.I hc;rw[Alq aA,hc.of]at aR;cbv;refine br hD (λh=>?_) (λh=>?_)<;>cbv
  .have h3:(b==c)=true:=h
   refine Al hD ?_;rw[aR,h3];rfl
  .have h3:(b==c)=false:=h
   refine⟨_,(V.step hD aA).1,?_⟩;rw[hJ];subst hD;exact⟨i+1,_,rfl,rfl,(V.step rfl aA).2,by rw[aR,h3];rfl⟩
 .have hi:=V.eq (QZ (p:=I<(s.length:Int)) h)
  refine Al hD ?_;rw[aR,Aps hi];rfl
def allI(p:Int->Bool)(s:List UInt8):Bool:=s.all λc=>p (c.toNat:Int)
theorem Als(h:i<s.length):allI p (s.drop i)=(p ((s.getD i 0).toNat:Int)&&allI p (s.drop (i+1))):=by
 rw[drop_at h];rfl
theorem Apv(h:i=s.length):allI p (s.drop i)=true:=by
 rw[h,ZR];rfl
def I5(s:List UInt8):Bool:=!(decide ((s.length:Int)<1)||decide (64<(s.length:Int)))&&allI fV s
def Amb(F:List UInt8->Bool):aD:=λ_ xs ls K=>∃(s:List UInt8),xs=[.str s]/\ls=[]/\s.length<=9223372036854775807/\∀r,r=F s->K (.bool (.a r)) []
def rh(p:Int->Bool)(k:Bool)(s:List UInt8)(m:Nat)(vs:List (Option SV))(hp:List Hl):Prop :=
 ∃(i:Nat) (I:Int),vs=[some (.str s),some (.int .i64 (.a I))]/\hp=[]/\At s i I m/\k=allI p (s.drop i)
theorem H9:Aw Tryz.prog gl 69 (Amb I5):=by
 refine Bd (gh:=[]) mixed Be (Ab Akk Ai) Tryz.func69 (by kernel_rfl) (by kernel_rfl) ?_;intro xs ls K h;unfold Amb at h;obtain⟨s,rfl,rfl,hl,h⟩:=h;obtain⟨k,hk⟩:∃k,k=I5 s:=⟨_,rfl⟩;refine⟨_,_,h k hk,λD hD=>?_⟩;clear h;obtain⟨p,hp⟩:∃p,p=fV:=⟨_,rfl⟩;rw[I5,<-hp]at hk;cbv;refine br hD (λh=>?_) (λh=>?_)<;>cbv
 .have h2:(decide ((s.length:Int)<1)||decide (64<(s.length:Int)))=true:=h
  rw[h2]at hk;exact Al hD hk.symm
 have h2:(decide ((s.length:Int)<1)||decide (64<(s.length:Int)))=false:=h;rw[h2]at hk;clear h h2;obtain⟨J,hJ⟩:∃J,J=rh p k s:=⟨_,rfl⟩;refine⟨[0,3],J,⟨rfl,s.length,?_⟩,?_⟩
 .rw[hJ]
  subst hD;exact⟨0,0,rfl,rfl,At.zero hl,hk⟩
 intro m vs dS hv;rw[hJ]at hv;unfold rh at hv;obtain⟨i,I,rfl,rfl,V,aR⟩:=hv;clear hk;cbv;refine br hD (λh=>?_) (λh=>?_)<;>cbv
 .have aA:=V.lt (QS (p:=I<(s.length:Int)) h)
  clear h;refine⟨V.nU hD aA,λb hc=>?_⟩;have hc:=D0 hD V.I hc;rw[Als aA,hc.of]at aR;cbv;refine⟨_,rfl,rfl,λr hr=>?_⟩;have cP:r=p b:=by subst hD hp;exact hr
  clear hr;rw[<-cP]at aR;cbv;refine br hD (λh=>?_) (λh=>?_)<;>cbv
  .have h3:r=false:=by simpa[BT.den] using h
   rw[h3]at aR;exact Al hD aR.symm
  .have h3:r=true:=by simpa[BT.den] using h
   rw[h3]at aR;refine⟨_,(V.step hD aA).1,?_⟩;rw[hJ];subst hD;exact⟨i+1,_,rfl,rfl,(V.step rfl aA).2,aR⟩
 .have hi:=V.eq (QZ (p:=I<(s.length:Int)) h)
  rw[Apv hi]at aR;exact Al hD aR.symm
structure Bz(f:Nat->List SV)(n:Int)(a:List (List UInt8)):Prop where
 n:n=a.length
 f:∀i,i<a.length->f i=[.str (a.getD i [])]
 len:a.length<=9223372036854775807
structure AtR{α:Type}(s:List α)(i:Nat)(I:Int)(m:Nat):Prop where
 le:i<=s.length
 I:I=i
 m:m=s.length-i
 len:s.length<=9223372036854775807
theorem AtR.zero{α:Type}{s:List α}(h:s.length<=9223372036854775807):AtR s 0 0 s.length:=⟨ZD _,rfl,by omega,h⟩
theorem AtR.lt{α:Type}{s:List α}(V:AtR s i I m)(hn:n=s.length)(h:I<n):i<s.length:=by have:=V.I;omega
theorem AtR.eq{α:Type}{s:List α}(V:AtR s i I m)(hn:n=s.length)(h:¬I<n):i=s.length:=by have:=V.I;have:=V.le;omega
theorem AtR.mP(hD:D=dn){α:Type}{s:List α}(V:AtR s i I m)(hn:n=s.length)(h:i<s.length):zX (D.i (.a I)) (D.i (.a n)):=by
 have:=V.I;subst hD;exact⟨by show 0<=I;omega,by show I<n;omega⟩
theorem AtR.step(hD:D=dn){α:Type}{s:List α}(V:AtR s i I m)(h:i<s.length):s.length-(i+1)<m/\AtR s (i+1) (D.i (.bin .add .i64 (.a I) (.l 1))) (s.length-(i+1)):=by
 have h1:=V.I;have h2:=V.len;have h3:=V.m;subst hD;refine⟨by omega,by omega,?_,rfl,h2⟩;show IntKind.i64.wrap (I+1)=_;rw[wrap64 (by omega) (by omega)];omega
end
theorem AtR.j{D:Dn}(hD:D=dn){α:Type}{s:List α}{i j:Nat}{I:Int}{m:Nat}(V:AtR s i I m)(h:CU j (D.i (.a I))):j=i:=by
 have:=zN hD h;have:=V.I;omega
section
variable {sp:aD}{n I c L:Int}{D:Dn}{j i m:Nat}{s r t:List UInt8}{p:Int->Bool}{f:Nat->List SV}{e a b:ST}
theorem Pn{α:Type}{s:List α}{d:α}(h:i<s.length):s.drop i=s.getD i d :: s.drop (i+1):=by
 rw[XY h,QC,QA h];rfl
def foldI(c:Int):Int:=if 65<=c/\c<=90 then c+32 else c
def An3(b:UInt8):UInt8:=if 65<=b.toNat/\b.toNat<=90 then b+32 else b
def Bg(s:List UInt8):List UInt8:=s.map An3
theorem Ak4(b:UInt8):((An3 b).toNat:Int)=foldI (b.toNat:Int):=by
 unfold An3 foldI;have:=b.toNat_lt
 by_cases h:65<=b.toNat/\b.toNat<=90
 .rw[QE h,QE (by omega)]
  rw[UInt8.toNat_add];simp;omega
 .rw[QD h,QD (by omega)]
structure G1(s:List UInt8)(f:Nat->List SV)(i:Nat)(L:Int):Prop where
 L:L=s.length
 f:∀j,f j=[.int .u8 (.a (if j<i then foldI ((s.getD j 0).toNat:Int) else ((s.getD j 0).toNat:Int)))]
theorem G1.zero(h:f=dY s):G1 s f 0 s.length:=by
 refine⟨rfl,λj=>?_⟩;rw[h];simp[dY]
theorem G1.same(V:G1 s f i L)(h:¬(65<=((s.getD i 0).toNat:Int)/\((s.getD i 0).toNat:Int)<=90)):G1 s f (i+1) L:=by
 refine⟨V.L,λj=>?_⟩;rw[V.f j]
 by_cases e:j=i
 .subst e
  rw[QD (Nat.lt_irrefl _),QE (US _),foldI,QD h]
 .have:(j<i)=(j<i+1):=by simp;omega
  simp only[this]
theorem G1.set{f':Nat->List SV}{v:Int}(V:G1 s f i L)(h:Ap3 f' f i [.int .u8 (.a v)])(hv:v=foldI ((s.getD i 0).toNat:Int)):G1 s f' (i+1) L:=by
 refine⟨V.L,λj=>?_⟩
 by_cases e:j=i
 .subst e
  rw[h.at_,QE (US _),hv]
 .rw[h.other j e,V.f j]
  have:(j<i)=(j<i+1):=by simp;omega
  simp only[this]
theorem G1.dY(V:G1 s f i L):Hc L f:=by
 refine⟨by have:=V.L;omega,λj _=>⟨_,V.f j,?_⟩⟩;show 0<=(if j<i then foldI ((s.getD j 0).toNat:Int) else ((s.getD j 0).toNat:Int))/\(if j<i then foldI ((s.getD j 0).toNat:Int) else ((s.getD j 0).toNat:Int))<256;have:=(s.getD j 0).toNat_lt;unfold foldI
 split
 .split<;>omega
 .omega
theorem G1.str(V:G1 s f i L)(hi:i=s.length)(h:Lw r L f):r=Bg s:=by
 have hl:r.length=s.length:=by have:=h.len;have:=V.L;omega
 refine List.ext_getElem (by simp[Bg,hl]) λj h1 h2=>?_;have hj:j<s.length:=by omega
 have:=h.row j _ (by rw[V.L];omega) (V.f j);rw[QE (by omega),Pe h1,Pe hj]at this;simp only[Bg,List.getElem_map];refine UInt8.toNat_inj.1 ?_;have e2:=Ak4 s[j];have e3:((r[j].toNat:Nat):Int)=foldI (s[j].toNat:Int):=this;omega
def pA:aD:=λ_ xs ls K=>∃(s:List UInt8),xs=[.str s]/\ls=[]/\s.length<=9223372036854775807/\∀r,r=Bg s->K (.str r) []
def Acf(s:List UInt8)(m:Nat)(vs:List (Option SV))(hp:List Hl):Prop :=
 ∃(i:Nat) (I L:Int) (nl:Bool) (f:Nat->List SV),vs=[some (.bY (.a nl) (.a L) 0),some (.int .i64 (.a I))]/\hp=[.own 5 (.a L) 1 false f]/\At s i I m/\G1 s f i L
theorem up8:∀n:Fin 26,Cp .or .u8 (65+(n.1:Int)) 32=65+(n.1:Int)+32:=by decide
theorem or8(h1:65<=c)(h2:c<=90):Cp .or .u8 c 32=c+32:=by
 have:=up8 ⟨(c-65).toNat,by omega⟩;have e:65+(((c-65).toNat:Nat):Int)=c:=by omega
 simp only[e]at this;exact this
theorem and_false(h:(decide (65<=c)&&decide (c<=90))=false):¬(65<=c/\c<=90):=by simpa using h
theorem Jy:Aw Tryz.prog gl 73 pA:=by
 refine Bd (gh:=[(999983,[])]) mixed Be Ai Tryz.func73 (by kernel_rfl) (by kernel_rfl) ?_;intro xs ls K h;unfold pA at h;obtain⟨s,rfl,rfl,hl,h⟩:=h;obtain⟨k,hk⟩:∃k,k=Bg s:=⟨_,rfl⟩;refine⟨_,_,h k hk,λD hD=>?_⟩;clear h;cbv;refine⟨⟨hl⟩,λf hf=>?_⟩;cbv;obtain⟨J,hJ⟩:∃J,J=Acf s:=⟨_,rfl⟩;refine⟨[3,4],J,⟨rfl,s.length,?_⟩,?_⟩
 .rw[hJ]
  subst hD;exact⟨0,0,_,_,f,rfl,rfl,At.zero hl,G1.zero hf.h⟩
 clear hf;intro m vs dS hv;rw[hJ]at hv;unfold Acf at hv;obtain⟨i,I,L,nl,f,rfl,rfl,V,F⟩:=hv;cbv;refine br hD (λh=>?_) (λh=>?_)<;>cbv
 .have aA:=V.lt (by have h:=QS (p:=I<L) h;have:=F.L;omega)
  clear h;refine⟨⟨rfl⟩,?_,λj hj=>?_⟩
  .have:=V.I;have:=F.L;subst hD;exact⟨by show 0<=I;omega,by show I<L;omega⟩
  have pj:j=i:=by have:=zN hD hj;have:=V.I;omega
  subst pj;clear hj;obtain⟨c,hc⟩:∃c:Int,c=((s.getD j 0).toNat:Int):=⟨_,rfl⟩;have pR:f j=[.int .u8 (.a c)]:=by rw[F.f j,QD (Nat.lt_irrefl _),hc]
  have hc:Cq c s j:=⟨hc⟩;have hb:=hc.le;cbv;refine⟨⟨rfl⟩,?_,?_⟩
  .have:=V.I;have:=F.L;subst hD;exact⟨by show (j:Int)<L;omega⟩
  rw[pR];cbv;refine⟨λ_=>⟨rfl⟩,λ_=>?_,λj2 iZ=>?_⟩
  .have:=V.I;have:=F.L;subst hD;exact⟨by show 0<=I;omega,by show I<L;omega⟩
  obtain⟨c2,cQ⟩:∃c2:Int,f j2=[.int .u8 (.a c2)]:=⟨_,F.f j2⟩;refine⟨λ_=>⟨rfl⟩,λhg=>?_,?_⟩
  .have pj:=zN hD (iZ hg);have:=V.I;have:=F.L;subst hD;exact⟨by show (j2:Int)<L;omega⟩
  rw[cQ];cbv;refine br hD (λh=>?_) (λh=>?_)<;>cbv
  .have kX:65<=c/\c2<=90:=by
    have h:(decide (65<=c)&&decide (c2<=90))=true:=h;simpa using h
   have fh:j2=j:=by
    have:=zN hD (iZ (by subst hD;show decide (65<=c)=true;simpa using kX.1));have:=V.I;omega
   rw[fh,pR]at cQ;have ab2:c=c2:=by simpa using cQ
   have h90:c<=90:=by omega
   clear cQ fh iZ h;refine⟨⟨rfl⟩,?_,λj3 HZ=>?_⟩
   .have:=V.I;have:=F.L;subst hD;exact⟨by show 0<=I;omega,by show I<L;omega⟩
   have w8:j3=j:=by have:=zN hD HZ;have:=V.I;omega
   clear HZ;subst w8;cbv;refine⟨⟨rfl⟩,?_,?_⟩
   .have:=V.I;have:=F.L;subst hD;exact⟨by show (j3:Int)<L;omega⟩
   rw[pR];cbv;refine⟨⟨rfl⟩,?_,λj4 hj4=>?_⟩
   .have:=V.I;have:=F.L;subst hD;exact⟨by show 0<=I;omega,by show I<L;omega⟩
   have WQ:j4=j3:=by have:=zN hD hj4;have:=V.I;omega
   clear hj4;subst WQ;cbv;refine⟨⟨rfl⟩,?_,?_⟩
   .have:=V.I;have:=F.L;subst hD;exact⟨by show (j4:Int)<L;omega⟩
   rw[pR];cbv;intro f' cR;cbv;refine⟨_,(V.step hD aA).1,?_⟩;rw[hJ];subst hD;refine⟨j4+1,_,_,_,f',rfl,rfl,(V.step rfl aA).2,F.set cR ?_⟩;rw[hc.of,foldI,QE ⟨kX.1,h90⟩];show IntKind.u8.wrap (IntKind.u8.wrap (c+97)-65)=_;rw[Rg (n:=c+97) (by omega) (by omega),Rg (by omega) (by omega)];omega
  .have hn:¬(65<=((s.getD j 0).toNat:Int)/\((s.getD j 0).toNat:Int)<=90):=by
    rw[hc.of];rintro⟨h1,h2⟩;have fh:j2=j:=by
     have:=zN hD (iZ (by subst hD;show decide (65<=c)=true;simpa using h1));have:=V.I;omega
    rw[fh,pR]at cQ;have ab2:c=c2:=by simpa using cQ
    have h3:¬(65<=c/\c2<=90):=by
     have h:(decide (65<=c)&&decide (c2<=90))=false:=h;simpa using h
    exact h3 ⟨h1,by omega⟩
   refine⟨_,(V.step hD aA).1,?_⟩;rw[hJ];subst hD;exact⟨j+1,_,_,_,f,rfl,rfl,(V.step rfl aA).2,F.same hn⟩
 .have hi:=V.eq (λh'=>by have h:=QZ (p:=I<L) h;have:=F.L;omega)
  clear h;refine⟨⟨rfl⟩,by subst hD;exact F.dY,λr hr=>?_⟩;cbv;have cP:r=k:=by subst hD;rw[hk];exact F.str hi hr
  rw[cP];exact Fb (fE.refl _)
def qc(s:List UInt8)(m:Nat)(vs:List (Option SV))(hp:List Hl):Prop :=
 ∃(i:Nat) (I L:Int) (nl:Bool) (f:Nat->List SV),vs=[some (.bY (.a nl) (.a L) 0),some (.bY (.a nl) (.a L) 0),some (.int .i64 (.a L)),some (.int .i64 (.a I))]/\hp=[.own 5 (.a L) 1 false f]/\At s i I m/\G1 s f i L
theorem Pg:Aw Tryz.prog gl 128 pA:=by
 refine Bd (gh:=[(999983,[])]) mixed Be Ai Tryz.func128 (by kernel_rfl) (by kernel_rfl) ?_;intro xs ls K h;unfold pA at h;obtain⟨s,rfl,rfl,hl,h⟩:=h;obtain⟨k,hk⟩:∃k,k=Bg s:=⟨_,rfl⟩;refine⟨_,_,h k hk,λD hD=>?_⟩;clear h;cbv;refine⟨⟨hl⟩,λf hf=>?_⟩;cbv;obtain⟨J,hJ⟩:∃J,J=qc s:=⟨_,rfl⟩;refine⟨[3,8,9,10],J,⟨rfl,s.length,?_⟩,?_⟩
 .rw[hJ]
  subst hD;exact⟨0,0,_,_,f,rfl,rfl,At.zero hl,G1.zero hf.h⟩
 clear hf;intro m vs dS hv;rw[hJ]at hv;unfold qc at hv;obtain⟨i,I,L,nl,f,rfl,rfl,V,F⟩:=hv;cbv;refine br hD (λh=>?_) (λh=>?_)<;>cbv
 .have aA:=V.lt (by have h:=QS (p:=I<L) h;have:=F.L;omega)
  clear h;refine⟨⟨rfl⟩,?_,λj hj=>?_⟩
  .have:=V.I;have:=F.L;subst hD;exact⟨by show 0<=I;omega,by show I<L;omega⟩
  have pj:j=i:=by have:=zN hD hj;have:=V.I;omega
  subst pj;clear hj;obtain⟨c,hc⟩:∃c:Int,c=((s.getD j 0).toNat:Int):=⟨_,rfl⟩;have pR:f j=[.int .u8 (.a c)]:=by rw[F.f j,QD (Nat.lt_irrefl _),hc]
  have hc:Cq c s j:=⟨hc⟩;have hb:=hc.le;cbv;refine⟨⟨rfl⟩,?_,?_⟩
  .have:=V.I;have:=F.L;subst hD;exact⟨by show (j:Int)<L;omega⟩
  rw[pR];cbv;refine br hD (λh=>?_) (λh=>?_)<;>cbv
  .have kX:65<=c/\c<=90:=by
    have h:(decide (65<=c)&&decide (c<=90))=true:=h;simpa using h
   clear h;refine⟨⟨rfl⟩,?_,λj3 HZ=>?_⟩
   .have:=V.I;have:=F.L;subst hD;exact⟨by show 0<=I;omega,by show I<L;omega⟩
   have w8:j3=j:=by have:=zN hD HZ;have:=V.I;omega
   clear HZ;subst w8;cbv;refine⟨⟨rfl⟩,?_,?_⟩
   .have:=V.I;have:=F.L;subst hD;exact⟨by show (j3:Int)<L;omega⟩
   rw[pR];cbv;intro f' cR;cbv;refine⟨_,(V.step hD aA).1,?_⟩;rw[hJ];subst hD;refine⟨j3+1,_,_,_,f',rfl,rfl,(V.step rfl aA).2,F.set cR ?_⟩;rw[hc.of,foldI,QE kX];exact or8 kX.1 kX.2
  .have hn:¬(65<=((s.getD j 0).toNat:Int)/\((s.getD j 0).toNat:Int)<=90):=by
    rw[hc.of];exact and_false h
   refine⟨_,(V.step hD aA).1,?_⟩;rw[hJ];subst hD;exact⟨j+1,_,_,_,f,rfl,rfl,(V.step rfl aA).2,F.same hn⟩
 .have hi:=V.eq (λh'=>by have h:=QZ (p:=I<L) h;have:=F.L;omega)
  clear h;refine⟨⟨rfl⟩,by subst hD;exact F.dY,λr hr=>?_⟩;cbv;have cP:r=k:=by subst hD;rw[hk];exact F.str hi hr
  rw[cP];exact Fb (fE.refl _)
def gG(p:Int->Bool):List UInt8->Option (Nat×List UInt8)
 | []=>none
 |c :: r =>
  if !p (c.toNat:Int) then none
  else if (c.toNat:Int)=34 then some (1,[])
  else if (c.toNat:Int)=92 then (match r with
   | []=>none
   |d :: r'=>if !p (d.toNat:Int) then none else (gG p r').map λx=>(x.1+2,d :: x.2))
  else (gG p r).map λx=>(x.1+1,c :: x.2)
def aC(s:List UInt8)(i:Nat):Int:=((s.getD i 0).toNat:Int)
theorem Ed(p:Int->Bool)(c:UInt8)(r:List UInt8):gG p (c :: r)=(if !p (c.toNat:Int) then none
  else if (c.toNat:Int)=34 then some (1,[])
  else if (c.toNat:Int)=92 then (match r with
   | []=>none
   |d :: r'=>if !p (d.toNat:Int) then none else (gG p r').map λx=>(x.1+2,d :: x.2))
  else (gG p r).map λx=>(x.1+1,c :: x.2)):=by rw[gG.eq_def]
theorem Ah3(h:i<s.length)(hb:p (aC s i)=false):gG p (s.drop i)=none:=by
 rw[drop_at h,Ed];unfold aC at hb;rw[hb];rfl
theorem Ah2(h:s.length<=i):gG p (s.drop i)=none:=by
 rw[XM h];rfl
theorem X6(h:i<s.length)(hb:p (aC s i)=true)(hq:aC s i=34):gG p (s.drop i)=some (1,[]):=by
 rw[drop_at h,Ed];unfold aC at hb hq;rw[hb,QD (by simp),QE hq]
theorem Ah1(h:i<s.length)(hb:p (aC s i)=true)(hq:aC s i=92)(h2:i+1<s.length)(eA:p (aC s (i+1))=true):gG p (s.drop i)=(gG p (s.drop (i+2))).map λx=>(x.1+2,s.getD (i+1) 0 :: x.2):=by
 rw[drop_at h,drop_at h2,Ed];unfold aC at hb hq eA;rw[hb,QD (by simp),QD (by omega),QE hq];simp only;rw[eA];simp
theorem Ur(h:i<s.length)(hb:p (aC s i)=true)(hq:aC s i=92)(h2:¬(i+1<s.length/\p (aC s (i+1))=true)):gG p (s.drop i)=none:=by
 by_cases h3:i+1<s.length
 .have eA:p (aC s (i+1))=false:=by simpa[h3] using h2
  rw[drop_at h,drop_at h3,Ed];unfold aC at hb hq eA;rw[hb,QD (by simp),QD (by omega),QE hq];simp only;rw[eA];simp
 .rw[drop_at h,XM (by omega),Ed]
  unfold aC at hb hq;rw[hb,QD (by simp),QD (by omega),QE hq]
theorem Acj(h:i<s.length)(hb:p (aC s i)=true)(hq:aC s i≠34)(bE:aC s i≠92):gG p (s.drop i)=(gG p (s.drop (i+1))).map λx=>(x.1+1,s.getD i 0 :: x.2):=by
 rw[drop_at h,Ed];unfold aC at hb hq bE;rw[hb,QD (by simp),QD hq,QD bE]
def Kf(c:Int):Bool:=!(D9 c==0)
def sB(p:Int->Bool)(s:List UInt8)(i:Nat):Int:=match gG p (s.drop (i+1)) with
 |none=>0
 |some x=>((i+1+x.1:Nat):Int)
def Oi(s:List UInt8):Int:=sB Kf s 0
theorem Oj(h:gG p (s.drop (i+1))=none):sB p s i=0:=by rw[sB,h]
theorem X8(h:i+1<s.length)(hb:p (aC s (i+1))=true)(hq:aC s (i+1)=34):sB p s i=((i+2:Nat):Int):=by
 rw[sB,X6 h hb hq];rfl
theorem Ah4(h:i+1<s.length)(hb:p (aC s (i+1))=true)(hq:aC s (i+1)=92)(h2:i+2<s.length)(eA:p (aC s (i+2))=true):sB p s i=sB p s (i+2):=by
 rw[sB,Ah1 h hb hq h2 eA,sB];cases gG p (s.drop (i+1+2)) with
 |none=>rfl
 |some x=>simp only[QO];congr 1;omega
theorem Ack(h:i+1<s.length)(hb:p (aC s (i+1))=true)(hq:aC s (i+1)≠34)(bE:aC s (i+1)≠92):sB p s i=sB p s (i+1):=by
 rw[sB,Acj h hb hq bE,sB];cases gG p (s.drop (i+1+1)) with
 |none=>rfl
 |some x=>simp only[QO];congr 1;omega
structure QI(s:List UInt8)(i:Nat)(I:Int)(m:Nat):Prop where
 I:I=i
 lt:i<s.length\/i=0
 m:m=s.length-i
 len:s.length<=9223372036854775807
def Ahy(s:List UInt8)(k:Int)(m:Nat)(vs:List (Option SV))(hp:List Hl):Prop :=
 ∃(i:Nat) (I:Int),vs=[some (.str s),some (.int .i64 (.a I))]/\hp=[]/\QI s i I m/\k=sB Kf s i
def Ama(F:List UInt8->Int):aD:=λ_ xs ls K=>∃(s:List UInt8),xs=[.str s]/\ls=[]/\s.length<=9223372036854775807/\∀r,r=F s->K (.int .i64 (.a r)) []
noncomputable def SP:Code:=match Tryz.f231.body with
 |some (.seq a (.scope _))=>a
 |_=>.skip
noncomputable def Amo:Code:=match Tryz.f231.body with
 |some (.seq _ (.scope c))=>c
 |_=>.skip
noncomputable def FE:Code:=(findLabel Amo 0).getD .skip
theorem QI.one(V:QI s i I m):ST.den (.bin .add .i64 (.a I) (.l 1))=((i+1:Nat):Int):=by
 have h1:=V.I;have h2:=V.len;have h3:=V.lt;show IntKind.i64.wrap (I+1)=_;rw[wrap64 (by omega) (by omega)];omega
theorem QI.two(V:QI s i I m)(h:i+1<s.length):ST.den (.bin .add .i64 (.bin .add .i64 (.a I) (.l 1)) (.l 1))=((i+2:Nat):Int):=by
 have h0:=V.one;have h2:=V.len;show IntKind.i64.wrap (ST.den (.bin .add .i64 (.a I) (.l 1))+1)=_;rw[h0,wrap64 (by omega) (by omega)];omega
theorem E9(he:e.den=(i:Int))(h:i<s.length):InS (dn.i e) s:=⟨by show 0<=e.den;omega,by show e.den<s.length;omega⟩
theorem Dm(hD:D=dn)(he:e.den=(i:Int))(h:Ahh c s (D.i e)):Cq c s i:=by
 subst hD;refine⟨?_⟩;have h:=h.h;have e2:dn.i e=(i:Int):=he;rw[e2]at h;rw[h,ZP]
theorem Cq.aC{c:Int}{s:List UInt8}{i:Nat}(h:Cq c s i):c=aC s i:=h.h
theorem Ahz(hc:Cq c s i)(h:(decide ((s.length:Int)<=((i:Nat):Int))||D9 c==0)=true):gG Kf (s.drop i)=none:=by
 by_cases aA:i<s.length
 .refine Ah3 aA ?_
  rw[<-hc.aC,Kf];have:¬((s.length:Int)<=(i:Int)):=by omega
  simp[this]at h;simp[h]
 .exact Ah2 (by omega)
theorem Aci(hc:Cq c s i)(h:(decide ((s.length:Int)<=((i:Nat):Int))||D9 c==0)=true):¬(i<s.length/\Kf (aC s i)=true):=by
 rintro⟨h1,h2⟩;rw[<-hc.aC,Kf]at h2;have:¬((s.length:Int)<=(i:Int)):=by omega
 simp[this]at h;simp[h]at h2
theorem PV(hc:Cq c s i)(h:(decide ((s.length:Int)<=((i:Nat):Int))||D9 c==0)=false):i<s.length/\Kf (aC s i)=true:=by
 rw[<-hc.aC,Kf];simp at h;refine⟨by omega,?_⟩;simp[h.2]
theorem Aj0:Aw Tryz.prog gl 231 (Ama Oi):=by
 refine KB (gh:=[]) mixed Be (Ab Aaf Ai) Tryz.func231 (l:=0) (pre:=SP) (c:=Amo) (rest:=FE) (by kernel_rfl) (by kernel_rfl) (by kernel_rfl) ?_;intro xs ls K h;unfold Ama at h;obtain⟨s,rfl,rfl,hl,h⟩:=h;obtain⟨k,hk⟩:∃k,k=Oi s:=⟨_,rfl⟩;refine⟨_,_,h k hk,λD hD=>?_⟩;clear h;rw[Oi]at hk;obtain⟨J,hJ⟩:∃J,J=Ahy s k:=⟨_,rfl⟩;refine⟨[0,3],J,?_,?_⟩
 .cbv
  have V:QI s 0 0 s.length:=⟨rfl,.inr rfl,rfl,hl⟩;have aR:=hk;have rE:ST.den (.l 1)=((0+1:Nat):Int):=rfl;refine⟨λhg=>?_,λc hc=>?_⟩
  .subst hD;exact E9 rE (by have hg:(!decide ((s.length:Int)<=ST.den (.l 1)))=true:=hg;rw[rE]at hg;simp only[XK,XG]at hg;omega)
  have cQ:=Dm hD rE hc;clear hc;cbv;refine⟨_,rfl,rfl,by subst hD;exact cQ.le,λr hr=>?_⟩;have cP:r=D9 c:=by subst hD;exact hr
  clear hr;cbv;refine br hD (λh=>?_) (λh=>?_)<;>cbv
  .have h:(decide ((s.length:Int)<=ST.den (.l 1))||r==0)=true:=h
   rw[rE,cP]at h;refine Bj hD ?_;rw[aR,Oj (Ahz cQ h)];rfl
  have h:(decide ((s.length:Int)<=ST.den (.l 1))||r==0)=false:=h;rw[rE,cP]at h;obtain⟨aA,hp⟩:=PV cQ h;clear h;refine⟨by subst hD;exact E9 rE aA,λc' jA=>?_⟩;have kX:c'=c:=by have:=Dm hD rE jA;rw[this.h,cQ.h]
  subst kX;clear jA;cbv;refine br hD (λh=>?_) (λh=>?_)<;>cbv
  .have jQ:c'=34:=by have h:(c'==34)=true:=h;simpa using h
   refine Bj hD ?_;rw[aR,X8 aA hp (by rw[<-cQ.aC];exact jQ)];exact rfl
  have jQ:aC s (0+1)≠34:=by rw[<-cQ.aC];have h:(c'==34)=false:=h;simpa using h
  clear h;refine br hD (λh=>?_) (λh=>?_)<;>cbv
  .have uK:aC s (0+1)=92:=by rw[<-cQ.aC];have h:(c'==92)=true:=h;simpa using h
   clear h;have kY:ST.den (.l 2)=((0+2:Nat):Int):=rfl;refine⟨λhg=>?_,λd hd=>?_⟩
   .subst hD;exact E9 kY (by have hg:(!decide ((s.length:Int)<=ST.den (.l 2)))=true:=hg;rw[kY]at hg;simp only[XK,XG]at hg;omega)
   have lX:=Dm hD kY hd;clear hd;cbv;refine⟨_,rfl,rfl,by subst hD;exact lX.le,λq hq=>?_⟩;have bE:q=D9 d:=by subst hD;exact hq
   clear hq;cbv;refine br hD (λh=>?_) (λh=>?_)<;>cbv
   .have h:(decide ((s.length:Int)<=ST.den (.l 2))||q==0)=true:=h
    rw[kY,bE]at h;refine Bj hD ?_;rw[aR,Oj (Ur aA hp uK (Aci lX h))];rfl
   have h:(decide ((s.length:Int)<=ST.den (.l 2))||q==0)=false:=h;rw[kY,bE]at h;obtain⟨eC,rK⟩:=PV lX h;refine⟨s.length-(0+2),?_⟩;rw[hJ];subst hD;exact⟨0+2,_,rfl,rfl,⟨kY,.inl eC,rfl,hl⟩,by rw[aR,Ah4 aA hp uK eC rK]⟩
  .have uK:aC s (0+1)≠92:=by rw[<-cQ.aC];have h:(c'==92)=false:=h;simpa using h
   refine⟨s.length-(0+1),?_⟩;rw[hJ];subst hD;exact⟨0+1,_,rfl,rfl,⟨rE,.inl aA,rfl,hl⟩,by rw[aR,Ack aA hp jQ uK]⟩
 .intro m vs dS hv
  rw[hJ]at hv;unfold Ahy at hv;obtain⟨i,I,kL,hhp,V,aR⟩:=hv;rw[kL,hhp];clear kL hhp vs dS hk;cbv;have rE:ST.den (.bin .add .i64 (.a I) (.l 1))=((i+1:Nat):Int):=V.one;refine⟨λhg=>?_,λc hc=>?_⟩
  .subst hD;exact E9 rE (by have hg:(!decide ((s.length:Int)<=ST.den (.bin .add .i64 (.a I) (.l 1))))=true:=hg;rw[rE]at hg;simp only[XK,XG]at hg;omega)
  have cQ:=Dm hD rE hc;clear hc;cbv;refine⟨_,rfl,rfl,by subst hD;exact cQ.le,λr hr=>?_⟩;have cP:r=D9 c:=by subst hD;exact hr
  clear hr;cbv;refine br hD (λh=>?_) (λh=>?_)<;>cbv
  .have h:(decide ((s.length:Int)<=ST.den (.bin .add .i64 (.a I) (.l 1)))||r==0)=true:=h
   rw[rE,cP]at h;refine Bj hD ?_;rw[aR,Oj (Ahz cQ h)];rfl
  have h:(decide ((s.length:Int)<=ST.den (.bin .add .i64 (.a I) (.l 1)))||r==0)=false:=h;rw[rE,cP]at h;obtain⟨aA,hp⟩:=PV cQ h;clear h;refine⟨by subst hD;exact E9 rE aA,λc' jA=>?_⟩;have kX:c'=c:=by have:=Dm hD rE jA;rw[this.h,cQ.h]
  subst kX;clear jA;cbv;refine br hD (λh=>?_) (λh=>?_)<;>cbv
  .have jQ:c'=34:=by have h:(c'==34)=true:=h;simpa using h
   refine Bj hD ?_;rw[aR,X8 aA hp (by rw[<-cQ.aC];exact jQ)];exact V.two aA
  have jQ:aC s (i+1)≠34:=by rw[<-cQ.aC];have h:(c'==34)=false:=h;simpa using h
  clear h;refine br hD (λh=>?_) (λh=>?_)<;>cbv
  .have uK:aC s (i+1)=92:=by rw[<-cQ.aC];have h:(c'==92)=true:=h;simpa using h
   clear h;have kY:ST.den (.bin .add .i64 (.bin .add .i64 (.a I) (.l 1)) (.l 1))=((i+2:Nat):Int):=V.two aA;refine⟨λhg=>?_,λd hd=>?_⟩
   .subst hD;exact E9 kY (by have hg:(!decide ((s.length:Int)<=ST.den (.bin .add .i64 (.bin .add .i64 (.a I) (.l 1)) (.l 1))))=true:=hg;rw[kY]at hg;simp only[XK,XG]at hg;omega)
   have lX:=Dm hD kY hd;clear hd;cbv;refine⟨_,rfl,rfl,by subst hD;exact lX.le,λq hq=>?_⟩;have bE:q=D9 d:=by subst hD;exact hq
   clear hq;cbv;refine br hD (λh=>?_) (λh=>?_)<;>cbv
   .have h:(decide ((s.length:Int)<=ST.den (.bin .add .i64 (.bin .add .i64 (.a I) (.l 1)) (.l 1)))||q==0)=true:=h
    rw[kY,bE]at h;refine Bj hD ?_;rw[aR,Oj (Ur aA hp uK (Aci lX h))];rfl
   have h:(decide ((s.length:Int)<=ST.den (.bin .add .i64 (.bin .add .i64 (.a I) (.l 1)) (.l 1)))||q==0)=false:=h;rw[kY,bE]at h;obtain⟨eC,rK⟩:=PV lX h;refine⟨s.length-(i+2),by have:=V.m;omega,?_⟩;rw[hJ];subst hD;exact⟨i+2,_,rfl,rfl,⟨kY,.inl eC,rfl,hl⟩,by rw[aR,Ah4 aA hp uK eC rK]⟩
  .have uK:aC s (i+1)≠92:=by rw[<-cQ.aC];have h:(c'==92)=false:=h;simpa using h
   refine⟨s.length-(i+1),by have:=V.m;omega,?_⟩;rw[hJ];subst hD;exact⟨i+1,_,rfl,rfl,⟨rE,.inl aA,rfl,hl⟩,by rw[aR,Ack aA hp jQ uK]⟩
def K3(t s:List UInt8)(i:Nat):Int×List UInt8×Bool:=match gG A8 (s.drop i) with
 |none=>(0,[],false)
 |some x=>(((i+x.1:Nat):Int),t++x.2,true)
def Fp(s:List UInt8)(j:Nat):Int×List UInt8×Bool:=K3 [] s (j+1)
theorem X7(h:gG A8 (s.drop i)=none):K3 t s i=(0,[],false):=by rw[K3,h]
theorem Af0(h:i<s.length)(hb:A8 (aC s i)=true)(hq:aC s i=34):K3 t s i=(((i+1:Nat):Int),t,true):=by
 rw[K3,X6 h hb hq];simp
theorem Amp(h:i<s.length)(hb:A8 (aC s i)=true)(hq:aC s i=92)(h2:i+1<s.length)(eA:A8 (aC s (i+1))=true):K3 t s i=K3 (t++[s.getD (i+1) 0]) s (i+2):=by
 rw[K3,Ah1 h hb hq h2 eA,K3];cases gG A8 (s.drop (i+2)) with
 |none=>rfl
 |some x =>
  simp only[QO,ZE,YU];congr 2;omega
theorem Aj1(h:i<s.length)(hb:A8 (aC s i)=true)(hq:aC s i≠34)(bE:aC s i≠92):K3 t s i=K3 (t++[s.getD i 0]) s (i+1):=by
 rw[K3,Acj h hb hq bE,K3];cases gG A8 (s.drop (i+1)) with
 |none=>rfl
 |some x =>
  simp only[QO,ZE,YU];congr 2;omega
structure RqI(s t:List UInt8)(i:Nat)(I:Int)(m:Nat):Prop where
 at_:At s i I m
 t:t.length<=i
theorem At.one(V:At s i I m)(h:i<s.length):ST.den (.bin .add .i64 (.a I) (.l 1))=((i+1:Nat):Int):=by
 have h1:=V.I;have h2:=V.len;show IntKind.i64.wrap (I+1)=_;rw[wrap64 (by omega) (by omega)];omega
theorem At.two(V:At s i I m)(h:i+1<s.length):ST.den (.bin .add .i64 (.bin .add .i64 (.a I) (.l 1)) (.l 1))=((i+2:Nat):Int):=by
 have h0:=V.one (by omega);have h2:=V.len;show IntKind.i64.wrap (ST.den (.bin .add .i64 (.a I) (.l 1))+1)=_;rw[h0,wrap64 (by omega) (by omega)];omega
theorem At.den{s:List UInt8}{i:Nat}{I:Int}{m:Nat}(V:At s i I m):ST.den (.a I)=(i:Int):=V.I
theorem sub_one(hD:D=dn)(ha:a.den=(i:Int))(hb:b.den=((i+1:Nat):Int))(h:i<s.length)(hr:Ap1 r s (D.i a) (D.i b)):r=[s.getD i 0]:=by
 subst hD;have hr:=hr.h;have e1:dn.i a=(i:Int):=ha;have e2:dn.i b=((i+1:Nat):Int):=hb;rw[hr,e1,e2,ZP,ZP,drop_at h];simp
theorem Ey(ha:a.den=(i:Int))(hb:b.den=(j:Int))(h:i<=j)(h2:j<=s.length):LO (dn.i a) (dn.i b) s:=⟨by show 0<=a.den;omega,by show a.den<=b.den;omega,by show b.den<=_;omega⟩
theorem Amm(hc:Cq c s i){r:Bool}(hr:r=A8 c)(h:r=true):A8 (aC s i)=true:=by rw[<-hc.aC,<-hr,h]
def rqJ(s:List UInt8)(k:Int×List UInt8×Bool)(m:Nat)(vs:List (Option SV))(hp:List Hl):Prop :=
 ∃(i:Nat) (I:Int) (t:List UInt8),vs=[some (.str s),some (.str t),some (.int .i64 (.a I))]/\hp=[]/\RqI s t i I m/\k=K3 t s i
def EU:aD:=λ_ xs ls K=>∃(s:List UInt8) (j:Nat) (I:Int),xs=[.str s,.int .i64 (.a I)]/\ls=[]/\At s j I (s.length-j)/\j<s.length/\∀e t b,(e,t,b)=Fp s j->K (.tup [.int .i64 (.a e),.str t,.bool (.a b)]) []
theorem Aoe(hD:D=dn){e:Int}{x:ST}{u:List UInt8}{b:Bool}{y:BT}(h1:x.den=e)(h2:t=u)(h3:y.den=b):Fin (.tup [.int .i64 (.a (D.i x)),.str t,.bool (.a (D.b y))]) (.tup [.int .i64 (.a e),.str u,.bool (.a b)]) [] []:=by
 subst hD h1 h2 h3;exact Fb (fE.refl _)
theorem Zz:Aw Tryz.prog gl 236 EU:=by
 refine Bd (gh:=[]) mixed Be (Ab Acl Ai) Tryz.func236 (by kernel_rfl) (by kernel_rfl) ?_;intro xs ls K h;unfold EU at h;obtain⟨s,j0,I0,rfl,rfl,V0,IA,h⟩:=h;obtain⟨k,hk⟩:∃k,k=Fp s j0:=⟨_,rfl⟩;obtain⟨ke,kt,kb⟩:=k;refine⟨_,_,h ke kt kb hk,λD hD=>?_⟩;clear h;rw[Fp]at hk;cbv;obtain⟨J,hJ⟩:∃J,J=rqJ s (ke,kt,kb):=⟨_,rfl⟩;refine⟨[0,7,8],J,⟨rfl,s.length-(j0+1),?_⟩,?_⟩
 .rw[hJ]
  subst hD;exact⟨j0+1,_,[],rfl,rfl,⟨(V0.step rfl IA).2,ZD _⟩,hk⟩
 intro m vs dS hv;rw[hJ]at hv;unfold rqJ at hv;obtain⟨i,I,t,rfl,rfl,V,aR⟩:=hv;clear hk;cbv;refine⟨λhg=>?_,λc hc=>?_⟩
 .subst hD;exact E9 V.at_.den (by have hg:decide (I<(s.length:Int))=true:=hg;have:=V.at_.I;simp only[QN]at hg;omega)
 have cQ:=Dm hD V.at_.den hc;clear hc;cbv;refine⟨_,rfl,rfl,λr hr=>?_⟩;have cP:r=A8 c:=by subst hD;exact hr
 clear hr;cbv;refine br hD (λh=>?_) (λh=>?_)<;>cbv
 .have h:(decide (I<(s.length:Int))&&r)=true:=h
  have aA:i<s.length:=by
   have:=V.at_.I;simp only[QB,QN]at h;omega
  have hp:=Amm cQ cP (by simp only[QB]at h;exact h.2);clear h;refine⟨by subst hD;exact E9 V.at_.den aA,λc' jA=>?_⟩;have kX:c'=c:=by have:=Dm hD V.at_.den jA;rw[this.h,cQ.h]
  subst kX;clear jA;cbv;refine br hD (λh=>?_) (λh=>?_)<;>cbv
  .have jQ:c'=34:=by have h:(c'==34)=true:=h;simpa using h
   rw[Af0 aA hp (by rw[<-cQ.aC];exact jQ)]at aR;simp only[Prod.mk.injEq]at aR;obtain⟨e1,e2,e3⟩:=aR;exact Aoe hD (by rw[e1];exact V.at_.one aA) e2.symm e3.symm
  have jQ:aC s i≠34:=by rw[<-cQ.aC];have h:(c'==34)=false:=h;simpa using h
  clear h;refine⟨by subst hD;exact E9 V.at_.den aA,λc3 hc3=>?_⟩;have kX:c3=c':=by have:=Dm hD V.at_.den hc3;rw[this.h,cQ.h]
  subst kX;clear hc3;cbv;refine br hD (λh=>?_) (λh=>?_)<;>cbv
  .have uK:aC s i=92:=by rw[<-cQ.aC];have h:(c3==92)=true:=h;simpa using h
   clear h;refine⟨λhg=>?_,λd hd=>?_⟩
   .subst hD;exact E9 (V.at_.one aA) (by
     have hg:(!(ST.den (.bin .add .i64 (.a I) (.l 1))==(s.length:Int)))=true:=hg;rw[V.at_.one aA]at hg;simp only[XK,beq_eq_false_iff_ne,ne_eq]at hg;omega)
   have lX:=Dm hD (V.at_.one aA) hd;clear hd;cbv;refine⟨_,rfl,rfl,λq hq=>?_⟩;have bE:q=A8 d:=by subst hD;exact hq
   clear hq;cbv;refine br hD (λh=>?_) (λh=>?_)<;>cbv
   .have h:((ST.den (.bin .add .i64 (.a I) (.l 1))==(s.length:Int))||!q)=true:=h
    rw[V.at_.one aA]at h;rw[X7 (Ur aA hp uK (by
     rintro⟨h1,h2⟩;rw[<-lX.aC,<-bE]at h2;simp only[h2,YN,VQ,XI]at h;omega))]at aR
    simp only[Prod.mk.injEq]at aR;obtain⟨e1,e2,e3⟩:=aR;exact Aoe hD (by rw[e1];rfl) e2.symm e3.symm
   have h:((ST.den (.bin .add .i64 (.a I) (.l 1))==(s.length:Int))||!q)=false:=h;rw[V.at_.one aA]at h;simp only[XU,beq_eq_false_iff_ne,ne_eq,YJ]at h;have eC:i+1<s.length:=by omega
   have rK:=Amm lX bE h.2;clear h;have hE3:=V.at_.two eC;refine⟨by subst hD;exact Ey (V.at_.one aA) hE3 (by omega) (by omega),λr1 eX=>?_⟩;have iD:=sub_one hD (V.at_.one aA) hE3 eC eX;clear eX;cbv;refine⟨⟨?_⟩,λr3 HC=>?_⟩
   .have:=V.t;have:=V.at_.len;rw[iD];simp only[YW];omega
   have xQ:r3=t++[s.getD (i+1) 0]:=by rw[HC.h,iD]
   clear HC;cbv;refine⟨s.length-(i+2),by have:=V.at_.m;omega,?_⟩;rw[hJ];subst hD;refine⟨i+2,_,r3,rfl,rfl,⟨⟨by omega,V.at_.two eC,rfl,V.at_.len⟩,?_⟩,?_⟩
   .have:=V.t;rw[xQ];simp only[QW,YW];omega
   .rw[aR,Amp aA hp uK eC rK,xQ]
  .have uK:aC s i≠92:=by rw[<-cQ.aC];have h:(c3==92)=false:=h;simpa using h
   clear h;refine⟨by subst hD;exact Ey V.at_.den (V.at_.one aA) (by omega) (by omega),λr1 eX=>?_⟩;have iD:=sub_one hD V.at_.den (V.at_.one aA) aA eX;clear eX;cbv;refine⟨⟨?_⟩,λr3 HC=>?_⟩
   .have:=V.t;have:=V.at_.len;rw[iD];simp only[YW];omega
   have xQ:r3=t++[s.getD i 0]:=by rw[HC.h,iD]
   clear HC;cbv;refine⟨s.length-(i+1),by have:=V.at_.m;omega,?_⟩;rw[hJ];subst hD;refine⟨i+1,_,r3,rfl,rfl,⟨(V.at_.step rfl aA).2,?_⟩,?_⟩
   .have:=V.t;rw[xQ];simp only[QW,YW];omega
   .rw[aR,Aj1 aA hp jQ uK,xQ]
 .have h:(decide (I<(s.length:Int))&&r)=false:=h
  rw[X7 (by
   by_cases aA:i<s.length
   .refine Ah3 aA ?_
    rw[<-cQ.aC,<-cP];have:=V.at_.I;have e:decide (I<(s.length:Int))=true:=by simp only[QN];omega
    rw[e]at h;simpa using h
   .exact Ah2 (by omega))]at aR
  simp only[Prod.mk.injEq]at aR;obtain⟨e1,e2,e3⟩:=aR;exact Aoe hD (by rw[e1];rfl) e2.symm e3.symm
def Gw(c:Int):Bool:=c==9||c==32
def L6(p:Int->Bool):aD:=λ_ xs ls K=>∃(c:Int),xs=[.int .u8 (.a c)]/\ls=[]/\∀r,r=p c->K (.bool (.a r)) []
theorem Apk:Aw Tryz.prog gl 237 (L6 Gw):=by
 refine Bd (gh:=[]) mixed Be Ai Tryz.func237 (by kernel_rfl) (by kernel_rfl) ?_;intro xs ls K h;unfold L6 at h;obtain⟨c,rfl,rfl,h⟩:=h;obtain⟨k,hk⟩:∃k,k=Gw c:=⟨_,rfl⟩;refine⟨_,_,h k hk,λD hD=>?_⟩;clear h;cbv;exact Al hD hk.symm
def dE(c:UInt8):Bool:=Gw (c.toNat:Int)
def It(s:List UInt8):List UInt8:=s.dropWhile dE
def Fi(s:List UInt8):List UInt8:=(s.reverse.dropWhile dE).reverse
def trimF(s:List UInt8):List UInt8:=Fi (It s)
theorem Jo{c:UInt8}(h:dE c=true):It (c :: r)=It r:=by
 rw[It,YQ h];rfl
theorem T2(h:s=[]\/Gw (aC s 0)=false):It s=s:=by
 rcases h with rfl|h
 .rfl
 .cases s with
  |nil=>rfl
  |cons c r=>exact ZH (by rw[show dE c=false from h];simp)
theorem T0{c:UInt8}(h:dE c=true):Fi (r++[c])=Fi r:=by
 rw[Fi,List.reverse_append,List.reverse_singleton,YU,YQ h];rfl
theorem Tz(h:s=[]\/Gw (aC s (s.length-1))=false):Fi s=s:=by
 rcases h with rfl|h
 .rfl
 .rcases List.eq_nil_or_concat s with rfl|⟨r,c,rfl⟩
  .rfl
  .have:aC (r++[c]) ((r++[c]).length-1)=(c.toNat:Int):=by simp[aC]
   rw[List.concat_eq_append]at *;rw[this]at h;rw[Fi,List.reverse_append,List.reverse_singleton,YU,ZH (by rw[show dE c=false from h];simp)];simp
theorem qz(h:0<s.length):s=s.getD 0 0 :: s.drop 1:=by
 have:=drop_at (i:=0) h;simpa using this
theorem X0(h:0<s.length):s=s.take (s.length-1)++[s.getD (s.length-1) 0]:=by
 rw[Pe (show s.length-1<s.length by omega)]
 conv=>lhs;rw[<-UY (s.length-1) s]
 congr 1;rw[XY (by omega),show s.length-1+1=s.length by omega,ZR]
theorem Jq(hD:D=dn)(ha:a.den=(i:Int))(hb:b.den=(j:Int))(hr:Ap1 r s (D.i a) (D.i b)):r=(s.drop i).take (j-i):=by
 subst hD;have hr:=hr.h;have e1:dn.i a=(i:Int):=ha;have e2:dn.i b=(j:Int):=hb;rw[hr,e1,e2,ZP,ZP]
structure TrI(s:List UInt8)(m:Nat):Prop where
 m:m=s.length
 len:s.length<=9223372036854775807
def nd(F:List UInt8->List UInt8)(k:List UInt8)(m:Nat)(vs:List (Option SV))(hp:List Hl):Prop :=
 ∃(s:List UInt8),vs=[some (.str s)]/\hp=[]/\TrI s m/\k=F s
def P4(F:List UInt8->List UInt8):aD:=λ_ xs ls K=>∃(s:List UInt8),xs=[.str s]/\ls=[]/\s.length<=9223372036854775807/\∀r,r=F s->K (.str r) []
theorem Nt{k:List UInt8}(h:r=k):Fin (.str r) (.str k) [] []:=by subst h;exact Fb (fE.refl _)
theorem Afw:Aw Tryz.prog gl 184 (P4 trimF):=by
 refine Bd (gh:=[]) mixed Be (Ab Apk Ai) Tryz.func184 (by kernel_rfl) (by kernel_rfl) ?_;intro xs ls K h;unfold P4 at h;obtain⟨s0,rfl,rfl,hl,h⟩:=h;obtain⟨k,hk⟩:∃k,k=trimF s0:=⟨_,rfl⟩;refine⟨_,_,h k hk,λD hD=>?_⟩;clear h;cbv;obtain⟨J,hJ⟩:∃J,J=nd trimF k:=⟨_,rfl⟩;refine⟨[0],J,⟨rfl,s0.length,?_⟩,?_⟩
 .rw[hJ]
  subst hD;exact⟨s0,rfl,rfl,⟨rfl,hl⟩,hk⟩
 clear hk hl;intro m vs dS hv;rw[hJ]at hv;unfold nd at hv;obtain⟨s,rfl,rfl,V,hk⟩:=hv;cbv;refine⟨λhg=>?_,λc hc=>?_⟩
 .subst hD
  have hg:decide (0<(s.length:Int))=true:=hg;simp only[QN]at hg;exact E9 (e:=.l 0) (i:=0) rfl (by omega)
 have cQ:=Dm (e:=.l 0) (i:=0) hD rfl hc;clear hc;cbv;refine⟨_,rfl,rfl,λq hq=>?_⟩;have bE:q=Gw c:=by subst hD;exact hq
 clear hq;cbv;refine br hD (λh=>?_) (λh=>?_)<;>cbv
 .have h:(decide (0<(s.length:Int))&&q)=true:=h
  simp only[QB,QN]at h;have h0:0<s.length:=by have:=h.1;omega
  have hb:dE (s.getD 0 0)=true:=by rw[dE,cQ.of,<-bE];exact h.2
  clear h;refine⟨by subst hD;exact Ey (i:=1) (j:=s.length) (a:=.l 1) (b:=.len s) rfl rfl (by omega) (by omega),λr hr=>?_⟩;have cP:r=s.drop 1:=by
   rw[Jq (i:=1) (j:=s.length) hD rfl rfl hr];exact ZT (by simp)
  clear hr;cbv;refine⟨s.length-1,by have:=V.m;omega,?_⟩;rw[hJ];subst hD;refine⟨r,rfl,rfl,⟨by rw[cP];simp,by rw[cP];have:=V.len;simp;omega⟩,?_⟩;rw[hk,trimF,qz h0,Jo hb,cP];rfl
 have h:(decide (0<(s.length:Int))&&q)=false:=h;have mH:k=Fi s:=by
  rw[hk,trimF,T2]
  by_cases h0:0<s.length
  .right
   rw[<-cQ.aC,<-bE];have e:decide (0<(s.length:Int))=true:=by simp only[QN];omega
   rw[e]at h;simpa using h
  .left;exact QQ (by omega)
 clear hk h cQ bE hJ J;obtain⟨J,hJ⟩:∃J,J=nd Fi k:=⟨_,rfl⟩;refine⟨[0],J,⟨rfl,s.length,?_⟩,?_⟩
 .rw[hJ]
  subst hD;exact⟨s,rfl,rfl,⟨rfl,V.len⟩,mH⟩
 clear mH V;intro m vs dS hv;rw[hJ]at hv;unfold nd at hv;obtain⟨s,rfl,rfl,V,hk⟩:=hv;have hE:0<s.length->ST.den (.bin .sub .i64 (.len s) (.l 1))=((s.length-1:Nat):Int):=by
  intro h0;have:=V.len;show IntKind.i64.wrap ((s.length:Int)-1)=_;rw[wrap64 (by omega) (by omega)];omega
 cbv;refine⟨λhg=>?_,λc hc=>?_⟩
 .subst hD
  have hg:decide (0<(s.length:Int))=true:=hg;simp only[QN]at hg;exact E9 (i:=s.length-1) (hE (by omega)) (by omega)
 by_cases h0:0<s.length
 .have cQ:=Dm (i:=s.length-1) hD (hE h0) hc
  clear hc;cbv;refine⟨_,rfl,rfl,λq hq=>?_⟩;have bE:q=Gw c:=by subst hD;exact hq
  clear hq;cbv;refine br hD (λh=>?_) (λh=>?_)<;>cbv
  .have h:(decide (0<(s.length:Int))&&q)=true:=h
   simp only[QB,QN]at h;have hb:dE (s.getD (s.length-1) 0)=true:=by rw[dE,cQ.of,<-bE];exact h.2
   clear h;have JM:=hE h0;refine⟨by subst hD;exact Ey (i:=0) (j:=s.length-1) (a:=.l 0) rfl JM (by omega) (by omega),λr hr=>?_⟩;have cP:r=s.take (s.length-1):=by
    rw[Jq (i:=0) (j:=s.length-1) hD rfl JM hr];rfl
   clear hr;cbv;refine⟨s.length-1,by have:=V.m;omega,?_⟩;rw[hJ];subst hD;refine⟨r,rfl,rfl,⟨by rw[cP];simp,by rw[cP];have:=V.len;simp;omega⟩,?_⟩;rw[hk,X0 h0,T0 hb,cP]
  .have h:(decide (0<(s.length:Int))&&q)=false:=h
   refine Nt ?_;rw[hk,Tz]
   right
   rw[<-cQ.aC,<-bE];have e:decide (0<(s.length:Int))=true:=by simp only[QN];omega
   rw[e]at h;simpa using h
 .have hs:s=[]:=QQ (by omega)
  subst hs;clear hc hE;cbv;refine⟨_,rfl,rfl,λq hq=>?_⟩;cbv;refine br hD (λh=>?_) (λh=>?_)<;>cbv
  .have h:(decide ((0:Int)<0)&&q)=true:=h
   simp at h
  .refine Nt ?_
   rw[hk];rfl
end
end Go.Proofs.YtdoogdbjiijifaaGreatDoor
