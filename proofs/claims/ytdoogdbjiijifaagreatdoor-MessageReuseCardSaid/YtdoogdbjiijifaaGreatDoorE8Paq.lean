/- A part of the proof: contracts of functions, or the executor and its soundness. No conditions. -/
import Derived.Lib.ItoaNum
import Derived.Test.YtdoogdbjiijifaaGreatDoorProg
import Derived.Test.YtdoogdbjiijifaaGreatDoorE8Pap
namespace Go.Proofs.YtdoogdbjiijifaaGreatDoor
open Go.Sx
set_option maxRecDepth 10000
def tt:List (Nat×TI):=[
 (2,⟨.int .i64,1,8,[.int .i64 (.l 0)]⟩),
 (3,⟨.int .i64,1,8,[.int .i64 (.l 0)]⟩),
 (4,⟨.bool,1,1,[.bool (.l false)]⟩),
 (5,⟨.int .u8,1,1,[.int .u8 (.l 0)]⟩),
 (9,⟨.string,1,16,[.str []]⟩),
 (28,⟨.int .i64,1,8,[.int .i64 (.l 0)]⟩),
 (22,⟨.slice 5,1,24,[(.sl (.l true) (.l 0) 1 λ_=>[])]⟩),
 (23,⟨.slice 100,1,24,[(.sl (.l true) (.l 0) 2 λ_=>[])]⟩),
 (100,⟨.struct [(0,9),(1,9)],2,32,[.str [],.str []]⟩),
 (111,⟨.slice 9,1,24,[(.sl (.l true) (.l 0) 1 λ_=>[])]⟩),
 (55,⟨.struct [(0,2),(1,9),(2,9),(3,9),(4,23),(5,9)],6,96,[.int .i64 (.l 0),.str [],.str [],.str [],(.sl (.l true) (.l 0) 2 λ_=>[]),.str []]⟩),
 (36,⟨.struct [(0,3),(1,9),(2,9),(3,3),(4,23)],5,72,[.int .i64 (.l 0),.str [],.str [],.int .i64 (.l 0),(.sl (.l true) (.l 0) 2 λ_=>[])]⟩),
 (25,⟨.struct [(0,3),(1,3),(2,9),(3,23)],4,56,[.int .i64 (.l 0),.int .i64 (.l 0),.str [],(.sl (.l true) (.l 0) 2 λ_=>[])]⟩),
 (38,⟨.struct [(0,9),(1,3),(2,3),(3,9),(4,25),(8,3),(9,9),(10,3),(11,36)],16,208,[.str [],.int .i64 (.l 0),.int .i64 (.l 0),.str [],.int .i64 (.l 0),.int .i64 (.l 0),.str [],(.sl (.l true) (.l 0) 2 λ_=>[]),.int .i64 (.l 0),.str [],.int .i64 (.l 0),.int .i64 (.l 0),.str [],.str [],.int .i64 (.l 0),(.sl (.l true) (.l 0) 2 λ_=>[])]⟩),
 (45,⟨.struct [(0,25),(4,3),(5,9),(6,23),(7,4)],8,112,[.int .i64 (.l 0),.int .i64 (.l 0),.str [],(.sl (.l true) (.l 0) 2 λ_=>[]),.int .i64 (.l 0),.str [],(.sl (.l true) (.l 0) 2 λ_=>[]),.bool (.l false)]⟩),
 (97,⟨.int .u16,1,2,[.int .u16 (.l 0)]⟩),
 (88,⟨.slice 97,1,24,[(.sl (.l true) (.l 0) 1 λ_=>[])]⟩),
 (265,⟨.struct [(0,9),(1,4),(2,4),(3,4)],4,24,[.str [],.bool (.l false),.bool (.l false),.bool (.l false)]⟩),
 (178,⟨.pointer 180,1,8,[.fC]⟩),
 (180,⟨.struct [(0,178),(1,22)],2,32,[.fC,(.sl (.l true) (.l 0) 1 λ_=>[])]⟩),
 (157,⟨.iface,1,16,[.raw .nilIface]⟩),
 (314,⟨.map 9 4,1,8,[.raw (.map none)]⟩)]
def eqs:List TypeId:=[100]
def Fd:List SV:=[
 .str [71,69,84],.bool (.l true),.bool (.l true),.bool (.l true),
 .str [72,69,65,68],.bool (.l true),.bool (.l true),.bool (.l true),
 .str [79,80,84,73,79,78,83],.bool (.l true),.bool (.l true),.bool (.l false),
 .str [84,82,65,67,69],.bool (.l true),.bool (.l true),.bool (.l true),
 .str [80,85,84],.bool (.l false),.bool (.l true),.bool (.l false),
 .str [68,69,76,69,84,69],.bool (.l false),.bool (.l true),.bool (.l false)]
def Afc(_:Nat):List SV:=[.rU (.l false)]
def Yv(i:Nat):List SV:=[.int .u64 (.a (Go.Lib.pow10Tab.getD i 0))]
def gl:List (Nat×SV):=[(3,.dT 1 1 Afc),(4,.dT 20 1 Yv)]
def qT:List (Nat×SV):=[(1,.dK Fd),(3,.dT 1 1 Afc),(4,.dT 20 1 Yv)]
variable {sp:aB}{eD:List (Nat×aB)}{its:List (Nat×(aB->aB))}{yl:List aB}{n I c L y:Int}{D:Dn}{s:List UInt8}{i m a:Nat}{f f':Nat->List SV}{p:Int->Bool}{e:ST}{l:List (List UInt8)}
theorem Df{f:Go.FuncId}(h:Ap Tryz.prog gl f sp):Ap Tryz.prog qT f sp :=
 ⟨h.1,λxs ls K hs=>let ⟨r,aK,hk,hc⟩:=h.2 xs ls K hs;⟨r,aK,hk,λB E w aX a b c d e=>hc B E w aX a b c d λg s hh=>e g s (by
  unfold gl at hh;unfold qT;simp only[Sx.look]at hh ⊢
  split
  .rename_i e1
   have e1:1=g:=by simpa using e1
   subst e1;simp at hh
  .exact hh)⟩⟩
theorem Acn{f:Go.FuncId}(h:Ap Tryz.prog [] f sp):Ap Tryz.prog gl f sp :=
 ⟨h.1,λxs ls K hs=>let ⟨r,aK,hk,hc⟩:=h.2 xs ls K hs;⟨r,aK,hk,λB E w aX a b c d _=>hc B E w aX a b c d (λ_ _ hh=>nomatch hh)⟩⟩
theorem DO:yK Tryz.prog tt=true:=by kernel_rfl
theorem mixed:Tryz.prog.follows .mixedOrders=true:=by kernel_rfl
theorem Ck{gl:List (Nat×SV)}{gh:List (Nat×List Gh)}:Az Tryz.prog ⟨dn,tt,eD,gl,eqs,gh,its,yl⟩:=by
 refine⟨rfl,DO,λt ht=>?_⟩;simp only[eqs,XS,YA,or_false]at ht;rcases ht with rfl
 all_goals
  refine⟨?_,?_,?_⟩
  .kernel_rfl
  .kernel_rfl
  .decide
def ttR:List (Nat×TI):=[
 (2,⟨.int .i64,1,8,[.int .i64 (.l 0)]⟩),
 (3,⟨.int .i64,1,8,[.int .i64 (.l 0)]⟩),
 (4,⟨.bool,1,1,[.bool (.l false)]⟩),
 (5,⟨.int .u8,1,1,[.int .u8 (.l 0)]⟩),
 (9,⟨.string,1,16,[.str []]⟩),
 (28,⟨.int .i64,1,8,[.int .i64 (.l 0)]⟩),
 (22,⟨.slice 5,1,24,[(.sl (.l true) (.l 0) 1 λ_=>[])]⟩),
 (23,⟨.slice 100,1,24,[(.sl (.l true) (.l 0) 2 λ_=>[])]⟩),
 (100,⟨.struct [(0,9),(1,9)],2,32,[.str [],.str []]⟩),
 (111,⟨.slice 9,1,24,[(.sl (.l true) (.l 0) 1 λ_=>[])]⟩),
 (55,⟨.struct [(0,2),(1,9),(2,9),(3,9),(4,23),(5,9)],6,96,[.int .i64 (.l 0),.str [],.str [],.str [],(.sl (.l true) (.l 0) 2 λ_=>[]),.str []]⟩),
 (36,⟨.struct [(0,3),(1,9),(2,9),(3,3),(4,23)],5,72,[.int .i64 (.l 0),.str [],.str [],.int .i64 (.l 0),(.sl (.l true) (.l 0) 2 λ_=>[])]⟩),
 (25,⟨.struct [(0,3),(1,3),(2,9),(3,23)],4,56,[.int .i64 (.l 0),.int .i64 (.l 0),.str [],(.sl (.l true) (.l 0) 2 λ_=>[])]⟩),
 (38,⟨.struct [(0,9),(1,3),(2,3),(3,9),(4,25),(8,3),(9,9),(10,3),(11,36)],16,208,[.str [],.int .i64 (.l 0),.int .i64 (.l 0),.str [],.int .i64 (.l 0),.int .i64 (.l 0),.str [],(.sl (.l true) (.l 0) 2 λ_=>[]),.int .i64 (.l 0),.str [],.int .i64 (.l 0),.int .i64 (.l 0),.str [],.str [],.int .i64 (.l 0),(.sl (.l true) (.l 0) 2 λ_=>[])]⟩),
 (45,⟨.struct [(0,25),(4,3),(5,9),(6,23),(7,4)],8,112,[.int .i64 (.l 0),.int .i64 (.l 0),.str [],(.sl (.l true) (.l 0) 2 λ_=>[]),.int .i64 (.l 0),.str [],(.sl (.l true) (.l 0) 2 λ_=>[]),.bool (.l false)]⟩),
 (97,⟨.int .u16,1,2,[.int .u16 (.l 0)]⟩),
 (88,⟨.slice 97,1,24,[(.sl (.l true) (.l 0) 1 λ_=>[])]⟩),
 (265,⟨.struct [(0,9),(1,4),(2,4),(3,4)],4,24,[.str [],.bool (.l false),.bool (.l false),.bool (.l false)]⟩),
 (178,⟨.pointer 180,1,8,[.fC]⟩),
 (180,⟨.struct [(0,178),(1,22)],2,32,[.fC,(.sl (.l true) (.l 0) 1 λ_=>[])]⟩),
 (220,⟨.struct [(0,36),(5,22),(6,22),(7,3),(8,3)],9,136,[.int .i64 (.l 0),.str [],.str [],.int .i64 (.l 0),(.sl (.l true) (.l 0) 2 λ_=>[]),(.sl (.l true) (.l 0) 1 λ_=>[]),(.sl (.l true) (.l 0) 1 λ_=>[]),.int .i64 (.l 0),.int .i64 (.l 0)]⟩),
 (214,⟨.pointer 220,1,8,[.fC]⟩),
 (217,⟨.other,1,8,[.raw .nilFunc]⟩),
 (218,⟨.array 4 217,4,32,[.raw .nilFunc,.raw .nilFunc,.raw .nilFunc,.raw .nilFunc]⟩),
 (125,⟨.struct [(0,38),(16,22),(17,22)],18,256,[.str [],.int .i64 (.l 0),.int .i64 (.l 0),.str [],.int .i64 (.l 0),.int .i64 (.l 0),.str [],(.sl (.l true) (.l 0) 2 λ_=>[]),.int .i64 (.l 0),.str [],.int .i64 (.l 0),.int .i64 (.l 0),.str [],.str [],.int .i64 (.l 0),(.sl (.l true) (.l 0) 2 λ_=>[]),(.sl (.l true) (.l 0) 1 λ_=>[]),(.sl (.l true) (.l 0) 1 λ_=>[])]⟩),
 (123,⟨.pointer 125,1,8,[.fC]⟩),
 (126,⟨.other,1,8,[.raw .nilFunc]⟩),
 (27,⟨.other,1,8,[.raw .nilFunc]⟩),
 (117,⟨.slice 27,1,24,[(.sl (.l true) (.l 0) 1 λ_=>[])]⟩),
 (132,⟨.slice 3,1,24,[(.sl (.l true) (.l 0) 1 λ_=>[])]⟩),
 (182,⟨.slice 22,1,24,[(.sl (.l true) (.l 0) 1 λ_=>[])]⟩),
 (127,⟨.map 3 126,1,8,[.raw (.map none)]⟩),
 (157,⟨.iface,1,16,[.raw .nilIface]⟩),
 (314,⟨.map 9 4,1,8,[.raw (.map none)]⟩)]
theorem uf:Sx.yK Tryz.prog ttR=true:=by kernel_rfl
theorem Ee{gl:List (Nat×SV)}{gh:List (Nat×List Gh)}:Az Tryz.prog ⟨dn,ttR,eD,gl,eqs,gh,its,yl⟩:=by
 refine⟨rfl,uf,λt ht=>?_⟩;simp only[eqs,XS,YA,or_false]at ht;rcases ht with rfl
 all_goals
  refine⟨?_,?_,?_⟩
  .kernel_rfl
  .kernel_rfl
  .decide
set_option maxHeartbeats 2000000
def Qd:List UInt8:=[48,48,48,48,48,48,48,48,48,50,48,48,48,48,48,48,48,48,48,48,48,48,48,48,48,48,48,48,48,48,48,48,50,51,49,51,51,51,51,51,49,49,51,51,49,51,51,49,51,51,51,51,51,51,51,51,51,51,49,49,49,49,49,49,49,51,51,51,51,51,51,51,51,51,51,51,51,51,51,51,51,51,51,51,51,51,51,51,51,51,51,49,49,49,51,51,51,51,51,51,51,51,51,51,51,51,51,51,51,51,51,51,51,51,51,51,51,51,51,51,51,51,51,49,51,49,51,48]
def Ek(c:Int):Int:=if 128<=c then 0 else ((Qd.getD c.toNat 48).toNat:Int)-48
def yV:aB:=λ_ xs ls K=>∃(c:Int),xs=[.int .u8 (.a c)]/\ls=[]/\(0<=c/\c<=255)/\∀r,r=Ek c->K (.int .i64 (.a r)) []
theorem Aiw:∀i:Fin 128,48<=(Qd.getD i.1 0).toNat/\(Qd.getD i.1 0).toNat<=51/\Qd.getD i.1 0=Qd.getD i.1 48:=by decide
theorem DL(h1:0<=n)(h2:n<=255):IntKind.u8.wrap n=n:=IntWalk.u8_in _ ⟨by omega,by omega⟩
theorem Y6:Ap Tryz.prog gl 124 yV:=by
 refine Bv (gh:=[]) mixed Ck Ae Tryz.func124 (by kernel_rfl) (by kernel_rfl) ?_;intro xs ls K h;unfold yV at h;obtain⟨c,rfl,rfl,hb,h⟩:=h;obtain⟨k,hk⟩:∃k,k=Ek c:=⟨_,rfl⟩;refine⟨_,_,h k hk,λD hD=>?_⟩;clear h;have w:IntKind.i64.wrap c=c:=wrap64 (by omega) (by omega);cbv;refine br hD (λh=>?_) (λh=>?_)<;>cbv
 .refine B6 hD ?_
  simp[w]at h;rw[hk,Ek,QB h];rfl
 .have hc:c<128:=by simp[BT.den,Bz,ST.den,w]at h;omega
  clear h;refine⟨by subst hD;exact⟨hb.1,hc⟩,λc' kM=>?_⟩;cbv;refine B6 hD ?_;have e1:c'=((Qd.getD c.toNat 0).toNat:Int):=by subst hD;exact kM.h
  obtain⟨t1,t2,t3⟩:=Aiw ⟨c.toNat,by omega⟩;simp only at t1 t2 t3;show IntKind.i64.wrap (IntKind.u8.wrap (c'-48))=k;rw[DL (by omega) (by omega),wrap64 (by omega) (by omega),hk,Ek,QA (by omega),<-t3,e1]
def D2(c:Int):Bool:=c==9||(decide (32<=c)&&decide (c<=126))
structure En(c:Int)(s:List UInt8)(i:Nat):Prop where
 h:c=((s.getD i 0).toNat:Int)
theorem MY(hD:D=dn){j:Nat}(h:AI j (D.i (.a I))):(j:Int)=I:=by subst hD;exact h.h
structure ad1(s:List UInt8)(i:Nat)(I L:Int)(m:Nat):Prop where
 L:L=s.length
 le:i<=s.length
 I:I=i
 all:∀j:Nat,j<i->Ek ((s.getD j 0).toNat:Int)=3
 m:m=s.length-i
def Ca(s:List UInt8):Bool:=(s.all λc=>Ek (c.toNat:Int)==3)&&(decide (0<s.length)&&decide (s.length<=64))
theorem Ahr{j:Nat}(hj:j<s.length)(h:Ek ((s.getD j 0).toNat:Int)≠3):Ca s=false:=by
 unfold Ca;rw[ZI]
 left
 rw[List.all_eq_false];refine⟨s[j],XL hj,?_⟩;rw[QD,QC hj]at h;simpa using h
theorem Adt(h:∀j:Nat,j<s.length->Ek ((s.getD j 0).toNat:Int)=3):Ca s=(decide (0<s.length)&&decide (s.length<=64)):=by
 unfold Ca;have:(s.all λc=>Ek (c.toNat:Int)==3)=true:=by
  rw[List.all_eq_true];intro c hc;obtain⟨j,hj,rfl⟩:=List.mem_iff_getElem.1 hc;have:=h j hj;rw[QD,QC hj]at this;simpa using this
 rw[this];simp
def vD:aB:=λ_ xs ls K=>∃(s:List UInt8),xs=[.str s]/\ls=[]/\s.length<=9223372036854775807/\∀r,r=Ca s->K (.bool (.a r)) []
def DQ(s:List UInt8)(f:Nat->List SV)(m:Nat)(vs:List (Option SV))(hp:List Hl):Prop :=
 ∃(i:Nat) (I L:Int),vs=[some (.str s),some (.sl (.a false) (.a L) 1 f),some (.int .i64 (.a L)),some (.int .i64 (.a I))]/\hp=[]/\ad1 s i I L m
theorem Gq:Ap Tryz.prog gl 61 vD:=by
 refine Bv (gh:=[]) mixed Ck (Ab Y6 Ae) Tryz.func61 (by kernel_rfl) (by kernel_rfl) ?_;intro xs ls K h;unfold vD at h;obtain⟨s,rfl,rfl,hl,h⟩:=h;obtain⟨k,hk⟩:∃k,k=Ca s:=⟨_,rfl⟩;refine⟨_,_,h k hk,λD hD=>?_⟩;clear h;cbv;refine⟨⟨hl⟩,λf hf=>?_⟩;cbv;obtain⟨J,hJ⟩:∃J,J=DQ s f:=⟨_,rfl⟩;refine⟨[0,6,7,8],J,⟨rfl,s.length,?_⟩,?_⟩
 .rw[hJ]
  subst hD;exact⟨0,0,_,rfl,rfl,⟨rfl,ZB _,rfl,by omega,rfl⟩⟩
 intro m vs hp hv;rw[hJ]at hv;unfold DQ at hv;obtain⟨i,I,L,rfl,rfl,V⟩:=hv;cbv;refine br hD (λh=>?_) (λh=>?_)<;>cbv
 .have aC:i<s.length:=by simp at h;have:=V.I;have:=V.L;omega
  clear h;refine⟨?_,λj hj=>?_⟩
  .have:=V.I;have:=V.L;subst hD;exact⟨by simp[dn];omega,by simp[dn];omega⟩
  have TX:j=i:=by have:=MY hD hj;have:=V.I;omega
  obtain⟨c,hc⟩:∃c:Int,c=((s.getD i 0).toNat:Int):=⟨_,rfl⟩;have hb:0<=c/\c<=255:=by have:=(s.getD i 0).toNat_lt;omega
  have xX:f i=[.int .u8 (.a c)]:=by rw[hf.h,hc];rfl
  have hc:En c s i:=⟨hc⟩;subst TX;clear hj;cbv;rw[xX];cbv;refine⟨_,rfl,rfl,by subst hD;exact hb,λr hr=>?_⟩;have hr:r=Ek c:=by subst hD;exact hr
  cbv;refine br hD (λh=>?_) (λh=>?_)<;>cbv
  .refine Aw hD ?_
   have:r≠3:=by simpa[BT.den,Bz,ST.den] using h
   rw[hk,Ahr aC (by rw[<-hc.h,<-hr];exact this)];rfl
  .have h3:r=3:=by simpa[BT.den,Bz,ST.den] using h
   refine⟨s.length-(j+1),by have:=V.m;omega,?_⟩;rw[hJ];subst hD;have hI:=V.I;refine⟨j+1,_,_,rfl,rfl,⟨V.L,by omega,?_,λq hq=>?_,rfl⟩⟩
   .simp[dn]
    rw[wrap64 (by omega) (by omega)];omega
   .by_cases hqj:q=j
    .subst hqj
     rw[<-hc.h];exact hr.symm.trans h3
    .exact V.all q (by omega)
 .have hi:i=s.length:=by simp at h;have:=V.I;have:=V.L;have:=V.le;omega
  clear h;have hy:=Adt (s:=s) (λj hj=>V.all j (by omega));refine Aw hD ?_;rw[hk,hy];show (decide ((0:Int)<(s.length:Int))&&decide ((s.length:Int)<=64))=_;congr 1<;>exact decide_eq_decide.2 (by omega)
def ac7(p:Int->Bool)(s:List UInt8):Bool:=s.any λc=>p (c.toNat:Int)
theorem Sw{j:Nat}(hj:j<s.length):s.getD j 0=s[j]:=by
 rw[QD,QC hj];rfl
theorem Afk(hD:D=dn)(hI:I=i)(h:Afu c s (D.i (.a I))):En c s i:=by
 subst hD;refine⟨?_⟩;have h:=h.h;show c=_;rw[h];show (((s.getD I.toNat 0).toNat:Nat):Int)=_;rw[hI,ZV]
theorem En.le(h:En c s i):0<=c/\c<=255:=by
 have h1:=h.h;have:=(s.getD i 0).toNat_lt;omega
structure At(s:List UInt8)(i:Nat)(I:Int)(m:Nat):Prop where
 le:i<=s.length
 I:I=i
 m:m=s.length-i
 len:s.length<=9223372036854775807
theorem At.zero(h:s.length<=9223372036854775807):At s 0 0 s.length:=⟨ZB _,rfl,by omega,h⟩
theorem drop_at(h:i<s.length):s.drop i=s.getD i 0 :: s.drop (i+1):=by
 rw[Sw h];exact YC h
theorem At.lt(V:At s i I m)(h:I<(s.length:Int)):i<s.length:=by have:=V.I;omega
theorem At.eq(V:At s i I m)(h:¬I<(s.length:Int)):i=s.length:=by have:=V.I;have:=V.le;omega
theorem At.RJ(hD:D=dn)(V:At s i I m)(h:i<s.length):CX (D.i (.a I)) s:=by
 have:=V.I;subst hD;exact⟨by show 0<=I;omega,by show I<s.length;omega⟩
theorem At.step(hD:D=dn)(V:At s i I m)(h:i<s.length):s.length-(i+1)<m/\At s (i+1) (D.i (.bin .add .i64 (.a I) (.l 1))) (s.length-(i+1)):=by
 have h1:=V.I;have h2:=V.len;have h3:=V.m;subst hD;refine⟨by omega,by omega,?_,rfl,h2⟩;show IntKind.i64.wrap (I+1)=_;rw[wrap64 (by omega) (by omega)];omega
theorem En.of(h:En c s i):((s.getD i 0).toNat:Int)=c:=h.h.symm
def Alv:List UInt8:=[33,35,36,37,38,39,42,43,45,46,94,95,96,124,126]
def vd(c:Int):Bool:=((decide (97<=c)&&decide (c<=122))||(decide (65<=c)&&decide (c<=90)))||(decide (48<=c)&&decide (c<=57))
def ji(c:Int):Bool:=vd c||ac7 (λx=>x==c) Alv
structure Dk(f:Nat->List SV)(n:Int)(a:List (List UInt8)):Prop where
 n:n=a.length
 f:∀i,i<a.length->f i=[.str (a.getD i [])]
 len:a.length<=9223372036854775807
structure AtR{α:Type}(s:List α)(i:Nat)(I:Int)(m:Nat):Prop where
 le:i<=s.length
 I:I=i
 m:m=s.length-i
 len:s.length<=9223372036854775807
theorem AtR.zero{α:Type}{s:List α}(h:s.length<=9223372036854775807):AtR s 0 0 s.length:=⟨ZB _,rfl,by omega,h⟩
theorem AtR.lt{α:Type}{s:List α}(V:AtR s i I m)(hn:n=s.length)(h:I<n):i<s.length:=by have:=V.I;omega
theorem AtR.eq{α:Type}{s:List α}(V:AtR s i I m)(hn:n=s.length)(h:¬I<n):i=s.length:=by have:=V.I;have:=V.le;omega
theorem AtR.fS(hD:D=dn){α:Type}{s:List α}(V:AtR s i I m)(hn:n=s.length)(h:i<s.length):fc (D.i (.a I)) (D.i (.a n)):=by
 have:=V.I;subst hD;exact⟨by show 0<=I;omega,by show I<n;omega⟩
theorem AtR.step(hD:D=dn){α:Type}{s:List α}(V:AtR s i I m)(h:i<s.length):s.length-(i+1)<m/\AtR s (i+1) (D.i (.bin .add .i64 (.a I) (.l 1))) (s.length-(i+1)):=by
 have h1:=V.I;have h2:=V.len;have h3:=V.m;subst hD;refine⟨by omega,by omega,?_,rfl,h2⟩;show IntKind.i64.wrap (I+1)=_;rw[wrap64 (by omega) (by omega)];omega
theorem AtR.j{D:Dn}(hD:D=dn){α:Type}{s:List α}{i j:Nat}{I:Int}{m:Nat}(V:AtR s i I m)(h:AI j (D.i (.a I))):j=i:=by
 have:=MY hD h;have:=V.I;omega
theorem Hb{α:Type}{s:List α}{d:α}(h:i<s.length):s.drop i=s.getD i d :: s.drop (i+1):=by
 rw[YC h,QD,QC h];rfl
def oX:aB:=λ_ xs ls K=>∃(a b:List (List UInt8)) (na nb:Bool) (A B:Int) (f g:Nat->List SV),xs=[.sl (.a na) (.a A) 1 f,.sl (.a nb) (.a B) 1 g]/\ls=[]/\Dk f A a/\Dk g B b/\∀r,r=(a==b)->K (.bool (.a r)) []
def foldI(c:Int):Int:=if 65<=c/\c<=90 then c+32 else c
def OJ(b:UInt8):UInt8:=if 65<=b.toNat/\b.toNat<=90 then b+32 else b
def bG(s:List UInt8):List UInt8:=s.map OJ
theorem Aja(b:UInt8):((OJ b).toNat:Int)=foldI (b.toNat:Int):=by
 unfold OJ foldI;have:=b.toNat_lt
 by_cases h:65<=b.toNat/\b.toNat<=90
 .rw[QB h,QB (by omega)]
  rw[UInt8.toNat_add];simp;omega
 .rw[QA h,QA (by omega)]
structure Io(s:List UInt8)(f:Nat->List SV)(i:Nat)(L:Int):Prop where
 L:L=s.length
 f:∀j,f j=[.int .u8 (.a (if j<i then foldI ((s.getD j 0).toNat:Int) else ((s.getD j 0).toNat:Int)))]
theorem Io.zero(h:f=aU s):Io s f 0 s.length:=by
 refine⟨rfl,λj=>?_⟩;rw[h];simp[aU]
theorem Io.same(V:Io s f i L)(h:¬(65<=((s.getD i 0).toNat:Int)/\((s.getD i 0).toNat:Int)<=90)):Io s f (i+1) L:=by
 refine⟨V.L,λj=>?_⟩;rw[V.f j]
 by_cases e:j=i
 .subst e
  rw[QA (Nat.lt_irrefl _),QB (YO _),foldI,QA h]
 .have:(j<i)=(j<i+1):=by simp;omega
  simp only[this]
theorem Io.set{v:Int}(V:Io s f i L)(h:Ang f' f i [.int .u8 (.a v)])(hv:v=foldI ((s.getD i 0).toNat:Int)):Io s f' (i+1) L:=by
 refine⟨V.L,λj=>?_⟩
 by_cases e:j=i
 .subst e
  rw[h.at_,QB (YO _),hv]
 .rw[h.other j e,V.f j]
  have:(j<i)=(j<i+1):=by simp;omega
  simp only[this]
theorem Io.aU(V:Io s f i L):Fv L f:=by
 refine⟨by have:=V.L;omega,λj _=>⟨_,V.f j,?_⟩⟩;show 0<=(if j<i then foldI ((s.getD j 0).toNat:Int) else ((s.getD j 0).toNat:Int))/\(if j<i then foldI ((s.getD j 0).toNat:Int) else ((s.getD j 0).toNat:Int))<256;have:=(s.getD j 0).toNat_lt;unfold foldI
 split
 .split<;>omega
 .omega
theorem Io.str{r:List UInt8}(V:Io s f i L)(hi:i=s.length)(h:Kr r L f):r=bG s:=by
 have hl:r.length=s.length:=by have:=h.len;have:=V.L;omega
 refine List.ext_getElem (by simp[bG,hl]) λj h1 h2=>?_;have hj:j<s.length:=by omega
 have:=h.row j _ (by rw[V.L];omega) (V.f j);rw[QB (by omega),Sw h1,Sw hj]at this;simp only[bG,List.getElem_map];refine UInt8.toNat_inj.1 ?_;have e2:=Aja s[j];have e3:((r[j].toNat:Nat):Int)=foldI (s[j].toNat:Int):=this;omega
def zF:aB:=λ_ xs ls K=>∃(s:List UInt8),xs=[.str s]/\ls=[]/\s.length<=9223372036854775807/\∀r,r=bG s->K (.str r) []
theorem up8:∀n:Fin 26,Eg .or .u8 (65+(n.1:Int)) 32=65+(n.1:Int)+32:=by decide
theorem or8(h1:65<=c)(h2:c<=90):Eg .or .u8 c 32=c+32:=by
 have:=up8 ⟨(c-65).toNat,by omega⟩;have e:65+(((c-65).toNat:Nat):Int)=c:=by omega
 simp only[e]at this;exact this
theorem and_false(h:(decide (65<=c)&&decide (c<=90))=false):¬(65<=c/\c<=90):=by simpa using h
def rp(s:List UInt8)(m:Nat)(vs:List (Option SV))(hp:List Hl):Prop :=
 ∃(i:Nat) (I L:Int) (nl:Bool) (f:Nat->List SV),vs=[some (.bV (.a nl) (.a L) 0),some (.bV (.a nl) (.a L) 0),some (.int .i64 (.a L)),some (.int .i64 (.a I))]/\hp=[.own 5 (.a L) 1 false f]/\At s i I m/\Io s f i L
theorem Kh:Ap Tryz.prog gl 128 zF:=by
 refine Bv (gh:=[(999983,[])]) mixed Ck Ae Tryz.func128 (by kernel_rfl) (by kernel_rfl) ?_;intro xs ls K h;unfold zF at h;obtain⟨s,rfl,rfl,hl,h⟩:=h;obtain⟨k,hk⟩:∃k,k=bG s:=⟨_,rfl⟩;refine⟨_,_,h k hk,λD hD=>?_⟩;clear h;cbv;refine⟨⟨hl⟩,λf hf=>?_⟩;cbv;obtain⟨J,hJ⟩:∃J,J=rp s:=⟨_,rfl⟩;refine⟨[3,8,9,10],J,⟨rfl,s.length,?_⟩,?_⟩
 .rw[hJ]
  subst hD;exact⟨0,0,_,_,f,rfl,rfl,At.zero hl,Io.zero hf.h⟩
 clear hf;intro m vs mC hv;rw[hJ]at hv;unfold rp at hv;obtain⟨i,I,L,nl,f,rfl,rfl,V,F⟩:=hv;cbv;refine br hD (λh=>?_) (λh=>?_)<;>cbv
 .have aC:=V.lt (by have h:=QT (p:=I<L) h;have:=F.L;omega)
  clear h;refine⟨⟨rfl⟩,?_,λj hj=>?_⟩
  .have:=V.I;have:=F.L;subst hD;exact⟨by show 0<=I;omega,by show I<L;omega⟩
  have TX:j=i:=by have:=MY hD hj;have:=V.I;omega
  subst TX;clear hj;obtain⟨c,hc⟩:∃c:Int,c=((s.getD j 0).toNat:Int):=⟨_,rfl⟩;have xX:f j=[.int .u8 (.a c)]:=by rw[F.f j,QA (Nat.lt_irrefl _),hc]
  have hc:En c s j:=⟨hc⟩;have hb:=hc.le;cbv;refine⟨⟨rfl⟩,?_,?_⟩
  .have:=V.I;have:=F.L;subst hD;exact⟨by show (j:Int)<L;omega⟩
  rw[xX];cbv;refine br hD (λh=>?_) (λh=>?_)<;>cbv
  .have qD:65<=c/\c<=90:=by
    have h:(decide (65<=c)&&decide (c<=90))=true:=h;simpa using h
   clear h;refine⟨⟨rfl⟩,?_,λj3 ky=>?_⟩
   .have:=V.I;have:=F.L;subst hD;exact⟨by show 0<=I;omega,by show I<L;omega⟩
   have TY:j3=j:=by have:=MY hD ky;have:=V.I;omega
   clear ky;subst TY;cbv;refine⟨⟨rfl⟩,?_,?_⟩
   .have:=V.I;have:=F.L;subst hD;exact⟨by show (j3:Int)<L;omega⟩
   rw[xX];cbv;intro f' cY;cbv;refine⟨_,(V.step hD aC).1,?_⟩;rw[hJ];subst hD;refine⟨j3+1,_,_,_,f',rfl,rfl,(V.step rfl aC).2,F.set cY ?_⟩;rw[hc.of,foldI,QB qD];exact or8 qD.1 qD.2
  .have hn:¬(65<=((s.getD j 0).toNat:Int)/\((s.getD j 0).toNat:Int)<=90):=by
    rw[hc.of];exact and_false h
   refine⟨_,(V.step hD aC).1,?_⟩;rw[hJ];subst hD;exact⟨j+1,_,_,_,f,rfl,rfl,(V.step rfl aC).2,F.same hn⟩
 .have hi:=V.eq (λh'=>by have h:=QW (p:=I<L) h;have:=F.L;omega)
  clear h;refine⟨⟨rfl⟩,by subst hD;exact F.aU,λr hr=>?_⟩;cbv;have cO:r=k:=by subst hD;rw[hk];exact F.str hi hr
  rw[cO];exact C6 (aO.refl _)
def iN(p:Int->Bool):List UInt8->Option (Nat×List UInt8)
 | []=>none
 |c :: r =>
  if !p (c.toNat:Int) then none
  else if (c.toNat:Int)=34 then some (1,[])
  else if (c.toNat:Int)=92 then (match r with
   | []=>none
   |d :: r'=>if !p (d.toNat:Int) then none else (iN p r').map λx=>(x.1+2,d :: x.2))
  else (iN p r).map λx=>(x.1+1,c :: x.2)
def aF(s:List UInt8)(i:Nat):Int:=((s.getD i 0).toNat:Int)
theorem Er(p:Int->Bool)(c:UInt8)(r:List UInt8):iN p (c :: r)=(if !p (c.toNat:Int) then none
  else if (c.toNat:Int)=34 then some (1,[])
  else if (c.toNat:Int)=92 then (match r with
   | []=>none
   |d :: r'=>if !p (d.toNat:Int) then none else (iN p r').map λx=>(x.1+2,d :: x.2))
  else (iN p r).map λx=>(x.1+1,c :: x.2)):=by rw[iN.eq_def]
theorem iu(h:i<s.length)(hb:p (aF s i)=false):iN p (s.drop i)=none:=by
 rw[drop_at h,Er];unfold aF at hb;rw[hb];rfl
theorem iq(h:s.length<=i):iN p (s.drop i)=none:=by
 rw[YB h];rfl
theorem Aia(h:i<s.length)(hb:p (aF s i)=true)(hq:aF s i=34):iN p (s.drop i)=some (1,[]):=by
 rw[drop_at h,Er];unfold aF at hb hq;rw[hb,QA (by simp),QB hq]
theorem il(h:i<s.length)(hb:p (aF s i)=true)(hq:aF s i=92)(h2:i+1<s.length)(fX:p (aF s (i+1))=true):iN p (s.drop i)=(iN p (s.drop (i+2))).map λx=>(x.1+2,s.getD (i+1) 0 :: x.2):=by
 rw[drop_at h,drop_at h2,Er];unfold aF at hb hq fX;rw[hb,QA (by simp),QA (by omega),QB hq];simp only;rw[fX];simp
theorem Aa8(h:i<s.length)(hb:p (aF s i)=true)(hq:aF s i=92)(h2:¬(i+1<s.length/\p (aF s (i+1))=true)):iN p (s.drop i)=none:=by
 by_cases h3:i+1<s.length
 .have fX:p (aF s (i+1))=false:=by simpa[h3] using h2
  rw[drop_at h,drop_at h3,Er];unfold aF at hb hq fX;rw[hb,QA (by simp),QA (by omega),QB hq];simp only;rw[fX];simp
 .rw[drop_at h,YB (by omega),Er]
  unfold aF at hb hq;rw[hb,QA (by simp),QA (by omega),QB hq]
theorem Ak0(h:i<s.length)(hb:p (aF s i)=true)(hq:aF s i≠34)(dA:aF s i≠92):iN p (s.drop i)=(iN p (s.drop (i+1))).map λx=>(x.1+1,s.getD i 0 :: x.2):=by
 rw[drop_at h,Er];unfold aF at hb hq dA;rw[hb,QA (by simp),QA hq,QA dA]
def Ku(c:Int):Bool:=!(Ek c==0)
def tK(p:Int->Bool)(s:List UInt8)(i:Nat):Int:=match iN p (s.drop (i+1)) with
 |none=>0
 |some x=>((i+1+x.1:Nat):Int)
def Oi(s:List UInt8):Int:=tK Ku s 0
theorem Oj(h:iN p (s.drop (i+1))=none):tK p s i=0:=by rw[tK,h]
theorem Xa(h:i+1<s.length)(hb:p (aF s (i+1))=true)(hq:aF s (i+1)=34):tK p s i=((i+2:Nat):Int):=by
 rw[tK,Aia h hb hq];rfl
theorem Age(h:i+1<s.length)(hb:p (aF s (i+1))=true)(hq:aF s (i+1)=92)(h2:i+2<s.length)(fX:p (aF s (i+2))=true):tK p s i=tK p s (i+2):=by
 rw[tK,il h hb hq h2 fX,tK];cases iN p (s.drop (i+1+2)) with
 |none=>rfl
 |some x=>simp only[QP];congr 1;omega
theorem Aa9(h:i+1<s.length)(hb:p (aF s (i+1))=true)(hq:aF s (i+1)≠34)(dA:aF s (i+1)≠92):tK p s i=tK p s (i+1):=by
 rw[tK,Ak0 h hb hq dA,tK];cases iN p (s.drop (i+1+1)) with
 |none=>rfl
 |some x=>simp only[QP];congr 1;omega
structure QI(s:List UInt8)(i:Nat)(I:Int)(m:Nat):Prop where
 I:I=i
 lt:i<s.length\/i=0
 m:m=s.length-i
 len:s.length<=9223372036854775807
def Agb(s:List UInt8)(k:Int)(m:Nat)(vs:List (Option SV))(hp:List Hl):Prop :=
 ∃(i:Nat) (I:Int),vs=[some (.str s),some (.int .i64 (.a I))]/\hp=[]/\QI s i I m/\k=tK Ku s i
def Akg(F:List UInt8->Int):aB:=λ_ xs ls K=>∃(s:List UInt8),xs=[.str s]/\ls=[]/\s.length<=9223372036854775807/\∀r,r=F s->K (.int .i64 (.a r)) []
noncomputable def PO:Code:=match Tryz.f231.body with
 |some (.seq a (.scope _))=>a
 |_=>.skip
noncomputable def Ak1:Code:=match Tryz.f231.body with
 |some (.seq _ (.scope c))=>c
 |_=>.skip
noncomputable def EE:Code:=(findLabel Ak1 0).getD .skip
theorem QI.one(V:QI s i I m):ST.den (.bin .add .i64 (.a I) (.l 1))=((i+1:Nat):Int):=by
 have h1:=V.I;have h2:=V.len;have h3:=V.lt;show IntKind.i64.wrap (I+1)=_;rw[wrap64 (by omega) (by omega)];omega
theorem QI.two(V:QI s i I m)(h:i+1<s.length):ST.den (.bin .add .i64 (.bin .add .i64 (.a I) (.l 1)) (.l 1))=((i+2:Nat):Int):=by
 have h0:=V.one;have h2:=V.len;show IntKind.i64.wrap (ST.den (.bin .add .i64 (.a I) (.l 1))+1)=_;rw[h0,wrap64 (by omega) (by omega)];omega
theorem Qf(he:e.den=(i:Int))(h:i<s.length):CX (dn.i e) s:=⟨by show 0<=e.den;omega,by show e.den<s.length;omega⟩
theorem Ns(hD:D=dn)(he:e.den=(i:Int))(h:Afu c s (D.i e)):En c s i:=by
 subst hD;refine⟨?_⟩;have h:=h.h;have e2:dn.i e=(i:Int):=he;rw[e2]at h;rw[h,ZV]
theorem En.aF{c:Int}{s:List UInt8}{i:Nat}(h:En c s i):c=aF s i:=h.h
theorem Agc(hc:En c s i)(h:(decide ((s.length:Int)<=((i:Nat):Int))||Ek c==0)=true):iN Ku (s.drop i)=none:=by
 by_cases aC:i<s.length
 .refine iu aC ?_
  rw[<-hc.aF,Ku];have:¬((s.length:Int)<=(i:Int)):=by omega
  simp[this]at h;simp[h]
 .exact iq (by omega)
theorem Aa7(hc:En c s i)(h:(decide ((s.length:Int)<=((i:Nat):Int))||Ek c==0)=true):¬(i<s.length/\Ku (aF s i)=true):=by
 rintro⟨h1,h2⟩;rw[<-hc.aF,Ku]at h2;have:¬((s.length:Int)<=(i:Int)):=by omega
 simp[this]at h;simp[h]at h2
theorem OP(hc:En c s i)(h:(decide ((s.length:Int)<=((i:Nat):Int))||Ek c==0)=false):i<s.length/\Ku (aF s i)=true:=by
 rw[<-hc.aF,Ku];simp at h;refine⟨by omega,?_⟩;simp[h.2]
theorem Ah9:Ap Tryz.prog gl 231 (Akg Oi):=by
 refine JE (gh:=[]) mixed Ck (Ab Y6 Ae) Tryz.func231 (l:=0) (pre:=PO) (c:=Ak1) (rest:=EE) (by kernel_rfl) (by kernel_rfl) (by kernel_rfl) ?_;intro xs ls K h;unfold Akg at h;obtain⟨s,rfl,rfl,hl,h⟩:=h;obtain⟨k,hk⟩:∃k,k=Oi s:=⟨_,rfl⟩;refine⟨_,_,h k hk,λD hD=>?_⟩;clear h;rw[Oi]at hk;obtain⟨J,hJ⟩:∃J,J=Agb s k:=⟨_,rfl⟩;refine⟨[0,3],J,?_,?_⟩
 .cbv
  have V:QI s 0 0 s.length:=⟨rfl,.inr rfl,rfl,hl⟩;have aZ:=hk;have sN:ST.den (.l 1)=((0+1:Nat):Int):=rfl;refine⟨λhg=>?_,λc hc=>?_⟩
  .subst hD;exact Qf sN (by have hg:(!decide ((s.length:Int)<=ST.den (.l 1)))=true:=hg;rw[sN]at hg;simp only[XO,QL]at hg;omega)
  have fR:=Ns hD sN hc;clear hc;cbv;refine⟨_,rfl,rfl,by subst hD;exact fR.le,λr hr=>?_⟩;have cO:r=Ek c:=by subst hD;exact hr
  clear hr;cbv;refine br hD (λh=>?_) (λh=>?_)<;>cbv
  .have h:(decide ((s.length:Int)<=ST.den (.l 1))||r==0)=true:=h
   rw[sN,cO]at h;refine B6 hD ?_;rw[aZ,Oj (Agc fR h)];rfl
  have h:(decide ((s.length:Int)<=ST.den (.l 1))||r==0)=false:=h;rw[sN,cO]at h;obtain⟨aC,hp⟩:=OP fR h;clear h;refine⟨by subst hD;exact Qf sN aC,λc' kM=>?_⟩;have qD:c'=c:=by have:=Ns hD sN kM;rw[this.h,fR.h]
  subst qD;clear kM;cbv;refine br hD (λh=>?_) (λh=>?_)<;>cbv
  .have oF:c'=34:=by have h:(c'==34)=true:=h;simpa using h
   refine B6 hD ?_;rw[aZ,Xa aC hp (by rw[<-fR.aF];exact oF)];exact rfl
  have oF:aF s (0+1)≠34:=by rw[<-fR.aF];have h:(c'==34)=false:=h;simpa using h
  clear h;refine br hD (λh=>?_) (λh=>?_)<;>cbv
  .have mg:aF s (0+1)=92:=by rw[<-fR.aF];have h:(c'==92)=true:=h;simpa using h
   clear h;have lG:ST.den (.l 2)=((0+2:Nat):Int):=rfl;refine⟨λhg=>?_,λd hd=>?_⟩
   .subst hD;exact Qf lG (by have hg:(!decide ((s.length:Int)<=ST.den (.l 2)))=true:=hg;rw[lG]at hg;simp only[XO,QL]at hg;omega)
   have qR:=Ns hD lG hd;clear hd;cbv;refine⟨_,rfl,rfl,by subst hD;exact qR.le,λq hq=>?_⟩;have dA:q=Ek d:=by subst hD;exact hq
   clear hq;cbv;refine br hD (λh=>?_) (λh=>?_)<;>cbv
   .have h:(decide ((s.length:Int)<=ST.den (.l 2))||q==0)=true:=h
    rw[lG,dA]at h;refine B6 hD ?_;rw[aZ,Oj (Aa8 aC hp mg (Aa7 qR h))];rfl
   have h:(decide ((s.length:Int)<=ST.den (.l 2))||q==0)=false:=h;rw[lG,dA]at h;obtain⟨eL,pE⟩:=OP qR h;refine⟨s.length-(0+2),?_⟩;rw[hJ];subst hD;exact⟨0+2,_,rfl,rfl,⟨lG,.inl eL,rfl,hl⟩,by rw[aZ,Age aC hp mg eL pE]⟩
  .have mg:aF s (0+1)≠92:=by rw[<-fR.aF];have h:(c'==92)=false:=h;simpa using h
   refine⟨s.length-(0+1),?_⟩;rw[hJ];subst hD;exact⟨0+1,_,rfl,rfl,⟨sN,.inl aC,rfl,hl⟩,by rw[aZ,Aa9 aC hp oF mg]⟩
 .intro m vs mC hv
  rw[hJ]at hv;unfold Agb at hv;obtain⟨i,I,jY,hhp,V,aZ⟩:=hv;rw[jY,hhp];clear jY hhp vs mC hk;cbv;have sN:ST.den (.bin .add .i64 (.a I) (.l 1))=((i+1:Nat):Int):=V.one;refine⟨λhg=>?_,λc hc=>?_⟩
  .subst hD;exact Qf sN (by have hg:(!decide ((s.length:Int)<=ST.den (.bin .add .i64 (.a I) (.l 1))))=true:=hg;rw[sN]at hg;simp only[XO,QL]at hg;omega)
  have fR:=Ns hD sN hc;clear hc;cbv;refine⟨_,rfl,rfl,by subst hD;exact fR.le,λr hr=>?_⟩;have cO:r=Ek c:=by subst hD;exact hr
  clear hr;cbv;refine br hD (λh=>?_) (λh=>?_)<;>cbv
  .have h:(decide ((s.length:Int)<=ST.den (.bin .add .i64 (.a I) (.l 1)))||r==0)=true:=h
   rw[sN,cO]at h;refine B6 hD ?_;rw[aZ,Oj (Agc fR h)];rfl
  have h:(decide ((s.length:Int)<=ST.den (.bin .add .i64 (.a I) (.l 1)))||r==0)=false:=h;rw[sN,cO]at h;obtain⟨aC,hp⟩:=OP fR h;clear h;refine⟨by subst hD;exact Qf sN aC,λc' kM=>?_⟩;have qD:c'=c:=by have:=Ns hD sN kM;rw[this.h,fR.h]
  subst qD;clear kM;cbv;refine br hD (λh=>?_) (λh=>?_)<;>cbv
  .have oF:c'=34:=by have h:(c'==34)=true:=h;simpa using h
   refine B6 hD ?_;rw[aZ,Xa aC hp (by rw[<-fR.aF];exact oF)];exact V.two aC
  have oF:aF s (i+1)≠34:=by rw[<-fR.aF];have h:(c'==34)=false:=h;simpa using h
  clear h;refine br hD (λh=>?_) (λh=>?_)<;>cbv
  .have mg:aF s (i+1)=92:=by rw[<-fR.aF];have h:(c'==92)=true:=h;simpa using h
   clear h;have lG:ST.den (.bin .add .i64 (.bin .add .i64 (.a I) (.l 1)) (.l 1))=((i+2:Nat):Int):=V.two aC;refine⟨λhg=>?_,λd hd=>?_⟩
   .subst hD;exact Qf lG (by have hg:(!decide ((s.length:Int)<=ST.den (.bin .add .i64 (.bin .add .i64 (.a I) (.l 1)) (.l 1))))=true:=hg;rw[lG]at hg;simp only[XO,QL]at hg;omega)
   have qR:=Ns hD lG hd;clear hd;cbv;refine⟨_,rfl,rfl,by subst hD;exact qR.le,λq hq=>?_⟩;have dA:q=Ek d:=by subst hD;exact hq
   clear hq;cbv;refine br hD (λh=>?_) (λh=>?_)<;>cbv
   .have h:(decide ((s.length:Int)<=ST.den (.bin .add .i64 (.bin .add .i64 (.a I) (.l 1)) (.l 1)))||q==0)=true:=h
    rw[lG,dA]at h;refine B6 hD ?_;rw[aZ,Oj (Aa8 aC hp mg (Aa7 qR h))];rfl
   have h:(decide ((s.length:Int)<=ST.den (.bin .add .i64 (.bin .add .i64 (.a I) (.l 1)) (.l 1)))||q==0)=false:=h;rw[lG,dA]at h;obtain⟨eL,pE⟩:=OP qR h;refine⟨s.length-(i+2),by have:=V.m;omega,?_⟩;rw[hJ];subst hD;exact⟨i+2,_,rfl,rfl,⟨lG,.inl eL,rfl,hl⟩,by rw[aZ,Age aC hp mg eL pE]⟩
  .have mg:aF s (i+1)≠92:=by rw[<-fR.aF];have h:(c'==92)=false:=h;simpa using h
   refine⟨s.length-(i+1),by have:=V.m;omega,?_⟩;rw[hJ];subst hD;exact⟨i+1,_,rfl,rfl,⟨sN,.inl aC,rfl,hl⟩,by rw[aZ,Aa9 aC hp oF mg]⟩
theorem At.den{s:List UInt8}{i:Nat}{I:Int}{m:Nat}(V:At s i I m):ST.den (.a I)=(i:Int):=V.I
theorem N5{j:Nat}{a b:ST}(ha:a.den=(i:Int))(hb:b.den=(j:Int))(h:i<=j)(h2:j<=s.length):KN (dn.i a) (dn.i b) s:=⟨by show 0<=a.den;omega,by show a.den<=b.den;omega,by show b.den<=_;omega⟩
def Am2(c:Int):Bool:=c==9||c==32
def iK(c:UInt8):Bool:=Am2 (c.toNat:Int)
def Ks(s:List UInt8):List UInt8:=s.dropWhile iK
def N4(s:List UInt8):List UInt8:=(s.reverse.dropWhile iK).reverse
def trimF(s:List UInt8):List UInt8:=N4 (Ks s)
theorem Ta{c:UInt8}{r:List UInt8}(h:iK c=true):Ks (c :: r)=Ks r:=by
 rw[Ks,YW h];rfl
theorem Td(hD:D=dn){r:List UInt8}{j:Nat}{a b:ST}(ha:a.den=(i:Int))(hb:b.den=(j:Int))(hr:su r s (D.i a) (D.i b)):r=(s.drop i).take (j-i):=by
 subst hD;have hr:=hr.h;have e1:dn.i a=(i:Int):=ha;have e2:dn.i b=(j:Int):=hb;rw[hr,e1,e2,ZV,ZV]
def Akf(F:List UInt8->List UInt8):aB:=λ_ xs ls K=>∃(s:List UInt8),xs=[.str s]/\ls=[]/\s.length<=9223372036854775807/\∀r,r=F s->K (.str r) []
theorem y6{r k:List UInt8}(h:r=k):Fin (.str r) (.str k) [] []:=by subst h;exact C6 (aO.refl _)
def Cs(p:Int->Bool)(y:Int):List UInt8->Nat->List UInt8->Option (List (List UInt8))
 | [],md,cur=>if md=0 then some [cur] else none
 |c :: r,md,cur =>
  if !p (c.toNat:Int) then none
  else if md=0 then
   (if (c.toNat:Int)=34 then Cs p y r 1 (cur++[c])
    else if (c.toNat:Int)=y then (Cs p y r 0 []).map (cur :: ·)
    else Cs p y r 0 (cur++[c]))
  else if md=1 then
   (if (c.toNat:Int)=34 then Cs p y r 0 (cur++[c])
    else if (c.toNat:Int)=92 then Cs p y r 2 (cur++[c])
    else Cs p y r 1 (cur++[c]))
  else Cs p y r 1 (cur++[c])
theorem Tx(p:Int->Bool)(y:Int):∀(n:Nat) (r cur:List UInt8),r.length<=n->Cs p y r 1 cur=match iN p r with
  |none=>none
  |some x=>Cs p y (r.drop x.1) 0 (cur++r.take x.1)
 |n,[],cur,_=>by simp[Cs,iN]
 |0,c :: r,cur,h=>by simp at h
 |n+1,c :: r,cur,h=>by
  simp only[QG]at h;rw[Er];simp only[Cs]
  by_cases h1:p (c.toNat:Int)=true
  .rw[h1]
   simp only[YH,XD,if_false,if_true,Nat.one_ne_zero]
   by_cases h2:(c.toNat:Int)=34
   .simp only[QB h2,UO,ZY,YE,List.take_zero]
   .simp only[QA h2]
    by_cases h3:(c.toNat:Int)=92
    .simp only[QB h3]
     cases r with
     |nil=>simp[Cs]
     |cons d r' =>
      simp only[Cs]
      by_cases h4:p (d.toNat:Int)=true
      .rw[h4]
       simp only[YH,XD,if_false,(by decide:¬(2:Nat)=0),(by decide:¬(2:Nat)=1)];rw[Tx p y n r' _ (by simp at h;omega)];cases iN p r' with
       |none=>rfl
       |some x=>simp
      .have h4:p (d.toNat:Int)=false:=by simpa using h4
       rw[h4];simp
    .simp only[QA h3]
     rw[Tx p y n r _ (by omega)];cases iN p r with
     |none=>rfl
     |some x=>simp
  .have h1:p (c.toNat:Int)=false:=by simpa using h1
   rw[h1];simp
def cut(s:List UInt8)(a b:Nat):List UInt8:=(s.drop a).take (b-a)
theorem Ac2(h:i<s.length)(ha:a<=i):cut s a i++[s.getD i 0]=cut s a (i+1):=by
 unfold cut;rw[show i+1-a=(i-a)+1 by omega,UK];congr 1;rw[XF,show a+(i-a)=i by omega,QC h,Sw h];rfl
theorem nq{n:Nat}(ha:a<=i):cut s a i++(s.drop i).take n=cut s a (i+n):=by
 unfold cut;rw[show i+n-a=(i-a)+n by omega,List.take_add,ZA,show a+(i-a)=i by omega]
theorem Ac3:cut s a a=[]:=by simp[cut]
theorem nr:cut s a s.length=s.drop a:=by
 unfold cut;exact XI (by simp)
def pV(y:Int)(s:List UInt8)(out:List (List UInt8))(a i:Nat):Option (List (List UInt8)):=(Cs D2 y (s.drop i) 0 (cut s a i)).map (out++·)
theorem iz{out:List (List UInt8)}(h:i<s.length)(hb:D2 (aF s i)=false):pV y s out a i=none:=by
 unfold aF at hb;rw[pV,drop_at h,Cs,hb];rfl
theorem iw{out:List (List UInt8)}(h:i<s.length)(hb:D2 (aF s i)=true)(oF:aF s i≠34)(hy:aF s i=y):pV y s out a i=pV y s (out++[cut s a i]) (i+1) (i+1):=by
 unfold aF at hb oF hy;rw[pV,pV,drop_at h,Cs,hb,Ac3];simp only[YH,XD,if_false,if_true,QA oF,QB hy];cases Cs D2 y (s.drop (i+1)) 0 []<;>simp
theorem Ak8{out:List (List UInt8)}(h:i<s.length)(ha:a<=i)(hb:D2 (aF s i)=true)(oF:aF s i≠34)(hy:aF s i≠y):pV y s out a i=pV y s out a (i+1):=by
 have e:=Ac2 h ha;unfold aF at hb oF hy;rw[pV,pV,drop_at h,Cs,hb];simp only[YH,XD,if_false,if_true,QA oF,QA hy];rw[e]
theorem Aic{out:List (List UInt8)}(h:i<s.length)(ha:a<=i)(hb:D2 (aF s i)=true)(oF:aF s i=34):pV y s out a i=match iN D2 (s.drop (i+1)) with
  |none=>none
  |some x=>pV y s out a (i+1+x.1):=by
 have e:=Ac2 h ha;unfold aF at hb oF;rw[pV,drop_at h,Cs,hb];simp only[YH,XD,if_false,if_true,QB oF];rw[e,Tx D2 y _ _ _ (QH _)];cases iN D2 (s.drop (i+1)) with
 |none=>rfl
 |some x =>
  simp only[pV];rw[ZA,nq (by omega)]
theorem iy{out:List (List UInt8)}(h:i=s.length):pV y s out a i=some (out++[s.drop a]):=by
 rw[pV,h,XQ,nr];rfl
theorem Yu{p:Int->Bool}:∀(n:Nat) (r:List UInt8) (x:Nat×List UInt8),r.length<=n->iN p r=some x->0<x.1/\x.1<=r.length
 |n,[],x,_,h=>by simp[iN]at h
 |0,c :: r,x,hl,h=>by simp at hl
 |n+1,c :: r,x,hl,h=>by
  simp only[QG]at hl ⊢;rw[Er]at h
  split at h
  .cases h
  split at h
  .cases h;exact⟨by omega,by simp⟩
  split at h
  .cases r with
   |nil=>cases h
   |cons d r' =>
    simp only at h
    split at h
    .cases h
    .obtain⟨z,hz,rfl⟩:=Option.map_eq_some_iff.1 h
     have:=Yu n r' z (by simp at hl;omega) hz;simp only[QG];omega
  .obtain⟨z,hz,rfl⟩:=Option.map_eq_some_iff.1 h
   have:=Yu n r z (by omega) hz;omega
theorem Dk.more{g:Nat->List SV}{n':Int}{a:List (List UInt8)}{x:List UInt8}(R:Dk f n a)(hg:g 0=[.str x])(h:Mn f' n' n 1 f g)(hl:a.length<9223372036854775807):Dk f' n' (a++[x]):=by
 have h1:=R.n;refine⟨by rw[h.len,h1];simp,λi hi=>?_,by simp;omega⟩;simp only[QF,List.length_singleton]at hi
 by_cases e:i<a.length
 .rw[h.lo i (by omega),R.f i e,QD,QD,QM e]
 .have:i=a.length:=by omega
  subst this;rw[h.hi a.length 0 (by rw[h1];simp) (by simp),hg];simp
theorem Dk.nil:Dk (λ_=>[]) 0 []:=⟨rfl,by simp,by simp⟩
def E6(l:List (List UInt8))(i:Nat):List SV:=[.str (l.getD i [])]
theorem Dk.row(h:l.length<=9223372036854775807):Dk (E6 l) l.length l:=⟨rfl,λ_ _=>rfl,h⟩
def Nd(y:Int)(s:List UInt8):Option (List (List UInt8)):=Cs D2 y s 0 []
theorem Nc(p:Int->Bool)(y:Int):∀(r:List UInt8) (md:Nat) (cur:List UInt8) (l:List (List UInt8)),Cs p y r md cur=some l->l.length<=r.length+1/\0<l.length/\∀x∈l,x.length<=cur.length+r.length
 | [],md,cur,l,h=>by
  simp only[Cs]at h
  split at h
  .cases h;simp
  .cases h
 |c :: r,md,cur,l,h=>by
  have push:∀RA,Cs p y r RA (cur++[c])=some l->l.length<=(c :: r).length+1/\0<l.length/\∀x∈l,x.length<=cur.length+(c :: r).length:=by
   intro RA h;obtain⟨h1,h2,h3⟩:=Nc p y r RA _ l h;refine⟨by simp;omega,h2,λx hx=>?_⟩;have:=h3 x hx;simp at this ⊢;omega
  simp only[Cs]at h
  split at h
  .cases h
  split at h
  .split at h
   .exact push _ h
   .split at h
    .obtain⟨l',h',rfl⟩:=Option.map_eq_some_iff.1 h
     obtain⟨h1,h2,h3⟩:=Nc p y r 0 [] l' h';refine⟨by simp;omega,by simp,λx hx=>?_⟩;rcases List.mem_cons.1 hx with rfl|hx
     .simp
     .have:=h3 x hx;simp at this ⊢;omega
    .exact push _ h
  .split at h
   .split at h
    .exact push _ h
    .split at h
     .exact push _ h
     .exact push _ h
   .exact push _ h
theorem Ty(h:Nd y s=some l):l.length<=s.length+1/\0<l.length/\∀x∈l,x.length<=s.length:=by
 have:=Nc _ _ _ _ _ _ h;simpa using this
theorem M2{p:UInt8->Bool}(s:List UInt8):(s.dropWhile p).length<=s.length:=by
 induction s with
 |nil=>simp
 |cons c r ih =>
  rw[List.dropWhile_cons]
  split
  .simp;omega
  .simp
theorem Ahq(s:List UInt8):(trimF s).length<=s.length:=by
 unfold trimF N4 Ks;rw[List.length_reverse];refine XV (M2 _) ?_;rw[List.length_reverse];exact M2 _
def dy(x:List UInt8):Bool:=!(x==[])
def Rf(l:List (List UInt8)):List (List UInt8):=(l.map trimF).filter dy
def A0(s:List UInt8):List (List UInt8)×Int :=
 if 2000<(s.length:Int) then ([],3) else match Nd 44 s with
  |none=>([],6)
  |some l=>(Rf l,0)
theorem Dl(s:List UInt8):(A0 s).1.length<=2001/\∀x∈(A0 s).1,x.length<=2000:=by
 unfold A0
 split
 .simp
 .rename_i h
  cases hp:Nd 44 s with
  |none=>simp
  |some l =>
   obtain⟨h1,h2,h3⟩:=Ty hp;have h4:(Rf l).length<=l.length:=by
    unfold Rf;refine XV (YX _ _) (by simp)
   refine⟨by show (Rf l).length<=_;omega,λx hx=>?_⟩;have hx:x∈Rf l:=hx;unfold Rf at hx;obtain⟨z,hz,rfl⟩:=List.mem_map.1 (List.mem_filter.1 hx).1;have:=Ahq z;have:=h3 z hz;omega
def Af1(F:List UInt8->List (List UInt8)×Int)(N:List UInt8->Bool):aB:=λ_ xs ls K=>∃(s:List UInt8),xs=[.str s]/\ls=[]/\s.length<=9223372036854775807/\∀l e n nb,(l,e)=F s->n=(l.length:Int)->nb=N s->K (.aJ [.sl (.a nb) (.a n) 1 (E6 l),.int .i64 (.a e)]) []
theorem Ami(hD:D=dn){l':List (List UInt8)}{ke kn e':Int}{tO:Bool}{kr:Nat->List SV}(hk:(l,ke)=(l',e'))(kB:kn=(l.length:Int))(wJ:kr=E6 l)
   (R:Dk f n l') {x:BT} {y z:ST} (hy:y.den=n) (hx:x.den=tO) (hz:z.den=e'):Fin (.aJ [.sl (.a (D.b x)) (.a (D.i y)) 1 f,.int .i64 (.a (D.i z))]) (.aJ [.sl (.a tO) (.a kn) 1 kr,.int .i64 (.a ke)]) [] []:=by
 subst hD;simp only[Prod.mk.injEq]at hk;obtain⟨rfl,rfl⟩:=hk;refine C6 (.aJ (.cons (.sl hx ?_ ?_) (.cons (Ai hz) .nil)))
 .rw[kB];show y.den=_;rw[hy];exact R.n
 .intro i hi
  have hi:(i:Int)<y.den:=hi;rw[R.f i (by have:=R.n;omega),wJ];rfl
set_option maxRecDepth 100000
theorem Al1:∀n:Fin 256,Ku (n.1:Int)=D2 (n.1:Int)/\(Ek (n.1:Int)==3)=ji (n.1:Int):=by decide
theorem Tj(c:UInt8):Ku (c.toNat:Int)=D2 (c.toNat:Int):=(Al1 ⟨c.toNat,c.toNat_lt⟩).1
theorem Px{p q:Int->Bool}(h:∀c:UInt8,p (c.toNat:Int)=q (c.toNat:Int)):∀(n:Nat) (r:List UInt8),r.length<=n->iN p r=iN q r
 |_,[],_=>rfl
 |0,c :: r,hl=>by simp at hl
 |n+1,c :: r,hl=>by
  simp only[QG]at hl;rw[Er,Er,h c,Px h n r (by omega)];cases r with
  |nil=>rfl
  |cons d r' =>
   simp only;rw[h d,Px h n r' (by simp at hl;omega)]
theorem Akz(r:List UInt8):iN Ku r=iN D2 r:=Px Tj _ r (QH _)
set_option maxRecDepth 10000
end Go.Proofs.YtdoogdbjiijifaaGreatDoor
