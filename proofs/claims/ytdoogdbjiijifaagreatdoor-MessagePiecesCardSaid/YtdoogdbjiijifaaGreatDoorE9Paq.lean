/- Lemmas of the proof; no conditions. -/
import Derived.Lib.ItoaNum
import Derived.Test.YtdoogdbjiijifaaGreatDoorProg
import Derived.Test.YtdoogdbjiijifaaGreatDoorE9Pap
namespace Go.Proofs.YtdoogdbjiijifaaGreatDoor
open Go.Sx
set_option maxRecDepth 10000
def tt:List (Nat×TI):=[
 (2,⟨.int .i64,1,8,[.int .i64 (.l 0)]⟩),
 (3,⟨.int .i64,1,8,[.int .i64 (.l 0)]⟩),
 (4,⟨.bool,1,1,[.bool (.l false)]⟩),
 (5,⟨.int .u8,1,1,[.int .u8 (.l 0)]⟩),
 (9,⟨.string,1,16,[.str []]⟩),
 (28,⟨.int .i64,1,8,[.int .i64 (.l 0)]⟩),
 (22,⟨.slice 5,1,24,[(.sl (.l true) (.l 0) 1 λ_=>[])]⟩),
 (23,⟨.slice 100,1,24,[(.sl (.l true) (.l 0) 2 λ_=>[])]⟩),
 (100,⟨.struct [(0,9),(1,9)],2,32,[.str [],.str []]⟩),
 (111,⟨.slice 9,1,24,[(.sl (.l true) (.l 0) 1 λ_=>[])]⟩),
 (55,⟨.struct [(0,2),(1,9),(2,9),(3,9),(4,23),(5,9)],6,96,[.int .i64 (.l 0),.str [],.str [],.str [],(.sl (.l true) (.l 0) 2 λ_=>[]),.str []]⟩),
 (36,⟨.struct [(0,3),(1,9),(2,9),(3,3),(4,23)],5,72,[.int .i64 (.l 0),.str [],.str [],.int .i64 (.l 0),(.sl (.l true) (.l 0) 2 λ_=>[])]⟩),
 (25,⟨.struct [(0,3),(1,3),(2,9),(3,23)],4,56,[.int .i64 (.l 0),.int .i64 (.l 0),.str [],(.sl (.l true) (.l 0) 2 λ_=>[])]⟩),
 (38,⟨.struct [(0,9),(1,3),(2,3),(3,9),(4,25),(8,3),(9,9),(10,3),(11,36)],16,208,[.str [],.int .i64 (.l 0),.int .i64 (.l 0),.str [],.int .i64 (.l 0),.int .i64 (.l 0),.str [],(.sl (.l true) (.l 0) 2 λ_=>[]),.int .i64 (.l 0),.str [],.int .i64 (.l 0),.int .i64 (.l 0),.str [],.str [],.int .i64 (.l 0),(.sl (.l true) (.l 0) 2 λ_=>[])]⟩),
 (45,⟨.struct [(0,25),(4,3),(5,9),(6,23),(7,4)],8,112,[.int .i64 (.l 0),.int .i64 (.l 0),.str [],(.sl (.l true) (.l 0) 2 λ_=>[]),.int .i64 (.l 0),.str [],(.sl (.l true) (.l 0) 2 λ_=>[]),.bool (.l false)]⟩),
 (97,⟨.int .u16,1,2,[.int .u16 (.l 0)]⟩),
 (88,⟨.slice 97,1,24,[(.sl (.l true) (.l 0) 1 λ_=>[])]⟩),
 (265,⟨.struct [(0,9),(1,4),(2,4),(3,4)],4,24,[.str [],.bool (.l false),.bool (.l false),.bool (.l false)]⟩),
 (178,⟨.pointer 180,1,8,[.eX]⟩),
 (180,⟨.struct [(0,178),(1,22)],2,32,[.eX,(.sl (.l true) (.l 0) 1 λ_=>[])]⟩),
 (157,⟨.iface,1,16,[.raw .nilIface]⟩),
 (314,⟨.map 9 4,1,8,[.raw (.map none)]⟩)]
def eqs:List TypeId:=[100]
def Fi:List SV:=[
 .str [71,69,84],.bool (.l true),.bool (.l true),.bool (.l true),
 .str [72,69,65,68],.bool (.l true),.bool (.l true),.bool (.l true),
 .str [79,80,84,73,79,78,83],.bool (.l true),.bool (.l true),.bool (.l false),
 .str [84,82,65,67,69],.bool (.l true),.bool (.l true),.bool (.l true),
 .str [80,85,84],.bool (.l false),.bool (.l true),.bool (.l false),
 .str [68,69,76,69,84,69],.bool (.l false),.bool (.l true),.bool (.l false)]
def Af9(_:Nat):List SV:=[.sL (.l false)]
def Zm(i:Nat):List SV:=[.int .u64 (.a (Go.Lib.pow10Tab.getD i 0))]
def gl:List (Nat×SV):=[(3,.dR 1 1 Af9),(4,.dR 20 1 Zm)]
def pI:List (Nat×SV):=[(1,.dK Fi),(3,.dR 1 1 Af9),(4,.dR 20 1 Zm)]
variable {sp:aB}{eG:List (Nat×aB)}{its:List (Nat×(aB->aB))}{yl:List aB}{D:Dn}{I c L y:Int}{s r:List UInt8}{i m a:Nat}{f f':Nat->List SV}{p:Int->Bool}{e:ST}{l:List (List UInt8)}
theorem C5{f:Go.FuncId}(h:Ap Tryz.prog gl f sp):Ap Tryz.prog pI f sp :=
 ⟨h.1,λxs ls K hs=>let ⟨r,aK,hk,hc⟩:=h.2 xs ls K hs;⟨r,aK,hk,λB E w aX a b c d e=>hc B E w aX a b c d λg s hh=>e g s (by
  unfold gl at hh;unfold pI;simp only[Sx.look]at hh ⊢
  split
  .rename_i e1
   have e1:1=g:=by simpa using e1
   subst e1;simp at hh
  .exact hh)⟩⟩
theorem Adb{f:Go.FuncId}(h:Ap Tryz.prog [] f sp):Ap Tryz.prog gl f sp :=
 ⟨h.1,λxs ls K hs=>let ⟨r,aK,hk,hc⟩:=h.2 xs ls K hs;⟨r,aK,hk,λB E w aX a b c d _=>hc B E w aX a b c d (λ_ _ hh=>nomatch hh)⟩⟩
theorem ER:yN Tryz.prog tt=true:=by kernel_rfl
theorem mixed:Tryz.prog.follows .mixedOrders=true:=by kernel_rfl
theorem Ck{gl:List (Nat×SV)}{gh:List (Nat×List Gh)}:A4 Tryz.prog ⟨dn,tt,eG,gl,eqs,gh,its,yl⟩:=by
 refine⟨rfl,ER,λt ht=>?_⟩;simp only[eqs,XT,ZU,or_false]at ht;rcases ht with rfl
 all_goals
  refine⟨?_,?_,?_⟩
  .kernel_rfl
  .kernel_rfl
  .decide
def ttR:List (Nat×TI):=[
 (2,⟨.int .i64,1,8,[.int .i64 (.l 0)]⟩),
 (3,⟨.int .i64,1,8,[.int .i64 (.l 0)]⟩),
 (4,⟨.bool,1,1,[.bool (.l false)]⟩),
 (5,⟨.int .u8,1,1,[.int .u8 (.l 0)]⟩),
 (9,⟨.string,1,16,[.str []]⟩),
 (28,⟨.int .i64,1,8,[.int .i64 (.l 0)]⟩),
 (22,⟨.slice 5,1,24,[(.sl (.l true) (.l 0) 1 λ_=>[])]⟩),
 (23,⟨.slice 100,1,24,[(.sl (.l true) (.l 0) 2 λ_=>[])]⟩),
 (100,⟨.struct [(0,9),(1,9)],2,32,[.str [],.str []]⟩),
 (111,⟨.slice 9,1,24,[(.sl (.l true) (.l 0) 1 λ_=>[])]⟩),
 (55,⟨.struct [(0,2),(1,9),(2,9),(3,9),(4,23),(5,9)],6,96,[.int .i64 (.l 0),.str [],.str [],.str [],(.sl (.l true) (.l 0) 2 λ_=>[]),.str []]⟩),
 (36,⟨.struct [(0,3),(1,9),(2,9),(3,3),(4,23)],5,72,[.int .i64 (.l 0),.str [],.str [],.int .i64 (.l 0),(.sl (.l true) (.l 0) 2 λ_=>[])]⟩),
 (25,⟨.struct [(0,3),(1,3),(2,9),(3,23)],4,56,[.int .i64 (.l 0),.int .i64 (.l 0),.str [],(.sl (.l true) (.l 0) 2 λ_=>[])]⟩),
 (38,⟨.struct [(0,9),(1,3),(2,3),(3,9),(4,25),(8,3),(9,9),(10,3),(11,36)],16,208,[.str [],.int .i64 (.l 0),.int .i64 (.l 0),.str [],.int .i64 (.l 0),.int .i64 (.l 0),.str [],(.sl (.l true) (.l 0) 2 λ_=>[]),.int .i64 (.l 0),.str [],.int .i64 (.l 0),.int .i64 (.l 0),.str [],.str [],.int .i64 (.l 0),(.sl (.l true) (.l 0) 2 λ_=>[])]⟩),
 (45,⟨.struct [(0,25),(4,3),(5,9),(6,23),(7,4)],8,112,[.int .i64 (.l 0),.int .i64 (.l 0),.str [],(.sl (.l true) (.l 0) 2 λ_=>[]),.int .i64 (.l 0),.str [],(.sl (.l true) (.l 0) 2 λ_=>[]),.bool (.l false)]⟩),
 (97,⟨.int .u16,1,2,[.int .u16 (.l 0)]⟩),
 (88,⟨.slice 97,1,24,[(.sl (.l true) (.l 0) 1 λ_=>[])]⟩),
 (265,⟨.struct [(0,9),(1,4),(2,4),(3,4)],4,24,[.str [],.bool (.l false),.bool (.l false),.bool (.l false)]⟩),
 (178,⟨.pointer 180,1,8,[.eX]⟩),
 (180,⟨.struct [(0,178),(1,22)],2,32,[.eX,(.sl (.l true) (.l 0) 1 λ_=>[])]⟩),
 (220,⟨.struct [(0,36),(5,22),(6,22),(7,3),(8,3)],9,136,[.int .i64 (.l 0),.str [],.str [],.int .i64 (.l 0),(.sl (.l true) (.l 0) 2 λ_=>[]),(.sl (.l true) (.l 0) 1 λ_=>[]),(.sl (.l true) (.l 0) 1 λ_=>[]),.int .i64 (.l 0),.int .i64 (.l 0)]⟩),
 (214,⟨.pointer 220,1,8,[.eX]⟩),
 (217,⟨.other,1,8,[.raw .nilFunc]⟩),
 (218,⟨.array 4 217,4,32,[.raw .nilFunc,.raw .nilFunc,.raw .nilFunc,.raw .nilFunc]⟩),
 (125,⟨.struct [(0,38),(16,22),(17,22)],18,256,[.str [],.int .i64 (.l 0),.int .i64 (.l 0),.str [],.int .i64 (.l 0),.int .i64 (.l 0),.str [],(.sl (.l true) (.l 0) 2 λ_=>[]),.int .i64 (.l 0),.str [],.int .i64 (.l 0),.int .i64 (.l 0),.str [],.str [],.int .i64 (.l 0),(.sl (.l true) (.l 0) 2 λ_=>[]),(.sl (.l true) (.l 0) 1 λ_=>[]),(.sl (.l true) (.l 0) 1 λ_=>[])]⟩),
 (123,⟨.pointer 125,1,8,[.eX]⟩),
 (126,⟨.other,1,8,[.raw .nilFunc]⟩),
 (27,⟨.other,1,8,[.raw .nilFunc]⟩),
 (117,⟨.slice 27,1,24,[(.sl (.l true) (.l 0) 1 λ_=>[])]⟩),
 (132,⟨.slice 3,1,24,[(.sl (.l true) (.l 0) 1 λ_=>[])]⟩),
 (182,⟨.slice 22,1,24,[(.sl (.l true) (.l 0) 1 λ_=>[])]⟩),
 (127,⟨.map 3 126,1,8,[.raw (.map none)]⟩),
 (157,⟨.iface,1,16,[.raw .nilIface]⟩),
 (314,⟨.map 9 4,1,8,[.raw (.map none)]⟩)]
theorem vj:Sx.yN Tryz.prog ttR=true:=by kernel_rfl
theorem Du{gl:List (Nat×SV)}{gh:List (Nat×List Gh)}:A4 Tryz.prog ⟨dn,ttR,eG,gl,eqs,gh,its,yl⟩:=by
 refine⟨rfl,vj,λt ht=>?_⟩;simp only[eqs,XT,ZU,or_false]at ht;rcases ht with rfl
 all_goals
  refine⟨?_,?_,?_⟩
  .kernel_rfl
  .kernel_rfl
  .decide
set_option maxHeartbeats 2000000
def Qn:List UInt8:=[48,48,48,48,48,48,48,48,48,50,48,48,48,48,48,48,48,48,48,48,48,48,48,48,48,48,48,48,48,48,48,48,50,51,49,51,51,51,51,51,49,49,51,51,49,51,51,49,51,51,51,51,51,51,51,51,51,51,49,49,49,49,49,49,49,51,51,51,51,51,51,51,51,51,51,51,51,51,51,51,51,51,51,51,51,51,51,51,51,51,51,49,49,49,51,51,51,51,51,51,51,51,51,51,51,51,51,51,51,51,51,51,51,51,51,51,51,51,51,51,51,51,51,49,51,49,51,48]
def Eu(c:Int):Int:=if 128<=c then 0 else ((Qn.getD c.toNat 48).toNat:Int)-48
def zS:aB:=λ_ xs ls K=>∃(c:Int),xs=[.int .u8 (.a c)]/\ls=[]/\(0<=c/\c<=255)/\∀r,r=Eu c->K (.int .i64 (.a r)) []
theorem Ajw:∀i:Fin 128,48<=(Qn.getD i.1 0).toNat/\(Qn.getD i.1 0).toNat<=51/\Qn.getD i.1 0=Qn.getD i.1 48:=by decide
theorem EN{n:Int}(h1:0<=n)(h2:n<=255):IntKind.u8.wrap n=n:=IntWalk.u8_in _ ⟨by omega,by omega⟩
theorem Zy:Ap Tryz.prog gl 124 zS:=by
 refine Bq (gh:=[]) mixed Ck Ae Tryz.func124 (by kernel_rfl) (by kernel_rfl) ?_;intro xs ls K h;unfold zS at h;obtain⟨c,rfl,rfl,hb,h⟩:=h;obtain⟨k,hk⟩:∃k,k=Eu c:=⟨_,rfl⟩;refine⟨_,_,h k hk,λD hD=>?_⟩;clear h;have w:IntKind.i64.wrap c=c:=wrap64 (by omega) (by omega);cbv;refine br hD (λh=>?_) (λh=>?_)<;>cbv
 .refine Bj hD ?_
  simp[w]at h;rw[hk,Eu,QC h];rfl
 .have hc:c<128:=by simp[BT.den,B6,ST.den,w]at h;omega
  clear h;refine⟨by subst hD;exact⟨hb.1,hc⟩,λc' lI=>?_⟩;cbv;refine Bj hD ?_;have e1:c'=((Qn.getD c.toNat 0).toNat:Int):=by subst hD;exact lI.h
  obtain⟨t1,t2,t3⟩:=Ajw ⟨c.toNat,by omega⟩;simp only at t1 t2 t3;show IntKind.i64.wrap (IntKind.u8.wrap (c'-48))=k;rw[EN (by omega) (by omega),wrap64 (by omega) (by omega),hk,Eu,QA (by omega),<-t3,e1]
def Ea(c:Int):Bool:=c==9||(decide (32<=c)&&decide (c<=126))
structure Ey(c:Int)(s:List UInt8)(i:Nat):Prop where
 h:c=((s.getD i 0).toNat:Int)
theorem OJ(hD:D=dn){j:Nat}(h:DU j (D.i (.a I))):(j:Int)=I:=by subst hD;exact h.h
structure ai4(s:List UInt8)(i:Nat)(I L:Int)(m:Nat):Prop where
 L:L=s.length
 le:i<=s.length
 I:I=i
 all:∀j:Nat,j<i->Eu ((s.getD j 0).toNat:Int)=3
 m:m=s.length-i
def Cb(s:List UInt8):Bool:=(s.all λc=>Eu (c.toNat:Int)==3)&&(decide (0<s.length)&&decide (s.length<=64))
theorem Ais{j:Nat}(hj:j<s.length)(h:Eu ((s.getD j 0).toNat:Int)≠3):Cb s=false:=by
 unfold Cb;rw[ZA]
 left
 rw[List.all_eq_false];refine⟨s[j],XO hj,?_⟩;rw[QD,QB hj]at h;simpa using h
theorem Aej(h:∀j:Nat,j<s.length->Eu ((s.getD j 0).toNat:Int)=3):Cb s=(decide (0<s.length)&&decide (s.length<=64)):=by
 unfold Cb;have:(s.all λc=>Eu (c.toNat:Int)==3)=true:=by
  rw[List.all_eq_true];intro c hc;obtain⟨j,hj,rfl⟩:=List.mem_iff_getElem.1 hc;have:=h j hj;rw[QD,QB hj]at this;simpa using this
 rw[this];simp
def vP:aB:=λ_ xs ls K=>∃(s:List UInt8),xs=[.str s]/\ls=[]/\s.length<=9223372036854775807/\∀r,r=Cb s->K (.bool (.a r)) []
def EU(s:List UInt8)(f:Nat->List SV)(m:Nat)(vs:List (Option SV))(hp:List Hl):Prop :=
 ∃(i:Nat) (I L:Int),vs=[some (.str s),some (.sl (.a false) (.a L) 1 f),some (.int .i64 (.a L)),some (.int .i64 (.a I))]/\hp=[]/\ai4 s i I L m
theorem Gt:Ap Tryz.prog gl 61 vP:=by
 refine Bq (gh:=[]) mixed Ck (Aa Zy Ae) Tryz.func61 (by kernel_rfl) (by kernel_rfl) ?_;intro xs ls K h;unfold vP at h;obtain⟨s,rfl,rfl,hl,h⟩:=h;obtain⟨k,hk⟩:∃k,k=Cb s:=⟨_,rfl⟩;refine⟨_,_,h k hk,λD hD=>?_⟩;clear h;cbv;refine⟨⟨hl⟩,λf hf=>?_⟩;cbv;obtain⟨J,hJ⟩:∃J,J=EU s f:=⟨_,rfl⟩;refine⟨[0,6,7,8],J,⟨rfl,s.length,?_⟩,?_⟩
 .rw[hJ]
  subst hD;exact⟨0,0,_,rfl,rfl,⟨rfl,XX _,rfl,by omega,rfl⟩⟩
 intro m vs hp hv;rw[hJ]at hv;unfold EU at hv;obtain⟨i,I,L,rfl,rfl,V⟩:=hv;cbv;refine br hD (λh=>?_) (λh=>?_)<;>cbv
 .have aC:i<s.length:=by simp at h;have:=V.I;have:=V.L;omega
  clear h;refine⟨?_,λj hj=>?_⟩
  .have:=V.I;have:=V.L;subst hD;exact⟨by simp[dn];omega,by simp[dn];omega⟩
  have hji:j=i:=by have:=OJ hD hj;have:=V.I;omega
  obtain⟨c,hc⟩:∃c:Int,c=((s.getD i 0).toNat:Int):=⟨_,rfl⟩;have hb:0<=c/\c<=255:=by have:=(s.getD i 0).toNat_lt;omega
  have yW:f i=[.int .u8 (.a c)]:=by rw[hf.h,hc];rfl
  have hc:Ey c s i:=⟨hc⟩;subst hji;clear hj;cbv;rw[yW];cbv;refine⟨_,rfl,rfl,by subst hD;exact hb,λr hr=>?_⟩;have hr:r=Eu c:=by subst hD;exact hr
  cbv;refine br hD (λh=>?_) (λh=>?_)<;>cbv
  .refine Ar hD ?_
   have:r≠3:=by simpa[BT.den,B6,ST.den] using h
   rw[hk,Ais aC (by rw[<-hc.h,<-hr];exact this)];rfl
  .have h3:r=3:=by simpa[BT.den,B6,ST.den] using h
   refine⟨s.length-(j+1),by have:=V.m;omega,?_⟩;rw[hJ];subst hD;have hI:=V.I;refine⟨j+1,_,_,rfl,rfl,⟨V.L,by omega,?_,λq hq=>?_,rfl⟩⟩
   .simp[dn]
    rw[wrap64 (by omega) (by omega)];omega
   .by_cases hqj:q=j
    .subst hqj
     rw[<-hc.h];exact hr.symm.trans h3
    .exact V.all q (by omega)
 .have hi:i=s.length:=by simp at h;have:=V.I;have:=V.L;have:=V.le;omega
  clear h;have hy:=Aej (s:=s) (λj hj=>V.all j (by omega));refine Ar hD ?_;rw[hk,hy];show (decide ((0:Int)<(s.length:Int))&&decide ((s.length:Int)<=64))=_;congr 1<;>exact decide_eq_decide.2 (by omega)
def ah9(p:Int->Bool)(s:List UInt8):Bool:=s.any λc=>p (c.toNat:Int)
theorem Tc{j:Nat}(hj:j<s.length):s.getD j 0=s[j]:=by
 rw[QD,QB hj];rfl
theorem Agh(hD:D=dn)(hI:I=i)(h:Ags c s (D.i (.a I))):Ey c s i:=by
 subst hD;refine⟨?_⟩;have h:=h.h;show c=_;rw[h];show (((s.getD I.toNat 0).toNat:Nat):Int)=_;rw[hI,ZY]
theorem Ey.le(h:Ey c s i):0<=c/\c<=255:=by
 have h1:=h.h;have:=(s.getD i 0).toNat_lt;omega
structure At(s:List UInt8)(i:Nat)(I:Int)(m:Nat):Prop where
 le:i<=s.length
 I:I=i
 m:m=s.length-i
 len:s.length<=9223372036854775807
theorem At.zero(h:s.length<=9223372036854775807):At s 0 0 s.length:=⟨XX _,rfl,by omega,h⟩
theorem drop_at(h:i<s.length):s.drop i=s.getD i 0 :: s.drop (i+1):=by
 rw[Tc h];exact ZS h
theorem At.lt(V:At s i I m)(h:I<(s.length:Int)):i<s.length:=by have:=V.I;omega
theorem At.eq(V:At s i I m)(h:¬I<(s.length:Int)):i=s.length:=by have:=V.I;have:=V.le;omega
theorem At.TS(hD:D=dn)(V:At s i I m)(h:i<s.length):DV (D.i (.a I)) s:=by
 have:=V.I;subst hD;exact⟨by show 0<=I;omega,by show I<s.length;omega⟩
theorem At.step(hD:D=dn)(V:At s i I m)(h:i<s.length):s.length-(i+1)<m/\At s (i+1) (D.i (.bin .add .i64 (.a I) (.l 1))) (s.length-(i+1)):=by
 have h1:=V.I;have h2:=V.len;have h3:=V.m;subst hD;refine⟨by omega,by omega,?_,rfl,h2⟩;show IntKind.i64.wrap (I+1)=_;rw[wrap64 (by omega) (by omega)];omega
theorem Ey.of(h:Ey c s i):((s.getD i 0).toNat:Int)=c:=h.h.symm
def Am0:List UInt8:=[33,35,36,37,38,39,42,43,45,46,94,95,96,124,126]
def wu(c:Int):Bool:=((decide (97<=c)&&decide (c<=122))||(decide (65<=c)&&decide (c<=90)))||(decide (48<=c)&&decide (c<=57))
def lk(c:Int):Bool:=wu c||ah9 (λx=>x==c) Am0
structure Dp(f:Nat->List SV)(n:Int)(a:List (List UInt8)):Prop where
 n:n=a.length
 f:∀i,i<a.length->f i=[.str (a.getD i [])]
 len:a.length<=9223372036854775807
structure AtR{α:Type}(s:List α)(i:Nat)(I:Int)(m:Nat):Prop where
 le:i<=s.length
 I:I=i
 m:m=s.length-i
 len:s.length<=9223372036854775807
theorem AtR.zero{α:Type}{s:List α}(h:s.length<=9223372036854775807):AtR s 0 0 s.length:=⟨XX _,rfl,by omega,h⟩
theorem AtR.lt{α:Type}{s:List α}{n:Int}(V:AtR s i I m)(hn:n=s.length)(h:I<n):i<s.length:=by have:=V.I;omega
theorem AtR.eq{α:Type}{s:List α}{n:Int}(V:AtR s i I m)(hn:n=s.length)(h:¬I<n):i=s.length:=by have:=V.I;have:=V.le;omega
theorem AtR.lY(hD:D=dn){α:Type}{s:List α}{n:Int}(V:AtR s i I m)(hn:n=s.length)(h:i<s.length):fv (D.i (.a I)) (D.i (.a n)):=by
 have:=V.I;subst hD;exact⟨by show 0<=I;omega,by show I<n;omega⟩
theorem AtR.step(hD:D=dn){α:Type}{s:List α}(V:AtR s i I m)(h:i<s.length):s.length-(i+1)<m/\AtR s (i+1) (D.i (.bin .add .i64 (.a I) (.l 1))) (s.length-(i+1)):=by
 have h1:=V.I;have h2:=V.len;have h3:=V.m;subst hD;refine⟨by omega,by omega,?_,rfl,h2⟩;show IntKind.i64.wrap (I+1)=_;rw[wrap64 (by omega) (by omega)];omega
theorem AtR.j{D:Dn}(hD:D=dn){α:Type}{s:List α}{i j:Nat}{I:Int}{m:Nat}(V:AtR s i I m)(h:DU j (D.i (.a I))):j=i:=by
 have:=OJ hD h;have:=V.I;omega
theorem Hg{α:Type}{s:List α}{d:α}(h:i<s.length):s.drop i=s.getD i d :: s.drop (i+1):=by
 rw[ZS h,QD,QB h];rfl
def pN:aB:=λ_ xs ls K=>∃(a b:List (List UInt8)) (na nb:Bool) (A B:Int) (f g:Nat->List SV),xs=[.sl (.a na) (.a A) 1 f,.sl (.a nb) (.a B) 1 g]/\ls=[]/\Dp f A a/\Dp g B b/\∀r,r=(a==b)->K (.bool (.a r)) []
def foldI(c:Int):Int:=if 65<=c/\c<=90 then c+32 else c
def RD(b:UInt8):UInt8:=if 65<=b.toNat/\b.toNat<=90 then b+32 else b
def bH(s:List UInt8):List UInt8:=s.map RD
theorem Akb(b:UInt8):((RD b).toNat:Int)=foldI (b.toNat:Int):=by
 unfold RD foldI;have:=b.toNat_lt
 by_cases h:65<=b.toNat/\b.toNat<=90
 .rw[QC h,QC (by omega)]
  rw[UInt8.toNat_add];simp;omega
 .rw[QA h,QA (by omega)]
structure Iz(s:List UInt8)(f:Nat->List SV)(i:Nat)(L:Int):Prop where
 L:L=s.length
 f:∀j,f j=[.int .u8 (.a (if j<i then foldI ((s.getD j 0).toNat:Int) else ((s.getD j 0).toNat:Int)))]
theorem Iz.zero(h:f=aQ s):Iz s f 0 s.length:=by
 refine⟨rfl,λj=>?_⟩;rw[h];simp[aQ]
theorem Iz.same(V:Iz s f i L)(h:¬(65<=((s.getD i 0).toNat:Int)/\((s.getD i 0).toNat:Int)<=90)):Iz s f (i+1) L:=by
 refine⟨V.L,λj=>?_⟩;rw[V.f j]
 by_cases e:j=i
 .subst e
  rw[QA (Nat.lt_irrefl _),QC (YP _),foldI,QA h]
 .have:(j<i)=(j<i+1):=by simp;omega
  simp only[this]
theorem Iz.set{v:Int}(V:Iz s f i L)(h:Aoq f' f i [.int .u8 (.a v)])(hv:v=foldI ((s.getD i 0).toNat:Int)):Iz s f' (i+1) L:=by
 refine⟨V.L,λj=>?_⟩
 by_cases e:j=i
 .subst e
  rw[h.at_,QC (YP _),hv]
 .rw[h.other j e,V.f j]
  have:(j<i)=(j<i+1):=by simp;omega
  simp only[this]
theorem Iz.aQ(V:Iz s f i L):Fz L f:=by
 refine⟨by have:=V.L;omega,λj _=>⟨_,V.f j,?_⟩⟩;show 0<=(if j<i then foldI ((s.getD j 0).toNat:Int) else ((s.getD j 0).toNat:Int))/\(if j<i then foldI ((s.getD j 0).toNat:Int) else ((s.getD j 0).toNat:Int))<256;have:=(s.getD j 0).toNat_lt;unfold foldI
 split
 .split<;>omega
 .omega
theorem Iz.str(V:Iz s f i L)(hi:i=s.length)(h:Ky r L f):r=bH s:=by
 have hl:r.length=s.length:=by have:=h.len;have:=V.L;omega
 refine List.ext_getElem (by simp[bH,hl]) λj h1 h2=>?_;have hj:j<s.length:=by omega
 have:=h.row j _ (by rw[V.L];omega) (V.f j);rw[QC (by omega),Tc h1,Tc hj]at this;simp only[bH,List.getElem_map];refine UInt8.toNat_inj.1 ?_;have e2:=Akb s[j];have e3:((r[j].toNat:Nat):Int)=foldI (s[j].toNat:Int):=this;omega
def ah:aB:=λ_ xs ls K=>∃(s:List UInt8),xs=[.str s]/\ls=[]/\s.length<=9223372036854775807/\∀r,r=bH s->K (.str r) []
theorem up8:∀n:Fin 26,En .or .u8 (65+(n.1:Int)) 32=65+(n.1:Int)+32:=by decide
theorem or8(h1:65<=c)(h2:c<=90):En .or .u8 c 32=c+32:=by
 have:=up8 ⟨(c-65).toNat,by omega⟩;have e:65+(((c-65).toNat:Nat):Int)=c:=by omega
 simp only[e]at this;exact this
theorem and_false(h:(decide (65<=c)&&decide (c<=90))=false):¬(65<=c/\c<=90):=by simpa using h
def ud(s:List UInt8)(m:Nat)(vs:List (Option SV))(hp:List Hl):Prop :=
 ∃(i:Nat) (I L:Int) (nl:Bool) (f:Nat->List SV),vs=[some (.bV (.a nl) (.a L) 0),some (.bV (.a nl) (.a L) 0),some (.int .i64 (.a L)),some (.int .i64 (.a I))]/\hp=[.own 5 (.a L) 1 false f]/\At s i I m/\Iz s f i L
theorem Kp:Ap Tryz.prog gl 128 ah:=by
 refine Bq (gh:=[(999983,[])]) mixed Ck Ae Tryz.func128 (by kernel_rfl) (by kernel_rfl) ?_;intro xs ls K h;unfold ah at h;obtain⟨s,rfl,rfl,hl,h⟩:=h;obtain⟨k,hk⟩:∃k,k=bH s:=⟨_,rfl⟩;refine⟨_,_,h k hk,λD hD=>?_⟩;clear h;cbv;refine⟨⟨hl⟩,λf hf=>?_⟩;cbv;obtain⟨J,hJ⟩:∃J,J=ud s:=⟨_,rfl⟩;refine⟨[3,8,9,10],J,⟨rfl,s.length,?_⟩,?_⟩
 .rw[hJ]
  subst hD;exact⟨0,0,_,_,f,rfl,rfl,At.zero hl,Iz.zero hf.h⟩
 clear hf;intro m vs mA hv;rw[hJ]at hv;unfold ud at hv;obtain⟨i,I,L,nl,f,rfl,rfl,V,F⟩:=hv;cbv;refine br hD (λh=>?_) (λh=>?_)<;>cbv
 .have aC:=V.lt (by have h:=QT (p:=I<L) h;have:=F.L;omega)
  clear h;refine⟨⟨rfl⟩,?_,λj hj=>?_⟩
  .have:=V.I;have:=F.L;subst hD;exact⟨by show 0<=I;omega,by show I<L;omega⟩
  have hji:j=i:=by have:=OJ hD hj;have:=V.I;omega
  subst hji;clear hj;obtain⟨c,hc⟩:∃c:Int,c=((s.getD j 0).toNat:Int):=⟨_,rfl⟩;have yW:f j=[.int .u8 (.a c)]:=by rw[F.f j,QA (Nat.lt_irrefl _),hc]
  have hc:Ey c s j:=⟨hc⟩;have hb:=hc.le;cbv;refine⟨⟨rfl⟩,?_,?_⟩
  .have:=V.I;have:=F.L;subst hD;exact⟨by show (j:Int)<L;omega⟩
  rw[yW];cbv;refine br hD (λh=>?_) (λh=>?_)<;>cbv
  .have lH:65<=c/\c<=90:=by
    have h:(decide (65<=c)&&decide (c<=90))=true:=h;simpa using h
   clear h;refine⟨⟨rfl⟩,?_,λj3 y8=>?_⟩
   .have:=V.I;have:=F.L;subst hD;exact⟨by show 0<=I;omega,by show I<L;omega⟩
   have aa9:j3=j:=by have:=OJ hD y8;have:=V.I;omega
   clear y8;subst aa9;cbv;refine⟨⟨rfl⟩,?_,?_⟩
   .have:=V.I;have:=F.L;subst hD;exact⟨by show (j3:Int)<L;omega⟩
   rw[yW];cbv;intro f' dA;cbv;refine⟨_,(V.step hD aC).1,?_⟩;rw[hJ];subst hD;refine⟨j3+1,_,_,_,f',rfl,rfl,(V.step rfl aC).2,F.set dA ?_⟩;rw[hc.of,foldI,QC lH];exact or8 lH.1 lH.2
  .have hn:¬(65<=((s.getD j 0).toNat:Int)/\((s.getD j 0).toNat:Int)<=90):=by
    rw[hc.of];exact and_false h
   refine⟨_,(V.step hD aC).1,?_⟩;rw[hJ];subst hD;exact⟨j+1,_,_,_,f,rfl,rfl,(V.step rfl aC).2,F.same hn⟩
 .have hi:=V.eq (λh'=>by have h:=XA (p:=I<L) h;have:=F.L;omega)
  clear h;refine⟨⟨rfl⟩,by subst hD;exact F.aQ,λr hr=>?_⟩;cbv;have bZ:r=k:=by subst hD;rw[hk];exact F.str hi hr
  rw[bZ];exact Cm (aM.refl _)
def iX(p:Int->Bool):List UInt8->Option (Nat×List UInt8)
 | []=>none
 |c :: r =>
  if !p (c.toNat:Int) then none
  else if (c.toNat:Int)=34 then some (1,[])
  else if (c.toNat:Int)=92 then (match r with
   | []=>none
   |d :: r'=>if !p (d.toNat:Int) then none else (iX p r').map λx=>(x.1+2,d :: x.2))
  else (iX p r).map λx=>(x.1+1,c :: x.2)
def aG(s:List UInt8)(i:Nat):Int:=((s.getD i 0).toNat:Int)
theorem E6(p:Int->Bool)(c:UInt8)(r:List UInt8):iX p (c :: r)=(if !p (c.toNat:Int) then none
  else if (c.toNat:Int)=34 then some (1,[])
  else if (c.toNat:Int)=92 then (match r with
   | []=>none
   |d :: r'=>if !p (d.toNat:Int) then none else (iX p r').map λx=>(x.1+2,d :: x.2))
  else (iX p r).map λx=>(x.1+1,c :: x.2)):=by rw[iX.eq_def]
theorem jz(h:i<s.length)(hb:p (aG s i)=false):iX p (s.drop i)=none:=by
 rw[drop_at h,E6];unfold aG at hb;rw[hb];rfl
theorem jy(h:s.length<=i):iX p (s.drop i)=none:=by
 rw[ZN h];rfl
theorem Aja(h:i<s.length)(hb:p (aG s i)=true)(hq:aG s i=34):iX p (s.drop i)=some (1,[]):=by
 rw[drop_at h,E6];unfold aG at hb hq;rw[hb,QA (by simp),QC hq]
theorem jx(h:i<s.length)(hb:p (aG s i)=true)(hq:aG s i=92)(h2:i+1<s.length)(gH:p (aG s (i+1))=true):iX p (s.drop i)=(iX p (s.drop (i+2))).map λx=>(x.1+2,s.getD (i+1) 0 :: x.2):=by
 rw[drop_at h,drop_at h2,E6];unfold aG at hb hq gH;rw[hb,QA (by simp),QA (by omega),QC hq];simp only;rw[gH];simp
theorem Ab1(h:i<s.length)(hb:p (aG s i)=true)(hq:aG s i=92)(h2:¬(i+1<s.length/\p (aG s (i+1))=true)):iX p (s.drop i)=none:=by
 by_cases h3:i+1<s.length
 .have gH:p (aG s (i+1))=false:=by simpa[h3] using h2
  rw[drop_at h,drop_at h3,E6];unfold aG at hb hq gH;rw[hb,QA (by simp),QA (by omega),QC hq];simp only;rw[gH];simp
 .rw[drop_at h,ZN (by omega),E6]
  unfold aG at hb hq;rw[hb,QA (by simp),QA (by omega),QC hq]
theorem Al7(h:i<s.length)(hb:p (aG s i)=true)(hq:aG s i≠34)(dC:aG s i≠92):iX p (s.drop i)=(iX p (s.drop (i+1))).map λx=>(x.1+1,s.getD i 0 :: x.2):=by
 rw[drop_at h,E6];unfold aG at hb hq dC;rw[hb,QA (by simp),QA hq,QA dC]
def K1(c:Int):Bool:=!(Eu c==0)
def tY(p:Int->Bool)(s:List UInt8)(i:Nat):Int:=match iX p (s.drop (i+1)) with
 |none=>0
 |some x=>((i+1+x.1:Nat):Int)
def Oo(s:List UInt8):Int:=tY K1 s 0
theorem Oq(h:iX p (s.drop (i+1))=none):tY p s i=0:=by rw[tY,h]
theorem Xw(h:i+1<s.length)(hb:p (aG s (i+1))=true)(hq:aG s (i+1)=34):tY p s i=((i+2:Nat):Int):=by
 rw[tY,Aja h hb hq];rfl
theorem Ag9(h:i+1<s.length)(hb:p (aG s (i+1))=true)(hq:aG s (i+1)=92)(h2:i+2<s.length)(gH:p (aG s (i+2))=true):tY p s i=tY p s (i+2):=by
 rw[tY,jx h hb hq h2 gH,tY];cases iX p (s.drop (i+1+2)) with
 |none=>rfl
 |some x=>simp only[QQ];congr 1;omega
theorem Ab2(h:i+1<s.length)(hb:p (aG s (i+1))=true)(hq:aG s (i+1)≠34)(dC:aG s (i+1)≠92):tY p s i=tY p s (i+1):=by
 rw[tY,Al7 h hb hq dC,tY];cases iX p (s.drop (i+1+1)) with
 |none=>rfl
 |some x=>simp only[QQ];congr 1;omega
structure QI(s:List UInt8)(i:Nat)(I:Int)(m:Nat):Prop where
 I:I=i
 lt:i<s.length\/i=0
 m:m=s.length-i
 len:s.length<=9223372036854775807
def Ag6(s:List UInt8)(k:Int)(m:Nat)(vs:List (Option SV))(hp:List Hl):Prop :=
 ∃(i:Nat) (I:Int),vs=[some (.str s),some (.int .i64 (.a I))]/\hp=[]/\QI s i I m/\k=tY K1 s i
def Alk(F:List UInt8->Int):aB:=λ_ xs ls K=>∃(s:List UInt8),xs=[.str s]/\ls=[]/\s.length<=9223372036854775807/\∀r,r=F s->K (.int .i64 (.a r)) []
noncomputable def SX:Code:=match Tryz.f231.body with
 |some (.seq a (.scope _))=>a
 |_=>.skip
noncomputable def Al8:Code:=match Tryz.f231.body with
 |some (.seq _ (.scope c))=>c
 |_=>.skip
noncomputable def FM:Code:=(findLabel Al8 0).getD .skip
theorem QI.one(V:QI s i I m):ST.den (.bin .add .i64 (.a I) (.l 1))=((i+1:Nat):Int):=by
 have h1:=V.I;have h2:=V.len;have h3:=V.lt;show IntKind.i64.wrap (I+1)=_;rw[wrap64 (by omega) (by omega)];omega
theorem QI.two(V:QI s i I m)(h:i+1<s.length):ST.den (.bin .add .i64 (.bin .add .i64 (.a I) (.l 1)) (.l 1))=((i+2:Nat):Int):=by
 have h0:=V.one;have h2:=V.len;show IntKind.i64.wrap (ST.den (.bin .add .i64 (.a I) (.l 1))+1)=_;rw[h0,wrap64 (by omega) (by omega)];omega
theorem Qp(he:e.den=(i:Int))(h:i<s.length):DV (dn.i e) s:=⟨by show 0<=e.den;omega,by show e.den<s.length;omega⟩
theorem N0(hD:D=dn)(he:e.den=(i:Int))(h:Ags c s (D.i e)):Ey c s i:=by
 subst hD;refine⟨?_⟩;have h:=h.h;have e2:dn.i e=(i:Int):=he;rw[e2]at h;rw[h,ZY]
theorem Ey.aG{c:Int}{s:List UInt8}{i:Nat}(h:Ey c s i):c=aG s i:=h.h
theorem Ag7(hc:Ey c s i)(h:(decide ((s.length:Int)<=((i:Nat):Int))||Eu c==0)=true):iX K1 (s.drop i)=none:=by
 by_cases aC:i<s.length
 .refine jz aC ?_
  rw[<-hc.aG,K1];have:¬((s.length:Int)<=(i:Int)):=by omega
  simp[this]at h;simp[h]
 .exact jy (by omega)
theorem Ab0(hc:Ey c s i)(h:(decide ((s.length:Int)<=((i:Nat):Int))||Eu c==0)=true):¬(i<s.length/\K1 (aG s i)=true):=by
 rintro⟨h1,h2⟩;rw[<-hc.aG,K1]at h2;have:¬((s.length:Int)<=(i:Int)):=by omega
 simp[this]at h;simp[h]at h2
theorem RQ(hc:Ey c s i)(h:(decide ((s.length:Int)<=((i:Nat):Int))||Eu c==0)=false):i<s.length/\K1 (aG s i)=true:=by
 rw[<-hc.aG,K1];simp at h;refine⟨by omega,?_⟩;simp[h.2]
theorem Ai9:Ap Tryz.prog gl 231 (Alk Oo):=by
 refine KK (gh:=[]) mixed Ck (Aa Zy Ae) Tryz.func231 (l:=0) (pre:=SX) (c:=Al8) (rest:=FM) (by kernel_rfl) (by kernel_rfl) (by kernel_rfl) ?_;intro xs ls K h;unfold Alk at h;obtain⟨s,rfl,rfl,hl,h⟩:=h;obtain⟨k,hk⟩:∃k,k=Oo s:=⟨_,rfl⟩;refine⟨_,_,h k hk,λD hD=>?_⟩;clear h;rw[Oo]at hk;obtain⟨J,hJ⟩:∃J,J=Ag6 s k:=⟨_,rfl⟩;refine⟨[0,3],J,?_,?_⟩
 .cbv
  have V:QI s 0 0 s.length:=⟨rfl,.inr rfl,rfl,hl⟩;have aY:=hk;have tE:ST.den (.l 1)=((0+1:Nat):Int):=rfl;refine⟨λhg=>?_,λc hc=>?_⟩
  .subst hD;exact Qp tE (by have hg:(!decide ((s.length:Int)<=ST.den (.l 1)))=true:=hg;rw[tE]at hg;simp only[XL,QJ]at hg;omega)
  have gC:=N0 hD tE hc;clear hc;cbv;refine⟨_,rfl,rfl,by subst hD;exact gC.le,λr hr=>?_⟩;have bZ:r=Eu c:=by subst hD;exact hr
  clear hr;cbv;refine br hD (λh=>?_) (λh=>?_)<;>cbv
  .have h:(decide ((s.length:Int)<=ST.den (.l 1))||r==0)=true:=h
   rw[tE,bZ]at h;refine Bj hD ?_;rw[aY,Oq (Ag7 gC h)];rfl
  have h:(decide ((s.length:Int)<=ST.den (.l 1))||r==0)=false:=h;rw[tE,bZ]at h;obtain⟨aC,hp⟩:=RQ gC h;clear h;refine⟨by subst hD;exact Qp tE aC,λc' lI=>?_⟩;have lH:c'=c:=by have:=N0 hD tE lI;rw[this.h,gC.h]
  subst lH;clear lI;cbv;refine br hD (λh=>?_) (λh=>?_)<;>cbv
  .have oX:c'=34:=by have h:(c'==34)=true:=h;simpa using h
   refine Bj hD ?_;rw[aY,Xw aC hp (by rw[<-gC.aG];exact oX)];exact rfl
  have oX:aG s (0+1)≠34:=by rw[<-gC.aG];have h:(c'==34)=false:=h;simpa using h
  clear h;refine br hD (λh=>?_) (λh=>?_)<;>cbv
  .have oc:aG s (0+1)=92:=by rw[<-gC.aG];have h:(c'==92)=true:=h;simpa using h
   clear h;have lV:ST.den (.l 2)=((0+2:Nat):Int):=rfl;refine⟨λhg=>?_,λd hd=>?_⟩
   .subst hD;exact Qp lV (by have hg:(!decide ((s.length:Int)<=ST.den (.l 2)))=true:=hg;rw[lV]at hg;simp only[XL,QJ]at hg;omega)
   have rJ:=N0 hD lV hd;clear hd;cbv;refine⟨_,rfl,rfl,by subst hD;exact rJ.le,λq hq=>?_⟩;have dC:q=Eu d:=by subst hD;exact hq
   clear hq;cbv;refine br hD (λh=>?_) (λh=>?_)<;>cbv
   .have h:(decide ((s.length:Int)<=ST.den (.l 2))||q==0)=true:=h
    rw[lV,dC]at h;refine Bj hD ?_;rw[aY,Oq (Ab1 aC hp oc (Ab0 rJ h))];rfl
   have h:(decide ((s.length:Int)<=ST.den (.l 2))||q==0)=false:=h;rw[lV,dC]at h;obtain⟨eS,pU⟩:=RQ rJ h;refine⟨s.length-(0+2),?_⟩;rw[hJ];subst hD;exact⟨0+2,_,rfl,rfl,⟨lV,.inl eS,rfl,hl⟩,by rw[aY,Ag9 aC hp oc eS pU]⟩
  .have oc:aG s (0+1)≠92:=by rw[<-gC.aG];have h:(c'==92)=false:=h;simpa using h
   refine⟨s.length-(0+1),?_⟩;rw[hJ];subst hD;exact⟨0+1,_,rfl,rfl,⟨tE,.inl aC,rfl,hl⟩,by rw[aY,Ab2 aC hp oX oc]⟩
 .intro m vs mA hv
  rw[hJ]at hv;unfold Ag6 at hv;obtain⟨i,I,kR,hhp,V,aY⟩:=hv;rw[kR,hhp];clear kR hhp vs mA hk;cbv;have tE:ST.den (.bin .add .i64 (.a I) (.l 1))=((i+1:Nat):Int):=V.one;refine⟨λhg=>?_,λc hc=>?_⟩
  .subst hD;exact Qp tE (by have hg:(!decide ((s.length:Int)<=ST.den (.bin .add .i64 (.a I) (.l 1))))=true:=hg;rw[tE]at hg;simp only[XL,QJ]at hg;omega)
  have gC:=N0 hD tE hc;clear hc;cbv;refine⟨_,rfl,rfl,by subst hD;exact gC.le,λr hr=>?_⟩;have bZ:r=Eu c:=by subst hD;exact hr
  clear hr;cbv;refine br hD (λh=>?_) (λh=>?_)<;>cbv
  .have h:(decide ((s.length:Int)<=ST.den (.bin .add .i64 (.a I) (.l 1)))||r==0)=true:=h
   rw[tE,bZ]at h;refine Bj hD ?_;rw[aY,Oq (Ag7 gC h)];rfl
  have h:(decide ((s.length:Int)<=ST.den (.bin .add .i64 (.a I) (.l 1)))||r==0)=false:=h;rw[tE,bZ]at h;obtain⟨aC,hp⟩:=RQ gC h;clear h;refine⟨by subst hD;exact Qp tE aC,λc' lI=>?_⟩;have lH:c'=c:=by have:=N0 hD tE lI;rw[this.h,gC.h]
  subst lH;clear lI;cbv;refine br hD (λh=>?_) (λh=>?_)<;>cbv
  .have oX:c'=34:=by have h:(c'==34)=true:=h;simpa using h
   refine Bj hD ?_;rw[aY,Xw aC hp (by rw[<-gC.aG];exact oX)];exact V.two aC
  have oX:aG s (i+1)≠34:=by rw[<-gC.aG];have h:(c'==34)=false:=h;simpa using h
  clear h;refine br hD (λh=>?_) (λh=>?_)<;>cbv
  .have oc:aG s (i+1)=92:=by rw[<-gC.aG];have h:(c'==92)=true:=h;simpa using h
   clear h;have lV:ST.den (.bin .add .i64 (.bin .add .i64 (.a I) (.l 1)) (.l 1))=((i+2:Nat):Int):=V.two aC;refine⟨λhg=>?_,λd hd=>?_⟩
   .subst hD;exact Qp lV (by have hg:(!decide ((s.length:Int)<=ST.den (.bin .add .i64 (.bin .add .i64 (.a I) (.l 1)) (.l 1))))=true:=hg;rw[lV]at hg;simp only[XL,QJ]at hg;omega)
   have rJ:=N0 hD lV hd;clear hd;cbv;refine⟨_,rfl,rfl,by subst hD;exact rJ.le,λq hq=>?_⟩;have dC:q=Eu d:=by subst hD;exact hq
   clear hq;cbv;refine br hD (λh=>?_) (λh=>?_)<;>cbv
   .have h:(decide ((s.length:Int)<=ST.den (.bin .add .i64 (.bin .add .i64 (.a I) (.l 1)) (.l 1)))||q==0)=true:=h
    rw[lV,dC]at h;refine Bj hD ?_;rw[aY,Oq (Ab1 aC hp oc (Ab0 rJ h))];rfl
   have h:(decide ((s.length:Int)<=ST.den (.bin .add .i64 (.bin .add .i64 (.a I) (.l 1)) (.l 1)))||q==0)=false:=h;rw[lV,dC]at h;obtain⟨eS,pU⟩:=RQ rJ h;refine⟨s.length-(i+2),by have:=V.m;omega,?_⟩;rw[hJ];subst hD;exact⟨i+2,_,rfl,rfl,⟨lV,.inl eS,rfl,hl⟩,by rw[aY,Ag9 aC hp oc eS pU]⟩
  .have oc:aG s (i+1)≠92:=by rw[<-gC.aG];have h:(c'==92)=false:=h;simpa using h
   refine⟨s.length-(i+1),by have:=V.m;omega,?_⟩;rw[hJ];subst hD;exact⟨i+1,_,rfl,rfl,⟨tE,.inl aC,rfl,hl⟩,by rw[aY,Ab2 aC hp oX oc]⟩
theorem At.den{s:List UInt8}{i:Nat}{I:Int}{m:Nat}(V:At s i I m):ST.den (.a I)=(i:Int):=V.I
theorem Od{j:Nat}{a b:ST}(ha:a.den=(i:Int))(hb:b.den=(j:Int))(h:i<=j)(h2:j<=s.length):LW (dn.i a) (dn.i b) s:=⟨by show 0<=a.den;omega,by show a.den<=b.den;omega,by show b.den<=_;omega⟩
def Aoe(c:Int):Bool:=c==9||c==32
def iV(c:UInt8):Bool:=Aoe (c.toNat:Int)
def Kz(s:List UInt8):List UInt8:=s.dropWhile iV
def Oc(s:List UInt8):List UInt8:=(s.reverse.dropWhile iV).reverse
def trimF(s:List UInt8):List UInt8:=Oc (Kz s)
theorem Tp{c:UInt8}(h:iV c=true):Kz (c :: r)=Kz r:=by
 rw[Kz,YU h];rfl
theorem Ts(hD:D=dn){j:Nat}{a b:ST}(ha:a.den=(i:Int))(hb:b.den=(j:Int))(hr:uy r s (D.i a) (D.i b)):r=(s.drop i).take (j-i):=by
 subst hD;have hr:=hr.h;have e1:dn.i a=(i:Int):=ha;have e2:dn.i b=(j:Int):=hb;rw[hr,e1,e2,ZY,ZY]
def Alj(F:List UInt8->List UInt8):aB:=λ_ xs ls K=>∃(s:List UInt8),xs=[.str s]/\ls=[]/\s.length<=9223372036854775807/\∀r,r=F s->K (.str r) []
theorem AA{k:List UInt8}(h:r=k):Fin (.str r) (.str k) [] []:=by subst h;exact Cm (aM.refl _)
def Cz(p:Int->Bool)(y:Int):List UInt8->Nat->List UInt8->Option (List (List UInt8))
 | [],md,cur=>if md=0 then some [cur] else none
 |c :: r,md,cur =>
  if !p (c.toNat:Int) then none
  else if md=0 then
   (if (c.toNat:Int)=34 then Cz p y r 1 (cur++[c])
    else if (c.toNat:Int)=y then (Cz p y r 0 []).map (cur :: ·)
    else Cz p y r 0 (cur++[c]))
  else if md=1 then
   (if (c.toNat:Int)=34 then Cz p y r 0 (cur++[c])
    else if (c.toNat:Int)=92 then Cz p y r 2 (cur++[c])
    else Cz p y r 1 (cur++[c]))
  else Cz p y r 1 (cur++[c])
theorem Uf(p:Int->Bool)(y:Int):∀(n:Nat) (r cur:List UInt8),r.length<=n->Cz p y r 1 cur=match iX p r with
  |none=>none
  |some x=>Cz p y (r.drop x.1) 0 (cur++r.take x.1)
 |n,[],cur,_=>by simp[Cz,iX]
 |0,c :: r,cur,h=>by simp at h
 |n+1,c :: r,cur,h=>by
  simp only[QH]at h;rw[E6];simp only[Cz]
  by_cases h1:p (c.toNat:Int)=true
  .rw[h1]
   simp only[YK,XE,if_false,if_true,Nat.one_ne_zero]
   by_cases h2:(c.toNat:Int)=34
   .simp only[QC h2,UR,ZT,YE,List.take_zero]
   .simp only[QA h2]
    by_cases h3:(c.toNat:Int)=92
    .simp only[QC h3]
     cases r with
     |nil=>simp[Cz]
     |cons d r' =>
      simp only[Cz]
      by_cases h4:p (d.toNat:Int)=true
      .rw[h4]
       simp only[YK,XE,if_false,(by decide:¬(2:Nat)=0),(by decide:¬(2:Nat)=1)];rw[Uf p y n r' _ (by simp at h;omega)];cases iX p r' with
       |none=>rfl
       |some x=>simp
      .have h4:p (d.toNat:Int)=false:=by simpa using h4
       rw[h4];simp
    .simp only[QA h3]
     rw[Uf p y n r _ (by omega)];cases iX p r with
     |none=>rfl
     |some x=>simp
  .have h1:p (c.toNat:Int)=false:=by simpa using h1
   rw[h1];simp
def cut(s:List UInt8)(a b:Nat):List UInt8:=(s.drop a).take (b-a)
theorem Adq(h:i<s.length)(ha:a<=i):cut s a i++[s.getD i 0]=cut s a (i+1):=by
 unfold cut;rw[show i+1-a=(i-a)+1 by omega,UA];congr 1;rw[XG,show a+(i-a)=i by omega,QB h,Tc h];rfl
theorem o4{n:Nat}(ha:a<=i):cut s a i++(s.drop i).take n=cut s a (i+n):=by
 unfold cut;rw[show i+n-a=(i-a)+n by omega,List.take_add,ZD,show a+(i-a)=i by omega]
theorem Adr:cut s a a=[]:=by simp[cut]
theorem o5:cut s a s.length=s.drop a:=by
 unfold cut;exact XJ (by simp)
def qJ(y:Int)(s:List UInt8)(out:List (List UInt8))(a i:Nat):Option (List (List UInt8)):=(Cz Ea y (s.drop i) 0 (cut s a i)).map (out++·)
theorem j9{out:List (List UInt8)}(h:i<s.length)(hb:Ea (aG s i)=false):qJ y s out a i=none:=by
 unfold aG at hb;rw[qJ,drop_at h,Cz,hb];rfl
theorem j7{out:List (List UInt8)}(h:i<s.length)(hb:Ea (aG s i)=true)(oX:aG s i≠34)(hy:aG s i=y):qJ y s out a i=qJ y s (out++[cut s a i]) (i+1) (i+1):=by
 unfold aG at hb oX hy;rw[qJ,qJ,drop_at h,Cz,hb,Adr];simp only[YK,XE,if_false,if_true,QA oX,QC hy];cases Cz Ea y (s.drop (i+1)) 0 []<;>simp
theorem Amf{out:List (List UInt8)}(h:i<s.length)(ha:a<=i)(hb:Ea (aG s i)=true)(oX:aG s i≠34)(hy:aG s i≠y):qJ y s out a i=qJ y s out a (i+1):=by
 have e:=Adq h ha;unfold aG at hb oX hy;rw[qJ,qJ,drop_at h,Cz,hb];simp only[YK,XE,if_false,if_true,QA oX,QA hy];rw[e]
theorem Ajc{out:List (List UInt8)}(h:i<s.length)(ha:a<=i)(hb:Ea (aG s i)=true)(oX:aG s i=34):qJ y s out a i=match iX Ea (s.drop (i+1)) with
  |none=>none
  |some x=>qJ y s out a (i+1+x.1):=by
 have e:=Adq h ha;unfold aG at hb oX;rw[qJ,drop_at h,Cz,hb];simp only[YK,XE,if_false,if_true,QC oX];rw[e,Uf Ea y _ _ _ (QK _)];cases iX Ea (s.drop (i+1)) with
 |none=>rfl
 |some x =>
  simp only[qJ];rw[ZD,o4 (by omega)]
theorem j8{out:List (List UInt8)}(h:i=s.length):qJ y s out a i=some (out++[s.drop a]):=by
 rw[qJ,h,XR,o5];rfl
theorem Zl{p:Int->Bool}:∀(n:Nat) (r:List UInt8) (x:Nat×List UInt8),r.length<=n->iX p r=some x->0<x.1/\x.1<=r.length
 |n,[],x,_,h=>by simp[iX]at h
 |0,c :: r,x,hl,h=>by simp at hl
 |n+1,c :: r,x,hl,h=>by
  simp only[QH]at hl ⊢;rw[E6]at h
  split at h
  .cases h
  split at h
  .cases h;exact⟨by omega,by simp⟩
  split at h
  .cases r with
   |nil=>cases h
   |cons d r' =>
    simp only at h
    split at h
    .cases h
    .obtain⟨z,hz,rfl⟩:=Option.map_eq_some_iff.1 h
     have:=Zl n r' z (by simp at hl;omega) hz;simp only[QH];omega
  .obtain⟨z,hz,rfl⟩:=Option.map_eq_some_iff.1 h
   have:=Zl n r z (by omega) hz;omega
theorem Dp.more{g:Nat->List SV}{n n':Int}{a:List (List UInt8)}{x:List UInt8}(R:Dp f n a)(hg:g 0=[.str x])(h:Mw f' n' n 1 f g)(hl:a.length<9223372036854775807):Dp f' n' (a++[x]):=by
 have h1:=R.n;refine⟨by rw[h.len,h1];simp,λi hi=>?_,by simp;omega⟩;simp only[QF,List.length_singleton]at hi
 by_cases e:i<a.length
 .rw[h.lo i (by omega),R.f i e,QD,QD,QM e]
 .have:i=a.length:=by omega
  subst this;rw[h.hi a.length 0 (by rw[h1];simp) (by simp),hg];simp
theorem Dp.nil:Dp (λ_=>[]) 0 []:=⟨rfl,by simp,by simp⟩
def Fc(l:List (List UInt8))(i:Nat):List SV:=[.str (l.getD i [])]
theorem Dp.row(h:l.length<=9223372036854775807):Dp (Fc l) l.length l:=⟨rfl,λ_ _=>rfl,h⟩
def Nm(y:Int)(s:List UInt8):Option (List (List UInt8)):=Cz Ea y s 0 []
theorem Nl(p:Int->Bool)(y:Int):∀(r:List UInt8) (md:Nat) (cur:List UInt8) (l:List (List UInt8)),Cz p y r md cur=some l->l.length<=r.length+1/\0<l.length/\∀x∈l,x.length<=cur.length+r.length
 | [],md,cur,l,h=>by
  simp only[Cz]at h
  split at h
  .cases h;simp
  .cases h
 |c :: r,md,cur,l,h=>by
  have push:∀TM,Cz p y r TM (cur++[c])=some l->l.length<=(c :: r).length+1/\0<l.length/\∀x∈l,x.length<=cur.length+(c :: r).length:=by
   intro TM h;obtain⟨h1,h2,h3⟩:=Nl p y r TM _ l h;refine⟨by simp;omega,h2,λx hx=>?_⟩;have:=h3 x hx;simp at this ⊢;omega
  simp only[Cz]at h
  split at h
  .cases h
  split at h
  .split at h
   .exact push _ h
   .split at h
    .obtain⟨l',h',rfl⟩:=Option.map_eq_some_iff.1 h
     obtain⟨h1,h2,h3⟩:=Nl p y r 0 [] l' h';refine⟨by simp;omega,by simp,λx hx=>?_⟩;rcases List.mem_cons.1 hx with rfl|hx
     .simp
     .have:=h3 x hx;simp at this ⊢;omega
    .exact push _ h
  .split at h
   .split at h
    .exact push _ h
    .split at h
     .exact push _ h
     .exact push _ h
   .exact push _ h
theorem Ug(h:Nm y s=some l):l.length<=s.length+1/\0<l.length/\∀x∈l,x.length<=s.length:=by
 have:=Nl _ _ _ _ _ _ h;simpa using this
theorem M9{p:UInt8->Bool}(s:List UInt8):(s.dropWhile p).length<=s.length:=by
 induction s with
 |nil=>simp
 |cons c r ih =>
  rw[List.dropWhile_cons]
  split
  .simp;omega
  .simp
theorem Air(s:List UInt8):(trimF s).length<=s.length:=by
 unfold trimF Oc Kz;rw[List.length_reverse];refine XP (M9 _) ?_;rw[List.length_reverse];exact M9 _
def gd(x:List UInt8):Bool:=!(x==[])
def Rw(l:List (List UInt8)):List (List UInt8):=(l.map trimF).filter gd
def A5(s:List UInt8):List (List UInt8)×Int :=
 if 2000<(s.length:Int) then ([],3) else match Nm 44 s with
  |none=>([],6)
  |some l=>(Rw l,0)
theorem Dr(s:List UInt8):(A5 s).1.length<=2001/\∀x∈(A5 s).1,x.length<=2000:=by
 unfold A5
 split
 .simp
 .rename_i h
  cases hp:Nm 44 s with
  |none=>simp
  |some l =>
   obtain⟨h1,h2,h3⟩:=Ug hp;have h4:(Rw l).length<=l.length:=by
    unfold Rw;refine XP (YV _ _) (by simp)
   refine⟨by show (Rw l).length<=_;omega,λx hx=>?_⟩;have hx:x∈Rw l:=hx;unfold Rw at hx;obtain⟨z,hz,rfl⟩:=List.mem_map.1 (List.mem_filter.1 hx).1;have:=Air z;have:=h3 z hz;omega
def Agy(F:List UInt8->List (List UInt8)×Int)(N:List UInt8->Bool):aB:=λ_ xs ls K=>∃(s:List UInt8),xs=[.str s]/\ls=[]/\s.length<=9223372036854775807/\∀l e n nb,(l,e)=F s->n=(l.length:Int)->nb=N s->K (.aI [.sl (.a nb) (.a n) 1 (Fc l),.int .i64 (.a e)]) []
theorem Anp(hD:D=dn){l':List (List UInt8)}{ke kn e':Int}{uC:Bool}{kr:Nat->List SV}(hk:(l,ke)=(l',e'))(kU:kn=(l.length:Int))(xA:kr=Fc l)
  {n:Int} (R:Dp f n l') {x:BT} {y z:ST} (hy:y.den=n) (hx:x.den=uC) (hz:z.den=e'):Fin (.aI [.sl (.a (D.b x)) (.a (D.i y)) 1 f,.int .i64 (.a (D.i z))]) (.aI [.sl (.a uC) (.a kn) 1 kr,.int .i64 (.a ke)]) [] []:=by
 subst hD;simp only[Prod.mk.injEq]at hk;obtain⟨rfl,rfl⟩:=hk;refine Cm (.aI (.cons (.sl hx ?_ ?_) (.cons (Af hz) .nil)))
 .rw[kU];show y.den=_;rw[hy];exact R.n
 .intro i hi
  have hi:(i:Int)<y.den:=hi;rw[R.f i (by have:=R.n;omega),xA];rfl
set_option maxRecDepth 100000
theorem Am7:∀n:Fin 256,K1 (n.1:Int)=Ea (n.1:Int)/\(Eu (n.1:Int)==3)=lk (n.1:Int):=by decide
theorem Ty(c:UInt8):K1 (c.toNat:Int)=Ea (c.toNat:Int):=(Am7 ⟨c.toNat,c.toNat_lt⟩).1
theorem P7{p q:Int->Bool}(h:∀c:UInt8,p (c.toNat:Int)=q (c.toNat:Int)):∀(n:Nat) (r:List UInt8),r.length<=n->iX p r=iX q r
 |_,[],_=>rfl
 |0,c :: r,hl=>by simp at hl
 |n+1,c :: r,hl=>by
  simp only[QH]at hl;rw[E6,E6,h c,P7 h n r (by omega)];cases r with
  |nil=>rfl
  |cons d r' =>
   simp only;rw[h d,P7 h n r' (by simp at hl;omega)]
theorem Al6(r:List UInt8):iX K1 r=iX Ea r:=P7 Ty _ r (QK _)
set_option maxRecDepth 10000
end Go.Proofs.YtdoogdbjiijifaaGreatDoor
