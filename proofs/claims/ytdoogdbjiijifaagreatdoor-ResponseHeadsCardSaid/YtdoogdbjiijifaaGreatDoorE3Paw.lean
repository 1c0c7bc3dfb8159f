/- Part of the proofs of the statements about responses and messages (layers 9 and 10): a symbolic executor over the code, that it is sound, and contracts of functions; it has no conditions of its own. -/
import Derived.Lib.ItoaNum
import Derived.Test.YtdoogdbjiijifaaGreatDoorProg
import Derived.Test.YtdoogdbjiijifaaGreatDoorE3Pav
namespace Go.Proofs.YtdoogdbjiijifaaGreatDoor
open Go.Sx
set_option maxRecDepth 10000
def tt:List (Nat×TI):=[
 (2,⟨.int .i64,1,8,[.int .i64 (.l 0)]⟩),
 (3,⟨.int .i64,1,8,[.int .i64 (.l 0)]⟩),
 (4,⟨.bool,1,1,[.bool (.l false)]⟩),
 (5,⟨.int .u8,1,1,[.int .u8 (.l 0)]⟩),
 (9,⟨.string,1,16,[.str []]⟩),
 (28,⟨.int .i64,1,8,[.int .i64 (.l 0)]⟩),
 (22,⟨.slice 5,1,24,[(.sl (.l true) (.l 0) 1 λ_=>[])]⟩),
 (23,⟨.slice 100,1,24,[(.sl (.l true) (.l 0) 2 λ_=>[])]⟩),
 (100,⟨.struct [(0,9),(1,9)],2,32,[.str [],.str []]⟩),
 (111,⟨.slice 9,1,24,[(.sl (.l true) (.l 0) 1 λ_=>[])]⟩),
 (55,⟨.struct [(0,2),(1,9),(2,9),(3,9),(4,23),(5,9)],6,96,[.int .i64 (.l 0),.str [],.str [],.str [],(.sl (.l true) (.l 0) 2 λ_=>[]),.str []]⟩),
 (36,⟨.struct [(0,3),(1,9),(2,9),(3,3),(4,23)],5,72,[.int .i64 (.l 0),.str [],.str [],.int .i64 (.l 0),(.sl (.l true) (.l 0) 2 λ_=>[])]⟩),
 (25,⟨.struct [(0,3),(1,3),(2,9),(3,23)],4,56,[.int .i64 (.l 0),.int .i64 (.l 0),.str [],(.sl (.l true) (.l 0) 2 λ_=>[])]⟩),
 (38,⟨.struct [(0,9),(1,3),(2,3),(3,9),(4,25),(8,3),(9,9),(10,3),(11,36)],16,208,[.str [],.int .i64 (.l 0),.int .i64 (.l 0),.str [],.int .i64 (.l 0),.int .i64 (.l 0),.str [],(.sl (.l true) (.l 0) 2 λ_=>[]),.int .i64 (.l 0),.str [],.int .i64 (.l 0),.int .i64 (.l 0),.str [],.str [],.int .i64 (.l 0),(.sl (.l true) (.l 0) 2 λ_=>[])]⟩),
 (45,⟨.struct [(0,25),(4,3),(5,9),(6,23),(7,4)],8,112,[.int .i64 (.l 0),.int .i64 (.l 0),.str [],(.sl (.l true) (.l 0) 2 λ_=>[]),.int .i64 (.l 0),.str [],(.sl (.l true) (.l 0) 2 λ_=>[]),.bool (.l false)]⟩),
 (97,⟨.int .u16,1,2,[.int .u16 (.l 0)]⟩),
 (88,⟨.slice 97,1,24,[(.sl (.l true) (.l 0) 1 λ_=>[])]⟩),
 (265,⟨.struct [(0,9),(1,4),(2,4),(3,4)],4,24,[.str [],.bool (.l false),.bool (.l false),.bool (.l false)]⟩),
 (178,⟨.pointer 180,1,8,[.nilp]⟩),
 (180,⟨.struct [(0,178),(1,22)],2,32,[.nilp,(.sl (.l true) (.l 0) 1 λ_=>[])]⟩),
 (157,⟨.iface,1,16,[.raw .nilIface]⟩),
 (314,⟨.map 9 4,1,8,[.raw (.map none)]⟩)]
def eqs:List TypeId:=[100]
def Amh(_:Nat):List SV:=[.ifc (.l false)]
def Akp(i:Nat):List SV:=[.int .u64 (.a (Go.Lib.pow10Tab.getD i 0))]
def gl:List (Nat×SV):=[(3,.rarr 1 1 Amh),(4,.rarr 20 1 Akp)]
theorem Al5{f:Go.FuncId}{sp:FSpec}(h:Ay Tryz.prog [] f sp):Ay Tryz.prog gl f sp :=
 ⟨h.1,λxs ls K hs=>let ⟨r,ls',hk,hc⟩:=h.2 xs ls K hs;⟨r,ls',hk,λB E w vals a b c d _=>hc B E w vals a b c d (λ_ _ hh=>nomatch hh)⟩⟩
theorem tt_ok:ttB Tryz.prog tt=true:=by kernel_rfl
theorem mixed:Tryz.prog.follows .mixedOrders=true:=by kernel_rfl
theorem B4{tab:List (Nat×FSpec)}{gl:List (Nat×SV)}{gh:List (Nat×List Gh)}{its:List (Nat×(FSpec->FSpec))}{yl:List FSpec}:A1 Tryz.prog ⟨dn,tt,tab,gl,eqs,gh,its,yl⟩:=by
 refine⟨rfl,tt_ok,λt ht=>?_⟩;simp only[eqs,List.mem_cons,List.mem_nil_iff,or_false]at ht;rcases ht with rfl
 all_goals
  refine⟨?_,?_,?_⟩
  ·kernel_rfl
  ·kernel_rfl
  ·decide
def ttR:List (Nat×TI):=[
 (2,⟨.int .i64,1,8,[.int .i64 (.l 0)]⟩),
 (3,⟨.int .i64,1,8,[.int .i64 (.l 0)]⟩),
 (4,⟨.bool,1,1,[.bool (.l false)]⟩),
 (5,⟨.int .u8,1,1,[.int .u8 (.l 0)]⟩),
 (9,⟨.string,1,16,[.str []]⟩),
 (28,⟨.int .i64,1,8,[.int .i64 (.l 0)]⟩),
 (22,⟨.slice 5,1,24,[(.sl (.l true) (.l 0) 1 λ_=>[])]⟩),
 (23,⟨.slice 100,1,24,[(.sl (.l true) (.l 0) 2 λ_=>[])]⟩),
 (100,⟨.struct [(0,9),(1,9)],2,32,[.str [],.str []]⟩),
 (111,⟨.slice 9,1,24,[(.sl (.l true) (.l 0) 1 λ_=>[])]⟩),
 (55,⟨.struct [(0,2),(1,9),(2,9),(3,9),(4,23),(5,9)],6,96,[.int .i64 (.l 0),.str [],.str [],.str [],(.sl (.l true) (.l 0) 2 λ_=>[]),.str []]⟩),
 (36,⟨.struct [(0,3),(1,9),(2,9),(3,3),(4,23)],5,72,[.int .i64 (.l 0),.str [],.str [],.int .i64 (.l 0),(.sl (.l true) (.l 0) 2 λ_=>[])]⟩),
 (25,⟨.struct [(0,3),(1,3),(2,9),(3,23)],4,56,[.int .i64 (.l 0),.int .i64 (.l 0),.str [],(.sl (.l true) (.l 0) 2 λ_=>[])]⟩),
 (38,⟨.struct [(0,9),(1,3),(2,3),(3,9),(4,25),(8,3),(9,9),(10,3),(11,36)],16,208,[.str [],.int .i64 (.l 0),.int .i64 (.l 0),.str [],.int .i64 (.l 0),.int .i64 (.l 0),.str [],(.sl (.l true) (.l 0) 2 λ_=>[]),.int .i64 (.l 0),.str [],.int .i64 (.l 0),.int .i64 (.l 0),.str [],.str [],.int .i64 (.l 0),(.sl (.l true) (.l 0) 2 λ_=>[])]⟩),
 (45,⟨.struct [(0,25),(4,3),(5,9),(6,23),(7,4)],8,112,[.int .i64 (.l 0),.int .i64 (.l 0),.str [],(.sl (.l true) (.l 0) 2 λ_=>[]),.int .i64 (.l 0),.str [],(.sl (.l true) (.l 0) 2 λ_=>[]),.bool (.l false)]⟩),
 (97,⟨.int .u16,1,2,[.int .u16 (.l 0)]⟩),
 (88,⟨.slice 97,1,24,[(.sl (.l true) (.l 0) 1 λ_=>[])]⟩),
 (265,⟨.struct [(0,9),(1,4),(2,4),(3,4)],4,24,[.str [],.bool (.l false),.bool (.l false),.bool (.l false)]⟩),
 (178,⟨.pointer 180,1,8,[.nilp]⟩),
 (180,⟨.struct [(0,178),(1,22)],2,32,[.nilp,(.sl (.l true) (.l 0) 1 λ_=>[])]⟩),
 (220,⟨.struct [(0,36),(5,22),(6,22),(7,3),(8,3)],9,136,[.int .i64 (.l 0),.str [],.str [],.int .i64 (.l 0),(.sl (.l true) (.l 0) 2 λ_=>[]),(.sl (.l true) (.l 0) 1 λ_=>[]),(.sl (.l true) (.l 0) 1 λ_=>[]),.int .i64 (.l 0),.int .i64 (.l 0)]⟩),
 (214,⟨.pointer 220,1,8,[.nilp]⟩),
 (217,⟨.other,1,8,[.raw .nilFunc]⟩),
 (218,⟨.array 4 217,4,32,[.raw .nilFunc,.raw .nilFunc,.raw .nilFunc,.raw .nilFunc]⟩),
 (125,⟨.struct [(0,38),(16,22),(17,22)],18,256,[.str [],.int .i64 (.l 0),.int .i64 (.l 0),.str [],.int .i64 (.l 0),.int .i64 (.l 0),.str [],(.sl (.l true) (.l 0) 2 λ_=>[]),.int .i64 (.l 0),.str [],.int .i64 (.l 0),.int .i64 (.l 0),.str [],.str [],.int .i64 (.l 0),(.sl (.l true) (.l 0) 2 λ_=>[]),(.sl (.l true) (.l 0) 1 λ_=>[]),(.sl (.l true) (.l 0) 1 λ_=>[])]⟩),
 (123,⟨.pointer 125,1,8,[.nilp]⟩),
 (126,⟨.other,1,8,[.raw .nilFunc]⟩),
 (27,⟨.other,1,8,[.raw .nilFunc]⟩),
 (117,⟨.slice 27,1,24,[(.sl (.l true) (.l 0) 1 λ_=>[])]⟩),
 (132,⟨.slice 3,1,24,[(.sl (.l true) (.l 0) 1 λ_=>[])]⟩),
 (182,⟨.slice 22,1,24,[(.sl (.l true) (.l 0) 1 λ_=>[])]⟩),
 (127,⟨.map 3 126,1,8,[.raw (.map none)]⟩),
 (157,⟨.iface,1,16,[.raw .nilIface]⟩),
 (314,⟨.map 9 4,1,8,[.raw (.map none)]⟩)]
theorem ttR_ok:Sx.ttB Tryz.prog ttR=true:=by kernel_rfl
theorem C6{tab:List (Nat×FSpec)}{gl:List (Nat×SV)}{gh:List (Nat×List Gh)}{its:List (Nat×(FSpec->FSpec))}{yl:List FSpec}:A1 Tryz.prog ⟨dn,ttR,tab,gl,eqs,gh,its,yl⟩:=by
 refine⟨rfl,ttR_ok,λt ht=>?_⟩;simp only[eqs,List.mem_cons,List.mem_nil_iff,or_false]at ht;rcases ht with rfl
 all_goals
  refine⟨?_,?_,?_⟩
  ·kernel_rfl
  ·kernel_rfl
  ·decide
set_option maxHeartbeats 2000000
def P4:List UInt8:=[48,48,48,48,48,48,48,48,48,50,48,48,48,48,48,48,48,48,48,48,48,48,48,48,48,48,48,48,48,48,48,48,50,51,49,51,51,51,51,51,49,49,51,51,49,51,51,49,51,51,51,51,51,51,51,51,51,51,49,49,49,49,49,49,49,51,51,51,51,51,51,51,51,51,51,51,51,51,51,51,51,51,51,51,51,51,51,51,51,51,51,49,49,49,51,51,51,51,51,51,51,51,51,51,51,51,51,51,51,51,51,51,51,51,51,51,51,51,51,51,51,51,51,49,51,49,51,48]
def Di(c:Int):Int:=if 128<=c then 0 else ((P4.getD c.toNat 48).toNat:Int)-48
def spKind:FSpec:=λ_ xs ls K=>∃(c:Int),xs=[.int .u8 (.a c)]/\ls=[]/\(0<=c/\c<=255)/\∀r,r=Di c->K (.int .i64 (.a r)) []
theorem Aie:∀i:Fin 128,48<=(P4.getD i.1 0).toNat/\(P4.getD i.1 0).toNat<=51/\P4.getD i.1 0=P4.getD i.1 48:=by decide
theorem Ajn{n:Int}(h1:0<=n)(h2:n<=255):IntKind.u8.wrap n=n:=IntWalk.u8_in _ ⟨by omega,by omega⟩
theorem Yp:Ay Tryz.prog gl 124 spKind:=by
 refine Bq (gh:=[]) mixed B4 Ai Tryz.func124 (by kernel_rfl) (by kernel_rfl) ?_;intro xs ls K h;unfold spKind at h;obtain⟨c,rfl,rfl,hb,h⟩:=h;obtain⟨k,hk⟩:∃k,k=Di c:=⟨_,rfl⟩;refine⟨_,_,h k hk,λD hD=>?_⟩;clear h;have w:IntKind.i64.wrap c=c:=A4 (by omega) (by omega);cbv;refine br hD (λh=>?_) (λh=>?_)<;>cbv
 ·refine Be hD ?_
  simp[w]at h;rw[hk,Di,if_pos h];rfl
 ·have hc:c<128:=by simp[BT.den,B9,ST.den,w]at h;omega
  clear h;refine⟨by subst hD;exact⟨hb.1,hc⟩,λc' hc'=>?_⟩;cbv;refine Be hD ?_;have e1:c'=((P4.getD c.toNat 0).toNat:Int):=by subst hD;exact hc'.h
  obtain⟨t1,t2,t3⟩:=Aie ⟨c.toNat,by omega⟩;simp only at t1 t2 t3;show IntKind.i64.wrap (IntKind.u8.wrap (c'-48))=k;rw[Ajn (by omega) (by omega),A4 (by omega) (by omega),hk,Di,if_neg (by omega),<-t3,e1]
def Bb(c:Int):Bool:=c==9||(decide (32<=c)&&decide (c<=126))
def spPlain:FSpec:=λ_ xs ls K=>∃(c:Int),xs=[.int .u8 (.a c)]/\ls=[]/\∀r,r=Bb c->K (.bool (.a r)) []
theorem Aah:Ay Tryz.prog gl 235 spPlain:=by
 refine Bq (gh:=[]) mixed B4 Ai Tryz.func235 (by kernel_rfl) (by kernel_rfl) ?_;intro xs ls K h;unfold spPlain at h;obtain⟨c,rfl,rfl,h⟩:=h;obtain⟨k,hk⟩:∃k,k=Bb c:=⟨_,rfl⟩;refine⟨_,_,h k hk,λD hD=>?_⟩;clear h;cbv;refine Aw hD ?_;rw[hk];simp[BT.den,B9,ST.den,Bb];rfl
structure Eu(c:Int)(s:List UInt8)(i:Nat):Prop where
 h:c=((s.getD i 0).toNat:Int)
theorem isJ{D:Dn}(hD:D=dn){j:Nat}{I:Int}(h:IsJ j (D.i (.a I))):(j:Int)=I:=by subst hD;exact h.h
structure TokI(s:List UInt8)(i:Nat)(I L:Int)(m:Nat):Prop where
 L:L=s.length
 le:i<=s.length
 I:I=i
 all:∀j:Nat,j<i->Di ((s.getD j 0).toNat:Int)=3
 m:m=s.length-i
def Bg(s:List UInt8):Bool:=(s.all λc=>Di (c.toNat:Int)==3)&&(decide (0<s.length)&&decide (s.length<=64))
theorem Ahb{s:List UInt8}{j:Nat}(hj:j<s.length)(h:Di ((s.getD j 0).toNat:Int)≠3):Bg s=false:=by
 unfold Bg;rw[Bool.and_eq_false_iff]
 left
 rw[List.all_eq_false];refine⟨s[j],List.getElem_mem hj,?_⟩;rw[List.getD_eq_getElem?_getD,List.getElem?_eq_getElem hj]at h;simpa using h
theorem Acw{s:List UInt8}(h:∀j:Nat,j<s.length->Di ((s.getD j 0).toNat:Int)=3):Bg s=(decide (0<s.length)&&decide (s.length<=64)):=by
 unfold Bg;have:(s.all λc=>Di (c.toNat:Int)==3)=true:=by
  rw[List.all_eq_true];intro c hc;obtain⟨j,hj,rfl⟩:=List.mem_iff_getElem.1 hc;have:=h j hj;rw[List.getD_eq_getElem?_getD,List.getElem?_eq_getElem hj]at this;simpa using this
 rw[this];simp
def spToken:FSpec:=λ_ xs ls K=>∃(s:List UInt8),xs=[.str s]/\ls=[]/\s.length<=9223372036854775807/\∀r,r=Bg s->K (.bool (.a r)) []
def tokJ(s:List UInt8)(f:Nat->List SV)(m:Nat)(vs:List (Option SV))(hp:List Hl):Prop :=
 ∃(i:Nat) (I L:Int),vs=[some (.str s),some (.sl (.a false) (.a L) 1 f),some (.int .i64 (.a L)),some (.int .i64 (.a I))]/\hp=[]/\TokI s i I L m
theorem Iz:Ay Tryz.prog gl 61 spToken:=by
 refine Bq (gh:=[]) mixed B4 (Ab Yp Ai) Tryz.func61 (by kernel_rfl) (by kernel_rfl) ?_;intro xs ls K h;unfold spToken at h;obtain⟨s,rfl,rfl,hl,h⟩:=h;obtain⟨k,hk⟩:∃k,k=Bg s:=⟨_,rfl⟩;refine⟨_,_,h k hk,λD hD=>?_⟩;clear h;cbv;refine⟨⟨hl⟩,λf hf=>?_⟩;cbv;obtain⟨J,hJ⟩:∃J,J=tokJ s f:=⟨_,rfl⟩;refine⟨[0,6,7,8],J,⟨rfl,s.length,?_⟩,?_⟩
 ·rw[hJ]
  subst hD;exact⟨0,0,_,rfl,rfl,⟨rfl,Nat.zero_le _,rfl,by omega,rfl⟩⟩
 intro m vs hp hv;rw[hJ]at hv;unfold tokJ at hv;obtain⟨i,I,L,rfl,rfl,V⟩:=hv;cbv;refine br hD (λh=>?_) (λh=>?_)<;>cbv
 ·have hlt:i<s.length:=by simp at h;have:=V.I;have:=V.L;omega
  clear h;refine⟨?_,λj hj=>?_⟩
  ·have:=V.I;have:=V.L;subst hD;exact⟨by simp[dn];omega,by simp[dn];omega⟩
  have hji:j=i:=by have:=isJ hD hj;have:=V.I;omega
  obtain⟨c,hc⟩:∃c:Int,c=((s.getD i 0).toNat:Int):=⟨_,rfl⟩;have hb:0<=c/\c<=255:=by have:=(s.getD i 0).toNat_lt;omega
  have hfj:f i=[.int .u8 (.a c)]:=by rw[hf.h,hc];rfl
  have hc:Eu c s i:=⟨hc⟩;subst hji;clear hj;cbv;rw[hfj];cbv;refine⟨_,rfl,rfl,by subst hD;exact hb,λr hr=>?_⟩;have hr:r=Di c:=by subst hD;exact hr
  cbv;refine br hD (λh=>?_) (λh=>?_)<;>cbv
  ·refine Aw hD ?_
   have:r≠3:=by simpa[BT.den,B9,ST.den] using h
   rw[hk,Ahb hlt (by rw[<-hc.h,<-hr];exact this)];rfl
  ·have h3:r=3:=by simpa[BT.den,B9,ST.den] using h
   refine⟨s.length-(j+1),by have:=V.m;omega,?_⟩;rw[hJ];subst hD;have hI:=V.I;refine⟨j+1,_,_,rfl,rfl,⟨V.L,by omega,?_,λq hq=>?_,rfl⟩⟩
   ·simp[dn]
    rw[A4 (by omega) (by omega)];omega
   ·by_cases hqj:q=j
    ·subst hqj
     rw[<-hc.h];exact hr.symm.trans h3
    ·exact V.all q (by omega)
 ·have hi:i=s.length:=by simp at h;have:=V.I;have:=V.L;have:=V.le;omega
  clear h;have hy:=Acw (s:=s) (λj hj=>V.all j (by omega));refine Aw hD ?_;rw[hk,hy];show (decide ((0:Int)<(s.length:Int))&&decide ((s.length:Int)<=64))=_;congr 1<;>exact decide_eq_decide.2 (by omega)
def Am2(p:Int->Bool)(s:List UInt8):Bool:=s.any λc=>p (c.toNat:Int)
structure IdxI(p:Int->Bool)(s:List UInt8)(i:Nat)(I L:Int)(m:Nat):Prop where
 L:L=s.length
 le:i<=s.length
 I:I=i
 all:∀j:Nat,j<i->p ((s.getD j 0).toNat:Int)=false
 m:m=s.length-i
theorem Ib{s:List UInt8}{j:Nat}(hj:j<s.length):s.getD j 0=s[j]:=by
 rw[List.getD_eq_getElem?_getD,List.getElem?_eq_getElem hj];rfl
structure RowB(f:Nat->List SV)(n:Int)(s:List UInt8):Prop where
 n:n=s.length
 f:f=byteRow s
 len:s.length<=9223372036854775807
structure AllI(p:Int->Bool)(s:List UInt8)(i:Nat)(I:Int)(m:Nat):Prop where
 le:i<=s.length
 I:I=i
 all:∀j:Nat,j<i->p ((s.getD j 0).toNat:Int)=true
 m:m=s.length-i
 len:s.length<=9223372036854775807
theorem Gk{D:Dn}(hD:D=dn){c I:Int}{s:List UInt8}{i:Nat}(hI:I=i)(h:Ae4 c s (D.i (.a I))):Eu c s i:=by
 subst hD;refine⟨?_⟩;have h:=h.h;show c=_;rw[h];show (((s.getD I.toNat 0).toNat:Nat):Int)=_;rw[hI,Int.toNat_natCast]
theorem Eu.le{c:Int}{s:List UInt8}{i:Nat}(h:Eu c s i):0<=c/\c<=255:=by
 have h1:=h.h;have:=(s.getD i 0).toNat_lt;omega
structure At(s:List UInt8)(i:Nat)(I:Int)(m:Nat):Prop where
 le:i<=s.length
 I:I=i
 m:m=s.length-i
 len:s.length<=9223372036854775807
theorem At.zero{s:List UInt8}(h:s.length<=9223372036854775807):At s 0 0 s.length:=⟨Nat.zero_le _,rfl,by omega,h⟩
theorem Bn{s:List UInt8}{i:Nat}(h:i<s.length):s.drop i=s.getD i 0 :: s.drop (i+1):=by
 rw[Ib h];exact List.drop_eq_getElem_cons h
theorem At.lt{s:List UInt8}{i:Nat}{I:Int}{m:Nat}(V:At s i I m)(h:I<(s.length:Int)):i<s.length:=by have:=V.I;omega
theorem At.eq{s:List UInt8}{i:Nat}{I:Int}{m:Nat}(V:At s i I m)(h:¬I<(s.length:Int)):i=s.length:=by have:=V.I;have:=V.le;omega
theorem At.inS{D:Dn}(hD:D=dn){s:List UInt8}{i:Nat}{I:Int}{m:Nat}(V:At s i I m)(h:i<s.length):InS (D.i (.a I)) s:=by
 have:=V.I;subst hD;exact⟨by show 0<=I;omega,by show I<s.length;omega⟩
theorem At.step{D:Dn}(hD:D=dn){s:List UInt8}{i:Nat}{I:Int}{m:Nat}(V:At s i I m)(h:i<s.length):s.length-(i+1)<m/\At s (i+1) (D.i (.bin .add .i64 (.a I) (.l 1))) (s.length-(i+1)):=by
 have h1:=V.I;have h2:=V.len;have h3:=V.m;subst hD;refine⟨by omega,by omega,?_,rfl,h2⟩;show IntKind.i64.wrap (I+1)=_;rw[A4 (by omega) (by omega)];omega
theorem Eu.of{c:Int}{s:List UInt8}{i:Nat}(h:Eu c s i):((s.getD i 0).toNat:Int)=c:=h.h.symm
def lettersL:List UInt8:=[33,35,36,37,38,39,42,43,45,46,94,95,96,124,126]
def Adm(c:Int):Bool:=((decide (97<=c)&&decide (c<=122))||(decide (65<=c)&&decide (c<=90)))||(decide (48<=c)&&decide (c<=57))
def letterI(c:Int):Bool:=Adm c||Am2 (λx=>x==c) lettersL
theorem Ajf{p:Int->Bool}{s:List UInt8}{i:Nat}(h:i<s.length):Am2 p (s.drop i)=(p ((s.getD i 0).toNat:Int)||Am2 p (s.drop (i+1))):=by
 rw[Bn h];rfl
theorem Am1{p:Int->Bool}{s:List UInt8}{i:Nat}(h:i=s.length):Am2 p (s.drop i)=false:=by
 rw[h,List.drop_length];rfl
def letJ(c:Int)(k:Bool)(s:List UInt8)(m:Nat)(vs:List (Option SV))(hp:List Hl):Prop :=
 ∃(i:Nat) (I:Int),vs=[some (.int .u8 (.a c)),some (.str s),some (.int .i64 (.a I))]/\hp=[]/\At s i I m/\k=Am2 (λx=>x==c) (s.drop i)
def spLetter:FSpec:=λ_ xs ls K=>∃(c:Int),xs=[.int .u8 (.a c)]/\ls=[]/\∀r,r=letterI c->K (.bool (.a r)) []
theorem Aia:Ay Tryz.prog gl 129 spLetter:=by
 refine Bq (gh:=[]) mixed B4 Ai Tryz.func129 (by kernel_rfl) (by kernel_rfl) ?_;intro xs ls K h;unfold spLetter at h;obtain⟨c,rfl,rfl,h⟩:=h;obtain⟨k,hk⟩:∃k,k=letterI c:=⟨_,rfl⟩;refine⟨_,_,h k hk,λD hD=>?_⟩;clear h;cbv;refine br hD (λh=>?_) (λh=>?_)<;>cbv
 ·refine Aw hD ?_
  have h2:Adm c=true:=h;rw[hk,letterI,h2];rfl
 have hr:Adm c=false:=h;clear h;obtain⟨J,hJ⟩:∃J,J=letJ c k lettersL:=⟨_,rfl⟩;refine⟨[0,3,4],J,⟨rfl,15,?_⟩,?_⟩
 ·rw[hJ]
  subst hD;refine⟨0,0,rfl,rfl,At.zero (by decide),?_⟩;rw[hk,letterI,hr];rfl
 intro m vs hp' hv;rw[hJ]at hv;unfold letJ at hv;obtain⟨i,I,rfl,rfl,V,hk2⟩:=hv;clear hk;obtain⟨s,hs⟩:∃s,s=lettersL:=⟨_,rfl⟩;rw[<-hs]at hk2 V hJ ⊢;clear hs;cbv;refine br hD (λh=>?_) (λh=>?_)<;>cbv
 ·have hlt:=V.lt (of_decide_eq_true (p:=I<(s.length:Int)) h)
  clear h;refine⟨V.inS hD hlt,λb hc=>?_⟩;have hc:=Gk hD V.I hc;rw[Ajf hlt,hc.of]at hk2;cbv;refine br hD (λh=>?_) (λh=>?_)<;>cbv
  ·have h3:(b==c)=true:=h
   refine Aw hD ?_;rw[hk2,h3];rfl
  ·have h3:(b==c)=false:=h
   refine⟨_,(V.step hD hlt).1,?_⟩;rw[hJ];subst hD;exact⟨i+1,_,rfl,rfl,(V.step rfl hlt).2,by rw[hk2,h3];rfl⟩
 ·have hi:=V.eq (of_decide_eq_false (p:=I<(s.length:Int)) h)
  refine Aw hD ?_;rw[hk2,Am1 hi];rfl
def Aji(p:Int->Bool)(s:List UInt8):Bool:=s.all λc=>p (c.toNat:Int)
theorem Ajh{p:Int->Bool}{s:List UInt8}{i:Nat}(h:i<s.length):Aji p (s.drop i)=(p ((s.getD i 0).toNat:Int)&&Aji p (s.drop (i+1))):=by
 rw[Bn h];rfl
theorem Am3{p:Int->Bool}{s:List UInt8}{i:Nat}(h:i=s.length):Aji p (s.drop i)=true:=by
 rw[h,List.drop_length];rfl
def Jc(s:List UInt8):Bool:=!(decide ((s.length:Int)<1)||decide (64<(s.length:Int)))&&Aji letterI s
def Aj0(F:List UInt8->Bool):FSpec:=λ_ xs ls K=>∃(s:List UInt8),xs=[.str s]/\ls=[]/\s.length<=9223372036854775807/\∀r,r=F s->K (.bool (.a r)) []
def allJ1(p:Int->Bool)(k:Bool)(s:List UInt8)(m:Nat)(vs:List (Option SV))(hp:List Hl):Prop :=
 ∃(i:Nat) (I:Int),vs=[some (.str s),some (.int .i64 (.a I))]/\hp=[]/\At s i I m/\k=Aji p (s.drop i)
theorem H8:Ay Tryz.prog gl 69 (Aj0 Jc):=by
 refine Bq (gh:=[]) mixed B4 (Ab Aia Ai) Tryz.func69 (by kernel_rfl) (by kernel_rfl) ?_;intro xs ls K h;unfold Aj0 at h;obtain⟨s,rfl,rfl,hl,h⟩:=h;obtain⟨k,hk⟩:∃k,k=Jc s:=⟨_,rfl⟩;refine⟨_,_,h k hk,λD hD=>?_⟩;clear h;obtain⟨p,hp⟩:∃p,p=letterI:=⟨_,rfl⟩;rw[Jc,<-hp]at hk;cbv;refine br hD (λh=>?_) (λh=>?_)<;>cbv
 ·have h2:(decide ((s.length:Int)<1)||decide (64<(s.length:Int)))=true:=h
  rw[h2]at hk;exact Aw hD hk.symm
 have h2:(decide ((s.length:Int)<1)||decide (64<(s.length:Int)))=false:=h;rw[h2]at hk;clear h h2;obtain⟨J,hJ⟩:∃J,J=allJ1 p k s:=⟨_,rfl⟩;refine⟨[0,3],J,⟨rfl,s.length,?_⟩,?_⟩
 ·rw[hJ]
  subst hD;exact⟨0,0,rfl,rfl,At.zero hl,hk⟩
 intro m vs hp' hv;rw[hJ]at hv;unfold allJ1 at hv;obtain⟨i,I,rfl,rfl,V,hk2⟩:=hv;clear hk;cbv;refine br hD (λh=>?_) (λh=>?_)<;>cbv
 ·have hlt:=V.lt (of_decide_eq_true (p:=I<(s.length:Int)) h)
  clear h;refine⟨V.inS hD hlt,λb hc=>?_⟩;have hc:=Gk hD V.I hc;rw[Ajh hlt,hc.of]at hk2;cbv;refine⟨_,rfl,rfl,λr hr=>?_⟩;have hr2:r=p b:=by subst hD hp;exact hr
  clear hr;rw[<-hr2]at hk2;cbv;refine br hD (λh=>?_) (λh=>?_)<;>cbv
  ·have h3:r=false:=by simpa[BT.den] using h
   rw[h3]at hk2;exact Aw hD hk2.symm
  ·have h3:r=true:=by simpa[BT.den] using h
   rw[h3]at hk2;refine⟨_,(V.step hD hlt).1,?_⟩;rw[hJ];subst hD;exact⟨i+1,_,rfl,rfl,(V.step rfl hlt).2,hk2⟩
 ·have hi:=V.eq (of_decide_eq_false (p:=I<(s.length:Int)) h)
  rw[Am3 hi]at hk2;exact Aw hD hk2.symm
structure Bl(f:Nat->List SV)(n:Int)(a:List (List UInt8)):Prop where
 n:n=a.length
 f:∀i,i<a.length->f i=[.str (a.getD i [])]
 len:a.length<=9223372036854775807
structure AtR{α:Type}(s:List α)(i:Nat)(I:Int)(m:Nat):Prop where
 le:i<=s.length
 I:I=i
 m:m=s.length-i
 len:s.length<=9223372036854775807
theorem AtR.zero{α:Type}{s:List α}(h:s.length<=9223372036854775807):AtR s 0 0 s.length:=⟨Nat.zero_le _,rfl,by omega,h⟩
theorem AtR.lt{α:Type}{s:List α}{i:Nat}{I n:Int}{m:Nat}(V:AtR s i I m)(hn:n=s.length)(h:I<n):i<s.length:=by have:=V.I;omega
theorem AtR.eq{α:Type}{s:List α}{i:Nat}{I n:Int}{m:Nat}(V:AtR s i I m)(hn:n=s.length)(h:¬I<n):i=s.length:=by have:=V.I;have:=V.le;omega
theorem AtR.inB{D:Dn}(hD:D=dn){α:Type}{s:List α}{i:Nat}{I n:Int}{m:Nat}(V:AtR s i I m)(hn:n=s.length)(h:i<s.length):InB (D.i (.a I)) (D.i (.a n)):=by
 have:=V.I;subst hD;exact⟨by show 0<=I;omega,by show I<n;omega⟩
theorem AtR.step{D:Dn}(hD:D=dn){α:Type}{s:List α}{i:Nat}{I:Int}{m:Nat}(V:AtR s i I m)(h:i<s.length):s.length-(i+1)<m/\AtR s (i+1) (D.i (.bin .add .i64 (.a I) (.l 1))) (s.length-(i+1)):=by
 have h1:=V.I;have h2:=V.len;have h3:=V.m;subst hD;refine⟨by omega,by omega,?_,rfl,h2⟩;show IntKind.i64.wrap (I+1)=_;rw[A4 (by omega) (by omega)];omega
theorem AtR.j{D:Dn}(hD:D=dn){α:Type}{s:List α}{i j:Nat}{I:Int}{m:Nat}(V:AtR s i I m)(h:IsJ j (D.i (.a I))):j=i:=by
 have:=isJ hD h;have:=V.I;omega
theorem Kn{α:Type}{s:List α}{i:Nat}{d:α}(h:i<s.length):s.drop i=s.getD i d :: s.drop (i+1):=by
 rw[List.drop_eq_getElem_cons h,List.getD_eq_getElem?_getD,List.getElem?_eq_getElem h];rfl
def spStrings:FSpec:=λ_ xs ls K=>∃(a b:List (List UInt8)) (na nb:Bool) (A B:Int) (f g:Nat->List SV),xs=[.sl (.a na) (.a A) 1 f,.sl (.a nb) (.a B) 1 g]/\ls=[]/\Bl f A a/\Bl g B b/\∀r,r=(a==b)->K (.bool (.a r)) []
def Lh(c:Int):Int:=if 65<=c/\c<=90 then c+32 else c
def Oz(b:UInt8):UInt8:=if 65<=b.toNat/\b.toNat<=90 then b+32 else b
def foldF(s:List UInt8):List UInt8:=s.map Oz
theorem Ais(b:UInt8):((Oz b).toNat:Int)=Lh (b.toNat:Int):=by
 unfold Oz Lh;have:=b.toNat_lt
 by_cases h:65<=b.toNat/\b.toNat<=90
 ·rw[if_pos h,if_pos (by omega)]
  rw[UInt8.toNat_add];simp;omega
 ·rw[if_neg h,if_neg (by omega)]
structure Gr(s:List UInt8)(f:Nat->List SV)(i:Nat)(L:Int):Prop where
 L:L=s.length
 f:∀j,f j=[.int .u8 (.a (if j<i then Lh ((s.getD j 0).toNat:Int) else ((s.getD j 0).toNat:Int)))]
theorem Gr.zero{s:List UInt8}{f:Nat->List SV}(h:f=byteRow s):Gr s f 0 s.length:=by
 refine⟨rfl,λj=>?_⟩;rw[h];simp[byteRow]
theorem Gr.same{s:List UInt8}{f:Nat->List SV}{i:Nat}{L:Int}(V:Gr s f i L)(h:¬(65<=((s.getD i 0).toNat:Int)/\((s.getD i 0).toNat:Int)<=90)):Gr s f (i+1) L:=by
 refine⟨V.L,λj=>?_⟩;rw[V.f j]
 by_cases e:j=i
 ·subst e
  rw[if_neg (Nat.lt_irrefl _),if_pos (Nat.lt_succ_self _),Lh,if_neg h]
 ·have:(j<i)=(j<i+1):=by simp;omega
  simp only[this]
theorem Gr.set{s:List UInt8}{f f':Nat->List SV}{i:Nat}{L v:Int}(V:Gr s f i L)(h:SetAt f' f i [.int .u8 (.a v)])(hv:v=Lh ((s.getD i 0).toNat:Int)):Gr s f' (i+1) L:=by
 refine⟨V.L,λj=>?_⟩
 by_cases e:j=i
 ·subst e
  rw[h.at_,if_pos (Nat.lt_succ_self _),hv]
 ·rw[h.other j e,V.f j]
  have:(j<i)=(j<i+1):=by simp;omega
  simp only[this]
theorem Gr.byteRow{s:List UInt8}{f:Nat->List SV}{i:Nat}{L:Int}(V:Gr s f i L):Fi L f:=by
 refine⟨by have:=V.L;omega,λj _=>⟨_,V.f j,?_⟩⟩;show 0<=(if j<i then Lh ((s.getD j 0).toNat:Int) else ((s.getD j 0).toNat:Int))/\(if j<i then Lh ((s.getD j 0).toNat:Int) else ((s.getD j 0).toNat:Int))<256;have:=(s.getD j 0).toNat_lt;unfold Lh
 split
 ·split<;>omega
 ·omega
theorem Gr.str{s r:List UInt8}{f:Nat->List SV}{i:Nat}{L:Int}(V:Gr s f i L)(hi:i=s.length)(h:Iw r L f):r=foldF s:=by
 have hl:r.length=s.length:=by have:=h.len;have:=V.L;omega
 refine List.ext_getElem (by simp[foldF,hl]) λj h1 h2=>?_;have hj:j<s.length:=by omega
 have:=h.row j _ (by rw[V.L];omega) (V.f j);rw[if_pos (by omega),Ib h1,Ib hj]at this;simp only[foldF,List.getElem_map];refine UInt8.toNat_inj.1 ?_;have e2:=Ais s[j];have e3:((r[j].toNat:Nat):Int)=Lh (s[j].toNat:Int):=this;omega
def spFold:FSpec:=λ_ xs ls K=>∃(s:List UInt8),xs=[.str s]/\ls=[]/\s.length<=9223372036854775807/\∀r,r=foldF s->K (.str r) []
def Aac(s:List UInt8)(m:Nat)(vs:List (Option SV))(hp:List Hl):Prop :=
 ∃(i:Nat) (I L:Int) (nl:Bool) (f:Nat->List SV),vs=[some (.osl (.a nl) (.a L) 0),some (.int .i64 (.a I))]/\hp=[.own 5 (.a L) 1 false f]/\At s i I m/\Gr s f i L
theorem up8:∀n:Fin 26,Et .or .u8 (65+(n.1:Int)) 32=65+(n.1:Int)+32:=by decide
theorem or8{c:Int}(h1:65<=c)(h2:c<=90):Et .or .u8 c 32=c+32:=by
 have:=up8 ⟨(c-65).toNat,by omega⟩;have e:65+(((c-65).toNat:Nat):Int)=c:=by omega
 simp only[e]at this;exact this
theorem and_false{c:Int}(h:(decide (65<=c)&&decide (c<=90))=false):¬(65<=c/\c<=90):=by simpa using h
theorem Ti:Ay Tryz.prog gl 73 spFold:=by
 refine Bq (gh:=[(999983,[])]) mixed B4 Ai Tryz.func73 (by kernel_rfl) (by kernel_rfl) ?_;intro xs ls K h;unfold spFold at h;obtain⟨s,rfl,rfl,hl,h⟩:=h;obtain⟨k,hk⟩:∃k,k=foldF s:=⟨_,rfl⟩;refine⟨_,_,h k hk,λD hD=>?_⟩;clear h;cbv;refine⟨⟨hl⟩,λf hf=>?_⟩;cbv;obtain⟨J,hJ⟩:∃J,J=Aac s:=⟨_,rfl⟩;refine⟨[3,4],J,⟨rfl,s.length,?_⟩,?_⟩
 ·rw[hJ]
  subst hD;exact⟨0,0,_,_,f,rfl,rfl,At.zero hl,Gr.zero hf.h⟩
 clear hf;intro m vs hp' hv;rw[hJ]at hv;unfold Aac at hv;obtain⟨i,I,L,nl,f,rfl,rfl,V,F⟩:=hv;cbv;refine br hD (λh=>?_) (λh=>?_)<;>cbv
 ·have hlt:=V.lt (by have h:=of_decide_eq_true (p:=I<L) h;have:=F.L;omega)
  clear h;refine⟨⟨rfl⟩,?_,λj hj=>?_⟩
  ·have:=V.I;have:=F.L;subst hD;exact⟨by show 0<=I;omega,by show I<L;omega⟩
  have hji:j=i:=by have:=isJ hD hj;have:=V.I;omega
  subst hji;clear hj;obtain⟨c,hc⟩:∃c:Int,c=((s.getD j 0).toNat:Int):=⟨_,rfl⟩;have hfj:f j=[.int .u8 (.a c)]:=by rw[F.f j,if_neg (Nat.lt_irrefl _),hc]
  have hc:Eu c s j:=⟨hc⟩;have hb:=hc.le;cbv;refine⟨⟨rfl⟩,?_,?_⟩
  ·have:=V.I;have:=F.L;subst hD;exact⟨by show (j:Int)<L;omega⟩
  rw[hfj];cbv;refine⟨λ_=>⟨rfl⟩,λ_=>?_,λj2 hj2=>?_⟩
  ·have:=V.I;have:=F.L;subst hD;exact⟨by show 0<=I;omega,by show I<L;omega⟩
  obtain⟨c2,hc2⟩:∃c2:Int,f j2=[.int .u8 (.a c2)]:=⟨_,F.f j2⟩;refine⟨λ_=>⟨rfl⟩,λhg=>?_,?_⟩
  ·have hji:=isJ hD (hj2 hg);have:=V.I;have:=F.L;subst hD;exact⟨by show (j2:Int)<L;omega⟩
  rw[hc2];cbv;refine br hD (λh=>?_) (λh=>?_)<;>cbv
  ·have hcc:65<=c/\c2<=90:=by
    have h:(decide (65<=c)&&decide (c2<=90))=true:=h;simpa using h
   have hj2':j2=j:=by
    have:=isJ hD (hj2 (by subst hD;show decide (65<=c)=true;simpa using hcc.1));have:=V.I;omega
   rw[hj2',hfj]at hc2;have hc2':c=c2:=by simpa using hc2
   have h90:c<=90:=by omega
   clear hc2 hj2' hj2 h;refine⟨⟨rfl⟩,?_,λj3 hj3=>?_⟩
   ·have:=V.I;have:=F.L;subst hD;exact⟨by show 0<=I;omega,by show I<L;omega⟩
   have hj3':j3=j:=by have:=isJ hD hj3;have:=V.I;omega
   clear hj3;subst hj3';cbv;refine⟨⟨rfl⟩,?_,?_⟩
   ·have:=V.I;have:=F.L;subst hD;exact⟨by show (j3:Int)<L;omega⟩
   rw[hfj];cbv;refine⟨⟨rfl⟩,?_,λj4 hj4=>?_⟩
   ·have:=V.I;have:=F.L;subst hD;exact⟨by show 0<=I;omega,by show I<L;omega⟩
   have hj4':j4=j3:=by have:=isJ hD hj4;have:=V.I;omega
   clear hj4;subst hj4';cbv;refine⟨⟨rfl⟩,?_,?_⟩
   ·have:=V.I;have:=F.L;subst hD;exact⟨by show (j4:Int)<L;omega⟩
   rw[hfj];cbv;intro f' hf';cbv;refine⟨_,(V.step hD hlt).1,?_⟩;rw[hJ];subst hD;refine⟨j4+1,_,_,_,f',rfl,rfl,(V.step rfl hlt).2,F.set hf' ?_⟩;rw[hc.of,Lh,if_pos ⟨hcc.1,h90⟩];show IntKind.u8.wrap (IntKind.u8.wrap (c+97)-65)=_;rw[Ajn (n:=c+97) (by omega) (by omega),Ajn (by omega) (by omega)];omega
  ·have hn:¬(65<=((s.getD j 0).toNat:Int)/\((s.getD j 0).toNat:Int)<=90):=by
    rw[hc.of];rintro⟨h1,h2⟩;have hj2':j2=j:=by
     have:=isJ hD (hj2 (by subst hD;show decide (65<=c)=true;simpa using h1));have:=V.I;omega
    rw[hj2',hfj]at hc2;have hc2':c=c2:=by simpa using hc2
    have h3:¬(65<=c/\c2<=90):=by
     have h:(decide (65<=c)&&decide (c2<=90))=false:=h;simpa using h
    exact h3 ⟨h1,by omega⟩
   refine⟨_,(V.step hD hlt).1,?_⟩;rw[hJ];subst hD;exact⟨j+1,_,_,_,f,rfl,rfl,(V.step rfl hlt).2,F.same hn⟩
 ·have hi:=V.eq (λh'=>by have h:=of_decide_eq_false (p:=I<L) h;have:=F.L;omega)
  clear h;refine⟨⟨rfl⟩,by subst hD;exact F.byteRow,λr hr=>?_⟩;cbv;have hr2:r=k:=by subst hD;rw[hk];exact F.str hi hr
  rw[hr2];exact D6 (LeV.refl _)
def foldJ(s:List UInt8)(m:Nat)(vs:List (Option SV))(hp:List Hl):Prop :=
 ∃(i:Nat) (I L:Int) (nl:Bool) (f:Nat->List SV),vs=[some (.osl (.a nl) (.a L) 0),some (.osl (.a nl) (.a L) 0),some (.int .i64 (.a L)),some (.int .i64 (.a I))]/\hp=[.own 5 (.a L) 1 false f]/\At s i I m/\Gr s f i L
theorem Y2:Ay Tryz.prog gl 128 spFold:=by
 refine Bq (gh:=[(999983,[])]) mixed B4 Ai Tryz.func128 (by kernel_rfl) (by kernel_rfl) ?_;intro xs ls K h;unfold spFold at h;obtain⟨s,rfl,rfl,hl,h⟩:=h;obtain⟨k,hk⟩:∃k,k=foldF s:=⟨_,rfl⟩;refine⟨_,_,h k hk,λD hD=>?_⟩;clear h;cbv;refine⟨⟨hl⟩,λf hf=>?_⟩;cbv;obtain⟨J,hJ⟩:∃J,J=foldJ s:=⟨_,rfl⟩;refine⟨[3,8,9,10],J,⟨rfl,s.length,?_⟩,?_⟩
 ·rw[hJ]
  subst hD;exact⟨0,0,_,_,f,rfl,rfl,At.zero hl,Gr.zero hf.h⟩
 clear hf;intro m vs hp' hv;rw[hJ]at hv;unfold foldJ at hv;obtain⟨i,I,L,nl,f,rfl,rfl,V,F⟩:=hv;cbv;refine br hD (λh=>?_) (λh=>?_)<;>cbv
 ·have hlt:=V.lt (by have h:=of_decide_eq_true (p:=I<L) h;have:=F.L;omega)
  clear h;refine⟨⟨rfl⟩,?_,λj hj=>?_⟩
  ·have:=V.I;have:=F.L;subst hD;exact⟨by show 0<=I;omega,by show I<L;omega⟩
  have hji:j=i:=by have:=isJ hD hj;have:=V.I;omega
  subst hji;clear hj;obtain⟨c,hc⟩:∃c:Int,c=((s.getD j 0).toNat:Int):=⟨_,rfl⟩;have hfj:f j=[.int .u8 (.a c)]:=by rw[F.f j,if_neg (Nat.lt_irrefl _),hc]
  have hc:Eu c s j:=⟨hc⟩;have hb:=hc.le;cbv;refine⟨⟨rfl⟩,?_,?_⟩
  ·have:=V.I;have:=F.L;subst hD;exact⟨by show (j:Int)<L;omega⟩
  rw[hfj];cbv;refine br hD (λh=>?_) (λh=>?_)<;>cbv
  ·have hcc:65<=c/\c<=90:=by
    have h:(decide (65<=c)&&decide (c<=90))=true:=h;simpa using h
   clear h;refine⟨⟨rfl⟩,?_,λj3 hj3=>?_⟩
   ·have:=V.I;have:=F.L;subst hD;exact⟨by show 0<=I;omega,by show I<L;omega⟩
   have hj3':j3=j:=by have:=isJ hD hj3;have:=V.I;omega
   clear hj3;subst hj3';cbv;refine⟨⟨rfl⟩,?_,?_⟩
   ·have:=V.I;have:=F.L;subst hD;exact⟨by show (j3:Int)<L;omega⟩
   rw[hfj];cbv;intro f' hf';cbv;refine⟨_,(V.step hD hlt).1,?_⟩;rw[hJ];subst hD;refine⟨j3+1,_,_,_,f',rfl,rfl,(V.step rfl hlt).2,F.set hf' ?_⟩;rw[hc.of,Lh,if_pos hcc];exact or8 hcc.1 hcc.2
  ·have hn:¬(65<=((s.getD j 0).toNat:Int)/\((s.getD j 0).toNat:Int)<=90):=by
    rw[hc.of];exact and_false h
   refine⟨_,(V.step hD hlt).1,?_⟩;rw[hJ];subst hD;exact⟨j+1,_,_,_,f,rfl,rfl,(V.step rfl hlt).2,F.same hn⟩
 ·have hi:=V.eq (λh'=>by have h:=of_decide_eq_false (p:=I<L) h;have:=F.L;omega)
  clear h;refine⟨⟨rfl⟩,by subst hD;exact F.byteRow,λr hr=>?_⟩;cbv;have hr2:r=k:=by subst hD;rw[hk];exact F.str hi hr
  rw[hr2];exact D6 (LeV.refl _)
end Go.Proofs.YtdoogdbjiijifaaGreatDoor
