/- A part of the proof: contracts of functions, or the executor and its soundness. No conditions. -/
import Derived.Shelf.Bytes.SlIndexAt
import Derived.Lib.Strings
import Derived.Lib.Slices
import Derived.Lib.Walk
import Derived.Lib.Builder
import Derived.Lib.AppendStr
import Derived.Lib.UnsafeStr
import Derived.WalkKit
import Derived.Laws.Externs
import Derived.Laws.IdiomCopy
import Derived.Test.YtdoogdbjiijifaaGreatDoorE8Pat
import Derived.Test.YtdoogdbjiijifaaGreatDoorE8Pas
import Derived.Test.YtdoogdbjiijifaaGreatDoorE8Paq
namespace Go.Proofs.YtdoogdbjiijifaaGreatDoor
open Go Go.Sx
set_option maxRecDepth 100000
set_option maxHeartbeats 8000000
def MS:List (Nat×TI):=[
 (3,⟨.int .i64,1,8,[.int .i64 (.l 0)]⟩),
 (4,⟨.bool,1,1,[.bool (.l false)]⟩),
 (5,⟨.int .u8,1,1,[.int .u8 (.l 0)]⟩),
 (9,⟨.string,1,16,[.str []]⟩),
 (28,⟨.int .i64,1,8,[.int .i64 (.l 0)]⟩),
 (2,⟨.int .i64,1,8,[.int .i64 (.l 0)]⟩),
 (57,⟨.int .i64,1,8,[.int .i64 (.l 0)]⟩),
 (22,⟨.slice 5,1,24,[(.sl (.l true) (.l 0) 1 λ_=>[])]⟩),
 (23,⟨.slice 100,1,24,[(.sl (.l true) (.l 0) 2 λ_=>[])]⟩),
 (100,⟨.struct [(0,9),(1,9)],2,32,[.str [],.str []]⟩),
 (55,⟨.struct [(0,2),(1,9),(2,9),(3,9),(4,23),(5,9)],6,96,[.int .i64 (.l 0),.str [],.str [],.str [],(.sl (.l true) (.l 0) 2 λ_=>[]),.str []]⟩),
 (36,⟨.struct [(0,3),(1,9),(2,9),(3,3),(4,23)],5,72,[.int .i64 (.l 0),.str [],.str [],.int .i64 (.l 0),(.sl (.l true) (.l 0) 2 λ_=>[])]⟩),
 (25,⟨.struct [(0,3),(1,3),(2,9),(3,23)],4,56,[.int .i64 (.l 0),.int .i64 (.l 0),.str [],(.sl (.l true) (.l 0) 2 λ_=>[])]⟩),
 (38,⟨.struct [(0,9),(1,3),(2,3),(3,9),(4,25),(8,3),(9,9),(10,3),(11,36)],16,208,[.str [],.int .i64 (.l 0),.int .i64 (.l 0),.str [],.int .i64 (.l 0),.int .i64 (.l 0),.str [],(.sl (.l true) (.l 0) 2 λ_=>[]),.int .i64 (.l 0),.str [],.int .i64 (.l 0),.int .i64 (.l 0),.str [],.str [],.int .i64 (.l 0),(.sl (.l true) (.l 0) 2 λ_=>[])]⟩),
 (45,⟨.struct [(0,25),(4,3),(5,9),(6,23),(7,4)],8,112,[.int .i64 (.l 0),.int .i64 (.l 0),.str [],(.sl (.l true) (.l 0) 2 λ_=>[]),.int .i64 (.l 0),.str [],(.sl (.l true) (.l 0) 2 λ_=>[]),.bool (.l false)]⟩),
 (59,⟨.struct [(0,55),(6,9),(7,3),(8,38),(24,3),(25,3),(26,3),(27,4),(28,57)],29,368,[.int .i64 (.l 0),.str [],.str [],.str [],(.sl (.l true) (.l 0) 2 λ_=>[]),.str [],.str [],.int .i64 (.l 0),.str [],.int .i64 (.l 0),.int .i64 (.l 0),.str [],.int .i64 (.l 0),.int .i64 (.l 0),.str [],(.sl (.l true) (.l 0) 2 λ_=>[]),.int .i64 (.l 0),.str [],.int .i64 (.l 0),.int .i64 (.l 0),.str [],.str [],.int .i64 (.l 0),(.sl (.l true) (.l 0) 2 λ_=>[]),.int .i64 (.l 0),.int .i64 (.l 0),.int .i64 (.l 0),.bool (.l false),.int .i64 (.l 0)]⟩),
 (142,⟨.pointer 144,1,8,[.fC]⟩),
 (144,⟨.struct [(0,59)],29,368,[.int .i64 (.l 0),.str [],.str [],.str [],(.sl (.l true) (.l 0) 2 λ_=>[]),.str [],.str [],.int .i64 (.l 0),.str [],.int .i64 (.l 0),.int .i64 (.l 0),.str [],.int .i64 (.l 0),.int .i64 (.l 0),.str [],(.sl (.l true) (.l 0) 2 λ_=>[]),.int .i64 (.l 0),.str [],.int .i64 (.l 0),.int .i64 (.l 0),.str [],.str [],.int .i64 (.l 0),(.sl (.l true) (.l 0) 2 λ_=>[]),.int .i64 (.l 0),.int .i64 (.l 0),.int .i64 (.l 0),.bool (.l false),.int .i64 (.l 0)]⟩),
 (83,⟨.struct [(0,3),(1,3),(2,9),(3,57)],4,40,[.int .i64 (.l 0),.int .i64 (.l 0),.str [],.int .i64 (.l 0)]⟩),
 (74,⟨.slice 83,1,24,[(.sl (.l true) (.l 0) 4 λ_=>[])]⟩),
 (68,⟨.struct [(0,45),(8,4),(9,57)],10,128,[.int .i64 (.l 0),.int .i64 (.l 0),.str [],(.sl (.l true) (.l 0) 2 λ_=>[]),.int .i64 (.l 0),.str [],(.sl (.l true) (.l 0) 2 λ_=>[]),.bool (.l false),.bool (.l false),.int .i64 (.l 0)]⟩),
 (194,⟨.struct [(0,3),(1,192)],2,16,[.int .i64 (.l 0),.raw .nilFunc]⟩),
 (190,⟨.slice 194,1,24,[(.sl (.l true) (.l 0) 2 λ_=>[])]⟩),
 (192,⟨.other,1,8,[.raw .nilFunc]⟩)]
theorem Aj3:Sx.yK Tryz.prog MS=true:=by kernel_rfl
theorem Ds{eD:List (Nat×aB)}{gl:List (Nat×SV)}{gh:List (Nat×List Gh)}{its:List (Nat×(aB->aB))}{yl:List aB}:Az Tryz.prog ⟨dn,MS,eD,gl,eqs,gh,its,yl⟩:=by
 refine⟨rfl,Aj3,λt ht=>?_⟩;simp only[eqs,XS,YA,or_false]at ht;rcases ht with rfl
 all_goals
  refine⟨?_,?_,?_⟩
  .kernel_rfl
  .kernel_rfl
  .decide
structure fA where
 id:Int
 me:List UInt8
 ta:List UInt8
 ho:List UInt8
 qb:Bool
 ql:Int
 qf:Nat->List SV
 bo:List UInt8
 out:List UInt8
 aS:Int
 x:bN
 mh:Int
 mb:Int
 ph:Int
 en:Bool
 why:Int
def cG(c:fA):List SV:=[.int .i64 (.a c.id),.str c.me,.str c.ta,.str c.ho,.sl (.a c.qb) (.a c.ql) 2 c.qf,.str c.bo,.str c.out,.int .i64 (.a c.aS),
 .str c.x.m,.int .i64 (.a c.x.ph),.int .i64 (.a c.x.inf),.str c.x.ln,.int .i64 (.a c.x.mi),.int .i64 (.a c.x.st),.str c.x.re,.sl (.a c.x.fb) (.a c.x.fl) 2 c.x.ff,.int .i64 (.a c.x.fr),.str c.x.bo,.int .i64 (.a c.x.lf),
 .int .i64 (.a c.x.cp),.str c.x.cl,.str c.x.cd,.int .i64 (.a c.x.cf),.sl (.a c.x.cb) (.a c.x.ct) 2 c.x.ctf,
 .int .i64 (.a c.mh),.int .i64 (.a c.mb),.int .i64 (.a c.ph),.bool (.a c.en),.int .i64 (.a c.why)]
def rA:aB:=λ_ xs ls K=>∃c:fA,xs=[.ptr 0 0]/\ls=[.aG 144 (cG c)]/\∀r,r=(c.x.ph==2)->K (.bool (.a r)) [.aG 144 (cG c)]
theorem Wz:Ap Tryz.prog gl 151 rA:=by
 refine Bq (gh:=[]) mixed Ds Ae Tryz.func151 (by kernel_rfl) (by kernel_rfl) ?_;intro xs ls K h;unfold rA at h;obtain⟨c,rfl,rfl,h⟩:=h;obtain⟨k,hk⟩:∃k,k=(c.x.ph==2):=⟨_,rfl⟩;refine⟨_,_,h k hk,λD hD=>?_⟩;clear h;unfold cG;cbv;subst hD;exact Bt (by rw[hk];rfl) rfl
def zH:aB:=λ_ xs ls K=>∃(c:fA) (w:Int),xs=[.ptr 0 0,.int .i64 (.a w)]/\ls=[.aG 144 (cG c)]/\K (.aJ []) [.aG 144 (cG { c with ph:=2,why:=w })]
theorem Pb:Ap Tryz.prog gl 266 zH:=by
 refine Bq (gh:=[]) mixed Ds Ae Tryz.func266 (by kernel_rfl) (by kernel_rfl) ?_;intro xs ls K h;unfold zH at h;obtain⟨c,w,rfl,rfl,h⟩:=h;refine⟨_,_,h,λD hD=>?_⟩;clear h;unfold cG;cbv;subst hD;exact Bt rfl rfl
def No(c:fA):Bool:=((c.x.ph==0)&&(c.x.ln==[]))&&(c.x.inf==0)
def rH:aB:=λ_ xs ls K=>∃c:fA,xs=[.ptr 0 0]/\ls=[.aG 144 (cG c)]/\∀r,r=No c->K (.bool (.a r)) [.aG 144 (cG c)]
theorem Qn:Ap Tryz.prog gl 98 rH:=by
 refine Bq (gh:=[]) mixed Ds Ae Tryz.func98 (by kernel_rfl) (by kernel_rfl) ?_;intro xs ls K h;unfold rH at h;obtain⟨c,rfl,rfl,h⟩:=h;obtain⟨k,hk⟩:∃k,k=No c:=⟨_,rfl⟩;refine⟨_,_,h k hk,λD hD=>?_⟩;clear h;unfold cG;cbv;subst hD;exact Bt (by rw[hk];rfl) rfl
def Rk(mb:Int)(y:bN):Bool:=decide (0<=(mb-y.bo.length)-y.cd.length)&&decide (y.lf<=(mb-y.bo.length)-y.cd.length)
structure AK(mb:Int)(y:bN):Prop where
 b0:0<=mb
 b1:mb<=65536
 bo:y.bo.length<=1000000
 cd:y.cd.length<=1000000
structure AL(k:Bool)(mb:Int)(y:bN):Prop where
 h:k=Rk mb y
def zG:aB:=λ_ xs ls K=>∃(c:fA) (y:bN),xs=[.ptr 0 0,nZ y]/\ls=[.aG 144 (cG c)]/\AK c.mb y/\∀r,AL r c.mb y->K (.bool (.a r)) [.aG 144 (cG c)]
theorem Zk:Ap Tryz.prog gl 97 zG:=by
 refine Bq (gh:=[]) mixed Ds Ae Tryz.func97 (by kernel_rfl) (by kernel_rfl) ?_;intro xs ls K h;unfold zG at h;obtain⟨c,y,rfl,rfl,V,h⟩:=h;obtain⟨k,hk⟩:∃k,AL k c.mb y:=⟨_,⟨rfl⟩⟩;refine⟨_,_,h k hk,λD hD=>?_⟩;clear h;unfold cG nZ;cbv;subst hD;refine Bt ?_ rfl;have h1:=V.b0;have h2:=V.b1;have h3:=V.bo;have h4:=V.cd;have e:(decide (0<=IntKind.i64.wrap (IntKind.i64.wrap (c.mb-(y.bo.length:Int))-(y.cd.length:Int)))&&decide (y.lf<=IntKind.i64.wrap (IntKind.i64.wrap (c.mb-(y.bo.length:Int))-(y.cd.length:Int))))=k:=by
  rw[hk.h,wrap64 (n:=c.mb-(y.bo.length:Int)) (by omega) (by omega),wrap64 (by omega) (by omega)];rfl
 rw[<-e];rfl
def Mr(c:fA):Bool:=!c.en&&!(c.x.ph==2)
def H9(c:fA):Bool :=
 if c.why==10 then Mr c else if c.why==11 then Mr c else if c.why==4 then Mr c else if c.why==5 then Mr c else if c.why==1 then Mr c else
 if c.why==12 then !c.en&&((c.x.ph==2)||(c.aS==0)) else if c.why==15 then c.en&&No c else
 if c.why==9 then (c.en&&!No c)&&!(c.x.ph==2) else if c.why==8 then c.en&&!(c.x.ph==2) else false
def Bn(c:fA):Bool :=
 if c.ph==0 then ((c.why==0)&&!c.en)&&!(c.x.ph==2) else if c.ph==1 then (c.why==0)&&(c.x.ph==2) else if c.ph==2 then H9 c else false
structure AT(k:Bool)(c:fA):Prop where
 h:k=Bn c
def rR:aB:=λ_ xs ls K=>∃c:fA,xs=[.ptr 0 0]/\ls=[.aG 144 (cG c)]/\∀r,AT r c->K (.bool (.a r)) [.aG 144 (cG c)]
theorem Ha{b k:Bool}{c:fA}(h:b=k):Sx.Fin (.bool (.a b)) (.bool (.a k)) [.aG 144 (cG c)] [.aG 144 (cG c)]:=Bt (by rw[h]) rfl
theorem Ajy:Ap Tryz.prog gl 99 rR:=by
 refine Bq (gh:=[(8000151,[]),(8000098,[])]) mixed Ds (Al Wz (Al Qn Ae)) Tryz.func99 (by kernel_rfl) (by kernel_rfl) ?_;intro xs ls K h;unfold rR at h;obtain⟨c,rfl,rfl,h⟩:=h;obtain⟨k,hk⟩:∃k,AT k c:=⟨_,⟨rfl⟩⟩;refine⟨_,_,h k hk,λD hD=>?_⟩;clear h;unfold cG;cbv;refine br hD (λh0=>?_) (λh0=>?_)<;>cbv
 .have h0:(c.ph==0)=true:=by subst hD;exact h0
  refine br hD (λg=>?_) (λg=>?_)<;>cbv
  .refine⟨c,by subst hD;rfl,by subst hD;rfl,λr hr=>?_⟩
   cbv;subst hD;refine Ha ?_;show (((c.why==0)&&!c.en)&&!r)=k;rw[hk.h,Bn,QB h0];rw[hr]
  .have g:((c.why==0)&&!c.en)=false:=by subst hD;exact g
   subst hD;refine Ha ?_;show (((c.why==0)&&!c.en)&&false)=k;rw[hk.h,Bn,QB h0,g];rfl
 have h0:(c.ph==0)=false:=by subst hD;exact h0
 refine br hD (λh1=>?_) (λh1=>?_)<;>cbv
 .have h1:(c.ph==1)=true:=by subst hD;exact h1
  refine br hD (λg=>?_) (λg=>?_)<;>cbv
  .refine⟨c,by subst hD;rfl,by subst hD;rfl,λr hr=>?_⟩
   cbv;subst hD;refine Ha ?_;show ((c.why==0)&&r)=k;rw[hk.h,Bn,QA (by rw[h0];simp),QB h1];rw[hr]
  .have g:(c.why==0)=false:=by subst hD;exact g
   subst hD;refine Ha ?_;show ((c.why==0)&&true)=k;rw[hk.h,Bn,QA (by rw[h0];simp),QB h1,g];rfl
 have h1:(c.ph==1)=false:=by subst hD;exact h1
 refine br hD (λh2=>?_) (λh2=>?_)<;>cbv
 rotate_left
 .have h2:(c.ph==2)=false:=by subst hD;exact h2
  subst hD;refine Ha ?_;show false=k;rw[hk.h,Bn,QA (by rw[h0];simp),QA (by rw[h1];simp),QA (by rw[h2];simp)]
 have h2:(c.ph==2)=true:=by subst hD;exact h2
 refine br hD (λlS=>?_) (λlS=>?_)<;>cbv
 .have lS:(c.why==10)=true:=by subst hD;exact lS
  refine br hD (λg=>?_) (λg=>?_)<;>cbv
  .refine⟨c,by subst hD;rfl,by subst hD;rfl,λr hr=>?_⟩
   cbv;subst hD;refine Ha ?_;show (!c.en&&!r)=k;rw[hk.h,Bn,QA (by rw[h0];simp),QA (by rw[h1];simp),QB h2,H9,QB lS,Mr];rw[hr]
  .have g:(!c.en)=false:=by subst hD;exact g
   subst hD;refine Ha ?_;show (!c.en&&false)=k;rw[hk.h,Bn,QA (by rw[h0];simp),QA (by rw[h1];simp),QB h2,H9,QB lS,Mr,g];rfl
 have lS:(c.why==10)=false:=by subst hD;exact lS
 refine br hD (λmU=>?_) (λmU=>?_)<;>cbv
 .have mU:(c.why==11)=true:=by subst hD;exact mU
  refine br hD (λg=>?_) (λg=>?_)<;>cbv
  .refine⟨c,by subst hD;rfl,by subst hD;rfl,λr hr=>?_⟩
   cbv;subst hD;refine Ha ?_;show (!c.en&&!r)=k;rw[hk.h,Bn,QA (by rw[h0];simp),QA (by rw[h1];simp),QB h2,H9,QA (by rw[lS];simp),QB mU,Mr];rw[hr]
  .have g:(!c.en)=false:=by subst hD;exact g
   subst hD;refine Ha ?_;show (!c.en&&false)=k;rw[hk.h,Bn,QA (by rw[h0];simp),QA (by rw[h1];simp),QB h2,H9,QA (by rw[lS];simp),QB mU,Mr,g];rfl
 have mU:(c.why==11)=false:=by subst hD;exact mU
 refine br hD (λw4=>?_) (λw4=>?_)<;>cbv
 .have w4:(c.why==4)=true:=by subst hD;exact w4
  refine br hD (λg=>?_) (λg=>?_)<;>cbv
  .refine⟨c,by subst hD;rfl,by subst hD;rfl,λr hr=>?_⟩
   cbv;subst hD;refine Ha ?_;show (!c.en&&!r)=k;rw[hk.h,Bn,QA (by rw[h0];simp),QA (by rw[h1];simp),QB h2,H9,QA (by rw[lS];simp),QA (by rw[mU];simp),QB w4,Mr];rw[hr]
  .have g:(!c.en)=false:=by subst hD;exact g
   subst hD;refine Ha ?_;show (!c.en&&false)=k;rw[hk.h,Bn,QA (by rw[h0];simp),QA (by rw[h1];simp),QB h2,H9,QA (by rw[lS];simp),QA (by rw[mU];simp),QB w4,Mr,g];rfl
 have w4:(c.why==4)=false:=by subst hD;exact w4
 refine br hD (λw5=>?_) (λw5=>?_)<;>cbv
 .have w5:(c.why==5)=true:=by subst hD;exact w5
  refine br hD (λg=>?_) (λg=>?_)<;>cbv
  .refine⟨c,by subst hD;rfl,by subst hD;rfl,λr hr=>?_⟩
   cbv;subst hD;refine Ha ?_;show (!c.en&&!r)=k;rw[hk.h,Bn,QA (by rw[h0];simp),QA (by rw[h1];simp),QB h2,H9,QA (by rw[lS];simp),QA (by rw[mU];simp),QA (by rw[w4];simp),QB w5,Mr];rw[hr]
  .have g:(!c.en)=false:=by subst hD;exact g
   subst hD;refine Ha ?_;show (!c.en&&false)=k;rw[hk.h,Bn,QA (by rw[h0];simp),QA (by rw[h1];simp),QB h2,H9,QA (by rw[lS];simp),QA (by rw[mU];simp),QA (by rw[w4];simp),QB w5,Mr,g];rfl
 have w5:(c.why==5)=false:=by subst hD;exact w5
 refine br hD (λw1=>?_) (λw1=>?_)<;>cbv
 .have w1:(c.why==1)=true:=by subst hD;exact w1
  refine br hD (λg=>?_) (λg=>?_)<;>cbv
  .refine⟨c,by subst hD;rfl,by subst hD;rfl,λr hr=>?_⟩
   cbv;subst hD;refine Ha ?_;show (!c.en&&!r)=k;rw[hk.h,Bn,QA (by rw[h0];simp),QA (by rw[h1];simp),QB h2,H9,QA (by rw[lS];simp),QA (by rw[mU];simp),QA (by rw[w4];simp),QA (by rw[w5];simp),QB w1,Mr];rw[hr]
  .have g:(!c.en)=false:=by subst hD;exact g
   subst hD;refine Ha ?_;show (!c.en&&false)=k;rw[hk.h,Bn,QA (by rw[h0];simp),QA (by rw[h1];simp),QB h2,H9,QA (by rw[lS];simp),QA (by rw[mU];simp),QA (by rw[w4];simp),QA (by rw[w5];simp),QB w1,Mr,g];rfl
 have w1:(c.why==1)=false:=by subst hD;exact w1
 refine br hD (λtG=>?_) (λtG=>?_)<;>cbv
 .have tG:(c.why==12)=true:=by subst hD;exact tG
  refine br hD (λg=>?_) (λg=>?_)<;>cbv
  .refine⟨c,by subst hD;rfl,by subst hD;rfl,λr hr=>?_⟩
   cbv;subst hD;refine Ha ?_;show (!c.en&&(r||(c.aS==0)))=k;rw[hk.h,Bn,QA (by rw[h0];simp),QA (by rw[h1];simp),QB h2,H9,QA (by rw[lS];simp),QA (by rw[mU];simp),QA (by rw[w4];simp),QA (by rw[w5];simp),QA (by rw[w1];simp),QB tG];rw[hr]
  .have g:(!c.en)=false:=by subst hD;exact g
   subst hD;refine Ha ?_;rw[hk.h,Bn,QA (by rw[h0];simp),QA (by rw[h1];simp),QB h2,H9,QA (by rw[lS];simp),QA (by rw[mU];simp),QA (by rw[w4];simp),QA (by rw[w5];simp),QA (by rw[w1];simp),QB tG,g];show (!c.en&&_)=_;rw[g];rfl
 have tG:(c.why==12)=false:=by subst hD;exact tG
 refine br hD (λwY=>?_) (λwY=>?_)<;>cbv
 .have wY:(c.why==15)=true:=by subst hD;exact wY
  refine br hD (λg=>?_) (λg=>?_)<;>cbv
  .refine⟨c,by subst hD;rfl,by subst hD;rfl,λr hr=>?_⟩
   cbv;subst hD;refine Ha ?_;show (c.en&&r)=k;rw[hk.h,Bn,QA (by rw[h0];simp),QA (by rw[h1];simp),QB h2,H9,QA (by rw[lS];simp),QA (by rw[mU];simp),QA (by rw[w4];simp),QA (by rw[w5];simp),QA (by rw[w1];simp),QA (by rw[tG];simp),QB wY];rw[hr]
  .have g:(c.en)=false:=by subst hD;exact g
   subst hD;refine Ha ?_;show (c.en&&true)=k;rw[hk.h,Bn,QA (by rw[h0];simp),QA (by rw[h1];simp),QB h2,H9,QA (by rw[lS];simp),QA (by rw[mU];simp),QA (by rw[w4];simp),QA (by rw[w5];simp),QA (by rw[w1];simp),QA (by rw[tG];simp),QB wY,g];rfl
 have wY:(c.why==15)=false:=by subst hD;exact wY
 refine br hD (λw9=>?_) (λw9=>?_)<;>cbv
 .have w9:(c.why==9)=true:=by subst hD;exact w9
  refine br hD (λg=>?_) (λg=>?_)<;>cbv
  .refine⟨c,by subst hD;rfl,by subst hD;rfl,λr hr=>?_⟩
   cbv;refine br hD (λg2=>?_) (λg2=>?_)<;>cbv
   .refine⟨c,by subst hD;rfl,by subst hD;rfl,λq hq=>?_⟩
    cbv;subst hD;refine Ha ?_;show ((c.en&&!r)&&!q)=k;rw[hk.h,Bn,QA (by rw[h0];simp),QA (by rw[h1];simp),QB h2,H9,QA (by rw[lS];simp),QA (by rw[mU];simp),QA (by rw[w4];simp),QA (by rw[w5];simp),QA (by rw[w1];simp),QA (by rw[tG];simp),QA (by rw[wY];simp),QB w9];rw[hr,hq]
   .have g2:(c.en&&!r)=false:=by subst hD;exact g2
    subst hD;refine Ha ?_;rw[hk.h,Bn,QA (by rw[h0];simp),QA (by rw[h1];simp),QB h2,H9,QA (by rw[lS];simp),QA (by rw[mU];simp),QA (by rw[w4];simp),QA (by rw[w5];simp),QA (by rw[w1];simp),QA (by rw[tG];simp),QA (by rw[wY];simp),QB w9];rw[<-hr,g2];show ((c.en&&!r)&&_)=_;rw[g2];rfl
  .have g:c.en=false:=by subst hD;exact g
   refine br hD (λg2=>?_) (λg2=>?_)<;>cbv
   .have g2:(c.en&&false)=true:=by subst hD;exact g2
    rw[g]at g2;cases g2
   .clear g2
    subst hD;refine Ha ?_;rw[hk.h,Bn,QA (by rw[h0];simp),QA (by rw[h1];simp),QB h2,H9,QA (by rw[lS];simp),QA (by rw[mU];simp),QA (by rw[w4];simp),QA (by rw[w5];simp),QA (by rw[w1];simp),QA (by rw[tG];simp),QA (by rw[wY];simp),QB w9,g];show ((c.en&&_)&&_)=_;rw[g];rfl
 have w9:(c.why==9)=false:=by subst hD;exact w9
 refine br hD (λw8=>?_) (λw8=>?_)<;>cbv
 .have w8:(c.why==8)=true:=by subst hD;exact w8
  refine br hD (λg=>?_) (λg=>?_)<;>cbv
  .refine⟨c,by subst hD;rfl,by subst hD;rfl,λr hr=>?_⟩
   cbv;subst hD;refine Ha ?_;show (c.en&&!r)=k;rw[hk.h,Bn,QA (by rw[h0];simp),QA (by rw[h1];simp),QB h2,H9,QA (by rw[lS];simp),QA (by rw[mU];simp),QA (by rw[w4];simp),QA (by rw[w5];simp),QA (by rw[w1];simp),QA (by rw[tG];simp),QA (by rw[wY];simp),QA (by rw[w9];simp),QB w8];rw[hr]
  .have g:(c.en)=false:=by subst hD;exact g
   subst hD;refine Ha ?_;show (c.en&&false)=k;rw[hk.h,Bn,QA (by rw[h0];simp),QA (by rw[h1];simp),QB h2,H9,QA (by rw[lS];simp),QA (by rw[mU];simp),QA (by rw[w4];simp),QA (by rw[w5];simp),QA (by rw[w1];simp),QA (by rw[tG];simp),QA (by rw[wY];simp),QA (by rw[w9];simp),QB w8,g];rfl
 have w8:(c.why==8)=false:=by subst hD;exact w8
 subst hD;refine Ha ?_;show false=k;rw[hk.h,Bn,QA (by rw[h0];simp),QA (by rw[h1];simp),QB h2,H9,QA (by rw[lS];simp),QA (by rw[mU];simp),QA (by rw[w4];simp),QA (by rw[w5];simp),QA (by rw[w1];simp),QA (by rw[tG];simp),QA (by rw[wY];simp),QA (by rw[w9];simp),QA (by rw[w8];simp)]
structure dN where
 kind:Int
 n:Int
 bytes:List UInt8
 why:Int
def lH(x:dN):SV:=.agg [.int .i64 (.a x.kind),.int .i64 (.a x.n),.str x.bytes,.int .i64 (.a x.why)]
structure KM(a b:Int):Prop where
 lo:-9223372036854775808<=a+b
 hi:a+b<=9223372036854775807
def yP:aB:=λ_ xs ls K=>∃(c:fA) (x:dN),xs=[.ptr 0 0,lH x]/\ls=[.aG 144 (cG c)]/\KM c.aS x.n/\∀c':fA,c'={ c with aS:=c.aS+x.n }->K (.aJ []) [.aG 144 (cG c')]
theorem gk:Ap Tryz.prog gl 214 yP:=by
 refine Bq (gh:=[]) mixed Ds Ae Tryz.func214 (by kernel_rfl) (by kernel_rfl) ?_;intro xs ls K h;unfold yP at h;obtain⟨c,x,rfl,rfl,V,h⟩:=h;have h:=h _ rfl;refine⟨_,_,h,λD hD=>?_⟩;clear h;unfold cG lH;cbv;have e:IntKind.i64.wrap (c.aS+x.n)=c.aS+x.n:=by have:=V.lo;have:=V.hi;exact wrap64 (by omega) (by omega)
 subst hD;refine Bt rfl ?_;show [Hl.aG 144 (cG { c with aS:=IntKind.i64.wrap (c.aS+x.n) })]=_;rw[e];rfl
def Tv(c:fA):fA:=if c.ph==0 then { c with en:=true,ph:=2,why:=8 } else { c with en:=true }
structure jO(c d:fA):Prop where
 h:c=d
def vP:aB:=λ_ xs ls K=>∃(c:fA) (x:dN),xs=[.ptr 0 0,lH x]/\ls=[.aG 144 (cG c)]/\∀c':fA,jO c' (Tv c)->K (.aJ []) [.aG 144 (cG c')]
theorem Akw:Ap Tryz.prog gl 217 vP:=by
 refine Bq (gh:=[]) mixed Ds (Al Pb Ae) Tryz.func217 (by kernel_rfl) (by kernel_rfl) ?_;intro xs ls K h;unfold vP at h;obtain⟨c,x,rfl,rfl,h⟩:=h;obtain⟨d,hd⟩:∃d,jO d (Tv c):=⟨_,⟨rfl⟩⟩;refine⟨_,_,h d hd,λD hD=>?_⟩;clear h;unfold cG lH;cbv;refine br hD (λhb=>?_) (λhb=>?_)<;>cbv
 .refine⟨{ c with en:=true },8,by subst hD;rfl,by subst hD;rfl,?_⟩
  cbv;have hb:(c.ph==0)=true:=by subst hD;exact hb
  subst hD;refine Bt rfl ?_;rw[hd.h,Tv,QB hb];rfl
 .have hb:(c.ph==0)=false:=by subst hD;exact hb
  subst hD;refine Bt rfl ?_;rw[hd.h,Tv,QA (by rw[hb];simp)];rfl
def wD:aB:=λ_ xs ls K=>∃(c:fA) (x:dN),xs=[.ptr 0 0,lH x]/\ls=[.aG 144 (cG c)]/\∀c':fA,jO c' { c with ph:=2,why:=x.why }->K (.aJ []) [.aG 144 (cG c')]
theorem Anc:Ap Tryz.prog gl 218 wD:=by
 refine Bq (gh:=[]) mixed Ds (Al Pb Ae) Tryz.func218 (by kernel_rfl) (by kernel_rfl) ?_;intro xs ls K h;unfold wD at h;obtain⟨c,x,rfl,rfl,h⟩:=h;obtain⟨d,hd⟩:∃d,jO d { c with ph:=2,why:=x.why }:=⟨_,⟨rfl⟩⟩;refine⟨_,_,h d hd,λD hD=>?_⟩;clear h;unfold cG lH;cbv;refine⟨c,x.why,by subst hD;rfl,by subst hD;rfl,?_⟩;cbv;subst hD;refine Bt rfl ?_;rw[hd.h];rfl
structure Ia(g:Nat->List SV)(n:Int)(l:List HF):Prop where
 g:g=Mz l
 n:n=l.length
theorem Ia.row{g f:Nat->List SV}{n m:Int}{l:List HF}(C:Ia g n l)(R:A5 f m l):A5 g n l:=by rw[C.g,C.n];exact A5.row R.len R.small
variable {g f f' f2:Nat->List SV}{n n' n2 e:Int}{l:List HF}{nl b2:Bool}{x:BT}{y z:ST}{D:Dn}
theorem Ia.eq{g':Nat->List SV}(C:Ia g n l)(C':Ia g' n' l):g=g'/\n=n':=⟨C.g.trans C'.g.symm,C.n.trans C'.n.symm⟩
def rJ:aB:=λ_ xs ls K=>∃(l:List HF) (nl:Bool) (n:Int) (f:Nat->List SV),xs=[.sl (.a nl) (.a n) 2 f]/\ls=[]/\A5 f n l/\l.length<=100000/\(nl=true->l=[])/\
 ∀g n',Ia g n' l->K (.sl (.a nl) (.a n') 2 g) []
theorem Aji:Ap Tryz.prog gl 82 rJ:=by
 refine Bv (gh:=[]) mixed Ck Ae Tryz.func82 (by kernel_rfl) (by kernel_rfl) ?_;intro xs ls K h;unfold rJ at h;obtain⟨l,nl,n,f,rfl,rfl,R,hl,hn,h⟩:=h;obtain⟨g,hg⟩:∃g,g=Mz l:=⟨_,rfl⟩;obtain⟨n0,oB⟩:∃n0:Int,n0=l.length:=⟨_,rfl⟩;have C0:Ia g n0 l:=⟨hg,oB⟩;have R0:A5 g n0 l:=C0.row R;have h:=h g n0 C0;clear C0;clear oB hg;refine⟨_,_,h,λD hD=>?_⟩;clear h;cbv;refine br hD (λh=>?_) (λh=>?_)<;>cbv
 .have h2:nl=true:=h
  have h3:=hn h2;subst h2 h3;subst hD;have oB:n0=0:=R0.n;subst oB;exact C6 (.sl rfl rfl λi hi=>absurd hi (by show ¬((i:Int)<0);omega))
 .have h2:nl=false:=h
  subst h2;intro f0 h0;clear h0;cbv;refine⟨?_,λf1 n1 hm=>?_⟩
  .subst hD;exact⟨rfl,by have:=R.n;show ((0:Int)+n) * 32<=_;omega,by have:=R.n;show (0:Int)+n<=_;omega⟩
  cbv;have e1:n1=n0:=by subst hD;have:=R.n;have:=R0.n;have h5:n1=0+n:=hm.len;omega
  have e2:∀i,i<l.length->f1 i=g i:=by
   intro i hi;rw[hm.hi i i (by subst hD;show (i:Int)=0+i;omega) (by subst hD;have:=R.n;show (i:Int)<n;omega),R.f i hi,R0.f i hi]
  clear hm;subst hD;exact C6 (.sl rfl e1 λi hi=>e2 i (by have:=R0.n;have hi:(i:Int)<n1:=hi;omega))
def PQ(c:fA)(g1:Nat->List SV)(n1:Int)(g2:Nat->List SV)(n2:Int)(g3:Nat->List SV)(n3:Int):fA:={ c with qf:=g1,ql:=n1,x:={ c.x with ff:=g2,fl:=n2,ctf:=g3,ct:=n3 } }
structure KU(c:fA)(lq lf lt:List HF):Prop where
 q:A5 c.qf c.ql lq
 f:A5 c.x.ff c.x.fl lf
 t:A5 c.x.ctf c.x.ct lt
 ql:lq.length<=100000
 fl:lf.length<=100000
 tl:lt.length<=100000
 qn:c.qb=true->lq=[]
 fn:c.x.fb=true->lf=[]
 tn:c.x.cb=true->lt=[]
def yR:aB:=λ_ xs ls K=>∃(c:fA) (lq lf lt:List HF),xs=[.agg (cG c)]/\ls=[]/\KU c lq lf lt/\
 ∀g1 n1 g2 n2 g3 n3,Ia g1 n1 lq->Ia g2 n2 lf->Ia g3 n3 lt->K (.ptr 0 0) [.aG 144 (cG (PQ c g1 n1 g2 n2 g3 n3))]
theorem Agh:Ap Tryz.prog gl 105 yR:=by
 refine Bq (gh:=[]) mixed Ds (Ab Aji Ae) Tryz.func105 (by kernel_rfl) (by kernel_rfl) ?_;intro xs ls K h;unfold yR at h;obtain⟨c,lq,lf,lt,rfl,rfl,V,h⟩:=h;obtain⟨g1,n1,C1⟩:∃g n,Ia g n lq:=⟨_,_,⟨rfl,rfl⟩⟩;obtain⟨g2,n2,C2⟩:∃g n,Ia g n lf:=⟨_,_,⟨rfl,rfl⟩⟩;obtain⟨g3,n3,C3⟩:∃g n,Ia g n lt:=⟨_,_,⟨rfl,rfl⟩⟩;have h:=h g1 n1 g2 n2 g3 n3 C1 C2 C3;refine⟨_,_,h,λD hD=>?_⟩;clear h;unfold cG;cbv;refine⟨lq,_,_,_,rfl,rfl,by subst hD;exact V.q,V.ql,by subst hD;exact V.qn,λa1 m1 A1=>?_⟩;cbv;obtain⟨rfl,rfl⟩:=A1.eq C1;refine⟨lf,_,_,_,rfl,rfl,by subst hD;exact V.f,V.fl,by subst hD;exact V.fn,λa2 m2 A2=>?_⟩;cbv;obtain⟨rfl,rfl⟩:=A2.eq C2;refine⟨lt,_,_,_,rfl,rfl,by subst hD;exact V.t,V.tl,by subst hD;exact V.tn,λa3 m3 A3=>?_⟩;cbv;obtain⟨rfl,rfl⟩:=A3.eq C3;subst hD;exact Bt rfl rfl
def F8(c:fA)(y:bN):fA:=if y.ph==2 then { c with x:=y,ph:=1 } else { c with x:=y }
def vE:aB:=λ_ xs ls K=>∃(c:fA) (y:bN),xs=[.ptr 0 0,nZ y]/\ls=[.aG 144 (cG c)]/\∀c':fA,jO c' (F8 c y)->K (.aJ []) [.aG 144 (cG c')]
theorem Aag:Ap Tryz.prog gl 296 vE:=by
 refine Bq (gh:=[]) mixed Ds (Al Wz Ae) Tryz.func296 (by kernel_rfl) (by kernel_rfl) ?_;intro xs ls K h;unfold vE at h;obtain⟨c,y,rfl,rfl,h⟩:=h;obtain⟨d,hd⟩:∃d,jO d (F8 c y):=⟨_,⟨rfl⟩⟩;refine⟨_,_,h d hd,λD hD=>?_⟩;clear h;unfold cG nZ;cbv;refine⟨{ c with x:=y },by subst hD;rfl,by subst hD;rfl,λr hr=>?_⟩;cbv;refine br hD (λhb=>?_) (λhb=>?_)<;>cbv
 .have hb:(y.ph==2)=true:=by rw[<-hr];subst hD;exact hb
  subst hD;refine Bt rfl ?_;rw[hd.h,F8,QB hb];rfl
 .have hb:(y.ph==2)=false:=by rw[<-hr];subst hD;exact hb
  subst hD;refine Bt rfl ?_;rw[hd.h,F8,QA (by rw[hb];simp)];rfl
def sc(i:Nat):List SV:=[.int .i64 (.a ((i:Int)+1)),.fn (214+i)]
def rG:aB:=λ_ xs ls K=>xs=[]/\ls=[]/\K (.sl (.a false) (.a 5) 2 sc) []
theorem Ajb:Ap Tryz.prog gl 154 rG:=by
 refine Bq (gh:=[]) mixed Ds Ae Tryz.func154 (by kernel_rfl) (by kernel_rfl) ?_;intro xs ls K h;unfold rG at h;obtain⟨rfl,rfl,h⟩:=h;refine⟨_,_,h,λD hD=>?_⟩;clear h;cbv;intro g hg;cbv;subst hD;refine C6 (aO.sl rfl rfl λi hi=>?_);have hi:(i:Int)<5:=hi;have e:i=0\/i=1\/i=2\/i=3\/i=4:=by omega
 rcases e with rfl|rfl|rfl|rfl|rfl<;>exact hg.h _ _ rfl
set_option maxHeartbeats 4000000
def AX:List UInt8:=[48,49,50,51,52,53,54,55,56,57]
theorem zj(c:UInt8):AX.contains c=true↔48<=c.toNat/\c.toNat<=57:=by
 have:∀n:Fin 256,AX.contains (UInt8.ofNat n.1)=true↔48<=n.1/\n.1<=57:=by decide
 have h:=this ⟨c.toNat,c.toNat_lt⟩;simpa using h
theorem K3(p:UInt8->Bool):∀l:List UInt8,(l.dropWhile p).dropWhile p=l.dropWhile p
 | []=>rfl
 |c :: r=>by
  by_cases h:p c=true
  .rw[YW h,K3 p r]
  .rw[ZQ h,ZQ h]
theorem dropWhile_nil(p:UInt8->Bool):∀l:List UInt8,l.dropWhile p=[]↔∀x∈l,p x=true
 | []=>by simp
 |c :: r=>by
  by_cases h:p c=true
  .rw[YW h,dropWhile_nil p r]
   simp[h]
  .rw[ZQ h]
   simp[h]
theorem Ahp{l cs:List UInt8}(h:Lib.trimS l cs=[]):∀c∈l,cs.contains c=true:=by
 have h:((l.reverse.dropWhile (λx=>cs.contains x)).reverse).dropWhile (λx=>cs.contains x)=[]:=h;rw[dropWhile_nil]at h;have h2:(l.reverse.dropWhile (λx=>cs.contains x)).dropWhile (λx=>cs.contains x)=[]:=by
  rw[dropWhile_nil];exact λx hx=>h x (List.mem_reverse.2 hx)
 rw[K3,dropWhile_nil]at h2;exact λc hc=>h2 c (List.mem_reverse.2 hc)
theorem Bl.sub{t:List UInt8}{a b:Nat}{A B:Int}(R:Bl f n t)(h:Ane f' n' f A B)(hA:A=a)(hB:B=b)(hab:a<=b)(hb:b<=t.length):Bl f' n' ((t.drop a).take (b-a)):=by
 refine⟨by rw[h.len,hA,hB,QZ,QY];omega,λi hi=>?_⟩;rw[QZ,QY]at hi;rw[h.row i (i+a) (by rw[hA];omega),R.f (i+a) (by omega)];rw[QD,QD,QN,QB (by omega),XF,Nat.add_comm a i]
theorem Qp(c:UInt8)(s:List UInt8):(Bf c s).1.length<=s.length/\(Bf c s).2.1.length<=s.length:=by
 induction s with
 |nil=>exact⟨QH _,QH _⟩
 |cons b r ih=>unfold Bf;split<;>simp<;>omega
set_option maxHeartbeats 8000000
def iE:List UInt8:=[99,111,110,116,101,110,116,45,108,101,110,103,116,104]
structure uT(f:Nat->List SV)(n:Int)(nl:Bool)(l:List (List UInt8)):Prop where
 row:Dk f n l
 nl:nl=l.isEmpty
structure mO(f:Nat->List SV)(n:Int)(nl:Bool)(l:List HF):Prop where
 row:A5 f n l
 nl:nl=l.isEmpty
theorem Sr:A5 (λ_=>[]) 0 []:=⟨rfl,λi hi=>absurd hi (by simp),by simp,λi hi=>absurd hi (by simp)⟩
theorem uT.nil:uT (λ_=>[]) 0 true []:=⟨Dk.nil,rfl⟩
theorem mO.nil:mO (λ_=>[]) 0 true []:=⟨Sr,rfl⟩
theorem mO.more{dJ:Bool}{x:HF}(G:mO f n nl l)(hg:g 0=Dw x)(hs:x.small)(h:Mn f' n' n 1 f g)(hl:l.length<=100)(hb:dJ=false):mO f' n' dJ (l++[x]) :=
 ⟨G.row.app (A5.one hg hs) h (by simp only[QG,QU];omega),by rw[hb];simp⟩
theorem OK{b:Bool}{l:List (List UInt8)}(G:uT f n b l)(G2:uT f2 n2 b2 l)(hx:x.den=b:=by rfl)(hy:y.den=n:=by rfl):aO (.sl x y 1 f) (.sl (.a b2) (.a n2) 1 f2):=by
 refine aO.sl (by rw[hx,G.nl,G2.nl.symm];rfl) (by rw[hy,G.row.n,G2.row.n.symm];rfl) λi hi=>?_;rw[hy]at hi;have:=G.row.n;rw[G.row.f i (by omega),G2.row.f i (by omega)]
theorem Aly{b:Bool}(G:mO f n b l)(G2:mO f2 n2 b2 l)(hx:x.den=b:=by rfl)(hy:y.den=n:=by rfl):aO (.sl x y 2 f) (.sl (.a b2) (.a n2) 2 f2):=by
 refine aO.sl (by rw[hx,G.nl,G2.nl.symm];rfl) (by rw[hy,G.row.n,G2.row.n.symm];rfl) λi hi=>?_;rw[hy]at hi;have:=G.row.n;rw[G.row.f i (by omega),G2.row.f i (by omega)]
open Go Go.Sx Go.RowKit
set_option maxHeartbeats 4000000
def yY:aB:=λ_ xs ls K=>∃(t:List UInt8) (nl:Bool) (n c:Int) (f:Nat->List SV),xs=[.sl (.a nl) (.a n) 1 f,.int .u8 (.a c)]/\ls=[]/\Bl f n t/\c=10/\∀r,r=Lib.indexByte t 10->K (.int .i64 (.a r)) []
theorem Adc(t:List UInt8):Lib.bytesOf (t.map λc=>(c.toNat:Int))=t:=by
 unfold Lib.bytesOf;rw[List.map_map]
 conv=>rhs;rw[<-List.map_id t]
 refine UB λc _=>?_;simp[Function.comp]
theorem Xp:Ap Tryz.prog gl 53 yY:=by
 refine⟨⟨Tryz.f53,_,Tryz.func53,rfl,by kernel_rfl⟩,λxs ls K h=>?_⟩;obtain⟨t,nl,n,c,f,rfl,rfl,R,rfl,h⟩:=h;refine⟨_,_,h _ rfl,Bg λE B w aX _ _ _ hr=>?_⟩;obtain⟨v,u,rfl,hv,hu⟩:=D0 hr;rw[Og hu];rcases (Rel.bE hv).bE with⟨rfl,hn,_⟩|⟨a,m,cap,g,rfl,_,hn,hc,eY,hs,hl,h1,aN,bF⟩
 .have ht:t=[]:=by
   have:=R.n;have hn:n=0:=hn;exact List.length_eq_zero_iff.1 (by omega)
  subst ht;refine (J5 10 w).mono ?_;rintro e w' ⟨rfl,rfl⟩;exact⟨_,rfl,λE=>.ro (.int rfl),Below.refl _ _⟩
 .have hm:t.length=m:=by
   have:=R.n;have hn:n=(m:Int):=hn;omega
  have hh:∀i,i<m->w.cell? (a.add i)=some (.int .u8 ((t.map λc=>(c.toNat:Int)).getD i 0)):=by
   intro i hi;have e1:=(aN i 0 hi (by omega)).1;have e2:=bF i 0 (.int .u8 (.a ((t.getD i 0).toNat:Int))) hi (by rw[R.f i (by omega)];rfl);have e3:g i 0=.int .u8 ((t.getD i 0).toNat:Int):=by
    generalize g i 0=v at e2
    cases e2 with
    |int h=>rw[<-h];rfl
   have e4:a.add i=⟨a.block,a.off+(i * 1+0),none⟩:=by
    have:=hs (by omega);cases a;simp only at this;subst this;simp[Addr.add]
   rw[e4,e1,e3];have wK:i<t.length:=by omega
   simp[QC wK]
  refine (Any.bytes_IndexByte_at Tl a m cap _ 10 w (by simpa using hm) hh).mono ?_;rintro e w' ⟨rfl,rfl⟩;rw[Adc];exact⟨_,rfl,λE=>.ro (.int rfl),Below.refl _ _⟩
set_option maxHeartbeats 16000000
def kK(b:List UInt8):Nat->Nat->List HF->List HF×Int×Int
 |0,_,_=>([],0,0)
 |m+1,p,r =>
  if (decide (Lib.indexByte (b.drop p) 10<0)&&decide (8192<b.length))||decide (8192<=(p:Int)+Lib.indexByte (b.drop p) 10) then ([],0,3) else
  if Lib.indexByte (b.drop p) 10<0 then ([],0,10) else
  if (!Lib.hasSuffix ((b.drop p).take (Lib.indexByte (b.drop p) 10).toNat) [13])||decide (0<=Lib.indexByte (Lib.trimSuffix ((b.drop p).take (Lib.indexByte (b.drop p) 10).toNat) [13]) 13) then ([],0,6) else
  if Lib.trimSuffix ((b.drop p).take (Lib.indexByte (b.drop p) 10).toNat) [13]=[] then (r,(p:Int)+Lib.indexByte (b.drop p) 10+1,0) else
  if (!(Bf 58 (Lib.trimSuffix ((b.drop p).take (Lib.indexByte (b.drop p) 10).toNat) [13])).2.2||!Ca (Bf 58 (Lib.trimSuffix ((b.drop p).take (Lib.indexByte (b.drop p) 10).toNat) [13])).1)||!D3 (Bf 58 (Lib.trimSuffix ((b.drop p).take (Lib.indexByte (b.drop p) 10).toNat) [13])).2.1 then ([],0,6) else
  if decide (2000<(trimF (Bf 58 (Lib.trimSuffix ((b.drop p).take (Lib.indexByte (b.drop p) 10).toNat) [13])).2.1).length)||decide (r.length=100) then ([],0,3) else
  kK b m (p+(Lib.indexByte (b.drop p) 10).toNat+1) (r++[⟨(Bf 58 (Lib.trimSuffix ((b.drop p).take (Lib.indexByte (b.drop p) 10).toNat) [13])).1,trimF (Bf 58 (Lib.trimSuffix ((b.drop p).take (Lib.indexByte (b.drop p) 10).toNat) [13])).2.1⟩])
def A7(b:List UInt8):List HF×Int×Int:=kK b (b.length+1) 0 []
def rF:aB:=λ_ xs ls K=>∃(b:List UInt8) (nl:Bool) (n:Int) (f:Nat->List SV),xs=[.sl (.a nl) (.a n) 1 f]/\ls=[]/\Bl f n b/\b.length<=1000000/\
 ∀l f1 n1 b1 k e,(l,k,e)=A7 b->mO f1 n1 b1 l->K (.aJ [.sl (.a b1) (.a n1) 2 f1,.int .i64 (.a k),.int .i64 (.a e)]) []
structure HpJ(b:List UInt8)(k:List HF×Int×Int)(p:Nat)(P:Int)(m:Nat)(r:List HF)(f1:Nat->List SV)(n1:Int)(b1:Bool):Prop where
 eP:P=p
 le:p<=b.length
 le2:p<=8192
 lt:b.length-p<m
 k:k=kK b m p r
 G:mO f1 n1 b1 r
 len:r.length<=100
def hpJ(b:List UInt8)(k:List HF×Int×Int)(nl:Bool)(n:Int)(f:Nat->List SV)(m:Nat)(vs:List (Option SV))(hp:List Hl):Prop :=
 ∃(p:Nat) (P:Int) (r:List HF) (f1:Nat->List SV) (n1:Int) (b1:Bool),vs=[some (.sl (.a nl) (.a n) 1 f),some (.dQ (.a b1) (.a n1) 2 f1 0),some (.int .i64 (.a P))]/\hp=[.tail 100 (.a n1) 2]/\HpJ b k p P m r f1 n1 b1
theorem Mi{s:List UInt8}{c:UInt8}:-1<=Lib.indexByte s c/\(0<=Lib.indexByte s c->Lib.indexByte s c<(s.length:Int)):=by
 cases h:(Bf c s).2.2 with
 |false=>have:=(S1 h).2.2;rw[this];exact⟨by omega,λh=>by omega⟩
 |true=>obtain⟨h1,_,_,h4⟩:=Lz h;rw[h1];exact⟨by omega,λ_=>by omega⟩
theorem Jm:∀(m p:Nat) (r:List HF) (b:List UInt8),b.length<=1000000->r.length<=100->(∀x∈r,x.small)->(kK b m p r).1.length<=100/\∀x∈(kK b m p r).1,x.small
 |0,p,r,b,_,_,_=>⟨by simp[kK],λx hx=>by simp[kK]at hx⟩
 |m+1,p,r,b,hb,hr,hs=>by
  have h0:([]:List HF).length<=100/\∀x∈([]:List HF),x.small:=⟨by simp,λx hx=>by cases hx⟩;unfold kK
  split
  .exact h0
  split
  .exact h0
  split
  .exact h0
  split
  .exact⟨hr,hs⟩
  split
  .exact h0
  split
  .exact h0
  rename_i h;simp only[XR,QJ,not_or]at h;obtain⟨h1,h2⟩:=h;refine Jm m _ _ b hb (by rw[QF];simp only[QG,QU];omega) λx hx=>?_;rcases List.mem_append.1 hx with hx|hx
  .exact hs x hx
  .have hx:=List.mem_singleton.1 hx
   subst hx;refine⟨?_,by show (trimF _).length<=_;omega⟩;show (Bf 58 _).1.length<=_;refine XV (Qp 58 _).1 ?_;rw[Lib.trimSuffix];have e:((b.drop p).take (Lib.indexByte (b.drop p) 10).toNat).length<=1000000:=by rw[QZ,QY];omega
   split
   .rw[QZ];omega
   .omega
structure HpE(e:Int)(t:List UInt8):Prop where
 lo:-1<=e
 hi:0<=e->e<(t.length:Int)
structure LB(s:List UInt8):Prop where
 len:s.length<=8192
theorem U4(hD:D=dn){l':List HF}{f1:Nat->List SV}{n1 k:Int}{b b1:Bool}{w:ST}(h:(l,k,e)=(l',z.den,w.den))(G:mO f n b l')(hG:mO f1 n1 b1 l)(hx:x.den=b)(hy:y.den=n):
  Fin (.aJ [.sl (.a (D.b x)) (.a (D.i y)) 2 f,.int .i64 (.a (D.i z)),.int .i64 (.a (D.i w))]) (.aJ [.sl (.a b1) (.a n1) 2 f1,.int .i64 (.a k),.int .i64 (.a e)]) [] []:=by
 subst hD;simp only[Prod.mk.injEq]at h;obtain⟨rfl,rfl,rfl⟩:=h;exact C6 (.aJ (.cons (Aly G hG hx hy) (.cons (Ai rfl) (.cons (Ai rfl) .nil))))
theorem Qg:Ap Tryz.prog gl 58 rF:=by
 refine Bv (gh:=[(1,[.attach 5 100])]) mixed Ck (Ab Xp (Ab X6 (Ab Amx (Ab zo (Ab Gq (Ab Xs (Ab I3 Ae))))))) Tryz.func58 (by kernel_rfl) (by kernel_rfl) ?_;intro xs ls K h;unfold rF at h;obtain⟨b,nl,n,f,rfl,rfl,R,hb,h⟩:=h;obtain⟨k,hk⟩:∃k,k=A7 b:=⟨_,rfl⟩;have hS:=Jm (b.length+1) 0 [] b hb (by simp) (λx hx=>by cases hx);have fG:k=kK b (b.length+1) 0 []:=hk;rw[<-fG]at hS;obtain⟨J,hJ⟩:∃J,J=hpJ b k nl n f:=⟨_,rfl⟩;obtain⟨kl,kk,ke⟩:=k;have hG:∃f1 n1 b1,mO f1 n1 b1 kl:=⟨_,_,_,⟨A5.row (by have:=hS.1;simp only at this;omega) (λi hi=>hS.2 _ (by rw[QD,QC hi];exact XL hi)),rfl⟩⟩;obtain⟨f1,n1,b1,hG⟩:=hG;clear hS;refine⟨_,_,h kl f1 n1 b1 kk ke hk hG,λD hD=>?_⟩;cbv;clear h;refine⟨[0,5,6],J,⟨rfl,b.length+1,?_⟩,?_⟩
 .rw[hJ]
  subst hD;exact⟨0,_,[],_,_,_,rfl,rfl,⟨rfl,by omega,by omega,by omega,fG,mO.nil,by simp⟩⟩
 clear hk fG;intro m vs hp hj;rw[hJ]at hj;obtain⟨p,P,r,e1,m1,c1,rfl,rfl,V⟩:=hj;have hP:=V.eP;have hle:=V.le;have hk:=V.k;obtain⟨m0,rfl⟩:∃m0,m=m0+1:=⟨m-1,by have:=V.lt;omega⟩;rw[kK,<-hP]at hk;obtain⟨t,ht⟩:∃t,t=b.drop p:=⟨_,rfl⟩;rw[<-ht]at hk;have xR:t.length=b.length-p:=by rw[ht,QY]
 have VP:VI P p:=⟨hP⟩;clear hP;refine⟨by subst hD;exact⟨by show (0:Int)<=P;rw[VP.h];omega,by show P<=n;rw[VP.h,R.n];omega,ZC _⟩,λf2 n2 cT=>?_⟩;cbv;have R2:Bl f2 n2 t:=by
  have:=R.sub (a:=p) (b:=b.length) cT (by subst hD;exact VP.h) (by subst hD;exact R.n) hle (QH _);rw[ht];have e:(b.drop p).take (b.length-p)=b.drop p:=XI (by rw[QY];exact QH _)
  rwa [e]at this
 clear cT;refine⟨t,_,_,_,f2,rfl,rfl,by subst hD;exact R2,by subst hD;rfl,λe he=>?_⟩;cbv;rw[<-he]at hk;have lF:HpE e t:=by rw[he];exact⟨Mi.1,Mi.2⟩
 have CD:decide (8192<n)=decide (8192<b.length):=by rw[YV,R.n];omega
 refine br hD (λh=>?_) (λh=>?_)<;>cbv
 .have h:(decide (e<0)&&decide (8192<n))=true:=h
  rw[CD]at h;rw[QB (by rw[h];rfl)]at hk;exact U4 hD hk mO.nil hG rfl rfl
 have h1:(decide (e<0)&&decide (8192<b.length))=false:=by
  have h:(decide (e<0)&&decide (8192<n))=false:=h;rw[CD]at h;exact h
 rw[h1,YU]at hk;clear h;have qp:IntKind.i64.wrap (P+e)=P+e:=by have:=VP.h;have:=lF.lo;have:=lF.hi;exact wrap64 (by omega) (by omega)
 refine br hD (λh=>?_) (λh=>?_)<;>cbv
 .have h:decide (8192<=IntKind.i64.wrap (P+e))=true:=h
  rw[qp]at h;rw[QB h]at hk;exact U4 hD hk mO.nil hG rfl rfl
 have h2:¬8192<=P+e:=by
  have h:decide (8192<=IntKind.i64.wrap (P+e))=false:=h;rw[qp]at h;simpa using h
 rw[QA (by simpa using h2)]at hk;clear h;refine br hD (λh=>?_) (λh=>?_)<;>cbv
 .have h:decide (e<0)=true:=h
  rw[QB (by simpa using h)]at hk;exact U4 hD hk mO.nil hG rfl rfl
 have h3:¬e<0:=by
  have h:decide (e<0)=false:=h;simpa using h
 rw[QA h3]at hk;clear h;obtain⟨q,hq⟩:∃q:Nat,q=e.toNat:=⟨_,rfl⟩;rw[<-hq]at hk;have VE:VI e q:=⟨by omega⟩;have xb:q<t.length:=by have:=lF.hi (by omega);have:=VE.h;omega
 have SS:p+q<8192:=by have:=VP.h;have:=VE.h;omega
 clear hq h1 h2 h3;refine⟨by subst hD;exact⟨by show (0:Int)<=P;rw[VP.h];omega,by show P<=IntKind.i64.wrap (P+e);rw[qp,VE.h];omega,by show IntKind.i64.wrap (P+e)<=n;rw[qp,VP.h,VE.h,R.n];omega⟩,λf3 n3 cT=>?_⟩;cbv;have R3:Bl f3 n3 (t.take q):=by
  have:=R.sub (a:=p) (b:=p+q) cT (by subst hD;exact VP.h) (by subst hD;show IntKind.i64.wrap (P+e)=_;rw[qp,VP.h,VE.h];omega) (by omega) (by omega);rw[<-ht]at this;have e:p+q-p=q:=by omega
  rwa [e]at this
 clear cT;refine⟨by subst hD;exact R3.byte,λs hs=>?_⟩;cbv;have hs:s=t.take q:=by subst hD;exact R3.str hs
 rw[<-hs]at hk;have bD:LB s:=⟨by rw[hs,QZ];omega⟩;clear hs R3;refine⟨s,[13],rfl,rfl,by have:=bD.len;omega,λl is hl IA=>?_⟩;cbv;rw[<-hl,<-IA]at hk;have jD:LB l:=⟨by
  have:=bD.len;rw[hl,Lib.trimSuffix]
  split
  .rw[QZ];omega
  .exact this⟩
 clear hl IA bD;refine⟨l,13,rfl,rfl,λcc qD=>?_⟩;cbv;rw[<-qD]at hk;clear qD;refine br hD (λh=>?_) (λh=>?_)<;>cbv
 .have h:(!is||cc)=true:=h
  rw[QB h]at hk;exact U4 hD hk mO.nil hG rfl rfl
 have h:(!is||cc)=false:=h;rw[QA (by rw[h];simp)]at hk;clear h;have hw2:IntKind.i64.wrap (P+IntKind.i64.wrap (e+1))=P+e+1:=by
  have:=VP.h;have:=VE.h;rw[wrap64 (n:=e+1) (by omega) (by omega),wrap64 (by omega) (by omega)];omega
 refine br hD (λh=>?_) (λh=>?_)<;>cbv
 .have h1:l=[]:=by
   have h:(l==[])=true:=h;exact eq_of_beq h
  rw[QB h1]at hk;exact U4 hD (by rw[hk];rw[<-hw2];rfl) V.G hG rfl rfl
 have h1:¬l=[]:=by
  have h:(l==[])=false:=h;intro e;rw[e]at h;simp at h
 rw[QA h1]at hk;clear h h1;obtain⟨c,hc⟩:∃c,c=Bf 58 l:=⟨_,rfl⟩;rw[<-hc]at hk;refine⟨l,58,rfl,rfl,by have:=jD.len;omega,λna va ok fR=>?_⟩;cbv;rw[<-hc]at fR;subst fR;have eK:LB na:=⟨by have h:=(Qp 58 l).1;rw[<-hc]at h;exact XV h jD.len⟩;have hvl:LB va:=⟨by have h:=(Qp 58 l).2;rw[<-hc]at h;exact XV h jD.len⟩;clear hc jD;refine⟨na,rfl,rfl,by have:=eK.len;omega,λtk sR=>?_⟩;cbv;rw[<-sR]at hk;clear sR;refine⟨va,rfl,rfl,λpl gJ=>?_⟩;cbv;simp only at hk;rw[<-gJ]at hk;clear gJ;refine br hD (λh=>?_) (λh=>?_)<;>cbv
 .have h:((!ok||!tk)||!pl)=true:=h
  rw[QB h]at hk;exact U4 hD hk mO.nil hG rfl rfl
 have h:((!ok||!tk)||!pl)=false:=h;rw[QA (by rw[h];simp)]at hk;clear h;refine⟨va,[32,9],rfl,rfl,by have:=hvl.len;omega,by decide,by decide,λv hv=>?_⟩;cbv;have hv:v=trimF va:=by rw[hv,S8]
 rw[<-hv]at hk;clear hv hvl;have BZ:m1=(r.length:Int):=V.G.row.n;have qR:decide (m1=100)=decide (r.length=100):=by rw[YV,BZ];omega
 refine br hD (λh=>?_) (λh=>?_)<;>cbv
 .have h:(decide (2000<(v.length:Int))||(m1==100))=true:=h
  have h:(decide (2000<v.length)||decide (r.length=100))=true:=by
   rw[<-qR];rcases Bool.or_eq_true_iff.1 h with h|h
   .rw[ZN (by have:=QT h;omega)];rfl
   .rw[ZN (eq_of_beq h)];simp
  rw[QB h]at hk;exact U4 hD hk mO.nil hG rfl rfl
 have h:¬2000<v.length/\¬r.length=100:=by
  have h:(decide (2000<(v.length:Int))||(m1==100))=false:=h;rw[XC]at h;refine⟨λe=>?_,λe=>?_⟩
  .have:=QW h.1;omega
  .have h2:=h.2;rw[BZ,e]at h2;simp at h2
 obtain⟨h4,h5⟩:=h;rw[QA (by simp[h4,h5])]at hk;have jY:LB v:=⟨by omega⟩;clear h4 qR BZ;intro g hg;cbv;have wM:g 0=Dw ⟨na,v⟩:=hg.h 0 _ rfl;clear hg;have hN:m1=(r.length:Int):=V.G.row.n;have tU:=V.len;refine⟨by subst hD;exact⟨rfl,by show (m1+1) * 32<=_;omega,by show m1+1<=_;omega⟩,λf' n' hm=>?_⟩;cbv;have G2:∀dJ,dJ=false->mO f' n' dJ (r++[⟨na,v⟩]):=λdJ hb=>V.G.more wM ⟨by have:=eK.len;show na.length<=_;omega,by have:=jY.len;show v.length<=_;omega⟩ (by subst hD;exact hm) (by omega) hb;clear hm hN;refine⟨m0,YO _,?_⟩;rw[hJ];unfold hpJ;subst hD;exact⟨p+q+1,_,r++[⟨na,v⟩],f',n',(c1&&false),rfl,rfl,⟨by show IntKind.i64.wrap (P+IntKind.i64.wrap (e+1))=_;rw[hw2,VP.h,VE.h];omega,by omega,by omega,by have:=V.lt;omega,hk,G2 _ (ZM _),by rw[QF];simp only[QG,QU];omega⟩⟩
set_option maxHeartbeats 400000
set_option maxHeartbeats 4000000
set_option maxHeartbeats 8000000
def BR:List (List UInt8)->List UInt8->Bool
 | [],_=>false
 |x :: l,s=>(x==s)||BR l s
set_option maxHeartbeats 16000000
def Qx(l:List HF):Bool:=l.any λx=>LV (bG x.name)
def B4(r:Rq):List HF×Int :=
 if Bb r.fields≠0 then ([],Bb r.fields) else if Qx r.fields then ([],8) else
 if (Cg r).2≠0 then ([],(Cg r).2) else ((Cg r).1,Bb (Cg r).1)
def pc:aB:=λ_ xs ls K=>∃(r:Rq) (nl:Bool) (n:Int) (f:Nat->List SV),xs=[.agg [.int .i64 (.a r.id),.str r.method,.str r.target,.str r.host,.sl (.a nl) (.a n) 2 f,.str r.body]]/\ls=[]/\Pn r nl n f/\
 ∀l e nb n' g,(l,e)=B4 r->A5 g n' l->nb=l.isEmpty->K (.aJ [.sl (.a nb) (.a n') 2 g,.int .i64 (.a e)]) []
structure OwJ(l:List HF)(k:Bool)(i:Nat)(I:Int)(m:Nat):Prop where
 bY:AtR l i I m
 k:k=Qx (l.drop i)
theorem Z6(r:Rq)(h:(Cg r).2=0):(Cg r).1.isEmpty=false:=by
 unfold Cg at h ⊢
 split
 .rename_i h1;rw[QB h1]at h;exact absurd h h1
 .rfl
theorem qd(n:Int)(h1:-9223372036854775808<=n)(h2:n<=9223372036854775807)(a:List UInt8)(ha:a.length<=100):HF.small ⟨a,Lib.itoa n⟩:=⟨by show a.length<=_;omega,Ur h1 h2⟩
theorem N1{r:Rq}(R:Pn r nl n f):∃g n',A5 g n' (Cg r).1:=by
 unfold Cg
 split
 .exact rowOf [] (by simp) (λi hi=>absurd hi (by simp))
 .rename_i h1
  have h1:(El r.fields).2=0:=by simpa using h1
  have h2:=M6 _ h1;refine rowOf _ ?_ (Hd (Hd (λi hi=>?_) (N6 R.row.small)) ?_)
  .simp only[QF]
   split<;>simp<;>omega
  .match i,hi with
   |0,_=>exact⟨by show Tn.length<=_;decide,R.host⟩
   |1,_=>exact qd _ R.BU R.BS _ (by decide)
  .split
   .intro i hi
    have:i=0:=by simpa using hi
    subst this;exact qd _ (by omega) (by have:=R.body;omega) _ (by decide)
   .intro i hi;simp at hi
theorem D4:A5 (λ_=>[]) 0 []:=⟨rfl,λi hi=>absurd hi (by simp),by simp,λi hi=>absurd hi (by simp)⟩
def owJ(r:Rq)(k:Bool)(nl:Bool)(n:Int)(f:Nat->List SV)(m:Nat)(vs:List (Option SV))(hp:List Hl):Prop :=
 ∃(i:Nat) (I:Int),vs=[some (.ptr 0 0),some (.sl (.a nl) (.a n) 2 f),some (.int .i64 (.a n)),some (.int .i64 (.a I))]/\hp=[.aG 55 [.int .i64 (.a r.id),.str r.method,.str r.target,.str r.host,.sl (.a nl) (.a n) 2 f,.str r.body]]/\OwJ r.fields k i I m
theorem zp:Ap Tryz.prog gl 200 pc:=by
 refine Bv (gh:=[]) mixed Ck (Ab H0 (Ab Al6 (Ab Adn Ae))) Tryz.func200 (by kernel_rfl) (by kernel_rfl) ?_;intro xs ls K h;unfold pc at h;obtain⟨r,nl,n,f,rfl,rfl,R,h⟩:=h;obtain⟨k,hk⟩:∃k,k=B4 r:=⟨_,rfl⟩;obtain⟨kl,ke⟩:=k;have hg:∃g n',A5 g n' kl:=by
  unfold B4 at hk
  split at hk
  .simp only[Prod.mk.injEq]at hk;rw[hk.1];exact⟨_,_,D4⟩
  .split at hk
   .simp only[Prod.mk.injEq]at hk;rw[hk.1];exact⟨_,_,D4⟩
   .split at hk
    .simp only[Prod.mk.injEq]at hk;rw[hk.1];exact⟨_,_,D4⟩
    .simp only[Prod.mk.injEq]at hk;rw[hk.1];exact N1 R
 obtain⟨g,n2,R2⟩:=hg;obtain⟨nb,iB⟩:∃nb,nb=kl.isEmpty:=⟨_,rfl⟩;refine⟨_,_,h kl ke nb n2 g hk R2 iB,λD hD=>?_⟩;clear h;unfold B4 at hk;obtain⟨wl,jy⟩:∃w,w=Cg r:=⟨_,rfl⟩;have BV:=Z6 r;rw[<-jy]at hk BV;obtain⟨wl,we⟩:=wl;simp only at hk BV;obtain⟨J,hJ⟩:∃J,J=owJ r (Qx r.fields) nl n f:=⟨_,rfl⟩;obtain⟨ao,NO⟩:∃a,a=Qx r.fields:=⟨_,rfl⟩;rw[<-NO]at hk hJ;obtain⟨id,me,ta,ho,fs,bo⟩:=r;simp only at R hJ NO hk;cbv;refine⟨fs,_,_,f,rfl,rfl,by subst hD;exact R.row,λe he=>?_⟩;cbv;rw[<-he]at hk;clear he;refine br hD (λh=>?_) (λh=>?_)<;>cbv
 .have h1:e≠0:=by simpa using h
  rw[QB h1]at hk;simp only[Prod.mk.injEq]at hk;obtain⟨eQ,dA⟩:=hk;subst eQ dA;exact U2 hD (by rw[iB];rfl) D4 rfl rfl R2
 have h1:e=0:=by simpa using h
 rw[QA (by simp[h1])]at hk;clear h h1;refine⟨[1,16,17,18],J,⟨rfl,fs.length,?_⟩,?_⟩
 .rw[hJ]
  subst hD;exact⟨0,0,rfl,rfl,AtR.zero R.row.len,NO⟩
 clear NO;intro m vs hp hj;rw[hJ]at hj;obtain⟨i,I,rfl,rfl,V⟩:=hj;simp only at V;cbv;refine br hD (λh=>?_) (λh=>?_)<;>cbv
 .have aC:=V.bY.lt R.row.n (QT (p:=I<n) h)
  clear h;refine⟨V.bY.fS hD R.row.n aC,λj hj=>?_⟩;cbv;obtain rfl:=V.bY.j hD hj;clear hj;have e1:=R.row.f j aC;have eF:=R.row.small j aC;have aZ:=V.k;rw[Hb (d:=default) aC]at aZ;obtain⟨x,hx⟩:∃x,x=fs.getD j default:=⟨_,rfl⟩;rw[<-hx]at e1 aZ eF;obtain⟨a,b⟩:=x;rw[e1];cbv;refine⟨a,rfl,rfl,eF.1,λt ht=>?_⟩;cbv;have ht:t=LV (bG a):=ht;have lO:ao=(t||Qx (fs.drop (j+1))):=by rw[aZ,ht];rfl
  clear ht aZ;refine br hD (λh=>?_) (λh=>?_)<;>cbv
  .have h1:t=true:=h
   have hk4:ao=true:=by rw[lO,h1];rfl
   rw[QB hk4]at hk;simp only[Prod.mk.injEq]at hk;obtain⟨eQ,dA⟩:=hk;subst eQ dA;exact U2 hD (by rw[iB];rfl) D4 rfl rfl R2
  .have h1:t=false:=h
   obtain⟨g1,g2⟩:=V.bY.step hD aC;refine⟨_,g1,?_⟩;rw[hJ];unfold owJ;subst hD;exact⟨j+1,_,rfl,rfl,g2,by rw[lO,h1];rfl⟩
 .have hi:=V.bY.eq R.row.n (QW (p:=I<n) h)
  have aZ:=V.k;rw[hi,XQ]at aZ;have lO:ao=false:=aZ;rw[QA (by rw[lO];simp)]at hk;clear h aZ;refine⟨⟨id,me,ta,ho,fs,bo⟩,nl,n,f,by subst hD;rfl,rfl,R,λl e2 PX n3 g3 hw R3 uA=>?_⟩;cbv;rw[<-jy]at hw;simp only[Prod.mk.injEq]at hw;obtain⟨eQ,dA⟩:=hw;subst eQ dA;refine br hD (λh=>?_) (λh=>?_)<;>cbv
  .have h1:e2≠0:=by simpa using h
   rw[QB h1]at hk;simp only[Prod.mk.injEq]at hk;obtain⟨eQ,dA⟩:=hk;subst eQ dA;exact U2 hD (by rw[iB];rfl) D4 rfl rfl R2
  .have h1:e2=0:=by simpa using h
   rw[QA (by simp[h1])]at hk;have aY:=BV h1;refine⟨l,_,_,g3,rfl,rfl,by subst hD;exact R3,λc hc=>?_⟩;cbv;rw[<-hc]at hk;clear hc;simp only[Prod.mk.injEq]at hk;obtain⟨eQ,dA⟩:=hk;subst eQ dA;refine U2 hD ?_ R3 rfl rfl R2;rw[iB,aY,uA,h1];rfl
def Bm(r:Rq):List UInt8×List HF×Int :=
 if r.id<1\/1000000000<r.id then (sId,[],7) else if !Ge r.method then (Af3,[],6) else if r.method=iD then (Af3,[],9) else
 if (tz r.target).2≠0 then (gp,[],(tz r.target).2) else if !MH r.host then (uy,[],6) else
 if (B4 r).2≠0 then (gq,[],(B4 r).2) else if 65536<r.body.length then (pf,[],3) else if (r.body != []&&OH r.method)=true then (pf,[],2) else ([],(B4 r).1,0)
def zI:aB:=λ_ xs ls K=>∃(r:Rq) (nl:Bool) (n:Int) (f:Nat->List SV),xs=[.agg [.int .i64 (.a r.id),.str r.method,.str r.target,.str r.host,.sl (.a nl) (.a n) 2 f,.str r.body]]/\ls=[]/\Pn r nl n f/\
 ∀p l e nb n' g,(p,l,e)=Bm r->A5 g n' l->nb=l.isEmpty->K (.aJ [.str p,.sl (.a nb) (.a n') 2 g,.int .i64 (.a e)]) []
theorem Pa(hD:D=dn){p p':List UInt8}{nb:Bool}{g2:Nat->List SV}(hp:p'=p)(h1:x.den=nb)(R:A5 g2 n2 l)(h2:y.den=n2)(h3:z.den=e)(R2:A5 g n l):
  Fin (.aJ [.str p',.sl (.a (D.b x)) (.a (D.i y)) 2 g2,.int .i64 (.a (D.i z))]) (.aJ [.str p,.sl (.a nb) (.a n) 2 g,.int .i64 (.a e)]) [] []:=by
 subst hD h1 h3 hp;have hn:n2=n:=by rw[R.n,R2.n]
 refine C6 (aO.aJ (iM.cons (aO.refl _) (iM.cons (aO.sl rfl (by show y.den=n;rw[h2,hn]) λi hi=>?_) (iM.refl _))));have hi:(i:Int)<y.den:=hi;have:=R.n;rw[R.f i (by omega),R2.f i (by omega)]
theorem Vh{r:Rq}(R:Pn r nl n f):∃g n',A5 g n' (B4 r).1:=by
 unfold B4
 split
 .exact⟨_,_,D4⟩
 .split
  .exact⟨_,_,D4⟩
  .split
   .exact⟨_,_,D4⟩
   .exact N1 R
theorem mw:Ap Tryz.prog qT 145 zI:=by
 refine Bv (gh:=[]) mixed Ck (Ab (Df Acb) (Ab (Df Aie) (Ab (Df Aiz) (Ab (Df zp) (Ab Ai0 Ae))))) Tryz.func145 (by kernel_rfl) (by kernel_rfl) ?_;intro xs ls K h;unfold zI at h;obtain⟨r,nl,n,f,rfl,rfl,R,h⟩:=h;obtain⟨k,hk⟩:∃k,k=Bm r:=⟨_,rfl⟩;obtain⟨kp,kl,ke⟩:=k;have hg:∃g n',A5 g n' kl:=by
  unfold Bm at hk
  repeat' split at hk
  all_goals (simp only[Prod.mk.injEq]at hk;rw[hk.2.1])
  all_goals first|exact⟨_,_,D4⟩|exact Vh R
 obtain⟨g,n2,R2⟩:=hg;obtain⟨nb,iB⟩:∃nb,nb=kl.isEmpty:=⟨_,rfl⟩;refine⟨_,_,h kp kl ke nb n2 g hk R2 iB,λD hD=>?_⟩;clear h;unfold Bm at hk;obtain⟨ck,CE⟩:∃w,w=B4 r:=⟨_,rfl⟩;rw[<-CE]at hk;obtain⟨cl,ce⟩:=ck;obtain⟨id,me,ta,ho,fs,bo⟩:=r;have Rme:=R.method;have Rta:=R.target;have Rho:=R.host;simp only at hk Rme Rta Rho;cbv;refine br hD (λh=>?_) (λh=>?_)<;>cbv
 .have h1:id<1\/1000000000<id:=by
   have h:(decide (id<1)||decide (1000000000<id))=true:=h;simpa using h
  rw[QB h1]at hk;simp only[Prod.mk.injEq]at hk;obtain⟨eQ,dA,oN⟩:=hk;subst eQ dA oN;exact Pa hD rfl (by rw[iB];rfl) D4 rfl rfl R2
 have h1:¬(id<1\/1000000000<id):=by
  have h:(decide (id<1)||decide (1000000000<id))=false:=h;simp only[XC,QL]at h;omega
 rw[QA h1]at hk;clear h h1;refine⟨me,rfl,rfl,Rme,λim him=>?_⟩;cbv;rw[<-him]at hk;clear him;refine br hD (λh=>?_) (λh=>?_)<;>cbv
 .have h1:(!im)=true:=h
  rw[QB h1]at hk;simp only[Prod.mk.injEq]at hk;obtain⟨eQ,dA,oN⟩:=hk;subst eQ dA oN;exact Pa hD rfl (by rw[iB];rfl) D4 rfl rfl R2
 have h1:(!im)=false:=h;rw[QA (by rw[h1];simp)]at hk;clear h h1;refine br hD (λh=>?_) (λh=>?_)<;>cbv
 .have h1:me=iD:=eq_of_beq (show (me==iD)=true from h)
  rw[QB h1]at hk;simp only[Prod.mk.injEq]at hk;obtain⟨eQ,dA,oN⟩:=hk;subst eQ dA oN;exact Pa hD rfl (by rw[iB];rfl) D4 rfl rfl R2
 have h1:¬me=iD:=by
  have h:(me==iD)=false:=h;intro e;rw[e]at h;simp at h
 rw[QA h1]at hk;clear h h1;refine⟨ta,rfl,rfl,Rta,λoi oe TA=>?_⟩;cbv;rw[<-TA]at hk;simp only at hk;clear TA;refine br hD (λh=>?_) (λh=>?_)<;>cbv
 .have h1:oe≠0:=by simpa using h
  rw[QB h1]at hk;simp only[Prod.mk.injEq]at hk;obtain⟨eQ,dA,oN⟩:=hk;subst eQ dA oN;exact Pa hD rfl (by rw[iB];rfl) D4 rfl rfl R2
 have h1:¬oe≠0:=by simpa using h
 rw[QA h1]at hk;clear h h1;refine⟨ho,rfl,rfl,Rho,λhh hhh=>?_⟩;cbv;rw[<-hhh]at hk;clear hhh;refine br hD (λh=>?_) (λh=>?_)<;>cbv
 .have h1:(!hh)=true:=h
  rw[QB h1]at hk;simp only[Prod.mk.injEq]at hk;obtain⟨eQ,dA,oN⟩:=hk;subst eQ dA oN;exact Pa hD rfl (by rw[iB];rfl) D4 rfl rfl R2
 have h1:(!hh)=false:=h;rw[QA (by rw[h1];simp)]at hk;clear h h1;refine⟨⟨id,me,ta,ho,fs,bo⟩,nl,n,f,by subst hD;rfl,rfl,R,λl e PX n3 g3 hc R3 uA=>?_⟩;cbv;rw[<-CE]at hc;simp only[Prod.mk.injEq]at hc;obtain⟨eQ,dA⟩:=hc;subst eQ dA;refine br hD (λh=>?_) (λh=>?_)<;>cbv
 .have h1:e≠0:=by simpa using h
  rw[QB h1]at hk;simp only[Prod.mk.injEq]at hk;obtain⟨eQ,dA,oN⟩:=hk;subst eQ dA oN;exact Pa hD rfl (by rw[iB];rfl) D4 rfl rfl R2
 have h1:¬e≠0:=by simpa using h
 rw[QA h1]at hk;clear h h1;refine br hD (λh=>?_) (λh=>?_)<;>cbv
 .have h1:65536<bo.length:=by have h:decide ((65536:Int)<(bo.length:Int))=true:=h;simp only[QJ]at h;omega
  rw[QB h1]at hk;simp only[Prod.mk.injEq]at hk;obtain⟨eQ,dA,oN⟩:=hk;subst eQ dA oN;exact Pa hD rfl (by rw[iB];rfl) D4 rfl rfl R2
 have h1:¬65536<bo.length:=by have h:decide ((65536:Int)<(bo.length:Int))=false:=h;simp only[QL]at h;omega
 rw[QA h1]at hk;clear h h1;refine⟨me,rfl,rfl,Rme,λb hb=>?_⟩;cbv;rw[<-hb]at hk;clear hb;refine br hD (λh=>?_) (λh=>?_)<;>cbv
 .have h1:(bo != []&&b)=true:=h
  rw[QB h1]at hk;simp only[Prod.mk.injEq]at hk;obtain⟨eQ,dA,oN⟩:=hk;subst eQ dA oN;exact Pa hD rfl (by rw[iB];rfl) D4 rfl rfl R2
 .have h1:¬(bo != []&&b)=true:=by
   have h:(bo != []&&b)=false:=h;rw[h];simp
  rw[QA h1]at hk;simp only[Prod.mk.injEq]at hk;obtain⟨eQ,dA,oN⟩:=hk;subst eQ dA oN;exact Pa hD rfl (by rw[iB,<-uA];rfl) R3 rfl rfl R2
open Go Go.RowKit Go.Sx
set_option maxHeartbeats 2000000
theorem sr:(Tryz.prog.info? 180).map (·.size)=some 2:=by kernel_rfl
theorem KH:liesAt Tryz.prog Tryz.prog.depth 180 (2 / Tryz.prog.cellsOf 180) 0 180 1=true:=by kernel_rfl
theorem zq:Tryz.prog.underlying 178=some (.pointer 180):=by kernel_rfl
theorem Ahd:Tryz.prog.underlying 259=some .unsafePointer:=by kernel_rfl
theorem KJ:(Tryz.prog.info? 5).map (λi=>(i.zero,i.size,i.bytes))=some (some (.int .u8 0),1,1):=by kernel_rfl
theorem Vm:Tryz.prog.underlying 22=some (.slice 5):=by kernel_rfl
theorem Vg(b:Nat)(w:World)(h0:w.cell? ⟨b,0,none⟩=some (.pointer (some ⟨b,0,none⟩))):
  Calls Tryz.prog 196 #[.pointer (some ⟨b,0,none⟩)] w λe w'=>e=.returned (.tuple #[])/\w'=w:=by
 obtain⟨j,hj,_⟩:=Option.map_eq_some_iff.1 sr
 go_enter Tryz.func196,Tryz.ntmps196
 go_wp2
 rw[Lib.run_neq_ptr_same w _ zq hj]
 go_wp2
 go_end0
 exact⟨rfl,rfl⟩
theorem Sm(b:Nat)(w:World)(h0:w.cell? ⟨b,0,none⟩=some (.pointer none))(aw:w.shape? b=some (180,2))(hfz:w.frozen? ⟨b,0,none⟩=false):
  Calls Tryz.prog 196 #[.pointer (some ⟨b,0,none⟩)] w λe w'=>e=.returned (.tuple #[])/\w'=w.setCell ⟨b,0,none⟩ (.pointer (some ⟨b,0,none⟩)):=by
 obtain⟨j,hj,hjs⟩:=Option.map_eq_some_iff.1 sr
 go_enter Tryz.func196,Tryz.ntmps196
 go_wp2
 rw[Lib.run_to_unsafe w ⟨b,0,none⟩ zq Ahd hj (by rw[hjs];decide) aw (Nat.zero_lt_succ 1)];simp only[Result.andThen];rw[Oper.upon_value]
 go_wp2
 rw[run_callFunc_extern Tryz.func251 (by kernel_rfl) (by kernel_rfl) (by kernel_rfl) (e:=Extern.AbiNoEscape.same) (by kernel_rfl)];rw[Lib.run_noEscape];simp only[Result.andThen];rw[Oper.upon_value]
 go_wp2
 rw[Lib.run_from_unsafe w ⟨b,0,none⟩ Ahd zq hj aw KH];simp only[Result.andThen];rw[Oper.upon_value]
 go_wp2
 go_end0
 exact⟨rfl,rfl⟩
structure Anm(b:Nat)(v v':Value)(w w':World):Prop where
 os:w'.os=w.os
 tape:w'.tape=w.tape
 output:w'.output=w.output
 size:w.heap.size<=w'.heap.size
 block:∀k,k<w.heap.size->k≠b->some k≠v.ownBlock->w'.heap[k]?=w.heap[k]?
 new:∀k,v'.ownBlock=some k->v.ownBlock=some k\/w.heap.size<=k
theorem Wv(b:Nat)(p v:Value)(s:List UInt8)(w:World)(iR:w.heap[b]?=some (.cells #[p,v] 180 (0,0)))(hp:p=.pointer none\/p=.pointer (some ⟨b,0,none⟩))(bW:w.ownsRow 0 5 1 v s.length (Lib.byteCells s))(aY:v.ownBlock≠some b):
  Calls Tryz.prog 196 #[.pointer (some ⟨b,0,none⟩)] w λe w'=>e=.returned (.tuple #[])/\w'.heap[b]?=some (.cells #[.pointer (some ⟨b,0,none⟩),v] 180 (0,0))/\w'.ownsRow 0 5 1 v s.length (Lib.byteCells s)/\w'.os=w.os/\w'.tape=w.tape/\w'.output=w.output/\w'.heap.size=w.heap.size/\∀k,k≠b->w'.heap[k]?=w.heap[k]?:=by
 rcases hp with rfl|rfl
 .have aC:b<w.heap.size:=by
   rcases ZJ b w.heap.size with h'|h'
   .exact h'
   .simp[Array.getElem?_eq_none h']at iR
  refine (Sm b w (by rw[Lib.cell_of_heap iR];rfl) (by simp[World.shape?,iR]) (Lib.frozen_of_heap iR 0)).mono ?_;rintro e w' ⟨rfl,rfl⟩;refine⟨rfl,by simp[World.setCell,YL,iR],?_,rfl,rfl,rfl,by simp[World.setCell],λk hk=>RowKit.Below.heap_setCell _ _ _ _ (λe=>hk (by simp[e]))⟩;refine bW.kept (row:=some b) ⟨rfl,rfl,rfl,by simp[World.setCell],λk _ hk=>RowKit.Below.heap_setCell _ _ _ _ (λe=>hk (by simp[e]))⟩ (Or.inr aY)
 .refine (Vg b w (by rw[Lib.cell_of_heap iR];rfl)).mono ?_
  rintro e w' ⟨rfl,rfl⟩;exact⟨rfl,iR,bW,rfl,rfl,rfl,rfl,λ_ _=>rfl⟩
end Go.Proofs.YtdoogdbjiijifaaGreatDoor
