/- Lemmas of the proof; no conditions. -/
import Derived.Test.YtdoogdbjiijifaaGreatDoorE9Pbc
namespace Go.Proofs.YtdoogdbjiijifaaGreatDoor
open Go Go.Sx
set_option maxRecDepth 100000
set_option maxHeartbeats 8000000
def KO:List TypeId:=[100,83]
variable {eG:List (Nat×aB)}{its:List (Nat×(aB->aB))}{yl:List aB}{e ql a:Int}{qb nl:Bool}{qf f:Nat->List SV}{x y y0:bB}{r:Rs}{h:oL}
theorem KV{gl:List (Nat×SV)}{gh:List (Nat×List Gh)}:A4 Tryz.prog ⟨dn,ES,eG,gl,KO,gh,its,yl⟩:=by
 refine⟨rfl,Ak7,λt ht=>?_⟩;simp only[KO,XT,ZU,or_false]at ht;rcases ht with rfl|rfl
 all_goals
  refine⟨?_,?_,?_⟩
  .kernel_rfl
  .kernel_rfl
  .decide
def E7(x:fO):Bool :=
 if x.kind==1 then (x.bytes==[])&&(x.why==0) else if x.kind==2 then (x.n==0)&&(x.why==0) else
 if x.kind==3 then ((x.n==0)&&(x.bytes==[]))&&(x.why==0) else if x.kind==4 then ((x.n==0)&&(x.bytes==[]))&&(x.why==0) else
 if x.kind==5 then (((x.why==4)||(x.why==5))||(x.why==1))&&((x.n==0)&&(x.bytes==[])) else false
def zE(c:fG)(x:fO):Int :=
 if E7 x then
  if decide (x.n<0)||decide ((c.out.length:Int)-c.aN<x.n) then 7 else
  if ((c.ph==2)||c.en)||((x.kind==5)&&(c.ph==1)) then 9 else 0
 else 2
structure MN(c:fG):Prop where
 s0:0<=c.aN
 s1:c.aN<=c.out.length
 l:c.out.length<=9223372036854775807
structure EvK(e:Int)(c:fG)(x:fO):Prop where
 h:e=zE c x
def sC:aB:=λ_ xs ls K=>∃(c:fG) (x:fO),xs=[.ptr 0 0,kY x]/\ls=[.aF 144 (bT c)]/\MN c/\∀e,EvK e c x->K (.int .i64 (.a e)) [.aF 144 (bT c)]
theorem Ku{c:fG}{x:fO}(h:E7 x=false):zE c x=2:=by unfold zE;rw[QA (by rw[h];simp)]
theorem NK{c:fG}{x:fO}(h:E7 x=true)(h7:(decide (x.n<0)||decide ((c.out.length:Int)-c.aN<x.n))=true):zE c x=7:=by unfold zE;rw[QC h,QC h7]
theorem NL{c:fG}{x:fO}(h:E7 x=true)(h7:(decide (x.n<0)||decide ((c.out.length:Int)-c.aN<x.n))=false)(h9:(((c.ph==2)||c.en)||((x.kind==5)&&(c.ph==1)))=true):zE c x=9:=by
 unfold zE;rw[QC h,QA (by rw[h7];simp),QC h9]
theorem NJ{c:fG}{x:fO}(h:E7 x=true)(h7:(decide (x.n<0)||decide ((c.out.length:Int)-c.aN<x.n))=false)(h9:(((c.ph==2)||c.en)||((x.kind==5)&&(c.ph==1)))=false):zE c x=0:=by
 unfold zE;rw[QC h,QA (by rw[h7];simp),QA (by rw[h9];simp)]
theorem Ii{k:Int}{c:fG}{x:fO}(hk:EvK k c x)(h:zE c x=e):Sx.Fin (.int .i64 (.a e)) (.int .i64 (.a k)) [.aF 144 (bT c)] [.aF 144 (bT c)]:=By (by rw[hk.h,h]) rfl
theorem MN.w{c:fG}(V:MN c):IntKind.i64.wrap ((c.out.length:Int)-c.aN)=(c.out.length:Int)-c.aN:=by
 have:=V.s0;have:=V.s1;have:=V.l;exact wrap64 (by omega) (by omega)
theorem Akm:Ap Tryz.prog gl 153 sC:=by
 refine Bu (gh:=[]) mixed KV Ae Tryz.func153 (by kernel_rfl) (by kernel_rfl) ?_;intro xs ls K h;unfold sC at h;obtain⟨c,x,rfl,rfl,V,h⟩:=h;obtain⟨k,hk⟩:∃e,EvK e c x:=⟨_,⟨rfl⟩⟩;refine⟨_,_,h k hk,λD hD=>?_⟩;clear h;unfold bT kY;cbv;refine br hD (λk1=>?_) (λk1=>?_)<;>cbv
 .have k1:(x.kind==1)=true:=by subst hD;exact k1
  refine br hD (λg=>?_) (λg=>?_)<;>cbv
  .have g:(!((x.kind==x.kind)&&((x.n==x.n)&&((([]:List UInt8)==x.bytes)&&((0:Int)==x.why)))))=true:=by subst hD;exact g
   have ok:E7 x=false:=by unfold E7;grind
   subst hD;exact Ii hk (Ku ok)
  have g:(!((x.kind==x.kind)&&((x.n==x.n)&&((([]:List UInt8)==x.bytes)&&((0:Int)==x.why)))))=false:=by subst hD;exact g
  have ok:E7 x=true:=by unfold E7;grind
  refine br hD (λg7=>?_) (λg7=>?_)<;>cbv
  .have g7:(decide (x.n<0)||decide (IntKind.i64.wrap ((c.out.length:Int)-c.aN)<x.n))=true:=by subst hD;exact g7
   rw[V.w]at g7;subst hD;exact Ii hk (NK ok g7)
  have g7:(decide (x.n<0)||decide (IntKind.i64.wrap ((c.out.length:Int)-c.aN)<x.n))=false:=by subst hD;exact g7
  rw[V.w]at g7;refine br hD (λg9=>?_) (λg9=>?_)<;>cbv
  .have g9:(((c.ph==2)||c.en)||((x.kind==5)&&(c.ph==1)))=true:=by subst hD;exact g9
   subst hD;exact Ii hk (NL ok g7 g9)
  have g9:(((c.ph==2)||c.en)||((x.kind==5)&&(c.ph==1)))=false:=by subst hD;exact g9
  subst hD;exact Ii hk (NJ ok g7 g9)
 have k1:(x.kind==1)=false:=by subst hD;exact k1
 refine br hD (λk2=>?_) (λk2=>?_)<;>cbv
 .have k2:(x.kind==2)=true:=by subst hD;exact k2
  refine br hD (λg=>?_) (λg=>?_)<;>cbv
  .have g:(!((x.kind==x.kind)&&(((0:Int)==x.n)&&((x.bytes==x.bytes)&&((0:Int)==x.why)))))=true:=by subst hD;exact g
   have ok:E7 x=false:=by unfold E7;grind
   subst hD;exact Ii hk (Ku ok)
  have g:(!((x.kind==x.kind)&&(((0:Int)==x.n)&&((x.bytes==x.bytes)&&((0:Int)==x.why)))))=false:=by subst hD;exact g
  have ok:E7 x=true:=by unfold E7;grind
  refine br hD (λg7=>?_) (λg7=>?_)<;>cbv
  .have g7:(decide (x.n<0)||decide (IntKind.i64.wrap ((c.out.length:Int)-c.aN)<x.n))=true:=by subst hD;exact g7
   rw[V.w]at g7;subst hD;exact Ii hk (NK ok g7)
  have g7:(decide (x.n<0)||decide (IntKind.i64.wrap ((c.out.length:Int)-c.aN)<x.n))=false:=by subst hD;exact g7
  rw[V.w]at g7;refine br hD (λg9=>?_) (λg9=>?_)<;>cbv
  .have g9:(((c.ph==2)||c.en)||((x.kind==5)&&(c.ph==1)))=true:=by subst hD;exact g9
   subst hD;exact Ii hk (NL ok g7 g9)
  have g9:(((c.ph==2)||c.en)||((x.kind==5)&&(c.ph==1)))=false:=by subst hD;exact g9
  subst hD;exact Ii hk (NJ ok g7 g9)
 have k2:(x.kind==2)=false:=by subst hD;exact k2
 refine br hD (λk3=>?_) (λk3=>?_)<;>cbv
 .have k3:(x.kind==3)=true:=by subst hD;exact k3
  refine br hD (λg=>?_) (λg=>?_)<;>cbv
  .have g:(!((x.kind==x.kind)&&(((0:Int)==x.n)&&((([]:List UInt8)==x.bytes)&&((0:Int)==x.why)))))=true:=by subst hD;exact g
   have ok:E7 x=false:=by unfold E7;grind
   subst hD;exact Ii hk (Ku ok)
  have g:(!((x.kind==x.kind)&&(((0:Int)==x.n)&&((([]:List UInt8)==x.bytes)&&((0:Int)==x.why)))))=false:=by subst hD;exact g
  have ok:E7 x=true:=by unfold E7;grind
  refine br hD (λg7=>?_) (λg7=>?_)<;>cbv
  .have g7:(decide (x.n<0)||decide (IntKind.i64.wrap ((c.out.length:Int)-c.aN)<x.n))=true:=by subst hD;exact g7
   rw[V.w]at g7;subst hD;exact Ii hk (NK ok g7)
  have g7:(decide (x.n<0)||decide (IntKind.i64.wrap ((c.out.length:Int)-c.aN)<x.n))=false:=by subst hD;exact g7
  rw[V.w]at g7;refine br hD (λg9=>?_) (λg9=>?_)<;>cbv
  .have g9:(((c.ph==2)||c.en)||((x.kind==5)&&(c.ph==1)))=true:=by subst hD;exact g9
   subst hD;exact Ii hk (NL ok g7 g9)
  have g9:(((c.ph==2)||c.en)||((x.kind==5)&&(c.ph==1)))=false:=by subst hD;exact g9
  subst hD;exact Ii hk (NJ ok g7 g9)
 have k3:(x.kind==3)=false:=by subst hD;exact k3
 refine br hD (λk4=>?_) (λk4=>?_)<;>cbv
 .have k4:(x.kind==4)=true:=by subst hD;exact k4
  refine br hD (λg=>?_) (λg=>?_)<;>cbv
  .have g:(!((x.kind==x.kind)&&(((0:Int)==x.n)&&((([]:List UInt8)==x.bytes)&&((0:Int)==x.why)))))=true:=by subst hD;exact g
   have ok:E7 x=false:=by unfold E7;grind
   subst hD;exact Ii hk (Ku ok)
  have g:(!((x.kind==x.kind)&&(((0:Int)==x.n)&&((([]:List UInt8)==x.bytes)&&((0:Int)==x.why)))))=false:=by subst hD;exact g
  have ok:E7 x=true:=by unfold E7;grind
  refine br hD (λg7=>?_) (λg7=>?_)<;>cbv
  .have g7:(decide (x.n<0)||decide (IntKind.i64.wrap ((c.out.length:Int)-c.aN)<x.n))=true:=by subst hD;exact g7
   rw[V.w]at g7;subst hD;exact Ii hk (NK ok g7)
  have g7:(decide (x.n<0)||decide (IntKind.i64.wrap ((c.out.length:Int)-c.aN)<x.n))=false:=by subst hD;exact g7
  rw[V.w]at g7;refine br hD (λg9=>?_) (λg9=>?_)<;>cbv
  .have g9:(((c.ph==2)||c.en)||((x.kind==5)&&(c.ph==1)))=true:=by subst hD;exact g9
   subst hD;exact Ii hk (NL ok g7 g9)
  have g9:(((c.ph==2)||c.en)||((x.kind==5)&&(c.ph==1)))=false:=by subst hD;exact g9
  subst hD;exact Ii hk (NJ ok g7 g9)
 have k4:(x.kind==4)=false:=by subst hD;exact k4
 refine br hD (λk5=>?_) (λk5=>?_)<;>cbv
 rotate_left
 .have k5:(x.kind==5)=false:=by subst hD;exact k5
  have ok:E7 x=false:=by unfold E7;grind
  subst hD;exact Ii hk (Ku ok)
 have k5:(x.kind==5)=true:=by subst hD;exact k5
 refine br hD (λw=>?_) (λw=>?_)<;>cbv
 .have w:(((x.why != 4)&&(x.why != 5))&&(x.why != 1))=true:=by subst hD;exact w
  have ok:E7 x=false:=by unfold E7;grind
  subst hD;exact Ii hk (Ku ok)
 have w:(((x.why != 4)&&(x.why != 5))&&(x.why != 1))=false:=by subst hD;exact w
 refine br hD (λg=>?_) (λg=>?_)<;>cbv
 .have g:(!((x.kind==x.kind)&&(((0:Int)==x.n)&&((([]:List UInt8)==x.bytes)&&(x.why==x.why)))))=true:=by subst hD;exact g
  have ok:E7 x=false:=by unfold E7;grind
  subst hD;exact Ii hk (Ku ok)
 have g:(!((x.kind==x.kind)&&(((0:Int)==x.n)&&((([]:List UInt8)==x.bytes)&&(x.why==x.why)))))=false:=by subst hD;exact g
 have ok:E7 x=true:=by unfold E7;grind
 refine br hD (λg7=>?_) (λg7=>?_)<;>cbv
 .have g7:(decide (x.n<0)||decide (IntKind.i64.wrap ((c.out.length:Int)-c.aN)<x.n))=true:=by subst hD;exact g7
  rw[V.w]at g7;subst hD;exact Ii hk (NK ok g7)
 have g7:(decide (x.n<0)||decide (IntKind.i64.wrap ((c.out.length:Int)-c.aN)<x.n))=false:=by subst hD;exact g7
 rw[V.w]at g7;refine br hD (λg9=>?_) (λg9=>?_)<;>cbv
 .have g9:(((c.ph==2)||c.en)||((x.kind==5)&&(c.ph==1)))=true:=by subst hD;exact g9
  subst hD;exact Ii hk (NL ok g7 g9)
 have g9:(((c.ph==2)||c.en)||((x.kind==5)&&(c.ph==1)))=false:=by subst hD;exact g9
 subst hD;exact Ii hk (NJ ok g7 g9)
set_option maxHeartbeats 4000000
def fW(v:fO):Me:=⟨v.kind,v.n,v.bytes,v.why⟩
theorem Anw(v:fO):(E7 v=true)↔¬((v.kind<1\/5<v.kind)\/(v.kind≠1/\v.n≠0)\/(v.kind≠2/\v.bytes≠[])\/(v.kind≠5/\v.why≠0)\/(v.kind=5/\v.why≠4/\v.why≠5/\v.why≠1)):=by
 obtain⟨k,n,b,w⟩:=v;unfold E7;simp only
 by_cases h:1<=k/\k<=5
 .have hk:k=1\/k=2\/k=3\/k=4\/k=5:=by omega
  rcases hk with rfl|rfl|rfl|rfl|rfl<;>simp<;>grind
 .have:(if (k==1)=true then (b==[])&&(w==0) else if (k==2)=true then (n==0)&&(w==0) else if (k==3)=true then ((n==0)&&(b==[]))&&(w==0) else if (k==4)=true then ((n==0)&&(b==[]))&&(w==0) else
   if (k==5)=true then (((w==4)||(w==5))||(w==1))&&((n==0)&&(b==[])) else false)=false:=by
   rw[QA (by simp;omega),QA (by simp;omega),QA (by simp;omega),QA (by simp;omega),QA (by simp;omega)]
  rw[this];constructor
  .intro g;cases g
  .intro g;exact absurd (.inl (by omega)) g
theorem AE{s:Ms}(v:fO):zE (Aw s qb ql qf x) v=Cg s (fW v):=by
 have h:=Anw v;unfold zE Cg fW Aw;simp only
 by_cases g:E7 v=true
 .rw[QC g,QA (h.1 g)]
  simp[or_assoc]
 .rw[QA g,QC (Decidable.byContradiction λq=>g (h.2 q))]
set_option maxHeartbeats 16000000
theorem Af7{s:Ms}{x:Me}(h:Cg s x=0):1<=x.kind/\x.kind<=5:=by
 unfold Cg at h
 split at h
 .cases h
 rename_i g;omega
structure LX(s:Ms)(x:bB)(v:fO)(e:Int)(t:Ms):Prop where
 g:pw s.inn x
 ev:e=Cg s (fW v)
 st:t=if e=0 then Be s (fW v) else s
 r:e=0->PW s.inn x s x v.bytes
 n:e=0->LV s.aN v.n
def vS:aB:=λ_ xs ls K=>∃(s:Ms) (qb:Bool) (ql:Int) (qf:Nat->List SV) (x:bB) (v:fO) (e:Int) (t:Ms),
 xs=[.ptr 0 0,kY v]/\ls=[.aF 144 (bT (Aw s qb ql qf x))]/\MN (Aw s qb ql qf x)/\LX s x v e t/\
 ∀y m,cZ s.inn x t.inn y->jJ m (Aw t qb ql qf y)->K (.int .i64 (.a e)) [.aF 144 (bT m)]
theorem We{s0:Rs}{x0:bB}{s:Ms}{v:Me}(Q:cZ s0 x0 s.inn x):∃y,cZ s0 x0 (Be s v).inn y:=by
 unfold Be
 split
 .exact⟨x,Q⟩
 split
 .exact S9 Q
 split
 .exact Y1 Q
 split
 .split<;>exact⟨x,Q⟩
 .exact⟨x,Q⟩
theorem Ano{t:Ms}{m0:fG}(T:Twin r y y0)(hm:jJ m0 (Aw t qb ql qf y0)):
  Fin (.int .i64 (.a e)) (.int .i64 (.a e)) [.aF 144 (bT (Aw t qb ql qf y))] [.aF 144 (bT m0)]:=by
 rw[hm.h];exact Anq (aM.refl _) (Ya (c:=Aw t qb ql qf y) T)
structure ai6(s:Ms)(x:bB)(v:fO)(t1:Ms)(y:bB)(i:Nat):Prop where
 q:cZ s.inn x t1.inn y
 le:i<=5
 a:(i:Int)<v.kind->s=t1/\x=y
 b:v.kind<=(i:Int)->t1=Be s (fW v)
def SK(s:Ms)(qb:Bool)(ql:Int)(qf:Nat->List SV)(x:bB)(v:fO)(m:Nat)(vs:List (Option SV))(hp:List Hl):Prop :=
 ∃(t1:Ms) (y:bB) (i:Nat),vs=[some (.ptr 0 0),some (.ptr 1 0),some (.sl (.a false) (.a 5) 2 uj),some (.int .i64 (.a 5)),some (.int .i64 (.a (i:Int)))]/\
  hp=[.aF 144 (bT (Aw t1 qb ql qf y)),.aF 83 [.int .i64 (.a v.kind),.int .i64 (.a v.n),.str v.bytes,.int .i64 (.a v.why)]]/\ai6 s x v t1 y i/\m=5-i
theorem Abc:Ap Tryz.prog gl 106 vS:=by
 refine Bu (gh:=[]) mixed D0 (Al Akm (Aa Akd (Al jj (Al zv (Al Agg (Al Al3 (Al Aon Ae))))))) Tryz.func106 (by kernel_rfl) (by kernel_rfl) ?_;intro xs ls K h;unfold vS at h;obtain⟨s,qb,ql,qf,x,v,e0,t,rfl,rfl,V,S,h⟩:=h;obtain⟨y0,Q0⟩:∃y0,cZ s.inn x t.inn y0:=by
  rw[S.st]
  split
  .exact We (cZ.refl S.g)
  .exact⟨x,cZ.refl S.g⟩
 obtain⟨m0,fZ⟩:∃m0,jJ m0 (Aw t qb ql qf y0):=⟨_,⟨rfl⟩⟩;have h:=h y0 m0 Q0 fZ;refine⟨_,_,h,λD hD=>?_⟩;clear h;unfold bT Aw kY;cbv;refine⟨Aw s qb ql qf x,v,by subst hD;rfl,by subst hD;rfl,V,λe he=>?_⟩;cbv;have e1:e=e0:=by rw[he.h,AE,S.ev]
 refine br hD (λhb=>?_) (λhb=>?_)
 .cbv
  have hb:e≠0:=by
   have hb:(e != 0)=true:=by subst hD;exact hb
   simpa using hb
  have e2:t=s:=by rw[S.st,QA (by rw[<-e1];exact hb)]
  subst e1 e2 hD;exact Ano (t:=t) ((cZ.refl S.g).eM Q0) fZ
 .cbv
  have hb:e0=0:=by
   have hb:(e != 0)=false:=by subst hD;exact hb
   rw[<-e1];simpa using hb
  have kF:1<=v.kind/\v.kind<=5:=Af7 (x:=fW v) (S.ev.symm.trans hb);obtain⟨J,hJ⟩:∃J,J=SK s qb ql qf x v:=⟨_,rfl⟩;refine⟨[0,3,14,15,16],J,⟨rfl,5,?_⟩,?_⟩
  .rw[hJ]
   subst hD;refine⟨s,x,0,rfl,rfl,⟨cZ.refl S.g,by omega,λ_=>⟨rfl,rfl⟩,λhk=>?_⟩,rfl⟩;exact absurd hk (Int.not_le.mpr (Int.lt_of_lt_of_le (by decide) kF.1))
  intro m3 vs hp hv;rw[hJ]at hv;obtain⟨t1,y1,i,e1,e2,E,lP⟩:=hv;subst e1;unfold bT Aw at e2;cbv at e2;subst e2;cbv;refine br hD (λhc=>?_) (λhc=>?_)
  .have hi:i=0\/i=1\/i=2\/i=3\/i=4:=by
    have hc:decide ((i:Int)<5)=true:=by subst hD;exact hc
    have:=QT hc;omega
   clear hc;rcases hi with rfl|rfl|rfl|rfl|rfl
   .cbv
    refine⟨⟨by subst hD;show (0:Int)<=0;omega,by subst hD;show (0:Int)<5;omega⟩,λj hj=>?_⟩;obtain rfl:j=0:=by
     have:=hj.h;subst hD;have h2:(j:Int)=0:=this;omega
    cbv;refine br hD (λhk=>?_) (λhk=>?_)
    .cbv
     have hk:v.kind=1:=by
      have hk:((1:Int)==v.kind)=true:=by subst hD;exact hk
      exact (eq_of_beq hk).symm
     obtain⟨rfl,rfl⟩:=E.a (by rw[hk];decide);refine⟨Aw s qb ql qf x,v,by subst hD;rfl,by subst hD;rfl,S.n hb,λc' lI=>?_⟩;cbv;have hm:jJ c' (Aw (Be s (fW v)) qb ql qf x):=⟨by rw[lI];unfold Be fW;rw[QC hk];rfl⟩;have Q':cZ s.inn x (Be s (fW v)).inn x:=by unfold Be fW;rw[QC hk];exact cZ.refl S.g
     obtain⟨rfl⟩:=hm;refine⟨5-1,by rw[lP];decide,?_⟩;rw[hJ];subst hD;exact⟨Be s (fW v),x,1,rfl,rfl,⟨Q',by omega,λh=>absurd h (by rw[hk];decide),λ_=>rfl⟩,rfl⟩
    .cbv
     have hk:v.kind≠1:=by
      have hk:((1:Int)==v.kind)=false:=by subst hD;exact hk
      intro e;rw[e]at hk;cases hk
     refine⟨5-1,by rw[lP];decide,?_⟩;rw[hJ];subst hD;exact⟨t1,y1,1,rfl,rfl,⟨E.q,by omega,λh=>E.a (by simp only[ZI]at *;omega),λh=>E.b (by simp only[ZI]at *;omega)⟩,rfl⟩
   .cbv
    refine⟨⟨by subst hD;show (0:Int)<=1;omega,by subst hD;show (1:Int)<5;omega⟩,λj hj=>?_⟩;obtain rfl:j=1:=by
     have:=hj.h;subst hD;have h2:(j:Int)=1:=this;omega
    cbv;refine br hD (λhk=>?_) (λhk=>?_)
    .cbv
     have hk:v.kind=2:=by
      have hk:((2:Int)==v.kind)=true:=by subst hD;exact hk
      exact (eq_of_beq hk).symm
     obtain⟨rfl,rfl⟩:=E.a (by rw[hk];decide);refine⟨s.inn,x,s,qb,ql,qf,x,v,by subst hD;rfl,by subst hD;rfl,S.r hb,λy' c' Q' hm=>?_⟩;cbv;have hA:Az s v.bytes=Be s (fW v):=by unfold Be fW;rw[QA (by simp only;omega),QC hk]
     rw[hA]at Q' hm;obtain⟨rfl⟩:=hm;refine⟨5-2,by rw[lP];decide,?_⟩;rw[hJ];subst hD;exact⟨Be s (fW v),y',2,rfl,rfl,⟨Q',by omega,λh=>absurd h (by rw[hk];decide),λ_=>rfl⟩,rfl⟩
    .cbv
     have hk:v.kind≠2:=by
      have hk:((2:Int)==v.kind)=false:=by subst hD;exact hk
      intro e;rw[e]at hk;cases hk
     refine⟨5-2,by rw[lP];decide,?_⟩;rw[hJ];subst hD;exact⟨t1,y1,2,rfl,rfl,⟨E.q,by omega,λh=>E.a (by simp only[ZI]at *;omega),λh=>E.b (by simp only[ZI]at *;omega)⟩,rfl⟩
   .cbv
    refine⟨⟨by subst hD;show (0:Int)<=2;omega,by subst hD;show (2:Int)<5;omega⟩,λj hj=>?_⟩;obtain rfl:j=2:=by
     have:=hj.h;subst hD;have h2:(j:Int)=2:=this;omega
    cbv;refine br hD (λhk=>?_) (λhk=>?_)
    .cbv
     have hk:v.kind=3:=by
      have hk:((3:Int)==v.kind)=true:=by subst hD;exact hk
      exact (eq_of_beq hk).symm
     obtain⟨rfl,rfl⟩:=E.a (by rw[hk];decide);refine⟨s.inn,x,s,qb,ql,qf,x,v,by subst hD;rfl,by subst hD;rfl,cZ.refl S.g,λy' c' Q' hm=>?_⟩;cbv;have hA:C8 s=Be s (fW v):=by unfold Be fW;rw[QA (by simp only;omega),QA (by simp only;omega),QC hk]
     rw[hA]at Q' hm;obtain⟨rfl⟩:=hm;refine⟨5-3,by rw[lP];decide,?_⟩;rw[hJ];subst hD;exact⟨Be s (fW v),y',3,rfl,rfl,⟨Q',by omega,λh=>absurd h (by rw[hk];decide),λ_=>rfl⟩,rfl⟩
    .cbv
     have hk:v.kind≠3:=by
      have hk:((3:Int)==v.kind)=false:=by subst hD;exact hk
      intro e;rw[e]at hk;cases hk
     refine⟨5-3,by rw[lP];decide,?_⟩;rw[hJ];subst hD;exact⟨t1,y1,3,rfl,rfl,⟨E.q,by omega,λh=>E.a (by simp only[ZI]at *;omega),λh=>E.b (by simp only[ZI]at *;omega)⟩,rfl⟩
   .cbv
    refine⟨⟨by subst hD;show (0:Int)<=3;omega,by subst hD;show (3:Int)<5;omega⟩,λj hj=>?_⟩;obtain rfl:j=3:=by
     have:=hj.h;subst hD;have h2:(j:Int)=3:=this;omega
    cbv;refine br hD (λhk=>?_) (λhk=>?_)
    .cbv
     have hk:v.kind=4:=by
      have hk:((4:Int)==v.kind)=true:=by subst hD;exact hk
      exact (eq_of_beq hk).symm
     obtain⟨rfl,rfl⟩:=E.a (by rw[hk];decide);refine⟨Aw s qb ql qf x,v,by subst hD;rfl,by subst hD;rfl,λc' lI=>?_⟩;cbv;have hA:Be s (fW v)=(if s.phase=0 then broken { s with ended:=true } 8 else { s with ended:=true }):=by unfold Be fW;rw[QA (by simp only;omega),QA (by simp only;omega),QA (by simp only;omega),QC hk]
     have hm:jJ c' (Aw (Be s (fW v)) qb ql qf x):=⟨by
      rw[lI.h,hA];unfold Ud Aw
      by_cases g:s.phase=0
      .rw[QC (by simpa using g),QC g];rfl
      .rw[QA (by simpa using g),QA g]⟩
     have Q':cZ s.inn x (Be s (fW v)).inn x:=by
      rw[hA]
      split<;>exact cZ.refl S.g
     obtain⟨rfl⟩:=hm;refine⟨5-4,by rw[lP];decide,?_⟩;rw[hJ];subst hD;exact⟨Be s (fW v),x,4,rfl,rfl,⟨Q',by omega,λh=>absurd h (by rw[hk];decide),λ_=>rfl⟩,rfl⟩
    .cbv
     have hk:v.kind≠4:=by
      have hk:((4:Int)==v.kind)=false:=by subst hD;exact hk
      intro e;rw[e]at hk;cases hk
     refine⟨5-4,by rw[lP];decide,?_⟩;rw[hJ];subst hD;exact⟨t1,y1,4,rfl,rfl,⟨E.q,by omega,λh=>E.a (by simp only[ZI]at *;omega),λh=>E.b (by simp only[ZI]at *;omega)⟩,rfl⟩
   .cbv
    refine⟨⟨by subst hD;show (0:Int)<=4;omega,by subst hD;show (4:Int)<5;omega⟩,λj hj=>?_⟩;obtain rfl:j=4:=by
     have:=hj.h;subst hD;have h2:(j:Int)=4:=this;omega
    cbv;refine br hD (λhk=>?_) (λhk=>?_)
    .cbv
     have hk:v.kind=5:=by
      have hk:((5:Int)==v.kind)=true:=by subst hD;exact hk
      exact (eq_of_beq hk).symm
     obtain⟨rfl,rfl⟩:=E.a (by rw[hk];decide);refine⟨Aw s qb ql qf x,v,by subst hD;rfl,by subst hD;rfl,λc' lI=>?_⟩;cbv;have hA:Be s (fW v)=broken s v.why:=by unfold Be fW;rw[QA (by simp only;omega),QA (by simp only;omega),QA (by simp only;omega),QA (by simp only;omega)]
     have hm:jJ c' (Aw (Be s (fW v)) qb ql qf x):=⟨by rw[lI.h,hA];rfl⟩;have Q':cZ s.inn x (Be s (fW v)).inn x:=by rw[hA];exact cZ.refl S.g
     obtain⟨rfl⟩:=hm;refine⟨5-5,by rw[lP];decide,?_⟩;rw[hJ];subst hD;exact⟨Be s (fW v),x,5,rfl,rfl,⟨Q',by omega,λh=>absurd h (by rw[hk];decide),λ_=>rfl⟩,rfl⟩
    .cbv
     have hk:v.kind≠5:=by
      have hk:((5:Int)==v.kind)=false:=by subst hD;exact hk
      intro e;rw[e]at hk;cases hk
     refine⟨5-5,by rw[lP];decide,?_⟩;rw[hJ];subst hD;exact⟨t1,y1,5,rfl,rfl,⟨E.q,by omega,λh=>E.a (by simp only[ZI]at *;omega),λh=>E.b (by simp only[ZI]at *;omega)⟩,rfl⟩
  .have hi:i=5:=by
    have hc:decide ((i:Int)<5)=false:=by subst hD;exact hc
    have:=XA hc;have:=E.le;omega
   subst hi;cbv;have hv5:v.kind<=5:=kF.2;have e2:t=t1:=by rw[S.st,QC hb];exact (E.b hv5).symm
   subst e2 hD;have e3:e0=0:=hb;subst e3;exact Ano (t:=t) (E.q.eM Q0) fZ
structure iL(s:Ms)(qb:Bool)(ql:Int)(qf:Nat->List SV)(x:bB):Prop where
 g:u3 s qb ql qf x
 fn:x.fb=true->s.inn.head.fields=[]
 tn:x.cb=true->s.inn.chunks.aE=[]
theorem ov{r:Rq}(h:(Ca r).2=0):(Ca r).1.length<=100000:=by
 unfold Ca at h ⊢
 split at h
 .rename_i g;exact absurd h g
 rename_i g;have g:(Br r).2.2=0:=by simpa using g
 rw[QA (by rw[g];simp)]
 split at h
 .rename_i g;exact absurd h g
 rename_i g2;rw[QA g2];have E:=Iv g;have h1:=E.nY;have h2:=Ab6 E.org;have h3:=E.body;have h4:(I9 (Br r).2.1).1.length<=8192:=by
  unfold I9 at g2 ⊢
  split
  .exact XX _
  .rename_i q
   exact ((Ic _).1 (by simpa using q)).2.2
 have h5:jk.length=11:=rfl;simp only[QF,QH,QV];omega
theorem Ac9{m:List UInt8}(e:(As m h).2.2=0):Ib h=0:=by
 unfold As at e
 split at e
 .cases e
 split at e
 .rename_i g;exact absurd e g
 .rename_i g;simpa using g
theorem Xi(e:Ib h=0):A9 h.fields=0:=by
 unfold Ib at e
 split at e
 .cases e
 .exact e
theorem Ai6(h:Ce r):r.head.fields.length<=100000:=by
 by_cases h0:r.phase=0
 .rw[(h.p0 h0).2.1];decide
 .have:=D6 (Xi (Ac9 (h.p1 h0).2.2.2.2.1));omega
theorem Abt(h:Ce r):r.chunks.aE.length<=100000:=by
 by_cases h0:r.phase=0
 .rw[(h.p0 h0).2.2.2.2.2];decide
 by_cases h2:r.aD=2
 .obtain⟨_,k,_⟩:=h.f2 h0 h2
  rcases k.gN with k4|k4
  .have:=D6 (k.p4 k4).2.1;omega
  .rw[k4];decide
 .rw[(h.p1 h0).2.2.2.2.2.2.1 h2];decide
theorem u3.out{s:Ms}{qb:Bool}{ql:Int}{qf:Nat->List SV}{x:bB}(G:u3 s qb ql qf x):s.out.length<=100000:=by
 have h:=ov (r:=s.eU) (by rw[G.ok.enc])
 rwa [G.ok.enc]at h
theorem u3.bd{s:Ms}(G:u3 s qb ql qf x):s.inn.body.length<=65536:=by
 have h:=G.ok.fit;have:=G.ok.b1;unfold Cl at h;omega
theorem iL.rs{s:Ms}{qb:Bool}{ql:Int}{qf:Nat->List SV}{x:bB}(G:iL s qb ql qf x):pw s.inn x :=
 ⟨G.g.x,G.g.ok.rs,by rw[G.g.ok.met];exact G.g.rq.method,G.fn,G.tn,G.g.bd⟩
theorem iL.FO{s:Ms}(G:iL s qb ql qf x):MD (Aw s qb ql qf x) s.eU.fields s.inn.head.fields s.inn.chunks.aE :=
 ⟨G.g.rq.row,G.g.x.fl,G.g.x.cv.tr,Vu (by rw[G.g.ok.enc]),Ai6 G.g.ok.rs,Abt G.g.ok.rs,G.g.rq.nil,G.fn,G.tn⟩
def ED(x:bB)(g2:Nat->List SV)(n2:Int)(g3:Nat->List SV)(n3:Int):bB:={ x with ff:=g2,fl:=n2,ctf:=g3,ct:=n3 }
theorem iL.own{s:Ms}{n1 n2 n3:Int}{g1 g2 g3:Nat->List SV}(G:iL s qb ql qf x)(C1:Ha g1 n1 s.eU.fields)(C2:Ha g2 n2 s.inn.head.fields)(C3:Ha g3 n3 s.inn.chunks.aE):
  iL s qb n1 g1 (ED x g2 n2 g3 n3):=by
 have R:=G.g.rq;have X:=G.g.x;exact⟨⟨G.g.ok,⟨R.xv,R.xu,R.method,R.target,R.host,R.body,C1.row R.row,R.nil⟩,
  ⟨X.m,X.ph,X.inf,X.ln,X.mi,X.st,X.re,C2.row X.fl,X.fr,X.bo,X.lf,X.cl,X.cd,⟨X.cv.gM,X.cv.iG,C3.row X.cv.tr⟩⟩⟩,G.fn,G.tn⟩
theorem iL.next{s t:Ms}{v:Me}(G:iL s qb ql qf x)(e:Cg s v=0)(ht:rL t (Be s v))(Q:cZ s.inn x t.inn y):iL t qb ql qf y:=by
 obtain⟨rfl⟩:=ht;exact⟨⟨Um G.g.ok e,by rw[(Wd s v).eU];exact G.g.rq,Q.g.v⟩,Q.g.fn,Q.g.tn⟩
theorem Ade{s:Ms}{x:Me}(h:Cg s x=0):0<=x.n/\x.n<=(s.out.length:Int)-s.aN/\s.phase≠2:=by
 have h1:=Af6 h;unfold Cg at h
 split at h
 .cases h
 split at h
 .cases h
 rename_i g;exact⟨by omega,by omega,h1⟩
theorem iL.EY{s t:Ms}{v:fO}(G:iL s qb ql qf x)(hv:v.bytes.length<=1000000)(he:e=Cg s (fW v))(ht:rL t (if e=0 then Be s (fW v) else s)):LX s x v e t:=by
 refine⟨G.rs,he,ht.h,λh0=>⟨⟨cZ.refl G.rs,G.g.ok.b0,G.g.ok.b1⟩,G.g.ok.line,G.g.ok.h0,G.g.ok.h1,G.g.ok.fit,?_,hv⟩,λh0=>?_⟩
 .have h2:=(Ade (he.symm.trans h0)).2.2
  rcases G.g.ok.right with g|g|g
  .exact .inl ⟨g.1,g.2.2.2⟩
  .exact .inr ⟨g.1,g.2.2⟩
  .exact absurd g.1 h2
 .obtain⟨a,b,_⟩:=Ade (he.symm.trans h0)
  have a:0<=v.n:=a;have b:v.n<=(s.out.length:Int)-s.aN:=b;have:=G.g.out;have:=G.g.ok.s0;exact⟨by omega,by omega⟩
theorem iL.evV{s:Ms}(G:iL s qb ql qf x):MN (Aw s qb ql qf x) :=
 ⟨G.g.ok.s0,G.g.ok.s1,XP G.g.out (by decide)⟩
def xn:fG:=⟨0,[],[],[],true,0,λ_=>[],[],[],0,Py [],0,0,0,false,0⟩
structure ai5(s:Ms)(x:bB)(v:fO)(qb:Bool)(m:fG)(e:Int):Prop where
 ev:e=Cg s (fW v)
 z:e≠0->m=xn
 o:e=0->∃(t:Ms) (ql:Int) (qf:Nat->List SV) (y:bB),rL t (Be s (fW v))/\iL t qb ql qf y/\jJ m (Aw t qb ql qf y)/\cZ s.inn x t.inn y/\Ha qf ql s.eU.fields
def vT:aB:=λ_ xs ls K=>∃(s:Ms) (qb:Bool) (ql:Int) (qf:Nat->List SV) (x:bB) (v:fO),xs=[.agg (bT (Aw s qb ql qf x)),kY v]/\ls=[]/\iL s qb ql qf x/\v.bytes.length<=1000000/\
 ∀m e,ai5 s x v qb m e->K (.aI [.agg (bT m),.int .i64 (.a e)]) []
theorem ue{c c0:fG}{e:ST}{e0:Int}(h:jS (bT c) (bT c0))(he:e.den=e0):Fin (.aI [.agg (bT c),.int .i64 e]) (.aI [.agg (bT c0),.int .i64 (.a e0)]) [] [] :=
 Cm (.aI (.cons (.agg h) (.cons (Af he) .nil)))
theorem Ald:Ap Tryz.prog pI 48 vT:=by
 refine Bu (gh:=[]) mixed D0 (Aa Mt (Al (C5 Ahc) (Al (C5 Abc) Ae))) Tryz.func48 (by kernel_rfl) (by kernel_rfl) ?_;intro xs ls K h;unfold vT at h;obtain⟨s,qb,ql,qf,x,v,rfl,rfl,G,hv,h⟩:=h;obtain⟨g1,n1,C1⟩:∃g n,Ha g n s.eU.fields:=⟨_,_,⟨rfl,rfl⟩⟩;obtain⟨g2,n2,C2⟩:∃g n,Ha g n s.inn.head.fields:=⟨_,_,⟨rfl,rfl⟩⟩;obtain⟨g3,n3,C3⟩:∃g n,Ha g n s.inn.chunks.aE:=⟨_,_,⟨rfl,rfl⟩⟩;have G1:=G.own C1 C2 C3;obtain⟨e0,mZ⟩:∃e,e=Cg s (fW v):=⟨_,rfl⟩;obtain⟨t,ht⟩:∃t,rL t (if e0=0 then Be s (fW v) else s):=⟨_,⟨rfl⟩⟩;obtain⟨y0,Q0⟩:∃y0,cZ s.inn (ED x g2 n2 g3 n3) t.inn y0:=by
  rw[ht.h]
  split
  .exact We (cZ.refl G1.rs)
  .exact⟨_,cZ.refl G1.rs⟩
 obtain⟨m0,fZ⟩:∃m0,jJ m0 (if e0=0 then Aw t qb n1 g1 y0 else xn):=⟨_,⟨rfl⟩⟩;have hV:=G1.EY (v:=v) hv mZ ht;have hE:=G1.evV;have hO:=G.FO;have h:=h m0 e0 ⟨mZ,λg=>by rw[fZ.h,QA g],λg=>⟨t,n1,g1,y0,⟨by rw[ht.h,QC g]⟩,G1.next (mZ.symm.trans g) ⟨by rw[ht.h,QC g]⟩ Q0,⟨by rw[fZ.h,QC g]⟩,⟨Q0.g,⟨Q0.n.f,Q0.n.c⟩,Q0.a,Q0.c⟩,C1⟩⟩;refine⟨_,_,h,λD hD=>?_⟩;clear h;unfold bT Aw kY;cbv;refine⟨s,qb,ql,qf,x,by subst hD;rfl,rfl,G.g,?_⟩;cbv;refine br hD (λhb=>?_) (λhb=>?_)<;>cbv
 .exfalso
  have hb:((0:Int) != 0)=true:=by subst hD;exact hb
  cases hb
 clear hb;refine⟨Aw s qb ql qf x,s.eU.fields,s.inn.head.fields,s.inn.chunks.aE,by subst hD;rfl,rfl,hO,λa1 m1 a2 m2 a3 m3 A1 A2 A3=>?_⟩;cbv;obtain⟨rfl,rfl⟩:=A1.eq C1;obtain⟨rfl,rfl⟩:=A2.eq C2;obtain⟨rfl,rfl⟩:=A3.eq C3;refine⟨s,qb,m1,a1,ED x a2 m2 a3 m3,v,e0,t,by subst hD;rfl,by subst hD;rfl,hE,hV,λy m Q hm=>?_⟩;cbv;obtain⟨rfl⟩:=hm;refine br hD (λhb=>?_) (λhb=>?_)<;>cbv
 .have hb:e0≠0:=by
   have hb:(e0 != 0)=true:=by subst hD;exact hb
   simpa using hb
  have hz:m0=xn:=by rw[fZ.h,QA hb]
  subst hz hD;refine ue (c:=xn) (c0:=xn) (jS.refl _) rfl
 .have hb:e0=0:=by
   have hb:(e0 != 0)=false:=by subst hD;exact hb
   simpa using hb
  have hz:m0=Aw t qb m1 a1 y0:=by rw[fZ.h,QC hb]
  subst hz hD;subst hb;exact ue (c:=Aw t qb m1 a1 y) (c0:=Aw t qb m1 a1 y0) (Ya (c:=Aw t qb m1 a1 y) (Q.eM Q0)) rfl
structure VC where
 mi:Int
 st:Int
 re:List UInt8
 fb:Bool
 fl:Int
 ff:Nat->List SV
 fr:Int
 bo:List UInt8
 cb:Bool
 ct:Int
 ctf:Nat->List SV
 kp:Bool
 ru:Bool
 wy:Int
def Pt(c:VC):List SV:=[.int .i64 (.a c.mi),.int .i64 (.a c.st),.str c.re,.sl (.a c.fb) (.a c.fl) 2 c.ff,.int .i64 (.a c.fr),.str c.bo,.sl (.a c.cb) (.a c.ct) 2 c.ctf,.bool (.a c.kp),.bool (.a c.ru),.int .i64 (.a c.wy)]
def Hv(s:Ms)(x:bB):VC :=
 if s.phase=1 then
  (if s.inn.aD=2 then⟨x.mi,x.st,x.re,x.fb,x.fl,x.ff,x.fr,x.cd,x.cb,x.ct,x.ctf,Ru s.inn.head s.inn.aD,((!s.ended&&(s.aN==(s.out.length:Int)))&&Ru s.inn.head s.inn.aD),0⟩
   else⟨x.mi,x.st,x.re,x.fb,x.fl,x.ff,x.fr,x.bo,true,0,λ_=>[],Ru s.inn.head s.inn.aD,((!s.ended&&(s.aN==(s.out.length:Int)))&&Ru s.inn.head s.inn.aD),0⟩)
 else⟨0,0,[],true,0,λ_=>[],0,[],true,0,λ_=>[],false,false,if s.phase=2 then s.why else 0⟩
structure ai3(s:Ms)(x:bB)(c:VC)(e:Int):Prop where
 h:c=Hv s x
 he:e=if s.phase=0 then 9 else 0
theorem FY{s:Ms}(T:Twin s.inn y y0):jS (Pt (Hv s y)) (Pt (Hv s y0)):=by
 obtain⟨V,W,hf,hc⟩:=T;have z:∀v,aM v v:=aM.refl;have e1:=V.mi.trans W.mi.symm;have e2:=V.st.trans W.st.symm;have e3:=V.re.trans W.re.symm;have e4:=V.fr.trans W.fr.symm;have e5:=V.cd.trans W.cd.symm;have e6:=V.bo.trans W.bo.symm;unfold Hv
 split
 .split
  .unfold Pt
   rw[e1,e2,e3,e4,e5,hf,hc];exact .cons (z _) (.cons (z _) (.cons (z _) (.cons (Fe V.fl W.fl rfl rfl rfl) (.cons (z _) (.cons (z _) (.cons (Fe V.cv.tr W.cv.tr rfl rfl rfl) (.cons (z _) (.cons (z _) (.cons (z _) .nil)))))))))
  .unfold Pt
   rw[e1,e2,e3,e4,e6,hf];exact .cons (z _) (.cons (z _) (.cons (z _) (.cons (Fe V.fl W.fl rfl rfl rfl) (.cons (z _) (.cons (z _) (.cons (z _) (.cons (z _) (.cons (z _) (.cons (z _) .nil)))))))))
 .exact jS.refl _
def vL:aB:=λ_ xs ls K=>∃(s:Ms) (qb:Bool) (ql:Int) (qf:Nat->List SV) (x:bB),xs=[.agg (bT (Aw s qb ql qf x))]/\ls=[]/\iL s qb ql qf x/\
 ∀c e,ai3 s x c e->K (.aI [.agg (Pt c),.int .i64 (.a e)]) []
theorem SE{re bo:List UInt8}{mi wW st rC fl zA fr oJ ct qC wy wy' e e':ST}{fb zD cb rK kp GC ru ru':BT}{ff zC ctf gR:Nat->List SV}
  (h3:mi.den=wW.den) (h4:st.den=rC.den) (h5:aM (.sl fb fl 2 ff) (.sl zD zA 2 zC)) (h6:fr.den=oJ.den) (kC:aM (.sl cb ct 2 ctf) (.sl rK qC 2 gR)) (KF:kp.den=GC.den) (qT:ru.den=ru'.den) (h14:wy.den=wy'.den) (od:e.den=e'.den):
  Fin (.aI [.agg [.int .i64 mi,.int .i64 st,.str re,.sl fb fl 2 ff,.int .i64 fr,.str bo,.sl cb ct 2 ctf,.bool kp,.bool ru,.int .i64 wy],.int .i64 e])
   (.aI [.agg [.int .i64 wW,.int .i64 rC,.str re,.sl zD zA 2 zC,.int .i64 oJ,.str bo,.sl rK qC 2 gR,.bool GC,.bool ru',.int .i64 wy'],.int .i64 e']) [] [] :=
 Cm (.aI (.cons (aM.agg (.cons (Af h3) (.cons (Af h4) (.cons (Cp _) (.cons h5 (.cons (Af h6) (.cons (Cp _) (.cons kC (.cons (Dh KF) (.cons (Dh qT) (.cons (Af h14) .nil))))))))))) (.cons (Af od) .nil)))
theorem NO{b:BT}{n:ST}(hb:b.den=true)(hn:n.den=0):aM (.sl b n 2 f) (.sl (.a true) (.a 0) 2 λ_=>[]):=.sl hb hn λi hi=>absurd hi (by rw[hn];omega)
theorem u3.ph{s:Ms}(G:u3 s qb ql qf x):s.phase=0\/s.phase=2\/(s.phase=1/\s.inn.phase=2):=by
 rcases G.ok.right with g|g|g
 .exact .inl g.1
 .exact .inr (.inr ⟨g.1,g.2.2⟩)
 .exact .inr (.inl g.1)
theorem Ak5:Ap Tryz.prog pI 37 vL:=by
 refine Bq (gh:=[]) mixed D0 (Aa Mt (Aa (C5 ju) Ae)) Tryz.func37 (by kernel_rfl) (by kernel_rfl) ?_;intro xs ls K h;unfold vL at h;obtain⟨s,qb,ql,qf,x,rfl,rfl,G,h⟩:=h;obtain⟨kp,gn⟩:∃kp,kp=Ru s.inn.head s.inn.aD:=⟨_,rfl⟩;obtain⟨ru,OM⟩:∃ru,ru=((!s.ended&&(s.aN==(s.out.length:Int)))&&kp):=⟨_,rfl⟩;have X:=G.g.x;obtain⟨c,hc⟩:∃c,c=Hv s x:=⟨_,rfl⟩;obtain⟨e,he⟩:∃e:Int,e=if s.phase=0 then 9 else 0:=⟨_,rfl⟩
 have hK:=h c e ⟨hc,he⟩;have qM:s.phase=0->c=⟨0,0,[],true,0,λ_=>[],0,[],true,0,λ_=>[],false,false,0⟩/\e=9:=λg=>by
  rw[hc,he];unfold Hv;rw[QA (by rw[g];decide),QA (by rw[g];decide),QC g];exact⟨rfl,rfl⟩
 have bZ:s.phase=2->c=⟨0,0,[],true,0,λ_=>[],0,[],true,0,λ_=>[],false,false,s.why⟩/\e=0:=λg=>by
  rw[hc,he];unfold Hv;rw[QA (by rw[g];decide),QC g,QA (by rw[g];decide)];exact⟨rfl,rfl⟩
 have yi:s.phase=1->s.inn.aD=2->c=⟨x.mi,x.st,x.re,x.fb,x.fl,x.ff,x.fr,x.cd,x.cb,x.ct,x.ctf,kp,ru,0⟩/\e=0:=λg f=>by
  rw[hc,he,OM,gn];unfold Hv;rw[QC g,QC f,QA (by rw[g];decide)];exact⟨rfl,rfl⟩
 have hr4:s.phase=1->s.inn.aD≠2->c=⟨x.mi,x.st,x.re,x.fb,x.fl,x.ff,x.fr,x.bo,true,0,λ_=>[],kp,ru,0⟩/\e=0:=λg f=>by
  rw[hc,he,OM,gn];unfold Hv;rw[QC g,QA f,QA (by rw[g];decide)];exact⟨rfl,rfl⟩
 clear hc he;have cI:x.fr=s.inn.aD:=X.fr;have eB:=G.g.ph;refine⟨_,_,hK,λD hD=>?_⟩;clear hK h;unfold bT Aw;unfold Pt;cbv;refine⟨s,qb,ql,qf,x,by subst hD;rfl,rfl,G.g,?_⟩;cbv;refine br hD (λhb=>?_) (λhb=>?_)<;>cbv
 .exfalso
  have hb:((0:Int) != 0)=true:=by subst hD;exact hb
  cases hb
 clear hb;refine br hD (λhb=>?_) (λhb=>?_)<;>cbv
 .have hb:s.phase=0:=by
   have hb:(s.phase==0)=true:=by subst hD;exact hb
   exact eq_of_beq hb
  obtain⟨rfl,rfl⟩:=qM hb;subst hD;exact SE rfl rfl (NO rfl rfl) rfl (NO rfl rfl) rfl rfl rfl rfl
 have h0:s.phase≠0:=by
  have hb:(s.phase==0)=false:=by subst hD;exact hb
  simpa using hb
 clear hb;refine br hD (λhb=>?_) (λhb=>?_)<;>cbv
 .have hb:s.phase=2:=by
   have hb:(s.phase==2)=true:=by subst hD;exact hb
   exact eq_of_beq hb
  obtain⟨rfl,rfl⟩:=bZ hb;subst hD;exact SE rfl rfl (NO rfl rfl) rfl (NO rfl rfl) rfl rfl rfl rfl
 have h2:s.phase=1/\s.inn.phase=2:=by
  have hb:(s.phase==2)=false:=by subst hD;exact hb
  have hb:s.phase≠2:=by simpa using hb
  exact (eB.resolve_left h0).resolve_left hb
 clear hb;refine⟨s.inn,bB.nm D x,by subst hD;rfl,rfl,by subst hD;exact G.g.x,G.g.ok.rs,by rw[G.g.ok.met];exact G.g.rq.method,λq=>?_,λ_ bo cb ct ctf k2 aY f2 fn2=>?_⟩<;>cbv
 .exfalso
  exact q h2.2
 obtain rfl:k2=kp:=aY.trans gn.symm;refine br hD (λhb=>?_) (λhb=>?_)<;>cbv
 .exfalso
  have hb:((0:Int) != 0)=true:=by subst hD;exact hb
  cases hb
 clear hb
 by_cases h3:s.inn.aD=2
 .obtain⟨rfl,rfl,rfl,rfl⟩:=f2 h3
  obtain⟨rfl,rfl⟩:=yi h2.1 h3;subst hD;exact SE rfl rfl (aM.refl _) rfl (aM.refl _) rfl (by exact OM.symm) rfl rfl
 .obtain⟨rfl,rfl,rfl,rfl⟩:=fn2 h3
  obtain⟨rfl,rfl⟩:=hr4 h2.1 h3;subst hD;exact SE rfl rfl (aM.refl _) rfl (NO rfl rfl) rfl (by exact OM.symm) rfl rfl
set_option maxHeartbeats 8000000
def Aai(x:fO):List SV:=[.int .i64 (.a x.kind),.int .i64 (.a x.n),.str x.bytes,.int .i64 (.a x.why)]
def TL:fO:=⟨0,0,[],0⟩
structure BY(f:Nat->List SV)(n:Int)(l:List fO):Prop where
 n:n=l.length
 f:∀i,i<l.length->f i=Aai (l.getD i TL)
 len:l.length<=9223372036854775807
def xp(r:Rq)(out:List UInt8)(a b:Int):Ms:=⟨r,out,0,FI r.method,a,b,0,false,0⟩
theorem lg{r:Rq}{b:Int}(he:(Ca r).2=0)(hi:Xb a b=true):If (xp r (Ca r).1 a b):=by
 unfold Xb at hi;simp only[QE,QG]at hi;obtain⟨⟨⟨h1,h2⟩,h3⟩,h4⟩:=hi;refine⟨?_,by show (0:Int)<=0;omega,by show (0:Int)<=_;omega,h1,h2,h3,h4,rfl,wi (Vt he),?_,?_,λ_=>⟨rfl,rfl,rfl⟩,.inl ⟨rfl,rfl,rfl,by show (0:Int)≠2;decide⟩⟩
 .show Ca r=((Ca r).1,0)
  rw[<-he]
 .show ((([]:List UInt8).length:Nat):Int)<=a
  simp only[QV];omega
 .refine⟨?_,?_⟩
  .show ((([]:List UInt8).length:Nat):Int)+((([]:List UInt8).length:Nat):Int)<=b
   simp only[QV];omega
  .show (0:Int)<=b-(((([]:List UInt8).length:Nat):Int)+((([]:List UInt8).length:Nat):Int))
   simp only[QV];omega
theorem xo{r:Rq}{nb:Bool}{n n':Int}{f':Nat->List SV}{b:Int}(R:M1 r nl n f)(he:(Ca r).2=0)(hi:Xb a b=true)(R':A0 f' n' r.fields)(hn:nb=r.fields.isEmpty):
  iL (xp r (Ca r).1 a b) nb n' f' (Py r.method) :=
 ⟨⟨lg he hi,⟨R.xv,R.xu,R.method,R.target,R.host,R.body,R',λh=>List.isEmpty_iff.mp (by show r.fields.isEmpty=true;rw[<-hn,h])⟩,FH r.method⟩,λ_=>rfl,λ_=>rfl⟩
set_option maxHeartbeats 16000000
def RH(s:Ms)(n:Int):List UInt8×Int:=if n<0 then ([],7) else if s.phase=2 then ([],9) else ((s.out.drop s.aN.toNat).take n.toNat,0)
structure ME(s:Ms)(n:Int)(t:List UInt8)(e:Int):Prop where
 h:(t,e)=RH s n
def wK:aB:=λ_ xs ls K=>∃(s:Ms) (qb:Bool) (ql:Int) (qf:Nat->List SV) (x:bB) (n:Int),xs=[.agg (bT (Aw s qb ql qf x)),.int .i64 (.a n)]/\ls=[]/\iL s qb ql qf x/\
 ∀t e,ME s n t e->K (.aI [.str t,.int .i64 (.a e)]) []
theorem Amt:Ap Tryz.prog pI 35 wK:=by
 refine Bq (gh:=[]) mixed D0 (Aa Mt Ae) Tryz.func35 (by kernel_rfl) (by kernel_rfl) ?_;intro xs ls K h;unfold wK at h;obtain⟨s,qb,ql,qf,x,n,rfl,rfl,G,h⟩:=h;obtain⟨k,hk⟩:∃k,k=RH s n:=⟨_,rfl⟩;obtain⟨t,e⟩:=k;unfold RH at hk;refine⟨_,_,h t e ⟨hk⟩,λD hD=>?_⟩;clear h;unfold bT Aw;cbv;refine⟨s,qb,ql,qf,x,by subst hD;rfl,rfl,G.g,?_⟩;cbv;refine br hD (λhb=>?_) (λhb=>?_)<;>cbv
 .exfalso
  have hb:((0:Int) != 0)=true:=by subst hD;exact hb
  cases hb
 clear hb;refine br hD (λhb=>?_) (λhb=>?_)<;>cbv
 .have hb:n<0:=by
   have hb:decide (n<0)=true:=by subst hD;exact hb
   exact QT hb
  rw[QC hb]at hk;obtain⟨rfl,rfl⟩:=Prod.mk.inj hk;subst hD;exact Cm (aM.refl _)
 have h0:¬n<0:=by
  have hb:decide (n<0)=false:=by subst hD;exact hb
  exact XA hb
 rw[QA h0]at hk;clear hb;refine br hD (λhb=>?_) (λhb=>?_)<;>cbv
 .have hb:s.phase=2:=by
   have hb:(s.phase==2)=true:=by subst hD;exact hb
   exact eq_of_beq hb
  rw[QC hb]at hk;obtain⟨rfl,rfl⟩:=Prod.mk.inj hk;subst hD;exact Cm (aM.refl _)
 have h2:s.phase≠2:=by
  have hb:(s.phase==2)=false:=by subst hD;exact hb
  simpa using hb
 rw[QA h2]at hk;clear hb;have jO:=G.g.ok.s0;have cC:=G.g.ok.s1;refine⟨by subst hD;exact⟨by show (0:Int)<=s.aN;exact jO,by show s.aN<=(s.out.length:Int);exact cC,by show (s.out.length:Int)<=s.out.length;omega⟩,λu hu=>?_⟩;cbv;have uG:u=s.out.drop s.aN.toNat:=by
  have h1:u=(s.out.drop s.aN.toNat).take (((s.out.length:Int)).toNat-s.aN.toNat):=by subst hD;exact hu.h
  rw[h1,XJ (by rw[QX];omega)]
 intro r hr;cbv;have bP:r=min n (u.length:Int):=by subst hD;exact hr.h
 refine⟨by subst hD;exact⟨by show (0:Int)<=0;omega,by show (0:Int)<=r;omega,by show r<=(u.length:Int);omega⟩,λu2 IA=>?_⟩;cbv;have x9:u2=u.take n.toNat:=by
  have h1:u2=(u.drop (0:Int).toNat).take (r.toNat-(0:Int).toNat):=by subst hD;exact IA.h
  rw[h1,bP];simp only[Int.toNat_zero,ZT,Nat.sub_zero];rw[show (min n (u.length:Int)).toNat=min n.toNat u.length by omega];rw[<-UW,YC]
 rw[<-uG,<-x9]at hk;obtain⟨rfl,rfl⟩:=Prod.mk.inj hk;subst hD;exact Cm (aM.refl _)
def gW(s:Ms)(v:fO):Ms:=if Cg s (fW v)=0 then Be s (fW v) else s
structure MC(s:Ms)(x:bB)(l:List fO)(qb:Bool)(m:fG):Prop where
 o:∃(t:Ms) (ql:Int) (qf:Nat->List SV) (y:bB),rL t (l.foldl gW s)/\iL t qb ql qf y/\jJ m (Aw t qb ql qf y)/\cZ s.inn x t.inn y
theorem cZ.trans{s t u:Rs}{x y z:bB}(Q:cZ s x t y)(R:cZ t y u z):cZ s x u z:=by
 refine⟨R.g,⟨?_,?_⟩,λh=>?_,λh=>?_⟩
 .rw[R.n.f,Q.n.f]
  by_cases ht:t.phase=0
  .have hs:s.phase=0:=Decidable.byContradiction λg=>(Q.a g).1 ht
   by_cases hu:u.phase=0
   .rw[QA (λh=>h.1 hu),QA (λh=>h.1 ht),QA (λh=>h.1 hu)]
   .rw[QC ⟨hu,ht⟩,QC ⟨hu,hs⟩]
  .obtain⟨p2,p1⟩:=R.a ht
   rw[QA (λh=>ht h.2)]
   by_cases hs:s.phase=0
   .rw[QC ⟨ht,hs⟩,QC ⟨p2,hs⟩,p1]
   .rw[QA (λh=>hs h.2),QA (λh=>hs h.2)]
 .rw[R.n.c,Q.n.c]
  unfold kJ
  by_cases ht:t.chunks.phase=4
  .rw[R.c ht]
   rw[QA (λh=>h.2 ht)]
  .have hs:s.chunks.phase≠4:=λg=>ht (by rw[Q.c g];exact g)
   by_cases hu:u.chunks.phase=4
   .rw[QC ⟨hu,ht⟩,QC ⟨hu,hs⟩]
   .rw[QA (λh=>hu h.1),QA (λh=>ht h.1),QA (λh=>hu h.1)]
 .obtain⟨q1,q2⟩:=Q.a h
  obtain⟨p1,p2⟩:=R.a q1;exact⟨p1,p2.trans q2⟩
 .have h1:=Q.c h
  rw[R.c (by rw[h1];exact h),h1]
theorem iL.stay{s:Ms}(G:iL s qb ql qf x)(Q:cZ s.inn x s.inn y):iL s qb ql qf y :=
 ⟨⟨G.g.ok,G.g.rq,Q.g.v⟩,Q.g.fn,Q.g.tn⟩
theorem Aaa{s0:Rs}{x0:bB}:∀(l:List fO) (s:Ms) (x:bB),cZ s0 x0 s.inn x->∃y,cZ s0 x0 (l.foldl gW s).inn y
 | [],s,x,Q=>⟨x,Q⟩
 |v :: l,s,x,Q=>by
  have:∃y,cZ s0 x0 (gW s v).inn y:=by
   unfold gW
   split
   .exact We Q
   .exact⟨x,Q⟩
  obtain⟨y,R⟩:=this;exact Aaa l _ y R
def KT(s:Ms)(l:List fO)(k:Nat):List SV:=[.int .i64 (.a (Cg ((l.take k).foldl gW s) (fW (l.getD k TL))))]
structure ak4(N:Int)(l:List fO):Prop where
 h:N=l.length
structure PlJ(l:List fO)(s0 s t:Ms)(x0:bB)(qb:Bool)(ql:Int)(qf:Nat->List SV)(y:bB)(i:Nat)(I:Int)(m:Nat)(n:Int)(b:Bool)(f:Nat->List SV):Prop where
 at_:AtR l i I m
 se:s=(l.take i).foldl gW s0
 q:cZ s0.inn x0 s.inn y
 r:iL s qb ql qf y
 len:n=i
 bb:b=decide (i=0)
 row:∀k,k<i->f k=KT s0 l k
def pyJ(l:List fO)(nl:Bool)(N:Int)(F:Nat->List SV)(s0 t:Ms)(x0:bB)(qb:Bool)(ql:Int)(qf:Nat->List SV)(c0:List SV)(m:Nat)(vs:List (Option SV))(hp:List Hl):Prop :=
 ∃(s:Ms) (y:bB) (i:Nat) (I n:Int) (b:Bool) (f:Nat->List SV),vs=[some (.ptr 1 0),some (.ptr 2 0),some (.dO (.a b) (.a n) 1 f 3),some (.sl (.a nl) (.a N) 4 F),some (.int .i64 (.a N)),some (.int .i64 (.a I))]/\
  hp=[.aF 59 c0,.aF 59 (bT xn),.aF 144 (bT (Aw s qb ql qf y)),.tail 28 (.a n) 1]/\PlJ l s0 s t x0 qb ql qf y i I m n b f
def wI:aB:=λ_ xs ls K=>∃(s:Ms) (qb:Bool) (ql:Int) (qf:Nat->List SV) (x:bB) (l:List fO) (nl:Bool) (n:Int) (f:Nat->List SV),xs=[.agg (bT (Aw s qb ql qf x)),.sl (.a nl) (.a n) 4 f]/\ls=[]/\iL s qb ql qf x/\BY f n l/\l.length<=500/\(∀v∈l,v.bytes.length<=1000000)/\
 ∀m nb N g,MC s x l qb m->K (.aI [.sl (.a nb) (.a N) 1 g,.agg (bT m),.int .i64 (.a 0)]) []
def ttP:List (Nat×TI):=(76,⟨.slice 28,1,24,[(.sl (.l true) (.l 0) 1 λ_=>[])]⟩) :: ES
theorem vk:Sx.yN Tryz.prog ttP=true:=by kernel_rfl
theorem An5{gl:List (Nat×SV)}{gh:List (Nat×List Gh)}:A4 Tryz.prog ⟨dn,ttP,eG,gl,eqs,gh,its,yl⟩:=by
 refine⟨rfl,vk,λt ht=>?_⟩;simp only[eqs,XT,ZU,or_false]at ht;rcases ht with rfl
 all_goals
  refine⟨?_,?_,?_⟩
  .kernel_rfl
  .kernel_rfl
  .decide
theorem Ame:Ap Tryz.prog pI 43 wI:=by
 refine Bu (gh:=[(7,[.attach 9 28])]) mixed An5 (Aa Mt (Al (C5 Ahc) (Al (C5 Abc) Ae))) Tryz.func43 (by kernel_rfl) (by kernel_rfl) ?_;intro xs ls K h;unfold wI at h;obtain⟨s,qb,ql,qf,x,l,nl,n,f,rfl,rfl,G,E,hl,gH,h⟩:=h;obtain⟨g1,n1,C1⟩:∃g n,Ha g n s.eU.fields:=⟨_,_,⟨rfl,rfl⟩⟩;obtain⟨g2,n2,C2⟩:∃g n,Ha g n s.inn.head.fields:=⟨_,_,⟨rfl,rfl⟩⟩;obtain⟨g3,n3,C3⟩:∃g n,Ha g n s.inn.chunks.aE:=⟨_,_,⟨rfl,rfl⟩⟩;have G1:=G.own C1 C2 C3;obtain⟨t,ht⟩:∃t,rL t (l.foldl gW s):=⟨_,⟨rfl⟩⟩;obtain⟨y0,Q0⟩:∃y0,cZ s.inn (ED x g2 n2 g3 n3) t.inn y0:=by
  rw[ht.h];exact Aaa l s _ (cZ.refl G1.rs)
 have hT:∀(l:List fO) (s:Ms),If s->If (l.foldl gW s)/\(l.foldl gW s).eU=s.eU:=by
  intro l
  induction l with
  |nil=>intro s h;exact⟨h,rfl⟩
  |cons v l ih =>
   intro s h;have:If (gW s v)/\(gW s v).eU=s.eU:=by
    unfold gW
    split
    .rename_i e;exact⟨Um h e,(Wd s (fW v)).eU⟩
    .exact⟨h,rfl⟩
   obtain⟨a,b⟩:=ih (gW s v) this.1;exact⟨a,b.trans this.2⟩
 have GT:iL t qb n1 g1 y0:=by
  obtain⟨a,b⟩:=hT l s G.g.ok;rw[<-ht.h]at a b;exact⟨⟨a,by rw[b];exact G1.g.rq,Q0.g.v⟩,Q0.g.fn,Q0.g.tn⟩
 obtain⟨m0,fZ⟩:∃m0,jJ m0 (Aw t qb n1 g1 y0):=⟨_,⟨rfl⟩⟩;have hO:=G.FO;obtain⟨kb,lR⟩:∃b,b=decide (l.length=0):=⟨_,rfl⟩;obtain⟨kN,hkN⟩:∃N,ak4 N l:=⟨(l.length:Int),⟨rfl⟩⟩;obtain⟨kg,hkg⟩:∃g,g=KT s l:=⟨_,rfl⟩;have h:=h m0 kb kN kg ⟨t,n1,g1,y0,ht,GT,fZ,⟨Q0.g,⟨Q0.n.f,Q0.n.c⟩,Q0.a,Q0.c⟩⟩;have hMs:∀s':Ms,iL s' qb n1 g1 y0->True:=λ_ _=>trivial;refine⟨_,_,h,λD hD=>?_⟩;clear h hT hMs;unfold bT Aw;cbv;refine⟨s,qb,ql,qf,x,by subst hD;rfl,rfl,G.g,?_⟩;cbv;refine br hD (λhb=>?_) (λhb=>?_)<;>cbv
 .exfalso
  have hb:((0:Int) != 0)=true:=by subst hD;exact hb
  cases hb
 clear hb;refine br hD (λhb=>?_) (λhb=>?_)<;>cbv
 .exfalso
  have hb:decide (500<n)=true:=by subst hD;exact hb
  have:=QT hb;have:=E.n;omega
 clear hb;refine⟨Aw s qb ql qf x,s.eU.fields,s.inn.head.fields,s.inn.chunks.aE,by subst hD;rfl,rfl,hO,λa1 m1 a2 m2 a3 m3 A1 A2 A3=>?_⟩;cbv;obtain⟨rfl,rfl⟩:=A1.eq C1;obtain⟨rfl,rfl⟩:=A2.eq C2;obtain⟨rfl,rfl⟩:=A3.eq C3;obtain⟨J,hJ⟩:∃J,J=pyJ l nl n f s t (ED x a2 m2 a3 m3) qb m1 a1 (bT (Aw s qb ql qf x)):=⟨_,rfl⟩;refine⟨[5,8,9,24,25,26],J,⟨rfl,l.length,?_⟩,?_⟩
 .rw[hJ]
  subst hD;refine⟨s,ED x a2 m2 a3 m3,0,0,0,true,λ_=>[],rfl,rfl,⟨AtR.zero E.len,rfl,cZ.refl G1.rs,G1,rfl,rfl,λk hk=>absurd hk (by omega)⟩⟩
 have hQ0:=Q0;clear G1 Q0;intro m9 vs hp hv;rw[hJ]at hv;obtain⟨s1,y,i,I,N,b,F,e1,e2,V⟩:=hv;subst e1;unfold bT Aw at e2;cbv at e2;subst e2;cbv;refine br hD (λhb=>?_) (λhb=>?_)<;>cbv
 .have aC:=V.at_.lt E.n (QT (p:=I<n) hb)
  have hs:=V.at_.step hD aC;clear hb;have lY:=V.at_.lY hD E.n aC;refine⟨lY,λj hj=>?_⟩;obtain rfl:=V.at_.j hD hj;clear hj;obtain⟨v,hv⟩:∃v,v=l.getD j TL:=⟨_,rfl⟩;have hvb:v.bytes.length<=1000000:=by
   rw[hv,QD,QB aC];exact gH _ (XO aC)
  have ef:=E.f j aC;rw[<-hv]at ef;cbv;rw[ef];cbv;obtain⟨e0,mZ⟩:∃e,e=Cg s1 (fW v):=⟨_,rfl⟩;obtain⟨t1,CR⟩:∃t,rL t (if e0=0 then Be s1 (fW v) else s1):=⟨_,⟨rfl⟩⟩;have eY:t1=gW s1 v:=by rw[CR.h,mZ];rfl
  refine⟨s1,qb,m1,a1,y,v,e0,t1,by subst hD;rfl,by subst hD;rfl,V.r.evV,V.r.EY hvb mZ CR,λy2 m2 Q hm=>?_⟩;cbv;obtain⟨rfl⟩:=hm;intro g hg;cbv;have oE:g 0=[.int .i64 (.a e0)]:=by subst hD;exact hg.h 0 _ rfl
  clear hg;refine⟨by have hN:=V.len;subst hD;exact⟨rfl,by show (N+1) * 8<=_;omega,by show N+1<=_;omega⟩,λf' n' hm=>?_⟩;cbv;have M:Mw f' n' N 1 F g:=by subst hD;exact hm
  clear hm;have PA:iL t1 qb m1 a1 y2:=by
   by_cases g:e0=0
   .exact V.r.next (mZ.symm.trans g) ⟨by rw[CR.h,QC g]⟩ Q
   .have e:t1=s1:=by rw[CR.h,QA g]
    subst e;exact V.r.stay Q
  have IH:t1=(l.take (j+1)).foldl gW s:=by
   rw[UA,QB aC,List.foldl_append,<-V.se,eY,hv,QD,QB aC];rfl
  refine⟨_,hs.1,?_⟩;rw[hJ];subst hD;refine⟨t1,y2,j+1,_,n',(b&&false),f',rfl,rfl,⟨hs.2,IH,V.q.trans Q,PA,?_,?_,λk hk=>?_⟩⟩
  .have hN:=V.len
   rw[M.len,hN];push_cast;rfl
  .rw[ZO];exact (UL (by omega)).symm
  .have hN:=V.len
   by_cases g:k<j
   .rw[M.lo k (by omega),V.row k g]
   .obtain rfl:k=j:=by omega
    rw[M.hi k 0 (by omega) (by omega),oE,mZ,V.se,hv];rfl
 .have hi:=V.at_.eq E.n (XA (p:=I<n) hb)
  have iU:=V.len;have bX:=V.bb;have IH:=V.se;rw[hi,YC,<-ht.h]at IH;have aJ:=V.row;rw[hi]at aJ iU bX;have T2:Twin t.inn y y0:=by have:=V.q;rw[IH]at this;exact this.eM hQ0
  have hm:=fZ.h;subst hm;subst IH hD;refine Cm (.aI (.cons (.sl (by exact bX.trans lR.symm) (by exact iU.trans hkN.h.symm) λk hk=>?_) (.cons (.agg (Ya (c:=Aw s1 qb m1 a1 y) T2)) (.cons (Af rfl) .nil))));have hk:(k:Int)<N:=hk;rw[hkg];exact aJ k (by omega)
def rS:aB:=λ_ xs ls K=>∃(n:Int),xs=[.int .i64 (.a n)]/\ls=[]/\∀v:fO,v=⟨1,n,[],0⟩->K (kY v) []
theorem Aiz:Ap Tryz.prog gl 46 rS:=by
 refine Bq (gh:=[]) mixed D0 Ae Tryz.func46 (by kernel_rfl) (by kernel_rfl) ?_;intro xs ls K h;unfold rS at h;obtain⟨n,rfl,rfl,h⟩:=h;refine⟨_,_,h _ rfl,λD hD=>?_⟩;clear h;unfold kY;cbv;subst hD;exact Cm (.agg (.cons (Af rfl) (.cons (Af rfl) (.cons (aM.refl _) (.cons (Af rfl) .nil)))))
def wO:aB:=λ_ xs ls K=>∃(b:List UInt8),xs=[.str b]/\ls=[]/\∀v:fO,v=⟨2,0,b,0⟩->K (kY v) []
theorem Ac5:Ap Tryz.prog gl 47 wO:=by
 refine Bq (gh:=[]) mixed D0 Ae Tryz.func47 (by kernel_rfl) (by kernel_rfl) ?_;intro xs ls K h;unfold wO at h;obtain⟨n,rfl,rfl,h⟩:=h;refine⟨_,_,h _ rfl,λD hD=>?_⟩;clear h;unfold kY;cbv;subst hD;exact Cm (.agg (.cons (Af rfl) (.cons (Af rfl) (.cons (aM.refl _) (.cons (Af rfl) .nil)))))
def rl:Rq:=⟨7,[71,69,84],[47],[104],[],[]⟩
def FQ:List UInt8:=(Ca rl).1
def sE:Ms:=xp rl FQ 100 10
theorem exE:Pn rl 100 10=(rl,FQ,[71,69,84],100,10,0):=by kernel_rfl
theorem af6:(Ca rl).2=0:=by kernel_rfl
theorem af5:Xb 100 10=true:=by kernel_rfl
theorem Al0:M1 rl nl 0 f:=by
 refine⟨by decide,by decide,by decide,by decide,by decide,by decide,⟨rfl,λi hi=>absurd hi (UK i),by decide,λi hi=>absurd hi (UK i)⟩,λ_=>rfl⟩
theorem FF:iL sE true 0 (λ_=>[]) (Py [71,69,84]) :=
 xo (nl:=true) (f:=λ_=>[]) Al0 af6 af5 ⟨rfl,λi hi=>absurd hi (UK i),by decide,λi hi=>absurd hi (UK i)⟩ rfl
def qy:aB:=λ_ xs ls K=>xs=[]/\ls=[]/\∀s x,rL s sE->x=Py [71,69,84]->iL s true 0 (λ_=>[]) x->K (.aI [.agg (bT (Aw s true 0 (λ_=>[]) x)),.int .i64 (.a 0)]) []
theorem Anv:Ap Tryz.prog pI 89 qy:=by
 refine Bq (gh:=[]) mixed D0 (Aa Akt Ae) Tryz.func89 (by kernel_rfl) (by kernel_rfl) ?_;intro xs ls K h;unfold qy at h;obtain⟨rfl,rfl,h⟩:=h;obtain⟨s0,jO⟩:∃s,rL s sE:=⟨_,⟨rfl⟩⟩;have G0:iL s0 true 0 (λ_=>[]) (Py [71,69,84]):=by
  rw[jO.h];exact FF
 refine⟨_,_,h s0 _ jO rfl G0,λD hD=>?_⟩;clear h G0;unfold bT Aw;cbv;refine⟨rl,true,0,λ_=>[],100,10,by subst hD;rfl,rfl,Al0,λq out m a1 b1 e nb n1 f1 k1 R1 hn=>?_⟩;rw[exE]at k1;simp only[Prod.mk.injEq]at k1;obtain⟨rfl,ho,rfl,rfl,rfl,rfl⟩:=k1;unfold TH;cbv;have yT:=R1.n;have e0:=jO.h;subst e0;subst ho hn hD;exact Cm (.aI (.cons (lr (q:=rl) rfl (.sl rfl (by exact yT) λi hi=>absurd hi (by show ¬(i:Int)<n1;have:n1=0:=yT;omega)) rfl rfl rfl rfl rfl rfl rfl rfl rfl rfl rfl rfl rfl rfl rfl rfl rfl rfl _ _ rfl) (.cons (Af rfl) .nil)))
structure MI(l:List fO)(c:VC)(k:Bool):Prop where
 h:∃t x,rL t (l.foldl gW sE)/\gD t.inn x/\c=Hv t x/\k=decide (t.phase≠0)
def rU:aB:=λ_ xs ls K=>∃(l:List fO) (nl:Bool) (n:Int) (f:Nat->List SV),xs=[.sl (.a nl) (.a n) 4 f]/\ls=[]/\BY f n l/\l.length<=500/\(∀v∈l,v.bytes.length<=1000000)/\
 ∀c k,MI l c k->K (.aI [.agg (Pt c),.bool (.a k)]) []
theorem Ajy:Ap Tryz.prog pI 45 rU:=by
 refine Bq (gh:=[]) mixed An5 (Aa Anv (Aa Ame (Aa Ak5 Ae))) Tryz.func45 (by kernel_rfl) (by kernel_rfl) ?_;intro xs ls K h;unfold rU at h;obtain⟨l,nl,n,f,rfl,rfl,E,hl,gH,h⟩:=h;obtain⟨t,ht⟩:∃t,rL t (l.foldl gW sE):=⟨_,⟨rfl⟩⟩;obtain⟨y0,Q0⟩:∃y0,cZ sE.inn (Py [71,69,84]) t.inn y0:=by
  rw[ht.h];exact Aaa l sE _ (cZ.refl FF.rs)
 obtain⟨c0,nA⟩:∃c,c=Hv t y0:=⟨_,rfl⟩;obtain⟨k0,fD⟩:∃k,k=decide (t.phase≠0):=⟨_,rfl⟩;refine⟨_,_,h c0 k0 ⟨t,y0,ht,Q0.g.v,nA,fD⟩,λD hD=>?_⟩;clear h;unfold Pt;cbv;intro s x hs hx G;unfold bT Aw;cbv;refine⟨s,true,0,λ_=>[],x,l,nl,n,f,by subst hD;rfl,rfl,G,E,hl,gH,λm nb N g P=>?_⟩;obtain⟨t2,ql,qf,y,lZ,G2,⟨rfl⟩,Q2⟩:=P.o;have e2:t2=t:=by rw[lZ.h,hs.h,ht.h]
 subst e2;rw[hs.h,hx]at Q2;have T2:=Q2.eM Q0;cbv;refine⟨t2,true,ql,qf,y,by subst hD;rfl,rfl,G2,λc e W=>?_⟩;unfold Pt;cbv;have hc:=W.h;have he:=W.he;subst hc nA;have hk:(((((0:Int)==0)&&((0:Int)==0))&&(e==0)))=k0:=by
  rw[he,fD]
  by_cases g:t2.phase=0
  .rw[QC g];simp[g]
  .rw[QA g];simp[g]
 subst hD;exact Cm (.aI (.cons (.agg (FY T2)) (.cons (Dh (by exact hk)) .nil)))
end Go.Proofs.YtdoogdbjiijifaaGreatDoor
