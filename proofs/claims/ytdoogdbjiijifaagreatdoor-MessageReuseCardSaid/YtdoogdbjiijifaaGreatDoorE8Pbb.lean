/- A part of the proof: contracts of functions, or the executor and its soundness. No conditions. -/
import Derived.Test.YtdoogdbjiijifaaGreatDoorE8Pau
import Derived.Test.YtdoogdbjiijifaaGreatDoorE8Pba
import Derived.Test.YtdoogdbjiijifaaGreatDoorE8Pav
import Derived.Test.YtdoogdbjiijifaaGreatDoorE8Paw
import Derived.Test.YtdoogdbjiijifaaGreatDoorE8Paz
namespace Go.Proofs.YtdoogdbjiijifaaGreatDoor
open Go Go.Sx
set_option maxRecDepth 100000
set_option maxHeartbeats 8000000
structure ot(r:Rs)(x:bN):Prop where
 v:iU r x
 ok:C7 r
 met:r.method.length<=9223372036854775807
 fn:x.fb=true->r.head.fields=[]
 tn:x.cb=true->r.chunks.aE=[]
 bd:r.body.length<=65536
theorem To(l:List UInt8):∀s:Rs,s.phase≠0->(Ag s l).1.head=s.head/\(Ag s l).1.phase≠0:=by
 induction l with
 |nil=>intro s h;exact⟨rfl,h⟩
 |cons c l ih =>
  intro s h;unfold Ag
  split
  .exact⟨rfl,h⟩
  split
  .exact⟨rfl,h⟩
  have h1:(bA s c).1.head=s.head/\(bA s c).1.phase≠0:=by
   unfold bA;rw[QA h]
   split
   .split
    .exact⟨rfl,h⟩
    .refine⟨rfl,?_⟩
     show (if _ then (2:Int) else s.phase)≠0
     split
     .decide
     .exact h
   split
   .exact⟨rfl,h⟩
   split
   .refine⟨rfl,?_⟩
    show (if _ then (2:Int) else s.phase)≠0
    split
    .decide
    .exact h
   .exact⟨rfl,h⟩
  obtain⟨q1,q2⟩:=ih _ h1.2;exact⟨q1.trans h1.1,q2⟩
theorem Aee(l:List UInt8):∀s:Rs,(Ag s l).1.method=s.method:=by
 induction l with
 |nil=>intro s;rfl
 |cons c l ih =>
  intro s;unfold Ag
  split
  .rfl
  split
  .rfl
  .exact (ih _).trans (J8 s c)
variable {s t s0:Rs}{x y y0 z x0:bN}{m ql:Int}{qb:Bool}{qf f ff yC ctf gH:Nat->List SV}{re bo u:List UInt8}{mi wF st qM fl yB fr nU ct pN e e':ST}{fb yD cb qV:BT}{n:Nat}
theorem u0{c:UInt8}(h:s.body.length<=65536):(bA s c).1.body.length<=65536:=by
 unfold bA
 split
 .split
  .exact h
  split
  .exact h
  split
  .exact h
  split
  .unfold B8;split<;>exact h
  split<;>exact h
 split
 .split<;>exact h
 split
 .exact h
 rename_i g;have:(s.body++[c]).length<=65536:=by rw[QF];simp only[QG,QU];omega
 split<;>exact this
theorem Aks(l:List UInt8):∀s:Rs,s.body.length<=65536->(Ag s l).1.body.length<=65536:=by
 induction l with
 |nil=>intro s h;exact h
 |cons c l ih =>
  intro s h;unfold Ag
  split
  .exact h
  split
  .exact h
  .exact ih _ (u0 h)
theorem gy{r:Rs}(h:C7 r):r.chunks.data.length<=65536:=by
 by_cases h0:r.phase=0
 .obtain⟨_,_,_,_,_,p⟩:=h.p0 h0
  rw[p];decide
 by_cases h2:r.aD=2
 .exact (h.f2 h0 h2).2.1.data
 .obtain⟨_,_,_,_,_,_,p,_⟩:=h.p1 h0
  rw[p h2];decide
theorem ot.next{b:List UInt8}(G:ot s x)(e:(Ag s b).2.2=0)(V:iU (Ag s b).1 y)(N:oT s (Ag s b).1 y x):ot (Ag s b).1 y:=by
 have O:=Oe b s G.ok e;refine⟨V,O,by rw[Aee];exact G.met,λh=>?_,λh=>?_,Aks b s G.bd⟩
 .rw[N.f]at h
  split at h
  .exact List.isEmpty_iff.mp h
  .rename_i g
   by_cases h0:s.phase=0
   .have:(Ag s b).1.phase=0:=Decidable.byContradiction λq=>g ⟨q,h0⟩
    rw[(O.p0 this).2.1];rfl
   .rw[(To b s h0).1];exact G.fn h
 .rw[N.c]at h
  unfold jS at h
  split at h
  .exact List.isEmpty_iff.mp h
  .rename_i g
   by_cases t0:(Ag s b).1.phase=0
   .rw[(O.p0 t0).2.2.2.2.2];rfl
   by_cases t2:(Ag s b).1.aD=2
   case neg=>rw[(O.p1 t0).2.2.2.2.2.2.1 t2];rfl
   obtain⟨_,k,_⟩:=O.f2 t0 t2;rcases k.oV with k4|k4
   .have h4:s.chunks.phase=4:=Decidable.byContradiction λq=>g ⟨k4,q⟩
    have kU:s.phase≠0:=λz=>by
     rw[(G.ok.p0 z).2.2.2.2.2]at h4;cases h4
    have eH:s.aD=2:=Decidable.byContradiction λz=>by
     rw[(G.ok.p1 kU).2.2.2.2.2.2.1 z]at h4;cases h4
    have hp:=(G.ok.f2 kU eH).2.2.2 h4;have:Ag s b=(s,0,0):=by
     cases b with
     |nil=>rfl
     |cons c b=>unfold Ag;rw[QB hp]
    rw[this];exact G.tn h
   .exact k4
def Ay(s:Ms)(qb:Bool)(ql:Int)(qf:Nat->List SV)(x:bN):fA:=⟨s.jH.id,s.jH.method,s.jH.target,s.jH.host,qb,ql,qf,s.jH.body,s.out,s.aS,x,s.aW,s.cQ,s.phase,s.ended,s.why⟩
theorem Hn{r:Rs}(V:iU r y):(Rk m y=true)↔Cd r m:=by
 unfold Rk Cd;rw[V.bo,V.cd,V.lf,QE,decide_eq_true_iff,decide_eq_true_iff];omega
theorem ot.y5{r:Rs}(G:ot r y)(h0:0<=m)(h1:m<=65536):AK m y:=by
 refine⟨h0,h1,?_,?_⟩
 .rw[G.v.bo];have:=G.bd;omega
 .rw[G.v.cd];have:=gy G.ok;omega
theorem Aei{g:Nat->List SV}{n:Int}{t:List UInt8}(h:Rx g (t.map λb=>[.int .u8 (.a (b.toNat:Int))]))(hn:n=t.length):Bl g n t:=by
 refine⟨hn,λi hi=>h.h i _ ?_⟩;rw[QR,QC hi,QD,QC hi];rfl
structure Twin(r:Rs)(y y0:bN):Prop where
 v:iU r y
 w:iU r y0
 f:y.fb=y0.fb
 c:y.cb=y0.cb
theorem MO{c:fA}{r:Rs}(T:Twin r y y0):iM (cG { c with x:=y }) (cG { c with x:=y0 }):=by
 obtain⟨V,W,hf,hc⟩:=T;have e1:=V.m.trans W.m.symm;have e2:=V.ph.trans W.ph.symm;have e3:=V.inf.trans W.inf.symm;have e4:=V.ln.trans W.ln.symm;have e5:=V.mi.trans W.mi.symm;have e6:=V.st.trans W.st.symm;have e7:=V.re.trans W.re.symm;have e8:=V.fr.trans W.fr.symm;have e9:=V.bo.trans W.bo.symm;have CJ:=V.lf.trans W.lf.symm;have e11:=V.cl.trans W.cl.symm;have e12:=V.cd.trans W.cd.symm;have e13:=V.cv.gU.trans W.cv.gU.symm;have e14:=V.cv.iS.trans W.cv.iS.symm;have R1:=V.fl;have R2:=W.fl;have R3:=V.cv.tr;have R4:=W.cv.tr;clear V W;obtain⟨m,ph,inf,ln,mi,st,re,fb,fl,ff,fr,bo,lf,cp,cl,cd,cf,cb,ct,ctf⟩:=y;obtain⟨m,ph,inf,ln,mi,st,re,fb,fl,ff,fr,bo,lf,cp,cl,cd,cf,cb,ct,ctf⟩:=y0;simp only at e1 e2 e3 e4 e5 e6 e7 e8 e9 CJ e11 e12 e13 e14 hf hc R1 R2 R3 R4;subst e1 e2 e3 e4 e5 e6 e7 e8 e9 CJ e11 e12 e13 e14 hf hc;have z:∀v,aO v v:=aO.refl;exact .cons (z _) (.cons (z _) (.cons (z _) (.cons (z _) (.cons (z _) (.cons (z _) (.cons (z _) (.cons (z _) (.cons (z _) (.cons (z _) (.cons (z _) (.cons (z _) (.cons (z _) (.cons (z _) (.cons (z _) (.cons (E8 R1 R2 rfl rfl rfl)
  (.cons (z _) (.cons (z _) (.cons (z _) (.cons (z _) (.cons (z _) (.cons (z _) (.cons (z _) (.cons (E8 R3 R4 rfl rfl rfl) (.cons (z _) (.cons (z _) (.cons (z _) (.cons (z _) (.cons (z _) .nil))))))))))))))))))))))))))))
structure dI(s:Rs)(x:bN)(t:Rs)(y:bN):Prop where
 g:ot t y
 n:oT s t y x
 a:s.phase≠0->t.phase≠0/\t.head=s.head
 c:s.chunks.phase=4->t.chunks=s.chunks
theorem dI.refl(G:ot s x):dI s x s x:=by
 refine⟨G,⟨?_,?_⟩,λh=>⟨h,rfl⟩,λ_=>rfl⟩
 .rw[QA (λh=>h.1 h.2)]
 .unfold jS;rw[QA (λh=>h.2 h.1)]
theorem W9(h:C7 s)(h4:s.chunks.phase=4):s.phase=2:=by
 have kU:s.phase≠0:=λz=>by
  rw[(h.p0 z).2.2.2.2.2]at h4;cases h4
 have eH:s.aD=2:=Decidable.byContradiction λz=>by
  rw[(h.p1 kU).2.2.2.2.2.2.1 z]at h4;cases h4
 exact (h.f2 kU eH).2.2.2 h4
theorem Aa0{b:List UInt8}(h:s.phase=2):Ag s b=(s,0,0):=by
 cases b with
 |nil=>rfl
 |cons c b=>unfold Ag;rw[QB h]
theorem dI.step{b:List UInt8}(Q:dI s x t y)(e:(Ag t b).2.2=0)(V:iU (Ag t b).1 z)(N:oT t (Ag t b).1 z y):dI s x (Ag t b).1 z:=by
 have P:=To b t;refine⟨Q.g.next e V N,⟨?_,?_⟩,λh=>?_,λh=>?_⟩
 .rw[N.f,Q.n.f]
  by_cases ht:t.phase=0
  .have hs:s.phase=0:=Decidable.byContradiction λg=>(Q.a g).1 ht
   by_cases hu:(Ag t b).1.phase=0
   .rw[QA (λh=>h.1 hu),QA (λh=>h.1 ht),QA (λh=>h.1 hu)]
   .rw[QB ⟨hu,ht⟩,QB ⟨hu,hs⟩]
  .obtain⟨p1,p2⟩:=P ht
   rw[QA (λh=>ht h.2)]
   by_cases hs:s.phase=0
   .rw[QB ⟨ht,hs⟩,QB ⟨p2,hs⟩,p1]
   .rw[QA (λh=>hs h.2),QA (λh=>hs h.2)]
 .rw[N.c,Q.n.c]
  unfold jS
  by_cases ht:t.chunks.phase=4
  .rw[Aa0 (W9 Q.g.ok ht)]
   rw[QA (λh=>h.2 ht)]
  .have hs:s.chunks.phase≠4:=λg=>ht (by rw[Q.c g];exact g)
   by_cases hu:(Ag t b).1.chunks.phase=4
   .rw[QB ⟨hu,ht⟩,QB ⟨hu,hs⟩]
   .rw[QA (λh=>hu h.1),QA (λh=>ht h.1),QA (λh=>hu h.1)]
 .obtain⟨q1,q2⟩:=Q.a h
  obtain⟨p1,p2⟩:=P q1;exact⟨p2,p1.trans q2⟩
 .have h4:t.chunks.phase=4:=by rw[Q.c h];exact h
  rw[Aa0 (W9 Q.g.ok h4)];exact Q.c h
theorem dI.eO(Q:dI s x t y)(R:dI s x t z):Twin t y z :=
 ⟨Q.g.v,R.g.v,Q.n.f.trans R.n.f.symm,Q.n.c.trans R.n.c.symm⟩
theorem dI.ex{b:List UInt8}(Q:dI s x t y)(e:(Ag t b).2.2=0):∃z,dI s x (Ag t b).1 z:=by
 obtain⟨z,V,N⟩:=Akq (x:=y) Q.g.ok (Ag t b) rfl e;exact⟨z,Q.step e V N⟩
theorem Alg{t:Ms}(c:UInt8)(Q:dI s x t.inn y):∃z,dI s x (Fb t c).inn z:=by
 unfold Fb
 split
 .exact⟨y,Q⟩
 split
 .exact⟨y,Q⟩
 split
 .exact⟨y,Q⟩
 .rename_i h
  have h0:(Ag t.inn [c]).2.2=0:=Decidable.byContradiction λg=>h (.inl g);exact Q.ex h0
theorem Ag7{s:Rs}{x:bN}:∀(l:List UInt8) (t:Ms) (y:bN),dI s x t.inn y->∃z,dI s x (Bx t l).inn z
 | [],t,y,Q=>⟨y,Q⟩
 |c :: l,t,y,Q=>by
  unfold Bx
  split
  .exact⟨y,Q⟩
  .obtain⟨z,R⟩:=Alg c Q
   exact Ag7 l _ z R
theorem Agq{s:Rs}{x:bN}:∀(l:List UInt8) (t:Ms) (y:bN),dI s x t.inn y->∃z,dI s x (B9 t l).inn z
 | [],t,y,Q=>⟨y,Q⟩
 |c :: l,t,y,Q=>by
  rw[Fc]
  split
  .exact⟨y,Q⟩
  rename_i h2
  split
  .exact⟨y,Q⟩
  split
  .exact⟨y,Q⟩
  split
  .exact⟨y,Q⟩
  .rename_i h
   have h0:(bA t.inn c).2=0:=Decidable.byContradiction λg=>h (.inl g);obtain⟨q1,q2⟩:=EA (c:=c) h2;obtain⟨z,R⟩:=Q.ex (b:=[c]) (by rw[q1];exact h0);rw[q2 h0]at R;exact Agq l _ z R
theorem Ys{b:List UInt8}{t:Ms}(Q:dI s x t.inn y):∃z,dI s x (Da t b).inn z:=by
 unfold Da
 split
 .exact⟨y,Q⟩
 .exact Agq b t y Q
set_option maxHeartbeats 16000000
structure ByU(b:Int)(c:UInt8):Prop where
 h:b=(c.toNat:Int)
structure ov(s0:Rs)(x0:bN)(s:Ms)(x:bN):Prop where
 q:dI s0 x0 s.inn x
 b0:0<=s.cQ
 b1:s.cQ<=65536
def oz:aB:=λ_ xs ls K=>∃(s0:Rs) (x0:bN) (s:Ms) (qb:Bool) (ql:Int) (qf:Nat->List SV) (x:bN) (b:Int) (c:UInt8),
 xs=[.ptr 0 0,.int .u8 (.a b)]/\ls=[.aG 144 (cG (Ay s qb ql qf x))]/\ov s0 x0 s x/\ByU b c/\
 ∀y m,dI s0 x0 (Fb s c).inn y->jO m (Ay (Fb s c) qb ql qf y)->K (.aJ []) [.aG 144 (cG m)]
structure qW(s t:Ms):Prop where
 h:s=t
theorem Dx{t:Ms}{r:Rs}{m0:fA}(T:Twin r y y0)(hm:jO m0 (Ay t qb ql qf y0)):
  Fin (.aJ []) (.aJ []) [.aG 144 (cG (Ay t qb ql qf y))] [.aG 144 (cG m0)]:=by
 rw[hm.h];exact Amj (aO.refl _) (MO (c:=Ay t qb ql qf y) T)
theorem vm:Ap Tryz.prog gl 295 oz:=by
 refine Bq (gh:=[(8000097,[])]) mixed Ds (Al Pb (Al Zo (Al Zk (Al Aag Ae)))) Tryz.func295 (by kernel_rfl) (by kernel_rfl) ?_;intro xs ls K h;unfold oz at h;obtain⟨s0,x0,s,qb,ql,qf,x,b,c,rfl,rfl,V,B,h⟩:=h;obtain⟨t,ht⟩:∃t,qW t (Fb s c):=⟨_,⟨rfl⟩⟩;rw[<-ht.h]at h;obtain⟨y0,Q0⟩:∃y0,dI s0 x0 t.inn y0:=by rw[ht.h];exact Alg c V.q
 obtain⟨m0,gF⟩:∃m0,jO m0 (Ay t qb ql qf y0):=⟨_,⟨rfl⟩⟩;have h:=h y0 m0 Q0 gF;refine⟨_,_,h,λD hD=>?_⟩;clear h;unfold cG Ay;cbv;refine br hD (λhb=>?_) (λhb=>?_)<;>cbv
 .refine⟨Ay s qb ql qf x,11,by subst hD;rfl,by subst hD;rfl,?_⟩
  cbv;have e:t=broken s 11:=by
   have hb:((x.ph==0)&&decide (s.aW<=(x.ln.length:Int)))=true:=by subst hD;exact hb
   rw[QE,QS,decide_eq_true_iff,V.q.g.v.ph,V.q.g.v.ln]at hb;rw[ht.h];unfold Fb;rw[QB hb]
  subst e hD;exact Dx (t:=broken s 11) (V.q.eO Q0) gF
 .have hb:¬(s.inn.phase=0/\s.aW<=(s.inn.line.length:Int)):=by
   have hb:((x.ph==0)&&decide (s.aW<=(x.ln.length:Int)))=false:=by subst hD;exact hb
   rw[<-V.q.g.v.ph,<-V.q.g.v.ln];intro g;rw[beq_iff_eq.mpr g.1,ZN g.2]at hb;cases hb
  intro g hg;cbv;have VH:Rx g ([c].map λb=>[.int .u8 (.a (b.toNat:Int))]):=by
   have e:([c].map λb=>[SV.int .u8 (.a (b.toNat:Int))])=[[SV.int .u8 (.a b)]]:=by rw[B.h];rfl
   rw[e];subst hD;exact hg
  clear hg;refine⟨s.inn,bN.nm D x,[c],false,1,g,by subst hD;rfl,rfl,by subst hD;exact V.q.g.v,V.q.g.ok,V.q.g.met,by subst hD;exact Aei VH rfl,by simp,λh=>(by subst hD;cases h),λk hk=>⟨λaY=>?_,λhe y u W N hu=>?_⟩⟩<;>cbv
  .clear VH
   refine br hD (λh6=>?_) (λh6=>?_)<;>cbv
   .refine⟨Ay s qb ql qf x,10,by subst hD;rfl,by subst hD;rfl,?_⟩
    cbv;have e:t=broken s 10:=by
     have h6:(k.2.2==6)=true:=by subst hD;exact h6
     rw[ht.h];unfold Fb;rw[QA hb,<-hk,QB (eq_of_beq h6)]
    subst e hD;exact Dx (t:=broken s 10) (V.q.eO Q0) gF
   .have h6:¬k.2.2=6:=by
     have h6:(k.2.2==6)=false:=by subst hD;exact h6
     intro e;rw[e]at h6;cases h6
    have h0:(k.2.2 != 0)=true:=by simpa using aY
    refine br hD (λhg=>?_) (λhg=>?_)<;>cbv
    .exfalso
     have hg:(!(k.2.2 != 0))=true:=by subst hD;exact hg
     rw[h0]at hg;cases hg
    .clear hg
     refine br hD (λhg=>?_) (λhg=>?_)<;>cbv
     .refine⟨Ay s qb ql qf x,11,by subst hD;rfl,by subst hD;rfl,?_⟩
      cbv;have e:t=broken s 11:=by
       rw[ht.h];unfold Fb;rw[QA hb,<-hk,QA h6,QB (.inl (by simpa using aY))]
      subst e hD;exact Dx (t:=broken s 11) (V.q.eO Q0) gF
     .exfalso
      have hg:((k.2.2 != 0)&&true)=false:=by subst hD;exact hg
      rw[h0]at hg;cases hg
  .clear VH
   have Q:dI s0 x0 k.1 y:=by
    have N:oT s.inn k.1 y x:=by subst hD;exact N
    rw[hk]at he W N ⊢;exact V.q.step he W N
   refine br hD (λh6=>?_) (λh6=>?_)<;>cbv
   .exfalso
    have h6:((0:Int)==6)=true:=by subst hD;exact h6
    cases h6
   clear h6;refine br hD (λhg=>?_) (λhg=>?_)<;>cbv
   .clear hg
    refine⟨Ay s qb ql qf x,bN.nm D y,by subst hD;rfl,by subst hD;rfl,by subst hD;exact Q.g.y5 V.b0 V.b1,λr hr=>?_⟩;cbv;refine br hD (λhg=>?_) (λhg=>?_)<;>cbv
    .have e:t=broken s 11:=by
      have hg:(((0:Int) != 0)||!r)=true:=by subst hD;exact hg
      have oM:r=false:=by cases r with
       |true=>cases hg
       |false=>rfl
      have hf:¬Cd k.1 s.cQ:=by
       have dB:r=Rk s.cQ y:=by subst hD;exact hr.h
       rw[<-Hn W,<-dB,oM];simp
      rw[ht.h];unfold Fb;rw[QA hb,<-hk,QA (by rw[he];decide),QB (.inr hf)]
     refine⟨Ay s qb ql qf x,11,by subst hD;rfl,by subst hD;rfl,?_⟩;cbv;subst e hD;exact Dx (t:=broken s 11) (V.q.eO Q0) gF
    .have e:t=Bp s k.1:=by
      have hg:(((0:Int) != 0)||!r)=false:=by subst hD;exact hg
      have oM:r=true:=by cases r with
       |true=>rfl
       |false=>cases hg
      have hf:Cd k.1 s.cQ:=by
       have dB:r=Rk s.cQ y:=by subst hD;exact hr.h
       rw[<-Hn W,<-dB,oM]
      rw[ht.h];unfold Fb;rw[QA hb,<-hk,QA (by rw[he];decide),QA (λg=>g.elim (λg=>g he) (λg=>g hf))]
     refine⟨Ay s qb ql qf x,bN.nm D y,by subst hD;rfl,by subst hD;rfl,λc' kM=>?_⟩;cbv;have kM:jO c' (F8 (Ay s qb ql qf x) y):=by subst hD;exact kM
     have hq:F8 (Ay s qb ql qf x) y=Ay (Bp s k.1) qb ql qf y:=by
      unfold F8 Bp Ay;rw[<-W.ph]
      by_cases g:y.ph=2
      .rw[QB (by rw[g];rfl)];simp only[QB g]
      .rw[QA (by simpa using g)];simp only[QA g]
     rw[hq]at kM;obtain⟨rfl⟩:=kM;subst e hD;exact Dx (t:=Bp s k.1) (Q.eO Q0) gF
   .exfalso
    have hg:(!((0:Int) != 0))=false:=by subst hD;exact hg
    cases hg
set_option maxHeartbeats 4000000
def DP:List (Nat×TI):=[
 (3,⟨.int .i64,1,8,[.int .i64 (.l 0)]⟩),
 (4,⟨.bool,1,1,[.bool (.l false)]⟩),
 (9,⟨.string,1,16,[.str []]⟩),
 (28,⟨.int .i64,1,8,[.int .i64 (.l 0)]⟩),
 (2,⟨.int .i64,1,8,[.int .i64 (.l 0)]⟩),
 (57,⟨.int .i64,1,8,[.int .i64 (.l 0)]⟩),
 (23,⟨.slice 100,1,24,[(.sl (.l true) (.l 0) 2 λ_=>[])]⟩),
 (100,⟨.struct [(0,9),(1,9)],2,32,[.str [],.str []]⟩),
 (55,⟨.struct [(0,2),(1,9),(2,9),(3,9),(4,23),(5,9)],6,96,[.int .i64 (.l 0),.str [],.str [],.str [],(.sl (.l true) (.l 0) 2 λ_=>[]),.str []]⟩),
 (36,⟨.struct [(0,3),(1,9),(2,9),(3,3),(4,23)],5,72,[.int .i64 (.l 0),.str [],.str [],.int .i64 (.l 0),(.sl (.l true) (.l 0) 2 λ_=>[])]⟩),
 (25,⟨.struct [(0,3),(1,3),(2,9),(3,23)],4,56,[.int .i64 (.l 0),.int .i64 (.l 0),.str [],(.sl (.l true) (.l 0) 2 λ_=>[])]⟩),
 (38,⟨.struct [(0,9),(1,3),(2,3),(3,9),(4,25),(8,3),(9,9),(10,3),(11,36)],16,208,[.str [],.int .i64 (.l 0),.int .i64 (.l 0),.str [],.int .i64 (.l 0),.int .i64 (.l 0),.str [],(.sl (.l true) (.l 0) 2 λ_=>[]),.int .i64 (.l 0),.str [],.int .i64 (.l 0),.int .i64 (.l 0),.str [],.str [],.int .i64 (.l 0),(.sl (.l true) (.l 0) 2 λ_=>[])]⟩),
 (59,⟨.struct [(0,55),(6,9),(7,3),(8,38),(24,3),(25,3),(26,3),(27,4),(28,57)],29,368,[.int .i64 (.l 0),.str [],.str [],.str [],(.sl (.l true) (.l 0) 2 λ_=>[]),.str [],.str [],.int .i64 (.l 0),.str [],.int .i64 (.l 0),.int .i64 (.l 0),.str [],.int .i64 (.l 0),.int .i64 (.l 0),.str [],(.sl (.l true) (.l 0) 2 λ_=>[]),.int .i64 (.l 0),.str [],.int .i64 (.l 0),.int .i64 (.l 0),.str [],.str [],.int .i64 (.l 0),(.sl (.l true) (.l 0) 2 λ_=>[]),.int .i64 (.l 0),.int .i64 (.l 0),.int .i64 (.l 0),.bool (.l false),.int .i64 (.l 0)]⟩)]
theorem fq:Sx.yK Tryz.prog DP=true:=by kernel_rfl
theorem Zs{eD:List (Nat×aB)}{gl:List (Nat×SV)}{gh:List (Nat×List Gh)}{its:List (Nat×(aB->aB))}{yl:List aB}:Az Tryz.prog ⟨dn,DP,eD,gl,eqs,gh,its,yl⟩:=by
 refine⟨rfl,fq,λt ht=>?_⟩;simp only[eqs,XS,YA,or_false]at ht;rcases ht with rfl
 all_goals
  refine⟨?_,?_,?_⟩
  .kernel_rfl
  .kernel_rfl
  .decide
def Wp(a b:Int):Bool:=((decide (64<=a)&&decide (a<=65536))&&decide (0<=b))&&decide (b<=65536)
def o4:aB:=λ_ xs ls K=>∃(a b:Int),xs=[.int .i64 (.a a),.int .i64 (.a b)]/\ls=[]/\∀r,r=Wp a b->K (.bool (.a r)) []
theorem Al9:Ap Tryz.prog gl 91 o4:=by
 refine Bv (gh:=[]) mixed Zs Ae Tryz.func91 (by kernel_rfl) (by kernel_rfl) ?_;intro xs ls K h;unfold o4 at h;obtain⟨a,b,rfl,rfl,h⟩:=h;obtain⟨k,hk⟩:∃k,k=Wp a b:=⟨_,rfl⟩;refine⟨_,_,h k hk,λD hD=>?_⟩;clear h;cbv;exact Aw hD (by rw[hk];rfl)
set_option maxHeartbeats 8000000
def PY(r:Rq)(nb:Bool)(n:Int)(f:Nat->List SV)(out m:List UInt8)(a b:Int):SV:=.agg [.int .i64 (.a r.id),.str r.method,.str r.target,.str r.host,.sl (.a nb) (.a n) 2 f,.str r.body,.str out,.int .i64 (.a 0),
 .str m,.int .i64 (.a 0),.int .i64 (.a 0),.str [],.int .i64 (.a 0),.int .i64 (.a 0),.str [],.sl (.a true) (.a 0) 2 λ_=>[],.int .i64 (.a 0),.str [],.int .i64 (.a 0),.int .i64 (.a 0),.str [],.str [],.int .i64 (.a 0),.sl (.a true) (.a 0) 2 λ_=>[],
 .int .i64 (.a a),.int .i64 (.a b),.int .i64 (.a 0),.bool (.a false),.int .i64 (.a 0)]
def Kq(r:Rq)(a b:Int):Rq×List UInt8×List UInt8×Int×Int×Int :=
 if (Bw r).2≠0 then (PG,[],[],0,0,(Bw r).2) else if Wp a b then (r,(Bw r).1,r.method,a,b,0) else (PG,[],[],0,0,7)
theorem Va{r:Rq}(h:(Bw r).2=0):Ca r.method=true:=by
 have h1:(Bm r).2.2=0:=by
  unfold Bw at h
  split at h
  .rename_i g;exact absurd h g
  .rename_i g;simpa using g
 have:=(Ij h1).method;unfold Ge at this;simp only[QE]at this;exact this.2
theorem leB{t t':BT}(h:t.den=t'.den):aO (.bool t) (.bool t'):=by
 intro E w v hr;obtain rfl:=hr.bI;exact .ro (.bool h.symm)
theorem jl{q:Rq}{nb nb':BT}{n n':ST}{f':Nat->List SV}{out m:List UInt8}{i s1 s2 s3 s4 s5 s6 s7 s8 s9 a b p w:ST}{b1 b2 bb:BT}{c1 c2:ST}{a' b' i':Int}
  (hi:i.den=q.id) (hr:aO (.sl nb n 2 f) (.sl nb' n' 2 f')) (h1:s1.den=0) (h2:s2.den=0) (h3:s3.den=0) (h4:s4.den=0) (h5:s5.den=0) (h6:s6.den=0) (h7:s7.den=0) (h8:s8.den=0) (h9:s9.den=0)
  (ha:a.den=a') (hb:b.den=b') (hp:p.den=0) (hw:w.den=0) (bU:bb.den=false) (lF:b1.den=true) (cw:c1.den=0) (fX:b2.den=true) (fR:c2.den=0) (g1 g2:Nat->List SV) (he:i'=q.id):
  aO (.agg [.int .i64 i,.str q.method,.str q.target,.str q.host,.sl nb n 2 f,.str q.body,.str out,.int .i64 s1,.str m,.int .i64 s2,.int .i64 s3,.str [],.int .i64 s4,.int .i64 s5,.str [],.sl b1 c1 2 g1,.int .i64 s6,.str [],.int .i64 s7,.int .i64 s8,.str [],.str [],.int .i64 s9,.sl b2 c2 2 g2,.int .i64 a,.int .i64 b,.int .i64 p,.bool bb,.int .i64 w])
   (.agg [.int .i64 (.a i'),.str q.method,.str q.target,.str q.host,.sl nb' n' 2 f',.str q.body,.str out,.int .i64 (.a 0),
 .str m,.int .i64 (.a 0),.int .i64 (.a 0),.str [],.int .i64 (.a 0),.int .i64 (.a 0),.str [],.sl (.a true) (.a 0) 2 λ_=>[],.int .i64 (.a 0),.str [],.int .i64 (.a 0),.int .i64 (.a 0),.str [],.str [],.int .i64 (.a 0),.sl (.a true) (.a 0) 2 λ_=>[],
 .int .i64 (.a a'),.int .i64 (.a b'),.int .i64 (.a 0),.bool (.a false),.int .i64 (.a 0)]):=by
 have hz:∀ {b c g},BT.den b=true->ST.den c=0->aO (.sl b c 2 g) (.sl (.a true) (.a 0) 2 λ_=>[]):=λ{b c g} hb hc=>.sl hb hc λi hi=>absurd hi (by rw[hc];omega);subst he;exact .agg (.cons (Ai hi) (.cons (.refl _) (.cons (.refl _) (.cons (.refl _) (.cons hr (.cons (.refl _) (.cons (.refl _) (.cons (Ai h1) (.cons (.refl _) (.cons (Ai h2) (.cons (Ai h3) (.cons (.refl _) (.cons (Ai h4) (.cons (Ai h5) (.cons (.refl _) (.cons (hz lF cw) (.cons (Ai h6) (.cons (.refl _) (.cons (Ai h7) (.cons (Ai h8) (.cons (.refl _) (.cons (.refl _) (.cons (Ai h9) (.cons (hz fX fR) (.cons (Ai ha) (.cons (Ai hb) (.cons (Ai hp) (.cons (leB bU) (.cons (Ai hw) .nil)))))))))))))))))))))))))))))
theorem Vb{r:Rq}(h:(Bw r).2=0):r.fields.length<=100000:=by
 have h1:(Bm r).2.2=0:=by
  unfold Bw at h
  split at h
  .rename_i g;exact absurd h g
  .rename_i g;simpa using g
 have h2:=Dz (Ac8 (Ij h1).chk).2.2.2.1;omega
def rQ:aB:=λ_ xs ls K=>∃(r:Rq) (nl:Bool) (n:Int) (f:Nat->List SV) (a b:Int),xs=[.agg [.int .i64 (.a r.id),.str r.method,.str r.target,.str r.host,.sl (.a nl) (.a n) 2 f,.str r.body],.int .i64 (.a a),.int .i64 (.a b)]/\ls=[]/\Pn r nl n f/\
 ∀q out m a' b' e nb n' f',(q,out,m,a',b',e)=Kq r a b->A5 f' n' q.fields->nb=q.fields.isEmpty->K (.aJ [PY q nb n' f' out m a' b',.int .i64 (.a e)]) []
theorem Yf:Ap Tryz.prog qT 31 rQ:=by
 refine Bv (gh:=[]) mixed Zs (Ab X5 (Ab (Df Al9) (Ab (Df Akb) Ae))) Tryz.func31 (by kernel_rfl) (by kernel_rfl) ?_;intro xs ls K h;unfold rQ at h;obtain⟨r,nl,n,f,a,b,rfl,rfl,R,h⟩:=h;obtain⟨k,hk⟩:∃k,k=Kq r a b:=⟨_,rfl⟩;obtain⟨kq,ko,km,ka,kb,ke⟩:=k;have gO:=Va (r:=r);have lE:=Vb (r:=r);obtain⟨kn,kB⟩:∃x:Bool,x=kq.fields.isEmpty:=⟨_,rfl⟩;obtain⟨kf,hkf⟩:∃x,x=Mz kq.fields:=⟨_,rfl⟩;obtain⟨kl,mH⟩:∃x:Int,x=kq.fields.length:=⟨_,rfl⟩;have hqq:kq=r\/kq=PG:=by
  unfold Kq at hk
  split at hk
  .exact .inr (Prod.mk.inj hk).1
  .split at hk
   .exact .inl (Prod.mk.inj hk).1
   .exact .inr (Prod.mk.inj hk).1
 have R0:A5 kf kl kq.fields:=by
  rw[hkf,mH];rcases hqq with rfl|rfl
  .exact A5.row R.row.len R.row.small
  .exact A5.row (by decide) λi hi=>absurd hi (by show ¬i<0;omega)
 refine⟨_,_,h kq ko km ka kb ke kn kl kf hk R0 kB,λD hD=>?_⟩;clear h hqq hkf mH;unfold Kq at hk;obtain⟨c,hc⟩:∃c,c=Bw r:=⟨_,rfl⟩;rw[<-hc]at hk gO lE;obtain⟨ct,ce⟩:=c;obtain⟨ir,hir⟩:∃x,x=Wp a b:=⟨_,rfl⟩;rw[<-hir]at hk;obtain⟨id,me,ta,ho,fs,bo⟩:=r;unfold PY;obtain⟨qi,qm,qt,qh,qf,qb⟩:=kq;simp only at hk gO kB R0 lE;have hml:=R.method;have tU:=R.row.len;cbv;refine⟨⟨id,me,ta,ho,fs,bo⟩,nl,n,f,by subst hD;rfl,rfl,R,λt e kJ=>?_⟩;cbv;rw[<-hc]at kJ;simp only[Prod.mk.injEq]at kJ;obtain⟨rfl,rfl⟩:=kJ;refine br hD (λhb=>?_) (λhb=>?_)<;>cbv
 .have he:e≠0:=by simpa using hb
  rw[QB he]at hk;simp only[Prod.mk.injEq]at hk;obtain⟨hq,rfl,rfl,rfl,rfl,rfl⟩:=hk
  injection hq with q1 q2 q3 q4 q5 q6
  subst q1 q2 q3 q4 q5 q6;have qP:kl=0:=R0.n;subst hD;exact C6 (.aJ (.cons (jl (q:=⟨0,[],[],[],[],[]⟩) rfl (.sl (by rw[kB];rfl) (by exact qP.symm) λi hi=>absurd hi (by show ¬((i:Int)<0);omega)) rfl rfl rfl rfl rfl rfl rfl rfl rfl rfl rfl rfl rfl rfl rfl rfl rfl rfl _ _ rfl) (.cons (Ai rfl) .nil)))
 have he:e=0:=by simpa using hb
 rw[QA (by simp[he])]at hk;have gO:=gO he;have lE:=lE he;clear hb;refine⟨a,b,by subst hD;rfl,rfl,λz hz=>?_⟩;cbv;rw[<-hir]at hz;subst hz;refine br hD (λhb=>?_) (λhb=>?_)<;>cbv
 .have hb:(!z)=true:=by subst hD;exact hb
  rw[QA (by simpa using hb)]at hk;simp only[Prod.mk.injEq]at hk;obtain⟨hq,rfl,rfl,rfl,rfl,rfl⟩:=hk
  injection hq with q1 q2 q3 q4 q5 q6
  subst q1 q2 q3 q4 q5 q6;have qP:kl=0:=R0.n;subst hD;exact C6 (.aJ (.cons (jl (q:=⟨0,[],[],[],[],[]⟩) rfl (.sl (by rw[kB];rfl) (by exact qP.symm) λi hi=>absurd hi (by show ¬((i:Int)<0);omega)) rfl rfl rfl rfl rfl rfl rfl rfl rfl rfl rfl rfl rfl rfl rfl rfl rfl rfl _ _ rfl) (.cons (Ai rfl) .nil)))
 have hb:(!z)=false:=by subst hD;exact hb
 rw[QB (by simpa using hb)]at hk;clear hb;simp only[Prod.mk.injEq]at hk;obtain⟨hq,rfl,rfl,rfl,rfl,rfl⟩:=hk
 injection hq with q1 q2 q3 q4 q5 q6
 subst q1 q2 q3 q4 q5 q6;refine⟨_,rfl,rfl,hml,λy e hy sX=>?_⟩;rw[QB gO]at hy sX;subst hy sX;cbv;clear gO hc hb;refine br hD (λhb=>?_) (λhb=>?_)<;>cbv
 .have hb:((0:Int) != 0)=true:=by subst hD;exact hb
  exact absurd hb (by decide)
 clear hb;refine⟨?_,λf1 n1 hm=>?_⟩
 .have hn:n=(qf.length:Int):=R.row.n
  subst hD;exact⟨by show n * 32<=_;omega,by show n<=_;omega⟩
 cbv;have hn:n=(qf.length:Int):=R.row.n;have fG:kl=n:=R0.n.trans R.row.n.symm;have xU:n1=n:=by subst hD;exact hm.len
 have aI:∀i:Nat,(i:Int)<n->f1 i=kf i:=λi hi=>by
  have UZ:i<qf.length:=by omega
  rw[hm.row i (by subst hD;exact hi),R.row.f i UZ,R0.f i UZ]
 have oO:decide (n=0)=kn:=by
  rw[kB,hn];clear hm aI fG xU hn kB R0 R hml tU lE;cases qf with
  |nil=>rfl
  |cons x l=>simp;omega
 clear hm;subst hD;exact C6 (.aJ (.cons (jl (q:=⟨qi,qm,qt,qh,qf,qb⟩) rfl (.sl (by exact oO) (by show n1=kl;rw[xU,fG]) λi hi=>aI i (by have hi:(i:Int)<n1:=hi;omega)) rfl rfl rfl rfl rfl rfl rfl rfl rfl rfl rfl rfl rfl rfl rfl rfl rfl rfl _ _ rfl) (.cons (Ai rfl) .nil)))
set_option maxHeartbeats 400000
structure Kept(s t:Ms)(x:Me):Prop where
 jH:t.jH=s.jH
 out:t.out=s.out
 aW:t.aW=s.aW
 cQ:t.cQ=s.cQ
 aS:t.aS=s.aS+(if x.kind=1 then x.n else 0)
 ended:t.ended=(s.ended||decide (x.kind=3)||decide (x.kind=4))
theorem Q6:∀(b:List UInt8) (s:Ms),(B9 s b).jH=s.jH/\(B9 s b).out=s.out/\(B9 s b).aW=s.aW/\(B9 s b).cQ=s.cQ/\(B9 s b).aS=s.aS/\(B9 s b).ended=s.ended
 | [],s=>⟨rfl,rfl,rfl,rfl,rfl,rfl⟩
 |c :: b,s=>by
  rw[Fc]
  split
  .exact⟨rfl,rfl,rfl,rfl,rfl,rfl⟩
  split
  .exact⟨rfl,rfl,rfl,rfl,rfl,rfl⟩
  split
  .exact⟨rfl,rfl,rfl,rfl,rfl,rfl⟩
  split
  .exact⟨rfl,rfl,rfl,rfl,rfl,rfl⟩
  exact Q6 b { s with inn:=(bA s.inn c).1,phase:=if (bA s.inn c).1.phase=2 then 1 else s.phase }
theorem Abn(s:Ms)(b:List UInt8):(Da s b).jH=s.jH/\(Da s b).out=s.out/\(Da s b).aW=s.aW/\(Da s b).cQ=s.cQ/\(Da s b).aS=s.aS/\(Da s b).ended=s.ended:=by
 unfold Da
 split
 .exact⟨rfl,rfl,rfl,rfl,rfl,rfl⟩
 .exact Q6 b s
theorem Ny(s:Ms)(x:Me):Kept s (A4 s x) x:=by
 unfold A4
 split
 .rename_i h
  exact⟨rfl,rfl,rfl,rfl,by show s.aS+x.n=_;rw[QB h],by show s.ended=_;simp[h]⟩
 rename_i h1
 split
 .rename_i h
  obtain⟨q1,q2,q3,q4,q5,q6⟩:=Abn s x.bytes;exact⟨q1,q2,q3,q4,by rw[q5,QA h1];omega,by rw[q6];simp[h]⟩
 rename_i h2
 split
 .rename_i h
  have:∀t:Ms,(t=Cw s)->Kept s t x:=λt e=>by
   unfold Cw at e
   split at e
   .rw[e];exact⟨rfl,rfl,rfl,rfl,by rw[QA h1];show s.aS=_;omega,by show true=_;simp[h]⟩
   split at e
   .rw[e];exact⟨rfl,rfl,rfl,rfl,by rw[QA h1];show s.aS=_;omega,by show true=_;simp[h]⟩
   split at e
   .rw[e];exact⟨rfl,rfl,rfl,rfl,by rw[QA h1];show s.aS=_;omega,by show true=_;simp[h]⟩
   .rw[e];exact⟨rfl,rfl,rfl,rfl,by rw[QA h1];show s.aS=_;omega,by show true=_;simp[h]⟩
  exact this _ rfl
 rename_i h3
 split
 .rename_i h
  split
  .exact⟨rfl,rfl,rfl,rfl,by rw[QA h1];show s.aS=_;omega,by show true=_;simp[h]⟩
  .exact⟨rfl,rfl,rfl,rfl,by rw[QA h1];show s.aS=_;omega,by show true=_;simp[h]⟩
 .rename_i h4
  exact⟨rfl,rfl,rfl,rfl,by rw[QA h1];show s.aS=_;omega,by show s.ended=_;simp[h3,h4]⟩
structure Lu where
 s:Ms
 written:Int
 ended:Bool
 after:Bool
def RB(u:Lu)(x:Me):Lu :=
 if Cc u.s x≠0 then u else
 ⟨A4 u.s x,if x.kind=1 then u.written+x.n else u.written,u.ended||decide (x.kind=3)||decide (x.kind=4),
  if u.s.phase=1/\x.kind=2/\x.bytes≠[] then true else u.after⟩
structure AW(u:Lu)(out:List UInt8):Prop where
 ok:Pp u.s
 w:u.written=u.s.aS
 e:u.ended=u.s.ended
 a:u.after=true->u.s.phase=2
 b:u.s.cQ=100
 out:u.s.out=out
theorem U6{s:Ms}{x:Me}(h:Cc s x=0):s.phase≠2:=λe=>by
 unfold Cc at h
 split at h
 .cases h
 split at h
 .cases h
 rw[QB (.inl e)]at h;cases h
theorem vw{u:Lu}{x:Me}{out:List UInt8}(h:AW u out):AW (RB u x) out:=by
 unfold RB
 split
 .exact h
 rename_i he;have he:Cc u.s x=0:=by simpa using he
 have K:=Ny u.s x;refine⟨Ng h.ok he,?_,?_,?_,?_,?_⟩
 .show (if x.kind=1 then u.written+x.n else u.written)=(A4 u.s x).aS
  rw[K.aS,h.w];split<;>omega
 .show (u.ended||_||_)=(A4 u.s x).ended
  rw[K.ended,h.e]
 .show (if u.s.phase=1/\x.kind=2/\x.bytes≠[] then true else u.after)=true->(A4 u.s x).phase=2
  split
  .rename_i g
   intro _;unfold A4;rw[QA (by omega),QB g.2.1];unfold Da;rw[QB ⟨g.2.2,.inl g.1⟩];rfl
  .intro g
   exact absurd (h.a g) (U6 he)
 .show (A4 u.s x).cQ=100
  rw[K.cQ];exact h.b
 .show (A4 u.s x).out=out
  rw[K.out];exact h.out
set_option maxHeartbeats 16000000
structure wV(s:Ms)(qb:Bool)(ql:Int)(qf:Nat->List SV)(x:bN):Prop where
 ok:Pp s
 rq:Pn s.jH qb ql qf
 x:iU s.inn x
theorem wV.aa3{s:Ms}(G:wV s qb ql qf x):AK s.cQ x:=by
 have h:=G.ok.fit;have hb:=G.x.bo;have hc:=G.x.cd;have h1:=G.ok.b1;refine⟨G.ok.b0,h1,?_,?_⟩<;>(unfold Cd at h;rw[<-hb,<-hc]at h;omega)
theorem wV.fits{s:Ms}(G:wV s qb ql qf x){r:Bool}(h:AL r s.cQ x):r=true:=by
 rw[h.h];have h:=G.ok.fit;have hb:=G.x.bo;have hc:=G.x.cd;have hl:=G.x.lf;unfold Cd at h;rw[<-hb,<-hc,<-hl]at h;unfold Rk;rw[ZN (by omega),ZN (by omega)];rfl
theorem Kn{s:Ms}(X:iU s.inn x):(No (Ay s qb ql qf x)=true)↔early s.inn:=by
 unfold No early Ay;rw[X.ph,X.ln,X.inf];simp only[QE,QS]
 grind
theorem wV.dj{s:Ms}(G:wV s qb ql qf x){r:Bool}(h:AT r (Ay s qb ql qf x)):r=true:=by
 rw[h.h];have hr:=G.ok.right;have he:=Kn (qb:=qb) (ql:=ql) (qf:=qf) G.x;have hx:=G.x.ph;unfold Bn H9 Mr;obtain⟨e,eu⟩:∃e,e=No (Ay s qb ql qf x):=⟨_,rfl⟩;rw[<-eu]at he ⊢;unfold Ss at hr;simp only[Ay,hx];rcases hr with⟨a,b,c,d⟩|⟨a,b,d⟩|⟨a,hr⟩
 .simp[a,b,c,d]
 .simp[a,b,d]
 .rcases hr with⟨(b|b|b|b|b),c,d⟩|⟨b,c,(d|d)⟩|⟨b,c,d⟩|⟨b,c,d,f⟩|⟨b,c,d⟩
  .simp[a,b,c,d]
  .simp[a,b,c,d]
  .simp[a,b,c,d]
  .simp[a,b,c,d]
  .simp[a,b,c,d]
  .simp[a,b,c,d]
  .simp[a,b,c,d]
  .simp[a,b,c,he.2 d]
  .have:e=false:=by
    cases e with
    |true=>exact absurd (he.1 rfl) d
    |false=>rfl
   simp[a,b,c,f,this]
  .simp[a,b,c,d]
def rM:aB:=λ_ xs ls K=>∃(s:Ms) (qb:Bool) (ql:Int) (qf:Nat->List SV) (x:bN),xs=[.agg (cG (Ay s qb ql qf x))]/\ls=[]/\wV s qb ql qf x/\K (.int .i64 (.a 0)) []
theorem br2{D:Dn}(hD:D=dn){a b:BT}{A B:Prop}(ht:(a.den&&b.den)=true->A)(hf:(a.den&&b.den)=false->B):((D.b a&&D.b b)=true->A)/\((D.b a&&D.b b)=false->B):=by subst hD;exact⟨ht,hf⟩
theorem Jt:Ap Tryz.prog qT 39 rM:=by
 refine Bv (gh:=[(8000097,[]),(8000098,[]),(8000099,[])]) mixed Ds (Ab X5 (Ab (Df Al9) (Ab (Df Zo) (Al (Df Zk) (Al (Df Qn) (Al (Df Ajy) Ae)))))) Tryz.func39 (by kernel_rfl) (by kernel_rfl) ?_;intro xs ls K h;unfold rM at h;obtain⟨s,qb,ql,qf,x,rfl,rfl,G,h⟩:=h;have oO:Ag s.inn []=(s.inn,0,0):=rfl;refine⟨_,_,h,λD hD=>?_⟩;clear h;unfold cG Ay;cbv;refine⟨s.jH,qb,ql,qf,by subst hD;rfl,rfl,G.rq,λt e kJ=>?_⟩;cbv;refine⟨s.aW,s.cQ,by subst hD;rfl,rfl,λr hr=>?_⟩;cbv;refine br hD (λhb=>?_) (λhb=>?_)<;>cbv
 .exfalso
  have hb:((((((e != 0)||!(t==s.out))||decide (s.aS<0))||decide ((t.length:Int)<s.aS))||!r)||!(x.m==s.jH.method))=true:=by subst hD;exact hb
  have h1:=G.ok.enc;rw[<-kJ]at h1;obtain⟨rfl,rfl⟩:=Prod.mk.inj h1;have h2:r=true:=by
   rw[hr];unfold Wp;simp[G.ok.h0,G.ok.h1,G.ok.b0,G.ok.b1]
  have h3:x.m=s.jH.method:=G.x.m.trans G.ok.met;have h4:=G.ok.s0;have h5:=G.ok.s1;rw[h2,h3]at hb;simp at hb;omega
 clear hb;refine⟨s.inn,bN.nm D x,[],true,0,λ_=>[],by subst hD;rfl,rfl,by subst hD;exact G.x,G.ok.rs,by rw[G.ok.met];exact G.rq.method,by subst hD;exact⟨rfl,λi hi=>absurd hi (by simp)⟩,by simp,λ_=>rfl,λk hk=>⟨λaY=>?_,λhe y u W N hu=>?_⟩⟩<;>cbv
 .exfalso
  rw[hk]at aY;exact aY rfl
 .refine br hD (λhb=>?_) (λhb=>?_)<;>cbv
  .exfalso
   have hb:((0:Int) != 0)=true:=by subst hD;exact hb
   cases hb
  clear hb;have hL:((x.ln.length:Int)<=s.aW):=by rw[G.x.ln];exact G.ok.line
  refine br hD (λhg=>?_) (λhg=>?_)<;>cbv
  .clear hg
   refine⟨Ay s qb ql qf x,bN.nm D x,by subst hD;rfl,by subst hD;rfl,by subst hD;exact G.aa3,λr1 dB=>?_⟩;cbv;obtain rfl:r1=true:=G.fits (by subst hD;exact dB);refine br2 hD (λhg=>?_) (λhg=>?_)<;>cbv
   .refine⟨Ay s qb ql qf x,by subst hD;rfl,by subst hD;rfl,λr2 cO=>?_⟩
    cbv;have kU:s.aS=0:=by
     rw[QE]at hg;have h1:(s.aS==0)=true:=hg.1;exact eq_of_beq h1
    obtain rfl:r2=true:=by rw[cO,Kn G.x];exact G.ok.wR kU
    clear hg;refine br hD (λhg=>?_) (λhg=>?_)<;>cbv
    .clear hg
     refine⟨Ay s qb ql qf x,by subst hD;rfl,by subst hD;rfl,λr3 w7=>?_⟩;cbv;obtain rfl:r3=true:=G.dj w7;refine br hD (λhg=>?_) (λhg=>?_)<;>cbv
     .exfalso
      have hg:(((decide (s.aW<(x.ln.length:Int))||!true)||((s.aS==0)&&!true))||!true)=true:=by subst hD;exact hg
      rw[YI (Int.not_lt.mpr hL)]at hg;simp at hg
     .subst hD
      exact C6 (aO.refl _)
    .exfalso
     have hg:(!((decide (s.aW<(x.ln.length:Int))||!true)||((s.aS==0)&&!true)))=false:=by subst hD;exact hg
     rw[YI (Int.not_lt.mpr hL)]at hg;simp at hg
   .have kU:(s.aS==0)=false:=by
     have hg:((s.aS==0)&&!(decide (s.aW<(x.ln.length:Int))||!true))=false:=hg;rw[YI (Int.not_lt.mpr hL)]at hg;simpa using hg
    clear hg;refine br hD (λhg=>?_) (λhg=>?_)<;>cbv
    .clear hg
     refine⟨Ay s qb ql qf x,by subst hD;rfl,by subst hD;rfl,λr3 w7=>?_⟩;cbv;obtain rfl:r3=true:=G.dj w7;refine br hD (λhg=>?_) (λhg=>?_)<;>cbv
     .exfalso
      have hg:(((decide (s.aW<(x.ln.length:Int))||!true)||((s.aS==0)&&false))||!true)=true:=by subst hD;exact hg
      rw[YI (Int.not_lt.mpr hL)]at hg;simp at hg
     .subst hD
      exact C6 (aO.refl _)
    .exfalso
     have hg:(!((decide (s.aW<(x.ln.length:Int))||!true)||((s.aS==0)&&false)))=false:=by subst hD;exact hg
     rw[YI (Int.not_lt.mpr hL)]at hg;simp at hg
  .exfalso
   have hg:(!decide (s.aW<(x.ln.length:Int)))=false:=by subst hD;exact hg
   rw[ZO,decide_eq_true_iff]at hg;exact absurd hL (Int.not_le.mpr hg)
set_option maxHeartbeats 8000000
def LM(s:Rs):Int×Int:=if s.phase=2 then (2,0) else if s.phase=1/\s.aD=3 then (2,0) else (s.phase,10)
def zJ:aB:=λ_ xs ls K=>∃(s:Rs) (x:bN),xs=[nZ x]/\ls=[]/\iU s x/\C7 s/\s.method.length<=9223372036854775807/\
 ∀p e,(p,e)=LM s->K (.aJ [nZ { x with ph:=p },.int .i64 (.a e)]) []
theorem Ae7{m ln cl cd:List UInt8}{ph eV inf tP lf gX cp yG cf yH:ST}
  (h1:ph.den=eV.den) (h2:inf.den=tP.den) (h3:mi.den=wF.den) (h4:st.den=qM.den) (h5:aO (.sl fb fl 2 ff) (.sl yD yB 2 yC)) (h6:fr.den=nU.den) (h7:lf.den=gX.den) (h8:cp.den=yG.den) (h9:cf.den=yH.den) (jN:aO (.sl cb ct 2 ctf) (.sl qV pN 2 gH)) (mj:e.den=e'.den):
  Fin (.aJ [.agg [.str m,.int .i64 ph,.int .i64 inf,.str ln,.int .i64 mi,.int .i64 st,.str re,.sl fb fl 2 ff,.int .i64 fr,.str bo,.int .i64 lf,.int .i64 cp,.str cl,.str cd,.int .i64 cf,.sl cb ct 2 ctf],.int .i64 e])
   (.aJ [.agg [.str m,.int .i64 eV,.int .i64 tP,.str ln,.int .i64 wF,.int .i64 qM,.str re,.sl yD yB 2 yC,.int .i64 nU,.str bo,.int .i64 gX,.int .i64 yG,.str cl,.str cd,.int .i64 yH,.sl qV pN 2 gH],.int .i64 e']) [] [] :=
 C6 (.aJ (.cons (aO.agg (.cons (Cj _) (.cons (Ai h1) (.cons (Ai h2) (.cons (Cj _) (.cons (Ai h3) (.cons (Ai h4) (.cons (Cj _) (.cons h5 (.cons (Ai h6) (.cons (Cj _) (.cons (Ai h7) (.cons (Ai h8) (.cons (Cj _) (.cons (Cj _) (.cons (Ai h9) (.cons jN .nil))))))))))))))))) (.cons (Ai mj) .nil)))
theorem zc:Ap Tryz.prog gl 24 zJ:=by
 refine Bv (gh:=[]) mixed Ee (Ab S6 Ae) Tryz.func24 (by kernel_rfl) (by kernel_rfl) ?_;intro xs ls K h;unfold zJ at h;obtain⟨s,x,rfl,rfl,V,O,hm,h⟩:=h;obtain⟨p,e,hk⟩:∃p e,(p,e)=LM s:=⟨_,_,rfl⟩;have h:=h p e hk;refine⟨_,_,h,λD hD=>?_⟩;clear h;have fH:x.ph=s.phase:=V.ph;have cE:x.fr=s.aD:=V.fr;unfold LM at hk;rw[<-fH,<-cE]at hk;obtain⟨m,ph,inf,ln,mi,st,re,fb,fl,ff,fr,bo,lf,cp,cl,cd,cf,cb,ct,ctf⟩:=x;simp only at hk;clear fH cE;unfold nZ;cbv;refine⟨s,bN.nm D ⟨m,ph,inf,ln,mi,st,re,fb,fl,ff,fr,bo,lf,cp,cl,cd,cf,cb,ct,ctf⟩,rfl,rfl,by subst hD;exact V,O,hm,?_⟩;cbv;refine br hD (λhb=>?_) (λhb=>?_)<;>cbv
 .exfalso
  have hb:(!true)=true:=by subst hD;exact hb
  cases hb
 clear hb;refine br hD (λhb=>?_) (λhb=>?_)<;>cbv
 .have hb:((ph==1)&&(fr==3))=true:=by subst hD;exact hb
  rw[QE,QS,QS]at hb;rw[QA (by omega),QB hb]at hk;simp only[Prod.mk.injEq]at hk;obtain⟨rfl,rfl⟩:=hk;subst hD;exact Ae7 rfl rfl rfl rfl (aO.refl _) rfl rfl rfl rfl (aO.refl _) rfl
 have lF:¬(ph=1/\fr=3):=by
  have hb:((ph==1)&&(fr==3))=false:=by subst hD;exact hb
  rintro⟨rfl,rfl⟩;cases hb
 clear hb;refine br hD (λhb=>?_) (λhb=>?_)<;>cbv
 .have hb:(ph != 2)=true:=by subst hD;exact hb
  rw[QA (by simpa using hb),QA lF]at hk;simp only[Prod.mk.injEq]at hk;obtain⟨rfl,rfl⟩:=hk;subst hD;exact Ae7 rfl rfl rfl rfl (aO.refl _) rfl rfl rfl rfl (aO.refl _) rfl
 .have hb:(ph != 2)=false:=by subst hD;exact hb
  have hb:ph=2:=by simpa using hb
  rw[QB hb]at hk;simp only[Prod.mk.injEq]at hk;obtain⟨rfl,rfl⟩:=hk;subst hD;exact Ae7 (by exact hb) rfl rfl rfl (aO.refl _) rfl rfl rfl rfl (aO.refl _) rfl
def OW:List UInt8:=[99,111,110,110,101,99,116,105,111,110]
def Aeb:List UInt8:=[99,108,111,115,101]
def Akl:List UInt8:=[107,101,101,112,45,97,108,105,118,101]
def My(h:qL)(fr:Int):Bool :=
 (((B7 (Ib h.fields OW)).isSome&&(fr != 3))&&!((B7 (Ib h.fields OW)).getD []).contains Aeb)&&((h.minor==1)||((B7 (Ib h.fields OW)).getD []).contains Akl)
def LW(mi st:Int)(re:List UInt8)(fb:Bool)(fl:Int)(ff:Nat->List SV)(fr:Int)(bo:List UInt8)(cb:Bool)(ct:Int)(ctf:Nat->List SV)(kp:Bool):SV :=
 .agg [.int .i64 (.a mi),.int .i64 (.a st),.str re,.sl (.a fb) (.a fl) 2 ff,.int .i64 (.a fr),.str bo,.sl (.a cb) (.a ct) 2 ctf,.bool (.a kp)]
def vO:aB:=λ_ xs ls K=>∃(s:Rs) (x:bN),xs=[nZ x]/\ls=[]/\iU s x/\C7 s/\s.method.length<=9223372036854775807/\
 (s.phase≠2->K (.aJ [LW 0 0 [] true 0 (λ_=>[]) 0 [] true 0 (λ_=>[]) false,.int .i64 (.a 9)]) [])/\
 (s.phase=2->∀bo cb ct ctf kp,kp=My s.head s.aD->(s.aD=2->bo=x.cd/\cb=x.cb/\ct=x.ct/\ctf=x.ctf)->(s.aD≠2->bo=x.bo/\cb=true/\ct=0/\ctf=λ_=>[])->
  K (.aJ [LW x.mi x.st x.re x.fb x.fl x.ff x.fr bo cb ct ctf kp,.int .i64 (.a 0)]) [])
theorem Ae6{kp ET:BT}
  (h3:mi.den=wF.den) (h4:st.den=qM.den) (h5:aO (.sl fb fl 2 ff) (.sl yD yB 2 yC)) (h6:fr.den=nU.den) (jN:aO (.sl cb ct 2 ctf) (.sl qV pN 2 gH)) (JA:kp.den=ET.den) (mj:e.den=e'.den):
  Fin (.aJ [.agg [.int .i64 mi,.int .i64 st,.str re,.sl fb fl 2 ff,.int .i64 fr,.str bo,.sl cb ct 2 ctf,.bool kp],.int .i64 e])
   (.aJ [.agg [.int .i64 wF,.int .i64 qM,.str re,.sl yD yB 2 yC,.int .i64 nU,.str bo,.sl qV pN 2 gH,.bool ET],.int .i64 e']) [] [] :=
 C6 (.aJ (.cons (aO.agg (.cons (Ai h3) (.cons (Ai h4) (.cons (Cj _) (.cons h5 (.cons (Ai h6) (.cons (Cj _) (.cons jN (.cons (Dv JA) .nil))))))))) (.cons (Ai mj) .nil)))
theorem ig:Ap Tryz.prog gl 25 vO:=by
 refine Bv (gh:=[]) mixed Ee (Ab S6 (Ab S5 (Ab Amw Ae))) Tryz.func25 (by kernel_rfl) (by kernel_rfl) ?_;intro xs ls K h;unfold vO at h;obtain⟨s,x,rfl,rfl,V,O,hm,h9,h0⟩:=h;obtain⟨kp,ej⟩:∃kp,kp=My s.head s.aD:=⟨_,rfl⟩;have fH:x.ph=s.phase:=V.ph;have cE:x.fr=s.aD:=V.fr;have xl:x.mi=s.head.minor:=V.mi;obtain⟨r,dB,cO,w7,hK⟩:∃r,(s.phase≠2->r=.aJ [LW 0 0 [] true 0 (λ_=>[]) 0 [] true 0 (λ_=>[]) false,.int .i64 (.a 9)])/\
   (s.phase=2->s.aD=2->r=.aJ [LW x.mi x.st x.re x.fb x.fl x.ff x.fr x.cd x.cb x.ct x.ctf kp,.int .i64 (.a 0)])/\
   (s.phase=2->s.aD≠2->r=.aJ [LW x.mi x.st x.re x.fb x.fl x.ff x.fr x.bo true 0 (λ_=>[]) kp,.int .i64 (.a 0)])/\K r []:=by
  by_cases h2:s.phase=2
  .by_cases h3:s.aD=2
   .exact⟨_,λh=>absurd h2 h,λ_ _=>rfl,λ_ h=>absurd h3 h,h0 h2 _ _ _ _ _ ej (λ_=>⟨rfl,rfl,rfl,rfl⟩) (λh=>absurd h3 h)⟩
   .exact⟨_,λh=>absurd h2 h,λ_ h=>absurd h h3,λ_ _=>rfl,h0 h2 _ _ _ _ _ ej (λh=>absurd h h3) (λ_=>⟨rfl,rfl,rfl,rfl⟩)⟩
  .exact⟨_,λ_=>rfl,λh=>absurd h h2,λh=>absurd h h2,h9 h2⟩
 refine⟨_,_,hK,λD hD=>?_⟩;clear hK h9 h0;obtain⟨m,ph,inf,ln,mi,st,re,fb,fl,ff,fr,bo,lf,cp,cl,cd,cf,cb,ct,ctf⟩:=x;simp only at fH cE xl;unfold nZ;cbv;refine⟨s,bN.nm D ⟨m,ph,inf,ln,mi,st,re,fb,fl,ff,fr,bo,lf,cp,cl,cd,cf,cb,ct,ctf⟩,rfl,rfl,by subst hD;exact V,O,hm,?_⟩;cbv;refine br hD (λhb=>?_) (λhb=>?_)<;>cbv
 .exfalso
  have hb:(!true)=true:=by subst hD;exact hb
  cases hb
 clear hb;refine br hD (λhb=>?_) (λhb=>?_)<;>cbv
 .have hb:(ph != 2)=true:=by subst hD;exact hb
  rw[dB (by rw[<-fH];simpa using hb)];subst hD;exact Ae6 rfl rfl (aO.refl _) rfl (aO.refl _) rfl rfl
 have pE:s.phase=2:=by
  have hb:(ph != 2)=false:=by subst hD;exact hb
  rw[<-fH];simpa using hb
 clear hb;refine⟨s.head.fields,_,_,ff,OW,rfl,rfl,by subst hD;exact V.fl,by decide,λout th ok g n' b hv G=>?_⟩;cbv;have kx:kp=(((ok&&(fr != 3))&&!out.contains Aeb)&&((mi==1)||out.contains Akl)):=by
  rw[ej,cE,xl,hv.eo,hv.ek];rfl
 clear ej;refine⟨out,Aeb,_,_,g,rfl,rfl,by subst hD;exact G.row,λc1 cw=>?_⟩;cbv;rw[<-cw]at kx;refine⟨out,Akl,_,_,g,rfl,rfl,by subst hD;exact G.row,λc2 fR=>?_⟩;cbv;rw[<-fR]at kx;refine br hD (λhb=>?_) (λhb=>?_)<;>cbv
 .have hb:(fr==2)=true:=by subst hD;exact hb
  rw[cO pE (by rw[<-cE];simpa using hb)];subst hD;exact Ae6 rfl rfl (aO.refl _) rfl (aO.refl _) (by exact kx.symm) rfl
 .have hb:(fr==2)=false:=by subst hD;exact hb
  rw[w7 pE (by rw[<-cE];simpa using hb)];subst hD;exact Ae6 rfl rfl (aO.refl _) rfl (aO.refl _) (by exact kx.symm) rfl
set_option maxHeartbeats 16000000
theorem dI.JM{r:Rs}(Q:dI s0 x0 r x)(h:U9 r=some t):dI s0 x0 t { x with ph:=2 }:=by
 unfold U9 at h
 split at h
 .rename_i g
  cases h;have:({ x with ph:=2 }:bN)=x:=by
   have:=Q.g.v.ph;rw[g]at this;obtain⟨m,ph,inf,ln,mi,st,re,fb,fl,ff,fr,bo,lf,cp,cl,cd,cf,cb,ct,ctf⟩:=x;simp only at this;subst this;rfl
  rw[this];exact Q
 split at h
 .rename_i g0 g
  cases h;have O:C7 { r with phase:=2 }:=(Ag4 (t:={ r with phase:=2 }) Q.g.ok (by unfold U9;rw[QA g0,QB g])).1;obtain⟨a1,a2,a3,a4,a5,a6,a7,a8,a9,wU,wT,a12,uR,qK⟩:=Q.g.v;refine⟨⟨⟨a1,rfl,a3,a4,a5,a6,a7,a8,a9,wU,wT,a12,uR,qK⟩,O,Q.g.met,Q.g.fn,Q.g.tn,Q.g.bd⟩,⟨?_,Q.n.c⟩,λh=>⟨by show (2:Int)≠0;decide,(Q.a h).2⟩,Q.c⟩;show x.fb=if (2:Int)≠0/\s0.phase=0 then r.head.fields.isEmpty else x0.fb
  rw[Q.n.f]
  by_cases z:s0.phase=0
  .rw[QB ⟨by rw[g.1];decide,z⟩,QB ⟨by decide,z⟩]
  .rw[QA (λh=>z h.2),QA (λh=>z h.2)]
 .cases h
theorem X9{s:Ms}(Q:dI s0 x0 s.inn x):∃y,dI s0 x0 (Cw s).inn y:=by
 unfold Cw
 split
 .exact⟨x,Q⟩
 split
 .rename_i r hr
  exact⟨_,Q.JM hr⟩
 split
 .exact⟨x,Q⟩
 .exact⟨x,Q⟩
def rI:aB:=λ_ xs ls K=>∃(s0:Rs) (x0:bN) (s:Ms) (qb:Bool) (ql:Int) (qf:Nat->List SV) (x:bN) (v:dN),
 xs=[.ptr 0 0,lH v]/\ls=[.aG 144 (cG (Ay s qb ql qf x))]/\dI s0 x0 s.inn x/\
 ∀y m,dI s0 x0 (Cw s).inn y->jO m (Ay (Cw s) qb ql qf y)->K (.aJ []) [.aG 144 (cG m)]
theorem Afj:Ap Tryz.prog gl 216 rI:=by
 refine Bq (gh:=[]) mixed Ds (Al Pb (Al Qn (Ab zc Ae))) Tryz.func216 (by kernel_rfl) (by kernel_rfl) ?_;intro xs ls K h;unfold rI at h;obtain⟨s0,x0,s,qb,ql,qf,x,v,rfl,rfl,Q,h⟩:=h;obtain⟨t,ht⟩:∃t,qW t (Cw s):=⟨_,⟨rfl⟩⟩;rw[<-ht.h]at h;obtain⟨y0,Q0⟩:∃y0,dI s0 x0 t.inn y0:=by rw[ht.h];exact X9 Q
 obtain⟨m0,gF⟩:∃m0,jO m0 (Ay t qb ql qf y0):=⟨_,⟨rfl⟩⟩;have h:=h y0 m0 Q0 gF;refine⟨_,_,h,λD hD=>?_⟩;clear h;unfold cG Ay lH;cbv;refine br hD (λhb=>?_) (λhb=>?_)<;>cbv
 .have e:t={ s with ended:=true }:=by
   have hb:(s.phase==1)=true:=by subst hD;exact hb
   rw[ht.h];unfold Cw;rw[QB (eq_of_beq hb)]
  subst e hD;exact Dx (t:={ s with ended:=true }) (Q.eO Q0) gF
 have hb:¬s.phase=1:=by
  have hb:(s.phase==1)=false:=by subst hD;exact hb
  intro e;rw[e]at hb;cases hb
 refine⟨s.inn,bN.nm D x,by subst hD;rfl,rfl,by subst hD;exact Q.g.v,Q.g.ok,Q.g.met,λp e wH=>?_⟩;cbv;refine br hD (λhe=>?_) (λhe=>?_)<;>cbv
 .have he:e=0:=by
   have he:(e==0)=true:=by subst hD;exact he
   exact eq_of_beq he
  obtain⟨r,hr,hp⟩:∃r,U9 s.inn=some r/\p=2:=by
   unfold LM at wH;unfold U9
   by_cases g1:s.inn.phase=2
   .rw[QB g1]at wH ⊢
    exact⟨_,rfl,(Prod.mk.inj wH).1⟩
   rw[QA g1]at wH ⊢
   by_cases g2:s.inn.phase=1/\s.inn.aD=3
   .rw[QB g2]at wH ⊢
    exact⟨_,rfl,(Prod.mk.inj wH).1⟩
   rw[QA g2]at wH;have:=(Prod.mk.inj wH).2;omega
  have e:t={ s with ended:=true,inn:=r,phase:=1 }:=by
   rw[ht.h];unfold Cw;rw[QA hb,hr]
  subst hp e hD;exact Dx (t:={ s with ended:=true,inn:=r,phase:=1 }) ((Q.JM hr).eO Q0) gF
 .have hr:U9 s.inn=none:=by
   have he:(e==0)=false:=by subst hD;exact he
   unfold LM at wH;unfold U9
   by_cases g1:s.inn.phase=2
   .rw[QB g1]at wH
    rw[(Prod.mk.inj wH).2]at he;cases he
   rw[QA g1]at wH ⊢
   by_cases g2:s.inn.phase=1/\s.inn.aD=3
   .rw[QB g2]at wH
    rw[(Prod.mk.inj wH).2]at he;cases he
   rw[QA g2]
  refine⟨Ay { s with ended:=true } qb ql qf x,by subst hD;rfl,by subst hD;rfl,λr hE=>?_⟩;cbv;refine br hD (λhg=>?_) (λhg=>?_)<;>cbv
  .refine⟨Ay { s with ended:=true } qb ql qf x,15,by subst hD;rfl,by subst hD;rfl,?_⟩
   cbv;have e:t=broken { s with ended:=true } 15:=by
    have hg:r=true:=by subst hD;exact hg
    have h2:early s.inn:=(Kn (s:={ s with ended:=true }) Q.g.v).1 (by rw[<-hE];exact hg);rw[ht.h];unfold Cw;rw[QA hb,hr];simp only;rw[QB h2]
   subst e hD;exact Dx (t:=broken { s with ended:=true } 15) (Q.eO Q0) gF
  .refine⟨Ay { s with ended:=true } qb ql qf x,9,by subst hD;rfl,by subst hD;rfl,?_⟩
   cbv;have e:t=broken { s with ended:=true } 9:=by
    have hg:r=false:=by subst hD;exact hg
    have h2:¬early s.inn:=λq=>by
     have:=(Kn (s:={ s with ended:=true }) (qb:=qb) (ql:=ql) (qf:=qf) Q.g.v).2 q;rw[<-hE,hg]at this;cases this
    rw[ht.h];unfold Cw;rw[QA hb,hr];simp only;rw[QA h2]
   subst e hD;exact Dx (t:=broken { s with ended:=true } 9) (Q.eO Q0) gF
theorem T3(s:Ms)(c:UInt8):(Fb s c).cQ=s.cQ:=by
 unfold Fb
 split
 .rfl
 split
 .rfl
 split<;>rfl
structure LI(s0:Rs)(x0:bN)(s:Ms)(l:List UInt8)(t:Ms)(y:bN)(i:Nat):Prop where
 q:ov s0 x0 t y
 le:i<=l.length
 r:Bx s l=Bx t (l.drop i)
def zK:aB:=λ_ xs ls K=>∃(s0:Rs) (x0:bN) (s:Ms) (qb:Bool) (ql:Int) (qf:Nat->List SV) (x:bN) (b:List UInt8) (n:Nat),
 xs=[.ptr 0 0,.ptr 1 0,.ptr 2 0]/\ls=[.aG 3 [.int .i64 (.a (n:Int))],.aG 142 [.ptr 3 0],.aG 9 [.str b],.aG 144 (cG (Ay s qb ql qf x))]/\ov s0 x0 s x/\n<=b.length/\b.length<=1000000/\
 ∀y m,dI s0 x0 (Bx s (b.take n)).inn y->jO m (Ay (Bx s (b.take n)) qb ql qf y)->K (.aJ []) [.aG 3 [.int .i64 (.a (n:Int))],.aG 142 [.ptr 3 0],.aG 9 [.str b],.aG 144 (cG m)]
theorem mv{t:Ms}{r:Rs}{m0:fA}{a b c:Hl}(T:Twin r y y0)(hm:jO m0 (Ay t qb ql qf y0)):
  Fin (.aJ []) (.aJ []) [a,b,c,.aG 144 (cG (Ay t qb ql qf y))] [a,b,c,.aG 144 (cG m0)]:=by
 rw[hm.h];exact⟨aO.refl _,Cn (cI.cons (λ_ _ _ h=>h) (cI.cons (λ_ _ _ h=>h) (cI.cons (λ_ _ _ h=>h) (cI.cons (Ao (MO (c:=Ay t qb ql qf y) T)) λ_ _ _ _ h=>h)))),QH _⟩
def JO(s0:Rs)(x0:bN)(s:Ms)(qb:Bool)(ql:Int)(qf:Nat->List SV)(b:List UInt8)(n:Nat)(m:Nat)(vs:List (Option SV))(hp:List Hl):Prop :=
 ∃(t:Ms) (y:bN) (i:Nat),vs=[some (.ptr 0 0),some (.ptr 1 0),some (.ptr 2 0),some (.int .i64 (.a (i:Int)))]/\
  hp=[.aG 3 [.int .i64 (.a (n:Int))],.aG 142 [.ptr 3 0],.aG 9 [.str b],.aG 144 (cG (Ay t qb ql qf y))]/\LI s0 x0 s (b.take n) t y i/\m=n-i
theorem nh:Ap Tryz.prog gl 294 zK:=by
 refine Bq (gh:=[]) mixed Ds (Al vm Ae) Tryz.func294 (by kernel_rfl) (by kernel_rfl) ?_;intro xs ls K h;unfold zK at h;obtain⟨s0,x0,s,qb,ql,qf,x,b,n,rfl,rfl,V,hn,hb,h⟩:=h;obtain⟨t,ht⟩:∃t,qW t (Bx s (b.take n)):=⟨_,⟨rfl⟩⟩;rw[<-ht.h]at h;obtain⟨y0,Q0⟩:∃y0,dI s0 x0 t.inn y0:=by rw[ht.h];exact Ag7 _ s x V.q
 obtain⟨m0,gF⟩:∃m0,jO m0 (Ay t qb ql qf y0):=⟨_,⟨rfl⟩⟩;have h:=h y0 m0 Q0 gF;refine⟨_,_,h,λD hD=>?_⟩;clear h;cbv;obtain⟨J,hJ⟩:∃J,J=JO s0 x0 s qb ql qf b n:=⟨_,rfl⟩;refine⟨[0,1,2,3],J,⟨rfl,n,?_⟩,?_⟩
 .rw[hJ]
  subst hD;refine⟨s,x,0,rfl,rfl,⟨V,ZB _,rfl⟩,rfl⟩
 intro m3 vs hp hv;rw[hJ]at hv;obtain⟨t1,y1,i,e1,e2,E,mQ⟩:=hv;subst e1;unfold cG Ay at e2;cbv at e2;subst e2;cbv;refine br hD (λhc=>?_) (λhc=>?_)<;>cbv
 .have hc:i<n/\t1.phase=0:=by
   have hc:(decide ((i:Int)<(n:Int))&&(t1.phase==0))=true:=by subst hD;exact hc
   rw[QE,decide_eq_true_iff,QS]at hc;exact⟨by omega,hc.2⟩
  obtain⟨hi,hp⟩:=hc;refine⟨⟨by subst hD;show (0:Int)<=(i:Int);omega,by subst hD;show (i:Int)<(b.length:Int);omega⟩,λc hc=>?_⟩;cbv;have fR:ByU c (b.getD i 0):=by
   have cw:=hc.h;subst hD;exact⟨cw⟩
  refine⟨s0,x0,t1,qb,ql,qf,y1,c,b.getD i 0,by subst hD;rfl,by subst hD;rfl,E.q,fR,λy m Q hm=>?_⟩;cbv;obtain⟨rfl⟩:=hm;have hd:(b.take n).drop i=b.getD i 0 :: (b.take n).drop (i+1):=by
   have hl:i<(b.take n).length:=by rw[QZ];omega
   rw[YC hl,List.getElem_take,QD,QC (by omega)];rfl
  have hr:Bx s (b.take n)=Bx (Fb t1 (b.getD i 0)) ((b.take n).drop (i+1)):=by
   rw[E.r,hd];show (if t1.phase≠0 then t1 else _)=_;rw[QA (by simp[hp])]
  have hw:IntKind.i64.wrap ((i:Int)+1)=((i+1:Nat):Int):=by rw[wrap64 (by omega) (by omega)];rfl
  refine⟨n-(i+1),by rw[mQ];omega,?_⟩;rw[hJ];subst hD;refine⟨Fb t1 (b.getD i 0),y,i+1,?_,rfl,⟨⟨Q,by rw[T3];exact E.q.b0,by rw[T3];exact E.q.b1⟩,by rw[QZ];omega,hr⟩,rfl⟩;show [some (SV.ptr 0 0),some (SV.ptr 1 0),some (SV.ptr 2 0),some (SV.int .i64 (.a (IntKind.i64.wrap ((i:Int)+1))))]=_;rw[hw]
 .have e:t=t1:=by
   have hc:(decide ((i:Int)<(n:Int))&&(t1.phase==0))=false:=by subst hD;exact hc
   rw[ht.h,E.r]
   by_cases hi:i<n
   .have hp:¬t1.phase=0:=by
     rw[ZN (by omega)]at hc;simpa using hc
    cases (b.take n).drop i with
    |nil=>rfl
    |cons c l=>show (if t1.phase≠0 then t1 else _)=t1;rw[QB hp]
   .have:(b.take n).drop i=[]:=YB (by rw[QZ];omega)
    rw[this];rfl
  subst e hD;exact mv (t:=t) (E.q.q.eO Q0) gF
set_option maxHeartbeats 400000
theorem Af8{n:Int}{s:List UInt8}(h:Ahj f s)(hn:n=s.length):Bl f n s:=by
 refine⟨hn,λi hi=>?_⟩;rw[h.h];rfl
structure LY(t:Ms)(u:List UInt8)(n:Nat):Prop where
 p:t.phase=0
 i:t.inn.phase≠2
 ok:C7 t.inn
 fit:Cd t.inn t.cQ
 line:(t.inn.line.length:Int)<=t.aW
 ne:u≠[]
 n1:1<=n
 n2:n<=u.length
 room:t.inn.phase=0->(t.inn.line.length:Int)<t.aW->(t.inn.line.length:Int)+n<=t.aW
 full:t.inn.phase=0->(t.inn.line.length:Int)=t.aW->n=1
theorem Jw{t:Ms}(H:LY t u n)
  (h:(t.inn.phase=0/\t.aW<=(t.inn.line.length:Int))\/(Ag t.inn (u.take n)).2.2≠0\/¬Cd (Ag t.inn (u.take n)).1 t.cQ):B9 t u=Bx t (u.take n):=by
 have hl:=H.line;have kW:=H.n2
 by_cases g:t.inn.phase=0/\(t.inn.line.length:Int)=t.aW
 .have hn:=H.full g.1 g.2
  cases u with
  |nil=>exact absurd rfl H.ne
  |cons c u =>
   rw[hn];exact (Ajp H.p g.1 g.2).1
 .have B:Pq t (u.take n):=⟨H.p,H.i,H.ok,H.fit,λe=>by
   rw[QZ,UQ kW];exact H.room e (by have:(t.inn.line.length:Int)≠t.aW:=λq=>g ⟨e,q⟩;omega)⟩
  have hb:(Ag t.inn (u.take n)).2.2≠0\/¬Cd (Ag t.inn (u.take n)).1 t.cQ:=h.resolve_left λq=>g ⟨q.1,by omega⟩;have:=(Add (u.take n) (u.drop n) t B hb hl).1
  rwa [YK]at this
theorem Akn(l:List UInt8):∀s:Rs,(Ag s l).2.1<=l.length:=by
 induction l with
 |nil=>intro s;exact QH _
 |cons c l ih =>
  intro s;unfold Ag
  split
  .exact ZB _
  split
  .exact ZB _
  .have:=ih (bA s c).1
   simp only[QG];omega
theorem Ye{t:Ms}(H:LY t u n)(h1:¬(t.inn.phase=0/\t.aW<=(t.inn.line.length:Int)))
  (h2:(Ag t.inn (u.take n)).2.2=0) (h3:Cd (Ag t.inn (u.take n)).1 t.cQ):
  B9 t u=B9 (Bp t (Ag t.inn (u.take n)).1) (u.drop (Ag t.inn (u.take n)).2.1)/\1<=(Ag t.inn (u.take n)).2.1/\(Ag t.inn (u.take n)).2.1<=u.length:=by
 have hl:=H.line;have kW:=H.n2;have hlen:(u.take n).length=n:=by rw[QZ];omega
 have B:Pq t (u.take n):=⟨H.p,H.i,H.ok,H.fit,λe=>by
  rw[hlen];exact H.room e (by have:¬t.aW<=(t.inn.line.length:Int):=λq=>h1 ⟨e,q⟩;omega)⟩
 have G:=Yc (u.take n) (u.drop n) t B h2 h3;rw[YK]at G;have hu:=Akn (u.take n) t.inn;rw[hlen]at hu;have hd:(u.take n).drop (Ag t.inn (u.take n)).2.1++u.drop n=u.drop (Ag t.inn (u.take n)).2.1:=by
  obtain⟨q,hq⟩:∃q,q=(Ag t.inn (u.take n)).2.1:=⟨_,rfl⟩;rw[<-hq]at hu ⊢;have e:=List.drop_append_of_le_length (l₁:=u.take n) (l₂:=u.drop n) (i:=q) (by rw[hlen];exact hu);rw[<-e,YK]
 rw[hd]at G;refine⟨G,?_,by omega⟩;have hc:∃c l,u.take n=c :: l:=by
  cases hq:u.take n with
  |nil=>rw[hq]at hlen;have:=H.n1;simp at hlen;omega
  |cons c l=>exact⟨c,l,rfl⟩
 obtain⟨c,l,hc⟩:=hc;rw[hc]at h2 ⊢;unfold Ag at h2 ⊢;rw[QA H.i]at h2 ⊢
 by_cases h0:(bA t.inn c).2=0
 .rw[QA (by simpa using h0)]
  show 1<=_+1;omega
 .rw[QB h0]at h2
  exact absurd h2 h0
theorem Ako(l:List UInt8):∀s:Rs,C7 s->(Ag s l).1.line.length<=s.line.length+l.length:=by
 induction l with
 |nil=>intro s _;exact QH _
 |cons c l ih =>
  intro s h;unfold Ag
  split
  .exact Nat.le_add_right _ _
  rename_i h2
  split
  .exact Nat.le_add_right _ _
  rename_i h0;have h0:(bA s c).2=0:=by simpa using h0
  have:=ih _ (J7 h h2 (show bA s c=((bA s c).1,0) by rw[<-h0]));show (Ag (bA s c).1 l).1.line.length<=_;simp only[QG];rcases Od (s:=s) (c:=c) (λg=>(h.p1 g).1) with g|g|g
  .rw[g]at this;omega
  .rw[g]at this;simp only[QU]at this;omega
  .rw[g.2,QF]at this;simp only[QG,QU]at this;omega
theorem Yd{t:Ms}(H:LY t u n)(h1:¬(t.inn.phase=0/\t.aW<=(t.inn.line.length:Int)))(h2:(Ag t.inn (u.take n)).2.2=0):
  (((Bp t (Ag t.inn (u.take n)).1).inn.line.length:Int)<=(Bp t (Ag t.inn (u.take n)).1).aW)/\
  (((Bp t (Ag t.inn (u.take n)).1).phase=0/\(Bp t (Ag t.inn (u.take n)).1).inn.phase≠2)\/((Bp t (Ag t.inn (u.take n)).1).phase=1/\(Bp t (Ag t.inn (u.take n)).1).inn.phase=2)):=by
 have O:=Oe (u.take n) t.inn H.ok h2;have hL:=Ako (u.take n) t.inn H.ok;have hP:=To (u.take n) t.inn;have kW:=H.n2;have hlen:(u.take n).length=n:=by rw[QZ];omega
 rw[hlen]at hL;obtain⟨r,hr⟩:∃r,r=(Ag t.inn (u.take n)).1:=⟨_,rfl⟩;rw[<-hr]at O hL hP ⊢;refine⟨?_,?_⟩
 .show (r.line.length:Int)<=t.aW
  by_cases h0:r.phase=0
  .have hi:t.inn.phase=0:=Decidable.byContradiction λg=>(hP g).2 h0
   have:=H.room hi (by have:¬t.aW<=(t.inn.line.length:Int):=λq=>h1 ⟨hi,q⟩;omega);omega
  .rw[(O.p1 h0).1]
   have:=H.line;simp only[QU];omega
 .unfold Bp
  by_cases g:r.phase=2
  .rw[QB g];exact .inr ⟨rfl,g⟩
  .rw[QA g];exact .inl ⟨H.p,g⟩
end Go.Proofs.YtdoogdbjiijifaaGreatDoor
