/- A part of the proof: contracts of functions, or the executor and its soundness. No conditions. -/
import Derived.Test.YtdoogdbjiijifaaGreatDoorE8Pbb
import Derived.Test.YtdoogdbjiijifaaGreatDoorE8Pau
import Derived.Test.YtdoogdbjiijifaaGreatDoorE8Paz
import Derived.Test.YtdoogdbjiijifaaGreatDoorE8Pav
import Derived.Test.YtdoogdbjiijifaaGreatDoorE8Paw
namespace Go.Proofs.YtdoogdbjiijifaaGreatDoor
open Go Go.Sx
set_option maxRecDepth 100000
set_option maxHeartbeats 16000000
structure OG(s0:Rs)(x0:bN)(t:Ms)(y:bN)(u:List UInt8):Prop where
 q:ov s0 x0 t y
 line:(t.inn.line.length:Int)<=t.aW
 h0:64<=t.aW
 h1:t.aW<=65536
 fit:Cd t.inn t.cQ
 ph:(t.phase=0/\t.inn.phase≠2)\/(t.phase=1/\t.inn.phase=2)
 len:u.length<=1000000
def vQ:aB:=λ_ xs ls K=>∃(s0:Rs) (x0:bN) (s:Ms) (qb:Bool) (ql:Int) (qf:Nat->List SV) (x:bN) (b:List UInt8),
 xs=[.ptr 0 0,.str b]/\ls=[.aG 144 (cG (Ay s qb ql qf x))]/\OG s0 x0 s x b/\
 ∀y m,dI s0 x0 (Da s b).inn y->jO m (Ay (Da s b) qb ql qf y)->K (.aJ []) [.aG 144 (cG m)]
structure KS(s0:Rs)(x0:bN)(s:Ms)(b:List UInt8)(t:Ms)(y:bN)(u:List UInt8):Prop where
 r:OG s0 x0 t y u
 e:B9 s b=B9 t u
def ED(s0:Rs)(x0:bN)(s:Ms)(qb:Bool)(ql:Int)(qf:Nat->List SV)(b:List UInt8)(m:Nat)(vs:List (Option SV))(hp:List Hl):Prop :=
 ∃(t:Ms) (y:bN) (u:List UInt8),vs=[some (.ptr 1 0),some (.ptr 2 0)]/\
  hp=[.aG 144 (cG (Ay t qb ql qf y)),.aG 142 [.ptr 0 0],.aG 9 [.str u]]/\KS s0 x0 s b t y u/\m=u.length
theorem Akx:Ap Tryz.prog gl 265 vQ:=by
 refine Bq (gh:=[(8000097,[])]) mixed Ds (Al Pb (Al Zo (Al Zk (Al Aag (Al nh Ae))))) Tryz.func265 (by kernel_rfl) (by kernel_rfl) ?_;intro xs ls K h;unfold vQ at h;obtain⟨s0,x0,s,qb,ql,qf,x,b,rfl,rfl,V,h⟩:=h;obtain⟨t,ht⟩:∃t,qW t (Da s b):=⟨_,⟨rfl⟩⟩;rw[<-ht.h]at h;obtain⟨y0,Q0⟩:∃y0,dI s0 x0 t.inn y0:=by rw[ht.h];exact Ys V.q.q
 obtain⟨m0,gF⟩:∃m0,jO m0 (Ay t qb ql qf y0):=⟨_,⟨rfl⟩⟩;have h:=h y0 m0 Q0 gF;refine⟨_,_,h,λD hD=>?_⟩;clear h;unfold cG Ay;cbv;refine br hD (λhb=>?_) (λhb=>?_)<;>cbv
 .refine⟨Ay s qb ql qf x,12,by subst hD;rfl,by subst hD;rfl,?_⟩
  cbv;have e:t=broken s 12:=by
   have hb:((!(b==[]))&&((s.phase==1)||(s.aS==0)))=true:=by subst hD;exact hb
   rw[ht.h];unfold Da;rw[QB];rw[QE,XR,QS,QS]at hb;refine⟨by simpa using hb.1,?_⟩;rcases V.ph with g|g
   .exact .inr ⟨g.1,hb.2.resolve_left (by omega)⟩
   .exact .inl g.1
  subst e hD;exact Dx (t:=broken s 12) (V.q.q.eO Q0) gF
 have aY:t=B9 s b:=by
  have hb:((!(b==[]))&&((s.phase==1)||(s.aS==0)))=false:=by subst hD;exact hb
  rw[ht.h];unfold Da;rw[QA];rintro⟨g1,g2⟩;have h1:(!(b==[]))=true:=by simpa using g1
  rw[h1]at hb;have h2:((s.phase==1)||(s.aS==0))=true:=by
   rw[XR,QS,QS];rcases g2 with g|g
   .exact .inl g
   .exact .inr g.2
  rw[h2]at hb;cases hb
 clear hb;obtain⟨J,hJ⟩:∃J,J=ED s0 x0 s qb ql qf b:=⟨_,rfl⟩;refine⟨[2,3],J,⟨rfl,b.length,?_⟩,?_⟩
 .rw[hJ]
  subst hD;refine⟨s,x,b,rfl,rfl,⟨V,rfl⟩,rfl⟩
 intro m3 vs hp hv;rw[hJ]at hv;obtain⟨t1,y1,u,e1,e2,E,mQ⟩:=hv;subst e1;unfold cG Ay at e2;cbv at e2;subst e2;cbv;refine br hD (λhc=>?_) (λhc=>?_)<;>cbv
 .have hc:u≠[]/\t1.phase=0:=by
   have hc:((!(u==[]))&&(t1.phase==0))=true:=by subst hD;exact hc
   rw[QE,QS]at hc;exact⟨by simpa using hc.1,hc.2⟩
  refine br hD (λhp=>?_) (λhp=>?_)<;>cbv
  .intro r1 dB
   cbv;intro r2 cO;cbv;obtain⟨N,hN,H⟩:∃N:Nat,r2=(N:Int)/\LY t1 u N:=by
    have hp:(y1.ph==0)=true:=by subst hD;exact hp
    have hp:y1.ph=0:=eq_of_beq hp;have dB:r1=max 1 (IntKind.i64.wrap (t1.aW-(y1.ln.length:Int))):=by subst hD;exact dB.h
    have cO:r2=min (u.length:Int) r1:=by subst hD;exact cO.h
    have hl:=E.r.line;have h0:=E.r.h0;have h1:=E.r.h1;have hx:¬t1.phase=1:=by rw[hc.2];decide
    have hi:t1.inn.phase≠2:=by
     rcases E.r.ph with g|g
     .exact g.2
     .exact absurd g.1 hx
    rw[E.r.q.q.g.v.ln,wrap64 (by omega) (by omega)]at dB;have hu:1<=u.length:=List.length_pos_iff.mpr hc.1;have e1:1<=r1:=by omega
    refine⟨r2.toNat,by omega,hc.2,hi,E.r.q.q.g.ok,E.r.fit,hl,hc.1,by omega,by omega,λ_ _=>by omega,λ_ _=>by omega⟩
   clear dB cO;subst hN;refine⟨⟨by subst hD;show (0:Int)<=0;omega,by subst hD;show (0:Int)<=(N:Int);omega,by subst hD;show (N:Int)<=u.length;have:=H.n2;omega⟩,λw hw=>?_⟩;cbv;have hw:w=u.take N:=by
    have:=hw.h;subst hD;exact this
   have jy:w.length<=1000000:=by rw[hw,QZ];have:=E.r.len;omega
   have lE:(((y1.ph==0)&&decide (t1.aW<=(y1.ln.length:Int)))=true)↔(t1.inn.phase=0/\t1.aW<=(t1.inn.line.length:Int)):=by
    rw[QE,QS,decide_eq_true_iff,E.r.q.q.g.v.ph,E.r.q.q.g.v.ln]
   refine⟨⟨by omega⟩,λf1 fO=>?_⟩;cbv;refine⟨t1.inn,bN.nm D y1,w,false,(w.length:Int),f1,by subst hD;rfl,rfl,by subst hD;exact E.r.q.q.g.v,E.r.q.q.g.ok,E.r.q.q.g.met,by subst hD;exact Af8 fO rfl,jy,λh=>(by cases h),λk hk=>⟨λmE=>?_,λhe y v W N2 hv=>?_⟩⟩<;>cbv
   .clear fO
    have fG:(k.2.2 != 0)=true:=by simpa using mE
    refine br hD (λhg=>?_) (λhg=>?_)<;>cbv
    .exfalso
     have hg:(!(((y1.ph==0)&&decide (t1.aW<=(y1.ln.length:Int)))||(k.2.2 != 0)))=true:=by subst hD;exact hg
     rw[fG,Bool.or_true]at hg;cases hg
    .clear hg
     refine br hD (λhq=>?_) (λhq=>?_)<;>cbv
     .refine⟨s0,x0,t1,qb,ql,qf,y1,u,N,by subst hD;rfl,by subst hD;rfl,E.r.q,H.n2,E.r.len,λy m Q hm=>?_⟩
      cbv;obtain⟨rfl⟩:=hm;have e:t=Bx t1 (u.take N):=by
       rw[aY,E.e];exact Jw H (.inr (.inl (by rw[<-hw,<-hk];simpa using mE)))
      subst e hD;exact Dx (t:=Bx t1 (u.take N)) (Q.eO Q0) gF
     .exfalso
      have hq:((((y1.ph==0)&&decide (t1.aW<=(y1.ln.length:Int)))||(k.2.2 != 0))&&true)=false:=by subst hD;exact hq
      rw[fG]at hq;simp at hq
   .clear fO
    have Q:dI s0 x0 k.1 y:=by
     have N2:oT t1.inn k.1 y y1:=by subst hD;exact N2
     rw[hk]at he W N2 ⊢;exact E.r.q.q.step he W N2
    refine br hD (λhg=>?_) (λhg=>?_)<;>cbv
    .have xi:¬(t1.inn.phase=0/\t1.aW<=(t1.inn.line.length:Int)):=by
      have hg:(!(((y1.ph==0)&&decide (t1.aW<=(y1.ln.length:Int)))||((0:Int) != 0)))=true:=by subst hD;exact hg
      intro q;rw[lE.2 q]at hg;cases hg
     have bj:((y1.ph==0)&&decide (t1.aW<=(y1.ln.length:Int)))=false:=Bool.eq_false_iff.mpr (λq=>xi (lE.1 q));clear hg;refine⟨Ay t1 qb ql qf y1,bN.nm D y,by subst hD;rfl,by subst hD;rfl,by subst hD;exact Q.g.y5 E.r.q.b0 E.r.q.b1,λr hr=>?_⟩;cbv;have dB:r=Rk t1.cQ y:=by subst hD;exact hr.h
     refine br hD (λhq=>?_) (λhq=>?_)<;>cbv
     .refine⟨s0,x0,t1,qb,ql,qf,y1,u,N,by subst hD;rfl,by subst hD;rfl,E.r.q,H.n2,E.r.len,λy' m Q' hm=>?_⟩
      cbv;obtain⟨rfl⟩:=hm;have e:t=Bx t1 (u.take N):=by
       rw[aY,E.e];refine Jw H (.inr (.inr ?_));have hq:((((y1.ph==0)&&decide (t1.aW<=(y1.ln.length:Int)))||((0:Int) != 0))||!r)=true:=by subst hD;exact hq
       rw[bj]at hq;have oM:r=false:=by cases r with
        |true=>cases hq
        |false=>rfl
       rw[<-hw,<-hk,<-Hn W,<-dB,oM];simp
      subst e hD;exact Dx (t:=Bx t1 (u.take N)) (Q'.eO Q0) gF
     .have hf:Cd k.1 t1.cQ:=by
       have hq:((((y1.ph==0)&&decide (t1.aW<=(y1.ln.length:Int)))||((0:Int) != 0))||!r)=false:=by subst hD;exact hq
       rw[bj]at hq;have oM:r=true:=by cases r with
        |true=>rfl
        |false=>cases hq
       rw[<-Hn W,<-dB,oM]
      obtain⟨g1,g2,g3⟩:=Ye H xi (by rw[<-hw,<-hk];exact he) (by rw[<-hw,<-hk];exact hf);rw[<-hw,<-hk]at g1 g2 g3;refine⟨Ay t1 qb ql qf y1,bN.nm D y,by subst hD;rfl,by subst hD;rfl,λc' kM=>?_⟩;cbv;have kM:jO c' (F8 (Ay t1 qb ql qf y1) y):=by subst hD;exact kM
      have dA:F8 (Ay t1 qb ql qf y1) y=Ay (Bp t1 k.1) qb ql qf y:=by
       unfold F8 Bp Ay;rw[<-W.ph]
       by_cases g:y.ph=2
       .rw[QB (by rw[g];rfl)];simp only[QB g]
       .rw[QA (by simpa using g)];simp only[QA g]
      rw[dA]at kM;refine⟨⟨by subst hD hv;show (0:Int)<=(k.2.1:Int);omega,by subst hD hv;show (k.2.1:Int)<=(u.length:Int);omega,by subst hD;show (u.length:Int)<=u.length;omega⟩,λu2 FZ=>?_⟩;cbv;have wj:u2=u.drop k.2.1:=by
       have h1:u2=(u.drop ((k.2.1:Int)).toNat).take (((u.length:Int)).toNat-((k.2.1:Int)).toNat):=by subst hD hv;exact FZ.h
       rw[ZV,ZV]at h1;rw[h1,XI (by rw[QY];omega)]
      have kG:u2.length=u.length-k.2.1:=by rw[wj,QY]
      have hT:=Yd H xi (by rw[<-hw,<-hk];exact he);rw[<-hw,<-hk]at hT;obtain⟨rfl⟩:=kM;refine⟨u2.length,by rw[mQ];omega,?_⟩;rw[hJ];subst hD;exact⟨Bp t1 k.1,y,u2,rfl,rfl,⟨⟨⟨Q,E.r.q.b0,E.r.q.b1⟩,hT.1,E.r.h0,E.r.h1,hf,hT.2,by have:=E.r.len;omega⟩,by rw[E.e,g1,<-wj]⟩,rfl⟩
    .have IC:(t1.inn.phase=0/\t1.aW<=(t1.inn.line.length:Int)):=by
      have hg:(!(((y1.ph==0)&&decide (t1.aW<=(y1.ln.length:Int)))||((0:Int) != 0)))=false:=by subst hD;exact hg
      apply lE.1;simpa using hg
     clear hg;refine br hD (λhq=>?_) (λhq=>?_)<;>cbv
     .refine⟨s0,x0,t1,qb,ql,qf,y1,u,N,by subst hD;rfl,by subst hD;rfl,E.r.q,H.n2,E.r.len,λy' m Q' hm=>?_⟩
      cbv;obtain⟨rfl⟩:=hm;have e:t=Bx t1 (u.take N):=by
       rw[aY,E.e];exact Jw H (.inl IC)
      subst e hD;exact Dx (t:=Bx t1 (u.take N)) (Q'.eO Q0) gF
     .exfalso
      have hq:((((y1.ph==0)&&decide (t1.aW<=(y1.ln.length:Int)))||((0:Int) != 0))&&true)=false:=by subst hD;exact hq
      rw[lE.2 IC]at hq;cases hq
  .have H:LY t1 u u.length:=by
    have hp:(y1.ph==0)=false:=by subst hD;exact hp
    have hp:t1.inn.phase≠0:=by
     rw[<-E.r.q.q.g.v.ph];intro e;rw[e]at hp;cases hp
    have hx:¬t1.phase=1:=by rw[hc.2];decide
    have hi:t1.inn.phase≠2:=by
     rcases E.r.ph with g|g
     .exact g.2
     .exact absurd g.1 hx
    exact⟨hc.2,hi,E.r.q.q.g.ok,E.r.fit,E.r.line,hc.1,List.length_pos_iff.mpr hc.1,QH _,λe=>absurd e hp,λe=>absurd e hp⟩
   refine⟨⟨by subst hD;show (0:Int)<=0;omega,by subst hD;show (0:Int)<=(u.length:Int);omega,by subst hD;show (u.length:Int)<=u.length;omega⟩,λw hw=>?_⟩;cbv;have hw:w=u.take u.length:=by
    have:=hw.h;subst hD;exact this
   have jy:w.length<=1000000:=by rw[hw,QZ];have:=E.r.len;omega
   have lE:(((y1.ph==0)&&decide (t1.aW<=(y1.ln.length:Int)))=true)↔(t1.inn.phase=0/\t1.aW<=(t1.inn.line.length:Int)):=by
    rw[QE,QS,decide_eq_true_iff,E.r.q.q.g.v.ph,E.r.q.q.g.v.ln]
   refine⟨⟨by omega⟩,λf1 fO=>?_⟩;cbv;refine⟨t1.inn,bN.nm D y1,w,false,(w.length:Int),f1,by subst hD;rfl,rfl,by subst hD;exact E.r.q.q.g.v,E.r.q.q.g.ok,E.r.q.q.g.met,by subst hD;exact Af8 fO rfl,jy,λh=>(by cases h),λk hk=>⟨λmE=>?_,λhe y v W N2 hv=>?_⟩⟩<;>cbv
   .clear fO
    have fG:(k.2.2 != 0)=true:=by simpa using mE
    refine br hD (λhg=>?_) (λhg=>?_)<;>cbv
    .exfalso
     have hg:(!(((y1.ph==0)&&decide (t1.aW<=(y1.ln.length:Int)))||(k.2.2 != 0)))=true:=by subst hD;exact hg
     rw[fG,Bool.or_true]at hg;cases hg
    .clear hg
     refine br hD (λhq=>?_) (λhq=>?_)<;>cbv
     .refine⟨s0,x0,t1,qb,ql,qf,y1,u,u.length,by subst hD;rfl,by subst hD;rfl,E.r.q,H.n2,E.r.len,λy m Q hm=>?_⟩
      cbv;obtain⟨rfl⟩:=hm;have e:t=Bx t1 (u.take u.length):=by
       rw[aY,E.e];exact Jw H (.inr (.inl (by rw[<-hw,<-hk];simpa using mE)))
      subst e hD;exact Dx (t:=Bx t1 (u.take u.length)) (Q.eO Q0) gF
     .exfalso
      have hq:((((y1.ph==0)&&decide (t1.aW<=(y1.ln.length:Int)))||(k.2.2 != 0))&&true)=false:=by subst hD;exact hq
      rw[fG]at hq;simp at hq
   .clear fO
    have Q:dI s0 x0 k.1 y:=by
     have N2:oT t1.inn k.1 y y1:=by subst hD;exact N2
     rw[hk]at he W N2 ⊢;exact E.r.q.q.step he W N2
    refine br hD (λhg=>?_) (λhg=>?_)<;>cbv
    .have xi:¬(t1.inn.phase=0/\t1.aW<=(t1.inn.line.length:Int)):=by
      have hg:(!(((y1.ph==0)&&decide (t1.aW<=(y1.ln.length:Int)))||((0:Int) != 0)))=true:=by subst hD;exact hg
      intro q;rw[lE.2 q]at hg;cases hg
     have bj:((y1.ph==0)&&decide (t1.aW<=(y1.ln.length:Int)))=false:=Bool.eq_false_iff.mpr (λq=>xi (lE.1 q));clear hg;refine⟨Ay t1 qb ql qf y1,bN.nm D y,by subst hD;rfl,by subst hD;rfl,by subst hD;exact Q.g.y5 E.r.q.b0 E.r.q.b1,λr hr=>?_⟩;cbv;have dB:r=Rk t1.cQ y:=by subst hD;exact hr.h
     refine br hD (λhq=>?_) (λhq=>?_)<;>cbv
     .refine⟨s0,x0,t1,qb,ql,qf,y1,u,u.length,by subst hD;rfl,by subst hD;rfl,E.r.q,H.n2,E.r.len,λy' m Q' hm=>?_⟩
      cbv;obtain⟨rfl⟩:=hm;have e:t=Bx t1 (u.take u.length):=by
       rw[aY,E.e];refine Jw H (.inr (.inr ?_));have hq:((((y1.ph==0)&&decide (t1.aW<=(y1.ln.length:Int)))||((0:Int) != 0))||!r)=true:=by subst hD;exact hq
       rw[bj]at hq;have oM:r=false:=by cases r with
        |true=>cases hq
        |false=>rfl
       rw[<-hw,<-hk,<-Hn W,<-dB,oM];simp
      subst e hD;exact Dx (t:=Bx t1 (u.take u.length)) (Q'.eO Q0) gF
     .have hf:Cd k.1 t1.cQ:=by
       have hq:((((y1.ph==0)&&decide (t1.aW<=(y1.ln.length:Int)))||((0:Int) != 0))||!r)=false:=by subst hD;exact hq
       rw[bj]at hq;have oM:r=true:=by cases r with
        |true=>rfl
        |false=>cases hq
       rw[<-Hn W,<-dB,oM]
      obtain⟨g1,g2,g3⟩:=Ye H xi (by rw[<-hw,<-hk];exact he) (by rw[<-hw,<-hk];exact hf);rw[<-hw,<-hk]at g1 g2 g3;refine⟨Ay t1 qb ql qf y1,bN.nm D y,by subst hD;rfl,by subst hD;rfl,λc' kM=>?_⟩;cbv;have kM:jO c' (F8 (Ay t1 qb ql qf y1) y):=by subst hD;exact kM
      have dA:F8 (Ay t1 qb ql qf y1) y=Ay (Bp t1 k.1) qb ql qf y:=by
       unfold F8 Bp Ay;rw[<-W.ph]
       by_cases g:y.ph=2
       .rw[QB (by rw[g];rfl)];simp only[QB g]
       .rw[QA (by simpa using g)];simp only[QA g]
      rw[dA]at kM;refine⟨⟨by subst hD hv;show (0:Int)<=(k.2.1:Int);omega,by subst hD hv;show (k.2.1:Int)<=(u.length:Int);omega,by subst hD;show (u.length:Int)<=u.length;omega⟩,λu2 FZ=>?_⟩;cbv;have wj:u2=u.drop k.2.1:=by
       have h1:u2=(u.drop ((k.2.1:Int)).toNat).take (((u.length:Int)).toNat-((k.2.1:Int)).toNat):=by subst hD hv;exact FZ.h
       rw[ZV,ZV]at h1;rw[h1,XI (by rw[QY];omega)]
      have kG:u2.length=u.length-k.2.1:=by rw[wj,QY]
      have hT:=Yd H xi (by rw[<-hw,<-hk];exact he);rw[<-hw,<-hk]at hT;obtain⟨rfl⟩:=kM;refine⟨u2.length,by rw[mQ];omega,?_⟩;rw[hJ];subst hD;exact⟨Bp t1 k.1,y,u2,rfl,rfl,⟨⟨⟨Q,E.r.q.b0,E.r.q.b1⟩,hT.1,E.r.h0,E.r.h1,hf,hT.2,by have:=E.r.len;omega⟩,by rw[E.e,g1,<-wj]⟩,rfl⟩
    .have IC:(t1.inn.phase=0/\t1.aW<=(t1.inn.line.length:Int)):=by
      have hg:(!(((y1.ph==0)&&decide (t1.aW<=(y1.ln.length:Int)))||((0:Int) != 0)))=false:=by subst hD;exact hg
      apply lE.1;simpa using hg
     clear hg;refine br hD (λhq=>?_) (λhq=>?_)<;>cbv
     .refine⟨s0,x0,t1,qb,ql,qf,y1,u,u.length,by subst hD;rfl,by subst hD;rfl,E.r.q,H.n2,E.r.len,λy' m Q' hm=>?_⟩
      cbv;obtain⟨rfl⟩:=hm;have e:t=Bx t1 (u.take u.length):=by
       rw[aY,E.e];exact Jw H (.inl IC)
      subst e hD;exact Dx (t:=Bx t1 (u.take u.length)) (Q'.eO Q0) gF
     .exfalso
      have hq:((((y1.ph==0)&&decide (t1.aW<=(y1.ln.length:Int)))||((0:Int) != 0))&&true)=false:=by subst hD;exact hq
      rw[lE.2 IC]at hq;cases hq
 .have hc:u=[]\/t1.phase=1:=by
   have hc:((!(u==[]))&&(t1.phase==0))=false:=by subst hD;exact hc
   rcases E.r.ph with g|g
   .rw[g.1]at hc
    exact .inl (by simpa using hc)
   .exact .inr g.1
  refine br hD (λhd=>?_) (λhd=>?_)<;>cbv
  .refine⟨Ay t1 qb ql qf y1,12,by subst hD;rfl,by subst hD;rfl,?_⟩
   cbv;have e:t=broken t1 12:=by
    have hd:((!(u==[]))&&(t1.phase==1))=true:=by subst hD;exact hd
    rw[QE,QS]at hd;rw[aY,E.e];cases u with
    |nil=>cases hd.1
    |cons c u =>
     rw[Fc,QB];rcases E.r.ph with g|g
     .have:=hd.2;omega
     .exact g.2
   subst e hD;exact Dx (t:=broken t1 12) (E.r.q.q.eO Q0) gF
  .have e:t=t1:=by
    have hd:((!(u==[]))&&(t1.phase==1))=false:=by subst hD;exact hd
    have hu:u=[]:=by
     rcases hc with g|g
     .exact g
     .rw[g]at hd;simpa using hd
    rw[aY,E.e,hu];rfl
   subst e hD;exact Dx (t:=t) (E.r.q.q.eO Q0) gF
def o5:aB:=λ_ xs ls K=>∃(s0:Rs) (x0:bN) (s:Ms) (qb:Bool) (ql:Int) (qf:Nat->List SV) (x:bN) (v:dN),
 xs=[.ptr 0 0,lH v]/\ls=[.aG 144 (cG (Ay s qb ql qf x))]/\OG s0 x0 s x v.bytes/\
 ∀y m,dI s0 x0 (Da s v.bytes).inn y->jO m (Ay (Da s v.bytes) qb ql qf y)->K (.aJ []) [.aG 144 (cG m)]
theorem yq:Ap Tryz.prog gl 215 o5:=by
 refine Bq (gh:=[]) mixed Ds (Al Akx Ae) Tryz.func215 (by kernel_rfl) (by kernel_rfl) ?_;intro xs ls K h;unfold o5 at h;obtain⟨s0,x0,s,qb,ql,qf,x,v,rfl,rfl,V,h⟩:=h;obtain⟨t,ht⟩:∃t,qW t (Da s v.bytes):=⟨_,⟨rfl⟩⟩;rw[<-ht.h]at h;obtain⟨y0,Q0⟩:∃y0,dI s0 x0 t.inn y0:=by rw[ht.h];exact Ys V.q.q
 obtain⟨m0,gF⟩:∃m0,jO m0 (Ay t qb ql qf y0):=⟨_,⟨rfl⟩⟩;have h:=h y0 m0 Q0 gF;refine⟨_,_,h,λD hD=>?_⟩;clear h;unfold cG Ay lH;cbv;refine⟨s0,x0,s,qb,ql,qf,x,v.bytes,by subst hD;rfl,by subst hD;rfl,V,λy m Q hm=>?_⟩;cbv;rw[<-ht.h]at Q hm;obtain⟨rfl⟩:=hm;subst hD;exact Dx (t:=t) (Q.eO Q0) gF
set_option maxHeartbeats 8000000
def JK:List TypeId:=[100,83]
theorem JR{eD:List (Nat×aB)}{gl:List (Nat×SV)}{gh:List (Nat×List Gh)}{its:List (Nat×(aB->aB))}{yl:List aB}:Az Tryz.prog ⟨dn,MS,eD,gl,JK,gh,its,yl⟩:=by
 refine⟨rfl,Aj3,λt ht=>?_⟩;simp only[JK,XS,YA,or_false]at ht;rcases ht with rfl|rfl
 all_goals
  refine⟨?_,?_,?_⟩
  .kernel_rfl
  .kernel_rfl
  .decide
def Es(x:dN):Bool :=
 if x.kind==1 then (x.bytes==[])&&(x.why==0) else if x.kind==2 then (x.n==0)&&(x.why==0) else
 if x.kind==3 then ((x.n==0)&&(x.bytes==[]))&&(x.why==0) else if x.kind==4 then ((x.n==0)&&(x.bytes==[]))&&(x.why==0) else
 if x.kind==5 then (((x.why==4)||(x.why==5))||(x.why==1))&&((x.n==0)&&(x.bytes==[])) else false
def yE(c:fA)(x:dN):Int :=
 if Es x then
  if decide (x.n<0)||decide ((c.out.length:Int)-c.aS<x.n) then 7 else
  if ((c.ph==2)||c.en)||((x.kind==5)&&(c.ph==1)) then 9 else 0
 else 2
structure LH(c:fA):Prop where
 s0:0<=c.aS
 s1:c.aS<=c.out.length
 l:c.out.length<=9223372036854775807
structure EvK(e:Int)(c:fA)(x:dN):Prop where
 h:e=yE c x
def rL:aB:=λ_ xs ls K=>∃(c:fA) (x:dN),xs=[.ptr 0 0,lH x]/\ls=[.aG 144 (cG c)]/\LH c/\∀e,EvK e c x->K (.int .i64 (.a e)) [.aG 144 (cG c)]
theorem Km{c:fA}{x:dN}(h:Es x=false):yE c x=2:=by unfold yE;rw[QA (by rw[h];simp)]
theorem MA{c:fA}{x:dN}(h:Es x=true)(h7:(decide (x.n<0)||decide ((c.out.length:Int)-c.aS<x.n))=true):yE c x=7:=by unfold yE;rw[QB h,QB h7]
theorem MB{c:fA}{x:dN}(h:Es x=true)(h7:(decide (x.n<0)||decide ((c.out.length:Int)-c.aS<x.n))=false)(h9:(((c.ph==2)||c.en)||((x.kind==5)&&(c.ph==1)))=true):yE c x=9:=by
 unfold yE;rw[QB h,QA (by rw[h7];simp),QB h9]
theorem LZ{c:fA}{x:dN}(h:Es x=true)(h7:(decide (x.n<0)||decide ((c.out.length:Int)-c.aS<x.n))=false)(h9:(((c.ph==2)||c.en)||((x.kind==5)&&(c.ph==1)))=false):yE c x=0:=by
 unfold yE;rw[QB h,QA (by rw[h7];simp),QA (by rw[h9];simp)]
variable {e ql a:Int}{qb:Bool}{qf f:Nat->List SV}{x y y0:bN}{m bo:List UInt8}{h:qL}
theorem H8{k:Int}{c:fA}{x:dN}(hk:EvK k c x)(h:yE c x=e):Sx.Fin (.int .i64 (.a e)) (.int .i64 (.a k)) [.aG 144 (cG c)] [.aG 144 (cG c)]:=Bt (by rw[hk.h,h]) rfl
theorem LH.w{c:fA}(V:LH c):IntKind.i64.wrap ((c.out.length:Int)-c.aS)=(c.out.length:Int)-c.aS:=by
 have:=V.s0;have:=V.s1;have:=V.l;exact wrap64 (by omega) (by omega)
theorem Ajk:Ap Tryz.prog gl 153 rL:=by
 refine Bq (gh:=[]) mixed JR Ae Tryz.func153 (by kernel_rfl) (by kernel_rfl) ?_;intro xs ls K h;unfold rL at h;obtain⟨c,x,rfl,rfl,V,h⟩:=h;obtain⟨k,hk⟩:∃e,EvK e c x:=⟨_,⟨rfl⟩⟩;refine⟨_,_,h k hk,λD hD=>?_⟩;clear h;unfold cG lH;cbv;refine br hD (λk1=>?_) (λk1=>?_)<;>cbv
 .have k1:(x.kind==1)=true:=by subst hD;exact k1
  refine br hD (λg=>?_) (λg=>?_)<;>cbv
  .have g:(!((x.kind==x.kind)&&((x.n==x.n)&&((([]:List UInt8)==x.bytes)&&((0:Int)==x.why)))))=true:=by subst hD;exact g
   have ok:Es x=false:=by unfold Es;grind
   subst hD;exact H8 hk (Km ok)
  have g:(!((x.kind==x.kind)&&((x.n==x.n)&&((([]:List UInt8)==x.bytes)&&((0:Int)==x.why)))))=false:=by subst hD;exact g
  have ok:Es x=true:=by unfold Es;grind
  refine br hD (λg7=>?_) (λg7=>?_)<;>cbv
  .have g7:(decide (x.n<0)||decide (IntKind.i64.wrap ((c.out.length:Int)-c.aS)<x.n))=true:=by subst hD;exact g7
   rw[V.w]at g7;subst hD;exact H8 hk (MA ok g7)
  have g7:(decide (x.n<0)||decide (IntKind.i64.wrap ((c.out.length:Int)-c.aS)<x.n))=false:=by subst hD;exact g7
  rw[V.w]at g7;refine br hD (λg9=>?_) (λg9=>?_)<;>cbv
  .have g9:(((c.ph==2)||c.en)||((x.kind==5)&&(c.ph==1)))=true:=by subst hD;exact g9
   subst hD;exact H8 hk (MB ok g7 g9)
  have g9:(((c.ph==2)||c.en)||((x.kind==5)&&(c.ph==1)))=false:=by subst hD;exact g9
  subst hD;exact H8 hk (LZ ok g7 g9)
 have k1:(x.kind==1)=false:=by subst hD;exact k1
 refine br hD (λk2=>?_) (λk2=>?_)<;>cbv
 .have k2:(x.kind==2)=true:=by subst hD;exact k2
  refine br hD (λg=>?_) (λg=>?_)<;>cbv
  .have g:(!((x.kind==x.kind)&&(((0:Int)==x.n)&&((x.bytes==x.bytes)&&((0:Int)==x.why)))))=true:=by subst hD;exact g
   have ok:Es x=false:=by unfold Es;grind
   subst hD;exact H8 hk (Km ok)
  have g:(!((x.kind==x.kind)&&(((0:Int)==x.n)&&((x.bytes==x.bytes)&&((0:Int)==x.why)))))=false:=by subst hD;exact g
  have ok:Es x=true:=by unfold Es;grind
  refine br hD (λg7=>?_) (λg7=>?_)<;>cbv
  .have g7:(decide (x.n<0)||decide (IntKind.i64.wrap ((c.out.length:Int)-c.aS)<x.n))=true:=by subst hD;exact g7
   rw[V.w]at g7;subst hD;exact H8 hk (MA ok g7)
  have g7:(decide (x.n<0)||decide (IntKind.i64.wrap ((c.out.length:Int)-c.aS)<x.n))=false:=by subst hD;exact g7
  rw[V.w]at g7;refine br hD (λg9=>?_) (λg9=>?_)<;>cbv
  .have g9:(((c.ph==2)||c.en)||((x.kind==5)&&(c.ph==1)))=true:=by subst hD;exact g9
   subst hD;exact H8 hk (MB ok g7 g9)
  have g9:(((c.ph==2)||c.en)||((x.kind==5)&&(c.ph==1)))=false:=by subst hD;exact g9
  subst hD;exact H8 hk (LZ ok g7 g9)
 have k2:(x.kind==2)=false:=by subst hD;exact k2
 refine br hD (λk3=>?_) (λk3=>?_)<;>cbv
 .have k3:(x.kind==3)=true:=by subst hD;exact k3
  refine br hD (λg=>?_) (λg=>?_)<;>cbv
  .have g:(!((x.kind==x.kind)&&(((0:Int)==x.n)&&((([]:List UInt8)==x.bytes)&&((0:Int)==x.why)))))=true:=by subst hD;exact g
   have ok:Es x=false:=by unfold Es;grind
   subst hD;exact H8 hk (Km ok)
  have g:(!((x.kind==x.kind)&&(((0:Int)==x.n)&&((([]:List UInt8)==x.bytes)&&((0:Int)==x.why)))))=false:=by subst hD;exact g
  have ok:Es x=true:=by unfold Es;grind
  refine br hD (λg7=>?_) (λg7=>?_)<;>cbv
  .have g7:(decide (x.n<0)||decide (IntKind.i64.wrap ((c.out.length:Int)-c.aS)<x.n))=true:=by subst hD;exact g7
   rw[V.w]at g7;subst hD;exact H8 hk (MA ok g7)
  have g7:(decide (x.n<0)||decide (IntKind.i64.wrap ((c.out.length:Int)-c.aS)<x.n))=false:=by subst hD;exact g7
  rw[V.w]at g7;refine br hD (λg9=>?_) (λg9=>?_)<;>cbv
  .have g9:(((c.ph==2)||c.en)||((x.kind==5)&&(c.ph==1)))=true:=by subst hD;exact g9
   subst hD;exact H8 hk (MB ok g7 g9)
  have g9:(((c.ph==2)||c.en)||((x.kind==5)&&(c.ph==1)))=false:=by subst hD;exact g9
  subst hD;exact H8 hk (LZ ok g7 g9)
 have k3:(x.kind==3)=false:=by subst hD;exact k3
 refine br hD (λk4=>?_) (λk4=>?_)<;>cbv
 .have k4:(x.kind==4)=true:=by subst hD;exact k4
  refine br hD (λg=>?_) (λg=>?_)<;>cbv
  .have g:(!((x.kind==x.kind)&&(((0:Int)==x.n)&&((([]:List UInt8)==x.bytes)&&((0:Int)==x.why)))))=true:=by subst hD;exact g
   have ok:Es x=false:=by unfold Es;grind
   subst hD;exact H8 hk (Km ok)
  have g:(!((x.kind==x.kind)&&(((0:Int)==x.n)&&((([]:List UInt8)==x.bytes)&&((0:Int)==x.why)))))=false:=by subst hD;exact g
  have ok:Es x=true:=by unfold Es;grind
  refine br hD (λg7=>?_) (λg7=>?_)<;>cbv
  .have g7:(decide (x.n<0)||decide (IntKind.i64.wrap ((c.out.length:Int)-c.aS)<x.n))=true:=by subst hD;exact g7
   rw[V.w]at g7;subst hD;exact H8 hk (MA ok g7)
  have g7:(decide (x.n<0)||decide (IntKind.i64.wrap ((c.out.length:Int)-c.aS)<x.n))=false:=by subst hD;exact g7
  rw[V.w]at g7;refine br hD (λg9=>?_) (λg9=>?_)<;>cbv
  .have g9:(((c.ph==2)||c.en)||((x.kind==5)&&(c.ph==1)))=true:=by subst hD;exact g9
   subst hD;exact H8 hk (MB ok g7 g9)
  have g9:(((c.ph==2)||c.en)||((x.kind==5)&&(c.ph==1)))=false:=by subst hD;exact g9
  subst hD;exact H8 hk (LZ ok g7 g9)
 have k4:(x.kind==4)=false:=by subst hD;exact k4
 refine br hD (λk5=>?_) (λk5=>?_)<;>cbv
 rotate_left
 .have k5:(x.kind==5)=false:=by subst hD;exact k5
  have ok:Es x=false:=by unfold Es;grind
  subst hD;exact H8 hk (Km ok)
 have k5:(x.kind==5)=true:=by subst hD;exact k5
 refine br hD (λw=>?_) (λw=>?_)<;>cbv
 .have w:(((x.why != 4)&&(x.why != 5))&&(x.why != 1))=true:=by subst hD;exact w
  have ok:Es x=false:=by unfold Es;grind
  subst hD;exact H8 hk (Km ok)
 have w:(((x.why != 4)&&(x.why != 5))&&(x.why != 1))=false:=by subst hD;exact w
 refine br hD (λg=>?_) (λg=>?_)<;>cbv
 .have g:(!((x.kind==x.kind)&&(((0:Int)==x.n)&&((([]:List UInt8)==x.bytes)&&(x.why==x.why)))))=true:=by subst hD;exact g
  have ok:Es x=false:=by unfold Es;grind
  subst hD;exact H8 hk (Km ok)
 have g:(!((x.kind==x.kind)&&(((0:Int)==x.n)&&((([]:List UInt8)==x.bytes)&&(x.why==x.why)))))=false:=by subst hD;exact g
 have ok:Es x=true:=by unfold Es;grind
 refine br hD (λg7=>?_) (λg7=>?_)<;>cbv
 .have g7:(decide (x.n<0)||decide (IntKind.i64.wrap ((c.out.length:Int)-c.aS)<x.n))=true:=by subst hD;exact g7
  rw[V.w]at g7;subst hD;exact H8 hk (MA ok g7)
 have g7:(decide (x.n<0)||decide (IntKind.i64.wrap ((c.out.length:Int)-c.aS)<x.n))=false:=by subst hD;exact g7
 rw[V.w]at g7;refine br hD (λg9=>?_) (λg9=>?_)<;>cbv
 .have g9:(((c.ph==2)||c.en)||((x.kind==5)&&(c.ph==1)))=true:=by subst hD;exact g9
  subst hD;exact H8 hk (MB ok g7 g9)
 have g9:(((c.ph==2)||c.en)||((x.kind==5)&&(c.ph==1)))=false:=by subst hD;exact g9
 subst hD;exact H8 hk (LZ ok g7 g9)
set_option maxHeartbeats 4000000
def gA(v:dN):Me:=⟨v.kind,v.n,v.bytes,v.why⟩
theorem Amm(v:dN):(Es v=true)↔¬((v.kind<1\/5<v.kind)\/(v.kind≠1/\v.n≠0)\/(v.kind≠2/\v.bytes≠[])\/(v.kind≠5/\v.why≠0)\/(v.kind=5/\v.why≠4/\v.why≠5/\v.why≠1)):=by
 obtain⟨k,n,b,w⟩:=v;unfold Es;simp only
 by_cases h:1<=k/\k<=5
 .have hk:k=1\/k=2\/k=3\/k=4\/k=5:=by omega
  rcases hk with rfl|rfl|rfl|rfl|rfl<;>simp<;>grind
 .have:(if (k==1)=true then (b==[])&&(w==0) else if (k==2)=true then (n==0)&&(w==0) else if (k==3)=true then ((n==0)&&(b==[]))&&(w==0) else if (k==4)=true then ((n==0)&&(b==[]))&&(w==0) else
   if (k==5)=true then (((w==4)||(w==5))||(w==1))&&((n==0)&&(b==[])) else false)=false:=by
   rw[QA (by simp;omega),QA (by simp;omega),QA (by simp;omega),QA (by simp;omega),QA (by simp;omega)]
  rw[this];constructor
  .intro g;cases g
  .intro g;exact absurd (.inl (by omega)) g
theorem y9{s:Ms}(v:dN):yE (Ay s qb ql qf x) v=Cc s (gA v):=by
 have h:=Amm v;unfold yE Cc gA Ay;simp only
 by_cases g:Es v=true
 .rw[QB g,QA (h.1 g)]
  simp[or_assoc]
 .rw[QA g,QB (Decidable.byContradiction λq=>g (h.2 q))]
set_option maxHeartbeats 16000000
theorem Afa{s:Ms}{x:Me}(h:Cc s x=0):1<=x.kind/\x.kind<=5:=by
 unfold Cc at h
 split at h
 .cases h
 rename_i g;omega
structure KO(s:Ms)(x:bN)(v:dN)(e:Int)(t:Ms):Prop where
 g:ot s.inn x
 ev:e=Cc s (gA v)
 st:t=if e=0 then A4 s (gA v) else s
 r:e=0->OG s.inn x s x v.bytes
 n:e=0->KM s.aS v.n
def vG:aB:=λ_ xs ls K=>∃(s:Ms) (qb:Bool) (ql:Int) (qf:Nat->List SV) (x:bN) (v:dN) (e:Int) (t:Ms),
 xs=[.ptr 0 0,lH v]/\ls=[.aG 144 (cG (Ay s qb ql qf x))]/\LH (Ay s qb ql qf x)/\KO s x v e t/\
 ∀y m,dI s.inn x t.inn y->jO m (Ay t qb ql qf y)->K (.int .i64 (.a e)) [.aG 144 (cG m)]
theorem Vo{s0:Rs}{x0:bN}{s:Ms}{v:Me}(Q:dI s0 x0 s.inn x):∃y,dI s0 x0 (A4 s v).inn y:=by
 unfold A4
 split
 .exact⟨x,Q⟩
 split
 .exact Ys Q
 split
 .exact X9 Q
 split
 .split<;>exact⟨x,Q⟩
 .exact⟨x,Q⟩
theorem Amh{t:Ms}{r:Rs}{m0:fA}(T:Twin r y y0)(hm:jO m0 (Ay t qb ql qf y0)):
  Fin (.int .i64 (.a e)) (.int .i64 (.a e)) [.aG 144 (cG (Ay t qb ql qf y))] [.aG 144 (cG m0)]:=by
 rw[hm.h];exact Amj (aO.refl _) (MO (c:=Ay t qb ql qf y) T)
structure ad3(s:Ms)(x:bN)(v:dN)(t1:Ms)(y:bN)(i:Nat):Prop where
 q:dI s.inn x t1.inn y
 le:i<=5
 a:(i:Int)<v.kind->s=t1/\x=y
 b:v.kind<=(i:Int)->t1=A4 s (gA v)
def PC(s:Ms)(qb:Bool)(ql:Int)(qf:Nat->List SV)(x:bN)(v:dN)(m:Nat)(vs:List (Option SV))(hp:List Hl):Prop :=
 ∃(t1:Ms) (y:bN) (i:Nat),vs=[some (.ptr 0 0),some (.ptr 1 0),some (.sl (.a false) (.a 5) 2 sc),some (.int .i64 (.a 5)),some (.int .i64 (.a (i:Int)))]/\
  hp=[.aG 144 (cG (Ay t1 qb ql qf y)),.aG 83 [.int .i64 (.a v.kind),.int .i64 (.a v.n),.str v.bytes,.int .i64 (.a v.why)]]/\ad3 s x v t1 y i/\m=5-i
theorem Aal:Ap Tryz.prog gl 106 vG:=by
 refine Bq (gh:=[]) mixed Ds (Al Ajk (Ab Ajb (Al gk (Al yq (Al Afj (Al Akw (Al Anc Ae))))))) Tryz.func106 (by kernel_rfl) (by kernel_rfl) ?_;intro xs ls K h;unfold vG at h;obtain⟨s,qb,ql,qf,x,v,e0,t,rfl,rfl,V,S,h⟩:=h;obtain⟨y0,Q0⟩:∃y0,dI s.inn x t.inn y0:=by
  rw[S.st]
  split
  .exact Vo (dI.refl S.g)
  .exact⟨x,dI.refl S.g⟩
 obtain⟨m0,gF⟩:∃m0,jO m0 (Ay t qb ql qf y0):=⟨_,⟨rfl⟩⟩;have h:=h y0 m0 Q0 gF;refine⟨_,_,h,λD hD=>?_⟩;clear h;unfold cG Ay lH;cbv;refine⟨Ay s qb ql qf x,v,by subst hD;rfl,by subst hD;rfl,V,λe he=>?_⟩;cbv;have e1:e=e0:=by rw[he.h,y9,S.ev]
 refine br hD (λhb=>?_) (λhb=>?_)
 .cbv
  have hb:e≠0:=by
   have hb:(e != 0)=true:=by subst hD;exact hb
   simpa using hb
  have e2:t=s:=by rw[S.st,QA (by rw[<-e1];exact hb)]
  subst e1 e2 hD;exact Amh (t:=t) ((dI.refl S.g).eO Q0) gF
 .cbv
  have hb:e0=0:=by
   have hb:(e != 0)=false:=by subst hD;exact hb
   rw[<-e1];simpa using hb
  have kC:1<=v.kind/\v.kind<=5:=Afa (x:=gA v) (S.ev.symm.trans hb);obtain⟨J,hJ⟩:∃J,J=PC s qb ql qf x v:=⟨_,rfl⟩;refine⟨[0,3,14,15,16],J,⟨rfl,5,?_⟩,?_⟩
  .rw[hJ]
   subst hD;refine⟨s,x,0,rfl,rfl,⟨dI.refl S.g,by omega,λ_=>⟨rfl,rfl⟩,λhk=>?_⟩,rfl⟩;exact absurd hk (Int.not_le.mpr (Int.lt_of_lt_of_le (by decide) kC.1))
  intro m3 vs hp hv;rw[hJ]at hv;obtain⟨t1,y1,i,e1,e2,E,mQ⟩:=hv;subst e1;unfold cG Ay at e2;cbv at e2;subst e2;cbv;refine br hD (λhc=>?_) (λhc=>?_)
  .have hi:i=0\/i=1\/i=2\/i=3\/i=4:=by
    have hc:decide ((i:Int)<5)=true:=by subst hD;exact hc
    have:=QT hc;omega
   clear hc;rcases hi with rfl|rfl|rfl|rfl|rfl
   .cbv
    refine⟨⟨by subst hD;show (0:Int)<=0;omega,by subst hD;show (0:Int)<5;omega⟩,λj hj=>?_⟩;obtain rfl:j=0:=by
     have:=hj.h;subst hD;have h2:(j:Int)=0:=this;omega
    cbv;refine br hD (λhk=>?_) (λhk=>?_)
    .cbv
     have hk:v.kind=1:=by
      have hk:((1:Int)==v.kind)=true:=by subst hD;exact hk
      exact (eq_of_beq hk).symm
     obtain⟨rfl,rfl⟩:=E.a (by rw[hk];decide);refine⟨Ay s qb ql qf x,v,by subst hD;rfl,by subst hD;rfl,S.n hb,λc' kM=>?_⟩;cbv;have hm:jO c' (Ay (A4 s (gA v)) qb ql qf x):=⟨by rw[kM];unfold A4 gA;rw[QB hk];rfl⟩;have Q':dI s.inn x (A4 s (gA v)).inn x:=by unfold A4 gA;rw[QB hk];exact dI.refl S.g
     obtain⟨rfl⟩:=hm;refine⟨5-1,by rw[mQ];decide,?_⟩;rw[hJ];subst hD;exact⟨A4 s (gA v),x,1,rfl,rfl,⟨Q',by omega,λh=>absurd h (by rw[hk];decide),λ_=>rfl⟩,rfl⟩
    .cbv
     have hk:v.kind≠1:=by
      have hk:((1:Int)==v.kind)=false:=by subst hD;exact hk
      intro e;rw[e]at hk;cases hk
     refine⟨5-1,by rw[mQ];decide,?_⟩;rw[hJ];subst hD;exact⟨t1,y1,1,rfl,rfl,⟨E.q,by omega,λh=>E.a (by simp only[ZG]at *;omega),λh=>E.b (by simp only[ZG]at *;omega)⟩,rfl⟩
   .cbv
    refine⟨⟨by subst hD;show (0:Int)<=1;omega,by subst hD;show (1:Int)<5;omega⟩,λj hj=>?_⟩;obtain rfl:j=1:=by
     have:=hj.h;subst hD;have h2:(j:Int)=1:=this;omega
    cbv;refine br hD (λhk=>?_) (λhk=>?_)
    .cbv
     have hk:v.kind=2:=by
      have hk:((2:Int)==v.kind)=true:=by subst hD;exact hk
      exact (eq_of_beq hk).symm
     obtain⟨rfl,rfl⟩:=E.a (by rw[hk];decide);refine⟨s.inn,x,s,qb,ql,qf,x,v,by subst hD;rfl,by subst hD;rfl,S.r hb,λy' c' Q' hm=>?_⟩;cbv;have hA:Da s v.bytes=A4 s (gA v):=by unfold A4 gA;rw[QA (by simp only;omega),QB hk]
     rw[hA]at Q' hm;obtain⟨rfl⟩:=hm;refine⟨5-2,by rw[mQ];decide,?_⟩;rw[hJ];subst hD;exact⟨A4 s (gA v),y',2,rfl,rfl,⟨Q',by omega,λh=>absurd h (by rw[hk];decide),λ_=>rfl⟩,rfl⟩
    .cbv
     have hk:v.kind≠2:=by
      have hk:((2:Int)==v.kind)=false:=by subst hD;exact hk
      intro e;rw[e]at hk;cases hk
     refine⟨5-2,by rw[mQ];decide,?_⟩;rw[hJ];subst hD;exact⟨t1,y1,2,rfl,rfl,⟨E.q,by omega,λh=>E.a (by simp only[ZG]at *;omega),λh=>E.b (by simp only[ZG]at *;omega)⟩,rfl⟩
   .cbv
    refine⟨⟨by subst hD;show (0:Int)<=2;omega,by subst hD;show (2:Int)<5;omega⟩,λj hj=>?_⟩;obtain rfl:j=2:=by
     have:=hj.h;subst hD;have h2:(j:Int)=2:=this;omega
    cbv;refine br hD (λhk=>?_) (λhk=>?_)
    .cbv
     have hk:v.kind=3:=by
      have hk:((3:Int)==v.kind)=true:=by subst hD;exact hk
      exact (eq_of_beq hk).symm
     obtain⟨rfl,rfl⟩:=E.a (by rw[hk];decide);refine⟨s.inn,x,s,qb,ql,qf,x,v,by subst hD;rfl,by subst hD;rfl,dI.refl S.g,λy' c' Q' hm=>?_⟩;cbv;have hA:Cw s=A4 s (gA v):=by unfold A4 gA;rw[QA (by simp only;omega),QA (by simp only;omega),QB hk]
     rw[hA]at Q' hm;obtain⟨rfl⟩:=hm;refine⟨5-3,by rw[mQ];decide,?_⟩;rw[hJ];subst hD;exact⟨A4 s (gA v),y',3,rfl,rfl,⟨Q',by omega,λh=>absurd h (by rw[hk];decide),λ_=>rfl⟩,rfl⟩
    .cbv
     have hk:v.kind≠3:=by
      have hk:((3:Int)==v.kind)=false:=by subst hD;exact hk
      intro e;rw[e]at hk;cases hk
     refine⟨5-3,by rw[mQ];decide,?_⟩;rw[hJ];subst hD;exact⟨t1,y1,3,rfl,rfl,⟨E.q,by omega,λh=>E.a (by simp only[ZG]at *;omega),λh=>E.b (by simp only[ZG]at *;omega)⟩,rfl⟩
   .cbv
    refine⟨⟨by subst hD;show (0:Int)<=3;omega,by subst hD;show (3:Int)<5;omega⟩,λj hj=>?_⟩;obtain rfl:j=3:=by
     have:=hj.h;subst hD;have h2:(j:Int)=3:=this;omega
    cbv;refine br hD (λhk=>?_) (λhk=>?_)
    .cbv
     have hk:v.kind=4:=by
      have hk:((4:Int)==v.kind)=true:=by subst hD;exact hk
      exact (eq_of_beq hk).symm
     obtain⟨rfl,rfl⟩:=E.a (by rw[hk];decide);refine⟨Ay s qb ql qf x,v,by subst hD;rfl,by subst hD;rfl,λc' kM=>?_⟩;cbv;have hA:A4 s (gA v)=(if s.phase=0 then broken { s with ended:=true } 8 else { s with ended:=true }):=by unfold A4 gA;rw[QA (by simp only;omega),QA (by simp only;omega),QA (by simp only;omega),QB hk]
     have hm:jO c' (Ay (A4 s (gA v)) qb ql qf x):=⟨by
      rw[kM.h,hA];unfold Tv Ay
      by_cases g:s.phase=0
      .rw[QB (by simpa using g),QB g];rfl
      .rw[QA (by simpa using g),QA g]⟩
     have Q':dI s.inn x (A4 s (gA v)).inn x:=by
      rw[hA]
      split<;>exact dI.refl S.g
     obtain⟨rfl⟩:=hm;refine⟨5-4,by rw[mQ];decide,?_⟩;rw[hJ];subst hD;exact⟨A4 s (gA v),x,4,rfl,rfl,⟨Q',by omega,λh=>absurd h (by rw[hk];decide),λ_=>rfl⟩,rfl⟩
    .cbv
     have hk:v.kind≠4:=by
      have hk:((4:Int)==v.kind)=false:=by subst hD;exact hk
      intro e;rw[e]at hk;cases hk
     refine⟨5-4,by rw[mQ];decide,?_⟩;rw[hJ];subst hD;exact⟨t1,y1,4,rfl,rfl,⟨E.q,by omega,λh=>E.a (by simp only[ZG]at *;omega),λh=>E.b (by simp only[ZG]at *;omega)⟩,rfl⟩
   .cbv
    refine⟨⟨by subst hD;show (0:Int)<=4;omega,by subst hD;show (4:Int)<5;omega⟩,λj hj=>?_⟩;obtain rfl:j=4:=by
     have:=hj.h;subst hD;have h2:(j:Int)=4:=this;omega
    cbv;refine br hD (λhk=>?_) (λhk=>?_)
    .cbv
     have hk:v.kind=5:=by
      have hk:((5:Int)==v.kind)=true:=by subst hD;exact hk
      exact (eq_of_beq hk).symm
     obtain⟨rfl,rfl⟩:=E.a (by rw[hk];decide);refine⟨Ay s qb ql qf x,v,by subst hD;rfl,by subst hD;rfl,λc' kM=>?_⟩;cbv;have hA:A4 s (gA v)=broken s v.why:=by unfold A4 gA;rw[QA (by simp only;omega),QA (by simp only;omega),QA (by simp only;omega),QA (by simp only;omega)]
     have hm:jO c' (Ay (A4 s (gA v)) qb ql qf x):=⟨by rw[kM.h,hA];rfl⟩;have Q':dI s.inn x (A4 s (gA v)).inn x:=by rw[hA];exact dI.refl S.g
     obtain⟨rfl⟩:=hm;refine⟨5-5,by rw[mQ];decide,?_⟩;rw[hJ];subst hD;exact⟨A4 s (gA v),x,5,rfl,rfl,⟨Q',by omega,λh=>absurd h (by rw[hk];decide),λ_=>rfl⟩,rfl⟩
    .cbv
     have hk:v.kind≠5:=by
      have hk:((5:Int)==v.kind)=false:=by subst hD;exact hk
      intro e;rw[e]at hk;cases hk
     refine⟨5-5,by rw[mQ];decide,?_⟩;rw[hJ];subst hD;exact⟨t1,y1,5,rfl,rfl,⟨E.q,by omega,λh=>E.a (by simp only[ZG]at *;omega),λh=>E.b (by simp only[ZG]at *;omega)⟩,rfl⟩
  .have hi:i=5:=by
    have hc:decide ((i:Int)<5)=false:=by subst hD;exact hc
    have:=QW hc;have:=E.le;omega
   subst hi;cbv;have hv5:v.kind<=5:=kC.2;have e2:t=t1:=by rw[S.st,QB hb];exact (E.b hv5).symm
   subst e2 hD;have e3:e0=0:=hb;subst e3;exact Amh (t:=t) (E.q.eO Q0) gF
structure jA(s:Ms)(qb:Bool)(ql:Int)(qf:Nat->List SV)(x:bN):Prop where
 g:wV s qb ql qf x
 fn:x.fb=true->s.inn.head.fields=[]
 tn:x.cb=true->s.inn.chunks.aE=[]
theorem ng{r:Rq}(h:(Bw r).2=0):(Bw r).1.length<=100000:=by
 unfold Bw at h ⊢
 split at h
 .rename_i g;exact absurd h g
 rename_i g;have g:(Bm r).2.2=0:=by simpa using g
 rw[QA (by rw[g];simp)]
 split at h
 .rename_i g;exact absurd h g
 rename_i g2;rw[QA g2];have E:=Ij g;have h1:=E.nG;have h2:=Abd E.org;have h3:=E.body;have h4:(Iw (Bm r).2.1).1.length<=8192:=by
  unfold Iw at g2 ⊢
  split
  .exact ZB _
  .rename_i q
   exact ((Ko _).1 (by simpa using q)).2.2
 have h5:gn.length=11:=rfl;simp only[QF,QG,QU];omega
theorem Acl(e:(Av m h).2.2=0):H3 h=0:=by
 unfold Av at e
 split at e
 .cases e
 split at e
 .rename_i g;exact absurd e g
 .rename_i g;simpa using g
theorem Ww(e:H3 h=0):Bb h.fields=0:=by
 unfold H3 at e
 split at e
 .cases e
 .exact e
theorem Ah5{r:Rs}(h:C7 r):r.head.fields.length<=100000:=by
 by_cases h0:r.phase=0
 .rw[(h.p0 h0).2.1];decide
 .have:=Dz (Ww (Acl (h.p1 h0).2.2.2.2.1));omega
theorem Aaz{r:Rs}(h:C7 r):r.chunks.aE.length<=100000:=by
 by_cases h0:r.phase=0
 .rw[(h.p0 h0).2.2.2.2.2];decide
 by_cases h2:r.aD=2
 .obtain⟨_,k,_⟩:=h.f2 h0 h2
  rcases k.oV with k4|k4
  .have:=Dz (k.p4 k4).2.1;omega
  .rw[k4];decide
 .rw[(h.p1 h0).2.2.2.2.2.2.1 h2];decide
theorem wV.out{s:Ms}{qb:Bool}{ql:Int}{qf:Nat->List SV}{x:bN}(G:wV s qb ql qf x):s.out.length<=100000:=by
 have h:=ng (r:=s.jH) (by rw[G.ok.enc])
 rwa [G.ok.enc]at h
theorem wV.bd{s:Ms}(G:wV s qb ql qf x):s.inn.body.length<=65536:=by
 have h:=G.ok.fit;have:=G.ok.b1;unfold Cd at h;omega
theorem jA.rs{s:Ms}{qb:Bool}{ql:Int}{qf:Nat->List SV}{x:bN}(G:jA s qb ql qf x):ot s.inn x :=
 ⟨G.g.x,G.g.ok.rs,by rw[G.g.ok.met];exact G.g.rq.method,G.fn,G.tn,G.g.bd⟩
theorem jA.EJ{s:Ms}(G:jA s qb ql qf x):KU (Ay s qb ql qf x) s.jH.fields s.inn.head.fields s.inn.chunks.aE :=
 ⟨G.g.rq.row,G.g.x.fl,G.g.x.cv.tr,Vb (by rw[G.g.ok.enc]),Ah5 G.g.ok.rs,Aaz G.g.ok.rs,G.g.rq.nil,G.fn,G.tn⟩
def DF(x:bN)(g2:Nat->List SV)(n2:Int)(g3:Nat->List SV)(n3:Int):bN:={ x with ff:=g2,fl:=n2,ctf:=g3,ct:=n3 }
theorem jA.own{s:Ms}{n1 n2 n3:Int}{g1 g2 g3:Nat->List SV}(G:jA s qb ql qf x)(C1:Ia g1 n1 s.jH.fields)(C2:Ia g2 n2 s.inn.head.fields)(C3:Ia g3 n3 s.inn.chunks.aE):
  jA s qb n1 g1 (DF x g2 n2 g3 n3):=by
 have R:=G.g.rq;have X:=G.g.x;exact⟨⟨G.g.ok,⟨R.BU,R.BS,R.method,R.target,R.host,R.body,C1.row R.row,R.nil⟩,
  ⟨X.m,X.ph,X.inf,X.ln,X.mi,X.st,X.re,C2.row X.fl,X.fr,X.bo,X.lf,X.cl,X.cd,⟨X.cv.gU,X.cv.iS,C3.row X.cv.tr⟩⟩⟩,G.fn,G.tn⟩
theorem jA.next{s t:Ms}{v:Me}(G:jA s qb ql qf x)(e:Cc s v=0)(ht:qW t (A4 s v))(Q:dI s.inn x t.inn y):jA t qb ql qf y:=by
 obtain⟨rfl⟩:=ht;exact⟨⟨Ng G.g.ok e,by rw[(Ny s v).jH];exact G.g.rq,Q.g.v⟩,Q.g.fn,Q.g.tn⟩
theorem U7{s:Ms}{x:Me}(h:Cc s x=0):0<=x.n/\x.n<=(s.out.length:Int)-s.aS/\s.phase≠2:=by
 have h1:=U6 h;unfold Cc at h
 split at h
 .cases h
 split at h
 .cases h
 rename_i g;exact⟨by omega,by omega,h1⟩
theorem jA.DS{s t:Ms}{v:dN}(G:jA s qb ql qf x)(hv:v.bytes.length<=1000000)(he:e=Cc s (gA v))(ht:qW t (if e=0 then A4 s (gA v) else s)):KO s x v e t:=by
 refine⟨G.rs,he,ht.h,λh0=>⟨⟨dI.refl G.rs,G.g.ok.b0,G.g.ok.b1⟩,G.g.ok.line,G.g.ok.h0,G.g.ok.h1,G.g.ok.fit,?_,hv⟩,λh0=>?_⟩
 .have h2:=(U7 (he.symm.trans h0)).2.2
  rcases G.g.ok.right with g|g|g
  .exact .inl ⟨g.1,g.2.2.2⟩
  .exact .inr ⟨g.1,g.2.2⟩
  .exact absurd g.1 h2
 .obtain⟨a,b,_⟩:=U7 (he.symm.trans h0)
  have a:0<=v.n:=a;have b:v.n<=(s.out.length:Int)-s.aS:=b;have:=G.g.out;have:=G.g.ok.s0;exact⟨by omega,by omega⟩
theorem jA.evV{s:Ms}(G:jA s qb ql qf x):LH (Ay s qb ql qf x) :=
 ⟨G.g.ok.s0,G.g.ok.s1,XV G.g.out (by decide)⟩
def BM:fA:=⟨0,[],[],[],true,0,λ_=>[],[],[],0,Oc [],0,0,0,false,0⟩
structure ad2(s:Ms)(v:dN)(qb:Bool)(m:fA)(e:Int):Prop where
 ev:e=Cc s (gA v)
 z:e≠0->m=BM
 o:e=0->∃(t:Ms) (ql:Int) (qf:Nat->List SV) (y:bN),qW t (A4 s (gA v))/\jA t qb ql qf y/\jO m (Ay t qb ql qf y)
def vH:aB:=λ_ xs ls K=>∃(s:Ms) (qb:Bool) (ql:Int) (qf:Nat->List SV) (x:bN) (v:dN),xs=[.agg (cG (Ay s qb ql qf x)),lH v]/\ls=[]/\jA s qb ql qf x/\v.bytes.length<=1000000/\
 ∀m e,ad2 s v qb m e->K (.aJ [.agg (cG m),.int .i64 (.a e)]) []
theorem ry{c c0:fA}{e:ST}{e0:Int}(h:iM (cG c) (cG c0))(he:e.den=e0):Fin (.aJ [.agg (cG c),.int .i64 e]) (.aJ [.agg (cG c0),.int .i64 (.a e0)]) [] [] :=
 C6 (.aJ (.cons (.agg h) (.cons (Ai he) .nil)))
theorem Aj9:Ap Tryz.prog qT 48 vH:=by
 refine Bq (gh:=[]) mixed Ds (Ab Jt (Al (Df Agh) (Al (Df Aal) Ae))) Tryz.func48 (by kernel_rfl) (by kernel_rfl) ?_;intro xs ls K h;unfold vH at h;obtain⟨s,qb,ql,qf,x,v,rfl,rfl,G,hv,h⟩:=h;obtain⟨g1,n1,C1⟩:∃g n,Ia g n s.jH.fields:=⟨_,_,⟨rfl,rfl⟩⟩;obtain⟨g2,n2,C2⟩:∃g n,Ia g n s.inn.head.fields:=⟨_,_,⟨rfl,rfl⟩⟩;obtain⟨g3,n3,C3⟩:∃g n,Ia g n s.inn.chunks.aE:=⟨_,_,⟨rfl,rfl⟩⟩;have G1:=G.own C1 C2 C3;obtain⟨e0,mK⟩:∃e,e=Cc s (gA v):=⟨_,rfl⟩;obtain⟨t,ht⟩:∃t,qW t (if e0=0 then A4 s (gA v) else s):=⟨_,⟨rfl⟩⟩;obtain⟨y0,Q0⟩:∃y0,dI s.inn (DF x g2 n2 g3 n3) t.inn y0:=by
  rw[ht.h]
  split
  .exact Vo (dI.refl G1.rs)
  .exact⟨_,dI.refl G1.rs⟩
 obtain⟨m0,gF⟩:∃m0,jO m0 (if e0=0 then Ay t qb n1 g1 y0 else BM):=⟨_,⟨rfl⟩⟩;have hV:=G1.DS (v:=v) hv mK ht;have hE:=G1.evV;have hO:=G.EJ;have h:=h m0 e0 ⟨mK,λg=>by rw[gF.h,QA g],λg=>⟨t,n1,g1,y0,⟨by rw[ht.h,QB g]⟩,G1.next (mK.symm.trans g) ⟨by rw[ht.h,QB g]⟩ Q0,⟨by rw[gF.h,QB g]⟩⟩⟩;refine⟨_,_,h,λD hD=>?_⟩;clear h;unfold cG Ay lH;cbv;refine⟨s,qb,ql,qf,x,by subst hD;rfl,rfl,G.g,?_⟩;cbv;refine br hD (λhb=>?_) (λhb=>?_)<;>cbv
 .exfalso
  have hb:((0:Int) != 0)=true:=by subst hD;exact hb
  cases hb
 clear hb;refine⟨Ay s qb ql qf x,s.jH.fields,s.inn.head.fields,s.inn.chunks.aE,by subst hD;rfl,rfl,hO,λa1 m1 a2 m2 a3 m3 A1 A2 A3=>?_⟩;cbv;obtain⟨rfl,rfl⟩:=A1.eq C1;obtain⟨rfl,rfl⟩:=A2.eq C2;obtain⟨rfl,rfl⟩:=A3.eq C3;refine⟨s,qb,m1,a1,DF x a2 m2 a3 m3,v,e0,t,by subst hD;rfl,by subst hD;rfl,hE,hV,λy m Q hm=>?_⟩;cbv;obtain⟨rfl⟩:=hm;refine br hD (λhb=>?_) (λhb=>?_)<;>cbv
 .have hb:e0≠0:=by
   have hb:(e0 != 0)=true:=by subst hD;exact hb
   simpa using hb
  have hz:m0=BM:=by rw[gF.h,QA hb]
  subst hz hD;refine ry (c:=BM) (c0:=BM) (iM.refl _) rfl
 .have hb:e0=0:=by
   have hb:(e0 != 0)=false:=by subst hD;exact hb
   simpa using hb
  have hz:m0=Ay t qb m1 a1 y0:=by rw[gF.h,QB hb]
  subst hz hD;subst hb;exact ry (c:=Ay t qb m1 a1 y) (c0:=Ay t qb m1 a1 y0) (MO (c:=Ay t qb m1 a1 y) (Q.eO Q0)) rfl
structure KK(s:Ms)(mi st fr:Int)(bo:List UInt8)(kp ru:Bool)(wy e:Int):Prop where
 o:s.phase=0->e=9
 n:s.phase≠0->e=0
 b:s.phase=2->wy=s.why/\ru=false/\bo=[]
 d:s.phase=1->wy=0/\mi=s.inn.head.minor/\st=s.inn.head.status/\fr=s.inn.aD/\(s.inn.aD=2->bo=s.inn.chunks.data)/\(s.inn.aD≠2->bo=s.inn.body)/\kp=My s.inn.head s.inn.aD/\ru=((!s.ended&&(s.aS==(s.out.length:Int)))&&kp)
structure VC where
 mi:Int
 st:Int
 re:List UInt8
 fb:Bool
 fl:Int
 ff:Nat->List SV
 fr:Int
 bo:List UInt8
 cb:Bool
 ct:Int
 ctf:Nat->List SV
 kp:Bool
 ru:Bool
 wy:Int
def Pr(c:VC):List SV:=[.int .i64 (.a c.mi),.int .i64 (.a c.st),.str c.re,.sl (.a c.fb) (.a c.fl) 2 c.ff,.int .i64 (.a c.fr),.str c.bo,.sl (.a c.cb) (.a c.ct) 2 c.ctf,.bool (.a c.kp),.bool (.a c.ru),.int .i64 (.a c.wy)]
def Gp(s:Ms)(x:bN):VC :=
 if s.phase=1 then
  (if s.inn.aD=2 then⟨x.mi,x.st,x.re,x.fb,x.fl,x.ff,x.fr,x.cd,x.cb,x.ct,x.ctf,My s.inn.head s.inn.aD,((!s.ended&&(s.aS==(s.out.length:Int)))&&My s.inn.head s.inn.aD),0⟩
   else⟨x.mi,x.st,x.re,x.fb,x.fl,x.ff,x.fr,x.bo,true,0,λ_=>[],My s.inn.head s.inn.aD,((!s.ended&&(s.aS==(s.out.length:Int)))&&My s.inn.head s.inn.aD),0⟩)
 else⟨0,0,[],true,0,λ_=>[],0,[],true,0,λ_=>[],false,false,if s.phase=2 then s.why else 0⟩
structure AB(s:Ms)(x:bN)(c:VC)(e:Int):Prop where
 h:c=Gp s x
 he:e=if s.phase=0 then 9 else 0
theorem AB.r{s:Ms}{c:VC}(Q:AB s x c e)(X:iU s.inn x):KK s c.mi c.st c.fr c.bo c.kp c.ru c.wy e:=by
 refine⟨λg=>by rw[Q.he,QB g],λg=>by rw[Q.he,QA g],λg=>?_,λg=>?_⟩
 .have h:=Q.h
  unfold Gp at h;rw[QA (by rw[g];decide)]at h;subst h;exact⟨by show (if s.phase=2 then s.why else 0)=s.why;rw[QB g],rfl,rfl⟩
 .have h:=Q.h
  unfold Gp at h;rw[QB g]at h
  by_cases f:s.inn.aD=2
  .rw[QB f]at h
   subst h;exact⟨rfl,X.mi,X.st,X.fr,λ_=>X.cd,λq=>absurd f q,rfl,rfl⟩
  .rw[QA f]at h
   subst h;exact⟨rfl,X.mi,X.st,X.fr,λq=>absurd q f,λ_=>X.bo,rfl,rfl⟩
theorem ER{s:Ms}(T:Twin s.inn y y0):iM (Pr (Gp s y)) (Pr (Gp s y0)):=by
 obtain⟨V,W,hf,hc⟩:=T;have z:∀v,aO v v:=aO.refl;have e1:=V.mi.trans W.mi.symm;have e2:=V.st.trans W.st.symm;have e3:=V.re.trans W.re.symm;have e4:=V.fr.trans W.fr.symm;have e5:=V.cd.trans W.cd.symm;have e6:=V.bo.trans W.bo.symm;unfold Gp
 split
 .split
  .unfold Pr
   rw[e1,e2,e3,e4,e5,hf,hc];exact .cons (z _) (.cons (z _) (.cons (z _) (.cons (E8 V.fl W.fl rfl rfl rfl) (.cons (z _) (.cons (z _) (.cons (E8 V.cv.tr W.cv.tr rfl rfl rfl) (.cons (z _) (.cons (z _) (.cons (z _) .nil)))))))))
  .unfold Pr
   rw[e1,e2,e3,e4,e6,hf];exact .cons (z _) (.cons (z _) (.cons (z _) (.cons (E8 V.fl W.fl rfl rfl rfl) (.cons (z _) (.cons (z _) (.cons (z _) (.cons (z _) (.cons (z _) (.cons (z _) .nil)))))))))
 .exact iM.refl _
def uY:aB:=λ_ xs ls K=>∃(s:Ms) (qb:Bool) (ql:Int) (qf:Nat->List SV) (x:bN),xs=[.agg (cG (Ay s qb ql qf x))]/\ls=[]/\jA s qb ql qf x/\
 ∀c e,AB s x c e->K (.aJ [.agg (Pr c),.int .i64 (.a e)]) []
theorem Zl{re:List UInt8}{mi wF st qM fl yB fr nU ct pN wy wy' e e':ST}{fb yD cb qV kp ET ru ru':BT}{ff yC ctf gH:Nat->List SV}
  (h3:mi.den=wF.den) (h4:st.den=qM.den) (h5:aO (.sl fb fl 2 ff) (.sl yD yB 2 yC)) (h6:fr.den=nU.den) (jN:aO (.sl cb ct 2 ctf) (.sl qV pN 2 gH)) (JA:kp.den=ET.den) (qF:ru.den=ru'.den) (h14:wy.den=wy'.den) (mj:e.den=e'.den):
  Fin (.aJ [.agg [.int .i64 mi,.int .i64 st,.str re,.sl fb fl 2 ff,.int .i64 fr,.str bo,.sl cb ct 2 ctf,.bool kp,.bool ru,.int .i64 wy],.int .i64 e])
   (.aJ [.agg [.int .i64 wF,.int .i64 qM,.str re,.sl yD yB 2 yC,.int .i64 nU,.str bo,.sl qV pN 2 gH,.bool ET,.bool ru',.int .i64 wy'],.int .i64 e']) [] [] :=
 C6 (.aJ (.cons (aO.agg (.cons (Ai h3) (.cons (Ai h4) (.cons (Cj _) (.cons h5 (.cons (Ai h6) (.cons (Cj _) (.cons jN (.cons (Dv JA) (.cons (Dv qF) (.cons (Ai h14) .nil))))))))))) (.cons (Ai mj) .nil)))
theorem MK{b:BT}{n:ST}(hb:b.den=true)(hn:n.den=0):aO (.sl b n 2 f) (.sl (.a true) (.a 0) 2 λ_=>[]):=.sl hb hn λi hi=>absurd hi (by rw[hn];omega)
theorem wV.ph{s:Ms}(G:wV s qb ql qf x):s.phase=0\/s.phase=2\/(s.phase=1/\s.inn.phase=2):=by
 rcases G.ok.right with g|g|g
 .exact .inl g.1
 .exact .inr (.inr ⟨g.1,g.2.2⟩)
 .exact .inr (.inl g.1)
theorem Z8:Ap Tryz.prog qT 37 uY:=by
 refine Bv (gh:=[]) mixed Ds (Ab Jt (Ab (Df ig) Ae)) Tryz.func37 (by kernel_rfl) (by kernel_rfl) ?_;intro xs ls K h;unfold uY at h;obtain⟨s,qb,ql,qf,x,rfl,rfl,G,h⟩:=h;obtain⟨kp,ej⟩:∃kp,kp=My s.inn.head s.inn.aD:=⟨_,rfl⟩;obtain⟨ru,ND⟩:∃ru,ru=((!s.ended&&(s.aS==(s.out.length:Int)))&&kp):=⟨_,rfl⟩;have X:=G.g.x;obtain⟨c,hc⟩:∃c,c=Gp s x:=⟨_,rfl⟩;obtain⟨e,he⟩:∃e:Int,e=if s.phase=0 then 9 else 0:=⟨_,rfl⟩
 have hK:=h c e ⟨hc,he⟩;have oM:s.phase=0->c=⟨0,0,[],true,0,λ_=>[],0,[],true,0,λ_=>[],false,false,0⟩/\e=9:=λg=>by
  rw[hc,he];unfold Gp;rw[QA (by rw[g];decide),QA (by rw[g];decide),QB g];exact⟨rfl,rfl⟩
 have cO:s.phase=2->c=⟨0,0,[],true,0,λ_=>[],0,[],true,0,λ_=>[],false,false,s.why⟩/\e=0:=λg=>by
  rw[hc,he];unfold Gp;rw[QA (by rw[g];decide),QB g,QA (by rw[g];decide)];exact⟨rfl,rfl⟩
 have w7:s.phase=1->s.inn.aD=2->c=⟨x.mi,x.st,x.re,x.fb,x.fl,x.ff,x.fr,x.cd,x.cb,x.ct,x.ctf,kp,ru,0⟩/\e=0:=λg f=>by
  rw[hc,he,ND,ej];unfold Gp;rw[QB g,QB f,QA (by rw[g];decide)];exact⟨rfl,rfl⟩
 have hr4:s.phase=1->s.inn.aD≠2->c=⟨x.mi,x.st,x.re,x.fb,x.fl,x.ff,x.fr,x.bo,true,0,λ_=>[],kp,ru,0⟩/\e=0:=λg f=>by
  rw[hc,he,ND,ej];unfold Gp;rw[QB g,QA f,QA (by rw[g];decide)];exact⟨rfl,rfl⟩
 clear hc he;have cE:x.fr=s.inn.aD:=X.fr;have fH:=G.g.ph;refine⟨_,_,hK,λD hD=>?_⟩;clear hK h;unfold cG Ay;unfold Pr;cbv;refine⟨s,qb,ql,qf,x,by subst hD;rfl,rfl,G.g,?_⟩;cbv;refine br hD (λhb=>?_) (λhb=>?_)<;>cbv
 .exfalso
  have hb:((0:Int) != 0)=true:=by subst hD;exact hb
  cases hb
 clear hb;refine br hD (λhb=>?_) (λhb=>?_)<;>cbv
 .have hb:s.phase=0:=by
   have hb:(s.phase==0)=true:=by subst hD;exact hb
   exact eq_of_beq hb
  obtain⟨rfl,rfl⟩:=oM hb;subst hD;exact Zl rfl rfl (MK rfl rfl) rfl (MK rfl rfl) rfl rfl rfl rfl
 have h0:s.phase≠0:=by
  have hb:(s.phase==0)=false:=by subst hD;exact hb
  simpa using hb
 clear hb;refine br hD (λhb=>?_) (λhb=>?_)<;>cbv
 .have hb:s.phase=2:=by
   have hb:(s.phase==2)=true:=by subst hD;exact hb
   exact eq_of_beq hb
  obtain⟨rfl,rfl⟩:=cO hb;subst hD;exact Zl rfl rfl (MK rfl rfl) rfl (MK rfl rfl) rfl rfl rfl rfl
 have h2:s.phase=1/\s.inn.phase=2:=by
  have hb:(s.phase==2)=false:=by subst hD;exact hb
  have hb:s.phase≠2:=by simpa using hb
  exact (fH.resolve_left h0).resolve_left hb
 clear hb;refine⟨s.inn,bN.nm D x,by subst hD;rfl,rfl,by subst hD;exact G.g.x,G.g.ok.rs,by rw[G.g.ok.met];exact G.g.rq.method,λq=>?_,λ_ bo cb ct ctf k2 aZ f2 fn2=>?_⟩<;>cbv
 .exfalso
  exact q h2.2
 obtain rfl:k2=kp:=aZ.trans ej.symm;refine br hD (λhb=>?_) (λhb=>?_)<;>cbv
 .exfalso
  have hb:((0:Int) != 0)=true:=by subst hD;exact hb
  cases hb
 clear hb
 by_cases h3:s.inn.aD=2
 .obtain⟨rfl,rfl,rfl,rfl⟩:=f2 h3
  obtain⟨rfl,rfl⟩:=w7 h2.1 h3;subst hD;exact Zl rfl rfl (aO.refl _) rfl (aO.refl _) rfl (by exact ND.symm) rfl rfl
 .obtain⟨rfl,rfl,rfl,rfl⟩:=fn2 h3
  obtain⟨rfl,rfl⟩:=hr4 h2.1 h3;subst hD;exact Zl rfl rfl (aO.refl _) rfl (MK rfl rfl) rfl (by exact ND.symm) rfl rfl
set_option maxHeartbeats 8000000
def Pc(x:dN):List SV:=[.int .i64 (.a x.kind),.int .i64 (.a x.n),.str x.bytes,.int .i64 (.a x.why)]
def pY:dN:=⟨0,0,[],0⟩
structure Po(f:Nat->List SV)(n:Int)(l:List dN):Prop where
 n:n=l.length
 f:∀i,i<l.length->f i=Pc (l.getD i pY)
 len:l.length<=9223372036854775807
def vu(r:Rq)(out:List UInt8)(a b:Int):Ms:=⟨r,out,0,BG r.method,a,b,0,false,0⟩
theorem je{r:Rq}{b:Int}(he:(Bw r).2=0)(hi:Wp a b=true):Pp (vu r (Bw r).1 a b):=by
 unfold Wp at hi;simp only[QE,QJ]at hi;obtain⟨⟨⟨h1,h2⟩,h3⟩,h4⟩:=hi;refine⟨?_,by show (0:Int)<=0;omega,by show (0:Int)<=_;omega,h1,h2,h3,h4,rfl,u3 (Va he),?_,?_,λ_=>⟨rfl,rfl,rfl⟩,.inl ⟨rfl,rfl,rfl,by show (0:Int)≠2;decide⟩⟩
 .show Bw r=((Bw r).1,0)
  rw[<-he]
 .show ((([]:List UInt8).length:Nat):Int)<=a
  simp only[QU];omega
 .refine⟨?_,?_⟩
  .show ((([]:List UInt8).length:Nat):Int)+((([]:List UInt8).length:Nat):Int)<=b
   simp only[QU];omega
  .show (0:Int)<=b-(((([]:List UInt8).length:Nat):Int)+((([]:List UInt8).length:Nat):Int))
   simp only[QU];omega
theorem Alp{r:Rq}{nb:Bool}{n n':Int}{f':Nat->List SV}{b:Int}{nl:Bool}(R:Pn r nl n f)(he:(Bw r).2=0)(hi:Wp a b=true)(R':A5 f' n' r.fields)(hn:nb=r.fields.isEmpty):
  jA (vu r (Bw r).1 a b) nb n' f' (Oc r.method) :=
 ⟨⟨je he hi,⟨R.BU,R.BS,R.method,R.target,R.host,R.body,R',λh=>List.isEmpty_iff.mp (by show r.fields.isEmpty=true;rw[<-hn,h])⟩,EB r.method⟩,λ_=>rfl,λ_=>rfl⟩
structure af2(r:Rq)(a b:Int)(q:Rq)(out m:List UInt8)(a' b' e:Int):Prop where
 z:e≠0->True
 o:e=0->(Bw r).2=0/\Wp a b=true/\q=r/\out=(Bw r).1/\m=r.method/\a'=a/\b'=b
theorem n9{r q:Rq}{b a' b':Int}{out:List UInt8}(h:(q,out,m,a',b',e)=Kq r a b):af2 r a b q out m a' b' e:=by
 refine⟨λ_=>trivial,λhe=>?_⟩;unfold Kq at h
 split at h
 .rename_i g
  simp only[Prod.mk.injEq]at h;exact absurd (h.2.2.2.2.2.symm.trans he) g
 rename_i g
 split at h
 .rename_i g2
  simp only[Prod.mk.injEq]at h;obtain⟨h1,h2,h3,h4,h5,_⟩:=h;exact⟨by simpa using g,g2,h1,h2,h3,h4,h5⟩
 .simp only[Prod.mk.injEq]at h
  have:=h.2.2.2.2.2;omega
theorem Sv{u:Lu}{out:List UInt8}{v:dN}{t:Ms}{w:Int}{en af:Bool}(h:AW u out)(he:Cc u.s (gA v)=0)(ht:qW t (A4 u.s (gA v)))(hw:w=if v.kind=1 then u.written+v.n else u.written)
  (gO:en=(u.ended||decide (v.kind=3)||decide (v.kind=4))) (ym:af=if u.s.phase=1/\v.kind=2/\v.bytes≠[] then true else u.after):AW ⟨t,w,en,af⟩ out:=by
 have:=vw (x:=gA v) h;unfold RB at this;rw[QA (by rw[he];decide)]at this;rw[hw,gO,ym,ht.h];exact this
theorem Ah6{u:Lu}{out:List UInt8}{mi st fr wy:Int}{kp ru:Bool}(h:AW u out)(V:KK u.s mi st fr bo kp ru wy e)(he:e=0)(hr:ru=true):
  wy=0/\u.written=(u.s.out.length:Int)/\u.ended=false/\u.after=false/\fr≠3/\bo.length<=100:=by
 have h0:u.s.phase≠0:=λg=>absurd ((V.o g).symm.trans he) (by decide);have h2:u.s.phase≠2:=λg=>by rw[(V.b g).2.1]at hr;cases hr
 have h1:u.s.phase=1:=by
  rcases h.ok.right with g|g|g
  .exact absurd g.1 h0
  .exact g.1
  .exact absurd g.1 h2
 obtain⟨d1,d2,d3,d4,d5,d6,d7,d8⟩:=V.d h1;rw[hr]at d8;have d8:=d8.symm;simp only[QE,XO,QS]at d8;obtain⟨⟨g1,g2⟩,g3⟩:=d8;refine⟨d1,by rw[h.w,g2],by rw[h.e];exact g1,?_,?_,?_⟩
 .rcases Bool.eq_false_or_eq_true u.after with q|q
  .exact absurd (h.a q) h2
  .exact q
 .intro q
  rw[d7]at g3;unfold My at g3;rw[<-d4,q]at g3;simp at g3
 .have hf:=h.ok.fit
  unfold Cd at hf;rw[h.b]at hf
  by_cases q:u.s.inn.aD=2
  .rw[d5 q];omega
  .rw[d6 q];omega
def Oq:List dN->Int->Bool
 | [],c=>decide (1500<c)
 |x :: l,c=>Oq l (c+min (x.bytes.length:Int) 2000)
def MJ(l:List dN):Bool:=if decide (60<(l.length:Int)) then true else Oq l 0
structure AG(l:List dN)(r:Bool):Prop where
 h:r=MJ l
theorem Abv:∀(l:List dN) (c:Int),0<=c->Oq l c=false->c<=1500/\∀x∈l,x.bytes.length<=1500
 | [],c,_,h=>⟨by unfold Oq at h;have:=QW h;omega,λx hx=>by cases hx⟩
 |x :: l,c,h0,h=>by
  unfold Oq at h;obtain⟨a,b⟩:=Abv l _ (by omega) h;refine⟨by omega,λy hy=>?_⟩;rcases List.mem_cons.1 hy with rfl|hy
  .omega
  .exact b y hy
theorem Alt{l:List dN}(h:MJ l=false):l.length<=60/\∀x∈l,x.bytes.length<=1500:=by
 unfold MJ at h
 split at h
 .cases h
 .rename_i g
  refine⟨?_,(Abv l 0 (by omega) h).2⟩;have:=QW (by simpa using g:decide (60<(l.length:Int))=false);omega
structure LoL(l:List dN)(k:Bool)(i:Nat)(I C:Int)(m:Nat):Prop where
 bY:AtR l i I m
 le:l.length<=60
 c0:0<=C
 cc:C<=2000 * i
 k:k=Oq (l.drop i) C
structure BC(a b:Int):Prop where
 a0:0<=a
 a1:a<=2000000
 b0:0<=b
 b1:b<=2000
theorem BC.w{b:Int}(h:BC a b):IntKind.i64.wrap (a+b)=a+b:=by
 have:=h.a0;have:=h.a1;have:=h.b0;have:=h.b1;exact wrap64 (by omega) (by omega)
def loJ(l:List dN)(k nl:Bool)(n:Int)(f:Nat->List SV)(m:Nat)(vs:List (Option SV))(hp:List Hl):Prop :=
 ∃(i:Nat) (I C:Int),vs=[some (.sl (.a nl) (.a n) 4 f),some (.int .i64 (.a C)),some (.int .i64 (.a I))]/\hp=[]/\LoL l k i I C m
def yT:aB:=λ_ xs ls K=>∃(l:List dN) (nl:Bool) (n:Int) (f:Nat->List SV),xs=[.sl (.a nl) (.a n) 4 f]/\ls=[]/\Po f n l/\∀r,AG l r->K (.bool (.a r)) []
theorem Als:Ap Tryz.prog gl 42 yT:=by
 refine Bv (gh:=[]) mixed Ds Ae Tryz.func42 (by kernel_rfl) (by kernel_rfl) ?_;intro xs ls K h;unfold yT at h;obtain⟨l,nl,n,f,rfl,rfl,R,h⟩:=h;obtain⟨k,hk⟩:∃k,k=MJ l:=⟨_,rfl⟩;refine⟨_,_,h k ⟨hk⟩,λD hD=>?_⟩;clear h;unfold MJ at hk;cbv;refine br hD (λh=>?_) (λh=>?_)<;>cbv
 .have h:decide (60<n)=true:=by subst hD;exact h
  rw[R.n]at h;rw[QB h]at hk;exact Aw hD hk.symm
 have h:decide (60<n)=false:=by subst hD;exact h
 rw[R.n]at h;rw[h]at hk;have hk:k=Oq l 0:=hk;have hl:l.length<=60:=by have:=QW h;omega
 clear h;obtain⟨J,hJ⟩:∃J,J=loJ l k nl n f:=⟨_,rfl⟩;refine⟨[0,3,4],J,⟨rfl,l.length,?_⟩,?_⟩
 .rw[hJ]
  subst hD;exact⟨0,0,0,rfl,rfl,⟨AtR.zero R.len,hl,by omega,by omega,hk⟩⟩
 clear hk hl;intro m vs hp hv;rw[hJ]at hv;obtain⟨i,I,C,rfl,rfl,V⟩:=hv;cbv;refine br hD (λh=>?_) (λh=>?_)<;>cbv
 .have aC:=V.bY.lt R.n (QT (p:=I<n) h)
  clear h;refine⟨V.bY.fS hD R.n aC,λj hj=>?_⟩;obtain rfl:=V.bY.j hD hj;clear hj;obtain⟨x,hx⟩:∃x,x=l.getD j pY:=⟨_,rfl⟩;have hk:=V.k;rw[Hb (d:=pY) aC,<-hx,Oq]at hk;have e:=R.f j aC;rw[<-hx]at e;cbv;rw[e];cbv;intro r hr;cbv;have er:r=min (x.bytes.length:Int) 2000:=by subst hD;exact hr.h
  have AV:BC C r:=⟨V.c0,by have:=V.cc;have:=V.le;omega,by omega,by omega⟩;have hs:=V.bY.step hD aC;refine⟨_,hs.1,?_⟩;rw[hJ];subst hD;refine⟨j+1,_,_,rfl,rfl,⟨hs.2,V.le,?_,?_,?_⟩⟩
  .show 0<=IntKind.i64.wrap (C+r)
   rw[AV.w];have:=AV.a0;have:=AV.b0;omega
  .show IntKind.i64.wrap (C+r)<=_
   rw[AV.w];have:=V.cc;have:=AV.b1;omega
  .show k=Oq _ (IntKind.i64.wrap (C+r))
   rw[AV.w,hk,er]
 .have hi:=V.bY.eq R.n (QW (p:=I<n) h)
  have hk:=V.k;rw[hi,XQ]at hk;exact Aw hD hk.symm
end Go.Proofs.YtdoogdbjiijifaaGreatDoor
