/- Part of the proofs of the statements about responses and messages (layers 9 and 10): a symbolic executor over the code, that it is sound, and contracts of functions; it has no conditions of its own. -/
import Derived.Test.YtdoogdbjiijifaaGreatDoorE4Pbl
import Derived.Test.YtdoogdbjiijifaaGreatDoorE4Pbk
import Derived.Test.YtdoogdbjiijifaaGreatDoorE4Pav
namespace Go.Proofs.YtdoogdbjiijifaaGreatDoor
open Go Go.Sx
set_option maxRecDepth 100000
set_option maxHeartbeats 8000000
def spFeedR : FSpec:=fun _ xs ls K=>∃ (s : Rs) (x : RsC) (b : List UInt8) (nb : Bool) (n : Int) (f : Nat->List SV),
 xs = [rsA x,.sl (.a nb) (.a n) 1 f]/\ls = []/\RsV s x/\Da s/\s.method.length<=9223372036854775807/\A7 f n b/\b.length<=1000000/\(nb = true->b = [])/\
 ∀ k,k = Ag s b->(k.2.2≠0->K (.tup [rsA x,.int .i64 (.a 0),.int .i64 (.a k.2.2)]) [])/\
  (k.2.2 = 0->∀ y u,RsV k.1 y->RsN s k.1 y x->u = (k.2.1 : Int)->K (.tup [rsA y,.int .i64 (.a u),.int .i64 (.a 0)]) [])
def rdrH (x : RsC) (nb : Bool) (n : Int) (f : Nat->List SV) (nn : Bool) (nl g : Int) (h : Nat) : List SV :=
 [.str x.m,.int .i64 (.a x.ph),.int .i64 (.a x.inf),.str x.ln,.int .i64 (.a x.mi),.int .i64 (.a x.st),.str x.re,.sl (.a x.fb) (.a x.fl) 2 x.ff,.int .i64 (.a x.fr),.str x.bo,.int .i64 (.a x.lf),
  .int .i64 (.a x.cp),.str x.cl,.str x.cd,.int .i64 (.a x.cf),.sl (.a x.cb) (.a x.ct) 2 x.ctf,.sl (.a nb) (.a n) 1 f,.vsl (.a nn) (.a nl) (.a g) h]
def Q7 (x : RsC) : List SV:=[.str x.m,.int .i64 (.a x.ph),.int .i64 (.a x.inf),.str x.ln,.int .i64 (.a x.mi),.int .i64 (.a x.st),.str x.re,.sl (.a x.fb) (.a x.fl) 2 x.ff,.int .i64 (.a x.fr),.str x.bo,.int .i64 (.a x.lf),
  .int .i64 (.a x.cp),.str x.cl,.str x.cd,.int .i64 (.a x.cf),.sl (.a x.cb) (.a x.ct) 2 x.ctf]
structure FdJ (s : Rs) (x : RsC) (b : List UInt8) (st : Rs) (y : RsC) (i : Nat) (nb : Bool) (n : Int) (f : Nat->List SV) : Prop where
 g : J5 s b st i
 v : RsV st y
 nn : RsN s st y x
 met : st.method = s.method
 row : A7 f n (b.drop i)
 nl : nb = true->b.drop i = []
 p0 : st.phase = 0->s.phase = 0
 p2 : s.phase = 2->st = s
def fdJ (s : Rs) (x : RsC) (b : List UInt8) (nb0 : Bool) (n0 : Int) (f0 : Nat->List SV) (m : Nat) (vs : List (Option SV)) (hp : List Hl) : Prop :=
 ∃ (st : Rs) (y : RsC) (i : Nat) (nb : Bool) (n : Int) (f : Nat->List SV) (nn : Bool) (nl g : Int) (nf : Nat->List SV),vs = [some (.sl (.a nb0) (.a n0) 1 f0),some (.ptr 0 0),some (.ptr 1 0),some (.ptr 2 0)]/\
  hp = [.blk 38 (Q7 x),.blk 38 (Q7 (Ur [])),.blk 125 (rdrH y nb n f nn nl g 3),.vec 5 (.a nl) (.a g) 1 nf]/\FdJ s x b st y i nb n f/\m = b.length - i
theorem Nm : ∀ (b : List UInt8) (s : Rs),s.phase = 0->(Dt s b).1.chunks = s.chunks/\(Dt s b).1.method = s.method
 | [],s,_=>⟨rfl,rfl⟩
 | c :: b,s,h=>by
  have hc : (rsS s c).1.chunks = s.chunks:=by
   unfold rsS
   rw [if_pos h]
   split
   ·rfl
   split
   ·rfl
   split
   ·rfl
   split
   ·unfold By; split<;>rfl
   ·split<;>rfl
  rw [Dt]
  split
  ·exact ⟨rfl,rfl⟩
  split
  ·exact ⟨hc,L5 s c⟩
  ·rename_i h2
   have:=Nm b (rsS s c).1 (by simpa using h2)
   exact ⟨this.1.trans hc,this.2.trans (L5 s c)⟩
theorem rs_fin {s : Rs} {x : RsC} {b : List UInt8} (O : Da s) (k : Rs×Nat×Int) (hk : k = Ag s b) (e0 : k.2.2 = 0) : ∃ y,RsV k.1 y/\RsN s k.1 y x:=by
 have h2 : Da k.1:=by rw [hk] at e0 ⊢; exact Ih b s O e0
 obtain ⟨fl,ff,ct,ctf,r1,r2⟩:=Adv h2
 exact ⟨_,rsC_V (fb:=if k.1.phase≠0/\s.phase = 0 then k.1.head.fields.isEmpty else x.fb) (cb:=tnF s.chunks k.1.chunks x.cb) r1 r2,⟨rfl,rfl⟩⟩
theorem FdJ.next {s : Rs} {x : RsC} {b : List UInt8} {st t : Rs} {y y' : RsC} {i j : Nat} {nb nb' : Bool} {n n' : Int} {f f' : Nat->List SV} (B : FdJ s x b st y i nb n f) (h2 : st.phase≠2) (G : J5 st (b.drop i) t j) (V : RsV t y') (N : RsN s t y' x) (hm : t.method = st.method)
  (R : A7 f' n' ((b.drop i).drop j)) (hn : nb' = true->(b.drop i).drop j = []) (h0 : t.phase = 0->st.phase = 0) : FdJ s x b t y' (i + j) nb' n' f' :=
 ⟨B.g.trans G,V,N,hm.trans B.met,by rw [<-List.drop_drop]; exact R,by rw [<-List.drop_drop]; exact hn,fun h=>B.p0 (h0 h),fun h=>absurd (by rw [B.p2 h]; exact h) h2⟩
theorem FdJ.less {s : Rs} {x : RsC} {b : List UInt8} {st : Rs} {y : RsC} {i j : Nat} {nb : Bool} {n : Int} {f : Nat->List SV} (B : FdJ s x b st y i nb n f) (h : 0 < n) (hj : 1<=j) : b.length - (i + j) < b.length - i:=by
 have h1:=B.row.n
 rw [List.length_drop] at h1
 omega
theorem Ai3 {s st t : Rs} {x y y' : RsC} (A : RsN s st y x) (N : RsN st t y' y) (p : st.phase = 0) (p0 : s.phase = 0) (hc : t.chunks = st.chunks) : RsN s t y' x:=by
 have h1:=A.f
 rw [if_neg (fun h=>h.1 p)] at h1
 refine ⟨?_,?_⟩
 ·rw [N.f,h1]
  by_cases h : t.phase = 0
  ·rw [if_neg (fun g=>g.1 h),if_neg (fun g=>g.1 h)]
  ·rw [if_pos ⟨h,p⟩,if_pos ⟨h,p0⟩]
 ·rw [N.c,hc,A.c]
  unfold tnF
  rw [if_neg (fun h=>h.2 h.1)]
theorem Aec {s st t : Rs} {x y y' : RsC} (A : RsN s st y x) (p : st.phase≠0) (q : t.phase≠0) (hh : t.head = st.head) (hc : t.chunks = st.chunks) (hf : y'.fb = y.fb) (hb : y'.cb = y.cb) : RsN s t y' x:=by
 refine ⟨?_,by rw [hb,A.c,hc]⟩
 rw [hf,A.f,hh]
 by_cases h : s.phase = 0
 ·rw [if_pos ⟨p,h⟩,if_pos ⟨q,h⟩]
 ·rw [if_neg (fun g=>h g.2),if_neg (fun g=>h g.2)]
theorem Ai4 {s st t : Rs} {x y y' : RsC} (A : RsN s st y x) (p : st.phase≠0) (q : t.phase≠0) (hh : t.head = st.head) (h4 : s.chunks.phase≠4) (g4 : st.chunks.phase≠4) (hf : y'.fb = y.fb) (hb : y'.cb = tnF st.chunks t.chunks y.cb) : RsN s t y' x:=by
 have h1:=A.c
 unfold tnF at h1
 rw [if_neg (fun h=>g4 h.1)] at h1
 refine ⟨?_,?_⟩
 ·rw [hf,A.f,hh]
  by_cases h : s.phase = 0
  ·rw [if_pos ⟨p,h⟩,if_pos ⟨q,h⟩]
  ·rw [if_neg (fun g=>h g.2),if_neg (fun g=>h g.2)]
 ·rw [hb,h1]
  unfold tnF
  by_cases h : t.chunks.phase = 4
  ·rw [if_pos ⟨h,g4⟩,if_pos ⟨h,h4⟩]
  ·rw [if_neg (fun g=>h g.1),if_neg (fun g=>h g.1)]
theorem Aa1 {s : Rs} (O : Da s) (h : s.phase≠2) : s.chunks.phase≠4:=by
 intro h4
 by_cases h0 : s.phase = 0
 ·rw [(O.p0 h0).2.2.2.2.2] at h4; cases h4
 ·by_cases h2 : s.framing = 2
  ·exact h ((O.f2 h0 h2).2.2.2 h4)
  ·rw [(O.p1 h0).2.2.2.2.2.2.1 h2] at h4; cases h4
theorem finFeed {t : Rs} {y y' : RsC} {u e u' e' : ST} (V : RsV t y) (V' : RsV t y') (hf : y.fb = y'.fb) (hc : y.cb = y'.cb) (hu : u.den = u'.den) (he : e.den = e'.den) : Fin (.tup [rsA y,.int .i64 u,.int .i64 e]) (.tup [rsA y',.int .i64 u',.int .i64 e']) [] [] :=
 Gg (.tup (.cons (leRsA V V' hf hc) (.cons (Al hu) (.cons (Al he) .nil))))
theorem Re : A2 Tryz.prog gl 23 spFeedR:=by
 refine El (gh:=[(3,[.vecb 7 17 5])]) mixed C3 (Af Rk (Be Ajw (Be Afo (Be Aa2 (Be Ac6 Av))))) Tryz.func23 (by kernel_rfl) (by kernel_rfl) ?_
 intro xs ls K h
 unfold spFeedR at h
 obtain ⟨s,x,b,nb,n,f,rfl,rfl,V,O,hm,R,hb,hnb,h⟩:=h
 obtain ⟨k,hk⟩ : ∃ k,k = Ag s b:=⟨_,rfl⟩
 have h:=h k hk
 have hrow:=rs_fin (x:=x) O k hk
 obtain ⟨r,hr1,hr2,hK⟩ : ∃ r,(k.2.2≠0->r = .tup [rsA x,.int .i64 (.a 0),.int .i64 (.a k.2.2)])/\(k.2.2 = 0->∃ y,r = .tup [rsA y,.int .i64 (.a (k.2.1 : Int)),.int .i64 (.a 0)]/\RsV k.1 y/\RsN s k.1 y x)/\K r []:=by
  by_cases e0 : k.2.2 = 0
  ·obtain ⟨y,W,N⟩:=hrow e0
   exact ⟨_,fun h=>absurd e0 h,fun _=>⟨y,rfl,W,N⟩,h.2 e0 y _ W N rfl⟩
  ·exact ⟨_,fun _=>rfl,fun h=>absurd h e0,h.1 e0⟩
 have VN : VI n b.length:=⟨R.n⟩
 have HB : LeN b.length 1000000:=⟨hb⟩
 refine ⟨_,_,hK,fun D hD=>?_⟩
 clear hK h hrow hb
 obtain ⟨x0,hx0⟩ : ∃ x0,x0 = x:=⟨_,rfl⟩
 obtain ⟨m,ph,inf,ln,mi,st,re,fb,fl,ff,fr,bo,lf,cp,cl,cd,cf,cb,ct,ctf⟩:=x
 unfold rsA
 cbv
 refine ⟨s,RsC.nm D ⟨m,ph,inf,ln,mi,st,re,fb,fl,ff,fr,bo,lf,cp,cl,cd,cf,cb,ct,ctf⟩,rfl,rfl,by subst hD; exact V,O,hm,?_⟩
 cbv
 refine br hD (fun hb=>?_) (fun hb=>?_)<;>cbv
 ·exfalso
  have hb : (!true) = true:=by subst hD; exact hb
  cases hb
 clear hb
 obtain ⟨J,hJ⟩ : ∃ J,J = fdJ s x0 b nb n f:=⟨_,rfl⟩
 refine ⟨[1,2,4,7],J,⟨rfl,b.length,?_⟩,?_⟩
 ·rw [hJ]
  subst hD hx0
  refine ⟨s,⟨m,ph,inf,ln,mi,st,re,fb,fl,ff,fr,bo,lf,cp,cl,cd,cf,cb,ct,ctf⟩,0,nb,n,f,_,_,_,_,rfl,rfl,⟨J5.zero b O,V,⟨?_,?_⟩,rfl,R,hnb,fun h=>h,fun _=>rfl⟩,rfl⟩
  ·rw [if_neg (fun h=>h.1 h.2)]
  ·unfold tnF; rw [if_neg (fun h=>h.2 h.1)]
 intro m3 vs hp hv
 rw [hJ] at hv
 obtain ⟨st,y,i,nb1,n1,f1,nn,nl,g,nf,e1,e2,B,hm3⟩:=hv
 subst e1
 cbv at e2
 subst e2
 cbv
 refine br hD (fun hb=>?_) (fun hb=>?_)<;>cbv
 ·have hb : (decide (0 < n1) && (y.ph != 2)) = true:=by subst hD; exact hb
  rw [Bool.and_eq_true,decide_eq_true_eq,bne_iff_ne] at hb
  obtain ⟨hb1,hb2⟩:=hb
  have hph : y.ph = st.phase:=B.v.ph
  have h2 : st.phase≠2:=by rw [<-hph]; exact hb2
  have hmm : st.method.length<=9223372036854775807:=by rw [B.met]; exact hm
  have HBI : LeN (b.drop i).length 1000000:=⟨by rw [List.length_drop]; have:=HB.h; omega⟩
  have hne0 : b.drop i≠[]:=by
   intro e
   have:=B.row.n
   rw [e] at this
   simp at this
   omega
  refine br hD (fun hb=>?_) (fun hb=>?_)<;>cbv
  ·have hb : (y.ph == 1) = true:=by subst hD; exact hb
   have hp1 : st.phase = 1:=by rw [<-hph]; exact eq_of_beq hb
   have hkd:=Ls st.method st.head
   have hfk:=(B.g.ok.p1 (by omega)).2.2.2.2.2.1
   rw [hfk] at hkd
   have hfr : y.fr = st.framing:=B.v.fr
   have hne1 : st.framing≠0:=fun h=>h2 (B.g.ok.f0 (by omega) h).1
   have hbo : y.bo = st.body:=B.v.bo
   have hlf : y.lf = st.left:=B.v.lf
   clear hb hfk
   refine ⟨⟨by
    have h1 : y.fr∈[(1 : Int),2,3]:=by
     rw [hfr]
     simp only [List.mem_cons,List.mem_nil_iff,or_false]
     omega
    subst hD; exact h1⟩,fun hj1=>?_,fun hj2=>?_,fun hj3=>?_,trivial⟩<;>cbv
   ·have hf1 : st.framing = 1:=by
     have h1 : D.i (.a y.fr) = st.framing:=by subst hD; exact hfr
     rw [<-h1]; exact hj1.h
    obtain ⟨q1,q2⟩:=Adw B.g.ok hp1 hf1
    obtain ⟨kk,hkk⟩ : ∃ kk : Nat,(kk : Int) = min st.left ((b.drop i).length : Int):=⟨(min st.left ((b.drop i).length : Int)).toNat,by omega⟩
    obtain ⟨G,hone⟩:=Acr B.g.ok hp1 hf1 hkk
    have hbl : y.bo.length<=1000000:=by rw [hbo]; omega
    have hl0 : 0<=y.lf/\y.lf<=1000000:=by rw [hlf]; omega
    have hk2 : (kk : Int) = min y.lf ((b.drop i).length : Int):=by rw [hlf]; exact hkk
    have EK : EqI (kk : Int) (min y.lf ((b.drop i).length : Int)):=⟨hk2⟩
    have HL0 : BdI 0 y.lf 1000000:=⟨hl0.1,hl0.2⟩
    have HBL : LeN y.bo.length 1000000:=⟨hbl⟩
    clear hk2 hl0 hbl hkk q1 q2 hj1
    refine ⟨RsC.nm D y,b.drop i,kk,D.b (.a nb1),D.i (.a n1),f1,D.b (.a nn),D.i (.a nl),D.i (.a g),nf,rfl,rfl,by subst hD; exact EK.h,by subst hD; exact B.row,HBI.h,HBL.h,by subst hD; exact HL0.lo,by subst hD; exact HL0.hi,fun ph' bo' lf' n' f' hph' hbo' hlf' R'=>?_⟩
    cbv
    refine br hD (fun hb=>?_) (fun hb=>?_)<;>cbv
    ·exfalso
     have hb : ((0 : Int) != 0) = true:=by subst hD; exact hb
     cases hb
    clear hb
    have hB2:=B.next h2 (y':={ y with ph:=ph',bo:=bo',lf:=lf' }) (nb':=nb1) G ?_ ?_ rfl R' ?_ ?_
    ·refine ⟨_,by rw [hm3]; exact B.less hb1 (hone hne0),?_⟩
     rw [hJ]
     subst hD
     exact ⟨_,_,_,nb1,n',f',nn,nl,g,nf,rfl,rfl,hB2,rfl⟩
    ·obtain ⟨a1,a2,a3,a4,a5,a6,a7,a8,a9,a10,a11,a12,a13,a14⟩:=B.v
     refine ⟨a1,?_,a3,a4,a5,a6,a7,a8,a9,?_,?_,a12,a13,a14⟩
     ·subst hD
      have h1 : ph' = if y.lf - (kk : Int) = 0 then 2 else y.ph:=hph'
      show ph' = if st.left - (kk : Int) = 0 then 2 else 1
      rw [h1,hlf,hph,hp1]
     ·show bo' = st.body ++ (b.drop i).take kk
      rw [hbo',<-hbo]; rfl
     ·subst hD
      have h1 : lf' = y.lf - (kk : Int):=hlf'
      show lf' = st.left - (kk : Int)
      rw [h1,hlf]
    ·refine Aec B.nn (by omega) ?_ rfl rfl rfl rfl
     show (if st.left - (kk : Int) = 0 then (2 : Int) else 1)≠0
     split<;>decide
    ·exact fun h=>by rw [B.nl h]; exact List.drop_nil
    ·intro h
     exfalso
     revert h
     show (if st.left - (kk : Int) = 0 then (2 : Int) else 1) = 0->False
     split<;>decide
   ·have hf2 : st.framing = 2:=by
     have h1 : D.i (.a y.fr) = st.framing:=by subst hD; exact hfr
     rw [<-h1]; exact hj2.h
    obtain ⟨c1,c2,c3⟩:=B.g.ok.f2 (by omega) hf2
    obtain ⟨G,hge⟩:=Xq (b:=b.drop i) B.g.ok hp1 hf2
    have h4 : st.chunks.phase≠4:=fun h=>h2 (c3.2 h)
    clear hj2
    refine ⟨RsC.nm D y,st.chunks,b.drop i,D.b (.a nb1),D.i (.a n1),f1,D.b (.a nn),D.i (.a nl),D.i (.a g),nf,rfl,rfl,B.v.cl,B.v.cd,by subst hD; exact B.v.cv,c2,fun h=>absurd h h4,by subst hD; exact B.row,HBI.h,fun k1 hk1=>⟨fun hne=>?_,fun h0 ph' cp' cf' cb' ct' ctf' n' f' W hcb hph' R'=>?_⟩⟩<;>cbv
    ·have hke : k.2.2 = k1.2.2:=by rw [hk]; exact B.g.err (by rw [hk1]; exact hge (by rw [<-hk1]; exact hne))
     obtain ⟨e1,he1⟩ : ∃ e1,e1 = k1.2.2:=⟨_,rfl⟩
     rw [<-he1] at hne hke
     refine br hD (fun hb=>?_) (fun hb=>?_)<;>cbv
     ·rw [hr1 (by rw [hke]; exact hne),hke]
      subst hD hx0
      exact Gg (.tup (.cons (LeV.refl _) (.cons (Al rfl) (.cons (Al (by exact he1.symm)) .nil))))
     ·exfalso
      have hb : (k1.2.2 != 0) = false:=by subst hD; exact hb
      rw [<-he1] at hb
      exact hne (by simpa using hb)
    ·have G:=G (by rw [<-hk1]; exact h0)
     rw [<-hk1] at G
     refine br hD (fun hb=>?_) (fun hb=>?_)<;>cbv
     ·exfalso
      have hb : ((0 : Int) != 0) = true:=by subst hD; exact hb
      cases hb
     clear hb
     have hcb2 : cb' = tnF st.chunks k1.1 y.cb:=by subst hD; exact hcb
     have hph2 : ph' = if k1.1.phase = 4 then 2 else y.ph:=by subst hD; exact hph'
     have hone : 1<=k1.2.1:=by
      rw [hk1]
      cases hbd : b.drop i with
      | nil=>exact absurd hbd hne0
      | cons c r =>
       rw [hk1,hbd] at h0
       rw [C7 h4] at h0 ⊢
       by_cases e2 : (chS st.chunks c).2 = 0
       ·rw [if_neg (by simpa using e2)]; exact Nat.succ_le_succ (Nat.zero_le _)
       ·rw [if_pos e2] at h0; exact absurd h0 e2
     have hB2:=B.next h2 (y':={ y with ph:=ph',cp:=cp',cl:=k1.1.line,cd:=k1.1.data,cf:=cf',cb:=cb',ct:=ct',ctf:=ctf' }) (nb':=nb1) G ?_ ?_ rfl R' ?_ ?_
     ·refine ⟨_,by rw [hm3]; exact B.less hb1 hone,?_⟩
      rw [hJ]
      subst hD
      exact ⟨_,_,_,nb1,n',f',nn,nl,g,nf,rfl,rfl,hB2,rfl⟩
     ·obtain ⟨a1,a2,a3,a4,a5,a6,a7,a8,a9,a10,a11,a12,a13,a14⟩:=B.v
      refine ⟨a1,?_,a3,a4,a5,a6,a7,a8,a9,a10,a11,rfl,rfl,W⟩
      show ph' = if k1.1.phase = 4 then 2 else 1
      rw [hph2,hph,hp1]
     ·refine Ai4 B.nn (by omega) ?_ rfl (Aa1 O fun h=>h2 (by rw [B.p2 h]; exact h)) h4 rfl hcb2
      show (if k1.1.phase = 4 then (2 : Int) else 1)≠0
      split<;>decide
     ·exact fun h=>by rw [B.nl h]; exact List.drop_nil
     ·intro h
      exfalso
      revert h
      show (if k1.1.phase = 4 then (2 : Int) else 1) = 0->False
      split<;>decide
   ·have hf3 : st.framing = 3:=by
     have h1 : D.i (.a y.fr) = st.framing:=by subst hD; exact hfr
     rw [<-h1]; exact hj3.h
    have hbl:=B.g.ok.f3 (by omega) hf3
    obtain ⟨G,hge⟩:=Aac (b:=b.drop i) B.g.ok hp1 hf3
    have HBL : LeN y.bo.length 65536:=⟨by rw [hbo]; exact hbl⟩
    have HBO : EqNN y.bo.length st.body.length:=⟨by rw [hbo]⟩
    clear hbl hj3
    refine ⟨RsC.nm D y,b.drop i,D.b (.a nb1),D.i (.a n1),f1,D.b (.a nn),D.i (.a nl),D.i (.a g),nf,rfl,rfl,by subst hD; exact B.row,HBI.h,by have:=HBL.h; show y.bo.length<=_; omega,fun hbig=>?_,fun hsm bo' n' f' hbo' R'=>?_⟩<;>cbv
    ·have hke : k.2.2 = 3:=by rw [hk]; exact B.g.err (hge (by rw [<-HBO.h]; exact hbig))
     refine br hD (fun hb=>?_) (fun hb=>?_)<;>cbv
     ·rw [hr1 (by rw [hke]; decide),hke]
      subst hD hx0
      exact Gg (.tup (.cons (LeV.refl _) (.cons (Al rfl) (.cons (Al rfl) .nil))))
     ·exfalso
      have hb : ((3 : Int) != 0) = false:=by subst hD; exact hb
      cases hb
    ·have G:=G (by rw [<-HBO.h]; exact hsm)
     refine br hD (fun hb=>?_) (fun hb=>?_)<;>cbv
     ·exfalso
      have hb : ((0 : Int) != 0) = true:=by subst hD; exact hb
      cases hb
     clear hb
     have hB2:=B.next h2 (y':={ y with bo:=bo' }) (nb':=nb1) G ?_ ?_ rfl (by rw [List.drop_length]; exact R') ?_ ?_
     ·refine ⟨_,by rw [hm3]; exact B.less hb1 (List.length_pos_iff.2 hne0),?_⟩
      rw [hJ]
      subst hD
      exact ⟨_,_,_,nb1,n',f',nn,nl,g,nf,rfl,rfl,hB2,rfl⟩
     ·obtain ⟨a1,a2,a3,a4,a5,a6,a7,a8,a9,a10,a11,a12,a13,a14⟩:=B.v
      refine ⟨a1,a2,a3,a4,a5,a6,a7,a8,a9,?_,a11,a12,a13,a14⟩
      show bo' = st.body ++ b.drop i
      rw [hbo',<-hbo]; rfl
     ·exact Aec B.nn (by omega) (by show st.phase≠0; omega) rfl rfl rfl rfl
     ·exact fun _=>List.drop_length
     ·exact fun h=>h
  ·have hb : (y.ph == 1) = false:=by subst hD; exact hb
   have hp0 : st.phase = 0:=by
    have h1 : st.phase≠1:=by rw [<-hph]; simpa using hb
    have:=B.g.ok.ph
    omega
   clear hb
   refine ⟨st,RsC.nm D y,b.drop i,D.b (.a nb1),D.i (.a n1),f1,D.b (.a nn),D.i (.a nl),D.i (.a g),nf,rfl,rfl,by subst hD; exact B.v,B.g.ok,hp0,hmm,by subst hD; exact B.row,HBI.h,by subst hD; exact B.nl,fun k1 q1 hk1 hq1=>⟨fun hne=>?_,fun h0 y1 nb' n' f' nl' nf' V' N' hnb' R' R''=>?_⟩⟩<;>cbv
   ·have hke : k.2.2 = k1.2.2:=by rw [hk]; exact B.g.err (by rw [hk1]; exact (Aab _ _ hp0).1 (by rw [<-hk1]; exact hne))
    obtain ⟨e1,he1⟩ : ∃ e1,e1 = k1.2.2:=⟨_,rfl⟩
    rw [<-he1] at hne hke
    refine br hD (fun hb=>?_) (fun hb=>?_)<;>cbv
    ·rw [hr1 (by rw [hke]; exact hne),hke]
     subst hD hx0
     exact Gg (.tup (.cons (LeV.refl _) (.cons (Al rfl) (.cons (Al (by exact he1.symm)) .nil))))
    ·exfalso
     have hb : (k1.2.2 != 0) = false:=by subst hD; exact hb
     rw [<-he1] at hb
     exact hne (by simpa using hb)
   ·have G:=Acs B.g.ok hp0 (by rw [<-hk1]; exact h0)
    have hd:=(Aab (b.drop i) st hp0).2 (by rw [<-hk1]; exact h0)
    have hch:=Nm (b.drop i) st hp0
    rw [<-hk1] at G hd hch
    refine br hD (fun hb=>?_) (fun hb=>?_)<;>cbv
    ·exfalso
     have hb : ((0 : Int) != 0) = true:=by subst hD; exact hb
     cases hb
    clear hb
    have N2 : RsN st k1.1 y1 y:=by subst hD; exact N'
    have hB2:=B.next h2 (y':=y1) (nb':=nb') G V' (Ai3 B.nn N2 hp0 (B.p0 hp0) hch.1) hch.2 R' ?_ ?_
    ·refine ⟨_,by rw [hm3]; exact B.less hb1 (hd.one hne0),?_⟩
     rw [hJ]
     subst hD
     exact ⟨_,_,_,nb',n',f',_,nl',_,nf',rfl,rfl,hB2,rfl⟩
    ·intro h
     by_cases h7 : k1.1.phase = 0
     ·rw [hd.all h7,List.drop_length]
     ·rw [if_neg h7] at hnb'
      have hnb2 : nb' = nb1:=by subst hD; exact hnb'
      rw [B.nl (by rw [<-hnb2]; exact h)]; exact List.drop_nil
    ·exact fun _=>hp0
 ·have hb : (decide (0 < n1) && (y.ph != 2)) = false:=by subst hD; exact hb
  have hph : y.ph = st.phase:=B.v.ph
  have hrow:=B.row.n
  have hfin : Ag s b = (st,i,0):=B.g.fin (by
   rw [Bool.and_eq_false_iff,decide_eq_false_iff_not,bne_eq_false_iff_eq] at hb
   rcases hb with h | h
   ·right
    exact List.eq_nil_of_length_eq_zero (by omega)
   ·left; rw [<-hph]; exact h)
  rw [<-hk] at hfin
  obtain ⟨y2,rfl,W,N⟩:=hr2 (by rw [hfin])
  rw [hfin] at W N ⊢
  have e1 : y.fb = y2.fb:=by rw [B.nn.f,hx0]; exact N.f.symm
  have e2 : y.cb = y2.cb:=by rw [B.nn.c,hx0]; exact N.c.symm
  have hu : IntKind.i64.wrap (n - n1) = (i : Int):=by
   have h1:=VN.h
   have h3:=B.g.le
   have h4:=HB.h
   rw [List.length_drop] at hrow
   rw [h1,hrow,Bk (by omega) (by omega)]
   omega
  subst hD
  exact finFeed B.v W e1 e2 (by exact hu) rfl
end Go.Proofs.YtdoogdbjiijifaaGreatDoor
namespace Go.Proofs.YtdoogdbjiijifaaGreatDoor
open Go Go.Sx
set_option maxRecDepth 100000
set_option maxHeartbeats 8000000
def H3 : List UInt8:=[71,69,84]
def lenH (l : List (List UInt8)) : RsH:=⟨1,200,[],l.map fun v=>⟨sCL,v⟩⟩
def Agk (l : List (List UInt8)) : Int:=if (Au H3 (lenH l)).2.2 = 6 then -1 else (Au H3 (lenH l)).2.1
def spLen9 : FSpec:=fun _ xs ls K=>∃ (l : List (List UInt8)) (nl : Bool) (n : Int) (f : Nat->List SV),xs = [.sl (.a nl) (.a n) 1 f]/\ls = []/\Cc f n l/\l.length<=10/\(∀ v∈l,v.length<=100)/\∀ r,r = Agk l->K (.int .i64 (.a r)) []
structure Ln9J (l : List (List UInt8)) (i : Nat) (I : Int) (m : Nat) (b : Bool) (n : Int) (f : Nat->List SV) : Prop where
 at_ : AtR l i I m
 g : GrH f n b ((l.take i).map fun v=>⟨sCL,v⟩)
def ln9J (l : List (List UInt8)) (nl : Bool) (n : Int) (f : Nat->List SV) (m : Nat) (vs : List (Option SV)) (hp : List Hl) : Prop :=
 ∃ (i : Nat) (I : Int) (b : Bool) (n2 : Int) (f2 : Nat->List SV),vs = [some (.sl (.a nl) (.a n) 1 f),some (.ptr 0 0),some (.int .i64 (.a I))]/\
  hp = [.blk 25 [.int .i64 (.a 1),.int .i64 (.a 200),.str [],.gsl (.a b) (.a n2) 2 f2 1],.tail 100 (.a n2) 2]/\Ln9J l i I m b n2 f2
theorem Agj : A2 Tryz.prog gl 52 spLen9:=by
 refine C9 (gh:=[(1,[.hold 3 3 100])]) mixed C3 (Af Md Av) Tryz.func52 (by kernel_rfl) (by kernel_rfl) ?_
 intro xs ls K h
 unfold spLen9 at h
 obtain ⟨l,nl,n,f,rfl,rfl,R,hl,hv,h⟩:=h
 obtain ⟨k,hk⟩ : ∃ k,k = Agk l:=⟨_,rfl⟩
 refine ⟨_,_,h k hk,fun D hD=>?_⟩
 clear h
 have HL : LeN l.length 10:=⟨hl⟩
 have VN : VI n l.length:=⟨R.n⟩
 cbv
 obtain ⟨J,hJ⟩ : ∃ J,J = ln9J l nl n f:=⟨_,rfl⟩
 refine ⟨[0,3,4],J,⟨rfl,l.length,?_⟩,?_⟩
 ·rw [hJ]
  subst hD
  exact ⟨0,0,_,_,_,rfl,rfl,⟨AtR.zero (by omega),GrH.nil⟩⟩
 clear hl
 intro m vs hp hj
 rw [hJ] at hj
 obtain ⟨i,I,b,n2,f2,rfl,rfl,B⟩:=hj
 cbv
 refine br hD (fun hb=>?_) (fun hb=>?_)<;>cbv
 ·have hlt:=B.at_.lt R.n (of_decide_eq_true (p:=I < n) hb)
  clear hb
  have hx:=hv (l.getD i []) (by rw [List.getD_eq_getElem?_getD,List.getElem?_eq_getElem hlt]; exact List.getElem_mem hlt)
  have e1:=R.f i hlt
  obtain ⟨w,hw⟩ : ∃ w,w = l.getD i []:=⟨_,rfl⟩
  rw [<-hw] at e1 hx
  have HX : LeN w.length 100:=⟨hx⟩
  have hst:=B.at_.step hD hlt
  have VO : VI n2 i:=⟨by have:=B.g.row.n; rw [List.length_map,List.length_take] at this; omega⟩
  have HI : LeN i 10:=⟨by have:=HL.h; omega⟩
  clear hx
  refine ⟨B.at_.inB hD R.n hlt,fun j hj=>?_⟩
  cbv
  obtain rfl:=B.at_.j hD hj
  clear hj
  rw [e1]
  cbv
  intro g hg
  cbv
  have hg0 : g 0 = Ee ⟨sCL,w⟩:=hg.h 0 _ rfl
  clear hg
  refine ⟨by subst hD; exact ⟨rfl,by show (n2 + 1) * 32<=_; rw [VO.h]; have:=HI.h; omega,by show n2 + 1<=_; rw [VO.h]; have:=HI.h; omega⟩,fun f' n' hm=>?_⟩
  cbv
  have G2 : ∀ nl',nl' = false->GrH f' n' nl' (((l.take j).map fun v=>(⟨sCL,v⟩ : HF)) ++ [⟨sCL,w⟩]):=fun nl' hb=>B.g.more hg0 ⟨by show sCL.length<=_; decide,by have:=HX.h; show w.length<=_; omega⟩ (by subst hD; exact hm) (by rw [List.length_map,List.length_take]; have:=HI.h; omega) hb
  clear hm
  refine ⟨_,hst.1,?_⟩
  rw [hJ]
  subst hD
  refine ⟨j + 1,_,(b && false),n',f',rfl,rfl,⟨hst.2,?_⟩⟩
  have e : l.take (j + 1) = l.take j ++ [w]:=by
   rw [List.take_add_one,List.getElem?_eq_getElem hlt,hw,List.getD_eq_getElem?_getD,List.getElem?_eq_getElem hlt]; rfl
  rw [e,List.map_append]
  exact G2 _ (Bool.and_false _)
 ·have hi:=B.at_.eq R.n (of_decide_eq_false (p:=I < n) hb)
  clear hb
  have G:=B.g
  rw [hi,List.take_length] at G
  refine ⟨H3,lenH l,_,_,_,_,_,f2,rfl,rfl,by subst hD; exact ⟨rfl,rfl,G.row⟩,by decide,fun a c e hf=>?_⟩
  cbv
  unfold Agk at hk
  rw [<-hf] at hk
  simp only at hk
  refine br hD (fun hb=>?_) (fun hb=>?_)<;>cbv
  ·have hb : (e == 6) = true:=by subst hD; exact hb
   rw [if_pos (eq_of_beq hb)] at hk
   exact Bv hD hk.symm
  ·have hb : (e == 6) = false:=by subst hD; exact hb
   rw [if_neg (by simpa using hb)] at hk
   exact Bv hD hk.symm
end Go.Proofs.YtdoogdbjiijifaaGreatDoor
namespace Go.Proofs.YtdoogdbjiijifaaGreatDoor
open Go Go.Sx
set_option maxRecDepth 100000
set_option maxHeartbeats 8000000
def Akb : List UInt8:=[72,84,84,80,47,49,46,49,32,50,48,48,32,79,75,13,10,67,111,110,116,101,110,116,45,76,101,110,103,116,104,58,32,50,13,10,13,10,97,98,99]
def exB9 : List UInt8:=[72,84,84,80,47,49,46,49,32,49,48,48,32,67,111,110,116,105,110,117,101,13,10,13,10,72,84,84,80,47,49,46,49,32,50,48,48,32,79,75,13,10,67,111,110,116,101,110,116,45,76,101,110,103,116,104,58,32,50,13,10,13,10,97,98,99]
def exC9 : List UInt8:=[72,84,84,80,47,49,46,48,32,50,48,48,32,79,75,13,10,13,10,97,98]
def exH9 : RsH:=⟨1,200,[79,75],[⟨sCL,[50]⟩]⟩
def exG9 : RsH:=⟨0,200,[79,75],[]⟩
def Ac0 (i : Int) : Rs:=⟨H3,2,i,[],exH9,1,[97,98],0,ch0⟩
def exRh : Rs:=⟨Pr,2,0,[],exH9,0,[],0,ch0⟩
def X0 (p : Int) : Rs:=⟨H3,p,0,[],exG9,3,[97,98],0,ch0⟩
theorem Xz : Ag (rs0 H3) Akb = (Ac0 0,40,0):=by kernel_rfl
theorem Xy : Ag (rs0 H3) exB9 = (Ac0 1,65,0):=by kernel_rfl
theorem ex_runH : Ag (rs0 Pr) Akb = (exRh,38,0):=by kernel_rfl
theorem Xx : Ag (rs0 H3) exC9 = (X0 1,21,0):=by kernel_rfl
theorem Aaj : Aei exH9 1 = true:=by kernel_rfl
theorem Aka : Aei exG9 3 = false:=by kernel_rfl
theorem ex_len1 : Agk [[50,44,32,50]] = 2:=by kernel_rfl
theorem ex_len2 : Agk [[50,44,32,51]] = -1:=by kernel_rfl
theorem ex_len3 : Agk [[48,50],[50]] = 2:=by kernel_rfl
theorem Gi : Bj H3 = true:=by kernel_rfl
theorem Aeu : Bj Pr = true:=by kernel_rfl
end Go.Proofs.YtdoogdbjiijifaaGreatDoor
namespace Go.Proofs.YtdoogdbjiijifaaGreatDoor
open Go Go.Sx
set_option maxRecDepth 100000
set_option maxHeartbeats 16000000
def spT : FSpec:=fun _ xs ls K=>xs = []/\ls = []/\K (.bool (.a true)) []
theorem A7.of {f : Nat->List SV} {n : Int} {s : List UInt8} (h : Afb f s) (hn : n = s.length) : A7 f n s:=by
 refine ⟨hn,fun i hi=>?_⟩
 rw [h.h]
 rfl
theorem A7.built {g : Nat->List SV} {n : Int} {t : List UInt8} (h : Uk g (t.map fun b=>[.int .u8 (.a (b.toNat : Int))])) (hn : n = t.length) : A7 g n t:=by
 refine ⟨hn,fun i hi=>h.h i _ ?_⟩
 rw [List.getElem?_map,List.getElem?_eq_getElem hi,List.getD_eq_getElem?_getD,List.getElem?_eq_getElem hi]
 rfl
theorem Cc.built {g : Nat->List SV} {n : Int} {l : List (List UInt8)} (h : Uk g (l.map fun v=>[.str v])) (hn : n = l.length) (hl : l.length<=9223372036854775807) : Cc g n l:=by
 refine ⟨hn,fun i hi=>?_,hl⟩
 refine (h.h i _ ?_)
 rw [List.getElem?_map,List.getElem?_eq_getElem hi,List.getD_eq_getElem?_getD,List.getElem?_eq_getElem hi]
 rfl
theorem Aj9 (i : Int) (h : i = 0\/i = 1) : Da (Ac0 i):=by
 rcases h with rfl | rfl
 ·have:=Ih Akb _ (I8 Gi) (by rw [Xz])
  rwa [Xz] at this
 ·have:=Ih exB9 _ (I8 Gi) (by rw [Xy])
  rwa [Xy] at this
theorem Aj8 : Da (X0 1):=by
 have:=Ih exC9 _ (I8 Gi) (by rw [Xx])
 rwa [Xx] at this
theorem ex_okC2 : Da (X0 2):=(endR_ok (t:=X0 2) Aj8 rfl).1
structure ExA (y : RsC) (i u : Int) (U : Int) : Prop where
 bo : y.bo = [97,98]
 inf : y.inf = i
 u : u = U
theorem Afp : A2 Tryz.prog gl 16 spT:=by
 refine C9 (gh:=[(999985,[]),(7000009,[]),(999986,[.freeze 3])]) mixed C3 (Af Yp (Be (Aes Re (Qf Re)) (Af Ake (Af Adx (Af Agj Av))))) Tryz.func16 (by kernel_rfl) (by kernel_rfl) ?_
 intro xs ls K h
 unfold spT at h
 obtain ⟨rfl,rfl,h⟩:=h
 refine ⟨_,_,h,fun D hD=>?_⟩
 clear h
 cbv
 refine ⟨H3,rfl,rfl,by decide,fun y e hy he=>?_⟩
 rw [if_pos Gi] at hy he
 subst hy he
 cbv
 refine ⟨⟨by decide⟩,fun f1 h1=>?_⟩
 cbv
 refine .inl ⟨rs0 H3,RsC.nm D (Ur H3),Akb,_,_,f1,rfl,rfl,by subst hD; exact Y6 H3,I8 Gi,by decide,by subst hD; exact A7.of h1 rfl,by decide,fun h=>(by subst hD; cases h),fun k hk=>?_⟩
 obtain rfl : k = (Ac0 0,40,0):=hk.trans Xz
 clear hk h1
 refine ⟨fun hne=>?_,fun _ y2 u2 V2 N2 hu2=>?_⟩<;>cbv
 ·exact absurd rfl hne
 have E2 : ExA y2 0 u2 40:=⟨V2.bo,V2.inf,hu2⟩
 clear hu2 N2
 refine ⟨Ac0 0,RsC.nm D y2,rfl,rfl,by subst hD; exact V2,Aj9 0 (.inl rfl),by decide,fun hne=>?_,fun _ bo cb ct ctf kp hkp _ hc2=>?_⟩
 ·cbv
  exact absurd rfl hne
 obtain ⟨rfl,rfl,rfl,rfl⟩:=hc2 (by decide)
 obtain rfl : kp = true:=hkp.trans Aaj
 clear hkp hc2
 cbv
 refine br hD (fun hb=>?_) (fun hb=>?_)<;>cbv
 ·exfalso
  have hb : ((((((((0 : Int) != 0) || ((0 : Int) != 0)) || ((0 : Int) != 0)) || (u2 != 40)) || !(y2.bo == [97,98])) || !true) || (y2.inf != 0)) = true:=by subst hD; exact hb
  rw [E2.u,E2.bo,E2.inf] at hb
  revert hb; decide
 clear hb
 refine ⟨⟨by decide⟩,fun t2 ht2=>?_⟩
 cbv
 have ht2 : t2 = exB9:=ht2.h
 subst ht2
 refine ⟨H3,rfl,rfl,by decide,fun y e hy he=>?_⟩
 rw [if_pos Gi] at hy he
 subst hy he
 cbv
 refine ⟨⟨by decide⟩,fun f3 h3=>?_⟩
 cbv
 refine .inl ⟨rs0 H3,RsC.nm D (Ur H3),exB9,_,_,f3,rfl,rfl,by subst hD; exact Y6 H3,I8 Gi,by decide,by subst hD; exact A7.of h3 rfl,by decide,fun h=>(by subst hD; cases h),fun k hk=>?_⟩
 obtain rfl : k = (Ac0 1,65,0):=hk.trans Xy
 clear hk h3
 refine ⟨fun hne=>?_,fun _ y3 u3 V3 N3 hu3=>?_⟩<;>cbv
 ·exact absurd rfl hne
 have E3 : ExA y3 1 u3 65:=⟨V3.bo,V3.inf,hu3⟩
 clear hu3 N3
 refine ⟨Ac0 1,RsC.nm D y3,rfl,rfl,by subst hD; exact V3,Aj9 1 (.inr rfl),by decide,fun hne=>?_,fun _ bo cb ct ctf kp hkp _ hc2=>?_⟩
 ·cbv
  exact absurd rfl hne
 obtain ⟨rfl,rfl,rfl,rfl⟩:=hc2 (by decide)
 obtain rfl : kp = true:=hkp.trans Aaj
 clear hkp hc2
 cbv
 refine br hD (fun hb=>?_) (fun hb=>?_)<;>cbv
 ·exfalso
  have hb : ((((((((0 : Int) != 0) || ((0 : Int) != 0)) || ((0 : Int) != 0)) || (u3 != 65)) || !(y3.bo == [97,98])) || !true) || (y3.inf != 1)) = true:=by subst hD; exact hb
  rw [E3.u,E3.bo,E3.inf] at hb
  revert hb; decide
 clear hb
 refine ⟨⟨by decide⟩,fun t4 ht4=>?_⟩
 cbv
 clear ht4
 refine ⟨Pr,rfl,rfl,by decide,fun y e hy he=>?_⟩
 rw [if_pos Aeu] at hy he
 subst hy he
 cbv
 intro g1 hg1
 cbv
 refine ⟨⟨rfl⟩,.inr ⟨_,_,_,_,_,_,_,g1,rfl,rfl,rfl,rfl,rs0 Pr,RsC.nm D (Ur Pr),Akb,_,_,g1,rfl,rfl,by subst hD; exact Y6 Pr,I8 Aeu,by decide,by subst hD; exact A7.built hg1 rfl,by decide,fun h=>(by subst hD; cases h),fun k hk=>?_⟩⟩
 obtain rfl : k = (exRh,38,0):=hk.trans ex_runH
 clear hk hg1
 refine ⟨fun hne=>⟨rfl,?_⟩,fun _ y4 u4 V4 N4 hu4=>⟨rfl,?_⟩⟩<;>cbv
 ·exact absurd rfl hne
 have E4 : EqI u4 38:=⟨hu4⟩
 clear hu4 N4 V4
 refine ⟨H3,rfl,rfl,by decide,fun y e hy he=>?_⟩
 rw [if_pos Gi] at hy he
 subst hy he
 cbv
 intro g2 hg2
 cbv
 refine ⟨⟨rfl⟩,.inr ⟨_,_,_,_,_,_,_,g2,rfl,rfl,rfl,rfl,rs0 H3,RsC.nm D (Ur H3),exC9,_,_,g2,rfl,rfl,by subst hD; exact Y6 H3,I8 Gi,by decide,by subst hD; exact A7.built hg2 rfl,by decide,fun h=>(by subst hD; cases h),fun k hk=>?_⟩⟩
 obtain rfl : k = (X0 1,21,0):=hk.trans Xx
 clear hk hg2
 refine ⟨fun hne=>⟨rfl,?_⟩,fun _ y5 u5 V5 N5 hu5=>⟨rfl,?_⟩⟩<;>cbv
 ·exact absurd rfl hne
 clear hu5 N5
 refine ⟨X0 1,RsC.nm D y5,rfl,rfl,by subst hD; exact V5,Aj8,by decide,fun p e hpe=>?_⟩
 obtain ⟨rfl,rfl⟩ : p = 2/\e = 0:=by
  have h1 : Ag1 (X0 1) = (2,0):=rfl
  rw [h1] at hpe
  exact Prod.mk.inj hpe
 clear hpe
 cbv
 have V6 : RsV (X0 2) { y5 with ph:=2 }:=⟨V5.m,rfl,V5.inf,V5.ln,V5.mi,V5.st,V5.re,V5.fl,V5.fr,V5.bo,V5.lf,V5.cl,V5.cd,V5.cv⟩
 refine ⟨X0 2,RsC.nm D { RsC.nm D y5 with ph:=2 },rfl,rfl,by subst hD; exact V6,ex_okC2,by decide,fun hne=>?_,fun _ bo cb ct ctf kp hkp _ hc2=>?_⟩
 ·cbv
  exact absurd rfl hne
 obtain ⟨rfl,rfl,rfl,rfl⟩:=hc2 (by decide)
 obtain rfl : kp = false:=hkp.trans Aka
 clear hkp hc2
 have E5 : ExA y5 0 u4 38:=⟨V5.bo,V5.inf,E4.h⟩
 cbv
 refine br hD (fun hb=>?_) (fun hb=>?_)<;>cbv
 ·exfalso
  have hb : (((((((u4 != 38) || ((0 : Int) != 0)) || ((0 : Int) != 0)) || ((0 : Int) != 0)) || ((0 : Int) != 0)) || !(y5.bo == [97,98])) || false) = true:=by subst hD; exact hb
  rw [E5.u,E5.bo] at hb
  revert hb; decide
 clear hb
 intro g3 hg3
 cbv
 refine ⟨[[50,44,32,50]],_,_,g3,rfl,rfl,by subst hD; exact Cc.built hg3 rfl (by decide),by decide,by decide,fun r hr=>?_⟩
 cbv
 have R1 : EqI r 2:=⟨hr.trans ex_len1⟩
 clear hr hg3
 refine ⟨fun hg=>?_,fun hg=>?_⟩<;>cbv
 ·intro g4 hg4
  cbv
  refine ⟨[[50,44,32,51]],_,_,g4,rfl,rfl,by subst hD; exact Cc.built hg4 rfl (by decide),by decide,by decide,fun r2 hr=>?_⟩
  cbv
  have R2 : EqI r2 (-1):=⟨hr.trans ex_len2⟩
  clear hr hg4
  refine ⟨fun hg2=>?_,fun hg2=>?_⟩<;>cbv
  ·intro g5 hg5
   cbv
   refine ⟨[[48,50],[50]],_,_,g5,rfl,rfl,by subst hD; exact Cc.built hg5 rfl (by decide),by decide,by decide,fun r3 hr=>?_⟩
   cbv
   have R3 : EqI r3 2:=⟨hr.trans ex_len3⟩
   clear hr hg5
   refine A5 hD ?_
   show (((r == 2) && (r2 == -1)) && (r3 == 2)) = true
   rw [R1.h,R2.h,R3.h]; rfl
  ·exfalso
   have e1 : (r == 2) = true:=by rw [R1.h]; rfl
   have e2 : (r2 == -1) = true:=by rw [R2.h]; rfl
   first
    | (have hg2 : ((r == 2) && ((r == 2) && (r2 == -1))) = false:=(by subst hD; exact hg2); rw [e1,e2] at hg2; cases hg2)
    | (have hg2 : (((r == 2) && (r2 == -1)) && (r == 2)) = false:=(by subst hD; exact hg2); rw [e1,e2] at hg2; cases hg2)
    | (have hg2 : ((r == 2) && (r2 == -1)) = false:=(by subst hD; exact hg2); rw [e1,e2] at hg2; cases hg2)
 ·exfalso
  have hg : (r == 2) = false:=by subst hD; exact hg
  rw [R1.h] at hg
  cases hg
end Go.Proofs.YtdoogdbjiijifaaGreatDoor
