/- Part of the proofs of the statements about responses and messages (layers 9 and 10): a symbolic executor over the code, that it is sound, and contracts of functions; it has no conditions of its own. -/
import Derived.Test.YtdoogdbjiijifaaGreatDoorE3Pbl
namespace Go.Proofs.YtdoogdbjiijifaaGreatDoor
open Go Go.Sx
set_option maxRecDepth 100000
set_option maxHeartbeats 8000000
def phB(k b:Int):Int:=if k=0\/(k=1/\b=0) then 2 else 1
def spBeginR:FSpec:=λ_ xs ls K=>∃(x:RsC) (nb:Bool) (n:Int) (f:Nat->List SV) (nn:Bool) (nl g:Int) (nf:Nat->List SV) (hd:RsH) (mi st:Int) (re:List UInt8) (hb:Bool) (hn:Int) (hf:Nat->List SV),
 xs=[.ptr 0 0,I8 mi st re hb hn hf]/\ls=[.blk 125 (J1 x nb n f nn nl g),.vec 5 (.a nl) (.a g) 1 nf]/\Aez hd mi st hn hf/\x.m.length<=9223372036854775807/\
 ∀a b e,(a,b,e)=Ar x.m hd->(e≠0->K (.int .i64 (.a e)) [.gone,.gone])/\
  (e=0->∀p,p=phB a b->K (.int .i64 (.a 0)) [.blk 125 (J1 { x with ph:=p,mi:=mi,st:=st,re:=re,fb:=hb,fl:=hn,ff:=hf,fr:=a,lf:=b } nb n f nn nl g),.vec 5 (.a nl) (.a g) 1 nf])
theorem Ai8:Ay Tryz.prog gl 135 spBeginR:=by
 refine Ez (gh:=[]) mixed C6 (Ab J6 Ai) Tryz.func135 (by kernel_rfl) (by kernel_rfl) ?_;intro xs ls K h;unfold spBeginR at h;obtain⟨x,nb,n,f,nn,nl,g,nf,hd,mi,st,re,hb,hn,hf,rfl,rfl,V,hm,h⟩:=h;obtain⟨k,hk⟩:∃k,k=Ar x.m hd:=⟨_,rfl⟩;obtain⟨a,b,e⟩:=k;have h:=h a b e hk;obtain⟨p,hp⟩:∃p,p=phB a b:=⟨_,rfl⟩;obtain⟨L,hL1,hL2,hK⟩:∃L:List Hl,(e≠0->L=[.gone,.gone])/\(e=0->L=[.blk 125 (J1 { x with ph:=p,mi:=mi,st:=st,re:=re,fb:=hb,fl:=hn,ff:=hf,fr:=a,lf:=b } nb n f nn nl g),.vec 5 (.a nl) (.a g) 1 nf])/\K (.int .i64 (.a e)) L:=by
  by_cases e0:e=0
  ·refine⟨_,λh=>absurd e0 h,λ_=>rfl,?_⟩
   rw[e0];exact h.2 e0 p hp
  ·exact⟨_,λ_=>rfl,λh=>absurd h e0,h.1 e0⟩
 refine⟨_,_,hK,λD hD=>?_⟩;clear hK h;obtain⟨m,ph,inf,ln,mi0,st0,re0,fb,fl,ff,fr,bo,lf,cp,cl,cd,cf,cb,ct,ctf⟩:=x;unfold I8;simp only at hk hm;cbv;refine⟨m,hd,D.i (.a mi),D.i (.a st),re,D.b (.a hb),D.i (.a hn),hf,rfl,rfl,by subst hD;exact V,hm,λa2 b2 e2 hk2=>?_⟩;cbv;obtain⟨rfl,rfl,rfl⟩:a2=a/\b2=b/\e2=e:=by
  have:=hk2.trans hk.symm;simp only[Prod.mk.injEq]at this;exact this
 clear hk2;refine br hD (λhbr=>?_) (λhbr=>?_)<;>cbv
 ·have hbr:(e2 != 0)=true:=by subst hD;exact hbr
  rw[hL1 (by simpa using hbr)];subst hD;exact Kb rfl
 have e0:e2=0:=by
  have hbr:(e2 != 0)=false:=by subst hD;exact hbr
  simpa using hbr
 clear hbr;refine br hD (λhbr=>?_) (λhbr=>?_)<;>cbv
 ·have hbr:((a2==0)||((a2==1)&&(b2==0)))=true:=by subst hD;exact hbr
  have hp2:p=2:=by
   rw[hp];unfold phB;rw[if_pos (by simpa using hbr)]
  rw[hL2 e0];subst hp2;subst hD;exact⟨Ak (by exact e0.symm),Cz (LeH.cons (Ao (Q5 rfl rfl rfl rfl (LeV.refl _) rfl rfl rfl rfl (LeV.refl _) (LeV.refl _) (LeV.refl _))) (LeH.cons (Ia rfl rfl λ_ _=>rfl) λ_ _ _ _ h=>h)),Nat.le_refl _⟩
 ·have hbr:((a2==0)||((a2==1)&&(b2==0)))=false:=by subst hD;exact hbr
  have hp2:p=1:=by
   rw[hp];unfold phB;rw[if_neg (by
    rw[<-Bool.not_eq_true]at hbr;simpa using hbr)]
  rw[hL2 e0];subst hp2;subst hD;exact⟨Ak (by exact e0.symm),Cz (LeH.cons (Ao (Q5 rfl rfl rfl rfl (LeV.refl _) rfl rfl rfl rfl (LeV.refl _) (LeV.refl _) (LeV.refl _))) (LeH.cons (Ia rfl rfl λ_ _=>rfl) λ_ _ _ _ h=>h)),Nat.le_refl _⟩
set_option maxHeartbeats 1000000
def D4(s:Rs):List UInt8->Rs×Nat×Int
 | []=>(s,0,0)
 |c :: b=>if (rsS s c).2≠0 then (s,0,(rsS s c).2) else if (rsS s c).1.phase≠0 then ((rsS s c).1,1,0) else
  ((D4 (rsS s c).1 b).1,(D4 (rsS s c).1 b).2.1+1,(D4 (rsS s c).1 b).2.2)
def Yw(s:Rs)(nn:Bool)(g:Int):List UInt8->Bool×Int
 | []=>(nn,g)
 |c :: b=>if (An (s.line++[c])).2.2=10 then Yw (rsS s c).1 false (g+1) b else if (rsS s c).1.phase≠0 then (true,g+3) else Yw (rsS s c).1 true (g+3) b
theorem Ta{s:Rs}{b:List UInt8}(h:s.phase=2\/b=[]):A0 s b=(s,0,0):=by
 cases b with
 |nil=>rfl
 |cons c b =>
  rcases h with h|h
  ·rw[A0,if_pos h]
  ·cases h
structure HdRs(s:Rs)(b:List UInt8)(k:Rs×Nat×Int):Prop where
 le:k.2.1<=b.length
 eq:A0 s b=((A0 k.1 (b.drop k.2.1)).1,k.2.1+(A0 k.1 (b.drop k.2.1)).2.1,(A0 k.1 (b.drop k.2.1)).2.2)
 all:k.1.phase=0->k.2.1=b.length
 one:b≠[]->1<=k.2.1
 ok:Du s->Du k.1
theorem Abj:∀(b:List UInt8) (s:Rs),s.phase=0->((D4 s b).2.2≠0->(A0 s b).2.2=(D4 s b).2.2)/\((D4 s b).2.2=0->HdRs s b (D4 s b))
 | [],s,h=>⟨λh=>absurd rfl h,λ_=>⟨Nat.le_refl _,rfl,λ_=>rfl,λh=>absurd rfl h,λh=>h⟩⟩
 |c :: b,s,h=>by
  rw[D4];have hr:A0 s (c :: b)=if (rsS s c).2≠0 then (s,0,(rsS s c).2) else ((A0 (rsS s c).1 b).1,(A0 (rsS s c).1 b).2.1+1,(A0 (rsS s c).1 b).2.2):=by
   rw[A0,if_neg (by omega)]
  by_cases h1:(rsS s c).2=0
  ·rw[if_neg (by simpa using h1)]
   rw[if_neg (by simpa using h1)]at hr;have hok:Du s->Du (rsS s c).1:=λO=>Ya O (by omega) (by rw[<-h1])
   by_cases h2:(rsS s c).1.phase=0
   ·rw[if_neg (by simpa using h2)]
    obtain⟨i1,i2⟩:=Abj b (rsS s c).1 h2;refine⟨λh3=>?_,λh3=>?_⟩
    ·rw[hr];exact i1 h3
    ·obtain⟨j1,j2,j3,j4,j5⟩:=i2 h3
     refine⟨by simp only[List.length_cons];omega,?_,λh4=>by have:=j3 h4;simp only[List.length_cons];omega,λ_=>Nat.succ_le_succ (Nat.zero_le _),λO=>j5 (hok O)⟩;rw[hr,j2];simp only[List.drop_succ_cons];refine Prod.ext rfl (Prod.ext ?_ rfl);show _+_+1=_+1+_;omega
   ·rw[if_pos h2]
    refine⟨λh3=>absurd rfl h3,λ_=>⟨by simp,?_,λh3=>absurd h3 h2,λ_=>Nat.le_refl _,hok⟩⟩;rw[hr];simp only[List.drop_succ_cons,List.drop_zero];refine Prod.ext rfl (Prod.ext ?_ rfl);show _+1=1+_;omega
  ·rw[if_pos h1]
   rw[if_pos h1]at hr;exact⟨λ_=>by rw[hr],λh3=>absurd h3 h1⟩
structure Kt(s:Rs)(b:List UInt8)(st:Rs)(i:Nat):Prop where
 le:i<=b.length
 eq:A0 s b=((A0 st (b.drop i)).1,i+(A0 st (b.drop i)).2.1,(A0 st (b.drop i)).2.2)
 ok:Du st
theorem Kt.zero{s:Rs}(b:List UInt8)(h:Du s):Kt s b s 0:=⟨Nat.zero_le _,by rw[List.drop_zero,Nat.zero_add],h⟩
theorem Kt.trans{s st t:Rs}{b:List UInt8}{i j:Nat}(h:Kt s b st i)(k:Kt st (b.drop i) t j):Kt s b t (i+j):=by
 have h1:=k.le;rw[List.length_drop]at h1;have h2:=h.le;refine⟨by omega,?_,k.ok⟩;rw[h.eq,k.eq,List.drop_drop];refine Prod.ext rfl (Prod.ext ?_ rfl);show i+(j+_)=i+j+_;omega
theorem Kt.err{s st:Rs}{b:List UInt8}{i:Nat}(h:Kt s b st i){e:Int}(k:(A0 st (b.drop i)).2.2=e):(A0 s b).2.2=e:=by rw[h.eq];exact k
theorem Kt.fin{s st:Rs}{b:List UInt8}{i:Nat}(h:Kt s b st i)(k:st.phase=2\/b.drop i=[]):A0 s b=(st,i,0):=by
 rw[h.eq,Ta k];rfl
theorem Aeb{s:Rs}{b:List UInt8}(O:Du s)(h:s.phase=0)(k:(D4 s b).2.2=0):Kt s b (D4 s b).1 (D4 s b).2.1:=by
 have:=(Abj b s h).2 k;exact⟨this.le,this.eq,this.ok O⟩
theorem Yx{s st:Rs}{b:List UInt8}{i:Nat}(O:Du s)(h:A0 s b=(st,i,0))(k:st.phase=2\/i=b.length):Kt s b st i:=by
 have h1:=Akb b s;rw[h]at h1;have h1:i<=b.length:=h1;have h2:=K5 b s O (by rw[h]);rw[h]at h2;have hk:st.phase=2\/b.drop i=[]:=k.imp (λk=>k) (λk=>by rw[k,List.drop_length]);refine⟨h1,?_,h2⟩;rw[h,Ta hk];rfl
theorem Afk{s:Rs}(O:Du s)(h1:s.phase=1)(h2:s.framing=1):1<=s.left/\s.left+(s.body.length:Int)<=65536:=by
 obtain⟨q1,q2,q3,q4⟩:=O.f1 (by omega) h2;have h3:=J7 s.method s.head;have h4:s.left≠0:=λe=>by have:=q4.2 e;omega
 omega
theorem Aea{s:Rs}{b:List UInt8}(O:Du s)(h1:s.phase=1)(h2:s.framing=1){k:Nat}(hk:(k:Int)=min s.left (b.length:Int)):
  Kt s b { s with body:=s.body++b.take k,left:=s.left-(k:Int),phase:=if s.left-(k:Int)=0 then 2 else 1 } k/\(b≠[]->1<=k):=by
 obtain⟨q1,q2⟩:=Afk O h1 h2;have hr:=Ahk b s h1 h2 q1 q2;have e:min s.left.toNat b.length=k:=by omega
 rw[e]at hr;refine⟨Yx O hr ?_,λhb=>?_⟩
 ·show (if s.left-(k:Int)=0 then (2:Int) else 1)=2\/k=b.length
  by_cases e0:s.left-(k:Int)=0
  ·left;rw[if_pos e0]
  ·right;omega
 ·have:1<=b.length:=by
   cases b with
   |nil=>exact absurd rfl hb
   |cons c b=>simp
  omega
theorem Abk{s:Rs}{b:List UInt8}(O:Du s)(h1:s.phase=1)(h2:s.framing=3):(s.body.length+b.length<=65536->Kt s b { s with body:=s.body++b } b.length)/\(65536<s.body.length+b.length->(A0 s b).2.2=3):=by
 obtain⟨q1,q2⟩:=Adf b s h1 h2;exact⟨λh=>Yx O (q1 h) (.inr rfl),λh=>q2 h (O.f3 (by omega) h2)⟩
theorem Xt:∀(b:List UInt8) (s:Ch),(Bi s b).2.2=0->(Bi s b).1.phase≠4->(Bi s b).2.1=b.length
 | [],s,_,_=>rfl
 |c :: b,s,h,h4=>by
  unfold Bi at h h4 ⊢
  by_cases e:s.phase=4
  ·rw[if_pos e]at h4;exact absurd e h4
  rw[if_neg e]at h h4 ⊢
  by_cases e2:(chS s c).2=0
  ·rw[if_neg (by simpa using e2)]at h h4 ⊢
   have:=Xt b (chS s c).1 h h4;simp only[List.length_cons];omega
  ·rw[if_pos e2]at h
   exact absurd h e2
theorem Yy{s:Rs}{b:List UInt8}(O:Du s)(h1:s.phase=1)(h2:s.framing=2):((Bi s.chunks b).2.2=0->Kt s b { s with chunks:=(Bi s.chunks b).1,phase:=if (Bi s.chunks b).1.phase=4 then 2 else 1 } (Bi s.chunks b).2.1)/\((Bi s.chunks b).2.2≠0->(A0 s b).2.2=(Bi s.chunks b).2.2):=by
 obtain⟨f1,f2,f3⟩:=O.f2 (by omega) h2;obtain⟨q1,q2⟩:=Z7 b s h1 h2 (λe=>by have:=f3.2 e;omega);refine⟨λh=>Yx O (q1 h) ?_,q2⟩;show (if (Bi s.chunks b).1.phase=4 then (2:Int) else 1)=2\/(Bi s.chunks b).2.1=b.length
 by_cases e0:(Bi s.chunks b).1.phase=4
 ·left;rw[if_pos e0]
 ·right;exact Xt b _ h e0
theorem Z8{s:Rs}(O:Du s):s.head.fields=[]\/A6 s.head.fields=0:=by
 by_cases h:s.phase=0
 ·left;rw[(O.p0 h).2.1];rfl
 ·right
  obtain⟨_,_,_,_,q5,_⟩:=O.p1 h;unfold Ar at q5
  split at q5
  ·cases q5
  split at q5
  ·rename_i h1;exact absurd q5 h1
  ·rename_i h1
   have h1:Gj s.head=0:=by simpa using h1
   unfold Gj at h1
   split at h1
   ·cases h1
   ·exact h1
theorem Z9{s:Rs}(O:Du s):s.chunks=ch0\/Ix s.chunks:=by
 by_cases h:s.phase=0
 ·left;exact (O.p0 h).2.2.2.2.2
 ·by_cases h2:s.framing=2
  ·right;exact (O.f2 h h2).2.1
  ·left;exact (O.p1 h).2.2.2.2.2.2.1 h2
theorem Vo{s:Rs}(O:Du s):s.chunks.trailers=[]\/A6 s.chunks.trailers=0:=by
 rcases Z9 O with h|h
 ·left;rw[h];rfl
 ·rcases h.trail with h4|h4
  ·exact .inr (h.p4 h4).2.1
  ·exact .inl h4
theorem Te{l:List HF}(h:l=[]\/A6 l=0):∃n f,Bu f n l:=by
 rcases h with h|h
 ·subst h;exact⟨_,_,Sc⟩
 ·have h1:=(Hy l).1 h
  exact⟨_,_,Bu.row (by have:=h1.1;omega) (λi hi=>by
   have hm:l.getD i default∈l:=by rw[List.getD_eq_getElem?_getD,List.getElem?_eq_getElem hi];exact List.getElem_mem hi
   have h2:=(Aat h).h _ hm;have h3:=h1.2.1 _ hm;exact⟨by have:=h2.len;omega,by have:=h3.len;omega⟩)⟩
theorem Afj{s:Rs}(O:Du s):∃fl ff ct ctf,Bu ff fl s.head.fields/\Bu ctf ct s.chunks.trailers:=by
 obtain⟨n1,f1,h1⟩:=Te (Z8 O);obtain⟨n2,f2,h2⟩:=Te (Vo O);exact⟨_,_,_,_,h1,h2⟩
theorem Af3{k:IntKind}{t:ST}:Mr (.int k t):=⟨λE E' w v hr=>by rw[hr.int_inv];exact .ro (.int rfl)⟩
theorem noStr{s:List UInt8}:Mr (.str s):=⟨λE E' w v hr=>by rw[Dj hr];exact .ro (.str rfl)⟩
theorem noNils{nl:BT}{n:ST}{sz:Nat}{f:Nat->List SV}(h:nl.den=true):Mr (.sl nl n sz f):=⟨λE E' w v hr=>by
 rcases hr.sl_inv.sl_inv with⟨e1,e2,_⟩|⟨_,_,_,_,_,e1,_⟩
 ·rw[e1];exact .ro (.slnil h (by simpa using e2))
 ·rw[h]at e1;cases e1⟩
theorem noAgg{cs:List SV}(h:∀s∈cs,Mr s):Mr (.agg cs):=⟨λE E' w v hr=>by
 obtain⟨vs,hv,hl,hq⟩:∃vs:List Value,v=.agg ⟨vs⟩/\cs.length=vs.length/\∀(i:Nat) (s:SV) (u:Value),cs[i]?=some s->vs[i]?=some u->Rel E w s u:=by
  cases hr with
  |ro h=>cases h with|agg hl hq=>exact⟨_,rfl,hl,λi s u a b=>.ro (hq i s u a b)⟩
  |agg hl hq=>exact⟨_,rfl,hl,hq⟩
 subst hv;exact .agg hl λi s u a b=>(h s (List.mem_of_getElem? a)).h _ _ _ _ (hq i s u a b)⟩
theorem noTup{cs:List SV}(h:∀s∈cs,Mr s):Mr (.tup cs):=⟨λE E' w v hr=>by
 obtain⟨vs,hv,hl,hq⟩:∃vs:List Value,v=.tuple ⟨vs⟩/\cs.length=vs.length/\∀(i:Nat) (s:SV) (u:Value),cs[i]?=some s->vs[i]?=some u->Rel E w s u:=by
  cases hr with
  |ro h=>cases h
  |tup hl hq=>exact⟨_,rfl,hl,hq⟩
 subst hv;exact .tup hl λi s u a b=>(h s (List.mem_of_getElem? a)).h _ _ _ _ (hq i s u a b)⟩
theorem noRowH{nl:BT}{n:ST}{sz:Nat}{f:Nat->List SV}{k1 k2 k3 k4:IntKind}{a b c d:ST}{re:List UInt8}(h:nl.den=true):Mr (.tup [.agg [.int k1 a,.int k2 b,.str re,.sl nl n sz f],.int k3 c,.int k4 d]):=by
 refine noTup λs hs=>?_;simp only[List.mem_cons,List.mem_nil_iff,or_false]at hs;rcases hs with rfl|rfl|rfl
 ·refine noAgg λs hs=>?_
  simp only[List.mem_cons,List.mem_nil_iff,or_false]at hs;rcases hs with rfl|rfl|rfl|rfl
  ·exact Af3
  ·exact Af3
  ·exact noStr
  ·exact noNils h
 ·exact Af3
 ·exact Af3
set_option maxHeartbeats 8000000
def endF(s:Rs):Int×Int:=if s.phase=2 then (2,0) else if s.phase=1/\s.framing=3 then (2,0) else (s.phase,10)
def spEndR:FSpec:=λ_ xs ls K=>∃(s:Rs) (x:RsC),xs=[rsA x]/\ls=[]/\RsV s x/\Du s/\s.method.length<=9223372036854775807/\
 ∀p e,(p,e)=endF s->K (.tup [rsA { x with ph:=p },.int .i64 (.a e)]) []
theorem Aef{m ln re bo cl cd:List UInt8}{ph ph' inf inf' mi mi' st st' fl fl' fr fr' lf lf' cp cp' cf cf' ct ct' e e':ST}{fb fb' cb cb':BT}{ff ff' ctf ctf':Nat->List SV}
  (h1:ph.den=ph'.den) (h2:inf.den=inf'.den) (h3:mi.den=mi'.den) (h4:st.den=st'.den) (h5:LeV (.sl fb fl 2 ff) (.sl fb' fl' 2 ff')) (h6:fr.den=fr'.den) (h7:lf.den=lf'.den) (h8:cp.den=cp'.den) (h9:cf.den=cf'.den) (h10:LeV (.sl cb ct 2 ctf) (.sl cb' ct' 2 ctf')) (h11:e.den=e'.den):
  Fin (.tup [.agg [.str m,.int .i64 ph,.int .i64 inf,.str ln,.int .i64 mi,.int .i64 st,.str re,.sl fb fl 2 ff,.int .i64 fr,.str bo,.int .i64 lf,.int .i64 cp,.str cl,.str cd,.int .i64 cf,.sl cb ct 2 ctf],.int .i64 e])
   (.tup [.agg [.str m,.int .i64 ph',.int .i64 inf',.str ln,.int .i64 mi',.int .i64 st',.str re,.sl fb' fl' 2 ff',.int .i64 fr',.str bo,.int .i64 lf',.int .i64 cp',.str cl,.str cd,.int .i64 cf',.sl cb' ct' 2 ctf'],.int .i64 e']) [] [] :=
 D6 (.tup (.cons (LeV.agg (.cons (Cn _) (.cons (Ak h1) (.cons (Ak h2) (.cons (Cn _) (.cons (Ak h3) (.cons (Ak h4) (.cons (Cn _) (.cons h5 (.cons (Ak h6) (.cons (Cn _) (.cons (Ak h7) (.cons (Ak h8) (.cons (Cn _) (.cons (Cn _) (.cons (Ak h9) (.cons h10 .nil))))))))))))))))) (.cons (Ak h11) .nil)))
theorem end_ok:Ay Tryz.prog gl 24 spEndR:=by
 refine Bq (gh:=[]) mixed C6 (Ab Sl Ai) Tryz.func24 (by kernel_rfl) (by kernel_rfl) ?_;intro xs ls K h;unfold spEndR at h;obtain⟨s,x,rfl,rfl,V,O,hm,h⟩:=h;obtain⟨p,e,hk⟩:∃p e,(p,e)=endF s:=⟨_,_,rfl⟩;have h:=h p e hk;refine⟨_,_,h,λD hD=>?_⟩;clear h;have hph:x.ph=s.phase:=V.ph;have hfr:x.fr=s.framing:=V.fr;unfold endF at hk;rw[<-hph,<-hfr]at hk;obtain⟨m,ph,inf,ln,mi,st,re,fb,fl,ff,fr,bo,lf,cp,cl,cd,cf,cb,ct,ctf⟩:=x;simp only at hk;clear hph hfr;unfold rsA;cbv;refine⟨s,RsC.nm D ⟨m,ph,inf,ln,mi,st,re,fb,fl,ff,fr,bo,lf,cp,cl,cd,cf,cb,ct,ctf⟩,rfl,rfl,by subst hD;exact V,O,hm,?_⟩;cbv;refine br hD (λhb=>?_) (λhb=>?_)<;>cbv
 ·exfalso
  have hb:(!true)=true:=by subst hD;exact hb
  cases hb
 clear hb;refine br hD (λhb=>?_) (λhb=>?_)<;>cbv
 ·have hb:((ph==1)&&(fr==3))=true:=by subst hD;exact hb
  rw[Bool.and_eq_true,beq_iff_eq,beq_iff_eq]at hb;rw[if_neg (by omega),if_pos hb]at hk;simp only[Prod.mk.injEq]at hk;obtain⟨rfl,rfl⟩:=hk;subst hD;exact Aef rfl rfl rfl rfl (LeV.refl _) rfl rfl rfl rfl (LeV.refl _) rfl
 have hb1:¬(ph=1/\fr=3):=by
  have hb:((ph==1)&&(fr==3))=false:=by subst hD;exact hb
  rintro⟨rfl,rfl⟩;cases hb
 clear hb;refine br hD (λhb=>?_) (λhb=>?_)<;>cbv
 ·have hb:(ph != 2)=true:=by subst hD;exact hb
  rw[if_neg (by simpa using hb),if_neg hb1]at hk;simp only[Prod.mk.injEq]at hk;obtain⟨rfl,rfl⟩:=hk;subst hD;exact Aef rfl rfl rfl rfl (LeV.refl _) rfl rfl rfl rfl (LeV.refl _) rfl
 ·have hb:(ph != 2)=false:=by subst hD;exact hb
  have hb:ph=2:=by simpa using hb
  rw[if_pos hb]at hk;simp only[Prod.mk.injEq]at hk;obtain⟨rfl,rfl⟩:=hk;subst hD;exact Aef (by exact hb) rfl rfl rfl (LeV.refl _) rfl rfl rfl rfl (LeV.refl _) rfl
def Afi:List UInt8:=[99,111,110,110,101,99,116,105,111,110]
def Add:List UInt8:=[99,108,111,115,101]
def Aj8:List UInt8:=[107,101,101,112,45,97,108,105,118,101]
def Aga(h:RsH)(fr:Int):Bool :=
 (((Bj (Cc h.fields Afi)).isSome&&(fr != 3))&&!((Bj (Cc h.fields Afi)).getD []).contains Add)&&((h.minor==1)||((Bj (Cc h.fields Afi)).getD []).contains Aj8)
def Aka(mi st:Int)(re:List UInt8)(fb:Bool)(fl:Int)(ff:Nat->List SV)(fr:Int)(bo:List UInt8)(cb:Bool)(ct:Int)(ctf:Nat->List SV)(kp:Bool):SV :=
 .agg [.int .i64 (.a mi),.int .i64 (.a st),.str re,.sl (.a fb) (.a fl) 2 ff,.int .i64 (.a fr),.str bo,.sl (.a cb) (.a ct) 2 ctf,.bool (.a kp)]
def spRespR:FSpec:=λ_ xs ls K=>∃(s:Rs) (x:RsC),xs=[rsA x]/\ls=[]/\RsV s x/\Du s/\s.method.length<=9223372036854775807/\
 (s.phase≠2->K (.tup [Aka 0 0 [] true 0 (λ_=>[]) 0 [] true 0 (λ_=>[]) false,.int .i64 (.a 9)]) [])/\
 (s.phase=2->∀bo cb ct ctf kp,kp=Aga s.head s.framing->(s.framing=2->bo=x.cd/\cb=x.cb/\ct=x.ct/\ctf=x.ctf)->(s.framing≠2->bo=x.bo/\cb=true/\ct=0/\ctf=λ_=>[])->
  K (.tup [Aka x.mi x.st x.re x.fb x.fl x.ff x.fr bo cb ct ctf kp,.int .i64 (.a 0)]) [])
theorem Aee{re bo:List UInt8}{mi mi' st st' fl fl' fr fr' ct ct' e e':ST}{fb fb' cb cb' kp kp':BT}{ff ff' ctf ctf':Nat->List SV}
  (h3:mi.den=mi'.den) (h4:st.den=st'.den) (h5:LeV (.sl fb fl 2 ff) (.sl fb' fl' 2 ff')) (h6:fr.den=fr'.den) (h10:LeV (.sl cb ct 2 ctf) (.sl cb' ct' 2 ctf')) (h12:kp.den=kp'.den) (h11:e.den=e'.den):
  Fin (.tup [.agg [.int .i64 mi,.int .i64 st,.str re,.sl fb fl 2 ff,.int .i64 fr,.str bo,.sl cb ct 2 ctf,.bool kp],.int .i64 e])
   (.tup [.agg [.int .i64 mi',.int .i64 st',.str re,.sl fb' fl' 2 ff',.int .i64 fr',.str bo,.sl cb' ct' 2 ctf',.bool kp'],.int .i64 e']) [] [] :=
 D6 (.tup (.cons (LeV.agg (.cons (Ak h3) (.cons (Ak h4) (.cons (Cn _) (.cons h5 (.cons (Ak h6) (.cons (Cn _) (.cons h10 (.cons (Dc h12) .nil))))))))) (.cons (Ak h11) .nil)))
theorem resp_ok:Ay Tryz.prog gl 25 spRespR:=by
 refine Bq (gh:=[]) mixed C6 (Ab Sl (Ab Sk (Ab Amq Ai))) Tryz.func25 (by kernel_rfl) (by kernel_rfl) ?_;intro xs ls K h;unfold spRespR at h;obtain⟨s,x,rfl,rfl,V,O,hm,h9,h0⟩:=h;obtain⟨kp,hkp⟩:∃kp,kp=Aga s.head s.framing:=⟨_,rfl⟩;have hph:x.ph=s.phase:=V.ph;have hfr:x.fr=s.framing:=V.fr;have hmi:x.mi=s.head.minor:=V.mi;obtain⟨r,hr1,hr2,hr3,hK⟩:∃r,(s.phase≠2->r=.tup [Aka 0 0 [] true 0 (λ_=>[]) 0 [] true 0 (λ_=>[]) false,.int .i64 (.a 9)])/\
   (s.phase=2->s.framing=2->r=.tup [Aka x.mi x.st x.re x.fb x.fl x.ff x.fr x.cd x.cb x.ct x.ctf kp,.int .i64 (.a 0)])/\
   (s.phase=2->s.framing≠2->r=.tup [Aka x.mi x.st x.re x.fb x.fl x.ff x.fr x.bo true 0 (λ_=>[]) kp,.int .i64 (.a 0)])/\K r []:=by
  by_cases h2:s.phase=2
  ·by_cases h3:s.framing=2
   ·exact⟨_,λh=>absurd h2 h,λ_ _=>rfl,λ_ h=>absurd h3 h,h0 h2 _ _ _ _ _ hkp (λ_=>⟨rfl,rfl,rfl,rfl⟩) (λh=>absurd h3 h)⟩
   ·exact⟨_,λh=>absurd h2 h,λ_ h=>absurd h h3,λ_ _=>rfl,h0 h2 _ _ _ _ _ hkp (λh=>absurd h h3) (λ_=>⟨rfl,rfl,rfl,rfl⟩)⟩
  ·exact⟨_,λ_=>rfl,λh=>absurd h h2,λh=>absurd h h2,h9 h2⟩
 refine⟨_,_,hK,λD hD=>?_⟩;clear hK h9 h0;obtain⟨m,ph,inf,ln,mi,st,re,fb,fl,ff,fr,bo,lf,cp,cl,cd,cf,cb,ct,ctf⟩:=x;simp only at hph hfr hmi;unfold rsA;cbv;refine⟨s,RsC.nm D ⟨m,ph,inf,ln,mi,st,re,fb,fl,ff,fr,bo,lf,cp,cl,cd,cf,cb,ct,ctf⟩,rfl,rfl,by subst hD;exact V,O,hm,?_⟩;cbv;refine br hD (λhb=>?_) (λhb=>?_)<;>cbv
 ·exfalso
  have hb:(!true)=true:=by subst hD;exact hb
  cases hb
 clear hb;refine br hD (λhb=>?_) (λhb=>?_)<;>cbv
 ·have hb:(ph != 2)=true:=by subst hD;exact hb
  rw[hr1 (by rw[<-hph];simpa using hb)];subst hD;exact Aee rfl rfl (LeV.refl _) rfl (LeV.refl _) rfl rfl
 have hp2:s.phase=2:=by
  have hb:(ph != 2)=false:=by subst hD;exact hb
  rw[<-hph];simpa using hb
 clear hb;refine⟨s.head.fields,_,_,ff,Afi,rfl,rfl,by subst hD;exact V.fl,by decide,λout th ok g n' b hv G=>?_⟩;cbv;have hkp2:kp=(((ok&&(fr != 3))&&!out.contains Add)&&((mi==1)||out.contains Aj8)):=by
  rw[hkp,hfr,hmi,hv.eo,hv.ek];rfl
 clear hkp;refine⟨out,Add,_,_,g,rfl,rfl,by subst hD;exact G.row,λc1 hc1=>?_⟩;cbv;rw[<-hc1]at hkp2;refine⟨out,Aj8,_,_,g,rfl,rfl,by subst hD;exact G.row,λc2 hc2=>?_⟩;cbv;rw[<-hc2]at hkp2;refine br hD (λhb=>?_) (λhb=>?_)<;>cbv
 ·have hb:(fr==2)=true:=by subst hD;exact hb
  rw[hr2 hp2 (by rw[<-hfr];simpa using hb)];subst hD;exact Aee rfl rfl (LeV.refl _) rfl (LeV.refl _) (by exact hkp2.symm) rfl
 ·have hb:(fr==2)=false:=by subst hD;exact hb
  rw[hr3 hp2 (by rw[<-hfr];simpa using hb)];subst hD;exact Aee rfl rfl (LeV.refl _) rfl (LeV.refl _) (by exact hkp2.symm) rfl
end Go.Proofs.YtdoogdbjiijifaaGreatDoor
