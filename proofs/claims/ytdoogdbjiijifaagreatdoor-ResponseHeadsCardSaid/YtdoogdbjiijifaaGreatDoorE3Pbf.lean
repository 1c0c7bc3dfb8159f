/- Part of the proofs of the statements about responses and messages (layers 9 and 10): a symbolic executor over the code, that it is sound, and contracts of functions; it has no conditions of its own. -/
import Derived.Test.YtdoogdbjiijifaaGreatDoorE3Pbe
import Derived.Test.YtdoogdbjiijifaaGreatDoorE3Pbd
namespace Go.Proofs.YtdoogdbjiijifaaGreatDoor
open Go Go.Sx
set_option maxRecDepth 100000
set_option maxHeartbeats 400000
structure RsH where
 minor:Int
 status:Int
 reason:List UInt8
 fields:List HF
structure Ch where
 phase:Int
 line:List UInt8
 data:List UInt8
 left:Int
 trailers:List HF
structure Rs where
 method:List UInt8
 phase:Int
 infos:Int
 line:List UInt8
 head:RsH
 framing:Int
 body:List UInt8
 left:Int
 chunks:Ch
def rsH0:RsH:=⟨0,0,[],[]⟩
def ch0:Ch:=⟨0,[],[],0,[]⟩
def rs0(m:List UInt8):Rs:=⟨m,0,0,[],rsH0,0,[],0,ch0⟩
def Bt(s:List UInt8):Int:=if (decide (1<=s.length)&&decide (s.length<=10))&&Ca s then (B6 0 s:Int) else -1
def Fl:List UInt8:=[72,84,84,80,47,49,46]
def Pf(w:List UInt8):Bool :=
 decide (13<=w.length)&&(w.take 7==Fl)&&(w.getD 7 0==48||w.getD 7 0==49)&&(w.getD 8 0==32)&&(w.getD 12 0==32)&&Br (w.drop 13)&&decide (100<=Bt ((w.drop 9).take 3))&&decide (Bt ((w.drop 9).take 3)<=599)
def stH(w:List UInt8):RsH:=⟨((w.getD 7 0).toNat:Int)-48,Bt ((w.drop 9).take 3),w.drop 13,[]⟩
def An(b:List UInt8):RsH×Int×Int :=
 if !(Am 10 (b.take 302)).2.2 then (rsH0,0,if 302<=b.length then 3 else 10) else
 if !(Lib.hasSuffix (Am 10 (b.take 302)).1 [13]&&Pf (Lib.trimSuffix (Am 10 (b.take 302)).1 [13])) then (rsH0,0,6) else
 if (Av (b.drop ((Am 10 (b.take 302)).1.length+1))).2.2≠0 then (rsH0,0,(Av (b.drop ((Am 10 (b.take 302)).1.length+1))).2.2) else
 ({ stH (Lib.trimSuffix (Am 10 (b.take 302)).1 [13]) with fields:=(Av (b.drop ((Am 10 (b.take 302)).1.length+1))).1 },((Am 10 (b.take 302)).1.length:Int)+1+(Av (b.drop ((Am 10 (b.take 302)).1.length+1))).2.1,0)
def Bj:List (List UInt8)->Option (List (List UInt8))
 | []=>some []
 |v :: r=>if (Az v).2=0 then (Bj r).map λl=>(Az v).1.map foldF++l else none
def nTEnc:List UInt8:=[116,114,97,110,115,102,101,114,45,101,110,99,111,100,105,110,103]
def sChunked:List UInt8:=[99,104,117,110,107,101,100]
def Qr:List UInt8:=[72,69,65,68]
def Gj(h:RsH):Int:=if (h.minor≠0/\h.minor≠1)\/h.status<100\/599<h.status then 6 else A6 h.fields
def Cs(l:List (List UInt8)):Int×Int :=
 match l with
 | []=>(0,6)
 |x :: r=>if (x :: r).all (λs=>decide (0<=Bt s)&&(Bt s==Bt x)) then (if 65536<Bt x then (0,3) else (Bt x,0)) else (0,6)
def Pq(m:List UInt8)(st:Int):Bool:=((m==Qr||decide (st<200))||st==204)||st==304
def Ar(m:List UInt8)(h:RsH):Int×Int×Int :=
 if !Bg m then (0,0,2) else if Gj h≠0 then (0,0,Gj h) else
 if Pq m h.status then (0,0,0) else
 if (B5 h.fields nTEnc)≠[] then
  (if (B5 h.fields nLen)≠[]\/h.minor=0\/Bj (B5 h.fields nTEnc)≠some [sChunked] then (0,0,6) else (2,0,0)) else
 if (B5 h.fields nLen)≠[] then
  (match Bj (B5 h.fields nLen) with
   |none=>(0,0,6)
   |some l=>if (Cs l).2=0 then (1,(Cs l).1,0) else (0,0,(Cs l).2)) else (3,0,0)
def El(c:UInt8):Int:=D1 (c.toNat:Int)
def Fk:List UInt8->Nat->Nat->Nat×Nat
 | [],k,n=>(k,n)
 |c :: r,k,n=>if 0<=El c then Fk r (k+1) (16 * n+(El c).toNat) else (k,n)
def A8(l:List UInt8):Nat×Nat:=Fk l 0 0
def C2(l:List UInt8):Bool:=decide (l≠[])&&(l.getD (l.length-1) 0==13)
def C5(l:List UInt8)(c:UInt8):Int :=
 if C2 l then 6 else
 if c=13 then (if (A8 l).1=0 then 6 else 0) else
 if (A8 l).1=l.length then
  (if 0<=El c/\(A8 l).1=8 then 3 else if El c<0/\(c≠59\/(A8 l).1=0) then 6 else if 200<=l.length then 3 else 0)
 else if !okB c then 6 else if 200<=l.length then 3 else 0
def Lq:List (List UInt8):=[[99,111,110,110,101,99,116,105,111,110],[99,111,110,116,101,110,116,45,108,101,110,103,116,104],[104,111,115,116],[116,114,97,105,108,101,114],nTEnc]
def We(l:List HF):Bool:=l.any λx=>inF Lq (foldF x.name)
def chS(s:Ch)(c:UInt8):Ch×Int :=
 if s.phase=0 then
  (if c=10/\C2 s.line=true then
   (if (A8 s.line).2=0 then (⟨3,[],s.data,s.left,s.trailers⟩,0) else if 65536<s.data.length+(A8 s.line).2 then (s,3) else (⟨1,[],s.data,(A8 s.line).2,s.trailers⟩,0))
   else if C5 s.line c≠0 then (s,C5 s.line c) else (⟨0,s.line++[c],s.data,s.left,s.trailers⟩,0))
 else if s.phase=1 then (⟨if s.left-1=0 then 2 else 1,s.line,s.data++[c],s.left-1,s.trailers⟩,0)
 else if s.phase=2 then
  (if s.line=[]/\c=13 then (⟨2,[13],s.data,s.left,s.trailers⟩,0) else if s.line=[13]/\c=10 then (⟨0,[],s.data,s.left,s.trailers⟩,0) else (s,6))
 else
  (if (Av (s.line++[c])).2.2=10 then (⟨3,s.line++[c],s.data,s.left,s.trailers⟩,0) else
   if (Av (s.line++[c])).2.2≠0 then (s,(Av (s.line++[c])).2.2) else
   if We (Av (s.line++[c])).1 then (s,6) else
   if A6 (Av (s.line++[c])).1≠0 then (s,A6 (Av (s.line++[c])).1) else
   (⟨4,[],s.data,s.left,(Av (s.line++[c])).1⟩,0))
def Fy(l:List UInt8):Prop:=∀i,i<l.length->C5 (l.take i) (l.getD i 0)=0
instance (l:List UInt8):Decidable (Fy l):=by unfold Fy;exact inferInstance
structure Ix(s:Ch):Prop where
 data:s.data.length<=65536
 left:s.phase=1↔s.left≠0
 trail:s.phase=4\/s.trailers=[]
 ph:s.phase=0\/s.phase=1\/s.phase=2\/s.phase=3\/s.phase=4
 p0:s.phase=0->Fy s.line
 p1:s.phase=1->s.line=[]/\1<=s.left/\s.left<=65536-(s.data.length:Int)
 p2:s.phase=2->(s.line=[]\/s.line=[13])/\s.data≠[]
 p3:s.phase=3->(Av s.line).2.2=10
 p4:s.phase=4->s.line=[]/\A6 s.trailers=0/\We s.trailers=false
theorem Aa8{l:List UInt8}{c:UInt8}(h:Fy l)(hc:C5 l c=0):Fy (l++[c]):=λi hi=>by
 rw[List.length_append]at hi
 by_cases h1:i<l.length
 ·rw[List.take_append_of_le_length (by omega),Is h1]
  exact h i h1
 ·have:i=l.length:=by simp only[List.length_cons,List.length_nil]at hi;omega
  subst this;rw[List.take_left,List.getD_eq_getElem?_getD,List.getElem?_append_right (by omega)];simpa using hc
theorem Ad5:Av []=([],0,10):=rfl
theorem chOk0:Ix ch0:=⟨by simp[ch0],by simp[ch0],.inr rfl,.inl rfl,λ_ i hi=>by simp[ch0]at hi,λh=>by simp[ch0]at h,λh=>by simp[ch0]at h,λh=>by simp[ch0]at h,λh=>by simp[ch0]at h⟩
theorem Qh{s t:Ch}{c:UInt8}(h:Ix s)(h4:s.phase≠4)(hs:chS s c=(t,0)):Ix t:=by
 unfold chS at hs;have htr:s.trailers=[]:=h.trail.resolve_left h4
 split at hs
 ·rename_i h0
  have hl:s.left=0:=by
   rcases Decidable.em (s.left=0) with e|e
   ·exact e
   ·have:=h.left.2 e;omega
  split at hs
  ·split at hs
   ·have:=(Prod.mk.inj hs).1;subst this
    exact⟨h.data,by simp[hl],.inr htr,by simp,λg=>by simp at g,λg=>by simp at g,λg=>by simp at g,λ_=>by rw[Ad5],λg=>by simp at g⟩
   ·rename_i hn
    split at hs
    ·have:=(Prod.mk.inj hs).2;cases this
    ·rename_i hd
     have:=(Prod.mk.inj hs).1;subst this;refine⟨h.data,?_,.inr htr,by simp,λg=>by simp at g,λ_=>⟨rfl,?_,?_⟩,λg=>by simp at g,λg=>by simp at g,λg=>by simp at g⟩
     ·simp only[true_iff];show ((A8 s.line).2:Int)≠0;omega
     ·show 1<=((A8 s.line).2:Int);omega
     ·show ((A8 s.line).2:Int)<=65536-(s.data.length:Int);omega
  ·split at hs
   ·rename_i g;have:=(Prod.mk.inj hs).2;exact absurd this g
   ·rename_i g
    have:=(Prod.mk.inj hs).1;subst this;exact⟨h.data,by simp[hl],.inr htr,by simp,λ_=>Aa8 (h.p0 h0) (by simpa using g),λg=>by simp at g,λg=>by simp at g,λg=>by simp at g,λg=>by simp at g⟩
 split at hs
 ·rename_i h1
  obtain⟨q1,q2,q3⟩:=h.p1 h1;have:=(Prod.mk.inj hs).1;subst this
  by_cases hz:s.left-1=0
  ·rw[if_pos hz]
   exact⟨by simp only[List.length_append,List.length_cons,List.length_nil];omega,by simp;omega,.inr htr,by simp,λg=>by simp at g,λg=>by simp at g,λ_=>⟨.inl q1,by simp⟩,λg=>by simp at g,λg=>by simp at g⟩
  ·rw[if_neg hz]
   exact⟨by simp only[List.length_append,List.length_cons,List.length_nil];omega,by simp;omega,.inr htr,by simp,λg=>by simp at g,λ_=>⟨q1,by simp only;omega,by simp only[List.length_append,List.length_cons,List.length_nil];omega⟩,λg=>by simp at g,λg=>by simp at g,λg=>by simp at g⟩
 split at hs
 ·rename_i h2
  obtain⟨q1,q2⟩:=h.p2 h2;have hl:s.left=0:=by
   rcases Decidable.em (s.left=0) with e|e
   ·exact e
   ·have:=h.left.2 e;omega
  split at hs
  ·have:=(Prod.mk.inj hs).1;subst this
   exact⟨h.data,by simp[hl],.inr htr,by simp,λg=>by simp at g,λg=>by simp at g,λ_=>⟨.inr rfl,q2⟩,λg=>by simp at g,λg=>by simp at g⟩
  ·split at hs
   ·have:=(Prod.mk.inj hs).1;subst this
    exact⟨h.data,by simp[hl],.inr htr,by simp,λ_ i hi=>by simp at hi,λg=>by simp at g,λg=>by simp at g,λg=>by simp at g,λg=>by simp at g⟩
   ·have:=(Prod.mk.inj hs).2;cases this
 rename_i g0 g1 g2;have h3:s.phase=3:=by rcases h.ph with g|g|g|g|g<;>omega
 have hl:s.left=0:=by
  rcases Decidable.em (s.left=0) with e|e
  ·exact e
  ·have:=h.left.2 e;omega
 split at hs
 ·rename_i hm
  have:=(Prod.mk.inj hs).1;subst this;exact⟨h.data,by simp[hl],.inr htr,by simp,λg=>by simp at g,λg=>by simp at g,λg=>by simp at g,λ_=>hm,λg=>by simp at g⟩
 split at hs
 ·rename_i g;exact absurd (Prod.mk.inj hs).2 g
 split at hs
 ·have:=(Prod.mk.inj hs).2;cases this
 rename_i hb
 split at hs
 ·rename_i g;exact absurd (Prod.mk.inj hs).2 g
 rename_i hc;have:=(Prod.mk.inj hs).1;subst this;exact⟨h.data,by simp[hl],.inl rfl,by simp,λg=>by simp at g,λg=>by simp at g,λg=>by simp at g,λg=>by simp at g,λ_=>⟨rfl,by simpa using hc,by simpa using hb⟩⟩
def Cg(s:Rs)(h:RsH):Rs×Int :=
 if (Ar s.method h).2.2≠0 then (s,(Ar s.method h).2.2) else
 (⟨s.method,if (Ar s.method h).1=0\/((Ar s.method h).1=1/\(Ar s.method h).2.1=0) then 2 else 1,s.infos,[],h,(Ar s.method h).1,s.body,(Ar s.method h).2.1,s.chunks⟩,0)
def rsS(s:Rs)(c:UInt8):Rs×Int :=
 if s.phase=0 then
  (if (An (s.line++[c])).2.2=10 then ({ s with line:=s.line++[c] },0) else
   if (An (s.line++[c])).2.2≠0 then (s,(An (s.line++[c])).2.2) else
   if (An (s.line++[c])).1.status=101 then (s,6) else
   if 200<=(An (s.line++[c])).1.status then Cg s (An (s.line++[c])).1 else
   if 10<s.infos+1 then (s,3) else ({ s with line:=[],infos:=s.infos+1 },0))
 else if s.framing=2 then
  (if (chS s.chunks c).2≠0 then (s,(chS s.chunks c).2) else ({ s with chunks:=(chS s.chunks c).1,phase:=if (chS s.chunks c).1.phase=4 then 2 else s.phase },0))
 else if 65536<=s.body.length then (s,3) else
 if s.framing=1 then ({ s with body:=s.body++[c],left:=s.left-1,phase:=if s.left-1=0 then 2 else s.phase },0) else ({ s with body:=s.body++[c] },0)
def A0(s:Rs):List UInt8->Rs×Nat×Int
 | []=>(s,0,0)
 |c :: b=>if s.phase=2 then (s,0,0) else if (rsS s c).2≠0 then (s,0,(rsS s c).2) else ((A0 (rsS s c).1 b).1,(A0 (rsS s c).1 b).2.1+1,(A0 (rsS s c).1 b).2.2)
structure Du(s:Rs):Prop where
 tok:Bg s.method=true
 i0:0<=s.infos
 i1:s.infos<=10
 ph:s.phase=0\/s.phase=1\/s.phase=2
 p0:s.phase=0->(An s.line).2.2=10/\s.head=rsH0/\s.framing=0/\s.body=[]/\s.left=0/\s.chunks=ch0
 p1:s.phase≠0->s.line=[]/\200<=s.head.status/\Br s.head.reason=true/\s.head.reason.length<=287/\(Ar s.method s.head).2.2=0/\(Ar s.method s.head).1=s.framing/\
  (s.framing≠2->s.chunks=ch0)/\(s.framing≠1->s.left=0)
 f0:s.phase≠0->s.framing=0->s.phase=2/\s.body=[]
 f1:s.phase≠0->s.framing=1->0<=s.left/\s.left<=(Ar s.method s.head).2.1/\(s.body.length:Int)=(Ar s.method s.head).2.1-s.left/\(s.phase=2↔s.left=0)
 f2:s.phase≠0->s.framing=2->s.body=[]/\Ix s.chunks/\(s.phase=2↔s.chunks.phase=4)
 f3:s.phase≠0->s.framing=3->s.body.length<=65536
theorem Mn(m:List UInt8)(h:RsH):(Ar m h).1=0\/(Ar m h).1=1\/(Ar m h).1=2\/(Ar m h).1=3:=by
 unfold Ar
 split
 ·simp
 split
 ·simp
 split
 ·simp
 split
 ·split<;>simp
 split
 ·split
  ·simp
  ·split<;>simp
 ·simp
theorem Ac4(l:List (List UInt8)):0<=(Cs l).1/\(Cs l).1<=65536:=by
 unfold Cs
 split
 ·simp
 ·split
  ·rename_i h
   split
   ·simp
   ·rename_i g
    rw[List.all_cons,Bool.and_eq_true,Bool.and_eq_true]at h;have:=of_decide_eq_true h.1.1;exact⟨this,by show Bt _<=_;omega⟩
  ·simp
theorem J7(m:List UInt8)(h:RsH):0<=(Ar m h).2.1/\(Ar m h).2.1<=65536/\((Ar m h).1≠1->(Ar m h).2.1=0):=by
 unfold Ar
 split
 ·simp
 split
 ·simp
 split
 ·simp
 split
 ·split<;>simp
 split
 ·split
  ·simp
  ·rename_i l _
   have:=Ac4 l
   split
   ·exact⟨this.1,this.2,λg=>absurd rfl g⟩
   ·simp
 ·simp
theorem Wc(b:List UInt8)(h:(Am 10 (b.take 302)).2.2=true):(Am 10 (b.take 302)).1.length<=301:=by
 obtain⟨h1,h2,h3⟩:=Xs 10 (b.take 302);rw[h,if_pos rfl]at h2;have:=congrArg List.length h2;rw[List.length_take,List.length_append,List.length_cons]at this;omega
theorem Ac1{w:List UInt8}(h:Pf w=true):Br (stH w).reason=true/\100<=(stH w).status/\(stH w).status<=599/\(stH w).reason.length=w.length-13/\13<=w.length:=by
 unfold Pf at h;simp only[Bool.and_eq_true,decide_eq_true_eq]at h;obtain⟨⟨⟨⟨⟨⟨⟨a,_⟩,_⟩,_⟩,_⟩,b⟩,c⟩,d⟩:=h;exact⟨b,c,d,by show (w.drop 13).length=_;rw[List.length_drop],a⟩
theorem Adh{b:List UInt8}(h:(An b).2.2=0):Br (An b).1.reason=true/\100<=(An b).1.status/\(An b).1.reason.length<=287:=by
 unfold An at h ⊢
 split at h
 ·split at h<;>cases h
 rename_i g1
 split at h
 ·cases h
 rename_i g2
 split at h
 ·rename_i g;exact absurd h g
 rename_i g3;rw[if_neg g1,if_neg g2,if_neg g3];have g1:(Am 10 (b.take 302)).2.2=true:=by simpa using g1
 have g2:(Lib.hasSuffix (Am 10 (b.take 302)).1 [13]&&Pf (Lib.trimSuffix (Am 10 (b.take 302)).1 [13]))=true:=by simpa using g2
 rw[Bool.and_eq_true]at g2;obtain⟨s1,s2,s3,s4,s5⟩:=Ac1 g2.2;have hl:=Wc b g1;have hlt:(Lib.trimSuffix (Am 10 (b.take 302)).1 [13]).length<=300:=by
  unfold Lib.trimSuffix;rw[if_pos g2.1,List.length_take];simp only[List.length_cons,List.length_nil];omega
 exact⟨s1,s2,by show (stH _).reason.length<=287;rw[s4];omega⟩
theorem Td:(An []).2.2=10:=rfl
theorem Mz{m:List UInt8}(h:Bg m=true):Du (rs0 m) :=
 ⟨h,by simp[rs0],by simp[rs0],.inl rfl,λ_=>⟨Td,rfl,rfl,rfl,rfl,rfl⟩,λg=>absurd rfl g,λg=>absurd rfl g,λg=>absurd rfl g,λg=>absurd rfl g,λg=>absurd rfl g⟩
theorem Ya{s t:Rs}{c:UInt8}(h:Du s)(h2:s.phase≠2)(hs:rsS s c=(t,0)):Du t:=by
 unfold rsS at hs
 split at hs
 ·rename_i h0
  obtain⟨p1,p2,p3,p4,p5,p6⟩:=h.p0 h0
  split at hs
  ·rename_i hm
   have:=(Prod.mk.inj hs).1;subst this;exact⟨h.tok,h.i0,h.i1,h.ph,λ_=>⟨hm,p2,p3,p4,p5,p6⟩,λg=>absurd h0 g,λg=>absurd h0 g,λg=>absurd h0 g,λg=>absurd h0 g,λg=>absurd h0 g⟩
  split at hs
  ·rename_i g;exact absurd (Prod.mk.inj hs).2 g
  rename_i hok;have hok:(An (s.line++[c])).2.2=0:=by simpa using hok
  split at hs
  ·have:=(Prod.mk.inj hs).2;cases this
  split at hs
  ·rename_i hst
   unfold Cg at hs
   split at hs
   ·rename_i g;exact absurd (Prod.mk.inj hs).2 g
   rename_i hf;have hf:(Ar s.method (An (s.line++[c])).1).2.2=0:=by simpa using hf
   have:=(Prod.mk.inj hs).1;subst this;obtain⟨q1,q2,q3⟩:=Adh hok;obtain⟨r1,r2,r3⟩:=J7 s.method (An (s.line++[c])).1;obtain⟨k,hk⟩:∃k,k=Ar s.method (An (s.line++[c])).1:=⟨_,rfl⟩;obtain⟨H,hH⟩:∃H,H=(An (s.line++[c])).1:=⟨_,rfl⟩;rw[<-hH]at hk hst q1 q2 q3;rw[<-hH,<-hk]at hf r1 r2 r3;rw[<-hH,<-hk];clear hs hok hH;refine⟨h.tok,h.i0,h.i1,by simp only;split<;>simp,λg=>?_,λ_=>⟨rfl,hst,q1,q3,by show (Ar s.method H).2.2=0;rw[<-hk];exact hf,by show (Ar s.method H).1=_;rw[<-hk],λ_=>p6,λg=>r3 g⟩,λ_ g=>?_,λ_ g=>?_,λ_ g=>?_,λ_ _=>?_⟩
   ·simp only at g;split at g<;>cases g
   ·have g:k.1=0:=g
    exact⟨by simp only;rw[if_pos (.inl g)],p4⟩
   ·have g:k.1=1:=g
    refine⟨r1,by show k.2.1<=(Ar s.method H).2.1;rw[<-hk];omega,?_,?_⟩
    ·show (s.body.length:Int)=(Ar s.method H).2.1-k.2.1
     rw[<-hk,p4];simp
    ·show (if k.1=0\/(k.1=1/\k.2.1=0) then (2:Int) else 1)=2↔k.2.1=0
     by_cases hz:k.2.1=0
     ·rw[if_pos (.inr ⟨g,hz⟩)];simp[hz]
     ·rw[if_neg (by rintro (e|e)<;>omega)];simp[hz]
   ·have g:k.1=2:=g
    refine⟨p4,by show Ix s.chunks;rw[p6];exact chOk0,?_⟩;show (if k.1=0\/(k.1=1/\k.2.1=0) then (2:Int) else 1)=2↔s.chunks.phase=4;rw[if_neg (by rintro (e|e)<;>omega),p6];simp[ch0]
   ·show s.body.length<=65536;rw[p4];simp
  split at hs
  ·have:=(Prod.mk.inj hs).2;cases this
  ·rename_i hi
   have:=(Prod.mk.inj hs).1;subst this;exact⟨h.tok,by show 0<=s.infos+1;have:=h.i0;omega,by show s.infos+1<=10;omega,h.ph,λ_=>⟨Td,p2,p3,p4,p5,p6⟩,λg=>absurd h0 g,λg=>absurd h0 g,λg=>absurd h0 g,λg=>absurd h0 g,λg=>absurd h0 g⟩
 rename_i h0;have h1:s.phase=1:=by rcases h.ph with g|g|g<;>omega
 obtain⟨p1,p2,p3,p4,p5,p6,p7,p8⟩:=h.p1 h0
 split at hs
 ·rename_i hf
  obtain⟨q1,q2,q3⟩:=h.f2 h0 hf;have hc4:s.chunks.phase≠4:=λe=>by have:=q3.2 e;omega
  split at hs
  ·rename_i g;exact absurd (Prod.mk.inj hs).2 g
  rename_i g;have g:(chS s.chunks c).2=0:=by simpa using g
  have hok:Ix (chS s.chunks c).1:=Qh q2 hc4 (by rw[<-g]);have:=(Prod.mk.inj hs).1;subst this;refine⟨h.tok,h.i0,h.i1,by simp only;split<;>simp[h1],λe=>?_,λ_=>⟨p1,p2,p3,p4,p5,p6,λe=>absurd hf e,p8⟩,λ_ e=>?_,λ_ e=>?_,λ_ _=>⟨q1,hok,?_⟩,λ_ e=>?_⟩
  ·simp only at e;split at e<;>omega
  ·have e:s.framing=0:=e;omega
  ·have e:s.framing=1:=e;omega
  ·show (if (chS s.chunks c).1.phase=4 then (2:Int) else s.phase)=2↔(chS s.chunks c).1.phase=4
   by_cases e:(chS s.chunks c).1.phase=4
   ·rw[if_pos e];simp[e]
   ·rw[if_neg e];simp[e,h1]
  ·have e:s.framing=3:=e;omega
 rename_i hf2
 split at hs
 ·have:=(Prod.mk.inj hs).2;cases this
 rename_i hb
 split at hs
 ·rename_i hf
  obtain⟨q1,q2,q3,q4⟩:=h.f1 h0 hf;have hl:s.left≠0:=λe=>by have:=q4.2 e;omega
  have:=(Prod.mk.inj hs).1;subst this;refine⟨h.tok,h.i0,h.i1,by simp only;split<;>simp[h1],λe=>?_,λ_=>⟨p1,p2,p3,p4,p5,p6,p7,λe=>absurd hf e⟩,λ_ e=>?_,λ_ _=>⟨by show 0<=s.left-1;omega,by show s.left-1<=(Ar s.method s.head).2.1;omega,?_,?_⟩,λ_ e=>?_,λ_ e=>?_⟩
  ·simp only at e;split at e<;>omega
  ·have e:s.framing=0:=e;omega
  ·show ((s.body++[c]).length:Int)=(Ar s.method s.head).2.1-(s.left-1)
   rw[List.length_append];simp only[List.length_cons,List.length_nil];omega
  ·show (if s.left-1=0 then (2:Int) else s.phase)=2↔s.left-1=0
   by_cases e:s.left-1=0
   ·rw[if_pos e];simp[e]
   ·rw[if_neg e];simp[e,h1]
  ·have e:s.framing=2:=e;omega
  ·have e:s.framing=3:=e;omega
 ·rename_i hf1
  have:=(Prod.mk.inj hs).1;subst this;refine⟨h.tok,h.i0,h.i1,h.ph,λe=>absurd e h0,λ_=>⟨p1,p2,p3,p4,p5,p6,p7,p8⟩,λ_ e=>?_,λ_ e=>absurd e hf1,λ_ e=>absurd e hf2,λ_ _=>?_⟩
  ·have:=(h.f0 h0 e).1;omega
  ·show (s.body++[c]).length<=65536
   rw[List.length_append];simp only[List.length_cons,List.length_nil];omega
theorem Akb(b:List UInt8):∀s,(A0 s b).2.1<=b.length:=by
 induction b with
 |nil=>intro s;simp[A0]
 |cons c b ih =>
  intro s;unfold A0
  split
  ·simp
  split
  ·simp
  ·have:=ih (rsS s c).1
   simp only[List.length_cons];omega
theorem K5(b:List UInt8):∀s,Du s->(A0 s b).2.2=0->Du (A0 s b).1:=by
 induction b with
 |nil=>intro s h _;exact h
 |cons c b ih =>
  intro s h he;unfold A0 at he ⊢
  split
  ·exact h
  rename_i h2;rw[if_neg h2]at he
  split
  ·exact h
  rename_i h3;rw[if_neg h3]at he;exact ih _ (Ya h h2 (by rw[show (rsS s c)=((rsS s c).1,(rsS s c).2) from rfl,show (rsS s c).2=0 by simpa using h3])) he
def endMore(s:Rs):Bool:=!(decide (s.phase=2)||(decide (s.phase=1)&&decide (s.framing=3)))
structure WholeV(m:List UInt8)(b:List UInt8):Prop where
 pos:1<=(A0 (rs0 m) b).2.1
 le:(A0 (rs0 m) b).2.1<=b.length
 cl:(A0 (rs0 m) b).1.framing≠3
 part:∀k,k<(A0 (rs0 m) b).2.1->Du (A0 (rs0 m) (b.take k)).1/\(A0 (rs0 m) (b.take k)).2.2=0/\(A0 (rs0 m) (b.take k)).2.1=k/\(A0 (rs0 m) (b.take k)).1.phase≠2/\endMore (A0 (rs0 m) (b.take k)).1=true
 more:∀u,A0 (rs0 m) (b.take (A0 (rs0 m) b).2.1++u)=A0 (rs0 m) b
set_option maxHeartbeats 8000000
def Ae0(f:Nat->List SV)(b:List UInt8):Prop:=∀j,f j=[.int .u8 (.a ((b.getD j 0).toNat:Int))]
def spHParseR:FSpec:=λ_ xs ls K=>∃(b:List UInt8) (nl:Bool) (n:Int) (f:Nat->List SV),xs=[.sl (.a nl) (.a n) 1 f]/\ls=[]/\A7 f n b/\Ae0 f b/\b.length<=1000000/\
 ∀l f1 n1 b1 k e,(l,k,e)=Av b->GrH f1 n1 b1 l->K (.tup [.sl (.a b1) (.a n1) 2 f1,.int .i64 (.a k),.int .i64 (.a e)]) []
structure HrJ(b:List UInt8)(k:List HF×Int×Int)(p i:Nat)(P I:Int)(m:Nat)(r:List HF)(f1:Nat->List SV)(n1:Int)(b1:Bool):Prop where
 lie:At b i I m
 eP:P=p
 le:p<=i
 le2:p<=8192
 no:Mb b p i
 k:k=hpG b (b.length-p+1) p r
 G:GrH f1 n1 b1 r
 len:r.length<=100
def hrJ(b:List UInt8)(k:List HF×Int×Int)(nl:Bool)(n:Int)(f:Nat->List SV)(m:Nat)(vs:List (Option SV))(hp:List Hl):Prop :=
 ∃(p i:Nat) (P I:Int) (r:List HF) (f1:Nat->List SV) (n1:Int) (b1:Bool),vs=[some (.sl (.a nl) (.a n) 1 f),some (.gsl (.a b1) (.a n1) 2 f1 0),some (.int .i64 (.a P)),some (.int .i64 (.a I))]/\hp=[.tail 100 (.a n1) 2]/\HrJ b k p i P I m r f1 n1 b1
theorem Abi(b:List UInt8):∀(m m' p:Nat) (r:List HF),p<=b.length->b.length-p<m->b.length-p<m'->hpG b m p r=hpG b m' p r
 |0,_,_,_,_,h,_=>by omega
 |_+1,0,_,_,_,_,h=>by omega
 |m+1,m'+1,p,r,hp,h,h'=>by
  have hi:=Hb (s:=b.drop p) (c:=10);rw[List.length_drop]at hi;unfold hpG
  split
  ·rfl
  split
  ·rfl
  rename_i hn;have:=hi.2 (by omega)
  split
  ·rfl
  split
  ·rfl
  split
  ·rfl
  split
  ·rfl
  exact Abi b m m' _ _ (by omega) (by omega) (by omega)
structure NilI(s:List UInt8)(j p:Nat):Prop where
 h:s=[]↔j=p+1
theorem Adl{s:List UInt8}{n:Nat}(h:s.length<=n):(Er s).1.name.length<=n/\(Er s).1.value.length<=n:=by
 unfold Er;have hc:=L5 58 s
 split
 ·simp
 ·exact⟨by show (Am 58 s).1.length<=n;omega,by show (trimF (Am 58 s).2.1).length<=n;have:=Wh (Am 58 s).2.1;omega⟩
structure CrB(g cr:Bool):Prop where
 h:g=cr
theorem Akf(s:List UInt8):Nl 13 s=decide (0<=Lib.indexByte s 13):=by
 unfold Nl
 induction s with
 |nil=>rfl
 |cons b r ih =>
  have hlo:=(Hb (s:=r) (c:=13)).1;unfold Lib.indexByte;rw[List.any_cons,ih]
  by_cases hb:b=13
  ·subst hb;rfl
  ·have h1:((b.toNat:Int)==13)=false:=by
    rw[beq_eq_false_iff_ne];intro e;exact hb (UInt8.toNat_inj.1 (by show b.toNat=13;omega))
   rw[h1,if_neg (by simpa using hb),Bool.false_or]
   by_cases h2:Lib.indexByte r 13<0
   ·have h3:Lib.indexByte r 13=-1:=by omega
    rw[h3];rfl
   ·rw[if_neg (by simp;omega),decide_eq_decide];omega
theorem Ad6:Ay Tryz.prog gl 60 spHParseR:=by
 refine Bq (gh:=[(1,[.attach 5 100])]) mixed B4 (Ab Adj (Ab read_ok Ai)) Tryz.func60 (by kernel_rfl) (by kernel_rfl) ?_;intro xs ls K h;unfold spHParseR at h;obtain⟨b,nl,n,f,rfl,rfl,R,hT,hb,h⟩:=h;obtain⟨k,hk⟩:∃k,k=Av b:=⟨_,rfl⟩;have hS:=Hc (b.length+1) 0 [] b hb (by simp) (λx hx=>by cases hx);have hk0:k=hpG b (b.length+1) 0 []:=hk;rw[<-hk0]at hS;obtain⟨kl,kk,ke⟩:=k;have hG:∃f1 n1 b1,GrH f1 n1 b1 kl:=⟨_,_,_,⟨Bu.row (by have:=hS.1;simp only at this;omega) (λi hi=>hS.2 _ (by rw[List.getD_eq_getElem?_getD,List.getElem?_eq_getElem hi];exact List.getElem_mem hi)),rfl⟩⟩;obtain⟨f1,n1,b1,hG⟩:=hG;clear hS;refine⟨_,_,h kl f1 n1 b1 kk ke hk hG,λD hD=>?_⟩;cbv;clear h hk;have HN:VI n b.length:=⟨R.n⟩;have HB:Zn b 1000000:=⟨hb⟩;clear hb;obtain⟨J,hJ⟩:∃J,J=hrJ b (kl,kk,ke) nl n f:=⟨_,rfl⟩;refine⟨[0,5,6,7],J,⟨rfl,b.length,?_⟩,?_⟩
 ·rw[hJ]
  subst hD;exact⟨0,0,0,0,[],_,_,_,rfl,rfl,⟨At.zero (by have:=HB.h;omega),rfl,by omega,by omega,Pp b 0,hk0,GrH.nil,by simp⟩⟩
 clear hk0;intro m vs hp hv;rw[hJ]at hv;unfold hrJ at hv;obtain⟨p,i,P,I,r,e1,m1,c1,rfl,rfl,V⟩:=hv;cbv;have VP:VI P p:=⟨V.eP⟩;have VI1:VI I i:=⟨V.lie.I⟩;have hk:=V.k;refine br hD (λh=>?_) (λh=>?_)<;>cbv
 ·have h:decide (I<n)=true:=h
  have hlt:i<b.length:=by have:=of_decide_eq_true h;have:=VI1.h;have:=HN.h;omega
  clear h;refine⟨by subst hD;exact⟨by show 0<=I;rw[VI1.h];omega,by show I<n;rw[VI1.h,HN.h];omega⟩,λj hj=>?_⟩;cbv;have hj:j=i:=by subst hD;have h:=hj.h;have:(j:Int)=I:=h;have:=VI1.h;omega
  subst hj;obtain⟨c,hfj,hcb⟩:∃c:Int,f j=[.int .u8 (.a c)]/\CB c (b.getD j 0):=⟨_,hT j,⟨rfl⟩⟩;rw[hfj];cbv;clear hfj;have hst:=V.lie.step hD hlt;refine br hD (λh=>?_) (λh=>?_)<;>cbv
  ·have h:(c != 10)=true:=h
   have hne:b.getD j 0≠10:=λe=>by
    rw[((Ae6 hcb.h).1).2 e]at h;exact absurd h (by decide)
   refine⟨_,hst.1,?_⟩;rw[hJ];unfold hrJ;subst hD;exact⟨p,j+1,P,_,r,e1,m1,c1,rfl,rfl,⟨hst.2,V.eP,by have:=V.le;omega,V.le2,W0 V.no hne,V.k,V.G,V.len⟩⟩
  have h:(c != 10)=false:=h;have h10:b.getD j 0=10:=((Ae6 hcb.h).1).1 (by simpa using h);clear h hcb;refine br hD (λh=>?_) (λh=>?_)<;>cbv
  ·have h:decide (8192<=I)=true:=h
   have h8:8192<=j:=by have:=of_decide_eq_true h;have:=VI1.h;omega
   rw[hp_far V.le hlt h10 V.no h8]at hk;exact Hv hD hk GrH.nil hG rfl rfl
  have h:decide (8192<=I)=false:=h;have h8:j<8192:=by have:=of_decide_eq_false h;have:=VI1.h;omega
  clear h;have w1:IntKind.i64.wrap (I-1)=I-1:=by have:=VI1.h;exact A4 (by omega) (by omega)
  have heq:(I==P)=decide (j=p):=by rw[Bool.eq_iff_iff,beq_iff_eq,decide_eq_true_eq,VI1.h,VP.h];omega
  refine⟨λhg=>?_,λq hq=>?_⟩
  ·subst hD
   have hg:(!(I==P))=true:=hg;rw[heq]at hg;have hg:j≠p:=by simpa using hg
   exact⟨by show 0<=IntKind.i64.wrap (I-1);rw[w1,VI1.h];have:=V.le;omega,by show IntKind.i64.wrap (I-1)<n;rw[w1,VI1.h,HN.h];omega⟩
  cbv;obtain⟨d,hfq,hdb⟩:∃d:Int,f q=[.int .u8 (.a d)]/\CB d (b.getD q 0):=⟨_,hT q,⟨rfl⟩⟩;rw[hfq];cbv;clear hfq;obtain⟨cr,hcr⟩:∃cr,cr=(decide (j≠p)&&(b.getD (j-1) 0==13)):=⟨_,rfl⟩;have hgr:((I==P)||d != 13)=!cr:=by
   rw[heq,hcr]
   by_cases e:j=p
   ·simp[e]
   ·have hq2:q=j-1:=by
     have h1:IsJ q (IntKind.i64.wrap (I-1)):=by
      subst hD;refine hq ?_;show (!(I==P))=true;rw[heq];simpa using e
     have:=h1.h;rw[w1]at this;have:=VI1.h;omega
    rw[hq2]at hdb;have:(d != 13)=!(b.getD (j-1) 0==13):=by
     have h3:=hdb.h;rw[Bool.eq_iff_iff,bne_iff_ne,Bool.not_eq_true',beq_eq_false_iff_ne,ne_eq,ne_eq,Decidable.not_iff_not];constructor
     ·intro g;exact UInt8.toNat_inj.1 (by show (b.getD (j-1) 0).toNat=13;omega)
     ·intro g;rw[h3,g];rfl
    rw[this];simp[e]
  clear hq hdb;have hL:=Agc (m:=b.length-p) V.le hlt h10 V.no h8 cr hcr (r:=r);have hcrp:cr=true->p<j:=λe=>by
   rw[hcr,Bool.and_eq_true,decide_eq_true_eq]at e;have:=V.le;have:=e.1;omega
  clear hcr;have HG:CrB ((I==P)||d != 13) (!cr):=⟨hgr⟩;clear hgr heq;refine⟨λhg=>?_,λf3 n3 hsub=>?_⟩
  ·subst hD
   have hg:(!((I==P)||d != 13))=true:=hg;rw[HG.h]at hg;have:=hcrp (by simpa using hg);exact⟨by show (0:Int)<=P;rw[VP.h];omega,by show P<=IntKind.i64.wrap (I-1);rw[w1,VP.h,VI1.h];omega,by show IntKind.i64.wrap (I-1)<=n;rw[w1,VI1.h,HN.h];omega⟩
  cbv;have hgP:cr=true->A7 f3 n3 ((b.drop p).take (j-1-p)):=λe=>by
   have:=R.sub (a:=p) (b:=j-1) hsub (by subst hD;exact VP.h) (by subst hD;show IntKind.i64.wrap (I-1)=_;rw[w1,VI1.h];have:=hcrp e;omega) (by have:=hcrp e;omega) (by omega);exact this
  have hn3:n3<=1000000:=by
   have:=hsub.len;subst hD;have:n3=IntKind.i64.wrap (I-1)-P:=this;rw[w1,VI1.h,VP.h]at this;have:=HB.h;omega
  clear hsub;refine⟨λhg=>?_,λs hle hs=>?_⟩
  ·have hg:(!((I==P)||d != 13))=true:=by subst hD;exact hg
   rw[HG.h]at hg;have h9:=(hgP (by simpa using hg)).byte;subst hD;exact h9
  cbv;have hse:cr=true->s=(b.drop p).take (j-1-p):=λe=>by
   have h8:(!((I==P)||d != 13))=true:=by rw[HG.h,e];rfl
   have h9:Iw s n3 f3:=by subst hD;exact hs h8
   exact (hgP e).str h9
  have hsl:s.length<=1000000:=by
   rcases hle.h with h|h
   ·have h:(s.length:Int)<=n3:=by subst hD;exact h
    omega
   ·rw[h];simp
  clear hs hle hgP hn3;refine⟨s,rfl,rfl,by omega,λrt hrt=>?_⟩;cbv;rw[Akf]at hrt;refine br hD (λh=>?_) (λh=>?_)<;>cbv
  ·have h:(((I==P)||d != 13)||rt)=true:=h
   rw[HG.h]at h;cases cr with
   |false =>
    rw[hL.1 rfl]at hk;exact Hv hD hk GrH.nil hG rfl rfl
   |true =>
    have h:rt=true:=by simpa using h
    rw[hL.2 rfl,<-hse rfl]at hk;unfold hpL at hk;rw[if_pos (by rw[<-hrt,h];rfl)]at hk;exact Hv hD hk GrH.nil hG rfl rfl
  have h:(((I==P)||d != 13)||rt)=false:=h;rw[HG.h]at h;have hc1:cr=true:=by
   cases cr with
   |true=>rfl
   |false=>simp at h
  have hr0:rt=false:=by rw[hc1]at h;simpa using h
  rw[hL.2 hc1,<-hse hc1]at hk;have hse:=hse hc1;have hpj:=hcrp hc1;clear h hL hcrp HG;unfold hpL at hk;rw[if_neg (by rw[<-hrt,hr0];simp)]at hk;clear hrt hr0 hc1;have hw2:IntKind.i64.wrap (I+1)=I+1:=by have:=VI1.h;have:=HB.h;exact A4 (by omega) (by omega)
  have hw3:IntKind.i64.wrap (P+1)=P+1:=by have:=VP.h;have:=HB.h;exact A4 (by omega) (by omega)
  have hnil:s=[]↔j=p+1:=by
   have hlen:s.length=j-1-p:=by rw[hse,List.length_take,List.length_drop];omega
   constructor
   ·intro e;rw[e]at hlen;simp at hlen;omega
   ·intro e;exact List.eq_nil_of_length_eq_zero (by omega)
  have NI:NilI s j p:=⟨hnil⟩;clear hnil;refine br hD (λh=>?_) (λh=>?_)<;>cbv
  ·have h:(I==IntKind.i64.wrap (P+1))=true:=h
   rw[hw3]at h;have h:=eq_of_beq h;rw[if_pos (NI.h.2 (by have:=VI1.h;have:=VP.h;omega))]at hk;refine Hv hD ?_ V.G hG rfl rfl;rw[hk];show _=(_,IntKind.i64.wrap (I+1),_);rw[hw2,VI1.h];rfl
  have h:(I==IntKind.i64.wrap (P+1))=false:=h;rw[hw3]at h;rw[if_neg (λe=>by
   have:=NI.h.1 e;have h1:=VI1.h;have h2:=VP.h;have:I=P+1:=by omega
   rw[this]at h;simp at h)]at hk
  clear h NI;refine⟨by subst hD;exact⟨by show (0:Int)<=P;rw[VP.h];omega,by show P<=IntKind.i64.wrap (I-1);rw[w1,VP.h,VI1.h];omega,by show IntKind.i64.wrap (I-1)<=n;rw[w1,VI1.h,HN.h];omega⟩,λf4 n4 hsub=>?_⟩;cbv;have R4:A7 f4 n4 s:=by
   have:=R.sub (a:=p) (b:=j-1) hsub (by subst hD;exact VP.h) (by subst hD;show IntKind.i64.wrap (I-1)=_;rw[w1,VI1.h];omega) (by omega) (by omega);rw[hse];exact this
  clear hsub hse;refine⟨by subst hD;exact R4.byte,λs2 hs2=>?_⟩;cbv;have hs2:s2=s:=by subst hD;exact R4.str hs2
  subst hs2;clear R4;obtain⟨q2,hq2⟩:∃q2,q2=Er s2:=⟨_,rfl⟩;rw[<-hq2]at hk;have hrs:((Er s2).1.name.length<=1000000)/\(Er s2).1.value.length<=1000000:=Adl hsl;rw[<-hq2]at hrs;obtain⟨x,ok⟩:=q2;obtain⟨xn,xv⟩:=x;simp only at hk hrs;have HXN:Zn xn 1000000:=⟨hrs.1⟩;have HXV:Zn xv 1000000:=⟨hrs.2⟩;clear hrs;refine⟨s2,rfl,rfl,by omega,λx2 ok2 hr2=>?_⟩;cbv;rw[<-hq2]at hr2;simp only[Prod.mk.injEq]at hr2;obtain⟨rfl,rfl⟩:=hr2;clear hq2 hsl;cbv;refine br hD (λh=>?_) (λh=>?_)<;>cbv
  ·have h:(!ok2)=true:=h
   rw[if_pos h]at hk;exact Hv hD hk GrH.nil hG rfl rfl
  have h:(!ok2)=false:=h;rw[if_neg (by rw[h];simp)]at hk;clear h;have hm1:m1=(r.length:Int):=V.G.row.n;have hd2:(m1==100)=decide (r.length=100):=by rw[Bool.eq_iff_iff,beq_iff_eq,decide_eq_true_eq,hm1];omega
  have hd1:decide (2000<(xv.length:Int))=decide (2000<xv.length):=by rw[decide_eq_decide];omega
  refine br hD (λh=>?_) (λh=>?_)<;>cbv
  ·have h:(decide (2000<(xv.length:Int))||(m1==100))=true:=h
   rw[hd1,hd2]at h;rw[if_pos h]at hk;exact Hv hD hk GrH.nil hG rfl rfl
  have h:(decide (2000<(xv.length:Int))||(m1==100))=false:=h;rw[hd1,hd2]at h;rw[if_neg (by rw[h];simp)]at hk;have h5:¬r.length=100:=by
   simp only[Bool.or_eq_false_iff,decide_eq_false_iff_not]at h;exact h.2
  clear h hd1 hd2 hm1;intro g hg;cbv;have hg0:g 0=Dk ⟨xn,xv⟩:=hg.h 0 _ rfl;clear hg;have hN:m1=(r.length:Int):=V.G.row.n;have hrl:=V.len;refine⟨by subst hD;exact⟨rfl,by show (m1+1) * 32<=_;omega,by show m1+1<=_;omega⟩,λf' n' hm=>?_⟩;cbv;have G2:∀nl',nl'=false->GrH f' n' nl' (r++[⟨xn,xv⟩]):=λnl' hb=>V.G.more hg0 ⟨by have:=HXN.h;show xn.length<=_;omega,by have:=HXV.h;show xv.length<=_;omega⟩ (by subst hD;exact hm) (by omega) hb;clear hm hN;refine⟨_,hst.1,?_⟩;rw[hJ];unfold hrJ;subst hD;exact⟨j+1,j+1,IntKind.i64.wrap (I+1),_,r++[⟨xn,xv⟩],f',n',(c1&&false),rfl,rfl,⟨hst.2,by rw[hw2,VI1.h];omega,by omega,by omega,Pp b _,by rw[hk];exact Abi b _ _ _ _ (by omega) (by omega) (by omega),G2 _ (Bool.and_false _),by rw[List.length_append];simp only[List.length_cons,List.length_nil];omega⟩⟩
 have h:decide (I<n)=false:=h;have hi:i=b.length:=by have:=of_decide_eq_false h;have:=V.lie.le;have:=VI1.h;have:=HN.h;omega
 clear h;rw[hp_none V.le2 (by rw[<-hi];exact V.no)]at hk;refine br hD (λh=>?_) (λh=>?_)<;>cbv
 ·have h:decide (8192<n)=true:=h
  rw[if_pos (by have:=of_decide_eq_true h;have:=HN.h;omega)]at hk;exact Hv hD hk GrH.nil hG rfl rfl
 ·have h:decide (8192<n)=false:=h
  rw[if_neg (by have:=of_decide_eq_false h;have:=HN.h;omega)]at hk;exact Hv hD hk GrH.nil hG rfl rfl
end Go.Proofs.YtdoogdbjiijifaaGreatDoor
