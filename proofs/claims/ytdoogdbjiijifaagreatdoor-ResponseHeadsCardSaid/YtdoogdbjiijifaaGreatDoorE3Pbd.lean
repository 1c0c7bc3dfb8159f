/- Part of the proofs of the statements about responses and messages (layers 9 and 10): a symbolic executor over the code, that it is sound, and contracts of functions; it has no conditions of its own. -/
import Derived.Test.YtdoogdbjiijifaaGreatDoorE3Pbc
import Derived.Test.YtdoogdbjiijifaaGreatDoorE3Pbb
namespace Go.Proofs.YtdoogdbjiijifaaGreatDoor
open Go Go.Sx
set_option maxRecDepth 100000
set_option maxHeartbeats 8000000
def spIs:FSpec:=λ_ xs ls K=>∃(a b s:List UInt8),xs=[.agg [.str a,.str b],.str s]/\ls=[]/\a.length<=9223372036854775807/\s.length<=9223372036854775807/\∀r:Bool,r=(foldF a==foldF s)->K (.bool (.a r)) []
theorem is_ok:Ay Tryz.prog gl 234 spIs:=by
 refine Bq (gh:=[]) mixed B4 (Ab Ti Ai) Tryz.func234 (by kernel_rfl) (by kernel_rfl) ?_;intro xs ls K h;unfold spIs at h;obtain⟨a,b,s,rfl,rfl,ha,hs,h⟩:=h;obtain⟨k,hk⟩:∃k,k=(foldF a==foldF s):=⟨_,rfl⟩;refine⟨_,_,h k hk,λD hD=>?_⟩;cbv;clear h;refine⟨a,rfl,rfl,ha,λu hu=>?_⟩;cbv;refine⟨s,rfl,rfl,hs,λv hv=>?_⟩;cbv;refine Aw hD ?_;rw[hk,<-hu,<-hv];rfl
def Uk(l:List HF)(t:List UInt8):List (List UInt8):=(l.filter λx=>foldF x.name==foldF t).map HF.value
theorem Aiq(x:HF)(l:List HF)(t:List UInt8):Uk (x :: l) t=if foldF x.name==foldF t then x.value :: Uk l t else Uk l t:=by
 unfold Uk;rw[List.filter_cons]
 split<;>simp
def spGet:FSpec:=λ_ xs ls K=>∃(l:List HF) (t:List UInt8) (nl:Bool) (n:Int) (f:Nat->List SV),xs=[.sl (.a nl) (.a n) 2 f,.str t]/\ls=[]/\Bu f n l/\l.length<=100/\t.length<=1000/\∀r g n' b,r=Uk l t->GrS g n' b r->K (.sl (.a b) (.a n') 1 g) []
structure GtJ(l:List HF)(t:List UInt8)(k out:List (List UInt8))(i:Nat)(I n:Int)(b:Bool)(f:Nat->List SV)(m:Nat):Prop where
 lie:AtR l i I m
 row:GrS f n b out
 ol:out.length<=i
 k:k=out++Uk (l.drop i) t
def gtJ(l:List HF)(t:List UInt8)(k:List (List UInt8))(nl:Bool)(N:Int)(F:Nat->List SV)(m:Nat)(vs:List (Option SV))(hp:List Hl):Prop :=
 ∃(out:List (List UInt8)) (i:Nat) (I n:Int) (b:Bool) (f:Nat->List SV),vs=[some (.sl (.a nl) (.a N) 2 F),some (.str t),some (.gsl (.a b) (.a n) 1 f 0),some (.int .i64 (.a I))]/\hp=[.tail 9 (.a n) 1]/\GtJ l t k out i I n b f m
theorem Alz(l:List HF)(t:List UInt8):(Uk l t).length<=l.length:=by
 unfold Uk;rw[List.length_map];exact List.length_filter_le ..
theorem get_ok:Ay Tryz.prog gl 182 spGet:=by
 refine Bq (gh:=[(1,[.attach 5 9])]) mixed B4 (Ab is_ok Ai) Tryz.func182 (by kernel_rfl) (by kernel_rfl) ?_;intro xs ls K h;unfold spGet at h;obtain⟨l,t,nl,N,F,rfl,rfl,R,hl,ht,h⟩:=h;obtain⟨k,hk⟩:∃k,k=Uk l t:=⟨_,rfl⟩;have hkl:=Alz l t;rw[<-hk]at hkl;obtain⟨f1,n1,b1,hG⟩:∃f1 n1 b1,GrS f1 n1 b1 k:=⟨_,_,_,⟨Bl.row (by omega),rfl⟩⟩;clear hkl;refine⟨_,_,h k f1 n1 b1 hk hG,λD hD=>?_⟩;cbv;clear h;obtain⟨J,hJ⟩:∃J,J=gtJ l t k nl N F:=⟨_,rfl⟩;refine⟨[0,1,5,6],J,⟨rfl,l.length,?_⟩,?_⟩
 ·rw[hJ]
  subst hD;exact⟨[],0,_,_,_,_,rfl,rfl,⟨AtR.zero R.len,GrS.nil,Nat.le_refl _,hk⟩⟩
 clear hk;intro m vs hp hj;rw[hJ]at hj;obtain⟨out,i,I,n,b,f,rfl,rfl,V⟩:=hj;cbv;refine br hD (λh=>?_) (λh=>?_)<;>cbv
 ·have hlt:=V.lie.lt R.n (of_decide_eq_true (p:=I<N) h)
  clear h;have inA:=V.lie.inB hD R.n hlt;have hx:=R.f i hlt;have hsm:=R.small i hlt;have hst:=V.lie.step hD hlt;have hk:=V.k;rw[Aml hlt,Aiq]at hk;obtain⟨x,hxx⟩:∃x,x=l.getD i default:=⟨_,rfl⟩;rw[<-hxx]at hx hk hsm;clear hxx;obtain⟨xn,xv⟩:=x;refine⟨inA,λj hj=>?_⟩;have hj:=V.lie.j hD hj;cbv;rw[hj,hx];cbv;refine⟨xn,xv,t,rfl,rfl,hsm.1,by omega,λr hr=>?_⟩;cbv;simp only at hk;rw[<-hr]at hk;clear hr hj;refine br hD (λh=>?_) (λh=>?_)<;>cbv
  ·have h:r=true:=h
   rw[if_pos h]at hk;clear h;refine⟨inA,λj hj=>?_⟩;have hj:=V.lie.j hD hj;cbv;rw[hj,hx];cbv;clear hj;intro g hg;cbv;have hg0:g 0=[.str xv]:=hg.h 0 _ rfl;clear hg;refine⟨by subst hD;exact⟨rfl,by have:=V.row.row.n;have:=V.ol;show (n+1) * 16<=_;omega,by have:=V.row.row.n;have:=V.ol;show n+1<=_;omega⟩,λf' n' hm=>?_⟩;cbv;have G2:∀nl',nl'=false->GrS f' n' nl' (out++[xv]):=λnl' hb=>⟨V.row.row.more hg0 (by subst hD;exact hm) (by have:=V.ol;omega),by rw[hb];simp⟩;clear hm;refine⟨_,hst.1,?_⟩;rw[hJ];unfold gtJ;subst hD;refine⟨out++[xv],i+1,_,n',(b&&false),f',rfl,rfl,⟨hst.2,G2 _ (Bool.and_false _),by have:=V.ol;simp;omega,by rw[hk];simp⟩⟩
  ·have h:r=false:=h
   rw[if_neg (by rw[h];simp)]at hk;refine⟨_,hst.1,?_⟩;rw[hJ];unfold gtJ;subst hD;exact⟨out,i+1,_,n,b,f,rfl,rfl,⟨hst.2,V.row,by have:=V.ol;omega,hk⟩⟩
 have hi:=V.lie.eq R.n (of_decide_eq_false (p:=I<N) h);have hdn:l.drop i=[]:=List.drop_eq_nil_of_le (by omega);have hk:=V.k;rw[hdn]at hk;have hk:k=out:=by rw[hk];simp[Uk]
 subst hk;subst hD;exact D6 (Ol V.row hG rfl rfl)
set_option maxHeartbeats 16000000
def elsF(els:List (List UInt8)):List (List UInt8):=(els.filter Bg).map foldF
def Alb:List (List UInt8)->List (List UInt8)->Option (List (List UInt8))
 | [],out=>some out
 |v :: r,out=>if (Az v).2≠0 then none else Alb r (out++elsF (Az v).1)
structure NaJ(vs:List (List UInt8))(k:Option (List (List UInt8)))(out:List (List UInt8))(i:Nat)(I n:Int)(b:Bool)(f:Nat->List SV)(m:Nat):Prop where
 lie:AtR vs i I m
 row:Bl f n out
 nl:b=false
 ol:out.length<=7+i * 2001
 ne:out≠[]
 vl:vs.length<=100
 vm:∀x∈vs,x.length<=2000
 k:k=Alb (vs.drop i) out
structure NbJ(els:List (List UInt8))(fin out:List (List UInt8))(i j:Nat)(J n:Int)(b:Bool)(f:Nat->List SV)(m:Nat):Prop where
 lie:AtR els j J m
 row:Bl f n out
 nl:b=false
 ol:out.length<=7+i * 2001+j
 el:els.length<=2001
 i:i<=100
 ne:out≠[]
 k:fin=out++elsF (els.drop j)
def keptR(o:List (List UInt8))(l:List HF):List HF:=l.filter λx=>!inF o (foldF x.name)
structure StJ(l:List HF)(o:List (List UInt8))(k out:List HF)(i:Nat)(I n:Int)(b:Bool)(f:Nat->List SV)(m:Nat):Prop where
 lie:AtR l i I m
 row:GrH f n b out
 ol:out.length<=i
 k:k=out++keptR o (l.drop i)
set_option maxHeartbeats 8000000
def Nl(c:Int)(s:List UInt8):Bool:=s.any λb=>((b.toNat:Int)==c)
structure EnV(s:List UInt8)(i:Nat)(I:Int):Prop where
 I:I=i
 len:s.length<=1000000
 le:i<=s.length
structure DgV(n:Int)(k:Nat):Prop where
 lo:0<=n
 lt:n<(k+1:Nat)
 hi:n<=9223372036854775807
structure HpE2(n:Int)(k:Nat):Prop where
 h:n<k
set_option maxHeartbeats 16000000
theorem pre47(s:List UInt8):Lib.hasPrefix s [47]=decide (s≠[]/\charI s 0=47):=by
 cases s with
 |nil=>rfl
 |cons b r =>
  rw[Bool.eq_iff_iff];simp only[Lib.hasPrefix,List.isPrefixOf,Bool.and_true,beq_iff_eq,decide_eq_true_eq,ne_eq,reduceCtorEq,not_false_eq_true,true_and];unfold charI;simp only[List.getD_cons_zero];constructor
  ·intro h;rw[<-h];rfl
  ·intro h
   have:b.toNat=47:=by omega
   exact (UInt8.toNat_inj.1 this).symm
structure IdOk(id:Int):Prop where
 lo:0<=id
set_option maxHeartbeats 8000000
def B5(l:List HF)(t:List UInt8):List (List UInt8):=(l.filter λx=>foldF x.name==t).map HF.value
theorem Lv(x:HF)(l:List HF)(t:List UInt8):B5 (x :: l) t=if foldF x.name==t then x.value :: B5 l t else B5 l t:=by
 unfold B5;rw[List.filter_cons]
 split<;>simp
structure VaJ(l:List HF)(t:List UInt8)(k out:List (List UInt8))(i:Nat)(I n:Int)(b:Bool)(f:Nat->List SV)(m:Nat):Prop where
 lie:AtR l i I m
 row:GrS f n b out
 ol:out.length<=i
 k:k=out++B5 (l.drop i) t
theorem Nq(l:List HF)(t:List UInt8):(B5 l t).length<=l.length:=by
 unfold B5;rw[List.length_map];exact List.length_filter_le ..
def reJ(s:List UInt8)(k:Bool)(m:Nat)(vs:List (Option SV))(hp:List Hl):Prop :=
 ∃(i:Nat) (I:Int),vs=[some (.str s),some (.int .i64 (.a I))]/\hp=[]/\At s i I m/\k=Nl 13 (s.drop i)
theorem Adj:Ay Tryz.prog gl 122 (Ly (Nl 13)):=by
 refine Bq (gh:=[]) mixed B4 Ai Tryz.func122 (by kernel_rfl) (by kernel_rfl) ?_;intro xs ls K h;unfold Ly at h;obtain⟨s,rfl,rfl,hs,h⟩:=h;obtain⟨k,hk⟩:∃k,k=Nl 13 s:=⟨_,rfl⟩;refine⟨_,_,h k hk,λD hD=>?_⟩;cbv;clear h;obtain⟨J,hJ⟩:∃J,J=reJ s k:=⟨_,rfl⟩;refine⟨[0,3],J,⟨rfl,s.length,?_⟩,?_⟩
 ·rw[hJ]
  subst hD;exact⟨0,0,rfl,rfl,At.zero hs,hk⟩
 intro m vs hp hv;rw[hJ]at hv;unfold reJ at hv;obtain⟨i,I,rfl,rfl,V,hk2⟩:=hv;clear hk;cbv;refine br hD (λh=>?_) (λh=>?_)<;>cbv
 ·have hlt:=V.lt (of_decide_eq_true (p:=I<(s.length:Int)) h)
  clear h;rw[Bn hlt]at hk2;refine⟨V.inS hD hlt,λb hb=>?_⟩;cbv;have hb2:=Gk hD V.I hb;have hst:=V.step hD hlt;refine br hD (λh=>?_) (λh=>?_)<;>cbv
  ·have h:(b==13)=true:=h
   refine Aw hD ?_;rw[hk2];show true=(((s.getD i 0).toNat:Int)==13||Nl 13 _);have h3:=hb2.charI;unfold charI at h3;rw[<-h3,h];rfl
  ·have h:(b==13)=false:=h
   refine⟨_,hst.1,?_⟩;rw[hJ];unfold reJ;subst hD;refine⟨i+1,_,rfl,rfl,hst.2,?_⟩;rw[hk2];show (((s.getD i 0).toNat:Int)==13||Nl 13 _)=_;have h3:=hb2.charI;unfold charI at h3;rw[<-h3,h,Bool.false_or]
 have he:=V.eq (of_decide_eq_false (p:=I<(s.length:Int)) h);refine Aw hD ?_;rw[hk2,List.drop_eq_nil_of_le (by omega)];rfl
def Qd(c:Int):Bool:=decide (48<=c)&&decide (c<=57)
def Er(s:List UInt8):HF×Bool :=
 if (!(Am 58 s).2.2||!Bg (Am 58 s).1)||!Br (Am 58 s).2.1 then (⟨[],[]⟩,false) else (⟨(Am 58 s).1,trimF (Am 58 s).2.1⟩,true)
def spRead:FSpec:=λ_ xs ls K=>∃(s:List UInt8),xs=[.str s]/\ls=[]/\s.length<=1000000/\∀x b,(x,b)=Er s->K (.tup [.agg [.str x.name,.str x.value],.bool (.a b)]) []
structure Zn(a:List UInt8)(n:Nat):Prop where
 h:a.length<=n
structure RdJ(s:List UInt8)(i:Nat)(I:Int)(m:Nat):Prop where
 lie:At s i I m
 k:Am 58 s=(s.take i++(Am 58 (s.drop i)).1,(Am 58 (s.drop i)).2)
def rdJ(s:List UInt8)(m:Nat)(vs:List (Option SV))(hp:List Hl):Prop :=
 ∃(i:Nat) (I:Int),vs=[some (.str s),some (.ptr 0 0),some (.int .i64 (.a I))]/\hp=[.blk 100 [.str [],.str []]]/\RdJ s i I m
theorem Amo{s:List UInt8}{i:Nat}(h:i<s.length)(hc:s.getD i 0≠58)(hk:Am 58 s=(s.take i++(Am 58 (s.drop i)).1,(Am 58 (s.drop i)).2)):Am 58 s=(s.take (i+1)++(Am 58 (s.drop (i+1))).1,(Am 58 (s.drop (i+1))).2):=by
 have e:Am 58 (s.drop i)=(s.getD i 0 :: (Am 58 (s.drop (i+1))).1,(Am 58 (s.drop (i+1))).2):=by
  rw[Bn h];rw[show Am 58 (s.getD i 0 :: s.drop (i+1))=if s.getD i 0==58 then ([],s.drop (i+1),true) else (s.getD i 0 :: (Am 58 (s.drop (i+1))).1,(Am 58 (s.drop (i+1))).2) from rfl,if_neg (by simpa using hc)]
 rw[hk,e];simp only[Prod.mk.injEq,and_true];rw[List.take_add_one,List.getElem?_eq_getElem h,Ib h];simp only[Option.toList_some,List.append_assoc,List.singleton_append]
theorem cut_hit{s:List UInt8}{i:Nat}(h:i<s.length)(hc:s.getD i 0=58)(hk:Am 58 s=(s.take i++(Am 58 (s.drop i)).1,(Am 58 (s.drop i)).2)):Am 58 s=(s.take i,s.drop (i+1),true):=by
 have e:Am 58 (s.drop i)=([],s.drop (i+1),true):=by
  rw[Bn h];rw[show Am 58 (s.getD i 0 :: s.drop (i+1))=if s.getD i 0==58 then ([],s.drop (i+1),true) else (s.getD i 0 :: (Am 58 (s.drop (i+1))).1,(Am 58 (s.drop (i+1))).2) from rfl,if_pos (by rw[hc];rfl)]
 rw[hk,e,List.append_nil]
theorem finRd{D:Dn}(hD:D=dn){a b:List UInt8}{x:HF}{c:Bool}{y:BT}(h1:(x,c)=(⟨a,b⟩,y.den)):Fin (.tup [.agg [.str a,.str b],.bool (.a (D.b y))]) (.tup [.agg [.str x.name,.str x.value],.bool (.a c)]) [] []:=by
 subst hD;obtain⟨rfl,rfl⟩:=Prod.mk.inj h1;exact D6 (LeV.refl _)
structure EqB(a b:Bool):Prop where
 h:a=b
theorem read_ok:Ay Tryz.prog gl 123 spRead:=by
 refine Bq (gh:=[]) mixed B4 (Ab H8 (Ab Qu (Ab Zu Ai))) Tryz.func123 (by kernel_rfl) (by kernel_rfl) ?_;intro xs ls K h;unfold spRead at h;obtain⟨s,rfl,rfl,hs,h⟩:=h;obtain⟨k,hk⟩:∃k,k=Er s:=⟨_,rfl⟩;obtain⟨kx,kb⟩:=k;refine⟨_,_,h kx kb hk,λD hD=>?_⟩;cbv;clear h;obtain⟨J,hJ⟩:∃J,J=rdJ s:=⟨_,rfl⟩;refine⟨[0,2,4],J,⟨rfl,s.length,?_⟩,?_⟩
 ·rw[hJ]
  subst hD;exact⟨0,0,rfl,rfl,⟨At.zero (by omega),by simp⟩⟩
 intro m vs hp hv;rw[hJ]at hv;unfold rdJ at hv;obtain⟨i,I,rfl,rfl,V⟩:=hv;have VL:Zn s 1000000:=⟨hs⟩;clear hs;cbv;have hin:decide (I<(s.length:Int))=true->i<s.length:=λh=>V.lie.lt (of_decide_eq_true h);have hnin:decide (I<(s.length:Int))=false->i=s.length:=λh=>V.lie.eq (of_decide_eq_false h);refine⟨λhg=>?_,λc hc=>?_⟩
 ·subst hD
  exact V.lie.inS rfl (hin hg)
 cbv;have hc2:=Gk hD V.lie.I hc;clear hc;refine br hD (λh=>?_) (λh=>?_)<;>cbv
 ·have h:(decide (I<(s.length:Int))&&c != 58)=true:=h
  rw[Bool.and_eq_true]at h;have hlt:=hin h.1;have hst:=V.lie.step hD hlt;have hne:s.getD i 0≠58:=by
   intro e;have h3:=hc2.h;rw[e]at h3;rw[h3]at h;exact absurd h.2 (by decide)
  refine⟨_,hst.1,?_⟩;rw[hJ];unfold rdJ;subst hD;exact⟨i+1,_,rfl,rfl,⟨hst.2,Amo hlt hne V.k⟩⟩
 have h:(decide (I<(s.length:Int))&&c != 58)=false:=h;have hI:=V.lie.I;have hle:=V.lie.le;have w1:IntKind.i64.wrap (I+1)=I+1:=by have:=VL.h;exact A4 (by omega) (by omega)
 have VI1:VI I i:=⟨hI⟩;have heq:(I==(s.length:Int))=decide (i=s.length):=by rw[Bool.eq_iff_iff,beq_iff_eq,decide_eq_true_eq];omega
 have hhit:i<s.length->s.getD i 0=58:=λhlt=>by
  have e:decide (I<(s.length:Int))=true:=by simp only[decide_eq_true_eq];omega
  rw[e,Bool.true_and]at h;have h3:=hc2.h;have h4:c=58:=by simpa using h
  have:(s.getD i 0).toNat=58:=by omega
  exact UInt8.toNat_inj.1 this
 have hend:i=s.length->(Am 58 s).2.2=false:=λe=>by
  rw[V.k,List.drop_eq_nil_of_le (by omega)];rfl
 have hmid:i<s.length->Am 58 s=(s.take i,s.drop (i+1),true):=λe=>cut_hit e (hhit e) V.k;have HE:EqB (I==(s.length:Int)) (decide (i=s.length)):=⟨heq⟩;clear h hin hnin hI heq hhit V;unfold Er at hk;have VL2:=VL.h;refine⟨λhg=>?_,λx hx=>?_⟩
 ·subst hD
  exact⟨by decide,by show (0:Int)<=I;rw[VI1.h];omega,by show I<=(s.length:Int);rw[VI1.h];omega⟩
 cbv;have hxe:x=s.take i:=by
  subst hD;have h7:x=(s.drop 0).take (I.toNat-0):=hx.h;have e9:I.toNat-0=i:=by have:=VI1.h;omega
  rw[h7,e9,List.drop_zero]
 refine⟨x,rfl,rfl,by rw[hxe,List.length_take];omega,λtk htk=>?_⟩;cbv;rw[<-Nr]at htk;refine⟨λhg=>?_,λy hy=>?_⟩
 ·subst hD
  have hg:(!((I==(s.length:Int))||!tk))=true:=hg;simp only[Bool.not_eq_true',Bool.or_eq_false_iff]at hg;have h5:=hg.1;rw[HE.h]at h5;have h5:=of_decide_eq_false h5;exact⟨by show 0<=IntKind.i64.wrap (I+1);rw[w1,VI1.h];omega,by show IntKind.i64.wrap (I+1)<=(s.length:Int);rw[w1,VI1.h];omega,Int.le_refl _⟩
 cbv;have hye:y=s.drop (i+1):=by
  subst hD;have h7:y=(s.drop (IntKind.i64.wrap (I+1)).toNat).take ((s.length:Int).toNat-(IntKind.i64.wrap (I+1)).toNat):=hy.h;have e9:(IntKind.i64.wrap (I+1)).toNat=i+1:=by rw[w1,VI1.h];omega
  rw[h7,e9,List.take_of_length_le (by rw[List.length_drop];omega)]
 refine⟨y,rfl,rfl,by rw[hye,List.length_drop];omega,λpl hpl=>?_⟩;cbv;refine br hD (λh=>?_) (λh=>?_)<;>cbv
 ·have h:(((I==(s.length:Int))||!tk)||!pl)=true:=h
  rw[HE.h]at h;have hc:((!(Am 58 s).2.2||!Bg (Am 58 s).1)||!Br (Am 58 s).2.1)=true:=by
   by_cases e:i=s.length
   ·rw[hend e];rfl
   ·rw[hmid (by omega)]
    rw[decide_eq_false e]at h;simp only;rw[<-hxe,<-hye,<-htk,<-hpl];exact h
  rw[if_pos hc]at hk;exact finRd hD hk
 have h:(((I==(s.length:Int))||!tk)||!pl)=false:=h;rw[HE.h]at h;have e:¬i=s.length:=by
  simp only[Bool.or_eq_false_iff,decide_eq_false_iff_not]at h;exact h.1.1
 rw[decide_eq_false e]at h;have hi:i<s.length:=by omega
 rw[hmid hi]at hk;simp only at hk;rw[<-hxe,<-hye,<-htk,<-hpl]at hk;have hc:¬((!true||!tk)||!pl)=true:=by
  intro g;rw[show ((!true||!tk)||!pl)=((false||!tk)||!pl) from rfl,h]at g;cases g
 rw[if_neg hc]at hk;clear h hc hend hmid HE;refine⟨by subst hD;exact⟨by decide,by show (0:Int)<=I;rw[VI1.h];omega,by show I<=(s.length:Int);rw[VI1.h];omega⟩,λx' hx'=>?_⟩;cbv;have hxx:x'=x:=by
  subst hD;have h7:x'=(s.drop 0).take (I.toNat-0):=hx'.h;have e9:I.toNat-0=i:=by have:=VI1.h;omega
  rw[h7,e9,List.drop_zero,hxe]
 refine⟨by subst hD;exact⟨by show 0<=IntKind.i64.wrap (I+1);rw[w1,VI1.h];omega,by show IntKind.i64.wrap (I+1)<=(s.length:Int);rw[w1,VI1.h];omega,Int.le_refl _⟩,λy' hy'=>?_⟩;cbv;have hyy:y'=y:=by
  subst hD;have h7:y'=(s.drop (IntKind.i64.wrap (I+1)).toNat).take ((s.length:Int).toNat-(IntKind.i64.wrap (I+1)).toNat):=hy'.h;have e9:(IntKind.i64.wrap (I+1)).toNat=i+1:=by rw[w1,VI1.h];omega
  rw[h7,e9,List.take_of_length_le (by rw[List.length_drop];omega),hye]
 refine⟨y',rfl,rfl,by rw[hyy,hye,List.length_drop];omega,λz hz=>?_⟩;cbv;rw[hyy]at hz;rw[<-hz]at hk;subst hxx;exact finRd hD hk
set_option maxHeartbeats 400000
def Mb(b:List UInt8)(p i:Nat):Prop:=∀j,p<=j->j<i->b.getD j 0≠10
theorem Pp(b:List UInt8)(p:Nat):Mb b p p:=λj h h2=>by omega
theorem W0{b:List UInt8}{p i:Nat}(h:Mb b p i)(hc:b.getD i 0≠10):Mb b p (i+1):=λj h1 h2=>by
 by_cases e:j=i
 ·rw[e];exact hc
 ·exact h j h1 (by omega)
theorem Yr{s:List UInt8}{c:UInt8}:∀ {j:Nat},j<s.length->s.getD j 0=c->(∀k,k<j->s.getD k 0≠c)->Lib.indexByte s c=(j:Int):=by
 induction s with
 |nil=>intro j h;simp at h
 |cons b r ih =>
  intro j h hc hn;unfold Lib.indexByte;cases j with
  |zero=>rw[if_pos (by simp[show b=c by simpa using hc])];rfl
  |succ j =>
   have h0:=hn 0 (by omega);rw[if_neg (by simpa using h0)];rw[ih (j:=j) (by simpa using h) (by simpa using hc) (λk hk=>by have:=hn (k+1) (by omega);simpa using this)];rw[if_neg (by simp<;>omega)];omega
theorem nl_at{b:List UInt8}{p i:Nat}(hp:p<=i)(h:i<b.length)(hc:b.getD i 0=10)(hn:Mb b p i):Lib.indexByte (b.drop p) 10=((i-p:Nat):Int):=by
 apply Yr
 ·rw[List.length_drop];omega
 ·rw[List.getD_eq_getElem?_getD,List.getElem?_drop,<-List.getD_eq_getElem?_getD,show p+(i-p)=i by omega,hc]
 ·intro k hk
  have:=hn (p+k) (by omega) (by omega);rw[List.getD_eq_getElem?_getD,List.getElem?_drop,<-List.getD_eq_getElem?_getD];exact this
theorem nl_none{b:List UInt8}{p:Nat}(hn:Mb b p b.length):Lib.indexByte (b.drop p) 10=-1:=by
 apply Hq;intro j hj;rw[List.length_drop]at hj;have:=hn (p+j) (by omega) (by omega);rw[List.getD_eq_getElem?_getD,List.getElem?_drop,<-List.getD_eq_getElem?_getD];exact this
theorem hp_none{b:List UInt8}{p m:Nat}{r:List HF}(hp:p<=8192)(hn:Mb b p b.length):hpG b (m+1) p r=([],0,if 8192<b.length then 3 else 10):=by
 rw[hpG,nl_none hn]
 by_cases h:8192<b.length
 ·rw[if_pos (by simp[h]),if_pos h]
 ·rw[if_neg (by simp;omega),if_neg h,if_pos (by omega)]
theorem hp_far{b:List UInt8}{p m i:Nat}{r:List HF}(hp:p<=i)(h:i<b.length)(hc:b.getD i 0=10)(hn:Mb b p i)(h8:8192<=i):hpG b (m+1) p r=([],0,3):=by
 rw[hpG,nl_at hp h hc hn];rw[if_pos (by simp;omega)]
def hpL(b:List UInt8)(m i:Nat)(r:List HF)(cr:Bool)(s:List UInt8):List HF×Int×Int :=
 if (!cr)||decide (0<=Lib.indexByte s 13) then ([],0,6) else
 if s=[] then (r,(i:Int)+1,0) else
 if (!(Er s).2) then ([],0,6) else
 if decide (2000<(Er s).1.value.length)||decide (r.length=100) then ([],0,3) else
 hpG b m (i+1) (r++[(Er s).1])
theorem suf1(s:List UInt8)(c:UInt8):Lib.hasSuffix s [c]=(decide (s≠[])&&(s.getD (s.length-1) 0==c)):=by
 rw[Bool.eq_iff_iff];unfold Lib.hasSuffix;rw[List.isSuffixOf_iff_suffix,Bool.and_eq_true,decide_eq_true_eq,beq_iff_eq];constructor
 ·rintro⟨t,rfl⟩
  refine⟨by simp,?_⟩;rw[List.length_append];simp[List.getD_eq_getElem?_getD]
 ·rintro⟨h1,h2⟩
  refine⟨s.take (s.length-1),?_⟩;have hl:s.length-1<s.length:=by cases s with|nil=>exact absurd rfl h1|cons a r=>simp
  rw[Ib hl]at h2;have:=List.take_append_drop (s.length-1) s;rw[Bn hl,Ib hl,h2,List.drop_eq_nil_of_le (by omega)]at this;exact this
theorem Agc{b:List UInt8}{p m i:Nat}{r:List HF}(hp:p<=i)(h:i<b.length)(hc:b.getD i 0=10)(hn:Mb b p i)(h8:i<8192)(cr:Bool)(hcr:cr=(decide (i≠p)&&(b.getD (i-1) 0==13))):
  (cr=false->hpG b (m+1) p r=([],0,6))/\(cr=true->hpG b (m+1) p r=hpL b m i r true ((b.drop p).take (i-1-p))):=by
 have hs:Lib.hasSuffix ((b.drop p).take (i-p)) [13]=cr:=by
  rw[suf1,hcr]
  by_cases e:i=p
  ·rw[e];simp
  ·have hl:((b.drop p).take (i-p)).length=i-p:=by rw[List.length_take,List.length_drop];omega
   have e1:decide ((b.drop p).take (i-p)≠[])=true:=by
    rw[decide_eq_true_eq];intro e2;rw[e2]at hl;simp at hl;omega
   have e2:decide (i≠p)=true:=by simpa using e
   rw[e1,e2,Bool.true_and,Bool.true_and,hl];rw[List.getD_eq_getElem?_getD,List.getElem?_take,if_pos (by omega),List.getElem?_drop,<-List.getD_eq_getElem?_getD,show p+(i-p-1)=i-1 by omega]
 have hkey:(cr=true->Lib.trimSuffix ((b.drop p).take (i-p)) [13]=(b.drop p).take (i-1-p)):=λe=>by
  unfold Lib.trimSuffix;rw[hs,if_pos e,List.length_take,List.length_drop,List.take_take];congr 1;simp only[List.length_cons,List.length_nil];omega
 rw[hpG,nl_at hp h hc hn];rw[if_neg (by simp;omega),if_neg (by omega)];have ent:(((i-p:Nat):Int)).toNat=i-p:=by omega
 rw[ent,hs];refine⟨λe=>by rw[if_pos (by rw[e];rfl)],λe=>?_⟩;rw[hkey e];obtain⟨s,hse⟩:∃s,s=(b.drop p).take (i-1-p):=⟨_,rfl⟩;rw[<-hse];have e3:(p:Int)+((i-p:Nat):Int)+1=(i:Int)+1:=by omega
 have e4:p+(i-p)+1=i+1:=by omega
 rw[e3,e4,e];unfold hpL Er
 split
 ·rfl
 split
 ·rfl
 split
 ·simp
 ·simp only[Bool.not_true,Bool.false_eq_true,if_false]
set_option maxHeartbeats 8000000
def Ca(s:List UInt8):Bool:=s.all λb=>Qd (b.toNat:Int)
def O4(s:List UInt8):List UInt8:=if (1<s.length/\charI s 0=45)/\charI s 1≠48 then s.drop 1 else s
def Aek(s:List UInt8):Bool:=(!(decide (O4 s=[])||(decide (1<(O4 s).length)&&decide (charI (O4 s) 0=48))))&&Ca (O4 s)
theorem Ab4(t:List UInt8):(Lib.trimS t Zb=[])↔Ca t=true:=by
 unfold Ca;rw[List.all_eq_true];have e:∀c:UInt8,Zb.contains c=Qd (c.toNat:Int):=λc=>by
  rw[Bool.eq_iff_iff,dig_in];unfold Qd;simp only[Bool.and_eq_true,decide_eq_true_eq];omega
 constructor
 ·intro h c hc
  rw[<-e];exact Aha h c hc
 ·intro h
  show ((t.reverse.dropWhile (λx=>Zb.contains x)).reverse).dropWhile (λx=>Zb.contains x)=[];rw[Ek];intro x hx;have hx:=List.mem_reverse.1 hx;have hx:x∈t.reverse:=(List.dropWhile_suffix _).subset hx;rw[e];exact h x (List.mem_reverse.1 hx)
theorem Agr(s:List UInt8):Aek s=Ab7 s:=by
 unfold Ab7;have hA:∀t:List UInt8,(t=[]\/Lib.trimS t Zb≠[])↔¬(t≠[]/\Ca t=true):=λt=>by
  rw[<-Ab4];constructor
  ·rintro (h|h) ⟨a,b⟩
   ·exact a h
   ·exact h b
  ·intro h
   rcases Decidable.em (t=[]) with e|e
   ·exact .inl e
   ·exact .inr λg=>h ⟨e,g⟩
 match s with
 | []=>rfl
 |c :: r =>
  by_cases hc:c=45
  ·subst hc
   have hp:He (45 :: r) [45]=r:=by
    unfold He preB;simp
   rw[hp]
   match r with
   | []=>rfl
   |d :: r' =>
    by_cases hd:d=48
    ·subst hd
     have ht:O4 (45 :: 48 :: r')=45 :: 48 :: r':=by
      unfold O4;rw[if_neg];rintro⟨_,h⟩;exact h rfl
     have h1:Aek (45 :: 48 :: r')=false:=by
      unfold Aek;rw[ht];have:Ca (45 :: 48 :: r')=false:=rfl;rw[this,Bool.and_false]
     rw[h1]
     split
     ·rfl
     ·show false=(((48:UInt8) != 48)||((45 :: 48 :: r':List UInt8)==[48]))
      rfl
    ·have ht:O4 (45 :: d :: r')=d :: r':=by
      unfold O4;rw[if_pos]
      ·rfl
      ·refine⟨⟨by simp,rfl⟩,λh=>hd ?_⟩
       have h:(d.toNat:Int)=48:=h;have:d.toNat=48:=by omega
       exact UInt8.toNat_inj.1 this
     unfold Aek;rw[ht];have e0:decide (charI (d :: r') 0=48)=false:=by
      rw[decide_eq_false];intro h;apply hd;have h:(d.toNat:Int)=48:=h;have:d.toNat=48:=by omega
      exact UInt8.toNat_inj.1 this
     rw[e0,Bool.and_false];have e1:((d :: r').getD 0 0 != 48)=true:=by simpa using hd
     rw[e1,Bool.true_or]
     by_cases hg:Ca (d :: r')=true
     ·rw[if_neg (by rw[hA];simp[hg]),hg]
      simp
     ·rw[if_pos (by rw[hA];exact λh=>hg h.2)]
      simp at hg;simp[hg]
  ·have hp:He (c :: r) [45]=c :: r:=by
    unfold He preB;simp[hc]
   rw[hp];have ht:O4 (c :: r)=c :: r:=by
    unfold O4;rw[if_neg];rintro⟨⟨_,h⟩,_⟩;apply hc;have h:(c.toNat:Int)=45:=h;have:c.toNat=45:=by omega
    exact UInt8.toNat_inj.1 this
   unfold Aek;rw[ht]
   by_cases hg:Ca (c :: r)=true
   ·rw[if_neg (by rw[hA];simp[hg]),hg,Bool.and_true]
    by_cases h48:c=48
    ·subst h48
     cases r with
     |nil=>rfl
     |cons d r' =>
      show (!(decide _||(decide (1<r'.length+1+1)&&true)))=_;rw[decide_eq_true (show 1<r'.length+1+1 by omega)];simp
    ·have e0:decide (charI (c :: r) 0=48)=false:=by
      rw[decide_eq_false];intro h;apply h48;have h:(c.toNat:Int)=48:=h;have:c.toNat=48:=by omega
      exact UInt8.toNat_inj.1 this
     have e1:((c :: r).getD 0 0 != 48)=true:=by simpa using h48
     rw[e0,e1,Bool.and_false];simp
   ·rw[if_pos (by rw[hA];exact λh=>hg h.2)]
    simp at hg;simp[hg]
set_option maxHeartbeats 16000000
def B6:Nat->List UInt8->Nat
 |acc,[]=>acc
 |acc,c :: r=>if c=45 then B6 acc r else B6 (acc * 10+(c.toNat-48)) r
theorem S5:∀(l:List UInt8) (acc:Nat),acc<=B6 acc l
 | [],acc=>Nat.le_refl _
 |c :: r,acc=>by
  unfold B6
  split
  ·exact S5 r acc
  ·exact Nat.le_trans (by omega) (S5 r _)
def Aif(s:List UInt8)(hi:Int):Int×Int :=
 if !Ab7 s then (0,6) else if charI s 0=45 then (0,7) else if (B6 0 s:Int)<=hi then ((B6 0 s:Int),0) else (0,7)
theorem Akr:∀(l:List UInt8) (acc:Nat),(∀c∈l,48<=c.toNat/\c.toNat<=57)->acc<=18446744073709551615->Lib.parseUintM 18446744073709551615 acc l=if B6 acc l<=18446744073709551615 then .ok (B6 acc l) else .range
 | [],acc,_,h=>by simp[Lib.parseUintM,B6,h]
 |c :: r,acc,h,ha=>by
  have hc:=h c (List.mem_cons_self ..);have hr:∀d∈r,48<=d.toNat/\d.toNat<=57:=λd hd=>h d (List.mem_cons_of_mem _ hd);have hne:c≠45:=by rintro rfl;exact absurd hc.1 (by decide)
  rw[Lib.parseUintM,if_pos hc,B6,if_neg hne];have hm:=S5 r (acc * 10+(c.toNat-48))
  split
  ·rw[if_neg (by omega)]
  ·split
   ·rw[if_neg (by omega)]
   ·exact Akr r _ hr (by omega)
theorem Nb{s:List UInt8}(h:Ca s=true):∀c∈s,48<=c.toNat/\c.toNat<=57:=λc hc=>by
 have:=List.all_eq_true.1 h c hc;unfold Qd at this;simp only[Bool.and_eq_true,decide_eq_true_eq]at this;omega
theorem Akw{s:List UInt8}(hne:s≠[])(h:Ca s=true):Aht s=if B6 0 s<9223372036854775808 then ((B6 0 s:Int),true) else (9223372036854775807,false):=by
 match s,hne with
 |c :: r,_ =>
  have hd:=Nb h;have hc:=hd c (List.mem_cons_self ..);have hpm:=Akr (c :: r) 0 hd (by omega);have hp:Lib.parseIntB 64 (c :: r)=if B6 0 (c :: r)<9223372036854775808 then .ok (B6 0 (c :: r):Int) else .range:=by
   unfold Lib.parseIntB;simp only;rw[if_neg (by omega)];unfold Lib.parseUintB;rw[if_neg (by simp)];have hpm2:Lib.parseUintM (2 ^ 64-1) 0 (c :: r)=if B6 0 (c :: r)<=18446744073709551615 then .ok (B6 0 (c :: r)) else .range:=hpm
   rw[hpm2]
   generalize B6 0 (c :: r)=v
   by_cases h1:v<=18446744073709551615
   ·rw[if_pos h1]
    simp only
    by_cases h2:v<9223372036854775808
    ·rw[if_neg (by omega),if_neg (by omega),if_neg (by omega),if_pos h2]
    ·rw[if_pos ⟨by omega,by omega⟩,if_neg h2]
   ·rw[if_neg h1,if_neg (by omega)]
  unfold Aht;rw[hp]
  by_cases h2:B6 0 (c :: r)<9223372036854775808
  ·rw[if_pos h2,if_pos h2]
  ·rw[if_neg h2,if_neg h2]
   have:Lib.intSat 64 (c :: r)=9223372036854775807:=by
    unfold Lib.intSat;rw[if_neg (by simp;omega)];rfl
   rw[this]
theorem Ael{s:List UInt8}(h:Ab7 s=true)(h0:charI s 0≠45):s≠[]/\Ca s=true:=by
 rw[<-Agr]at h;unfold Aek at h;have ht:O4 s=s:=by unfold O4;rw[if_neg (λg=>h0 g.1.2)]
 rw[ht]at h;simp only[Bool.and_eq_true,Bool.not_eq_true',Bool.or_eq_false_iff,decide_eq_false_iff_not]at h;exact⟨h.1.1,h.2⟩
theorem Aao(s:List UInt8){hi:Int}(h0:0<=hi)(h1:hi<=1000000000):Gu s hi=if (Aif s hi).2=7/\charI s 0=45 then ((Aif s hi).1,6) else Aif s hi:=by
 unfold Gu Aif;have hp:Lib.hasPrefix s [45]=decide (s≠[]/\charI s 0=45):=by
  cases s with
  |nil=>rfl
  |cons b r =>
   rw[Bool.eq_iff_iff];simp only[Lib.hasPrefix,List.isPrefixOf,Bool.and_true,beq_iff_eq,decide_eq_true_eq,ne_eq,reduceCtorEq,not_false_eq_true,true_and];unfold charI;simp only[List.getD_cons_zero];constructor
   ·intro h;rw[<-h];rfl
   ·intro h
    have:b.toNat=45:=by omega
    exact (UInt8.toNat_inj.1 this).symm
 by_cases hd:Ab7 s=true
 ·rw[hd]
  by_cases h45:charI s 0=45
  ·have hne:s≠[]:=by rintro rfl;revert h45;decide
   rw[hp,decide_eq_true ⟨hne,h45⟩];simp[h45]
  ·have hP:=Ael hd h45
   rw[hp,decide_eq_false (λg=>h45 g.2)];simp only[Bool.not_true,Bool.false_eq_true,if_false,h45];unfold intF;rw[hd,Akw hP.1 hP.2];simp only[Bool.not_true,Bool.false_eq_true,if_false]
   generalize B6 0 s=v
   by_cases h2:v<9223372036854775808
   ·rw[if_pos h2]
    simp only[Bool.true_eq_false,false_or]
    by_cases h3:(v:Int)<=hi
    ·rw[if_neg (by omega),if_pos h3]
     simp
    ·rw[if_pos (by omega),if_neg h3]
     simp
   ·have h4:¬(v:Int)<=hi:=by omega
    rw[if_neg h2,if_pos (.inl rfl),if_neg h4];simp
 ·have hd:Ab7 s=false:=by simpa using hd
  rw[hd];simp only[Bool.not_false,if_true];have e7:¬((6:Int)=7/\charI s 0=45):=λg=>absurd g.1 (by decide);rw[if_neg e7]
  split
  ·simp
  ·unfold intF;rw[hd];simp
set_option maxHeartbeats 4000000
structure LenOk(t:List UInt8):Prop where
 h:t.length<=100000
structure CondIs(c:Bool)(s:List UInt8):Prop where
 h:c=decide ((1<s.length/\charI s 0=45)/\charI s 1≠48)
structure InJ(s:List UInt8)(fin acc i:Nat)(I N:Int)(m:Nat):Prop where
 lie:At s i I m
 N:N=-(acc:Int)
 le:acc<=9223372036854775808
 k:fin=B6 acc (s.drop i)
 cs:∀c∈s,c.toNat=45\/(48<=c.toNat/\c.toNat<=57)
structure HiOk(hi:Int):Prop where
 lo:0<=hi
 hi:hi<=1000000000
structure FinIs(fin:Nat)(mn:Bool):Prop where
 h:mn=true->1<=fin
structure IntK(kv ke:Int)(mn:Bool)(fin:Nat)(hi:Int):Prop where
 h:(kv,ke)=if mn=true then ((0:Int),(7:Int)) else if (fin:Int)<=hi then ((fin:Int),0) else (0,7)
structure QuoIs(q:Int)(d:Nat):Prop where
 h:q=-(((9223372036854775808-d) / 10:Nat):Int)
structure NIs(N:Int)(fin:Nat):Prop where
 h:N=-(fin:Int)
 le:fin<=9223372036854775808
structure KIs(kv ke:Int)(fin:Nat)(hi:Int):Prop where
 h:(kv,ke)=if (false=true) then ((0:Int),(7:Int)) else if (fin:Int)<=hi then ((fin:Int),0) else (0,7)
set_option maxHeartbeats 16000000
theorem Age(b:List UInt8):∀(m p:Nat) (r:List HF),p<=b.length->(∀x∈r,x.value.length<=2000)->
  (∀x∈(hpG b m p r).1,x.value.length<=2000)/\0<=(hpG b m p r).2.1/\(hpG b m p r).2.1<=b.length
 |0,p,r,_,_=>⟨λx hx=>by simp[hpG]at hx,by simp[hpG],by simp[hpG]⟩
 |m+1,p,r,hp,hs=>by
  have h0:∀z:Int,(∀x∈(([],0,z):List HF×Int×Int).1,x.value.length<=2000)/\0<=(([],0,z):List HF×Int×Int).2.1/\(([],0,z):List HF×Int×Int).2.1<=(b.length:Int):=λz=>⟨λx hx=>(nomatch hx),by simp,by simp⟩;have hi:=Hb (s:=b.drop p) (c:=10);rw[List.length_drop]at hi;unfold hpG
  split
  ·exact h0 _
  split
  ·exact h0 _
  rename_i hn;have hi2:=hi.2 (by omega)
  split
  ·exact h0 _
  split
  ·exact⟨hs,by show 0<=(p:Int)+_+1;omega,by show (p:Int)+_+1<=_;omega⟩
  split
  ·exact h0 _
  split
  ·exact h0 _
  rename_i h;simp only[Bool.or_eq_true,decide_eq_true_eq,not_or]at h;obtain⟨h1,h2⟩:=h;refine Age b m _ _ (by omega) λx hx=>?_;rcases List.mem_append.1 hx with hx|hx
  ·exact hs x hx
  ·have hx:=List.mem_singleton.1 hx
   subst hx;show (trimF _).length<=_;omega
theorem Uh(b:List UInt8):(∀x∈(Av b).1,x.value.length<=2000)/\0<=(Av b).2.1/\(Av b).2.1<=b.length:=Age b _ 0 [] (by omega) (λx hx=>by cases hx)
structure FrSm(r:Fr):Prop where
 hosts:∀s∈r.hosts,s.length<=2000
 ids:∀s∈r.ids,s.length<=2000
 lens:∀s∈r.lens,s.length<=2000
def rqZ:Rq:=⟨0,[],[],[],[],[]⟩
def Akt(b:List UInt8)(r:Rq)(p sz:Int):Rq×Int×Int :=
 if (Agt r).2≠0 then (rqZ,0,(Agt r).2) else if decide (0<sz)&&Agw r.method then (rqZ,0,2) else if (b.length:Int)-p<sz then (rqZ,0,10) else
 (⟨r.id,r.method,r.target,r.host,r.fields,(b.drop p.toNat).take sz.toNat⟩,p+sz,0)
def Aku(b me ta:List UInt8)(p:Int)(ho:List UInt8)(fs:List HF)(ia la:Int×Int):Rq×Int×Int :=
 if ia.2=6\/la.2=6 then (rqZ,0,6) else if la.2≠0 then (rqZ,0,3) else Akt b ⟨ia.1,me,ta,ho,fs,[]⟩ p la.1
def Al3(fr:Fr):Bool:=((fr.hosts.length != 1||fr.ids.length != 1)||decide (1<fr.lens.length))||fr.coded
def lenS(fr:Fr):List UInt8:=if fr.lens.length=0 then [48] else fr.lens.getD 0 []
def Akv(b me ta:List UInt8)(p:Int)(fr:Fr):Rq×Int×Int :=
 if Al3 fr then (rqZ,0,6) else Aku b me ta p (fr.hosts.getD 0 []) fr.rest (Gu (fr.ids.getD 0 []) 1000000000) (Gu (lenS fr) 65536)
def Aks(b:List UInt8):Rq×Int×Int :=
 if (C8 b).2.2.2≠0 then (rqZ,0,(C8 b).2.2.2) else
 if (Av (b.drop (C8 b).2.2.1.toNat)).2.2≠0 then (rqZ,0,(Av (b.drop (C8 b).2.2.1.toNat)).2.2) else
 Akv b (C8 b).1 (C8 b).2.1 ((C8 b).2.2.1+(Av (b.drop (C8 b).2.2.1.toNat)).2.1) (It (Av (b.drop (C8 b).2.2.1.toNat)).1)
structure PV(b me ta:List UInt8)(p:Int):Prop where
 lo:0<=p
 hi:p<=(b.length:Int)
 me:me.length<=1025
 ta:ta.length<=1025
set_option maxHeartbeats 4000000
def findV(t:List UInt8):List HF->Option (List UInt8)
 | []=>none
 |x :: l=>if foldF x.name=t then some x.value else findV t l
structure KyJ(l:List HF)(k:Option (List UInt8))(t:List UInt8)(i:Nat)(I:Int)(m:Nat):Prop where
 lie:AtR l i I m
 k:k=findV t (l.drop i)
structure LnJ(b:List UInt8)(i:Nat)(I:Int)(m:Nat):Prop where
 lie:At b i I m
 le:i<=1024
 k:lnK b i
structure CB(c:Int)(x:UInt8):Prop where
 h:c=(x.toNat:Int)
structure CK(g:Bool)(c:Int)(x:UInt8):Prop where
 h:g=true->c=(x.toNat:Int)
structure SpJ(t:List UInt8)(k:Nat)(I P:Int)(m:Nat):Prop where
 lie:At t k I m
 p:P<(t.length:Int)
 p0:-1<=P
 k:spK t k P
structure LnX(s x:List UInt8):Prop where
 x:11<=s.length->x=s.drop (s.length-11)
 w:11<=s.length->IntKind.i64.wrap ((s.length:Int)-11)=((s.length-11:Nat):Int)
structure PRa(t:List UInt8)(P:Int):Prop where
 p:P<(t.length:Int)
 p0:-1<=P
theorem Ae6{x:UInt8}{c:Int}(h:c=(x.toNat:Int)):(c=10↔x=10)/\(c=32↔x=32):=by
 constructor
 ·constructor
  ·intro e;exact UInt8.toNat_inj.1 (by show x.toNat=10;omega)
  ·intro e;rw[h,e];rfl
 ·constructor
  ·intro e;exact UInt8.toNat_inj.1 (by show x.toNat=32;omega)
  ·intro e;rw[h,e];rfl
end Go.Proofs.YtdoogdbjiijifaaGreatDoor
