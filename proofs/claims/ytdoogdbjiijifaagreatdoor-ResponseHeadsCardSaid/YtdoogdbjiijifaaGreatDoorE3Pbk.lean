/- Part of the proofs of the statements about responses and messages (layers 9 and 10): a symbolic executor over the code, that it is sound, and contracts of functions; it has no conditions of its own. -/
import Derived.Test.YtdoogdbjiijifaaGreatDoorE3Pbj
import Derived.Test.YtdoogdbjiijifaaGreatDoorE3Pbc
import Derived.Test.YtdoogdbjiijifaaGreatDoorE3Pbb
import Derived.Test.YtdoogdbjiijifaaGreatDoorE3Pbe
namespace Go.Proofs.YtdoogdbjiijifaaGreatDoor
open Go Go.Sx Go.RowKit
set_option maxRecDepth 100000
set_option maxHeartbeats 6000000
def spCutPre:FSpec:=λ_ xs ls K=>∃(s p:List UInt8),xs=[.str s,.str p]/\ls=[]/\∀r b,r=Lib.trimPrefix s p->b=Lib.hasPrefix s p->K (.tup [.str r,.bool (.a b)]) []
theorem Ai1:Ay Tryz.prog gl 55 spCutPre:=by
 refine⟨⟨Tryz.f55,_,Tryz.func55,rfl,by kernel_rfl⟩,λxs ls K h=>?_⟩;obtain⟨s,p,rfl,rfl,h⟩:=h;refine⟨_,_,h _ _ rfl rfl,Bx λE B w vals _ _ _ hr=>?_⟩;obtain⟨v,u,rfl,hv,hu⟩:=Eg hr;rw[Dj hv,Dj hu];refine (K0 ⟨s.toArray⟩ ⟨p.toArray⟩ w).mono ?_;rintro e w' ⟨rfl,rfl⟩;refine⟨_,rfl,λE=>?_,Below.refl _ _⟩;refine .tup rfl λi x y a b=>?_
 match i,a,b with
 |0,a,b=>cases a;cases b;exact .ro (.str rfl)
 |1,a,b=>cases a;cases b;exact .ro (.bool rfl)
 |i+2,a,b=>simp at a
theorem Pi{b:List UInt8}(h:Lib.indexByte (b.take 302) 10<0):An b=(rsH0,0,if 302<=b.length then 3 else 10):=by
 have h2:(Am 10 (b.take 302)).2.2=false:=by
  cases e:(Am 10 (b.take 302)).2.2 with
  |false=>rfl
  |true=>have:=(Jq e).1;omega
 unfold An;rw[h2];rfl
def Xb(b w:List UInt8)(suf:Bool)(p:Nat):RsH×Int×Int :=
 if !(suf&&Pf w) then (rsH0,0,6) else
 if (Av (b.drop (p+1))).2.2≠0 then (rsH0,0,(Av (b.drop (p+1))).2.2) else
 ({ stH w with fields:=(Av (b.drop (p+1))).1 },(p:Int)+1+(Av (b.drop (p+1))).2.1,0)
theorem Tb{b:List UInt8}{p:Nat}(h:Lib.indexByte (b.take 302) 10=(p:Int)):p<302/\p<b.length/\An b=Xb b (Lib.trimSuffix (b.take p) [13]) (Lib.hasSuffix (b.take p) [13]) p:=by
 have h2:(Am 10 (b.take 302)).2.2=true:=by
  cases e:(Am 10 (b.take 302)).2.2 with
  |true=>rfl
  |false=>have:=(Sh e).2.2;omega
 obtain⟨e1,e2,_,e4⟩:=Jq h2;have hp:(Am 10 (b.take 302)).1.length=p:=by omega
 rw[hp]at e2 e4;rw[List.length_take]at e4;have e5:(Am 10 (b.take 302)).1=b.take p:=by rw[e2,List.take_take,Nat.min_eq_left (by omega)]
 refine⟨by omega,by omega,?_⟩;unfold An Xb;rw[h2,hp,e5];simp only[Bool.not_true,Bool.false_eq_true,if_false]
def Pj(r:List UInt8):Bool:=!((((decide (r.length<6)||((r.getD 0 0 != 48)&&(r.getD 0 0 != 49)))||(r.getD 1 0 != 32))||(r.getD 5 0 != 32))||!Br (r.drop 6))
theorem Ahe(w:List UInt8):Pf w=(Lib.hasPrefix w Fl&&Pj (Lib.trimPrefix w Fl)&&(decide (100<=Bt (((Lib.trimPrefix w Fl).drop 2).take 3))&&decide (Bt (((Lib.trimPrefix w Fl).drop 2).take 3)<=599))):=by
 have hp:Lib.hasPrefix w Fl=(w.take 7==Fl):=by
  unfold Lib.hasPrefix;rw[Bool.eq_iff_iff,beq_iff_eq];rw[List.isPrefixOf_iff_prefix,List.prefix_iff_eq_take];exact eq_comm
 cases hw:(w.take 7==Fl) with
 |false=>rw[hp,hw];unfold Pf;rw[hw];simp
 |true =>
  have ht:Lib.trimPrefix w Fl=w.drop 7:=by unfold Lib.trimPrefix;rw[hp,hw];rfl
  have hg:∀i,(w.drop 7).getD i 0=w.getD (7+i) 0:=λi=>by rw[List.getD_eq_getElem?_getD,List.getElem?_drop,<-List.getD_eq_getElem?_getD]
  rw[hp,hw,ht];unfold Pf Pj;rw[hw,hg,hg,hg,List.drop_drop,List.drop_drop,List.length_drop,Bool.eq_iff_iff];simp only[Bool.and_eq_true,Bool.or_eq_true,decide_eq_true_eq,beq_iff_eq,Bool.not_eq_true',Bool.or_eq_false_iff,Bool.and_eq_false_iff,bne_eq_false_iff_eq,decide_eq_false_iff_not,Bool.not_eq_false',Nat.not_lt,true_and];constructor
  ·rintro⟨⟨⟨⟨⟨⟨⟨h1,_⟩,h3⟩,h4⟩,h5⟩,h6⟩,h7⟩,h8⟩
   exact⟨⟨⟨⟨⟨by omega,h3⟩,h4⟩,h5⟩,h6⟩,h7,h8⟩
  ·rintro⟨⟨⟨⟨⟨h1,h3⟩,h4⟩,h5⟩,h6⟩,h7,h8⟩
   exact⟨⟨⟨⟨⟨⟨⟨by omega,trivial⟩,h3⟩,h4⟩,h5⟩,h6⟩,h7⟩,h8⟩
theorem Ajx{w:List UInt8}(h:Lib.hasPrefix w Fl=true):stH w=⟨(((Lib.trimPrefix w Fl).getD 0 0).toNat:Int)-48,Bt (((Lib.trimPrefix w Fl).drop 2).take 3),(Lib.trimPrefix w Fl).drop 6,[]⟩:=by
 have ht:Lib.trimPrefix w Fl=w.drop 7:=by unfold Lib.trimPrefix;rw[h];rfl
 have hg:(w.drop 7).getD 0 0=w.getD 7 0:=by rw[List.getD_eq_getElem?_getD,List.getElem?_drop,<-List.getD_eq_getElem?_getD]
 rw[ht,hg,List.drop_drop,List.drop_drop];rfl
structure HdV(h:RsH)(mi st:Int)(re:List UInt8)(f:Nat->List SV)(n:Int)(nl:Bool):Prop where
 emi:mi=h.minor
 est:st=h.status
 ere:re=h.reason
 g:GrH f n nl h.fields
def spHeadR:FSpec:=λ_ xs ls K=>∃(b:List UInt8) (nl:Bool) (n:Int) (f:Nat->List SV),xs=[.sl (.a nl) (.a n) 1 f]/\ls=[]/\A7 f n b/\b.length<=1000000/\
 ∀hd u e mi st re f1 n1 b1,(hd,u,e)=An b->HdV hd mi st re f1 n1 b1->K (.tup [I8 mi st re b1 n1 f1,.int .i64 (.a u),.int .i64 (.a e)]) []
theorem Tc(b:List UInt8)(hb:b.length<=1000000):∃mi st re f n nl,HdV (An b).1 mi st re f n nl:=by
 have h0:∃f n nl,GrH f n nl ([]:List HF):=⟨_,_,_,GrH.nil⟩;have hall:∃f n nl,GrH f n nl (An b).1.fields:=by
  unfold An
  split
  ·exact h0
  split
  ·exact h0
  split
  ·exact h0
  ·have hl:(b.drop ((Am 10 (b.take 302)).1.length+1)).length<=1000000:=by rw[List.length_drop];omega
   have hS:=Hc ((b.drop ((Am 10 (b.take 302)).1.length+1)).length+1) 0 [] _ hl (by simp) (λx hx=>by cases hx);exact⟨_,_,_,⟨Bu.row (by have:=hS.1;exact Nat.le_trans this (by decide)) (λi hi=>hS.2 _ (by rw[List.getD_eq_getElem?_getD,List.getElem?_eq_getElem hi];exact List.getElem_mem hi)),rfl⟩⟩
 obtain⟨f,n,nl,h⟩:=hall;exact⟨_,_,_,f,n,nl,rfl,rfl,rfl,h⟩
theorem Al9{mi mi' st st' u u' e e' n n':ST}{re re':List UInt8}{f f':Nat->List SV}{nl nl':BT}(h1:mi.den=mi'.den)(h2:st.den=st'.den)(h3:re=re')(h4:LeV (.sl nl n 2 f) (.sl nl' n' 2 f'))(h5:u.den=u'.den)(h6:e.den=e'.den):
  Fin (.tup [.agg [.int .i64 mi,.int .i64 st,.str re,.sl nl n 2 f],.int .i64 u,.int .i64 e]) (.tup [.agg [.int .i64 mi',.int .i64 st',.str re',.sl nl' n' 2 f'],.int .i64 u',.int .i64 e']) [] []:=by
 subst h3;exact D6 (.tup (.cons (LeV.agg (.cons (Ak h1) (.cons (Ak h2) (.cons (Cn _) (.cons h4 .nil))))) (.cons (Ak h5) (.cons (Ak h6) .nil))))
theorem Iv{D:Dn}(hD:D=dn){hd:RsH}{u e mi st:Int}{re:List UInt8}{f1:Nat->List SV}{n1:Int}{b1:Bool}{c:Int}{y:ST}(hk:(hd,u,e)=(rsH0,0,c))(V:HdV hd mi st re f1 n1 b1)(hy:y.den=c):
  Fin (.tup [.agg [.int .i64 (.a (D.i (.l 0))),.int .i64 (.a (D.i (.l 0))),.str [],.sl (.a (D.b (.l true))) (.a (D.i (.l 0))) 2 λ_=>[]],.int .i64 (.a (D.i (.l 0))),.int .i64 (.a (D.i y))]) (.tup [.agg [.int .i64 (.a mi),.int .i64 (.a st),.str re,.sl (.a b1) (.a n1) 2 f1],.int .i64 (.a u),.int .i64 (.a e)]) [] []:=by
 simp only[Prod.mk.injEq]at hk;obtain⟨rfl,rfl,rfl⟩:=hk;obtain⟨rfl,rfl,rfl,G⟩:=V;subst hD;exact Al9 rfl rfl rfl (Af9 GrH.nil G rfl rfl) rfl hy
theorem inS6{x:Bool}{t:List UInt8}{i:Nat}(h:(!(x||decide ((t.length:Int)<6)))=true)(hi:i<6):InS (i:Int) t:=by
 simp only[Bool.not_eq_true',Bool.or_eq_false_iff,decide_eq_false_iff_not]at h;exact⟨by omega,by omega⟩
theorem inS6'{x y:Bool}{t:List UInt8}{i:Nat}(h:(!((x||decide ((t.length:Int)<6))||y))=true)(hi:i<6):InS (i:Int) t:=by
 simp only[Bool.not_eq_true',Bool.or_eq_false_iff,decide_eq_false_iff_not]at h;exact⟨by omega,by omega⟩
theorem Alq{x y z:Bool}{t:List UInt8}{i:Nat}(h:(!(((x||decide ((t.length:Int)<6))||y)||z))=true)(hi:i<6):InS (i:Int) t:=by
 simp only[Bool.not_eq_true',Bool.or_eq_false_iff,decide_eq_false_iff_not]at h;exact⟨by omega,by omega⟩
structure BdI(lo x hi:Int):Prop where
 lo:lo<=x
 hi:x<=hi
theorem wrapAdd{a b:Int}(h:BdI 0 a 302)(k:BdI 0 b 1000000):IntKind.i64.wrap (a+1+b)=a+1+b:=by
 have:=h.lo;have:=h.hi;have:=k.lo;have:=k.hi;exact A4 (by omega) (by omega)
theorem Ag8(c k:UInt8):(((c.toNat:Int)) != ((k.toNat:Nat):Int))=(c != k):=by
 rw[Bool.eq_iff_iff,bne_iff_ne,bne_iff_ne];refine not_congr ⟨λh=>?_,λh=>by rw[h]⟩;exact UInt8.toNat_inj.1 (by omega)
theorem Ams{is ht pl:Bool}{t:List UInt8}{c0 c1 c5:Int}(h0:c0=((t.getD 0 0).toNat:Int))(h1:c1=((t.getD 1 0).toNat:Int))(h5:c5=((t.getD 5 0).toNat:Int))(hp:pl=Br (t.drop 6)):
  ((((((!is||!ht)||decide ((t.length:Int)<6))||((c0 != 48)&&(c0 != 49)))||(c1 != 32))||(c5 != 32))||!pl)=!(is&&(ht&&Pj t)):=by
 have e0:(c0 != 48)=(t.getD 0 0 != 48):=by rw[h0];exact Ag8 _ 48
 have e0':(c0 != 49)=(t.getD 0 0 != 49):=by rw[h0];exact Ag8 _ 49
 have e1:(c1 != 32)=(t.getD 1 0 != 32):=by rw[h1];exact Ag8 _ 32
 have e5:(c5 != 32)=(t.getD 5 0 != 32):=by rw[h5];exact Ag8 _ 32
 have el:decide ((t.length:Int)<6)=decide (t.length<6):=by rw[decide_eq_decide];omega
 rw[e0,e0',e1,e5,hp,el];unfold Pj;cases is<;>cases ht<;>simp
theorem Yv:Ay Tryz.prog gl 17 spHeadR:=by
 refine Bq (gh:=[]) mixed B4 (Ab W7 (Ab Xr (Ab Ai1 (Ab Ae8 (Ab Rf (Ab P6 Ai)))))) Tryz.func17 (by kernel_rfl) (by kernel_rfl) ?_;intro xs ls K h;unfold spHeadR at h;obtain⟨b,nl,n,f,rfl,rfl,R,hb,h⟩:=h;obtain⟨k,hk⟩:∃k,k=An b:=⟨_,rfl⟩;obtain⟨mi,st,re,f1,n1,b1,V⟩:=Tc b hb;rw[<-hk]at V;obtain⟨hd,u,e⟩:=k;have h:=h hd u e mi st re f1 n1 b1 hk V;have VB:VI n b.length:=⟨R.n⟩;have HB:LeN b.length 1000000:=⟨hb⟩;clear hb;refine⟨_,_,h,λD hD=>?_⟩;clear h;unfold I8;cbv;intro r hr;cbv;have hr:r=min n 302:=by subst hD;exact hr.h
 have VR:VI r (b.take 302).length:=⟨by rw[hr,VB.h,List.length_take];omega⟩;clear hr;refine⟨by subst hD;exact⟨Int.le_refl _,by show (0:Int)<=r;rw[VR.h];omega,by show r<=n;rw[VR.h,VB.h,List.length_take];omega⟩,λf2 n2 hsub=>?_⟩;cbv;have R2:A7 f2 n2 (b.take 302):=by
  have:=R.sub (a:=0) (b:=(b.take 302).length) hsub (by subst hD;rfl) (by subst hD;exact VR.h) (Nat.zero_le _) (by rw[List.length_take];omega);rw[List.drop_zero,List.length_take,Nat.sub_zero]at this;have e2:b.take (min 302 b.length)=b.take 302:=by
   rcases Nat.le_total 302 b.length with h|h
   ·rw[Nat.min_eq_left h]
   ·rw[Nat.min_eq_right h,List.take_of_length_le (Nat.le_refl _),List.take_of_length_le h]
  rwa [e2]at this
 clear hsub;refine⟨_,_,_,_,f2,rfl,rfl,by subst hD;exact R2,by subst hD;rfl,λq hq=>?_⟩;cbv;refine br hD (λhb=>?_) (λhb=>?_)<;>cbv
 ·have hb:(decide (q<0)&&decide (302<=n))=true:=by subst hD;exact hb
  simp only[Bool.and_eq_true,decide_eq_true_eq]at hb;rw[Pi (by omega),if_pos (by have:=VB.h;omega)]at hk;exact Iv hD hk V rfl
 have hb1:(decide (q<0)&&decide (302<=n))=false:=by subst hD;exact hb
 clear hb;refine br hD (λhb=>?_) (λhb=>?_)<;>cbv
 ·have hb:decide (q<0)=true:=by subst hD;exact hb
  rw[hb,Bool.true_and]at hb1;rw[decide_eq_true_eq]at hb;rw[decide_eq_false_iff_not]at hb1;rw[Pi (by omega),if_neg (by have:=VB.h;omega)]at hk;exact Iv hD hk V rfl
 have hb2:¬q<0:=by
  have hb:decide (q<0)=false:=by subst hD;exact hb
  simpa using hb
 clear hb hb1 R2 VR;obtain⟨p,hp⟩:∃p:Nat,q=(p:Int):=⟨q.toNat,by omega⟩;obtain⟨hp1,hp2,hp3⟩:=Tb (b:=b) (p:=p) (by omega);rw[hp3]at hk;have VQ:VI q p:=⟨hp⟩;have HP:LeN (p+1) b.length:=⟨hp2⟩;have HP3:LeN (p+1) 302:=⟨hp1⟩;clear hp hp1 hp2 hp3 hq hb2;refine⟨by subst hD;exact⟨Int.le_refl _,by show (0:Int)<=q;rw[VQ.h];omega,by show q<=n;rw[VQ.h,VB.h];have:=HP.h;omega⟩,λf3 n3 hsub=>?_⟩;cbv;have R3:A7 f3 n3 (b.take p):=by
  have:=R.sub (a:=0) (b:=p) hsub (by subst hD;rfl) (by subst hD;exact VQ.h) (Nat.zero_le _) (by have:=HP.h;omega)
  rwa [List.drop_zero,Nat.sub_zero]at this
 clear hsub;refine⟨by subst hD;exact R3.byte,λs hs=>?_⟩;cbv;have hs:s=b.take p:=by subst hD;exact R3.str hs
 rw[<-hs]at hk;have hsl:LeN s.length 302:=⟨by rw[hs,List.length_take];have:=HP3.h;omega⟩;clear hs R3;refine⟨s,[13],rfl,rfl,by have:=hsl.h;omega,λw is hw his=>?_⟩;cbv;rw[<-hw,<-his]at hk;have hwl:LeN w.length 302:=⟨by
  have:=hsl.h;rw[hw,Lib.trimSuffix]
  split
  ·rw[List.length_take];omega
  ·exact this⟩
 clear hw his hsl;refine⟨w,Fl,rfl,rfl,λt ht hht hb=>?_⟩;cbv;refine⟨λhg=>?_,λc0 hc0=>?_⟩
 ·subst hD;exact inS6 (i:=0) hg (by decide)
 cbv;refine⟨λ_=>?_,λc0' hc0'=>?_⟩
 ·subst hD;intro hg;exact inS6 (i:=0) hg (by decide)
 cbv;refine⟨λhg=>?_,λc1 hc1=>?_⟩
 ·subst hD;exact inS6' (i:=1) hg (by decide)
 cbv;refine⟨λhg=>?_,λc5 hc5=>?_⟩
 ·subst hD;exact Alq (i:=5) hg (by decide)
 cbv;refine⟨λhg=>?_,λre' hre'=>?_⟩
 ·subst hD
  have:=Alq (i:=5) (x:=(!is||!ht)) (y:=((c0 != 48)&&(c0' != 49))) (z:=(c1 != 32)) (t:=t) (by
   have hg:(!(((((!is||!ht)||decide ((t.length:Int)<6))||((c0 != 48)&&(c0' != 49)))||(c1 != 32))||(c5 != 32)))=true:=hg;simp only[Bool.not_eq_true',Bool.or_eq_false_iff]at hg ⊢;exact hg.1) (by decide)
  exact⟨by decide,by show (6:Int)<=(t.length:Int);have:=this.hi;omega,Int.le_refl _⟩
 cbv;have h0:c0=((t.getD 0 0).toNat:Int):=by subst hD;exact hc0.h
 have h0':c0'=c0:=by subst hD;exact hc0'.h.trans hc0.h.symm
 have h1:c1=((t.getD 1 0).toNat:Int):=by subst hD;exact hc1.h
 have h5:c5=((t.getD 5 0).toNat:Int):=by subst hD;exact hc5.h
 have hre:re'=t.drop 6:=by
  subst hD;have h:re'=(t.drop 6).take (((t.length:Int)).toNat-6):=hre'.h;rw[h,List.take_of_length_le (by rw[List.length_drop];omega)]
 subst h0';refine⟨re',rfl,rfl,λpl hpl=>?_⟩;cbv;rw[hre]at hpl;have hcond:=Ams (is:=is) (ht:=ht) h0 h1 h5 hpl;have hst:=Ahe w;rw[<-hht,<-hb]at hst;refine br hD (λhbr=>?_) (λhbr=>?_)<;>cbv
 ·have hbr:((((((!is||!ht)||decide ((t.length:Int)<6))||((c0' != 48)&&(c0' != 49)))||(c1 != 32))||(c5 != 32))||!pl)=true:=by subst hD;exact hbr
  rw[hcond,Bool.not_eq_true']at hbr;unfold Xb at hk;rw[hst,<-Bool.and_assoc is,hbr,Bool.false_and]at hk;exact Iv hD hk V rfl
 have hbr:((((((!is||!ht)||decide ((t.length:Int)<6))||((c0' != 48)&&(c0' != 49)))||(c1 != 32))||(c5 != 32))||!pl)=false:=by subst hD;exact hbr
 rw[hcond,Bool.not_eq_false']at hbr;simp only[Bool.and_eq_true]at hbr;obtain⟨rfl,rfl,hro⟩:=hbr;rw[hro,Bool.true_and,Bool.true_and]at hst;have htl:6<=t.length:=by
  unfold Pj at hro;simp only[Bool.not_eq_true',Bool.or_eq_false_iff,decide_eq_false_iff_not]at hro;omega
 have HD0:t.getD 0 0=48\/t.getD 0 0=49:=by
  unfold Pj at hro;simp only[Bool.not_eq_true',Bool.or_eq_false_iff,Bool.and_eq_false_iff,bne_eq_false_iff_eq]at hro;exact hro.1.1.1.2
 have HT:LeN 6 t.length:=⟨htl⟩;have hwS:=Ajx hb.symm;rw[<-hht]at hwS;have EH0:EqI c0' ((t.getD 0 0).toNat:Int):=⟨h0⟩;have htl2:LeN t.length 302:=⟨by
  have:=hwl.h;rw[hht,Lib.trimPrefix]
  split
  ·rw[List.length_drop];omega
  ·exact this⟩
 clear hcond hro htl h0 h1 h5 hc0 hc0' hc1 hc5 hpl hht hb hwl hre' hre;refine⟨by subst hD;exact⟨by decide,by decide,by show (5:Int)<=(t.length:Int);have:=HT.h;omega⟩,λd hd2=>?_⟩;cbv;have hd2:d=(t.drop 2).take 3:=by subst hD;exact hd2.h
 rw[<-hd2]at hst hwS;have hdl:LeN d.length 3:=⟨by rw[hd2,List.length_take];omega⟩;clear hd2;refine⟨d,rfl,rfl,by have:=hdl.h;omega,λsv hsv=>?_⟩;cbv;rw[<-hsv]at hst hwS;refine br hD (λhbr=>?_) (λhbr=>?_)<;>cbv
 ·have hbr:(decide (sv<100)||decide (599<sv))=true:=by subst hD;exact hbr
  have hf:(decide (100<=sv)&&decide (sv<=599))=false:=by
   rw[Bool.and_eq_false_iff,decide_eq_false_iff_not,decide_eq_false_iff_not];simp only[Bool.or_eq_true,decide_eq_true_eq]at hbr;omega
  unfold Xb at hk;rw[hst,hf]at hk;exact Iv hD hk V rfl
 have hbr:(decide (sv<100)||decide (599<sv))=false:=by subst hD;exact hbr
 have hf:(decide (100<=sv)&&decide (sv<=599))=true:=by
  rw[Bool.and_eq_true,decide_eq_true_eq,decide_eq_true_eq];simp only[Bool.or_eq_false_iff,decide_eq_false_iff_not]at hbr;omega
 unfold Xb at hk;rw[hst,hf,hwS]at hk;simp only[Bool.and_true,Bool.not_true,Bool.false_eq_true,if_false]at hk;clear hbr hf hst hwS;obtain⟨B,hB⟩:∃B,B=b.drop (p+1):=⟨_,rfl⟩;rw[<-hB]at hk;have hBl:LeN B.length 1000000:=⟨by rw[hB,List.length_drop];have:=HB.h;omega⟩;have hw1:IntKind.i64.wrap (q+1)=((p+1:Nat):Int):=by
  have:=HP3.h;rw[VQ.h,A4 (by omega) (by omega)];omega
 have EW:EqI (IntKind.i64.wrap (q+1)) ((p+1:Nat):Int):=⟨hw1⟩;clear hw1;refine⟨by subst hD;exact⟨by show (0:Int)<=IntKind.i64.wrap (q+1);rw[EW.h];omega,by show IntKind.i64.wrap (q+1)<=n;rw[EW.h,VB.h];have:=HP.h;omega,Int.le_refl _⟩,λf4 n4 hsub=>?_⟩;cbv;have R4:A7 f4 n4 B:=by
  have:=R.sub (a:=p+1) (b:=b.length) hsub (by subst hD;exact EW.h) (by subst hD;exact VB.h) HP.h (Nat.le_refl _);have e:(b.drop (p+1)).take (b.length-(p+1))=b.drop (p+1):=List.take_of_length_le (by rw[List.length_drop];exact Nat.le_refl _)
  rwa [e,<-hB]at this
 clear hsub hB;refine⟨B,_,_,f4,rfl,rfl,by subst hD;exact R4,hBl.h,λl f5 n5 b5 kk ke hl G=>?_⟩;cbv;rw[<-hl]at hk;simp only at hk;refine br hD (λhbr=>?_) (λhbr=>?_)<;>cbv
 ·have hbr:(ke != 0)=true:=by subst hD;exact hbr
  rw[if_pos (by simpa using hbr)]at hk;exact Iv hD hk V (by subst hD;rfl)
 have hbr:(ke != 0)=false:=by subst hD;exact hbr
 rw[if_neg (by simpa using hbr)]at hk;have HKK:0<=kk/\kk<=B.length:=by have:=Uh B;rw[<-hl]at this;exact this.2
 have HKB:BdI 0 kk 1000000:=⟨HKK.1,by have:=hBl.h;omega⟩;have HPB:BdI 0 (p:Int) 302:=⟨Int.natCast_nonneg _,by have:=HP3.h;omega⟩;clear hbr hl HKK;refine⟨by subst hD;exact⟨by decide,by show (0:Int)<(t.length:Int);have:=HT.h;omega⟩,λc hc=>?_⟩;cbv;refine⟨by subst hD;exact⟨by decide,by show (6:Int)<=(t.length:Int);have:=HT.h;omega,Int.le_refl _⟩,λre2 hre2=>?_⟩;cbv;have hre2:re2=t.drop 6:=by
  subst hD;have h:re2=(t.drop 6).take (((t.length:Int)).toNat-6):=hre2.h;rw[h,List.take_of_length_le (by rw[List.length_drop];omega)]
 have hcc:c=((t.getD 0 0).toNat:Int):=by subst hD;exact hc.h
 clear hc;simp only[Prod.mk.injEq]at hk;obtain⟨rfl,rfl,rfl⟩:=hk;obtain⟨rfl,rfl,rfl,G2⟩:=V;refine Al9 ?_ (by subst hD;rfl) hre2 (Af9 G G2 (by subst hD;rfl) (by subst hD;rfl)) ?_ (by subst hD;rfl)
 ·subst hD
  show IntKind.i64.wrap (IntKind.u8.wrap (c-48))=((t.getD 0 0).toNat:Int)-48;rw[hcc];rcases HD0 with e|e<;>rw[e]<;>decide
 ·subst hD
  show IntKind.i64.wrap (IntKind.i64.wrap (q+1)+kk)=(p:Int)+1+kk;have h5:IntKind.i64.wrap (q+1)=(p:Int)+1:=EW.h.trans (Int.natCast_add p 1);rw[h5];exact wrapAdd HPB HKB
open Go Go.Sx
set_option maxHeartbeats 8000000
def Md(l:List HF)(t:List UInt8):Int:=if A6 l≠0 then A6 l else if Bg t then 0 else 2
def spAsk:FSpec:=λ_ xs ls K=>∃(l:List HF) (nl:Bool) (n:Int) (f:Nat->List SV) (t:List UInt8),xs=[.sl (.a nl) (.a n) 2 f,.str t]/\ls=[]/\Bu f n l/\t.length<=9223372036854775807/\∀e,e=Md l t->K (.int .i64 (.a e)) []
theorem ask_ok:Ay Tryz.prog gl 176 spAsk:=by
 refine Bq (gh:=[]) mixed B4 (Ab O8 (Ab Iz Ai)) Tryz.func176 (by kernel_rfl) (by kernel_rfl) ?_;intro xs ls K h;unfold spAsk at h;obtain⟨l,nl,n,f,t,rfl,rfl,R,ht,h⟩:=h;obtain⟨k,hk⟩:∃k,k=Md l t:=⟨_,rfl⟩;refine⟨_,_,h k hk,λD hD=>?_⟩;clear h;unfold Md at hk;cbv;refine⟨l,_,_,f,rfl,rfl,by subst hD;exact R,λe he=>?_⟩;cbv;rw[<-he]at hk;refine br hD (λhb=>?_) (λhb=>?_)<;>cbv
 ·have hb:(e != 0)=true:=by subst hD;exact hb
  rw[if_pos (by simpa using hb)]at hk;exact Be hD hk.symm
 have hb:(e != 0)=false:=by subst hD;exact hb
 rw[if_neg (by simpa using hb)]at hk;refine⟨t,rfl,rfl,ht,λx hx=>?_⟩;cbv;rw[<-hx]at hk;refine br hD (λhb=>?_) (λhb=>?_)<;>cbv
 ·have hb:(!x)=true:=by subst hD;exact hb
  rw[if_neg (by simpa using hb)]at hk;exact Be hD hk.symm
 ·have hb:(!x)=false:=by subst hD;exact hb
  rw[if_pos (by simpa using hb)]at hk;exact Be hD hk.symm
structure GvV(out:List (List UInt8))(b:Bool)(n g:Int)(f:Nat->List SV):Prop where
 eb:b=out.isEmpty
 en:n=out.length
 eg:g=out.length
 row:Bl f n out
def Abl(a:Nat):List (Nat×Option SV):=[(7,some (.ptr a 0))]
def getY(c:LC):FSpec:=λ_ xs ls K=>∃(i:Int) (v:List UInt8) (out:List (List UInt8)) (b:Bool) (n g:Int) (f:Nat->List SV),
 xs=[.yv 0,.int .i64 (.a i),.str v]/\ls=[.lrec c (Abl 1) 0 none,.blk 111 [.vsl (.a b) (.a n) (.a g) 2],.vec 9 (.a n) (.a g) 1 f]/\GvV out b n g f/\out.length<=100/\
 ∀b' n' g' f',GvV (out++[v]) b' n' g' f'->K (.bool (.a true)) [.lrec c (Abl 1) 0 none,.blk 111 [.vsl (.a b') (.a n') (.a g') 2],.vec 9 (.a n') (.a g') 1 f']
def Alo(Y:FSpec):FSpec:=λ_ xs ls K=>∃(c:LC) (l:List HF) (nl:Bool) (n:Int) (f:Nat->List SV) (t:List UInt8) (b:Bool) (m g:Int) (h:Nat->List SV),Y=getY c/\
 xs=[.yv 0,.ptr 1 0,.ptr 2 0]/\ls=[.lrec c (Abl 3) 0 none,.blk 23 [.sl (.a nl) (.a n) 2 f],.blk 9 [.str t],.blk 111 [.vsl (.a b) (.a m) (.a g) 4],.vec 9 (.a m) (.a g) 1 h]/\Bu f n l/\l.length<=100/\GvV [] b m g h/\
 ∀b' m' g' h',GvV (B5 l t) b' m' g' h'->K (.tup []) [.lrec c (Abl 3) 0 none,.blk 23 [.sl (.a nl) (.a n) 2 f],.blk 9 [.str t],.blk 111 [.vsl (.a b') (.a m') (.a g') 4],.vec 9 (.a m') (.a g') 1 h']
structure GyJ(l:List HF)(t:List UInt8)(k out:List (List UInt8))(i:Nat)(I:Int)(m:Nat)(b:Bool)(n g:Int)(f:Nat->List SV):Prop where
 lie:AtR l i I m
 v:GvV out b n g f
 ol:out.length<=i
 k:k=out++B5 (l.drop i) t
def gyJ(c:LC)(l:List HF)(t:List UInt8)(k:List (List UInt8))(nl:Bool)(n:Int)(f:Nat->List SV)(m:Nat)(vs:List (Option SV))(hp:List Hl):Prop :=
 ∃(out:List (List UInt8)) (i:Nat) (I:Int) (b:Bool) (n1 g:Int) (h:Nat->List SV),vs=[some (.yv 0),some (.ptr 2 0),some (.sl (.a nl) (.a n) 2 f),some (.int .i64 (.a n)),some (.int .i64 (.a I))]/\
  hp=[.lrec c (Abl 3) 0 none,.blk 23 [.sl (.a nl) (.a n) 2 f],.blk 9 [.str t],.blk 111 [.vsl (.a b) (.a n1) (.a g) 4],.vec 9 (.a n1) (.a g) 1 h]/\GyJ l t k out i I m b n1 g h
theorem Ahz(Y:FSpec)(hY:YOk Tryz.prog gl Y):Ay Tryz.prog gl 230 (Alo Y):=by
 refine fnOkI (gh:=[]) (its:=[]) (yl:=[Y]) mixed B4 (Ab Y2 Ai) ⟨λ_ h=>(by cases h),λZ h=>by rw[List.mem_singleton]at h;subst h;exact hY⟩ Tryz.func230 (by kernel_rfl) (by kernel_rfl) ?_;intro xs ls K h;unfold Alo at h;obtain⟨c,l,nl,n,f,t,b,m0,g,hh,rfl,rfl,rfl,R,hl,V0,h⟩:=h;obtain⟨k,hk⟩:∃k,k=B5 l t:=⟨_,rfl⟩;rw[<-hk]at h;have hkl:=Nq l t;rw[<-hk]at hkl;obtain⟨b1,m1,g1,h1,VK⟩:∃b1 m1 g1 h1,GvV k b1 m1 g1 h1:=⟨_,_,_,_,⟨rfl,rfl,rfl,Bl.row (l:=k) (by omega)⟩⟩;clear hkl;have h:=h b1 m1 g1 h1 VK;refine⟨_,_,h,λD hD=>?_⟩;clear h;obtain⟨J,hJ⟩:∃J,J=gyJ c l t k nl n f:=⟨_,rfl⟩;cbv;refine⟨[0,2,6,7,8],J,⟨rfl,l.length,?_⟩,?_⟩
 ·rw[hJ]
  subst hD;exact⟨[],0,0,_,_,_,_,rfl,rfl,AtR.zero R.len,V0,Nat.le_refl _,hk⟩
 intro m vs hp hj;rw[hJ]at hj;obtain⟨out,i,I,b2,m2,g2,h2,rfl,rfl,V⟩:=hj;clear hk;cbv;refine br hD (λh=>?_) (λh=>?_)<;>cbv
 ·have hlt:=V.lie.lt R.n (of_decide_eq_true (p:=I<n) h)
  clear h;refine⟨V.lie.inB hD R.n hlt,λj hj=>?_⟩;obtain rfl:=V.lie.j hD hj;clear hj;have e1:=R.f j hlt;have hsm:=R.small j hlt;have hk2:=V.k;rw[Kn (d:=default) hlt,Lv]at hk2;obtain⟨x,hx⟩:∃x,x=l.getD j default:=⟨_,rfl⟩;rw[<-hx]at e1 hk2 hsm;obtain⟨a,v⟩:=x;obtain⟨s1,s2⟩:=V.lie.step hD hlt
  generalize l.length-(j+1)=m' at s1 s2
  cbv;rw[e1];cbv;refine⟨a,rfl,rfl,hsm.1,λz hz=>?_⟩;cbv;simp only at hk2;rw[<-hz]at hk2;refine br hD (λh=>?_) (λh=>?_)<;>cbv
  ·have h3:(z==t)=true:=by subst hD;exact h
   clear h;rw[if_pos h3]at hk2;refine⟨I,v,out,b2,m2,g2,h2,by subst hD;rfl,by subst hD;rfl,V.v,by have:=V.ol;omega,λb3 m3 g3 h3' V3=>?_⟩;cbv;refine br hD (λh=>?_) (λh=>?_)<;>cbv
   ·exact absurd h (by simp[BT.den])
   refine⟨m',s1,?_⟩;rw[hJ];unfold gyJ;cbv;subst hD;exact⟨out++[v],j+1,_,b3,m3,g3,h3',rfl,rfl,s2,V3,by have:=V.ol;rw[List.length_append];simp only[List.length_cons,List.length_nil];omega,by rw[hk2];simp⟩
  ·have h3:(z==t)=false:=by subst hD;exact h
   clear h;rw[if_neg (by rw[h3];simp)]at hk2;refine br hD (λh=>?_) (λh=>?_)<;>cbv
   ·exact absurd h (by rw[BT.den,BT.den];simp[BT.den,h3])
   refine⟨m',s1,?_⟩;rw[hJ];unfold gyJ;cbv;subst hD;exact⟨out,j+1,_,b2,m2,g2,h2,rfl,rfl,s2,V.v,by have:=V.ol;omega,hk2⟩
 ·have hi:=V.lie.eq R.n (of_decide_eq_false (p:=I<n) h)
  have hk2:=V.k;rw[hi,List.drop_length]at hk2;clear h;have hk2:k=out:=by rw[hk2];exact List.append_nil _
  subst hk2;subst hD;refine⟨LeV.refl _,Cz (LeH.cons (λ_ _ _ h=>h) (LeH.cons (Ao (.cons (LeV.refl _) .nil)) (LeH.cons (Ao (.cons (LeV.refl _) .nil)) (LeH.cons (Ao (.cons (Af7 (by exact V.v.eb.trans VK.eb.symm) (by exact V.v.en.trans VK.en.symm) (by exact V.v.eg.trans VK.eg.symm)) .nil)) (LeH.cons (Ia (by exact V.v.en.trans VK.en.symm) (by exact V.v.eg.trans VK.eg.symm) λi hi=>?_) λ_ _ _ _ h=>h))))),Nat.le_refl _⟩;have hi:(i:Int)<m2:=hi;have:=V.v.en;rw[V.v.row.f i (by omega),VK.row.f i (by omega)]
structure GkI(l:List HF)(t:List UInt8)(e:Int)(r:List (List UInt8)):Prop where
 ee:e=Md l t
 er:r=if Md l t=0 then B5 l (foldF t) else []
def spGetH:FSpec:=λ_ xs ls K=>∃(l:List HF) (nl:Bool) (n:Int) (f:Nat->List SV) (t:List UInt8),xs=[.sl (.a nl) (.a n) 2 f,.str t]/\ls=[]/\Bu f n l/\t.length<=9223372036854775807/\
 ∀r e g n' b,GkI l t e r->GrS g n' b r->K (.tup [.sl (.a b) (.a n') 1 g,.int .i64 (.a e)]) []
theorem getH_ok:Ay Tryz.prog gl 126 spGetH:=by
 refine fnOkI (gh:=[(4,[.vecb 7 0 9]),(2000008,[.vshareb 7 0])]) (its:=[(230,Alo)]) (yl:=[]) mixed B4 (Ab ask_ok (Bm Alc Ai)) ⟨λx h Y hY=>by rw[List.mem_singleton]at h;subst h;exact Ahz Y hY,λ_ h=>(by cases h)⟩ Tryz.func126 (by kernel_rfl) (by kernel_rfl) ?_;intro xs ls K h;unfold spGetH at h;obtain⟨l,nl,n,f,t,rfl,rfl,R,ht,h⟩:=h;obtain⟨e,he⟩:∃e,e=Md l t:=⟨_,rfl⟩;obtain⟨r,hr⟩:∃r,r=if Md l t=0 then B5 l (foldF t) else []:=⟨_,rfl⟩
 have hrl:r.length<=9223372036854775807:=by
  rw[hr]
  split
  ·have:=Nq l (foldF t);have:=R.len;omega
  ·simp
 obtain⟨g,n',b,G⟩:∃g n' b,GrS g n' b r:=⟨_,_,_,⟨Bl.row hrl,rfl⟩⟩;refine⟨_,_,h r e g n' b ⟨he,hr⟩ G,λD hD=>?_⟩;clear h hrl;rw[<-he]at hr;cbv;refine⟨l,_,_,f,t,rfl,rfl,by subst hD;exact R,ht,λe2 he2=>?_⟩;cbv;obtain rfl:e2=e:=he2.trans he.symm;refine br hD (λhb=>?_) (λhb=>?_)<;>cbv
 ·have hb:(e2 != 0)=true:=by subst hD;exact hb
  rw[if_neg (by simpa using hb)]at hr;subst hr;subst hD;exact D6 (.tup (.cons (Ol GrS.nil G rfl rfl) (.cons (Ak rfl) .nil)))
 have hb:e2=0:=by
  have hb:(e2 != 0)=false:=by subst hD;exact hb
  simpa using hb
 rw[if_pos hb]at hr;have hl:l.length<=100:=by
  rw[hb]at he;refine Nc ?_;unfold Md at he
  by_cases g:A6 l=0
  ·exact g
  ·rw[if_pos g]at he;exact he.symm
 clear he2;refine⟨_,_,f,t,rfl,rfl,ht,λs hs=>?_⟩;cbv;rw[<-hs]at hr;clear hs;intro c hc;refine⟨[7],getY c,?_,?_⟩
 ·rintro xs ls K' ⟨i,v,out,b1,n1,g1,f1,rfl,rfl,V,hol,h1⟩
  refine⟨⟨_,rfl⟩,?_⟩;obtain⟨b2,n2,g2,f2,V2⟩:∃b2 n2 g2 f2,GvV (out++[v]) b2 n2 g2 f2:=⟨_,_,_,_,⟨rfl,rfl,rfl,Bl.row (l:=out++[v]) (by rw[List.length_append];simp only[List.length_cons,List.length_nil];omega)⟩⟩;refine⟨_,_,h1 b2 n2 g2 f2 V2,?_⟩;clear h1;cbv;intro f3 hf3;cbv;have en:=V.en;have NB:LeN out.length 100:=⟨hol⟩;have VN:VI n1 out.length:=⟨en⟩;clear en hol;refine⟨by subst hD;exact⟨rfl,by show (n1+1) * 16<=_;rw[VN.h];have:=NB.h;omega,by show n1+1<=_;rw[VN.h];have:=NB.h;omega⟩,by subst hD;exact⟨rfl⟩,λf4 n4 hm g4 hg4=>?_⟩;cbv;have h30:f3 0=[.str v]:=hf3.h 0 _ rfl;have R4:Bl f4 n4 (out++[v]):=V.row.more h30 (by subst hD;exact hm) (by have:=NB.h;omega);have e4:g4=g2:=by
   have h:g4=g1+1:=by subst hD;exact hg4.h
   rw[h,V.eg,V2.eg,List.length_append];rfl
  have eb:b2=false:=by rw[V2.eb];cases out<;>rfl
  have hrow:n4=n2/\∀i:Nat,(i:Int)<n4->f4 i=f2 i:=by
   have e1:=R4.n;refine⟨e1.trans V2.en.symm,λi hi=>?_⟩;rw[R4.f i (by omega),V2.row.f i (by omega)]
  clear hm hf3 hg4;subst hD e4 eb;exact⟨LeV.refl _,Cz (LeH.cons (λ_ _ _ h=>h) (LeH.cons (Ao (.cons (Af7 (by exact Bool.and_false _) (by exact hrow.1) rfl) .nil)) (LeH.cons (Ia (by exact hrow.1) rfl (by exact hrow.2)) λ_ _ _ _ h=>h))),Nat.le_refl _⟩
 ·cbv
  refine⟨c,l,_,_,f,s,D.b (.l true),D.i (.l 0),D.i (.l 0),λ_=>[],rfl,rfl,rfl,by subst hD;exact R,hl,by subst hD;exact⟨rfl,rfl,rfl,GrS.nil.row⟩,λb1 n1 g1 f1 V1=>?_⟩;cbv;rw[<-hr]at V1;refine⟨by subst hD;exact⟨⟨rfl⟩,⟨rfl⟩⟩,?_⟩;subst hD;exact D6 (.tup (.cons (Ol ⟨V1.row,V1.eb⟩ G rfl rfl) (.cons (Ak (by exact hb.symm)) .nil)))
def Cc(l:List HF)(t:List UInt8):List (List UInt8):=if Md l t=0 then B5 l (foldF t) else []
theorem Ku(l:List HF)(t:List UInt8):(Cc l t).length<=100/\∀v∈Cc l t,v.length<=2000:=by
 unfold Cc
 split
 ·rename_i h
  have hc:A6 l=0:=by
   unfold Md at h
   by_cases g:A6 l=0
   ·exact g
   ·rw[if_pos g]at h;exact h
  have hl:=Nc hc;refine⟨Nat.le_trans (Nq l _) hl,λv hv=>?_⟩;obtain⟨_,h2,_⟩:=(Hy l).1 hc;unfold B5 at hv;obtain⟨x,hx,rfl⟩:=List.mem_map.1 hv;exact (h2 x (List.mem_filter.1 hx).1).len
 ·exact⟨by simp,λv hv=>by cases hv⟩
structure VrI(l:List HF)(t:List UInt8)(out:List (List UInt8))(th ok:Bool):Prop where
 eo:out=(Bj (Cc l t)).getD []
 et:th=!(Cc l t).isEmpty
 ek:ok=(Bj (Cc l t)).isSome
def spValsR:FSpec:=λ_ xs ls K=>∃(l:List HF) (nl:Bool) (n:Int) (f:Nat->List SV) (t:List UInt8),xs=[.sl (.a nl) (.a n) 2 f,.str t]/\ls=[]/\Bu f n l/\t.length<=9223372036854775807/\
 ∀out th ok g n' b,VrI l t out th ok->GrS g n' b out->K (.tup [.sl (.a b) (.a n') 1 g,.bool (.a th),.bool (.a ok)]) []
structure VrJ(r:List (List UInt8))(k:Option (List (List UInt8)))(O:List (List UInt8))(i:Nat)(I:Int)(m:Nat)(n:Int)(b:Bool)(f:Nat->List SV):Prop where
 lie:AtR r i I m
 row:GrS f n b O
 ol:O.length<=2001 * i
 k:k=(Bj (r.drop i)).map λL=>O++L
def vrJ(r:List (List UInt8))(k:Option (List (List UInt8)))(rb:Bool)(rn:Int)(rf:Nat->List SV)(m:Nat)(vs:List (Option SV))(hp:List Hl):Prop :=
 ∃(O:List (List UInt8)) (i:Nat) (I n:Int) (b:Bool) (f:Nat->List SV),vs=[some (.gsl (.a b) (.a n) 1 f 0),some (.sl (.a rb) (.a rn) 1 rf),some (.sl (.a rb) (.a rn) 1 rf),some (.int .i64 (.a rn)),some (.int .i64 (.a I))]/\hp=[.tail 9 (.a n) 1]/\VrJ r k O i I m n b f
structure VrI2(els X O:List (List UInt8))(B:Nat)(j:Nat)(Jx:Int)(m:Nat)(n:Int)(b:Bool)(f:Nat->List SV):Prop where
 lie:AtR els j Jx m
 row:GrS f n b O
 ol:O.length<=B+j
 x:X=O++(els.drop j).map foldF
def vrJ2(els X:List (List UInt8))(B:Nat)(rb:Bool)(rn:Int)(rf:Nat->List SV)(I:Int)(eb:Bool)(en:Int)(ef:Nat->List SV)(m:Nat)(vs:List (Option SV))(hp:List Hl):Prop :=
 ∃(O:List (List UInt8)) (j:Nat) (Jx n:Int) (b:Bool) (f:Nat->List SV),vs=[some (.gsl (.a b) (.a n) 1 f 0),some (.sl (.a rb) (.a rn) 1 rf),some (.sl (.a rb) (.a rn) 1 rf),some (.int .i64 (.a rn)),some (.int .i64 (.a I)),some (.sl (.a eb) (.a en) 1 ef),some (.int .i64 (.a en)),some (.int .i64 (.a Jx))]/\hp=[.tail 9 (.a n) 1]/\VrI2 els X O B j Jx m n b f
theorem Uw:∀(r:List (List UInt8)) (L:List (List UInt8)),Bj r=some L->L.length<=2001 * r.length
 | [],L,h=>by cases h;simp
 |v :: r,L,h=>by
  unfold Bj at h
  split at h
  ·cases hr:Bj r with
   |none=>rw[hr]at h;cases h
   |some L' =>
    rw[hr]at h;simp only[Option.map_some,Option.some.injEq]at h;subst h;have h1:=Uw r L' hr;have h2:=(Dl v).1;rw[List.length_append,List.length_map,List.length_cons];omega
  ·cases h
structure Anc(r:List (List UInt8)):Prop where
 len:r.length<=100
 h:∀v∈r,v.length<=2000
theorem Sk:Ay Tryz.prog gl 63 spValsR:=by
 refine Bq (gh:=[(0,[.attach 4 9])]) mixed B4 (Ab getH_ok (Ab Abz (Ab Y2 Ai))) Tryz.func63 (by kernel_rfl) (by kernel_rfl) ?_;intro xs ls K h;unfold spValsR at h;obtain⟨l,nl,n,f,t,rfl,rfl,R,ht,h⟩:=h;obtain⟨r,hr⟩:∃r,r=Cc l t:=⟨_,rfl⟩;have hsm:=Ku l t;rw[<-hr]at hsm;have hAL:Anc r:=⟨hsm.1,hsm.2⟩;obtain⟨k,hk⟩:∃k,k=Bj r:=⟨_,rfl⟩;obtain⟨out,ho⟩:∃out,out=k.getD []:=⟨_,rfl⟩;have hol:out.length<=9223372036854775807:=by
  rw[ho];cases hk2:k with
  |none=>simp
  |some L=>have:=Uw r L (by rw[<-hk,hk2]);have:=hsm.1;simp only[Option.getD_some];omega
 obtain⟨th,hth⟩:∃th,th=!r.isEmpty:=⟨_,rfl⟩;obtain⟨ok,hok⟩:∃ok,ok=k.isSome:=⟨_,rfl⟩;obtain⟨g',n',b',G⟩:∃g n' b,GrS g n' b out:=⟨_,_,_,⟨Bl.row hol,rfl⟩⟩;have h:=h out th ok g' n' b' ⟨by rw[ho,hk,hr],by rw[hth,hr],by rw[hok,hk,hr]⟩ G;clear hsm hol;refine⟨_,_,h,λD hD=>?_⟩;clear h;cbv;refine⟨l,_,_,f,t,rfl,rfl,by subst hD;exact R,ht,λr2 e2 rf rn rb hG2 G2=>?_⟩;obtain rfl:r2=r:=by rw[hr];exact hG2.er
 clear hG2 hr;cbv;obtain⟨J,hJ⟩:∃J,J=vrJ r2 k rb rn rf:=⟨_,rfl⟩;refine⟨[4,7,21,22,23],J,⟨rfl,r2.length,?_⟩,?_⟩
 ·rw[hJ]
  subst hD;exact⟨[],0,_,_,_,_,rfl,rfl,⟨AtR.zero (by have:=hAL.len;omega),GrS.nil,Nat.le_refl _,by rw[hk,List.drop_zero];cases Bj r2<;>rfl⟩⟩
 clear hk;intro m vs hp hj;rw[hJ]at hj;obtain⟨O,i,I,n1,b1,f1,rfl,rfl,V⟩:=hj;cbv;refine br hD (λhb=>?_) (λhb=>?_)<;>cbv
 ·have hlt:=V.lie.lt G2.row.n (of_decide_eq_true (p:=I<rn) hb)
  clear hb;have hth1:th=true:=by rw[hth];cases r2 with
   |nil=>simp at hlt
   |cons=>rfl
  refine⟨V.lie.inB hD G2.row.n hlt,λj hj=>?_⟩;obtain rfl:=V.lie.j hD hj;clear hj;have e1:=G2.row.f j hlt;have hk2:=V.k;rw[Kn (d:=[]) hlt]at hk2;have hsv:(r2.getD j []).length<=2000:=hAL.h _ (by rw[List.getD_eq_getElem?_getD,List.getElem?_eq_getElem hlt];exact List.getElem_mem hlt);obtain⟨v,hv⟩:∃v,v=r2.getD j []:=⟨_,rfl⟩;rw[<-hv]at e1 hk2 hsv;have HV:LeN v.length 2000:=⟨hsv⟩;obtain⟨s1,s2⟩:=V.lie.step hD hlt;have HJ:LeN j 100:=⟨by have:=hAL.len;omega⟩
  generalize r2.length-(j+1)=m' at s1 s2
  clear hsv;cbv;rw[e1];cbv;refine⟨v,rfl,rfl,by have:=HV.h;omega,λels e en enb hle hn hnb=>?_⟩;cbv;rw[Bj]at hk2;obtain⟨hel,hee⟩:els=(Az v).1/\e=(Az v).2:=by rw[<-hle];exact⟨rfl,rfl⟩
  have hll:els.length<=2001/\∀x∈els,x.length<=2000:=by rw[hel];exact Dl v
  rw[<-hel,<-hee]at hk2;clear hle hel hee hnb;refine br hD (λhb=>?_) (λhb=>?_)<;>cbv
  ·have hb:(e != 0)=true:=by subst hD;exact hb
   rw[if_neg (by simpa using hb)]at hk2;have hk3:k=none:=hk2;have ho1:out=[]:=by rw[ho,hk3];rfl
   have hok1:ok=false:=by rw[hok,hk3];rfl
   subst hth1 ho1 hok1;subst hD;exact D6 (.tup (.cons (Ol GrS.nil G rfl rfl) (.cons (LeV.refl _) (.cons (LeV.refl _) .nil))))
  have hb:e=0:=by
   have hb:(e != 0)=false:=by subst hD;exact hb
   simpa using hb
  rw[if_pos hb]at hk2;clear hb;have RE:Bl (Cj els) en els:=by rw[hn];exact Bl.row (by omega)
  have HE:LeN els.length 2001:=⟨hll.1⟩;obtain⟨ef,hef⟩:∃ef,ef=Cj els:=⟨_,rfl⟩;rw[<-hef]at RE;rw[<-hef];clear hn hef;obtain⟨X,hX⟩:∃X,X=O++els.map foldF:=⟨_,rfl⟩;obtain⟨B,hB⟩:∃B,B=2001 * j:=⟨_,rfl⟩;have HB:LeN B 200100:=⟨by have:=HJ.h;omega⟩;have hk3:k=(Bj (r2.drop (j+1))).map λL=>X++L:=by
   rw[hk2,hX];cases Bj (r2.drop (j+1)) with
   |none=>rfl
   |some L=>simp
  have hol:O.length<=B:=by rw[hB];exact V.ol
  have hB2:B+2001<=2001 * (j+1):=by omega
  have hB3:LeN (B+2001) (2001 * (j+1)):=⟨hB2⟩;clear hk2 hB hB2;obtain⟨J2,hJ2⟩:∃J2,J2=vrJ2 els X B rb rn rf I enb en ef:=⟨_,rfl⟩;refine⟨[4,7,21,22,23,34,35,36],J2,⟨rfl,els.length,?_⟩,?_⟩
  ·rw[hJ2]
   subst hD;exact⟨O,0,_,_,_,_,rfl,rfl,⟨AtR.zero RE.len,V.row,by omega,by rw[hX,List.drop_zero]⟩⟩
  clear hX hol;intro m2 vs hp hj;rw[hJ2]at hj;obtain⟨O2,i2,I2,n2,b2,f2,rfl,rfl,V2⟩:=hj;cbv;refine br hD (λhb=>?_) (λhb=>?_)<;>cbv
  ·have hlt2:=V2.lie.lt RE.n (of_decide_eq_true (p:=I2<en) hb)
   clear hb;refine⟨V2.lie.inB hD RE.n hlt2,λj2 hj=>?_⟩;obtain rfl:=V2.lie.j hD hj;clear hj;have e2:=RE.f j2 hlt2;have hx2:=V2.x;rw[Kn (d:=[]) hlt2,List.map_cons]at hx2;have hsv:(els.getD j2 []).length<=2000:=hll.2 _ (by rw[List.getD_eq_getElem?_getD,List.getElem?_eq_getElem hlt2];exact List.getElem_mem hlt2);obtain⟨w,hw⟩:∃w,w=els.getD j2 []:=⟨_,rfl⟩;rw[<-hw]at e2 hx2 hsv;have HW:LeN w.length 2000:=⟨hsv⟩;have HO2:LeN O2.length 202101:=⟨by have:=V2.ol;have:=HE.h;have:=HB.h;omega⟩;have VO:VI n2 O2.length:=⟨V2.row.row.n⟩;obtain⟨s3,s4⟩:=V2.lie.step hD hlt2
   generalize els.length-(j2+1)=m3 at s3 s4
   clear hsv;cbv;rw[e2];cbv;refine⟨w,rfl,rfl,by have:=HW.h;omega,λz hz=>?_⟩;cbv;have hz:z=foldF w:=hz;rw[<-hz]at hx2;clear hz;intro g3 hg3;cbv;have h30:g3 0=[.str z]:=hg3.h 0 _ rfl;clear hg3;refine⟨by subst hD;exact⟨rfl,by show (n2+1) * 16<=_;rw[VO.h];have:=HO2.h;omega,by show n2+1<=_;rw[VO.h];have:=HO2.h;omega⟩,λf4 n4 hm=>?_⟩;cbv;have G4:∀nl',nl'=false->GrS f4 n4 nl' (O2++[z]):=λnl' hb=>⟨V2.row.row.more h30 (by subst hD;exact hm) (by have:=HO2.h;omega),by rw[hb];simp⟩;clear hm;refine⟨m3,s3,?_⟩;rw[hJ2];unfold vrJ2;subst hD;exact⟨O2++[z],j2+1,_,n4,(b2&&false),f4,rfl,rfl,⟨s4,G4 _ (Bool.and_false _),by have:=V2.ol;rw[List.length_append];simp only[List.length_cons,List.length_nil];omega,by rw[hx2];simp⟩⟩
  ·have hi:=V2.lie.eq RE.n (of_decide_eq_false (p:=I2<en) hb)
   have hx2:=V2.x;rw[hi,List.drop_length,List.map_nil,List.append_nil]at hx2;clear hb;subst hx2;refine⟨m',s1,?_⟩;rw[hJ];unfold vrJ;subst hD;exact⟨X,j+1,_,n2,b2,f2,rfl,rfl,⟨s2,V2.row,by have:=V2.ol;have:=HE.h;have:=hB3.h;omega,hk3⟩⟩
 ·have hi:=V.lie.eq G2.row.n (of_decide_eq_false (p:=I<rn) hb)
  have hk2:=V.k;rw[hi,List.drop_length]at hk2;have hk3:k=some O:=by rw[hk2];simp[Bj]
  have ho1:out=O:=by rw[ho,hk3];rfl
  have hok1:ok=true:=by rw[hok,hk3];rfl
  have hthd:th=decide (0<rn):=by
   rw[hth,G2.row.n];cases r2 with
   |nil=>rfl
   |cons a l=>symm;rw[List.isEmpty_cons,Bool.not_false,decide_eq_true_eq,List.length_cons];omega
  clear hb;subst ho1 hok1;subst hD;exact D6 (.tup (.cons (Ol V.row G rfl rfl) (.cons (Dc (by exact hthd.symm)) (.cons (LeV.refl _) .nil))))
end Go.Proofs.YtdoogdbjiijifaaGreatDoor
