/- Part of the proofs of the statements about responses and messages (layers 9 and 10): a symbolic executor over the code, that it is sound, and contracts of functions; it has no conditions of its own. -/
import Derived.Test.YtdoogdbjiijifaaGreatDoorE3Pbo
import Derived.Test.YtdoogdbjiijifaaGreatDoorE3Pbf
import Derived.Test.YtdoogdbjiijifaaGreatDoorE3Pbj
import Derived.Test.YtdoogdbjiijifaaGreatDoorE3Pbc
import Derived.Test.YtdoogdbjiijifaaGreatDoorE3Pbd
import Derived.Test.YtdoogdbjiijifaaGreatDoorE3Pbk
namespace Go.Proofs.YtdoogdbjiijifaaGreatDoor
open Go Go.Sx
set_option maxRecDepth 100000
set_option maxHeartbeats 8000000
def Uo(w:List UInt8):Bool :=
 decide (13<=w.length)&&(w.take 7==Fl)&&(w.getD 7 0==48||w.getD 7 0==49)&&(w.getD 8 0==32)&&(w.getD 12 0==32)&&Br (w.drop 13)
theorem Wk(w:List UInt8):Pf w=(Uo w&&decide (100<=Bt ((w.drop 9).take 3))&&decide (Bt ((w.drop 9).take 3)<=599)):=rfl
def stG(w:List UInt8):RsH:=if Uo w then stH w else rsH0
def spStatus9:FSpec:=λ_ xs ls K=>∃(s:List UInt8),xs=[.str s]/\ls=[]/\s.length<=300/\
 ∀mi st re b,mi=(stG s).minor->st=(stG s).status->re=(stG s).reason->b=Pf s->K (.tup [I8 mi st re true 0 (λ_=>[]),.bool (.a b)]) []
theorem cond9{s r7 r13:List UInt8}{c7 c8 c12:Int}{pl:Bool}(hl:s.length<=300)(h7:r7=s.take 7)(hp:pl=Br r13)(h13:r13=s.drop 13)(e7:c7=((s.getD 7 0).toNat:Int))(e8:c8=((s.getD 8 0).toNat:Int))(e12:c12=((s.getD 12 0).toNat:Int)):
  ((((((decide ((s.length:Int)<13)||decide (300<(s.length:Int)))||!(r7==[72,84,84,80,47,49,46]))||((c7 != 48)&&(c7 != 49)))||(c8 != 32))||(c12 != 32))||!pl)=!Uo s:=by
 have k1:decide (300<(s.length:Int))=false:=by rw[decide_eq_false_iff_not];omega
 have k2:decide ((s.length:Int)<13)=!decide (13<=s.length):=by
  rw[Bool.eq_iff_iff,decide_eq_true_eq,Bool.not_eq_true',decide_eq_false_iff_not];omega
 have u:∀c:UInt8,∀k:UInt8,((c.toNat:Int) != (k.toNat:Int))=!(c==k):=λc k=>by
  have:=Ag8 c k;rw[this];rfl
 have v7:=u (s.getD 7 0) 48;have v7':=u (s.getD 7 0) 49;have v8:=u (s.getD 8 0) 32;have v12:=u (s.getD 12 0) 32;rw[<-e7]at v7 v7';rw[<-e8]at v8;rw[<-e12]at v12;have w7:(c7 != 48)=!(s.getD 7 0==48):=v7;have w7':(c7 != 49)=!(s.getD 7 0==49):=v7';have w8:(c8 != 32)=!(s.getD 8 0==32):=v8;have w12:(c12 != 32)=!(s.getD 12 0==32):=v12;unfold Uo Fl;rw[k1,k2,h7,hp,h13,w7,w7',w8,w12];simp only[Bool.not_and,Bool.not_or,Bool.or_false]
theorem finSt{mi mi' st st' n n':ST}{re re':List UInt8}{f f':Nat->List SV}{nl nl' b b':BT}(h1:mi.den=mi'.den)(h2:st.den=st'.den)(h3:re=re')(h4:LeV (.sl nl n 2 f) (.sl nl' n' 2 f'))(h5:b.den=b'.den):
  Fin (.tup [.agg [.int .i64 mi,.int .i64 st,.str re,.sl nl n 2 f],.bool b]) (.tup [.agg [.int .i64 mi',.int .i64 st',.str re',.sl nl' n' 2 f'],.bool b']) [] []:=by
 subst h3;exact D6 (.tup (.cons (LeV.agg (.cons (Ak h1) (.cons (Ak h2) (.cons (Cn _) (.cons h4 .nil))))) (.cons (Dc h5) .nil)))
theorem Ac0:Ay Tryz.prog gl 59 spStatus9:=by
 refine Bq (gh:=[]) mixed C6 (Ab Aho (Ab Ts Ai)) Tryz.func59 (by kernel_rfl) (by kernel_rfl) ?_;intro xs ls K h;unfold spStatus9 at h;obtain⟨s,rfl,rfl,hl,h⟩:=h;obtain⟨hd,hhd⟩:∃hd,hd=stG s:=⟨_,rfl⟩;obtain⟨kb,hkb⟩:∃kb,kb=Pf s:=⟨_,rfl⟩;obtain⟨mi,hmi⟩:∃mi,mi=hd.minor:=⟨_,rfl⟩;obtain⟨st,hst⟩:∃st,st=hd.status:=⟨_,rfl⟩;obtain⟨re,hre⟩:∃re,re=hd.reason:=⟨_,rfl⟩;have h:=h mi st re kb (by rw[hmi,hhd]) (by rw[hst,hhd]) (by rw[hre,hhd]) hkb;rw[Wk]at hkb;unfold stG at hhd;have HL:LeN s.length 300:=⟨hl⟩;refine⟨_,_,h,λD hD=>?_⟩;clear h;unfold I8;cbv;refine⟨λhg=>?_,λr7 hr7=>?_⟩
 ·subst hD
  have hg:(!(decide ((s.length:Int)<13)||decide (300<(s.length:Int))))=true:=hg;simp only[Bool.not_eq_true',Bool.or_eq_false_iff,decide_eq_false_iff_not]at hg;exact⟨by decide,by decide,by show (7:Int)<=(s.length:Int);omega⟩
 cbv;have e7r:r7=s.take 7:=by
  subst hD;have h:r7=(s.drop 0).take 7:=hr7.h;simpa using h
 clear hr7;refine⟨λhg=>?_,λc7 hc7=>?_⟩
 ·subst hD
  have hg:(!((decide ((s.length:Int)<13)||decide (300<(s.length:Int)))||!(r7==[72,84,84,80,47,49,46])))=true:=hg;simp only[Bool.not_eq_true',Bool.or_eq_false_iff,decide_eq_false_iff_not]at hg;exact⟨by decide,by show (7:Int)<(s.length:Int);omega⟩
 cbv;refine⟨λ_=>?_,λc7' hc7'=>?_⟩
 ·subst hD
  intro hg;have hg:(!((decide ((s.length:Int)<13)||decide (300<(s.length:Int)))||!(r7==[72,84,84,80,47,49,46])))=true:=hg;simp only[Bool.not_eq_true',Bool.or_eq_false_iff,decide_eq_false_iff_not]at hg;exact⟨by decide,by show (7:Int)<(s.length:Int);omega⟩
 cbv;refine⟨λhg=>?_,λc8 hc8=>?_⟩
 ·subst hD
  have hg:(!(((decide ((s.length:Int)<13)||decide (300<(s.length:Int)))||!(r7==[72,84,84,80,47,49,46]))||((c7 != 48)&&(c7' != 49))))=true:=hg;simp only[Bool.not_eq_true',Bool.or_eq_false_iff,decide_eq_false_iff_not]at hg;exact⟨by decide,by show (8:Int)<(s.length:Int);omega⟩
 cbv;refine⟨λhg=>?_,λc12 hc12=>?_⟩
 ·subst hD
  have hg:(!((((decide ((s.length:Int)<13)||decide (300<(s.length:Int)))||!(r7==[72,84,84,80,47,49,46]))||((c7 != 48)&&(c7' != 49)))||(c8 != 32)))=true:=hg;simp only[Bool.not_eq_true',Bool.or_eq_false_iff,decide_eq_false_iff_not]at hg;exact⟨by decide,by show (12:Int)<(s.length:Int);omega⟩
 cbv;refine⟨λhg=>?_,λr13 hr13=>?_⟩
 ·subst hD
  have hg:(!(((((decide ((s.length:Int)<13)||decide (300<(s.length:Int)))||!(r7==[72,84,84,80,47,49,46]))||((c7 != 48)&&(c7' != 49)))||(c8 != 32))||(c12 != 32)))=true:=hg;simp only[Bool.not_eq_true',Bool.or_eq_false_iff,decide_eq_false_iff_not]at hg;exact⟨by decide,by show (13:Int)<=(s.length:Int);omega,Int.le_refl _⟩
 cbv;have e13:r13=s.drop 13:=by
  subst hD;have h:r13=(s.drop 13).take (((s.length:Int)).toNat-13):=hr13.h;rw[h,List.take_of_length_le (by rw[List.length_drop];omega)]
 have e7:VI c7 (s.getD 7 0).toNat:=⟨by subst hD;exact hc7.h⟩;have e7':c7'=c7:=by subst hD;exact hc7'.h.trans hc7.h.symm
 have e8:VI c8 (s.getD 8 0).toNat:=⟨by subst hD;exact hc8.h⟩;have e12:VI c12 (s.getD 12 0).toNat:=⟨by subst hD;exact hc12.h⟩;subst e7';clear hr13 hc7 hc7' hc8 hc12;refine⟨r13,rfl,rfl,by rw[e13,List.length_drop];have:=HL.h;omega,λpl hpl=>?_⟩;cbv;have hcond:=cond9 HL.h e7r hpl e13 e7.h e8.h e12.h;refine br hD (λhbr=>?_) (λhbr=>?_)<;>cbv
 ·have hbr:(((((((decide ((s.length:Int)<13)||decide (300<(s.length:Int)))||!(r7==[72,84,84,80,47,49,46]))||((c7' != 48)&&(c7' != 49)))||(c8 != 32))||(c12 != 32))||!pl))=true:=by subst hD;exact hbr
  rw[hcond,Bool.not_eq_true']at hbr;rw[hbr]at hkb hhd;have hhd:hd=rsH0:=hhd;have hkb:kb=false:=hkb;rw[hmi,hst,hre,hhd,hkb];subst hD;exact finSt rfl rfl rfl (LeV.refl _) rfl
 have hbr:(((((((decide ((s.length:Int)<13)||decide (300<(s.length:Int)))||!(r7==[72,84,84,80,47,49,46]))||((c7' != 48)&&(c7' != 49)))||(c8 != 32))||(c12 != 32))||!pl))=false:=by subst hD;exact hbr
 rw[hcond,Bool.not_eq_false']at hbr;have hf:=hbr;rw[hbr]at hkb hhd;have hhd:hd=stH s:=hhd;rw[Bool.true_and]at hkb;clear hbr hcond hpl;have h13:LeN 13 s.length:=⟨by
  unfold Uo at hf;simp only[Bool.and_eq_true,decide_eq_true_eq]at hf;exact hf.1.1.1.1.1⟩
 have h48:s.getD 7 0=48\/s.getD 7 0=49:=by
  unfold Uo at hf;simp only[Bool.and_eq_true,Bool.or_eq_true,beq_iff_eq]at hf;exact hf.1.1.1.2
 refine⟨by subst hD;exact⟨by decide,by decide,by show (12:Int)<=(s.length:Int);have:=h13.h;omega⟩,λd hd2=>?_⟩;cbv;have ed:d=(s.drop 9).take 3:=by subst hD;exact hd2.h
 clear hd2;refine⟨d,rfl,rfl,by rw[ed,List.length_take];omega,λnv hnv=>?_⟩;cbv;rw[ed]at hnv;rw[<-hnv]at hkb;refine⟨by subst hD;exact⟨by decide,by show (7:Int)<(s.length:Int);have:=h13.h;omega⟩,λc hc=>?_⟩;cbv;have ec:VI c (s.getD 7 0).toNat:=⟨by subst hD;exact hc.h⟩;clear hc;refine⟨by subst hD;exact⟨by decide,by show (13:Int)<=(s.length:Int);have:=h13.h;omega,Int.le_refl _⟩,λre2 hre2=>?_⟩;cbv;have er:re2=s.drop 13:=by
  subst hD;have h:re2=(s.drop 13).take (((s.length:Int)).toNat-13):=hre2.h;rw[h,List.take_of_length_le (by rw[List.length_drop];omega)]
 rw[hmi,hst,hre,hhd,hkb];unfold stH;rw[<-hnv,er];refine finSt ?_ (by subst hD;rfl) rfl (by subst hD;exact LeV.refl _) (by subst hD;rfl);subst hD;show IntKind.i64.wrap (IntKind.u8.wrap (c-48))=((s.getD 7 0).toNat:Int)-48;rw[ec.h];rcases h48 with e|e<;>rw[e]<;>decide
theorem Ahm{f f':Nat->List SV}{n':Int}{t:List UInt8}{a:Nat}{A B:Int}(R:Ae0 f t)(h:Aey f' n' f A B)(hA:A=a):Ae0 f' (t.drop a):=λj=>by
 rw[h.row j (j+a) (by omega),R (j+a),List.getD_eq_getElem?_getD,List.getD_eq_getElem?_getD,List.getElem?_drop,Nat.add_comm a j]
def spHeadRef:FSpec:=λ_ xs ls K=>∃(b:List UInt8) (nl:Bool) (n:Int) (f:Nat->List SV),xs=[.sl (.a nl) (.a n) 1 f]/\ls=[]/\A7 f n b/\Ae0 f b/\b.length<=1000000/\
 ∀hd u e mi st re f1 n1 b1,(hd,u,e)=An b->HdV hd mi st re f1 n1 b1->K (.tup [I8 mi st re b1 n1 f1,.int .i64 (.a u),.int .i64 (.a e)]) []
theorem Sv{b:List UInt8}{p:Nat}(h:p<b.length):Lib.hasSuffix (b.take p) [13]=(decide (p≠0)&&(b.getD (p-1) 0==13))/\(p≠0->b.getD (p-1) 0=13->Lib.trimSuffix (b.take p) [13]=b.take (p-1)):=by
 have key:∀q:List UInt8,Lib.hasSuffix q [13]=(decide (q.length≠0)&&(q.getD (q.length-1) 0==13)):=by
  intro q;rcases List.eq_nil_or_concat q with rfl|⟨r,c,rfl⟩
  ·rfl
  ·unfold Lib.hasSuffix
   have e1:(r.concat c).getD ((r.concat c).length-1) 0=c:=by
    rw[List.concat_eq_append,List.length_append,List.getD_eq_getElem?_getD,List.getElem?_append_right (by simp)];simp
   rw[e1,Bool.eq_iff_iff,List.isSuffixOf_iff_suffix,List.concat_eq_append];simp only[Bool.and_eq_true,decide_eq_true_eq,beq_iff_eq,List.length_append,List.length_cons,List.length_nil];constructor
   ·rintro⟨t,ht⟩
    have:=List.append_inj_right' ht rfl;simp only[List.cons.injEq,and_true]at this;exact⟨by omega,this.symm⟩
   ·rintro⟨_,rfl⟩
    exact⟨r,rfl⟩
 have hl:(b.take p).length=p:=by rw[List.length_take];omega
 have hs:=key (b.take p);rw[hl]at hs
 by_cases hp:p=0
 ·subst hp
  exact⟨by rw[hs];rfl,λh=>absurd rfl h⟩
 have e2:(b.take p).getD (p-1) 0=b.getD (p-1) 0:=by
  rw[List.getD_eq_getElem?_getD,List.getD_eq_getElem?_getD,List.getElem?_take,if_pos (by omega)]
 rw[e2]at hs;refine⟨hs,λ_ h13=>?_⟩;unfold Lib.trimSuffix;rw[hs,h13,decide_eq_true hp];show (b.take p).take ((b.take p).length-1)=_;rw[hl,List.take_take];congr 1;omega
theorem Aaq{b:List UInt8}{i:Nat}(h:Mb b 0 i):(10:UInt8) ∉ b.take i:=by
 intro hm;obtain⟨j,hj,e⟩:=List.mem_iff_getElem.1 hm;rw[List.getElem_take]at e;rw[List.length_take]at hj;exact h j (Nat.zero_le _) (by omega) (by rw[List.getD_eq_getElem?_getD,List.getElem?_eq_getElem (by omega)];exact e)
theorem Alt{b:List UInt8}{i:Nat}(h:Mb b 0 i)(hi:i=b.length\/i=302)(h2:i<=302):An b=(rsH0,0,if 302<=b.length then 3 else 10):=by
 have ht:b.take 302=b.take i:=by
  rcases hi with rfl|rfl
  ·rw[List.take_of_length_le (Nat.le_refl _),List.take_of_length_le h2]
  ·rfl
 unfold An;rw[ht,Qf (Aaq h)];rfl
theorem hrCut{b:List UInt8}{i:Nat}(h:Mb b 0 i)(hi:i<b.length)(h2:i<302)(hc:b.getD i 0=10):Am 10 (b.take 302)=(b.take i,(b.take 302).drop (i+1),true):=by
 have h1:(b.take 302).take i=b.take i:=by rw[List.take_take];congr 1;omega
 have hl:i<(b.take 302).length:=by rw[List.length_take];omega
 have e:b.take 302=b.take i++10 :: (b.take 302).drop (i+1):=by
  have h3:=List.take_append_drop i (b.take 302);rw[h1,List.drop_eq_getElem_cons hl,List.getElem_take]at h3;have h4:b[i]=10:=by
   rw[List.getD_eq_getElem?_getD,List.getElem?_eq_getElem hi]at hc;exact hc
  rw[h4]at h3;exact h3.symm
 exact (congrArg (Am 10) e).trans (Jr (Aaq h) _)
theorem hrBad{b:List UInt8}{i:Nat}(h:Mb b 0 i)(hi:i<b.length)(h2:i<302)(hc:b.getD i 0=10)(h13:(decide (i≠0)&&(b.getD (i-1) 0==13))=false):An b=(rsH0,0,6):=by
 unfold An;rw[hrCut h hi h2 hc];simp only[Bool.not_true,Bool.false_eq_true,if_false];rw[(Sv hi).1,h13];rfl
theorem hrOk{b:List UInt8}{i:Nat}(h:Mb b 0 i)(hi:i<b.length)(h2:i<302)(hc:b.getD i 0=10)(h13:(decide (i≠0)&&(b.getD (i-1) 0==13))=true):An b =
  if !Pf (b.take (i-1)) then (rsH0,0,6) else if (Av (b.drop (i+1))).2.2≠0 then (rsH0,0,(Av (b.drop (i+1))).2.2) else
  ({ stH (b.take (i-1)) with fields:=(Av (b.drop (i+1))).1 },(i:Int)+1+(Av (b.drop (i+1))).2.1,0):=by
 have hl:(b.take i).length=i:=by rw[List.length_take];omega
 have h14:=h13;simp only[Bool.and_eq_true,decide_eq_true_eq,beq_iff_eq]at h14;unfold An;rw[hrCut h hi h2 hc];simp only[Bool.not_true,Bool.false_eq_true,if_false];rw[(Sv hi).1,(Sv hi).2 h14.1 h14.2,h13,hl,Bool.true_and]
structure Hr9J(b:List UInt8)(i:Nat)(I:Int)(m:Nat):Prop where
 I:I=(i:Int)
 le:i<=b.length
 le2:i<=302
 no:Mb b 0 i
 m:m=302-i
def hrJ9(b:List UInt8)(nl:Bool)(n:Int)(f:Nat->List SV)(m:Nat)(vs:List (Option SV))(hp:List Hl):Prop :=
 ∃(i:Nat) (I:Int),vs=[some (.sl (.a nl) (.a n) 1 f),some (.ptr 0 0),some (.int .i64 (.a I))]/\hp=[.blk 25 [.int .i64 (.a 0),.int .i64 (.a 0),.str [],.sl (.a true) (.a 0) 2 (λ_=>[])]]/\Hr9J b i I m
theorem Ad9:Ay Tryz.prog gl 18 spHeadRef:=by
 refine Bq (gh:=[]) mixed C6 (Ab Ac0 (Ab Ad6 Ai)) Tryz.func18 (by kernel_rfl) (by kernel_rfl) ?_;intro xs ls K h;unfold spHeadRef at h;obtain⟨b,nl,n,f,rfl,rfl,R,hT,hb,h⟩:=h;obtain⟨k,hk⟩:∃k,k=An b:=⟨_,rfl⟩;obtain⟨mi,st,re,f1,n1,b1,V⟩:=Tc b hb;rw[<-hk]at V;obtain⟨hd,u,e⟩:=k;have h:=h hd u e mi st re f1 n1 b1 hk V;have VB:VI n b.length:=⟨R.n⟩;have HB:LeN b.length 1000000:=⟨hb⟩;clear hb;refine⟨_,_,h,λD hD=>?_⟩;clear h;unfold I8;cbv;obtain⟨J,hJ⟩:∃J,J=hrJ9 b nl n f:=⟨_,rfl⟩;refine⟨[0,2,5],J,⟨rfl,302,?_⟩,?_⟩
 ·rw[hJ]
  subst hD;exact⟨0,0,rfl,rfl,⟨rfl,Nat.zero_le _,Nat.zero_le _,Pp b 0,rfl⟩⟩
 intro m vs hp hv;rw[hJ]at hv;obtain⟨i,I,e1,e2,B⟩:=hv;revert e1 e2;cbv;intro e1 e2;subst e1 e2;cbv;have VI1:VI I i:=⟨B.I⟩;refine⟨λhg=>?_,λj hj=>?_⟩
 ·have hg:(decide (I<n)&&decide (I<302))=true:=by subst hD;exact hg
  simp only[Bool.and_eq_true,decide_eq_true_eq]at hg;have hg1:=hg.1;subst hD;exact⟨by show 0<=I;rw[VI1.h];omega,hg1⟩
 have hj:(decide (I<n)&&decide (I<302))=true->j=i:=λh=>by
  have h3:=isJ (I:=I) hD (hj (by subst hD;exact h));have:=VI1.h;omega
 obtain⟨c,hfj,hcb⟩:∃c:Int,f j=[.int .u8 (.a c)]/\CB c (b.getD j 0):=⟨_,hT j,⟨rfl⟩⟩;cbv;rw[hfj];cbv;clear hfj;refine br hD (λh=>?_) (λh=>?_)<;>cbv
 ·have h:((decide (I<n)&&decide (I<302))&&c != 10)=true:=by subst hD;exact h
  rw[Bool.and_eq_true]at h;obtain rfl:=hj h.1;have hne:b.getD j 0≠10:=λe=>by
   have h:=h.2;rw[((Ae6 hcb.h).1).2 e]at h;exact absurd h (by decide)
  have h1:=h.1;simp only[Bool.and_eq_true,decide_eq_true_eq]at h1;have hI:=VI1.h;have hn:=VB.h;refine⟨302-(j+1),by have:=B.m;omega,?_⟩;rw[hJ];subst hD;exact⟨j+1,_,rfl,rfl,⟨by show IntKind.i64.wrap (I+1)=_;rw[A4 (by omega) (by omega)];omega,by omega,by omega,W0 B.no hne,rfl⟩⟩
 have h:((decide (I<n)&&decide (I<302))&&c != 10)=false:=by subst hD;exact h
 refine br hD (λh3=>?_) (λh3=>?_)<;>cbv
 ·have h3:I=302:=by
   have h3:(I==302)=true:=by subst hD;exact h3
   simpa using h3
  have hi:i=302:=by have:=VI1.h;omega
  rw[Alt B.no (Or.inr hi) B.le2,if_pos (by have:=B.le;omega)]at hk;exact Iv hD hk V rfl
 have h3:¬I=302:=by
  have h3:(I==302)=false:=by subst hD;exact h3
  simpa using h3
 refine br hD (λh4=>?_) (λh4=>?_)<;>cbv
 ·have h4:I=n:=by
   have h4:(I==n)=true:=by subst hD;exact h4
   simpa using h4
  have hi:i=b.length:=by have:=VI1.h;have:=VB.h;omega
  rw[Alt B.no (Or.inl hi) B.le2,if_neg (by have:=B.le2;have:=VI1.h;omega)]at hk;exact Iv hD hk V rfl
 have h4:¬I=n:=by
  have h4:(I==n)=false:=by subst hD;exact h4
  simpa using h4
 have hI2:i<302:=by have:=B.le2;have:=VI1.h;omega
 have hI1:i<b.length:=by have:=B.le;have:=VI1.h;have:=VB.h;omega
 have hand:(decide (I<n)&&decide (I<302))=true:=by
  have:=VI1.h;have:=VB.h;rw[decide_eq_true (p:=I<n) (by omega),decide_eq_true (p:=I<302) (by omega)];rfl
 obtain rfl:=hj hand;rw[hand]at h;have hc10:b.getD j 0=10:=by
  have h:(c != 10)=false:=h;refine (Ae6 hcb.h).1.1 ?_;simpa using h
 clear hj hand h h3 h4 hcb;have LI:LeN (j+1) b.length:=⟨hI1⟩;have LI2:LeN (j+1) 302:=⟨hI2⟩;have hw:j≠0->IntKind.i64.wrap (I-1)=((j-1:Nat):Int):=λh=>by
  have:=VI1.h;have:=LI2.h;rw[A4 (by omega) (by omega)];omega
 refine⟨λhg=>?_,λj2 hj2=>?_⟩
 ·have hg:(!(I==0))=true:=by subst hD;exact hg
  have hg:¬I=0:=by simpa using hg
  have h1:=hw (by have:=VI1.h;omega);have:=VB.h;have:=LI.h;subst hD;refine⟨?_,?_⟩
  ·show 0<=IntKind.i64.wrap (I-1);omega
  ·show IntKind.i64.wrap (I-1)<n;omega
 have hj2:j≠0->j2=j-1:=λh0=>by
  have h:=hj2 (by subst hD;show (!(I==0))=true;have:=VI1.h;simp;omega);subst hD;have h:(j2:Int)=IntKind.i64.wrap (I-1):=h.h;have:=hw h0;omega
 obtain⟨c2,hfj2,hcb2⟩:∃c:Int,f j2=[.int .u8 (.a c)]/\CB c (b.getD j2 0):=⟨_,hT j2,⟨rfl⟩⟩;cbv;rw[hfj2];cbv;clear hfj2;have hcond:(I==0||c2 != 13)=!(decide (j≠0)&&(b.getD (j-1) 0==13)):=by
  have:=VI1.h
  by_cases h0:j=0
  ·have:I=0:=by omega
   rw[this,h0];rfl
  ·have e:(I==0)=false:=by simp;omega
   rw[e,decide_eq_true h0,<-hj2 h0];have hcc:=hcb2.h;have u:=Ag8 (b.getD j2 0) 13;rw[<-hcc]at u;have u:(c2 != 13)=_:=u;rw[u];rfl
 clear hj2 hcb2;refine br hD (λh=>?_) (λh=>?_)<;>cbv
 ·have h:(I==0||c2 != 13)=true:=by subst hD;exact h
  rw[hcond,Bool.not_eq_true']at h;rw[hrBad B.no (by have:=LI.h;omega) (by have:=LI2.h;omega) hc10 h]at hk;exact Iv hD hk V rfl
 have h:(I==0||c2 != 13)=false:=by subst hD;exact h
 rw[hcond]at h;have h:(decide (j≠0)&&(b.getD (j-1) 0==13))=true:=by simpa using h
 rw[hrOk B.no (by have:=LI.h;omega) (by have:=LI2.h;omega) hc10 h]at hk;have hj0:j≠0:=by
  rw[Bool.and_eq_true]at h;exact of_decide_eq_true h.1
 have VW:VI (IntKind.i64.wrap (I-1)) (j-1):=⟨hw hj0⟩;clear h hcond hw hc10;refine⟨by subst hD;exact⟨Int.le_refl _,by show (0:Int)<=IntKind.i64.wrap (I-1);rw[VW.h];omega,by show IntKind.i64.wrap (I-1)<=n;rw[VW.h,VB.h];have:=LI.h;omega⟩,λf3 n3 hsub=>?_⟩;cbv;have R3:A7 f3 n3 (b.take (j-1)):=by
  have:=R.sub (a:=0) (b:=j-1) hsub (by subst hD;rfl) (by subst hD;exact VW.h) (Nat.zero_le _) (by have:=LI.h;omega)
  rwa [List.drop_zero,Nat.sub_zero]at this
 clear hsub;refine⟨by subst hD;exact R3.byte,λs hs=>?_⟩;cbv;have hs:s=b.take (j-1):=by subst hD;exact R3.str hs
 rw[<-hs]at hk;have hsl:LeN s.length 300:=⟨by rw[hs,List.length_take];have:=LI2.h;omega⟩;clear hs R3;refine⟨s,rfl,rfl,hsl.h,λmi9 st9 re9 ok9 hmi hst hre hok=>?_⟩;cbv;refine br hD (λh=>?_) (λh=>?_)<;>cbv
 ·have h:(!ok9)=true:=by subst hD;exact h
  rw[<-hok,if_pos h]at hk;exact Iv hD hk V rfl
 have h:(!ok9)=false:=by subst hD;exact h
 rw[<-hok,if_neg (by rw[h];decide)]at hk;have hf:stG s=stH s:=by
  rw[Wk]at hok;unfold stG;rw[if_pos];cases hF:Uo s with
  |true=>rfl
  |false =>
   rw[hF]at hok;rw[show ok9=false from hok]at h;cases h
 rw[hf]at hmi hst hre;clear hf h hok;have VW2:VI (IntKind.i64.wrap (I+1)) (j+1):=⟨by have:=VI1.h;have:=LI2.h;rw[A4 (by omega) (by omega)];omega⟩;refine⟨by subst hD;exact⟨by show (0:Int)<=IntKind.i64.wrap (I+1);rw[VW2.h];omega,by show IntKind.i64.wrap (I+1)<=n;rw[VW2.h,VB.h];have:=LI.h;omega,Int.le_refl _⟩,λf4 n4 hsub=>?_⟩;cbv;obtain⟨q,hq⟩:∃q,q=b.drop (j+1):=⟨_,rfl⟩;have R4:A7 f4 n4 q:=by
  have:=R.sub (a:=j+1) (b:=b.length) hsub (by subst hD;exact VW2.h) (by subst hD;exact VB.h) (by have:=LI.h;omega) (Nat.le_refl _);rw[hq]
  rwa [List.take_of_length_le (by rw[List.length_drop];omega)]at this
 have T4:Ae0 f4 q:=hq ▸ Ahm hT hsub (by subst hD;exact VW2.h);have hql:LeN q.length 1000000:=⟨by have:=HB.h;rw[hq,List.length_drop];omega⟩;rw[<-hq]at hk;clear hsub hq;refine⟨q,_,_,f4,rfl,rfl,by subst hD;exact R4,T4,hql.h,λl fl nl2 bl u2 e2 hkk Gl=>?_⟩;cbv;rw[<-hkk]at hk;simp only at hk;refine br hD (λhbr=>?_) (λhbr=>?_)<;>cbv
 ·have hbr:(e2 != 0)=true:=by subst hD;exact hbr
  rw[if_pos (by simpa using hbr)]at hk;exact Iv hD hk V (by subst hD;rfl)
 have hbr:(e2 != 0)=false:=by subst hD;exact hbr
 rw[if_neg (by simpa using hbr)]at hk;have HKK:0<=u2/\u2<=q.length:=by have:=Uh q;rw[<-hkk]at this;exact this.2
 have HKB:BdI 0 u2 1000000:=⟨HKK.1,by have:=hql.h;omega⟩;have HJB:BdI 0 (j:Int) 302:=⟨Int.natCast_nonneg _,by have:=LI2.h;omega⟩;clear hbr hkk HKK;simp only[Prod.mk.injEq]at hk;obtain⟨rfl,rfl,rfl⟩:=hk;obtain⟨rfl,rfl,rfl,G2⟩:=V;refine Al9 (by subst hD;exact hmi) (by subst hD;exact hst) hre (Af9 Gl G2 (by subst hD;rfl) (by subst hD;rfl)) ?_ (by subst hD;rfl);subst hD;show IntKind.i64.wrap (IntKind.i64.wrap (I+1)+u2)=(j:Int)+1+u2;have:=VW2.h;have:=HKB.lo;have:=HKB.hi;have:=HJB.lo;have:=HJB.hi;rw[A4 (by omega) (by omega)];omega
theorem Ain:Ay Tryz.prog gl 70 spCheckH:=by
 refine Bq (gh:=[]) mixed B4 (Ab Qv Ai) Tryz.func70 (by kernel_rfl) (by kernel_rfl) ?_;intro xs ls K h;unfold spCheckH at h;obtain⟨hd,mi,st,re,nl,n,f,rfl,rfl,V,h⟩:=h;obtain⟨k,hk⟩:∃k,k=Gj hd:=⟨_,rfl⟩;refine⟨_,_,h k hk,λD hD=>?_⟩;clear h;unfold I8;unfold Gj at hk;rw[<-V.emi,<-V.est]at hk;cbv;refine br hD (λhb=>?_) (λhb=>?_)<;>cbv
 ·have hb:(((decide (mi<0)||decide (1<mi))||decide (st<100))||decide (599<st))=true:=by subst hD;exact hb
  refine Be hD ?_;rw[hk,if_pos]
  ·rfl
  ·simp only[Bool.or_eq_true,decide_eq_true_eq]at hb
   omega
 have hb:(((decide (mi<0)||decide (1<mi))||decide (st<100))||decide (599<st))=false:=by subst hD;exact hb
 rw[if_neg (by simp only[Bool.or_eq_false_iff,decide_eq_false_iff_not]at hb;omega)]at hk;clear hb;refine⟨hd.fields,_,_,f,rfl,rfl,by subst hD;exact V.row,λe he=>?_⟩;cbv;exact Be hD (he.trans hk.symm)
theorem Ajc:Ay Tryz.prog gl 181 spAsk:=by
 refine Bq (gh:=[]) mixed B4 (Ab Qv (Ab H8 Ai)) Tryz.func181 (by kernel_rfl) (by kernel_rfl) ?_;intro xs ls K h;unfold spAsk at h;obtain⟨l,nl,n,f,t,rfl,rfl,R,ht,h⟩:=h;obtain⟨k,hk⟩:∃k,k=Md l t:=⟨_,rfl⟩;refine⟨_,_,h k hk,λD hD=>?_⟩;clear h;unfold Md at hk;cbv;refine⟨l,_,_,f,rfl,rfl,by subst hD;exact R,λe he=>?_⟩;cbv;rw[<-he]at hk;refine⟨t,rfl,rfl,ht,λx hx=>?_⟩;have hx2:x=Bg t:=by subst hD;rw[Nr];exact hx
 clear hx;cbv;rw[<-hx2]at hk;refine br hD (λhb=>?_) (λhb=>?_)<;>cbv
 ·have hb:((e==0)&&!x)=true:=by subst hD;exact hb
  refine Be hD ?_;simp only[Bool.and_eq_true,beq_iff_eq,Bool.not_eq_true']at hb;rw[hk,if_neg (by simp[hb.1]),hb.2];rfl
 ·have hb:((e==0)&&!x)=false:=by subst hD;exact hb
  refine Be hD ?_;rw[hk]
  by_cases g:e=0
  ·rw[if_neg (by simp[g])]
   have:x=true:=by simpa[g] using hb
   rw[this,if_pos rfl];exact g
  ·rw[if_pos g];rfl
theorem Aip(l:List HF)(t:List UInt8):Uk l t=B5 l (foldF t):=rfl
def spGet131:FSpec:=λ_ xs ls K=>∃(l:List HF) (nl:Bool) (n:Int) (f:Nat->List SV) (t:List UInt8),xs=[.sl (.a nl) (.a n) 2 f,.str t]/\ls=[]/\Bu f n l/\t.length<=1000/\
 ∀r e g n' b,GkI l t e r->GrS g n' b r->K (.tup [.sl (.a b) (.a n') 1 g,.int .i64 (.a e)]) []
theorem Xd:Ay Tryz.prog gl 131 spGet131:=by
 refine Bq (gh:=[]) mixed B4 (Ab Ajc (Ab get_ok Ai)) Tryz.func131 (by kernel_rfl) (by kernel_rfl) ?_;intro xs ls K h;unfold spGet131 at h;obtain⟨l,nl,n,f,t,rfl,rfl,R,ht,h⟩:=h;obtain⟨e,he⟩:∃e,e=Md l t:=⟨_,rfl⟩;obtain⟨r,hr⟩:∃r,r=if Md l t=0 then B5 l (foldF t) else []:=⟨_,rfl⟩
 have hrl:r.length<=9223372036854775807:=by
  rw[hr]
  split
  ·have:=Nq l (foldF t);have:=R.len;omega
  ·simp
 obtain⟨g,n',b,G⟩:∃g n' b,GrS g n' b r:=⟨_,_,_,⟨Bl.row hrl,rfl⟩⟩;refine⟨_,_,h r e g n' b ⟨he,hr⟩ G,λD hD=>?_⟩;clear h hrl;rw[<-he]at hr;cbv;refine⟨l,_,_,f,t,rfl,rfl,by subst hD;exact R,by omega,λe2 he2=>?_⟩;cbv;obtain rfl:e2=e:=he2.trans he.symm;refine br hD (λhb=>?_) (λhb=>?_)<;>cbv
 ·have hb:(e2 != 0)=true:=by subst hD;exact hb
  rw[if_neg (by simpa using hb)]at hr;subst hr;subst hD;exact D6 (.tup (.cons (Ol GrS.nil G rfl rfl) (.cons (Ak rfl) .nil)))
 have hb:e2=0:=by
  have hb:(e2 != 0)=false:=by subst hD;exact hb
  simpa using hb
 rw[if_pos hb]at hr;have hl:l.length<=100:=by
  rw[hb]at he;refine Nc ?_;unfold Md at he
  by_cases g:A6 l=0
  ·exact g
  ·rw[if_pos g]at he;exact he.symm
 clear he2;refine⟨l,t,_,_,f,rfl,rfl,by subst hD;exact R,hl,ht,λr2 g2 n2 b2 hr2 G2=>?_⟩;cbv;rw[Aip]at hr2;obtain rfl:r2=r:=hr2.trans hr.symm;subst hD;exact D6 (.tup (.cons (Ol G2 G rfl rfl) (.cons (Ak hb.symm) .nil)))
def spThere:FSpec:=λ_ xs ls K=>∃(l:List HF) (nl:Bool) (n:Int) (f:Nat->List SV) (t:List UInt8),xs=[.sl (.a nl) (.a n) 2 f,.str t]/\ls=[]/\Bu f n l/\t.length<=1000/\∀r,r=!(Cc l t).isEmpty->K (.bool (.a r)) []
theorem Agi{l:List HF}{t:List UInt8}{e:Int}{r:List (List UInt8)}(h:GkI l t e r):r=Cc l t:=h.er
theorem Ajq:Ay Tryz.prog gl 71 spThere:=by
 refine Bq (gh:=[]) mixed B4 (Ab Xd Ai) Tryz.func71 (by kernel_rfl) (by kernel_rfl) ?_;intro xs ls K h;unfold spThere at h;obtain⟨l,nl,n,f,t,rfl,rfl,R,ht,h⟩:=h;obtain⟨k,hk⟩:∃k,k=!(Cc l t).isEmpty:=⟨_,rfl⟩;refine⟨_,_,h k hk,λD hD=>?_⟩;clear h;cbv;refine⟨l,_,_,f,t,rfl,rfl,by subst hD;exact R,ht,λr e g n' b hr G=>?_⟩;cbv;rw[<-Agi hr]at hk;refine Aw hD ?_;show decide (0<n')=k;have hn:=G.row.n;rw[hk];cases r with
 |nil=>rw[hn];rfl
 |cons x r=>rw[hn];exact decide_eq_true (by simp only[List.length_cons];omega)
def Cp:List (List UInt8)->Option (List (List UInt8))
 | []=>some []
 |v :: r=>if (Az v).2=0 then (Cp r).map λl=>(Az v).1++l else none
theorem Kc:∀r:List (List UInt8),Bj r=(Cp r).map (List.map foldF)
 | []=>rfl
 |v :: r=>by
  unfold Bj Cp;rw[Kc r]
  split
  ·cases Cp r with
   |none=>rfl
   |some l=>simp
  ·rfl
theorem Na:∀(r:List (List UInt8)) (L:List (List UInt8)),Cp r=some L->L.length<=2001 * r.length/\∀x∈L,x.length<=2000
 | [],L,h=>by cases h;exact⟨by simp,λx hx=>by cases hx⟩
 |v :: r,L,h=>by
  unfold Cp at h
  split at h
  ·cases hr:Cp r with
   |none=>rw[hr]at h;cases h
   |some L' =>
    rw[hr]at h;simp only[Option.map_some,Option.some.injEq]at h;subst h;obtain⟨h1,h1'⟩:=Na r L' hr;obtain⟨h2,h2'⟩:=Dl v;refine⟨by rw[List.length_append,List.length_cons];omega,λx hx=>?_⟩;rcases List.mem_append.1 hx with hx|hx
    ·exact h2' x hx
    ·exact h1' x hx
  ·cases h
theorem Bl.app9{f f' g:Nat->List SV}{n n' m:Int}{a u:List (List UInt8)}(R:Bl f n a)(G:Bl g m u)(h:G8 f' n' n m f g)(hl:a.length+u.length<=9223372036854775807):Bl f' n' (a++u):=by
 have h1:=R.n;have h2:=G.n;refine⟨by rw[h.len,h1,h2,List.length_append];omega,λi hi=>?_,by rw[List.length_append];exact hl⟩;rw[List.length_append]at hi;rw[List.getD_eq_getElem?_getD,List.getElem?_append]
 split
 ·rename_i hlt
  rw[h.lo i (by omega),R.f i hlt,List.getD_eq_getElem?_getD]
 ·rename_i hlt
  rw[h.hi i (i-a.length) (by omega) (by omega),G.f _ (by omega),List.getD_eq_getElem?_getD]
def spEls:FSpec:=λ_ xs ls K=>∃(l:List HF) (nl:Bool) (n:Int) (f:Nat->List SV) (t:List UInt8),xs=[.sl (.a nl) (.a n) 2 f,.str t]/\ls=[]/\Bu f n l/\t.length<=1000/\
 ∀out ok n' b,out=(Cp (Cc l t)).getD []->ok=(Cp (Cc l t)).isSome->n'=(out.length:Int)->b=out.isEmpty->K (.tup [.sl (.a b) (.a n') 1 (Cj out),.bool (.a ok)]) []
structure ElJ9(r:List (List UInt8))(k:Option (List (List UInt8)))(O:List (List UInt8))(i:Nat)(I:Int)(m:Nat)(n:Int)(b:Bool)(f:Nat->List SV):Prop where
 lie:AtR r i I m
 row:GrS f n b O
 ol:O.length<=2001 * i
 k:k=(Cp (r.drop i)).map λL=>O++L
def elJ9(r:List (List UInt8))(k:Option (List (List UInt8)))(rb:Bool)(rn:Int)(rf:Nat->List SV)(m:Nat)(vs:List (Option SV))(hp:List Hl):Prop :=
 ∃(O:List (List UInt8)) (i:Nat) (I n:Int) (b:Bool) (f:Nat->List SV),vs=[some (.sl (.a rb) (.a rn) 1 rf),some (.gsl (.a b) (.a n) 1 f 0),some (.int .i64 (.a I))]/\hp=[.tail 9 (.a n) 1]/\ElJ9 r k O i I m n b f
theorem els_ok:Ay Tryz.prog gl 72 spEls:=by
 refine Bq (gh:=[(2,[.attach 8 9])]) mixed B4 (Ab Xd (Ab Tj Ai)) Tryz.func72 (by kernel_rfl) (by kernel_rfl) ?_;intro xs ls K h;unfold spEls at h;obtain⟨l,nl,n,f,t,rfl,rfl,R,ht,h⟩:=h;obtain⟨k,hk⟩:∃k,k=Cp (Cc l t):=⟨_,rfl⟩;have hsm:=Ku l t;obtain⟨ok,hok⟩:∃ok,ok=k.isSome:=⟨_,rfl⟩;obtain⟨out,hout⟩:∃out,out=k.getD []:=⟨_,rfl⟩;have hol:out.length<=9223372036854775807:=by
  rw[hout];cases k with
  |none=>simp
  |some L=>have:=(Na _ _ hk.symm).1;simp only[Option.getD_some];omega
 obtain⟨n',hn'⟩:∃n':Int,n'=(out.length:Int):=⟨_,rfl⟩;obtain⟨b,hb'⟩:∃b,b=out.isEmpty:=⟨_,rfl⟩;refine⟨_,_,h out ok n' b (by rw[hout,hk]) (by rw[hok,hk]) hn' hb',λD hD=>?_⟩;obtain⟨g,hg⟩:∃g,g=Cj out:=⟨_,rfl⟩;have G:GrS g n' b out:=⟨by rw[hg,hn'];exact Bl.row hol,hb'⟩;rw[<-hg];clear h hol hn' hb' hg;cbv;refine⟨l,_,_,f,t,rfl,rfl,by subst hD;exact R,ht,λr e rf rn rb hr RG=>?_⟩;cbv;have hr2:=Agi hr;rw[<-hr2]at hk hsm;obtain⟨J,hJ⟩:∃J,J=elJ9 r k rb rn rf:=⟨_,rfl⟩;refine⟨[6,8,9],J,⟨rfl,r.length,?_⟩,?_⟩
 ·rw[hJ]
  subst hD;exact⟨[],0,_,_,_,_,rfl,rfl,⟨AtR.zero (by omega),GrS.nil,by simp,by rw[List.drop_zero,<-hk];cases k<;>rfl⟩⟩
 clear hk hr hr2;intro m vs hp hj;rw[hJ]at hj;obtain⟨O,i,I,on,ob,of,rfl,rfl,V⟩:=hj;have AL:Anc r:=⟨hsm.1,hsm.2⟩;clear hsm;cbv;refine br hD (λh=>?_) (λh=>?_)<;>cbv
 ·have hlt:=V.lie.lt RG.row.n (of_decide_eq_true (p:=I<rn) h)
  clear h;refine⟨V.lie.inB hD RG.row.n hlt,λj hj=>?_⟩;obtain rfl:=V.lie.j hD hj;clear hj;have e1:=RG.row.f j hlt;have hxl:=AL.h (r.getD j []) (by rw[List.getD_eq_getElem?_getD,List.getElem?_eq_getElem hlt];exact List.getElem_mem hlt);have hVk:=V.k;rw[Kn (d:=[]) hlt,Cp]at hVk;obtain⟨x,hx⟩:∃x,x=r.getD j []:=⟨_,rfl⟩;rw[<-hx]at e1 hxl hVk;have hel:=Dl x;cbv;rw[e1];cbv;refine⟨x,rfl,rfl,by omega,λu ue un ub hu hun hub=>?_⟩;rw[<-hu]at hVk hel;simp only at hVk hel;have UG:GrS (Cj u) un ub u:=⟨by rw[hun];exact Bl.row (by omega),by rw[hub,<-hu]⟩;have UL:LeN u.length 2001:=⟨hel.1⟩;clear hu hun hub hel;obtain⟨ur,hur⟩:∃ur,ur=Cj u:=⟨_,rfl⟩;rw[<-hur]at UG ⊢;clear hur;cbv;refine br hD (λh=>?_) (λh=>?_)<;>cbv
  ·have h:(ue != 0)=true:=by subst hD;exact h
   rw[if_neg (by simpa using h)]at hVk;have hk0:k=none:=hVk;rw[hk0]at hout hok;have hout:out=[]:=hout;have hok:ok=false:=hok;subst hout hok;subst hD;exact D6 (.tup (.cons (Ol GrS.nil G rfl rfl) (.cons (Dc rfl) .nil)))
  have h:(ue != 0)=false:=by subst hD;exact h
  rw[if_pos (by simpa using h)]at hVk;clear h;have OL:LeN (O.length+u.length) 300000:=⟨by have:=V.ol;have:=UL.h;have:=AL.len;omega⟩;have V1:VI on O.length:=⟨V.row.row.n⟩;have V2:VI un u.length:=⟨UG.row.n⟩;refine⟨by subst hD;exact⟨rfl,by show (on+un) * 16<=_;rw[V1.h,V2.h];have:=OL.h;omega,by show on+un<=_;rw[V1.h,V2.h];have:=OL.h;omega⟩,λf3 n3 hm3=>?_⟩;have R3:Bl f3 n3 (O++u):=by
   subst hD;exact V.row.row.app9 UG.row hm3 (by have:=OL.h;omega)
  clear hm3;cbv;refine⟨r.length-(j+1),(V.lie.step hD hlt).1,?_⟩;rw[hJ];subst hD;refine⟨O++u,j+1,_,_,_,f3,rfl,rfl,⟨(V.lie.step rfl hlt).2,⟨R3,?_⟩,?_,?_⟩⟩
  ·show (ob&&decide (un=0))=_
   rw[V.row.nl,V2.h];cases O<;>cases u<;>simp;omega
  ·have:=V.ol;have:=UL.h;rw[List.length_append];omega
  ·rw[hVk]
   cases Cp (r.drop (j+1)) with
   |none=>rfl
   |some L=>simp
 ·have hi:=V.lie.eq RG.row.n (of_decide_eq_false (p:=I<rn) h)
  clear h;have hVk:=V.k;rw[hi,List.drop_length]at hVk;have hVk:k=some (O++[]):=hVk;rw[List.append_nil]at hVk;rw[hVk]at hout hok;have hout:out=O:=hout;have hok:ok=true:=hok;subst hout hok;subst hD;exact D6 (.tup (.cons (Ol V.row G rfl rfl) (.cons (Dc rfl) .nil)))
theorem Ait(c:UInt8):Qd ((Oz c).toNat:Int)=Qd (c.toNat:Int):=by
 unfold Oz
 split
 ·rename_i h
  have e:(c+32).toNat=c.toNat+32:=by
   rw[UInt8.toNat_add];have:(32:UInt8).toNat=32:=rfl;rw[this];omega
  rw[e];unfold Qd;rw[Bool.eq_iff_iff];simp only[Bool.and_eq_true,decide_eq_true_eq];omega
 ·rfl
theorem Al4{c:UInt8}(h:Qd (c.toNat:Int)=true):Oz c=c:=by
 unfold Qd at h;simp only[Bool.and_eq_true,decide_eq_true_eq]at h;unfold Oz;rw[if_neg (by omega)]
theorem Ab5(s:List UInt8):Ca (foldF s)=Ca s:=by
 unfold Ca foldF;rw[List.all_map];congr 1
 funext c;exact Ait c
theorem Xf:∀ {s:List UInt8},Ca s=true->foldF s=s
 | [],_=>rfl
 |c :: s,h=>by
  have h:(Qd (c.toNat:Int)&&Ca s)=true:=h;rw[Bool.and_eq_true]at h;show Oz c :: foldF s=c :: s;rw[Al4 h.1,Xf h.2]
theorem Qe(s:List UInt8):Bt (foldF s)=Bt s:=by
 unfold Bt;have hl:(foldF s).length=s.length:=by unfold foldF;rw[List.length_map]
 rw[hl,Ab5]
 by_cases h:Ca s=true
 ·rw[Xf h]
 ·simp[h]
def Ahn(l:List (List UInt8)):Int×Int×Int :=
 if l.all (λs=>decide (0<=Bt s)&&(Bt s==Bt (l.getD 0 []))) then (if 65536<Bt (l.getD 0 []) then (0,0,3) else (1,Bt (l.getD 0 []),0)) else (0,0,6)
theorem frT{r l:List (List UInt8)}{is:Bool}(hl:l=(Cp r).getD [])(hi:is=(Cp r).isSome):Bj r=some [sChunked]↔is=true/\l.length=1/\foldF (l.getD 0 [])=sChunked:=by
 rw[Kc,hl,hi];cases Cp r with
 |none=>simp
 |some L =>
  cases L with
  |nil=>simp
  |cons x L=>cases L with
   |nil=>simp
   |cons y L=>simp
theorem frN{r l:List (List UInt8)}(hl:Cp r=some l)(hne:l≠[]):(match Bj r with
   |none=>((0:Int),(0:Int),(6:Int))
   |some l=>if (Cs l).2=0 then (1,(Cs l).1,0) else (0,0,(Cs l).2))=Ahn l:=by
 rw[Kc,hl];cases l with
 |nil=>exact (hne rfl).elim
 |cons x l =>
  show (if (Cs (foldF x :: l.map foldF)).2=0 then ((1:Int),(Cs (foldF x :: l.map foldF)).1,(0:Int)) else (0,0,(Cs (foldF x :: l.map foldF)).2))=_;have hall:(foldF x :: l.map foldF).all (λs=>decide (0<=Bt s)&&(Bt s==Bt (foldF x)))=(x :: l).all (λs=>decide (0<=Bt s)&&(Bt s==Bt x)):=by
   rw[show foldF x :: l.map foldF=(x :: l).map foldF from rfl,List.all_map];congr 1
   funext s;show (decide (0<=Bt (foldF s))&&(Bt (foldF s)==Bt (foldF x)))=_;rw[Qe,Qe]
  have hs:Cs (foldF x :: l.map foldF)=if (x :: l).all (λs=>decide (0<=Bt s)&&(Bt s==Bt x)) then (if 65536<Bt x then (0,3) else (Bt x,0)) else (0,6):=by
   show (if (foldF x :: l.map foldF).all (λs=>decide (0<=Bt s)&&(Bt s==Bt (foldF x))) then (if 65536<Bt (foldF x) then ((0:Int),(3:Int)) else (Bt (foldF x),0)) else (0,6))=_;rw[hall,Qe]
  rw[hs];unfold Ahn;have e0:(x :: l).getD 0 []=x:=rfl;rw[e0]
  split
  ·split<;>rfl
  ·rfl
theorem frN0{r:List (List UInt8)}(hl:Cp r=none\/Cp r=some []):(match Bj r with
   |none=>((0:Int),(0:Int),(6:Int))
   |some l=>if (Cs l).2=0 then (1,(Cs l).1,0) else (0,0,(Cs l).2))=(0,0,6):=by
 rw[Kc];rcases hl with h|h<;>rw[h]<;>rfl
end Go.Proofs.YtdoogdbjiijifaaGreatDoor
