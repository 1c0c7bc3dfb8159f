/- Lemmas of the proof; no conditions. -/
import Derived.Test.YtdoogdbjiijifaaGreatDoorE9Pat
namespace Go.Proofs.YtdoogdbjiijifaaGreatDoor
open Go Go.Sx
set_option maxRecDepth 100000
set_option maxHeartbeats 8000000
def iO:List UInt8:=[99,111,110,116,101,110,116,45,108,101,110,103,116,104]
structure vH(f:Nat->List SV)(n:Int)(nl:Bool)(l:List (List UInt8)):Prop where
 row:Dp f n l
 nl:nl=l.isEmpty
structure nD(f:Nat->List SV)(n:Int)(nl:Bool)(l:List HF):Prop where
 row:A0 f n l
 nl:nl=l.isEmpty
theorem Ta:A0 (λ_=>[]) 0 []:=⟨rfl,λi hi=>absurd hi (by simp),by simp,λi hi=>absurd hi (by simp)⟩
theorem vH.nil:vH (λ_=>[]) 0 true []:=⟨Dp.nil,rfl⟩
theorem nD.nil:nD (λ_=>[]) 0 true []:=⟨Ta,rfl⟩
variable {f g f2:Nat->List SV}{nl b2:Bool}{l:List HF}{n2 e:Int}{x:BT}{y z:ST}{s:List UInt8}{D:Dn}{r:Rq}{v:Value}{xs:List Value}
theorem nD.more{f':Nat->List SV}{n n':Int}{dJ:Bool}{x:HF}(G:nD f n nl l)(hg:g 0=D3 x)(hs:x.small)(h:Mw f' n' n 1 f g)(hl:l.length<=100)(hb:dJ=false):nD f' n' dJ (l++[x]) :=
 ⟨G.row.app (A0.one hg hs) h (by simp only[QH,QV];omega),by rw[hb];simp⟩
theorem RF{n:Int}{b:Bool}{l:List (List UInt8)}(G:vH f n b l)(G2:vH f2 n2 b2 l)(hx:x.den=b:=by rfl)(hy:y.den=n:=by rfl):aM (.sl x y 1 f) (.sl (.a b2) (.a n2) 1 f2):=by
 refine aM.sl (by rw[hx,G.nl,G2.nl.symm];rfl) (by rw[hy,G.row.n,G2.row.n.symm];rfl) λi hi=>?_;rw[hy]at hi;have:=G.row.n;rw[G.row.f i (by omega),G2.row.f i (by omega)]
theorem Am3{n:Int}{b:Bool}(G:nD f n b l)(G2:nD f2 n2 b2 l)(hx:x.den=b:=by rfl)(hy:y.den=n:=by rfl):aM (.sl x y 2 f) (.sl (.a b2) (.a n2) 2 f2):=by
 refine aM.sl (by rw[hx,G.nl,G2.nl.symm];rfl) (by rw[hy,G.row.n,G2.row.n.symm];rfl) λi hi=>?_;rw[hy]at hi;have:=G.row.n;rw[G.row.f i (by omega),G2.row.f i (by omega)]
open Go Go.Sx Go.RowKit
set_option maxHeartbeats 4000000
def zV:aB:=λ_ xs ls K=>∃(t:List UInt8) (nl:Bool) (n c:Int) (f:Nat->List SV),xs=[.sl (.a nl) (.a n) 1 f,.int .u8 (.a c)]/\ls=[]/\Bo f n t/\c=10/\∀r,r=Lib.indexByte t 10->K (.int .i64 (.a r)) []
theorem Ad2(t:List UInt8):Lib.bytesOf (t.map λc=>(c.toNat:Int))=t:=by
 unfold Lib.bytesOf;rw[List.map_map]
 conv=>rhs;rw[<-List.map_id t]
 refine UC λc _=>?_;simp[Function.comp]
theorem Yf:Ap Tryz.prog gl 53 zV:=by
 refine⟨⟨Tryz.f53,_,Tryz.func53,rfl,by kernel_rfl⟩,λxs ls K h=>?_⟩;obtain⟨t,nl,n,c,f,rfl,rfl,R,rfl,h⟩:=h;refine⟨_,_,h _ rfl,Bi λE B w aX _ _ _ hr=>?_⟩;obtain⟨v,u,rfl,hv,hu⟩:=D8 hr;rw[Om hu];rcases (Rel.bF hv).bF with⟨rfl,hn,_⟩|⟨a,m,cap,g,rfl,_,hn,hc,fI,hs,hl,h1,aP,bG⟩
 .have ht:t=[]:=by
   have:=R.n;have hn:n=0:=hn;exact List.length_eq_zero_iff.1 (by omega)
  subst ht;refine (Kd 10 w).mono ?_;rintro e w' ⟨rfl,rfl⟩;exact⟨_,rfl,λE=>.ro (.int rfl),Below.refl _ _⟩
 .have hm:t.length=m:=by
   have:=R.n;have hn:n=(m:Int):=hn;omega
  have hh:∀i,i<m->w.cell? (a.add i)=some (.int .u8 ((t.map λc=>(c.toNat:Int)).getD i 0)):=by
   intro i hi;have e1:=(aP i 0 hi (by omega)).1;have e2:=bG i 0 (.int .u8 (.a ((t.getD i 0).toNat:Int))) hi (by rw[R.f i (by omega)];rfl);have e3:g i 0=.int .u8 ((t.getD i 0).toNat:Int):=by
    generalize g i 0=v at e2
    cases e2 with
    |int h=>rw[<-h];rfl
   have e4:a.add i=⟨a.block,a.off+(i * 1+0),none⟩:=by
    have:=hs (by omega);cases a;simp only at this;subst this;simp[Addr.add]
   rw[e4,e1,e3];have xB:i<t.length:=by omega
   simp[QB xB]
  refine (Any.bytes_IndexByte_at T0 a m cap _ 10 w (by simpa using hm) hh).mono ?_;rintro e w' ⟨rfl,rfl⟩;rw[Ad2];exact⟨_,rfl,λE=>.ro (.int rfl),Below.refl _ _⟩
set_option maxHeartbeats 16000000
def lE(b:List UInt8):Nat->Nat->List HF->List HF×Int×Int
 |0,_,_=>([],0,0)
 |m+1,p,r =>
  if (decide (Lib.indexByte (b.drop p) 10<0)&&decide (8192<b.length))||decide (8192<=(p:Int)+Lib.indexByte (b.drop p) 10) then ([],0,3) else
  if Lib.indexByte (b.drop p) 10<0 then ([],0,10) else
  if (!Lib.hasSuffix ((b.drop p).take (Lib.indexByte (b.drop p) 10).toNat) [13])||decide (0<=Lib.indexByte (Lib.trimSuffix ((b.drop p).take (Lib.indexByte (b.drop p) 10).toNat) [13]) 13) then ([],0,6) else
  if Lib.trimSuffix ((b.drop p).take (Lib.indexByte (b.drop p) 10).toNat) [13]=[] then (r,(p:Int)+Lib.indexByte (b.drop p) 10+1,0) else
  if (!(Bh 58 (Lib.trimSuffix ((b.drop p).take (Lib.indexByte (b.drop p) 10).toNat) [13])).2.2||!Cb (Bh 58 (Lib.trimSuffix ((b.drop p).take (Lib.indexByte (b.drop p) 10).toNat) [13])).1)||!Ds (Bh 58 (Lib.trimSuffix ((b.drop p).take (Lib.indexByte (b.drop p) 10).toNat) [13])).2.1 then ([],0,6) else
  if decide (2000<(trimF (Bh 58 (Lib.trimSuffix ((b.drop p).take (Lib.indexByte (b.drop p) 10).toNat) [13])).2.1).length)||decide (r.length=100) then ([],0,3) else
  lE b m (p+(Lib.indexByte (b.drop p) 10).toNat+1) (r++[⟨(Bh 58 (Lib.trimSuffix ((b.drop p).take (Lib.indexByte (b.drop p) 10).toNat) [13])).1,trimF (Bh 58 (Lib.trimSuffix ((b.drop p).take (Lib.indexByte (b.drop p) 10).toNat) [13])).2.1⟩])
def A7(b:List UInt8):List HF×Int×Int:=lE b (b.length+1) 0 []
def rW:aB:=λ_ xs ls K=>∃(b:List UInt8) (nl:Bool) (n:Int) (f:Nat->List SV),xs=[.sl (.a nl) (.a n) 1 f]/\ls=[]/\Bo f n b/\b.length<=1000000/\
 ∀l f1 n1 b1 k e,(l,k,e)=A7 b->nD f1 n1 b1 l->K (.aI [.sl (.a b1) (.a n1) 2 f1,.int .i64 (.a k),.int .i64 (.a e)]) []
structure HpJ(b:List UInt8)(k:List HF×Int×Int)(p:Nat)(P:Int)(m:Nat)(r:List HF)(f1:Nat->List SV)(n1:Int)(b1:Bool):Prop where
 eP:P=p
 le:p<=b.length
 le2:p<=8192
 lt:b.length-p<m
 k:k=lE b m p r
 G:nD f1 n1 b1 r
 len:r.length<=100
def hpJ(b:List UInt8)(k:List HF×Int×Int)(nl:Bool)(n:Int)(f:Nat->List SV)(m:Nat)(vs:List (Option SV))(hp:List Hl):Prop :=
 ∃(p:Nat) (P:Int) (r:List HF) (f1:Nat->List SV) (n1:Int) (b1:Bool),vs=[some (.sl (.a nl) (.a n) 1 f),some (.dO (.a b1) (.a n1) 2 f1 0),some (.int .i64 (.a P))]/\hp=[.tail 100 (.a n1) 2]/\HpJ b k p P m r f1 n1 b1
theorem Mp{c:UInt8}:-1<=Lib.indexByte s c/\(0<=Lib.indexByte s c->Lib.indexByte s c<(s.length:Int)):=by
 cases h:(Bh c s).2.2 with
 |false=>have:=(Tf h).2.2;rw[this];exact⟨by omega,λh=>by omega⟩
 |true=>obtain⟨h1,_,_,h4⟩:=Ma h;rw[h1];exact⟨by omega,λ_=>by omega⟩
theorem Jy:∀(m p:Nat) (r:List HF) (b:List UInt8),b.length<=1000000->r.length<=100->(∀x∈r,x.small)->(lE b m p r).1.length<=100/\∀x∈(lE b m p r).1,x.small
 |0,p,r,b,_,_,_=>⟨by simp[lE],λx hx=>by simp[lE]at hx⟩
 |m+1,p,r,b,hb,hr,hs=>by
  have h0:([]:List HF).length<=100/\∀x∈([]:List HF),x.small:=⟨by simp,λx hx=>by cases hx⟩;unfold lE
  split
  .exact h0
  split
  .exact h0
  split
  .exact h0
  split
  .exact⟨hr,hs⟩
  split
  .exact h0
  split
  .exact h0
  rename_i h;simp only[XS,QG,not_or]at h;obtain⟨h1,h2⟩:=h;refine Jy m _ _ b hb (by rw[QF];simp only[QH,QV];omega) λx hx=>?_;rcases List.mem_append.1 hx with hx|hx
  .exact hs x hx
  .have hx:=List.mem_singleton.1 hx
   subst hx;refine⟨?_,by show (trimF _).length<=_;omega⟩;show (Bh 58 _).1.length<=_;refine XP (Qz 58 _).1 ?_;rw[Lib.trimSuffix];have e:((b.drop p).take (Lib.indexByte (b.drop p) 10).toNat).length<=1000000:=by rw[QW,QX];omega
   split
   .rw[QW];omega
   .omega
structure HpE(e:Int)(t:List UInt8):Prop where
 lo:-1<=e
 hi:0<=e->e<(t.length:Int)
structure MK(s:List UInt8):Prop where
 len:s.length<=8192
theorem Vn(hD:D=dn){l':List HF}{f1:Nat->List SV}{n n1 k:Int}{b b1:Bool}{w:ST}(h:(l,k,e)=(l',z.den,w.den))(G:nD f n b l')(hG:nD f1 n1 b1 l)(hx:x.den=b)(hy:y.den=n):
  Fin (.aI [.sl (.a (D.b x)) (.a (D.i y)) 2 f,.int .i64 (.a (D.i z)),.int .i64 (.a (D.i w))]) (.aI [.sl (.a b1) (.a n1) 2 f1,.int .i64 (.a k),.int .i64 (.a e)]) [] []:=by
 subst hD;simp only[Prod.mk.injEq]at h;obtain⟨rfl,rfl,rfl⟩:=h;exact Cm (.aI (.cons (Am3 G hG hx hy) (.cons (Af rfl) (.cons (Af rfl) .nil))))
theorem Qq:Ap Tryz.prog gl 58 rW:=by
 refine Bq (gh:=[(1,[.attach 5 100])]) mixed Ck (Aa Yf (Aa Yy (Aa An9 (Aa AS (Aa Gt (Aa Yi (Aa Jd Ae))))))) Tryz.func58 (by kernel_rfl) (by kernel_rfl) ?_;intro xs ls K h;unfold rW at h;obtain⟨b,nl,n,f,rfl,rfl,R,hb,h⟩:=h;obtain⟨k,hk⟩:∃k,k=A7 b:=⟨_,rfl⟩;have hS:=Jy (b.length+1) 0 [] b hb (by simp) (λx hx=>by cases hx);have fD:k=lE b (b.length+1) 0 []:=hk;rw[<-fD]at hS;obtain⟨J,hJ⟩:∃J,J=hpJ b k nl n f:=⟨_,rfl⟩;obtain⟨kl,kk,ke⟩:=k;have hG:∃f1 n1 b1,nD f1 n1 b1 kl:=⟨_,_,_,⟨A0.row (by have:=hS.1;simp only at this;omega) (λi hi=>hS.2 _ (by rw[QD,QB hi];exact XO hi)),rfl⟩⟩;obtain⟨f1,n1,b1,hG⟩:=hG;clear hS;refine⟨_,_,h kl f1 n1 b1 kk ke hk hG,λD hD=>?_⟩;cbv;clear h;refine⟨[0,5,6],J,⟨rfl,b.length+1,?_⟩,?_⟩
 .rw[hJ]
  subst hD;exact⟨0,_,[],_,_,_,rfl,rfl,⟨rfl,by omega,by omega,by omega,fD,nD.nil,by simp⟩⟩
 clear hk fD;intro m vs hp hj;rw[hJ]at hj;obtain⟨p,P,r,e1,m1,c1,rfl,rfl,V⟩:=hj;have hP:=V.eP;have hle:=V.le;have hk:=V.k;obtain⟨m0,rfl⟩:∃m0,m=m0+1:=⟨m-1,by have:=V.lt;omega⟩;rw[lE,<-hP]at hk;obtain⟨t,ht⟩:∃t,t=b.drop p:=⟨_,rfl⟩;rw[<-ht]at hk;have yS:t.length=b.length-p:=by rw[ht,QX]
 have VP:VI P p:=⟨hP⟩;clear hP;refine⟨by subst hD;exact⟨by show (0:Int)<=P;rw[VP.h];omega,by show P<=n;rw[VP.h,R.n];omega,ZE _⟩,λf2 n2 cU=>?_⟩;cbv;have R2:Bo f2 n2 t:=by
  have:=R.sub (a:=p) (b:=b.length) cU (by subst hD;exact VP.h) (by subst hD;exact R.n) hle (QK _);rw[ht];have e:(b.drop p).take (b.length-p)=b.drop p:=XJ (by rw[QX];exact QK _)
  rwa [e]at this
 clear cU;refine⟨t,_,_,_,f2,rfl,rfl,by subst hD;exact R2,by subst hD;rfl,λe he=>?_⟩;cbv;rw[<-he]at hk;have lU:HpE e t:=by rw[he];exact⟨Mp.1,Mp.2⟩
 have CY:decide (8192<n)=decide (8192<b.length):=by rw[UF,R.n];omega
 refine br hD (λh=>?_) (λh=>?_)<;>cbv
 .have h:(decide (e<0)&&decide (8192<n))=true:=h
  rw[CY]at h;rw[QC (by rw[h];rfl)]at hk;exact Vn hD hk nD.nil hG rfl rfl
 have h1:(decide (e<0)&&decide (8192<b.length))=false:=by
  have h:(decide (e<0)&&decide (8192<n))=false:=h;rw[CY]at h;exact h
 rw[h1,UB]at hk;clear h;have si:IntKind.i64.wrap (P+e)=P+e:=by have:=VP.h;have:=lU.lo;have:=lU.hi;exact wrap64 (by omega) (by omega)
 refine br hD (λh=>?_) (λh=>?_)<;>cbv
 .have h:decide (8192<=IntKind.i64.wrap (P+e))=true:=h
  rw[si]at h;rw[QC h]at hk;exact Vn hD hk nD.nil hG rfl rfl
 have h2:¬8192<=P+e:=by
  have h:decide (8192<=IntKind.i64.wrap (P+e))=false:=h;rw[si]at h;simpa using h
 rw[QA (by simpa using h2)]at hk;clear h;refine br hD (λh=>?_) (λh=>?_)<;>cbv
 .have h:decide (e<0)=true:=h
  rw[QC (by simpa using h)]at hk;exact Vn hD hk nD.nil hG rfl rfl
 have h3:¬e<0:=by
  have h:decide (e<0)=false:=h;simpa using h
 rw[QA h3]at hk;clear h;obtain⟨q,hq⟩:∃q:Nat,q=e.toNat:=⟨_,rfl⟩;rw[<-hq]at hk;have VE:VI e q:=⟨by omega⟩;have yk:q<t.length:=by have:=lU.hi (by omega);have:=VE.h;omega
 have WH:p+q<8192:=by have:=VP.h;have:=VE.h;omega
 clear hq h1 h2 h3;refine⟨by subst hD;exact⟨by show (0:Int)<=P;rw[VP.h];omega,by show P<=IntKind.i64.wrap (P+e);rw[si,VE.h];omega,by show IntKind.i64.wrap (P+e)<=n;rw[si,VP.h,VE.h,R.n];omega⟩,λf3 n3 cU=>?_⟩;cbv;have R3:Bo f3 n3 (t.take q):=by
  have:=R.sub (a:=p) (b:=p+q) cU (by subst hD;exact VP.h) (by subst hD;show IntKind.i64.wrap (P+e)=_;rw[si,VP.h,VE.h];omega) (by omega) (by omega);rw[<-ht]at this;have e:p+q-p=q:=by omega
  rwa [e]at this
 clear cU;refine⟨by subst hD;exact R3.byte,λs hs=>?_⟩;cbv;have hs:s=t.take q:=by subst hD;exact R3.str hs
 rw[<-hs]at hk;have bE:MK s:=⟨by rw[hs,QW];omega⟩;clear hs R3;refine⟨s,[13],rfl,rfl,by have:=bE.len;omega,λl is hl JI=>?_⟩;cbv;rw[<-hl,<-JI]at hk;have mD:MK l:=⟨by
  have:=bE.len;rw[hl,Lib.trimSuffix]
  split
  .rw[QW];omega
  .exact this⟩
 clear hl JI bE;refine⟨l,13,rfl,rfl,λcc lH=>?_⟩;cbv;rw[<-lH]at hk;clear lH;refine br hD (λh=>?_) (λh=>?_)<;>cbv
 .have h:(!is||cc)=true:=h
  rw[QC h]at hk;exact Vn hD hk nD.nil hG rfl rfl
 have h:(!is||cc)=false:=h;rw[QA (by rw[h];simp)]at hk;clear h;have hw2:IntKind.i64.wrap (P+IntKind.i64.wrap (e+1))=P+e+1:=by
  have:=VP.h;have:=VE.h;rw[wrap64 (n:=e+1) (by omega) (by omega),wrap64 (by omega) (by omega)];omega
 refine br hD (λh=>?_) (λh=>?_)<;>cbv
 .have h1:l=[]:=by
   have h:(l==[])=true:=h;exact eq_of_beq h
  rw[QC h1]at hk;exact Vn hD (by rw[hk];rw[<-hw2];rfl) V.G hG rfl rfl
 have h1:¬l=[]:=by
  have h:(l==[])=false:=h;intro e;rw[e]at h;simp at h
 rw[QA h1]at hk;clear h h1;obtain⟨c,hc⟩:∃c,c=Bh 58 l:=⟨_,rfl⟩;rw[<-hc]at hk;refine⟨l,58,rfl,rfl,by have:=mD.len;omega,λna va ok gC=>?_⟩;cbv;rw[<-hc]at gC;subst gC;have eQ:MK na:=⟨by have h:=(Qz 58 l).1;rw[<-hc]at h;exact XP h mD.len⟩;have hvl:MK va:=⟨by have h:=(Qz 58 l).2;rw[<-hc]at h;exact XP h mD.len⟩;clear hc mD;refine⟨na,rfl,rfl,by have:=eQ.len;omega,λtk tJ=>?_⟩;cbv;rw[<-tJ]at hk;clear tJ;refine⟨va,rfl,rfl,λpl gP=>?_⟩;cbv;simp only at hk;rw[<-gP]at hk;clear gP;refine br hD (λh=>?_) (λh=>?_)<;>cbv
 .have h:((!ok||!tk)||!pl)=true:=h
  rw[QC h]at hk;exact Vn hD hk nD.nil hG rfl rfl
 have h:((!ok||!tk)||!pl)=false:=h;rw[QA (by rw[h];simp)]at hk;clear h;refine⟨va,[32,9],rfl,rfl,by have:=hvl.len;omega,by decide,by decide,λv hv=>?_⟩;cbv;have hv:v=trimF va:=by rw[hv,Tn]
 rw[<-hv]at hk;clear hv hvl;have sw:m1=(r.length:Int):=V.G.row.n;have rJ:decide (m1=100)=decide (r.length=100):=by rw[UF,sw];omega
 refine br hD (λh=>?_) (λh=>?_)<;>cbv
 .have h:(decide (2000<(v.length:Int))||(m1==100))=true:=h
  have h:(decide (2000<v.length)||decide (r.length=100))=true:=by
   rw[<-rJ];rcases Bool.or_eq_true_iff.1 h with h|h
   .rw[YI (by have:=QT h;omega)];rfl
   .rw[YI (eq_of_beq h)];simp
  rw[QC h]at hk;exact Vn hD hk nD.nil hG rfl rfl
 have h:¬2000<v.length/\¬r.length=100:=by
  have h:(decide (2000<(v.length:Int))||(m1==100))=false:=h;rw[QU]at h;refine⟨λe=>?_,λe=>?_⟩
  .have:=XA h.1;omega
  .have h2:=h.2;rw[sw,e]at h2;simp at h2
 obtain⟨h4,h5⟩:=h;rw[QA (by simp[h4,h5])]at hk;have kR:MK v:=⟨by omega⟩;clear h4 rJ sw;intro g hg;cbv;have oE:g 0=D3 ⟨na,v⟩:=hg.h 0 _ rfl;clear hg;have hN:m1=(r.length:Int):=V.G.row.n;have uK:=V.len;refine⟨by subst hD;exact⟨rfl,by show (m1+1) * 32<=_;omega,by show m1+1<=_;omega⟩,λf' n' hm=>?_⟩;cbv;have G2:∀dJ,dJ=false->nD f' n' dJ (r++[⟨na,v⟩]):=λdJ hb=>V.G.more oE ⟨by have:=eQ.len;show na.length<=_;omega,by have:=kR.len;show v.length<=_;omega⟩ (by subst hD;exact hm) (by omega) hb;clear hm hN;refine⟨m0,YP _,?_⟩;rw[hJ];unfold hpJ;subst hD;exact⟨p+q+1,_,r++[⟨na,v⟩],f',n',(c1&&false),rfl,rfl,⟨by show IntKind.i64.wrap (P+IntKind.i64.wrap (e+1))=_;rw[hw2,VP.h,VE.h];omega,by omega,by omega,by have:=V.lt;omega,hk,G2 _ (ZO _),by rw[QF];simp only[QH,QV];omega⟩⟩
set_option maxHeartbeats 400000
set_option maxHeartbeats 4000000
set_option maxHeartbeats 8000000
def CQ:List (List UInt8)->List UInt8->Bool
 | [],_=>false
 |x :: l,s=>(x==s)||CQ l s
set_option maxHeartbeats 16000000
def Rb(l:List HF):Bool:=l.any λx=>NC (bH x.name)
def B7(r:Rq):List HF×Int :=
 if A9 r.fields≠0 then ([],A9 r.fields) else if Rb r.fields then ([],8) else
 if (Cn r).2≠0 then ([],(Cn r).2) else ((Cn r).1,A9 (Cn r).1)
def rh:aB:=λ_ xs ls K=>∃(r:Rq) (nl:Bool) (n:Int) (f:Nat->List SV),xs=[.agg [.int .i64 (.a r.id),.str r.method,.str r.target,.str r.host,.sl (.a nl) (.a n) 2 f,.str r.body]]/\ls=[]/\M1 r nl n f/\
 ∀l e nb n' g,(l,e)=B7 r->A0 g n' l->nb=l.isEmpty->K (.aI [.sl (.a nb) (.a n') 2 g,.int .i64 (.a e)]) []
structure OwJ(l:List HF)(k:Bool)(i:Nat)(I:Int)(m:Nat):Prop where
 cG:AtR l i I m
 k:k=Rb (l.drop i)
theorem Aay(r:Rq)(h:(Cn r).2=0):(Cn r).1.isEmpty=false:=by
 unfold Cn at h ⊢
 split
 .rename_i h1;rw[QC h1]at h;exact absurd h h1
 .rfl
theorem sg(n:Int)(h1:-9223372036854775808<=n)(h2:n<=9223372036854775807)(a:List UInt8)(ha:a.length<=100):HF.small ⟨a,Lib.itoa n⟩:=⟨by show a.length<=_;omega,Va h1 h2⟩
theorem Oa{n:Int}(R:M1 r nl n f):∃g n',A0 g n' (Cn r).1:=by
 unfold Cn
 split
 .exact rowOf [] (by simp) (λi hi=>absurd hi (by simp))
 .rename_i h1
  have h1:(Ev r.fields).2=0:=by simpa using h1
  have h2:=Nf _ h1;refine rowOf _ ?_ (Hi (Hi (λi hi=>?_) (Oe R.row.small)) ?_)
  .simp only[QF]
   split<;>simp<;>omega
  .match i,hi with
   |0,_=>exact⟨by show T4.length<=_;decide,R.host⟩
   |1,_=>exact sg _ R.xv R.xu _ (by decide)
  .split
   .intro i hi
    have:i=0:=by simpa using hi
    subst this;exact sg _ (by omega) (by have:=R.body;omega) _ (by decide)
   .intro i hi;simp at hi
theorem Eb:A0 (λ_=>[]) 0 []:=⟨rfl,λi hi=>absurd hi (by simp),by simp,λi hi=>absurd hi (by simp)⟩
def owJ(r:Rq)(k:Bool)(nl:Bool)(n:Int)(f:Nat->List SV)(m:Nat)(vs:List (Option SV))(hp:List Hl):Prop :=
 ∃(i:Nat) (I:Int),vs=[some (.ptr 0 0),some (.sl (.a nl) (.a n) 2 f),some (.int .i64 (.a n)),some (.int .i64 (.a I))]/\hp=[.aF 55 [.int .i64 (.a r.id),.str r.method,.str r.target,.str r.host,.sl (.a nl) (.a n) 2 f,.str r.body]]/\OwJ r.fields k i I m
theorem AT:Ap Tryz.prog gl 200 rh:=by
 refine Bq (gh:=[]) mixed Ck (Aa Ia (Aa Anc (Aa Aed Ae))) Tryz.func200 (by kernel_rfl) (by kernel_rfl) ?_;intro xs ls K h;unfold rh at h;obtain⟨r,nl,n,f,rfl,rfl,R,h⟩:=h;obtain⟨k,hk⟩:∃k,k=B7 r:=⟨_,rfl⟩;obtain⟨kl,ke⟩:=k;have hg:∃g n',A0 g n' kl:=by
  unfold B7 at hk
  split at hk
  .simp only[Prod.mk.injEq]at hk;rw[hk.1];exact⟨_,_,Eb⟩
  .split at hk
   .simp only[Prod.mk.injEq]at hk;rw[hk.1];exact⟨_,_,Eb⟩
   .split at hk
    .simp only[Prod.mk.injEq]at hk;rw[hk.1];exact⟨_,_,Eb⟩
    .simp only[Prod.mk.injEq]at hk;rw[hk.1];exact Oa R
 obtain⟨g,n2,R2⟩:=hg;obtain⟨nb,iK⟩:∃nb,nb=kl.isEmpty:=⟨_,rfl⟩;refine⟨_,_,h kl ke nb n2 g hk R2 iK,λD hD=>?_⟩;clear h;unfold B7 at hk;obtain⟨wl,ml⟩:∃w,w=Cn r:=⟨_,rfl⟩;have UZ:=Aay r;rw[<-ml]at hk UZ;obtain⟨wl,we⟩:=wl;simp only at hk UZ;obtain⟨J,hJ⟩:∃J,J=owJ r (Rb r.fields) nl n f:=⟨_,rfl⟩;obtain⟨ao,OZ⟩:∃a,a=Rb r.fields:=⟨_,rfl⟩;rw[<-OZ]at hk hJ;obtain⟨id,me,ta,ho,fs,bo⟩:=r;simp only at R hJ OZ hk;cbv;refine⟨fs,_,_,f,rfl,rfl,by subst hD;exact R.row,λe he=>?_⟩;cbv;rw[<-he]at hk;clear he;refine br hD (λh=>?_) (λh=>?_)<;>cbv
 .have h1:e≠0:=by simpa using h
  rw[QC h1]at hk;simp only[Prod.mk.injEq]at hk;obtain⟨eZ,dC⟩:=hk;subst eZ dC;exact Vl hD (by rw[iK];rfl) Eb rfl rfl R2
 have h1:e=0:=by simpa using h
 rw[QA (by simp[h1])]at hk;clear h h1;refine⟨[1,16,17,18],J,⟨rfl,fs.length,?_⟩,?_⟩
 .rw[hJ]
  subst hD;exact⟨0,0,rfl,rfl,AtR.zero R.row.len,OZ⟩
 clear OZ;intro m vs hp hj;rw[hJ]at hj;obtain⟨i,I,rfl,rfl,V⟩:=hj;simp only at V;cbv;refine br hD (λh=>?_) (λh=>?_)<;>cbv
 .have aC:=V.cG.lt R.row.n (QT (p:=I<n) h)
  clear h;refine⟨V.cG.lY hD R.row.n aC,λj hj=>?_⟩;cbv;obtain rfl:=V.cG.j hD hj;clear hj;have e1:=R.row.f j aC;have eC:=R.row.small j aC;have aY:=V.k;rw[Hg (d:=default) aC]at aY;obtain⟨x,hx⟩:∃x,x=fs.getD j default:=⟨_,rfl⟩;rw[<-hx]at e1 aY eC;obtain⟨a,b⟩:=x;rw[e1];cbv;refine⟨a,rfl,rfl,eC.1,λt ht=>?_⟩;cbv;have ht:t=NC (bH a):=ht;have lG:ao=(t||Rb (fs.drop (j+1))):=by rw[aY,ht];rfl
  clear ht aY;refine br hD (λh=>?_) (λh=>?_)<;>cbv
  .have h1:t=true:=h
   have hk4:ao=true:=by rw[lG,h1];rfl
   rw[QC hk4]at hk;simp only[Prod.mk.injEq]at hk;obtain⟨eZ,dC⟩:=hk;subst eZ dC;exact Vl hD (by rw[iK];rfl) Eb rfl rfl R2
  .have h1:t=false:=h
   obtain⟨g1,g2⟩:=V.cG.step hD aC;refine⟨_,g1,?_⟩;rw[hJ];unfold owJ;subst hD;exact⟨j+1,_,rfl,rfl,g2,by rw[lG,h1];rfl⟩
 .have hi:=V.cG.eq R.row.n (XA (p:=I<n) h)
  have aY:=V.k;rw[hi,XR]at aY;have lG:ao=false:=aY;rw[QA (by rw[lG];simp)]at hk;clear h aY;refine⟨⟨id,me,ta,ho,fs,bo⟩,nl,n,f,by subst hD;rfl,rfl,R,λl e2 TF n3 g3 hw R3 uQ=>?_⟩;cbv;rw[<-ml]at hw;simp only[Prod.mk.injEq]at hw;obtain⟨eZ,dC⟩:=hw;subst eZ dC;refine br hD (λh=>?_) (λh=>?_)<;>cbv
  .have h1:e2≠0:=by simpa using h
   rw[QC h1]at hk;simp only[Prod.mk.injEq]at hk;obtain⟨eZ,dC⟩:=hk;subst eZ dC;exact Vl hD (by rw[iK];rfl) Eb rfl rfl R2
  .have h1:e2=0:=by simpa using h
   rw[QA (by simp[h1])]at hk;have bA:=UZ h1;refine⟨l,_,_,g3,rfl,rfl,by subst hD;exact R3,λc hc=>?_⟩;cbv;rw[<-hc]at hk;clear hc;simp only[Prod.mk.injEq]at hk;obtain⟨eZ,dC⟩:=hk;subst eZ dC;refine Vl hD ?_ R3 rfl rfl R2;rw[iK,bA,uQ,h1];rfl
def Br(r:Rq):List UInt8×List HF×Int :=
 if r.id<1\/1000000000<r.id then (sId,[],7) else if !Gj r.method then (Ag0,[],6) else if r.method=iN then (Ag0,[],9) else
 if (vd r.target).2≠0 then (jl,[],(vd r.target).2) else if !NU r.host then (wb,[],6) else
 if (B7 r).2≠0 then (jm,[],(B7 r).2) else if 65536<r.body.length then (rj,[],3) else if (r.body != []&&PX r.method)=true then (rj,[],2) else ([],(B7 r).1,0)
def ak:aB:=λ_ xs ls K=>∃(r:Rq) (nl:Bool) (n:Int) (f:Nat->List SV),xs=[.agg [.int .i64 (.a r.id),.str r.method,.str r.target,.str r.host,.sl (.a nl) (.a n) 2 f,.str r.body]]/\ls=[]/\M1 r nl n f/\
 ∀p l e nb n' g,(p,l,e)=Br r->A0 g n' l->nb=l.isEmpty->K (.aI [.str p,.sl (.a nb) (.a n') 2 g,.int .i64 (.a e)]) []
theorem Pg(hD:D=dn){p p':List UInt8}{nb:Bool}{n:Int}{g2:Nat->List SV}(hp:p'=p)(h1:x.den=nb)(R:A0 g2 n2 l)(h2:y.den=n2)(h3:z.den=e)(R2:A0 g n l):
  Fin (.aI [.str p',.sl (.a (D.b x)) (.a (D.i y)) 2 g2,.int .i64 (.a (D.i z))]) (.aI [.str p,.sl (.a nb) (.a n) 2 g,.int .i64 (.a e)]) [] []:=by
 subst hD h1 h3 hp;have hn:n2=n:=by rw[R.n,R2.n]
 refine Cm (aM.aI (jS.cons (aM.refl _) (jS.cons (aM.sl rfl (by show y.den=n;rw[h2,hn]) λi hi=>?_) (jS.refl _))));have hi:(i:Int)<y.den:=hi;have:=R.n;rw[R.f i (by omega),R2.f i (by omega)]
theorem V4{n:Int}(R:M1 r nl n f):∃g n',A0 g n' (B7 r).1:=by
 unfold B7
 split
 .exact⟨_,_,Eb⟩
 .split
  .exact⟨_,_,Eb⟩
  .split
   .exact⟨_,_,Eb⟩
   .exact Oa R
theorem oq:Ap Tryz.prog pI 145 ak:=by
 refine Bq (gh:=[]) mixed Ck (Aa (C5 Acx) (Aa (C5 Aje) (Aa (C5 Ajz) (Aa (C5 AT) (Aa Aj0 Ae))))) Tryz.func145 (by kernel_rfl) (by kernel_rfl) ?_;intro xs ls K h;unfold ak at h;obtain⟨r,nl,n,f,rfl,rfl,R,h⟩:=h;obtain⟨k,hk⟩:∃k,k=Br r:=⟨_,rfl⟩;obtain⟨kp,kl,ke⟩:=k;have hg:∃g n',A0 g n' kl:=by
  unfold Br at hk
  repeat' split at hk
  all_goals (simp only[Prod.mk.injEq]at hk;rw[hk.2.1])
  all_goals first|exact⟨_,_,Eb⟩|exact V4 R
 obtain⟨g,n2,R2⟩:=hg;obtain⟨nb,iK⟩:∃nb,nb=kl.isEmpty:=⟨_,rfl⟩;refine⟨_,_,h kp kl ke nb n2 g hk R2 iK,λD hD=>?_⟩;clear h;unfold Br at hk;obtain⟨ck,CZ⟩:∃w,w=B7 r:=⟨_,rfl⟩;rw[<-CZ]at hk;obtain⟨cl,ce⟩:=ck;obtain⟨id,me,ta,ho,fs,bo⟩:=r;have Rme:=R.method;have Rta:=R.target;have Rho:=R.host;simp only at hk Rme Rta Rho;cbv;refine br hD (λh=>?_) (λh=>?_)<;>cbv
 .have h1:id<1\/1000000000<id:=by
   have h:(decide (id<1)||decide (1000000000<id))=true:=h;simpa using h
  rw[QC h1]at hk;simp only[Prod.mk.injEq]at hk;obtain⟨eZ,dC,pE⟩:=hk;subst eZ dC pE;exact Pg hD rfl (by rw[iK];rfl) Eb rfl rfl R2
 have h1:¬(id<1\/1000000000<id):=by
  have h:(decide (id<1)||decide (1000000000<id))=false:=h;simp only[QU,QJ]at h;omega
 rw[QA h1]at hk;clear h h1;refine⟨me,rfl,rfl,Rme,λim him=>?_⟩;cbv;rw[<-him]at hk;clear him;refine br hD (λh=>?_) (λh=>?_)<;>cbv
 .have h1:(!im)=true:=h
  rw[QC h1]at hk;simp only[Prod.mk.injEq]at hk;obtain⟨eZ,dC,pE⟩:=hk;subst eZ dC pE;exact Pg hD rfl (by rw[iK];rfl) Eb rfl rfl R2
 have h1:(!im)=false:=h;rw[QA (by rw[h1];simp)]at hk;clear h h1;refine br hD (λh=>?_) (λh=>?_)<;>cbv
 .have h1:me=iN:=eq_of_beq (show (me==iN)=true from h)
  rw[QC h1]at hk;simp only[Prod.mk.injEq]at hk;obtain⟨eZ,dC,pE⟩:=hk;subst eZ dC pE;exact Pg hD rfl (by rw[iK];rfl) Eb rfl rfl R2
 have h1:¬me=iN:=by
  have h:(me==iN)=false:=h;intro e;rw[e]at h;simp at h
 rw[QA h1]at hk;clear h h1;refine⟨ta,rfl,rfl,Rta,λoi oe WM=>?_⟩;cbv;rw[<-WM]at hk;simp only at hk;clear WM;refine br hD (λh=>?_) (λh=>?_)<;>cbv
 .have h1:oe≠0:=by simpa using h
  rw[QC h1]at hk;simp only[Prod.mk.injEq]at hk;obtain⟨eZ,dC,pE⟩:=hk;subst eZ dC pE;exact Pg hD rfl (by rw[iK];rfl) Eb rfl rfl R2
 have h1:¬oe≠0:=by simpa using h
 rw[QA h1]at hk;clear h h1;refine⟨ho,rfl,rfl,Rho,λhh hhh=>?_⟩;cbv;rw[<-hhh]at hk;clear hhh;refine br hD (λh=>?_) (λh=>?_)<;>cbv
 .have h1:(!hh)=true:=h
  rw[QC h1]at hk;simp only[Prod.mk.injEq]at hk;obtain⟨eZ,dC,pE⟩:=hk;subst eZ dC pE;exact Pg hD rfl (by rw[iK];rfl) Eb rfl rfl R2
 have h1:(!hh)=false:=h;rw[QA (by rw[h1];simp)]at hk;clear h h1;refine⟨⟨id,me,ta,ho,fs,bo⟩,nl,n,f,by subst hD;rfl,rfl,R,λl e TF n3 g3 hc R3 uQ=>?_⟩;cbv;rw[<-CZ]at hc;simp only[Prod.mk.injEq]at hc;obtain⟨eZ,dC⟩:=hc;subst eZ dC;refine br hD (λh=>?_) (λh=>?_)<;>cbv
 .have h1:e≠0:=by simpa using h
  rw[QC h1]at hk;simp only[Prod.mk.injEq]at hk;obtain⟨eZ,dC,pE⟩:=hk;subst eZ dC pE;exact Pg hD rfl (by rw[iK];rfl) Eb rfl rfl R2
 have h1:¬e≠0:=by simpa using h
 rw[QA h1]at hk;clear h h1;refine br hD (λh=>?_) (λh=>?_)<;>cbv
 .have h1:65536<bo.length:=by have h:decide ((65536:Int)<(bo.length:Int))=true:=h;simp only[QG]at h;omega
  rw[QC h1]at hk;simp only[Prod.mk.injEq]at hk;obtain⟨eZ,dC,pE⟩:=hk;subst eZ dC pE;exact Pg hD rfl (by rw[iK];rfl) Eb rfl rfl R2
 have h1:¬65536<bo.length:=by have h:decide ((65536:Int)<(bo.length:Int))=false:=h;simp only[QJ]at h;omega
 rw[QA h1]at hk;clear h h1;refine⟨me,rfl,rfl,Rme,λb hb=>?_⟩;cbv;rw[<-hb]at hk;clear hb;refine br hD (λh=>?_) (λh=>?_)<;>cbv
 .have h1:(bo != []&&b)=true:=h
  rw[QC h1]at hk;simp only[Prod.mk.injEq]at hk;obtain⟨eZ,dC,pE⟩:=hk;subst eZ dC pE;exact Pg hD rfl (by rw[iK];rfl) Eb rfl rfl R2
 .have h1:¬(bo != []&&b)=true:=by
   have h:(bo != []&&b)=false:=h;rw[h];simp
  rw[QA h1]at hk;simp only[Prod.mk.injEq]at hk;obtain⟨eZ,dC,pE⟩:=hk;subst eZ dC pE;exact Pg hD rfl (by rw[iK,<-uQ];rfl) R3 rfl rfl R2
open Go Go.RowKit Go.Sx
set_option maxHeartbeats 2000000
theorem ux:(Tryz.prog.info? 180).map (·.size)=some 2:=by kernel_rfl
theorem LS:liesAt Tryz.prog Tryz.prog.depth 180 (2 / Tryz.prog.cellsOf 180) 0 180 1=true:=by kernel_rfl
theorem AV:Tryz.prog.underlying 178=some (.pointer 180):=by kernel_rfl
theorem Aic:Tryz.prog.underlying 259=some .unsafePointer:=by kernel_rfl
theorem LU:(Tryz.prog.info? 5).map (λi=>(i.zero,i.size,i.bytes))=some (some (.int .u8 0),1,1):=by kernel_rfl
theorem Wb:Tryz.prog.underlying 22=some (.slice 5):=by kernel_rfl
theorem Vz(b:Nat)(w:World)(h0:w.cell? ⟨b,0,none⟩=some (.pointer (some ⟨b,0,none⟩))):
  Calls Tryz.prog 196 #[.pointer (some ⟨b,0,none⟩)] w λe w'=>e=.returned (.tuple #[])/\w'=w:=by
 obtain⟨j,hj,_⟩:=Option.map_eq_some_iff.1 ux
 go_enter Tryz.func196,Tryz.ntmps196
 go_wp2
 rw[Lib.run_neq_ptr_same w _ AV hj]
 go_wp2
 go_end0
 exact⟨rfl,rfl⟩
theorem S4(b:Nat)(w:World)(h0:w.cell? ⟨b,0,none⟩=some (.pointer none))(cq:w.shape? b=some (180,2))(hfz:w.frozen? ⟨b,0,none⟩=false):
  Calls Tryz.prog 196 #[.pointer (some ⟨b,0,none⟩)] w λe w'=>e=.returned (.tuple #[])/\w'=w.setCell ⟨b,0,none⟩ (.pointer (some ⟨b,0,none⟩)):=by
 obtain⟨j,hj,hjs⟩:=Option.map_eq_some_iff.1 ux
 go_enter Tryz.func196,Tryz.ntmps196
 go_wp2
 rw[Lib.run_to_unsafe w ⟨b,0,none⟩ AV Aic hj (by rw[hjs];decide) cq (Nat.zero_lt_succ 1)];simp only[Result.andThen];rw[Oper.upon_value]
 go_wp2
 rw[run_callFunc_extern Tryz.func251 (by kernel_rfl) (by kernel_rfl) (by kernel_rfl) (e:=Extern.AbiNoEscape.same) (by kernel_rfl)];rw[Lib.run_noEscape];simp only[Result.andThen];rw[Oper.upon_value]
 go_wp2
 rw[Lib.run_from_unsafe w ⟨b,0,none⟩ Aic AV hj cq LS];simp only[Result.andThen];rw[Oper.upon_value]
 go_wp2
 go_end0
 exact⟨rfl,rfl⟩
structure Aox(b:Nat)(v v':Value)(w w':World):Prop where
 os:w'.os=w.os
 tape:w'.tape=w.tape
 output:w'.output=w.output
 size:w.heap.size<=w'.heap.size
 block:∀k,k<w.heap.size->k≠b->some k≠v.ownBlock->w'.heap[k]?=w.heap[k]?
 new:∀k,v'.ownBlock=some k->v.ownBlock=some k\/w.heap.size<=k
theorem Xh(b:Nat)(p v:Value)(s:List UInt8)(w:World)(jA:w.heap[b]?=some (.cells #[p,v] 180 (0,0)))(hp:p=.pointer none\/p=.pointer (some ⟨b,0,none⟩))(bY:w.ownsRow 0 5 1 v s.length (Lib.byteCells s))(bA:v.ownBlock≠some b):
  Calls Tryz.prog 196 #[.pointer (some ⟨b,0,none⟩)] w λe w'=>e=.returned (.tuple #[])/\w'.heap[b]?=some (.cells #[.pointer (some ⟨b,0,none⟩),v] 180 (0,0))/\w'.ownsRow 0 5 1 v s.length (Lib.byteCells s)/\w'.os=w.os/\w'.tape=w.tape/\w'.output=w.output/\w'.heap.size=w.heap.size/\∀k,k≠b->w'.heap[k]?=w.heap[k]?:=by
 rcases hp with rfl|rfl
 .have aC:b<w.heap.size:=by
   rcases ZK b w.heap.size with h'|h'
   .exact h'
   .simp[Array.getElem?_eq_none h']at jA
  refine (S4 b w (by rw[Lib.cell_of_heap jA];rfl) (by simp[World.shape?,jA]) (Lib.frozen_of_heap jA 0)).mono ?_;rintro e w' ⟨rfl,rfl⟩;refine⟨rfl,by simp[World.setCell,YM,jA],?_,rfl,rfl,rfl,by simp[World.setCell],λk hk=>RowKit.Below.heap_setCell _ _ _ _ (λe=>hk (by simp[e]))⟩;refine bY.kept (row:=some b) ⟨rfl,rfl,rfl,by simp[World.setCell],λk _ hk=>RowKit.Below.heap_setCell _ _ _ _ (λe=>hk (by simp[e]))⟩ (Or.inr bA)
 .refine (Vz b w (by rw[Lib.cell_of_heap jA];rfl)).mono ?_
  rintro e w' ⟨rfl,rfl⟩;exact⟨rfl,jA,bY,rfl,rfl,rfl,rfl,λ_ _=>rfl⟩
structure Aow(w:World)(b:Nat)(p v:Value)(s:List UInt8):Prop where
 pp:p=.pointer none\/p=.pointer (some ⟨b,0,none⟩)
 at_:w.heap[b]?=some (.cells #[p,v] 180 (0,0))
 own:w.ownsRow 0 5 1 v s.length (Lib.byteCells s)
 ne:v.ownBlock≠some b
def pe(w':World)(b:Nat)(v':Value):Hl->Prop
 |.nC T e s'=>T=180/\e=5/\∃p',Aow w' b p' v' s'
 |.gone=>v'.ownBlock=none
 |_=>False
theorem Sh{gl:List (Nat×SV)}{f:FuncId}{as1:List SV}{r:SV}{hl:Hl}
  (run:∀(E:Env) (b:Nat) (p v:Value) (w:World) (aX:List Value),Aow w b p v s->A8 E w as1 aX->Calls Tryz.prog f ⟨.pointer (some ⟨b,0,none⟩) :: aX⟩ w λe w'=>∃ev v',e=.returned ev/\(∀E,Rel E w' r ev)/\Aox b v v' w w'/\pe w' b v' hl):
  Fb Tryz.prog gl f (.ptr 0 0 :: as1) [.nC 180 5 s] r [hl]:=by
 intro B E w aX oA KC dT hb hg hh hr;have h0:=hh 0;obtain⟨b,p,v,h1,h2,h3,h4,h5,h6,h7,h8⟩:=h0
 match aX,hr with
 |u :: aX,hr =>
  obtain⟨b',oV,hu⟩:=(hr.2 0 _ u rfl rfl).dL;obtain rfl:b=b':=Option.some.inj (h1.symm.trans oV);subst hu;refine (run E b p v w aX ⟨h3,h4,h5,h6⟩ ⟨by have:=hr.1;simpa using this,λi s' u' a c=>hr.2 (i+1) s' u' a c⟩).mono ?_;rintro e w' ⟨ev,v',rfl,rI,K,sR⟩
  let E':Env:=⟨E.β,E.τ,λk=>if v'.ownBlock=some k then some 0 else E.O k,E.κ,E.ζ,E.I⟩
  have hX:∀k,E.O k=some 0->B.w0.heap.size<=k\/B.X k:=λk hk=>(hb.cS k 0 hk).2;have sW:∀k,k<w.heap.size->(∀j,E.O k=some j->j≠0)->w'.heap[k]?=w.heap[k]?:=by
   intro k hk hn;refine K.block k hk (λe=>?_) (λe=>?_)
   .subst e;exact hn 0 h2 rfl
   .exact hn 0 (h8 k e.symm).1 rfl
  have aP:∀b2 o,E.I b2 o->w'.cell? ⟨b2,o,none⟩=w.cell? ⟨b2,o,none⟩:=by
   intro b2 o hi;simp only[World.cell?];rw[K.block b2 (hb.dP b2 o hi) (λe=>by subst e;exact h7 o hi) (λe=>(h8 b2 e.symm).2 o hi)]
  have cJ:∀k,v'.ownBlock=some k->B.w0.heap.size<=k\/B.X k:=by
   intro k hk;rcases K.new k hk with h|h
   .exact hX k (h8 k h).1
   .left;have:=hb.size;omega
  refine⟨ev,E',rfl,⟨K.os.trans hb.os,K.tape.trans hb.tape,K.output.trans hb.output,XP hb.size K.size,λb2 aC kS=>?_,λb2 o hi=>?_,λb2 o hi=>XQ (hb.dP b2 o hi) K.size,hb.cE,λb2 j hO=>?_,⟨hb.cO.β,hb.cO.τ,hb.cO.ζ⟩⟩,λk hk=>?_,rI E'⟩
  .rw[sW b2 (by have:=hb.size;omega) (λj hj e=>?_)]
   .exact hb.dY b2 aC kS
   .subst e
    rcases hX b2 hj with h|h
    .omega
    .exact kS h
  .obtain⟨i1,i2⟩:=hb.I0 b2 o hi
   exact⟨i1,by rw[aP b2 o i1];exact i2⟩
  .have hO:(if v'.ownBlock=some b2 then some 0 else E.O b2)=some j:=hO
   split at hO
   .rename_i hv
    refine⟨?_,cJ b2 hv⟩;cases hl with
    |nC T e s' =>
     obtain⟨_,_,p',hA⟩:=sR;exact (hA.own.lt b2 hv).2
    |gone =>
     have hn:v'.ownBlock=none:=sR;rw[hn]at hv;cases hv
    |_=>exact sR.elim
   .obtain⟨o1,o2⟩:=hb.cS b2 j hO
    exact⟨XQ o1 K.size,o2⟩
  .obtain rfl:k=0:=by simpa using hk
   cases hl with
   |nC T e s' =>
    obtain⟨rfl,rfl,p',hA⟩:=sR;have hI:∀g,v'.ownBlock=some g->∀o,¬E.I g o:=by
     intro g hg o hi;rcases K.new g hg with h|h
     .exact (h8 g h).2 o hi
     .have:=hb.dP g o hi;omega
    refine⟨b,p',v',h1,?_,hA.pp,hA.at_,hA.own,hA.ne,h7,λg hg=>⟨?_,hI g hg⟩⟩
    .show (if v'.ownBlock=some b then some 0 else E.O b)=some 0
     rw[QA hA.ne];exact h2
    .show (if v'.ownBlock=some g then some 0 else E.O g)=some 0
     rw[QC hg]
   |gone=>trivial
   |_=>exact sR.elim
 | [],hr=>exact absurd hr.1 (by simp)
theorem LR:Tryz.prog.underlying 225=some (.pointer 5):=by kernel_rfl
theorem AW:Tryz.prog.cellsOf 5=1:=by kernel_rfl
structure Ka(v:Value)(w w':World):Prop where
 os:w'.os=w.os
 tape:w'.tape=w.tape
 output:w'.output=w.output
 size:w.heap.size<=w'.heap.size
 block:∀k,k<w.heap.size->some k≠v.ownBlock->w'.heap[k]?=w.heap[k]?
theorem Ka.drew(v:Value)(w:World):Ka v w w.drew:=⟨rfl,rfl,rfl,QK _,λ_ _ _=>rfl⟩
theorem unsafeString_none(W:World)(q:Option Addr):(Builtin.unsafeString_ #[225,3] 9 #[.pointer q,.int .i64 0]).run Tryz.prog W=.ok (.string .empty) W :=
 Lib.run_unsafeString_none W _ _ _ q
theorem Aba(b g cap:Nat)(p:Value)(cur:Array Value)(l:List UInt8)(w:World)(h0:l≠[])(jA:w.heap[b]?=some (.cells #[p,.slice (some ⟨g,0,none⟩) l.length cap] 180 (0,0)))(hg:w.heap[g]?=some (.cells cur 5 (0,0)))
  (bY:w.ownsRow 0 5 1 (.slice (some ⟨g,0,none⟩) l.length cap) l.length (Lib.byteCells l)) (rE:l.length<=cap) (fI:cap<=maxLen) (cY:cur.size=cap * 1):
  Calls Tryz.prog 143 #[.pointer (some ⟨b,0,none⟩)] w λe w'=>e=.returned (.string ⟨l.toArray⟩)/\Ka (.slice (some ⟨g,0,none⟩) l.length cap) w w':=by
 have rF:l.length≠0:=by simpa using h0
 have c1:w.drew.cell? ⟨b,1,none⟩=some (.slice (some ⟨g,0,none⟩) l.length cap):=by
  have:w.drew.heap[b]?=some (.cells #[p,.slice (some ⟨g,0,none⟩) l.length cap] 180 (0,0)):=jA;rw[Lib.cell_of_heap this];rfl
 have hSD:(Builtin.unsafeSliceData_ #[22] 225 #[.slice (some ⟨g,0,none⟩) l.length cap]).run Tryz.prog w.drew=.ok (.pointer (some ⟨g,0,none⟩)) w.drew :=
  Lib.run_unsafeSliceData_row _ _ _ _ _ _ (by omega)
 have hUS:(Builtin.unsafeString_ #[225,3] 9 #[.pointer (some ⟨g,0,none⟩),.int .i64 l.length]).run Tryz.prog w.drew=.ok (.string ⟨l.toArray⟩) (w.drew.freeze ⟨g,0,none⟩ l.length):=by
  refine Lib.run_unsafeString_row w.drew 225 3 9 5 LR AW g cur.size (by have nF:w.drew.heap[g]?=some (.cells cur 5 (0,0)):=hg;simp[World.shape?,nF]) l h0 (by omega) (by unfold maxLen at fI;omega) ?_;intro j x hx;have:=bY.cells (g:=g) rfl j (.int .u8 x.toNat) (by simp[Lib.byteCells,hx]);exact this
 have hfz:Ka (.slice (some ⟨g,0,none⟩) l.length cap) w (w.drew.freeze ⟨g,0,none⟩ l.length):=by
  unfold World.freeze;rw[QA rF];refine⟨rfl,rfl,rfl,by simp,λk hk bA=>?_⟩;simp only[YM];rw[QA (λe=>bA (by rw[<-e];rfl))];rfl
 go_enter Tryz.func143,Tryz.ntmps143
 go_wp2
 go_region
 all_goals (go_wp2;go_ret;exact⟨rfl,hfz⟩)
theorem Aem(b:Nat)(p:Value)(w:World)(jA:w.heap[b]?=some (.cells #[p,.slice none 0 0] 180 (0,0))):
  Calls Tryz.prog 143 #[.pointer (some ⟨b,0,none⟩)] w λe w'=>e=.returned (.string ⟨#[]⟩)/\Ka (.slice none 0 0) w w':=by
 have hUS:=unsafeString_none;have c1:w.drew.cell? ⟨b,1,none⟩=some (.slice none 0 0):=by
  have:w.drew.heap[b]?=some (.cells #[p,.slice none 0 0] 180 (0,0)):=jA;rw[Lib.cell_of_heap this];rfl
 have hSD:(Builtin.unsafeSliceData_ #[22] 225 #[.slice none 0 0]).run Tryz.prog w.drew=.ok (.pointer none) w.drew:=rfl
 go_enter Tryz.func143,Tryz.ntmps143
 go_wp2
 go_region
 all_goals (go_wp2;go_ret;exact⟨rfl,Ka.drew _ w⟩)
theorem Abb(b g cap:Nat)(p:Value)(w:World)(nA:cap≠0)(jA:w.heap[b]?=some (.cells #[p,.slice (some ⟨g,0,none⟩) 0 cap] 180 (0,0))):
  Calls Tryz.prog 143 #[.pointer (some ⟨b,0,none⟩)] w λe w'=>e=.returned (.string ⟨#[]⟩)/\Ka (.slice (some ⟨g,0,none⟩) 0 cap) w w':=by
 have hUS:=unsafeString_none;have c1:w.drew.cell? ⟨b,1,none⟩=some (.slice (some ⟨g,0,none⟩) 0 cap):=by
  have:w.drew.heap[b]?=some (.cells #[p,.slice (some ⟨g,0,none⟩) 0 cap] 180 (0,0)):=jA;rw[Lib.cell_of_heap this];rfl
 have hSD:(Builtin.unsafeSliceData_ #[22] 225 #[.slice (some ⟨g,0,none⟩) 0 cap]).run Tryz.prog w.drew=.ok (.pointer (some ⟨g,0,none⟩)) w.drew :=
  Lib.run_unsafeSliceData_row _ _ _ _ _ _ nA
 clear nA
 go_enter Tryz.func143,Tryz.ntmps143
 go_wp2
 go_region
 all_goals (go_wp2;go_ret;exact⟨rfl,Ka.drew _ w⟩)
theorem Ws(b g:Nat)(p:Value)(cur:Array Value)(w:World)(jA:w.heap[b]?=some (.cells #[p,.slice (some ⟨g,0,none⟩) 0 0] 180 (0,0)))(hg:w.heap[g]?=some (.cells cur 5 (0,0))):
  Calls Tryz.prog 143 #[.pointer (some ⟨b,0,none⟩)] w λe w'=>e=.returned (.string ⟨#[]⟩)/\Ka (.slice (some ⟨g,0,none⟩) 0 0) w w':=by
 have hUS:=unsafeString_none;have aC:b<w.heap.size:=by
  rcases ZK b w.heap.size with h'|h'
  .exact h'
  .simp[Array.getElem?_eq_none h']at jA
 have c1:w.drew.cell? ⟨b,1,none⟩=some (.slice (some ⟨g,0,none⟩) 0 0):=by
  have:w.drew.heap[b]?=some (.cells #[p,.slice (some ⟨g,0,none⟩) 0 0] 180 (0,0)):=jA;rw[Lib.cell_of_heap this];rfl
 have hSD:(Builtin.unsafeSliceData_ #[22] 225 #[.slice (some ⟨g,0,none⟩) 0 0]).run Tryz.prog w.drew=.ok (.pointer (some ⟨w.drew.heap.size,0,none⟩)) (w.drew.alloc (.view ⟨g,0,none⟩ 5)) :=
  Lib.run_unsafeSliceData_zero w.drew _ _ 5 LR ⟨g,0,none⟩ 0 (5,cur.size) (by have nF:w.drew.heap[g]?=some (.cells cur 5 (0,0)):=hg;simp[World.shape?,nF])
 have c2:(w.drew.alloc (.view ⟨g,0,none⟩ 5)).cell? ⟨b,1,none⟩=some (.slice (some ⟨g,0,none⟩) 0 0):=by
  have:(w.drew.alloc (.view ⟨g,0,none⟩ 5)).heap[b]?=_:=(Lib.alloc_old w.drew _ b aC).trans jA;rw[Lib.cell_of_heap this];rfl
 have c3:(w.alloc (.view ⟨g,0,none⟩ 5)).drew.cell? ⟨b,1,none⟩=some (.slice (some ⟨g,0,none⟩) 0 0):=c2;have c0:w.cell? ⟨b,1,none⟩=some (.slice (some ⟨g,0,none⟩) 0 0):=c1;have hk:Ka (.slice (some ⟨g,0,none⟩) 0 0) w (w.alloc (.view ⟨g,0,none⟩ 5)).drew:=⟨rfl,rfl,rfl,by show w.heap.size<=(w.heap.push _).size;simp,λk hk _=>Lib.alloc_old w _ k hk⟩
 go_enter Tryz.func143,Tryz.ntmps143
 go_wp2
 go_region
 all_goals (go_wp2;go_ret;exact⟨rfl,hk⟩)
theorem Ka.b{v:Value}{b:Nat}{w w':World}(h:Ka v w w'):Aox b v .nilIface w w' :=
 ⟨h.os,h.tape,h.output,h.size,λk h1 _ h3=>h.block k h1 h3,λk hk=>by simp[Value.ownBlock]at hk⟩
theorem Ael(b:Nat)(p v:Value)(s:List UInt8)(w:World)(A:Aow w b p v s):
  Calls Tryz.prog 143 #[.pointer (some ⟨b,0,none⟩)] w λe w'=>e=.returned (.string (Sx.bytes s))/\Ka v w w':=by
 have bY:=A.own;have jA:=A.at_;rcases bY.2 with⟨rfl,h0⟩|⟨g,cap,cur,rfl,_,hg,rE,fI,cY,_⟩
 .obtain rfl:s=[]:=XH h0
  exact Aem b p w jA
 .by_cases h0:s=[]
  .subst h0
   by_cases hc:cap=0
   .subst hc;exact Ws b g p cur w jA hg
   .exact Abb b g cap p w hc jA
  .exact Aba b g cap p cur s w h0 jA hg bY rE fI cY
def SM:aB:=λ_ xs ls K=>∃(s:List UInt8),xs=[.ptr 0 0]/\ls=[.nC 180 5 s]/\K (.str s) [.gone]
theorem Ait:Ap Tryz.prog gl 143 SM:=by
 refine⟨⟨Tryz.f143,_,Tryz.func143,rfl,by kernel_rfl⟩,λxs ls K h=>?_⟩;obtain⟨s,rfl,rfl,h⟩:=h;refine⟨_,_,h,Sh (as1:=[]) λE b p v w aX A hr=>?_⟩;obtain rfl:aX=[]:=XH (by have:=hr.1;simpa using this.symm);refine (Ael b p v s w A).mono ?_;rintro e w' ⟨rfl,k⟩;exact⟨_,.nilIface,rfl,λE=>.ro (.str rfl),k.b,rfl⟩
theorem MT:Tryz.prog.underlying 9=some .string:=by kernel_rfl
theorem AX:∃i,Tryz.prog.info? 5=some i/\i.zero=some (.int .u8 0)/\i.size=1/\i.bytes=1:=by
 obtain⟨i,hi,h⟩:=Option.map_eq_some_iff.1 LU;simp only[Prod.mk.injEq]at h;exact⟨i,hi,h.1,h.2.1,h.2.2⟩
theorem iy{w:World}{n:Nat}(bY:w.ownsRow 0 5 1 v n xs)(s:ByteArray)(hb:n+s.size<=140737488355328):
  ∃v' w',(Builtin.append_ #[22,9] 22 #[v,.string s]).run Tryz.prog w=.ok v' w'/\w'.ownsRow 0 5 1 v' (n+s.size) (xs++Lib.strCells s)/\w.grownBy w' v.ownBlock/\(v'.ownBlock=v.ownBlock\/v'.ownBlock=some w.heap.size):=by
 obtain⟨i,hi,hz,cC,lU⟩:=AX;have qS:n+s.size<=maxLen:=by unfold maxLen;omega
 obtain⟨v',w',hr,h2,h3,_⟩:=Lib.run_append_own_string (P:=Tryz.prog) w 0 22 9 22 5 i Wb MT hi hz cC lU v n xs bY s qS hb (XX _);refine⟨v',w',hr,h2,h3,?_⟩;have mQ:xs.length=n:=by simpa using bY.1
 rcases bY.2 with⟨rfl,rfl⟩|⟨g,cap,cur,rfl,hbg,hg,rE,fI,cY,bW⟩
 .by_cases hm:s.size=0
  .have hf:=Lib.run_firstCells_string (P:=Tryz.prog) w 1 s
   rw[hm]at hf;simp[Builtin.append_,run_underlying Wb,run_underlying MT,sizeOf,typeInfo,hi,cC,Builtin.lenOf,hm,hf]at hr
   left;rw[<-hr.1]
  .have bZ:=run_append_nil_string (P:=Tryz.prog) w 22 9 22 5 i (.int .u8 0) Wb MT hi hz s (by omega) (by unfold maxLen at qS;omega) (by rw[lU];omega)
   rw[hr]at bZ
   injection bZ with e1 e2
   right;rw[e1];rfl
 .by_cases iS:n+s.size<=cap
  .have nk:cur.size=cap:=by simpa using cY
   have bZ:=Lib.run_append_room_string (P:=Tryz.prog) w 22 9 22 5 i Wb MT hi cC g n cap cur hg s iS (by omega);rw[hr]at bZ
   injection bZ with e1 e2
   left;rw[e1];rfl
  .have holds:∀j u,xs[j]?=some u->w.cell? ((⟨g,0,none⟩:Addr).add j)=some u:=bY.cells (g:=g) rfl
   have bZ:=Lib.run_append_grow_string (P:=Tryz.prog) w 22 9 22 5 i (.int .u8 0) Wb MT hi hz ⟨g,0,none⟩ n cap xs (by rw[cC];simpa using mQ) holds s (by omega) (by unfold maxLen at qS;omega) (by rw[lU];exact growslice_fits (by omega) (by omega));rw[hr]at bZ
   injection bZ with e1 e2
   right;rw[e1];rfl
theorem ig{ops:Array Oper}{rest:List Oper}{o:Oper}{a:Act}{w:World}{Q:Exit->Act->World->Prop}(fQ:o.guard=none)(sl x:Operand)
  (ho:o.op=.call { callee:=.builtin .append,args:=#[sl,x],argTypes:=#[22,9] }) (hty:o.type=22)  {n:Nat}  (hs:a.eval sl=v) (bY:w.ownsRow 0 5 1 v n xs) (s:ByteArray) (hx:a.eval x=.string s) (hb:n+s.size<=140737488355328)
  (h:∀v' w',w'.ownsRow 0 5 1 v' (n+s.size) (xs++Lib.strCells s)->w.grownBy w' v.ownBlock->(v'.ownBlock=v.ownBlock\/v'.ownBlock=some w.heap.size)->wpList Tryz.prog ops Q rest (a.put o.dst v') w'):wpList Tryz.prog ops Q (o :: rest) a w:=by
 refine wpList_plain fQ λK hK=>?_;obtain⟨v',w',hr,h2,h3,h4⟩:=iy bY s hb;unfold Oper.wp execOp;simp only[ho,hty,resolve,invoke,builtin,Sem.run_bind,Sem.run_pure,Result.andThen_ok,List.map_toArray,UY,List.map_nil,hs,hx,hr];exact hK _ _ (h v' w' h2 h3 h4)
theorem Sk(b:Nat)(p v:Value)(s t:List UInt8)(w:World)(jA:w.heap[b]?=some (.cells #[p,v] 180 (0,0)))(hp:p=.pointer none\/p=.pointer (some ⟨b,0,none⟩))(bY:w.ownsRow 0 5 1 v s.length (Lib.byteCells s))(bA:v.ownBlock≠some b)(hlen:s.length+t.length<=140737488355328):
  Calls Tryz.prog 142 #[.pointer (some ⟨b,0,none⟩),.string (Sx.bytes t)] w λe w'=>e=.returned (.tuple #[.int .i64 t.length,.nilIface])/\∃v',w'.heap[b]?=some (.cells #[.pointer (some ⟨b,0,none⟩),v'] 180 (0,0))/\w'.ownsRow 0 5 1 v' (s.length+t.length) (Lib.byteCells s++Lib.strCells (Sx.bytes t))/\v'.ownBlock≠some b/\Aox b v v' w w':=by
 have VG:(Sx.bytes t).size=t.length:=rfl
 go_enter Tryz.func142,Tryz.ntmps142
 go_wp2_with (go_at_call 196;refine (Xh b p v s _ jA hp bY bA).mono ?_)
 rintro e w1 ⟨rfl,nr,IQ,k1,k2,k3,k4,k5⟩;have c0:w1.cell? ⟨b,0,none⟩=some (.pointer (some ⟨b,0,none⟩)):=by rw[Lib.cell_of_heap nr];rfl
 have c1:w1.cell? ⟨b,1,none⟩=some v:=by rw[Lib.cell_of_heap nr];rfl
 go_wp2_with (at_builtin;refine ig (v:=v) (n:=s.length) (xs:=Lib.byteCells s) rfl _ _ rfl rfl rfl IQ (Sx.bytes t) rfl (by rw[VG];exact hlen) ?_)
 intro v' w2 sr hg gG;have aC:b<w1.heap.size:=by
  rcases ZK b w1.heap.size with h'|h'
  .exact h'
  .simp[Array.getElem?_eq_none h']at nr
 have hold:∀k,k<w1.heap.size->some k≠v.ownBlock->w2.heap[k]?=w1.heap[k]?:=λk hk mT=>hg.block k hk mT;have bC:w1.heap.size<=w2.heap.size:=hg.size;have fE:w2.os=w1.os/\w2.tape=w1.tape/\w2.output=w1.output:=⟨hg.os,hg.tape,hg.output⟩;have mT:v'.ownBlock≠some b:=by
  rcases gG with h|h
  .rw[h];exact bA
  .rw[h];intro e;simp at e;omega
 have gH:w2.heap[b]?=some (.cells #[.pointer (some ⟨b,0,none⟩),v] 180 (0,0)):=by rw[hold b aC (λe=>bA e.symm)];exact nr
 have d0:w2.cell? ⟨b,0,none⟩=some (.pointer (some ⟨b,0,none⟩)):=by rw[Lib.cell_of_heap gH];rfl
 have d1:w2.cell? ⟨b,1,none⟩=some v:=by rw[Lib.cell_of_heap gH];rfl
 have f1:w2.frozen? ⟨b,1,none⟩=false:=Lib.frozen_of_heap gH 1;have mS:∀k,v'.ownBlock=some k->v.ownBlock=some k\/w.heap.size<=k:=by
  intro k hk;rcases gG with h|h
  .left;rw[<-h];exact hk
  .right;rw[h]at hk;simp at hk;omega
 obtain⟨v2,jY⟩:∃v2,v2=v':=⟨_,rfl⟩;have cq:∃a c,v'=.slice a (s.length+t.length) c:=by
  rcases sr.2 with⟨h,h2⟩|⟨g,cap,cur,h,_⟩
  .have h2:s.length+t.length=0:=h2
   rw[h,h2];exact⟨_,_,rfl⟩
  .exact⟨_,_,h⟩
 obtain⟨ao,co,rfl⟩:=cq
 go_wp2
 go_ret2
 refine⟨by simp,_,by simp[World.setCell,YM,gH],?_,mT,⟨?_,?_,?_,by simp[World.setCell];omega,λk h1 h2 h3=>?_,mS⟩⟩
 .exact sr.kept (row:=some b) ⟨rfl,rfl,rfl,by simp[World.setCell],λk _ hk=>RowKit.Below.heap_setCell _ _ _ _ (λe=>hk (by simp[e]))⟩ (Or.inr mT)
 .exact fE.1.trans k1
 .exact fE.2.1.trans k2
 .exact fE.2.2.trans k3
 .rw[RowKit.Below.heap_setCell _ _ _ _ (λe=>h2 (by simp[e])),hold k (by omega) h3]
  exact k5 k h2
def SL:aB:=λ_ xs ls K=>∃(s t:List UInt8),xs=[.ptr 0 0,.str t]/\ls=[.nC 180 5 s]/\s.length+t.length<=140737488355328/\∀r n,r=s++t->n=(t.length:Int)->K (.aI [.int .i64 (.a n),.raw .nilIface]) [.nC 180 5 r]
theorem Tj:Ap Tryz.prog gl 142 SL:=by
 refine⟨⟨Tryz.f142,_,Tryz.func142,rfl,by kernel_rfl⟩,λxs ls K h=>?_⟩;obtain⟨s,t,rfl,rfl,hs,h⟩:=h;refine⟨_,_,h _ _ rfl rfl,Sh λE b p v w aX A hr=>?_⟩;obtain⟨u,rfl,hu⟩:=On hr;rw[Cy hu];refine (Sk b p v s t w A.at_ A.pp A.own A.ne hs).mono ?_;rintro e w' ⟨rfl,v',k1,k2,k3,k4⟩;refine⟨_,v',rfl,λE=>?_,k4,rfl,rfl,_,.inr rfl,k1,?_,k3⟩
 .refine .aI rfl λi x y a b=>?_
  match i,a,b with
  |0,a,b=>cases a;cases b;exact .ro (.int rfl)
  |1,a,b=>cases a;cases b;exact .ro (.raw rfl)
 .have:Lib.byteCells (s++t)=Lib.byteCells s++Lib.strCells (Sx.bytes t):=by simp[Lib.byteCells,Lib.strCells,Sx.bytes]
  rw[this,QF];exact k2
set_option maxHeartbeats 16000000
def Rr(x:HF):List UInt8:=((x.name++[58,32])++x.value)++[13,10]
def Ly(l:List HF):List UInt8:=l.flatMap Rr++[13,10]
def I9(l:List HF):List UInt8×Int:=if A9 l≠0 then ([],A9 l) else (Ly l,0)
theorem Pl:∀ {l:List HF} {n:Int},Fx l n=0->∀x∈l,x.name.length<=64/\x.value.length<=2000
 | [],_,_,x,hx=>by cases hx
 |y :: l,n,h,x,hx=>by
  unfold Fx at h
  split at h
  .cases h
  .rename_i hb
   split at h
   .cases h
   .rename_i hv
    rcases List.mem_cons.1 hx with rfl|hx
    .refine⟨?_,by omega⟩
     have hb:qd x=false:=by simpa using hb
     unfold qd at hb;simp only[QU,XZ]at hb;have:=hb.1;unfold Cb at this;simp only[QE,QG]at this;exact this.2.2
    .exact Pl h x hx
theorem Pm(h:A9 l=0):∀x∈l,x.name.length<=64/\x.value.length<=2000:=by
 unfold A9 at h
 split at h
 .cases h
 .exact Pl h
def wH:aB:=λ_ xs ls K=>∃(l:List HF) (nl:Bool) (n:Int) (f:Nat->List SV),xs=[.sl (.a nl) (.a n) 2 f]/\ls=[]/\A0 f n l/\∀t e,(t,e)=I9 l->K (.aI [.str t,.int .i64 (.a e)]) []
structure PrJ(l:List HF)(k t:List UInt8)(i:Nat)(I:Int)(m:Nat):Prop where
 cG:AtR l i I m
 k:k=t++Ly (l.drop i)
 len:t.length<=3000 * i
def prJ(l:List HF)(k:List UInt8)(nl:Bool)(n:Int)(f:Nat->List SV)(m:Nat)(vs:List (Option SV))(hp:List Hl):Prop :=
 ∃(t:List UInt8) (i:Nat) (I:Int),vs=[some (.ptr 0 0),some (.sl (.a nl) (.a n) 2 f),some (.int .i64 (.a n)),some (.int .i64 (.a I))]/\hp=[.nC 180 5 t]/\PrJ l k t i I m
theorem Amd:Ap Tryz.prog gl 86 wH:=by
 refine Bq (gh:=[(4,[.nC 5 5])]) mixed Ck (Aa Ia (Aa Tj (Aa Ait Ae))) Tryz.func86 (by kernel_rfl) (by kernel_rfl) ?_;intro xs ls K h;unfold wH at h;obtain⟨l,nl,n,f,rfl,rfl,R,h⟩:=h;obtain⟨k,hk⟩:∃k,k=I9 l:=⟨_,rfl⟩;obtain⟨kt,ke⟩:=k;refine⟨_,_,h kt ke hk,λD hD=>?_⟩;clear h;unfold I9 at hk;obtain⟨J,hJ⟩:∃J,J=prJ l kt nl n f:=⟨_,rfl⟩;cbv;refine⟨l,_,_,f,rfl,rfl,by subst hD;exact R,λe he=>?_⟩;cbv;have OX:=Pm (l:=l);have qR:=D6 (l:=l);rw[<-he]at hk OX qR;clear he;refine br hD (λh=>?_) (λh=>?_)<;>cbv
 .have h1:e≠0:=by simpa using h
  rw[QC h1]at hk;simp only[Prod.mk.injEq]at hk;obtain⟨eZ,dC⟩:=hk;subst eZ dC;subst hD;exact By rfl rfl
 have h1:e=0:=by simpa using h
 rw[QA (by simp[h1])]at hk;simp only[Prod.mk.injEq]at hk;obtain⟨eZ,dC⟩:=hk;have OX:=OX h1;have qR:=qR h1;clear h;refine⟨[5,13,14,15],J,⟨rfl,l.length,?_⟩,?_⟩
 .rw[hJ]
  subst hD;exact⟨[],0,0,rfl,rfl,AtR.zero R.len,eZ,by simp⟩
 clear eZ;intro m vs hp hj;rw[hJ]at hj;obtain⟨t,i,I,rfl,rfl,V⟩:=hj;cbv;refine br hD (λh=>?_) (λh=>?_)<;>cbv
 .have aC:=V.cG.lt R.n (QT (p:=I<n) h)
  clear h;refine⟨V.cG.lY hD R.n aC,λj hj=>?_⟩;obtain rfl:=V.cG.j hD hj;clear hj;have e1:=R.f j aC;have eC:=OX (l.getD j default) (by rw[QD,QB aC];exact XO aC);have aY:=V.k;have hlen:=V.len;rw[Hg (d:=default) aC]at aY;obtain⟨x,hx⟩:∃x,x=l.getD j default:=⟨_,rfl⟩;rw[<-hx]at e1 aY eC;obtain⟨a,b⟩:=x;simp only at eC;cbv;rw[e1];cbv;refine⟨⟨by simp only[QH,QV];omega⟩,λs1 cC=>?_⟩;cbv;have cC:s1=a++[58,32]:=cC.h;have l1:s1.length<=66:=by rw[cC];simp;omega
  refine⟨⟨by omega⟩,λs2 eK=>?_⟩;cbv;have eK:s2=s1++b:=eK.h;have l2:s2.length<=2066:=by rw[eK];simp;omega
  refine⟨⟨by simp only[QH,QV];omega⟩,λs3 tK=>?_⟩;cbv;have tK:s3=s2++[13,10]:=tK.h;have l3:s3.length<=2068:=by rw[tK];simp;omega
  have sV:s3=Rr ⟨a,b⟩:=by rw[tK,eK,cC];rfl
  clear cC eK tK;refine⟨t,s3,rfl,rfl,by omega,λr nn hr gL=>?_⟩;cbv;obtain⟨g1,g2⟩:=V.cG.step hD aC;refine⟨_,g1,?_⟩;rw[hJ];unfold prJ;subst hD;refine⟨r,j+1,_,rfl,rfl,g2,?_,?_⟩
  .rw[aY,hr,sV];simp[Ly]
  .rw[hr,QF];omega
 .have hi:=V.cG.eq R.n (XA (p:=I<n) h)
  have aY:=V.k;have hlen:=V.len;rw[hi,XR]at aY;clear h;refine⟨t,[13,10],rfl,rfl,by simp only[QH,QV];omega,λr nn hr gL=>?_⟩;cbv;have lG:r=kt:=by rw[hr,aY];rfl
  refine⟨r,rfl,rfl,?_⟩;cbv;rw[lG,dC];subst hD;exact By rfl rfl
set_option maxHeartbeats 4000000
def jk:List UInt8:=[32,72,84,84,80,47,49,46,49,13,10]
def Ca(r:Rq):List UInt8×Int :=
 if (Br r).2.2≠0 then ([],(Br r).2.2) else if (I9 (Br r).2.1).2≠0 then ([],(I9 (Br r).2.1).2) else
 (((((r.method++[32])++r.target)++jk)++(I9 (Br r).2.1).1)++r.body,0)
structure BQ(r:Rq):Prop where
 method:Gj r.method=true
 org:(vd r.target).2=0
 chk:(B7 r).2=0
 host:NU r.host=true
 body:r.body.length<=65536
 fields:(Br r).2.1=(B7 r).1
 xv:1<=r.id
 xu:r.id<=1000000000
 part:(Br r).1=[]
theorem Iv(h:(Br r).2.2=0):BQ r:=by
 have h0:=h;unfold Br at h
 split at h
 .cases h
 .rename_i g1
  split at h
  .cases h
  .rename_i g2
   split at h
   .cases h
   .rename_i g3
    split at h
    .rename_i g4;exact absurd h g4
    .rename_i g4
     split at h
     .cases h
     .rename_i g5
      split at h
      .rename_i g6;exact absurd h g6
      .rename_i g6
       split at h
       .cases h
       .rename_i g7
        split at h
        .cases h
        .rename_i g8
         refine⟨by simpa using g2,by simpa using g4,by simpa using g6,by simpa using g5,by omega,?_,by omega,by omega,?_⟩
         .unfold Br
          rw[QA g1,QA g2,QA g3,QA g4,QA g5,QA g6,QA g7,QA g8]
         .unfold Br
          rw[QA g1,QA g2,QA g3,QA g4,QA g5,QA g6,QA g7,QA g8]
theorem BQ.nY(E:BQ r):r.method.length<=16:=by
 have:=E.method;unfold Gj at this;simp only[QE,QG]at this;exact this.1
theorem Afq(h:∀x∈l,x.name.length<=64/\x.value.length<=2000):(Ly l).length<=3000 * l.length+2:=by
 have:(l.flatMap Rr).length<=3000 * l.length:=by
  induction l with
  |nil=>simp
  |cons x l ih =>
   have h1:=h x (XB ..);have h2:=ih λy hy=>h y (XC _ hy);simp only[List.flatMap_cons,QF,QH,Rr,QV];omega
 unfold Ly;simp only[QF,QH,QV];omega
theorem Afa:(I9 l).1.length<=400000:=by
 unfold I9
 split
 .simp
 .rename_i h
  have h:A9 l=0:=by simpa using h
  have h1:=Afq (Pm h);have h2:=D6 h;simp only;omega
def q9:aB:=λ_ xs ls K=>∃(r:Rq) (nl:Bool) (n:Int) (f:Nat->List SV),xs=[.agg [.int .i64 (.a r.id),.str r.method,.str r.target,.str r.host,.sl (.a nl) (.a n) 2 f,.str r.body]]/\ls=[]/\M1 r nl n f/\
 ∀t e,(t,e)=Ca r->K (.aI [.str t,.int .i64 (.a e)]) []
theorem Yx:Ap Tryz.prog pI 90 q9:=by
 refine Bq (gh:=[]) mixed Ck (Aa oq (Aa (C5 Amd) Ae)) Tryz.func90 (by kernel_rfl) (by kernel_rfl) ?_;intro xs ls K h;unfold q9 at h;obtain⟨r,nl,n,f,rfl,rfl,R,h⟩:=h;obtain⟨k,hk⟩:∃k,k=Ca r:=⟨_,rfl⟩;obtain⟨kt,ke⟩:=k;refine⟨_,_,h kt ke hk,λD hD=>?_⟩;clear h;unfold Ca at hk;have hE:=Iv (r:=r);have hM:(Br r).2.2=0->r.method.length<=16:=λh=>(hE h).nY;have hT:(Br r).2.2=0->r.target.length<=500:=λh=>Ab6 (hE h).org;have hB:(Br r).2.2=0->r.body.length<=65536:=λh=>(hE h).body;clear hE;obtain⟨ck,CZ⟩:∃w,w=Br r:=⟨_,rfl⟩;rw[<-CZ]at hk hM hT hB;obtain⟨cp,cl,ce⟩:=ck;obtain⟨id,me,ta,ho,fs,bo⟩:=r;simp only at hk hM hT hB;cbv;refine⟨⟨id,me,ta,ho,fs,bo⟩,nl,n,f,by subst hD;rfl,rfl,R,λp l e TF n3 g3 hc R3 uQ=>?_⟩;cbv;rw[<-CZ]at hc;simp only[Prod.mk.injEq]at hc;obtain⟨eZ,dC,pE⟩:=hc;subst eZ dC pE;clear CZ;refine br hD (λh=>?_) (λh=>?_)<;>cbv
 .have h1:e≠0:=by simpa using h
  rw[QC h1]at hk;simp only[Prod.mk.injEq]at hk;obtain⟨eZ,dC⟩:=hk;subst eZ dC;subst hD;exact By rfl rfl
 have h1:e=0:=by simpa using h
 rw[QA (by simp[h1])]at hk;have hM:=hM h1;have hT:=hT h1;have hB:=hB h1;clear h;refine⟨l,_,_,g3,rfl,rfl,by subst hD;exact R3,λt e2 ht=>?_⟩;cbv;have hPl:=Afa (l:=l);rw[<-ht]at hk hPl;simp only at hk hPl;clear ht;refine br hD (λh=>?_) (λh=>?_)<;>cbv
 .have h1:e2≠0:=by simpa using h
  rw[QC h1]at hk;simp only[Prod.mk.injEq]at hk;obtain⟨eZ,dC⟩:=hk;subst eZ dC;subst hD;exact By rfl rfl
 have h1:e2=0:=by simpa using h
 rw[QA (by simp[h1])]at hk;simp only[Prod.mk.injEq]at hk;obtain⟨eZ,dC⟩:=hk;clear h;refine⟨⟨by simp only[QH,QV];omega⟩,λs1 cC=>?_⟩;cbv;have cC:s1=me++[32]:=cC.h;have l1:s1.length<=17:=by rw[cC];simp;omega
 refine⟨⟨by omega⟩,λs2 eK=>?_⟩;cbv;have eK:s2=s1++ta:=eK.h;have l2:s2.length<=517:=by rw[eK];simp;omega
 refine⟨⟨by simp only[QH,QV];omega⟩,λs3 tK=>?_⟩;cbv;have tK:s3=s2++jk:=tK.h;have l3:s3.length<=528:=by rw[tK,QF];have:jk.length=11:=rfl;omega
 refine⟨⟨by omega⟩,λs4 yB=>?_⟩;cbv;have yB:s4=s3++t:=yB.h;have l4:s4.length<=400528:=by rw[yB,QF];omega
 refine⟨⟨by omega⟩,λs5 VZ=>?_⟩;cbv;have VZ:s5=s4++bo:=VZ.h;have:s5=kt:=by rw[VZ,yB,tK,eK,cC,eZ]
 rw[this,dC];subst hD;exact By rfl rfl
end Go.Proofs.YtdoogdbjiijifaaGreatDoor
