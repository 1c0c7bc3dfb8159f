/- Part of the proofs of the statements about responses and messages (layers 9 and 10): a symbolic executor over the code, that it is sound, and contracts of functions; it has no conditions of its own. -/
import Derived.Shelf.Bytes.SlIndexAt
import Derived.Lib.Strings
import Derived.Lib.Slices
import Derived.Lib.Walk
import Derived.Lib.Builder
import Derived.Lib.AppendStr
import Derived.Lib.UnsafeStr
import Derived.WalkKit
import Derived.Laws.Externs
import Derived.Laws.IdiomCopy
import Derived.Test.YtdoogdbjiijifaaGreatDoorE3Pbb
import Derived.Test.YtdoogdbjiijifaaGreatDoorE3Pba
import Derived.Test.YtdoogdbjiijifaaGreatDoorE3Pax
namespace Go.Proofs.YtdoogdbjiijifaaGreatDoor
open Go Go.Sx
set_option maxRecDepth 100000
set_option maxHeartbeats 8000000
structure Fr where
 hosts:List (List UInt8)
 ids:List (List UInt8)
 lens:List (List UInt8)
 coded:Bool
 rest:List HF
def K9:List UInt8:=[104,111,115,116]
def nId:List UInt8:=[120,45,114,101,113,117,101,115,116,45,105,100]
def nLen:List UInt8:=[99,111,110,116,101,110,116,45,108,101,110,103,116,104]
def nTE:List UInt8:=[116,114,97,110,115,102,101,114,45,101,110,99,111,100,105,110,103]
def Um(r:Fr)(x:HF):Fr :=
 if foldF x.name=K9 then { r with hosts:=r.hosts++[x.value] } else
 if foldF x.name=nId then { r with ids:=r.ids++[x.value] } else
 if foldF x.name=nLen then { r with lens:=r.lens++[x.value] } else
 if foldF x.name=nTE then { r with coded:=true } else { r with rest:=r.rest++[x] }
def It(l:List HF):Fr:=l.foldl Um ⟨[],[],[],false,[]⟩
structure GrS(f:Nat->List SV)(n:Int)(nl:Bool)(l:List (List UInt8)):Prop where
 row:Bl f n l
 nl:nl=l.isEmpty
structure GrH(f:Nat->List SV)(n:Int)(nl:Bool)(l:List HF):Prop where
 row:Bu f n l
 nl:nl=l.isEmpty
structure FrV(r:Fr)(f1 f2 f3 f4:Nat->List SV)(n1 n2 n3 n4:Int)(b1 b2 b3 b4:Bool):Prop where
 g1:GrS f1 n1 b1 r.hosts
 g2:GrS f2 n2 b2 r.ids
 g3:GrS f3 n3 b3 r.lens
 g4:GrH f4 n4 b4 r.rest
structure FrJ(l:List HF)(k r:Fr)(f1 f2 f3 f4:Nat->List SV)(n1 n2 n3 n4:Int)(b1 b2 b3 b4:Bool)(i:Nat)(I:Int)(m:Nat):Prop where
 lie:AtR l i I m
 v:FrV r f1 f2 f3 f4 n1 n2 n3 n4 b1 b2 b3 b4
 k:k=(l.drop i).foldl Um r
 len:r.hosts.length+r.ids.length+r.lens.length+r.rest.length<=i
theorem Sc:Bu (λ_=>[]) 0 []:=⟨rfl,λi hi=>absurd hi (by simp),by simp,λi hi=>absurd hi (by simp)⟩
theorem GrS.nil:GrS (λ_=>[]) 0 true []:=⟨Bl.nil,rfl⟩
theorem GrH.nil:GrH (λ_=>[]) 0 true []:=⟨Sc,rfl⟩
theorem GrS.more{f f' g:Nat->List SV}{n n':Int}{nl nl':Bool}{l:List (List UInt8)}{x:List UInt8}(G:GrS f n nl l)(hg:g 0=[.str x])(h:G8 f' n' n 1 f g)(hl:l.length<=100)(hb:nl'=false):GrS f' n' nl' (l++[x]):=⟨G.row.more hg h (by omega),by rw[hb];simp⟩
theorem GrH.more{f f' g:Nat->List SV}{n n':Int}{nl nl':Bool}{l:List HF}{x:HF}(G:GrH f n nl l)(hg:g 0=Dk x)(hs:x.small)(h:G8 f' n' n 1 f g)(hl:l.length<=100)(hb:nl'=false):GrH f' n' nl' (l++[x]) :=
 ⟨G.row.app (Bu.one hg hs) h (by simp only[List.length_cons,List.length_nil];omega),by rw[hb];simp⟩
theorem Ol{f f2:Nat->List SV}{n n2:Int}{b b2:Bool}{l:List (List UInt8)}{x:BT}{y:ST}(G:GrS f n b l)(G2:GrS f2 n2 b2 l)(hx:x.den=b:=by rfl)(hy:y.den=n:=by rfl):LeV (.sl x y 1 f) (.sl (.a b2) (.a n2) 1 f2):=by
 refine LeV.sl (by rw[hx,G.nl,G2.nl.symm];rfl) (by rw[hy,G.row.n,G2.row.n.symm];rfl) λi hi=>?_;rw[hy]at hi;have:=G.row.n;rw[G.row.f i (by omega),G2.row.f i (by omega)]
theorem Af9{f f2:Nat->List SV}{n n2:Int}{b b2:Bool}{l:List HF}{x:BT}{y:ST}(G:GrH f n b l)(G2:GrH f2 n2 b2 l)(hx:x.den=b:=by rfl)(hy:y.den=n:=by rfl):LeV (.sl x y 2 f) (.sl (.a b2) (.a n2) 2 f2):=by
 refine LeV.sl (by rw[hx,G.nl,G2.nl.symm];rfl) (by rw[hy,G.row.n,G2.row.n.symm];rfl) λi hi=>?_;rw[hy]at hi;have:=G.row.n;rw[G.row.f i (by omega),G2.row.f i (by omega)]
open Go Go.Sx Go.RowKit
set_option maxHeartbeats 4000000
def spIdxRow:FSpec:=λ_ xs ls K=>∃(t:List UInt8) (nl:Bool) (n c:Int) (f:Nat->List SV),xs=[.sl (.a nl) (.a n) 1 f,.int .u8 (.a c)]/\ls=[]/\A7 f n t/\c=10/\∀r,r=Lib.indexByte t 10->K (.int .i64 (.a r)) []
theorem Ach(t:List UInt8):Lib.bytesOf (t.map λc=>(c.toNat:Int))=t:=by
 unfold Lib.bytesOf;rw[List.map_map]
 conv=>rhs;rw[<-List.map_id t]
 refine List.map_congr_left λc _=>?_;simp[Function.comp]
theorem W7:Ay Tryz.prog gl 53 spIdxRow:=by
 refine⟨⟨Tryz.f53,_,Tryz.func53,rfl,by kernel_rfl⟩,λxs ls K h=>?_⟩;obtain⟨t,nl,n,c,f,rfl,rfl,R,rfl,h⟩:=h;refine⟨_,_,h _ rfl,Bx λE B w vals _ _ _ hr=>?_⟩;obtain⟨v,u,rfl,hv,hu⟩:=Eg hr;rw[Afn hu];rcases (Rel.sl_inv hv).sl_inv with⟨rfl,hn,_⟩|⟨a,m,cap,g,rfl,_,hn,hc,hcm,hs,hl,h1,hcell,hrel⟩
 ·have ht:t=[]:=by
   have:=R.n;have hn:n=0:=hn;exact List.length_eq_zero_iff.1 (by omega)
  subst ht;refine (Jw 10 w).mono ?_;rintro e w' ⟨rfl,rfl⟩;exact⟨_,rfl,λE=>.ro (.int rfl),Below.refl _ _⟩
 ·have hm:t.length=m:=by
   have:=R.n;have hn:n=(m:Int):=hn;omega
  have hh:∀i,i<m->w.cell? (a.add i)=some (.int .u8 ((t.map λc=>(c.toNat:Int)).getD i 0)):=by
   intro i hi;have e1:=(hcell i 0 hi (by omega)).1;have e2:=hrel i 0 (.int .u8 (.a ((t.getD i 0).toNat:Int))) hi (by rw[R.f i (by omega)];rfl);have e3:g i 0=.int .u8 ((t.getD i 0).toNat:Int):=by
    generalize g i 0=v at e2
    cases e2 with
    |int h=>rw[<-h];rfl
   have e4:a.add i=⟨a.block,a.off+(i * 1+0),none⟩:=by
    have:=hs (by omega);cases a;simp only at this;subst this;simp[Addr.add]
   rw[e4,e1,e3];have hi':i<t.length:=by omega
   simp[List.getD_eq_getElem?_getD,List.getElem?_eq_getElem hi']
  refine (Any.bytes_IndexByte_at S7 a m cap _ 10 w (by simpa using hm) hh).mono ?_;rintro e w' ⟨rfl,rfl⟩;rw[Ach];exact⟨_,rfl,λE=>.ro (.int rfl),Below.refl _ _⟩
set_option maxHeartbeats 16000000
def hpG(b:List UInt8):Nat->Nat->List HF->List HF×Int×Int
 |0,_,_=>([],0,0)
 |m+1,p,r =>
  if (decide (Lib.indexByte (b.drop p) 10<0)&&decide (8192<b.length))||decide (8192<=(p:Int)+Lib.indexByte (b.drop p) 10) then ([],0,3) else
  if Lib.indexByte (b.drop p) 10<0 then ([],0,10) else
  if (!Lib.hasSuffix ((b.drop p).take (Lib.indexByte (b.drop p) 10).toNat) [13])||decide (0<=Lib.indexByte (Lib.trimSuffix ((b.drop p).take (Lib.indexByte (b.drop p) 10).toNat) [13]) 13) then ([],0,6) else
  if Lib.trimSuffix ((b.drop p).take (Lib.indexByte (b.drop p) 10).toNat) [13]=[] then (r,(p:Int)+Lib.indexByte (b.drop p) 10+1,0) else
  if (!(Am 58 (Lib.trimSuffix ((b.drop p).take (Lib.indexByte (b.drop p) 10).toNat) [13])).2.2||!Bg (Am 58 (Lib.trimSuffix ((b.drop p).take (Lib.indexByte (b.drop p) 10).toNat) [13])).1)||!Br (Am 58 (Lib.trimSuffix ((b.drop p).take (Lib.indexByte (b.drop p) 10).toNat) [13])).2.1 then ([],0,6) else
  if decide (2000<(trimF (Am 58 (Lib.trimSuffix ((b.drop p).take (Lib.indexByte (b.drop p) 10).toNat) [13])).2.1).length)||decide (r.length=100) then ([],0,3) else
  hpG b m (p+(Lib.indexByte (b.drop p) 10).toNat+1) (r++[⟨(Am 58 (Lib.trimSuffix ((b.drop p).take (Lib.indexByte (b.drop p) 10).toNat) [13])).1,trimF (Am 58 (Lib.trimSuffix ((b.drop p).take (Lib.indexByte (b.drop p) 10).toNat) [13])).2.1⟩])
def Av(b:List UInt8):List HF×Int×Int:=hpG b (b.length+1) 0 []
def spHParse:FSpec:=λ_ xs ls K=>∃(b:List UInt8) (nl:Bool) (n:Int) (f:Nat->List SV),xs=[.sl (.a nl) (.a n) 1 f]/\ls=[]/\A7 f n b/\b.length<=1000000/\
 ∀l f1 n1 b1 k e,(l,k,e)=Av b->GrH f1 n1 b1 l->K (.tup [.sl (.a b1) (.a n1) 2 f1,.int .i64 (.a k),.int .i64 (.a e)]) []
structure HpJ(b:List UInt8)(k:List HF×Int×Int)(p:Nat)(P:Int)(m:Nat)(r:List HF)(f1:Nat->List SV)(n1:Int)(b1:Bool):Prop where
 eP:P=p
 le:p<=b.length
 le2:p<=8192
 lt:b.length-p<m
 k:k=hpG b m p r
 G:GrH f1 n1 b1 r
 len:r.length<=100
def hpJ(b:List UInt8)(k:List HF×Int×Int)(nl:Bool)(n:Int)(f:Nat->List SV)(m:Nat)(vs:List (Option SV))(hp:List Hl):Prop :=
 ∃(p:Nat) (P:Int) (r:List HF) (f1:Nat->List SV) (n1:Int) (b1:Bool),vs=[some (.sl (.a nl) (.a n) 1 f),some (.gsl (.a b1) (.a n1) 2 f1 0),some (.int .i64 (.a P))]/\hp=[.tail 100 (.a n1) 2]/\HpJ b k p P m r f1 n1 b1
theorem Hb{s:List UInt8}{c:UInt8}:-1<=Lib.indexByte s c/\(0<=Lib.indexByte s c->Lib.indexByte s c<(s.length:Int)):=by
 cases h:(Am c s).2.2 with
 |false=>have:=(Sh h).2.2;rw[this];exact⟨by omega,λh=>by omega⟩
 |true=>obtain⟨h1,_,_,h4⟩:=Jq h;rw[h1];exact⟨by omega,λ_=>by omega⟩
theorem Hc:∀(m p:Nat) (r:List HF) (b:List UInt8),b.length<=1000000->r.length<=100->(∀x∈r,x.small)->(hpG b m p r).1.length<=100/\∀x∈(hpG b m p r).1,x.small
 |0,p,r,b,_,_,_=>⟨by simp[hpG],λx hx=>by simp[hpG]at hx⟩
 |m+1,p,r,b,hb,hr,hs=>by
  have h0:([]:List HF).length<=100/\∀x∈([]:List HF),x.small:=⟨by simp,λx hx=>by cases hx⟩;unfold hpG
  split
  ·exact h0
  split
  ·exact h0
  split
  ·exact h0
  split
  ·exact⟨hr,hs⟩
  split
  ·exact h0
  split
  ·exact h0
  rename_i h;simp only[Bool.or_eq_true,decide_eq_true_eq,not_or]at h;obtain⟨h1,h2⟩:=h;refine Hc m _ _ b hb (by rw[List.length_append];simp only[List.length_cons,List.length_nil];omega) λx hx=>?_;rcases List.mem_append.1 hx with hx|hx
  ·exact hs x hx
  ·have hx:=List.mem_singleton.1 hx
   subst hx;refine⟨?_,by show (trimF _).length<=_;omega⟩;show (Am 58 _).1.length<=_;refine Nat.le_trans (L5 58 _).1 ?_;rw[Lib.trimSuffix];have e:((b.drop p).take (Lib.indexByte (b.drop p) 10).toNat).length<=1000000:=by rw[List.length_take,List.length_drop];omega
   split
   ·rw[List.length_take];omega
   ·omega
structure HpE(e:Int)(t:List UInt8):Prop where
 lo:-1<=e
 hi:0<=e->e<(t.length:Int)
structure HpS(s:List UInt8):Prop where
 len:s.length<=8192
theorem Hv{D:Dn}(hD:D=dn){l l':List HF}{f f1:Nat->List SV}{n n1 k e:Int}{b b1:Bool}{x:BT}{y z w:ST}(h:(l,k,e)=(l',z.den,w.den))(G:GrH f n b l')(hG:GrH f1 n1 b1 l)(hx:x.den=b)(hy:y.den=n):
  Fin (.tup [.sl (.a (D.b x)) (.a (D.i y)) 2 f,.int .i64 (.a (D.i z)),.int .i64 (.a (D.i w))]) (.tup [.sl (.a b1) (.a n1) 2 f1,.int .i64 (.a k),.int .i64 (.a e)]) [] []:=by
 subst hD;simp only[Prod.mk.injEq]at h;obtain⟨rfl,rfl,rfl⟩:=h;exact D6 (.tup (.cons (Af9 G hG hx hy) (.cons (Ak rfl) (.cons (Ak rfl) .nil))))
theorem P6:Ay Tryz.prog gl 58 spHParse:=by
 refine Bq (gh:=[(1,[.attach 5 100])]) mixed B4 (Ab W7 (Ab Xr (Ab Amr (Ab cut_ok (Ab Iz (Ab W8 (Ab Lw Ai))))))) Tryz.func58 (by kernel_rfl) (by kernel_rfl) ?_;intro xs ls K h;unfold spHParse at h;obtain⟨b,nl,n,f,rfl,rfl,R,hb,h⟩:=h;obtain⟨k,hk⟩:∃k,k=Av b:=⟨_,rfl⟩;have hS:=Hc (b.length+1) 0 [] b hb (by simp) (λx hx=>by cases hx);have hk0:k=hpG b (b.length+1) 0 []:=hk;rw[<-hk0]at hS;obtain⟨J,hJ⟩:∃J,J=hpJ b k nl n f:=⟨_,rfl⟩;obtain⟨kl,kk,ke⟩:=k;have hG:∃f1 n1 b1,GrH f1 n1 b1 kl:=⟨_,_,_,⟨Bu.row (by have:=hS.1;simp only at this;omega) (λi hi=>hS.2 _ (by rw[List.getD_eq_getElem?_getD,List.getElem?_eq_getElem hi];exact List.getElem_mem hi)),rfl⟩⟩;obtain⟨f1,n1,b1,hG⟩:=hG;clear hS;refine⟨_,_,h kl f1 n1 b1 kk ke hk hG,λD hD=>?_⟩;cbv;clear h;refine⟨[0,5,6],J,⟨rfl,b.length+1,?_⟩,?_⟩
 ·rw[hJ]
  subst hD;exact⟨0,_,[],_,_,_,rfl,rfl,⟨rfl,by omega,by omega,by omega,hk0,GrH.nil,by simp⟩⟩
 clear hk hk0;intro m vs hp hj;rw[hJ]at hj;obtain⟨p,P,r,e1,m1,c1,rfl,rfl,V⟩:=hj;have hP:=V.eP;have hle:=V.le;have hk:=V.k;obtain⟨m0,rfl⟩:∃m0,m=m0+1:=⟨m-1,by have:=V.lt;omega⟩;rw[hpG,<-hP]at hk;obtain⟨t,ht⟩:∃t,t=b.drop p:=⟨_,rfl⟩;rw[<-ht]at hk;have htl:t.length=b.length-p:=by rw[ht,List.length_drop]
 have VP:VI P p:=⟨hP⟩;clear hP;refine⟨by subst hD;exact⟨by show (0:Int)<=P;rw[VP.h];omega,by show P<=n;rw[VP.h,R.n];omega,Int.le_refl _⟩,λf2 n2 hsub=>?_⟩;cbv;have R2:A7 f2 n2 t:=by
  have:=R.sub (a:=p) (b:=b.length) hsub (by subst hD;exact VP.h) (by subst hD;exact R.n) hle (Nat.le_refl _);rw[ht];have e:(b.drop p).take (b.length-p)=b.drop p:=List.take_of_length_le (by rw[List.length_drop];exact Nat.le_refl _)
  rwa [e]at this
 clear hsub;refine⟨t,_,_,_,f2,rfl,rfl,by subst hD;exact R2,by subst hD;rfl,λe he=>?_⟩;cbv;rw[<-he]at hk;have hb1:HpE e t:=by rw[he];exact⟨Hb.1,Hb.2⟩
 have hdn:decide (8192<n)=decide (8192<b.length):=by rw[decide_eq_decide,R.n];omega
 refine br hD (λh=>?_) (λh=>?_)<;>cbv
 ·have h:(decide (e<0)&&decide (8192<n))=true:=h
  rw[hdn]at h;rw[if_pos (by rw[h];rfl)]at hk;exact Hv hD hk GrH.nil hG rfl rfl
 have h1:(decide (e<0)&&decide (8192<b.length))=false:=by
  have h:(decide (e<0)&&decide (8192<n))=false:=h;rw[hdn]at h;exact h
 rw[h1,Bool.false_or]at hk;clear h;have hw1:IntKind.i64.wrap (P+e)=P+e:=by have:=VP.h;have:=hb1.lo;have:=hb1.hi;exact A4 (by omega) (by omega)
 refine br hD (λh=>?_) (λh=>?_)<;>cbv
 ·have h:decide (8192<=IntKind.i64.wrap (P+e))=true:=h
  rw[hw1]at h;rw[if_pos h]at hk;exact Hv hD hk GrH.nil hG rfl rfl
 have h2:¬8192<=P+e:=by
  have h:decide (8192<=IntKind.i64.wrap (P+e))=false:=h;rw[hw1]at h;simpa using h
 rw[if_neg (by simpa using h2)]at hk;clear h;refine br hD (λh=>?_) (λh=>?_)<;>cbv
 ·have h:decide (e<0)=true:=h
  rw[if_pos (by simpa using h)]at hk;exact Hv hD hk GrH.nil hG rfl rfl
 have h3:¬e<0:=by
  have h:decide (e<0)=false:=h;simpa using h
 rw[if_neg h3]at hk;clear h;obtain⟨q,hq⟩:∃q:Nat,q=e.toNat:=⟨_,rfl⟩;rw[<-hq]at hk;have VE:VI e q:=⟨by omega⟩;have hql:q<t.length:=by have:=hb1.hi (by omega);have:=VE.h;omega
 have hpq:p+q<8192:=by have:=VP.h;have:=VE.h;omega
 clear hq h1 h2 h3;refine⟨by subst hD;exact⟨by show (0:Int)<=P;rw[VP.h];omega,by show P<=IntKind.i64.wrap (P+e);rw[hw1,VE.h];omega,by show IntKind.i64.wrap (P+e)<=n;rw[hw1,VP.h,VE.h,R.n];omega⟩,λf3 n3 hsub=>?_⟩;cbv;have R3:A7 f3 n3 (t.take q):=by
  have:=R.sub (a:=p) (b:=p+q) hsub (by subst hD;exact VP.h) (by subst hD;show IntKind.i64.wrap (P+e)=_;rw[hw1,VP.h,VE.h];omega) (by omega) (by omega);rw[<-ht]at this;have e:p+q-p=q:=by omega
  rwa [e]at this
 clear hsub;refine⟨by subst hD;exact R3.byte,λs hs=>?_⟩;cbv;have hs:s=t.take q:=by subst hD;exact R3.str hs
 rw[<-hs]at hk;have hsl:HpS s:=⟨by rw[hs,List.length_take];omega⟩;clear hs R3;refine⟨s,[13],rfl,rfl,by have:=hsl.len;omega,λl is hl his=>?_⟩;cbv;rw[<-hl,<-his]at hk;have hll:HpS l:=⟨by
  have:=hsl.len;rw[hl,Lib.trimSuffix]
  split
  ·rw[List.length_take];omega
  ·exact this⟩
 clear hl his hsl;refine⟨l,13,rfl,rfl,λcc hcc=>?_⟩;cbv;rw[<-hcc]at hk;clear hcc;refine br hD (λh=>?_) (λh=>?_)<;>cbv
 ·have h:(!is||cc)=true:=h
  rw[if_pos h]at hk;exact Hv hD hk GrH.nil hG rfl rfl
 have h:(!is||cc)=false:=h;rw[if_neg (by rw[h];simp)]at hk;clear h;have hw2:IntKind.i64.wrap (P+IntKind.i64.wrap (e+1))=P+e+1:=by
  have:=VP.h;have:=VE.h;rw[A4 (n:=e+1) (by omega) (by omega),A4 (by omega) (by omega)];omega
 refine br hD (λh=>?_) (λh=>?_)<;>cbv
 ·have h1:l=[]:=by
   have h:(l==[])=true:=h;exact eq_of_beq h
  rw[if_pos h1]at hk;exact Hv hD (by rw[hk];rw[<-hw2];rfl) V.G hG rfl rfl
 have h1:¬l=[]:=by
  have h:(l==[])=false:=h;intro e;rw[e]at h;simp at h
 rw[if_neg h1]at hk;clear h h1;obtain⟨c,hc⟩:∃c,c=Am 58 l:=⟨_,rfl⟩;rw[<-hc]at hk;refine⟨l,58,rfl,rfl,by have:=hll.len;omega,λna va ok hc2=>?_⟩;cbv;rw[<-hc]at hc2;subst hc2;have hnl:HpS na:=⟨by have h:=(L5 58 l).1;rw[<-hc]at h;exact Nat.le_trans h hll.len⟩;have hvl:HpS va:=⟨by have h:=(L5 58 l).2;rw[<-hc]at h;exact Nat.le_trans h hll.len⟩;clear hc hll;refine⟨na,rfl,rfl,by have:=hnl.len;omega,λtk htk=>?_⟩;cbv;rw[<-htk]at hk;clear htk;refine⟨va,rfl,rfl,λpl hpl=>?_⟩;cbv;simp only at hk;rw[<-hpl]at hk;clear hpl;refine br hD (λh=>?_) (λh=>?_)<;>cbv
 ·have h:((!ok||!tk)||!pl)=true:=h
  rw[if_pos h]at hk;exact Hv hD hk GrH.nil hG rfl rfl
 have h:((!ok||!tk)||!pl)=false:=h;rw[if_neg (by rw[h];simp)]at hk;clear h;refine⟨va,[32,9],rfl,rfl,by have:=hvl.len;omega,by decide,by decide,λv hv=>?_⟩;cbv;have hv:v=trimF va:=by rw[hv,Sm]
 rw[<-hv]at hk;clear hv hvl;have hm1:m1=(r.length:Int):=V.G.row.n;have hd2:decide (m1=100)=decide (r.length=100):=by rw[decide_eq_decide,hm1];omega
 refine br hD (λh=>?_) (λh=>?_)<;>cbv
 ·have h:(decide (2000<(v.length:Int))||(m1==100))=true:=h
  have h:(decide (2000<v.length)||decide (r.length=100))=true:=by
   rw[<-hd2];rcases Bool.or_eq_true_iff.1 h with h|h
   ·rw[decide_eq_true (by have:=of_decide_eq_true h;omega)];rfl
   ·rw[decide_eq_true (eq_of_beq h)];simp
  rw[if_pos h]at hk;exact Hv hD hk GrH.nil hG rfl rfl
 have h:¬2000<v.length/\¬r.length=100:=by
  have h:(decide (2000<(v.length:Int))||(m1==100))=false:=h;rw[Bool.or_eq_false_iff]at h;refine⟨λe=>?_,λe=>?_⟩
  ·have:=of_decide_eq_false h.1;omega
  ·have h2:=h.2;rw[hm1,e]at h2;simp at h2
 obtain⟨h4,h5⟩:=h;rw[if_neg (by simp[h4,h5])]at hk;have hvs:HpS v:=⟨by omega⟩;clear h4 hd2 hm1;intro g hg;cbv;have hg0:g 0=Dk ⟨na,v⟩:=hg.h 0 _ rfl;clear hg;have hN:m1=(r.length:Int):=V.G.row.n;have hrl:=V.len;refine⟨by subst hD;exact⟨rfl,by show (m1+1) * 32<=_;omega,by show m1+1<=_;omega⟩,λf' n' hm=>?_⟩;cbv;have G2:∀nl',nl'=false->GrH f' n' nl' (r++[⟨na,v⟩]):=λnl' hb=>V.G.more hg0 ⟨by have:=hnl.len;show na.length<=_;omega,by have:=hvs.len;show v.length<=_;omega⟩ (by subst hD;exact hm) (by omega) hb;clear hm hN;refine⟨m0,Nat.lt_succ_self _,?_⟩;rw[hJ];unfold hpJ;subst hD;exact⟨p+q+1,_,r++[⟨na,v⟩],f',n',(c1&&false),rfl,rfl,⟨by show IntKind.i64.wrap (P+IntKind.i64.wrap (e+1))=_;rw[hw2,VP.h,VE.h];omega,by omega,by omega,by have:=V.lt;omega,hk,G2 _ (Bool.and_false _),by rw[List.length_append];simp only[List.length_cons,List.length_nil];omega⟩⟩
set_option maxHeartbeats 400000
def Alh(t:List UInt8)(z:Int):List UInt8×List UInt8×Int×Int :=
 if Se true (Am 32 t).2.2 (Am 32 t).1 (Am 32 t).2.1 (decide (0<=Lib.indexByte (Am 32 t).2.1 32)) then ([],[],0,6) else ((Am 32 t).1,(Am 32 t).2.1,z,0)
def Ali(w:List UInt8):List UInt8×List UInt8×Int×Int :=
 if Se (Lib.hasSuffix (w++[10]) rVer) (Am 32 (Lib.trimSuffix (w++[10]) rVer)).2.2 (Am 32 (Lib.trimSuffix (w++[10]) rVer)).1 (Am 32 (Lib.trimSuffix (w++[10]) rVer)).2.1 (decide (0<=Lib.indexByte (Am 32 (Lib.trimSuffix (w++[10]) rVer)).2.1 32)) then ([],[],0,6) else
 ((Am 32 (Lib.trimSuffix (w++[10]) rVer)).1,(Am 32 (Lib.trimSuffix (w++[10]) rVer)).2.1,(w.length:Int)+1,0)
theorem Aad(b:List UInt8):C8 b=if !(Am 10 (b.take 1024)).2.2&&decide (b.length<1024) then ([],[],0,10) else if !(Am 10 (b.take 1024)).2.2 then ([],[],0,3) else Ali (Am 10 (b.take 1024)).1:=rfl
def lnK(b:List UInt8)(i:Nat):Prop:=Am 10 (b.take 1024)=((b.take 1024).take i++(Am 10 ((b.take 1024).drop i)).1,(Am 10 ((b.take 1024).drop i)).2)
theorem Ajt{s:List UInt8}(h2:s.drop (s.length-11)=rVer):Lib.hasSuffix s rVer=true:=by
 unfold Lib.hasSuffix;rw[List.isSuffixOf_iff_suffix];exact⟨s.take (s.length-11),by rw[<-h2];exact List.take_append_drop _ s⟩
theorem Ah6{w s:List UInt8}(e:s=w++[10])(h2:s.drop (s.length-11)=rVer):Ali w=Alh (s.take (s.length-11)) (s.length:Int):=by
 unfold Ali Alh;have h3:=Ajt h2;have h4:Lib.trimSuffix s rVer=s.take (s.length-11):=by unfold Lib.trimSuffix;rw[if_pos h3];rfl
 rw[<-e,h3,h4];have:((w.length:Int)+1)=(s.length:Int):=by rw[e];simp
 rw[this]
def spK(t:List UInt8)(k:Nat)(p:Int):Prop :=
 (p=-1/\Am 32 t=(t.take k++(Am 32 (t.drop k)).1,(Am 32 (t.drop k)).2))\/
 (∃q:Nat,p=q/\q<k/\Am 32 t=(t.take q,t.drop (q+1),true)/\∀j,q+1<=j->j<k->t.getD j 0≠32)
theorem Hq{s:List UInt8}{c:UInt8}(h:∀j,j<s.length->s.getD j 0≠c):Lib.indexByte s c=-1:=by
 induction s with
 |nil=>rfl
 |cons b r ih =>
  unfold Lib.indexByte;have h0:=h 0 (by simp);rw[if_neg (by simpa using h0),ih (λj hj=>by have:=h (j+1) (by simpa using hj);simpa using this)];rfl
set_option maxHeartbeats 4000000
theorem Ai7:Ay Tryz.prog gl 229 (Lz Gp):=by
 refine Bq (gh:=[]) mixed B4 Ai Tryz.func229 (by kernel_rfl) (by kernel_rfl) ?_;intro xs ls K h;unfold Lz at h;obtain⟨c,rfl,rfl,h⟩:=h;obtain⟨k,hk⟩:∃k,k=Gp c:=⟨_,rfl⟩;refine⟨_,_,h k hk,λD hD=>?_⟩;clear h;cbv;exact Aw hD hk.symm
theorem Zu:Ay Tryz.prog gl 174 (Pg trimF):=by
 refine Bq (gh:=[]) mixed B4 (Ab Ai7 Ai) Tryz.func174 (by kernel_rfl) (by kernel_rfl) ?_;intro xs ls K h;unfold Pg at h;obtain⟨s0,rfl,rfl,hl,h⟩:=h;obtain⟨k,hk⟩:∃k,k=trimF s0:=⟨_,rfl⟩;refine⟨_,_,h k hk,λD hD=>?_⟩;clear h;cbv;obtain⟨J,hJ⟩:∃J,J=trJ trimF k:=⟨_,rfl⟩;refine⟨[0],J,⟨rfl,s0.length,?_⟩,?_⟩
 ·rw[hJ]
  subst hD;exact⟨s0,rfl,rfl,⟨rfl,hl⟩,hk⟩
 clear hk hl;intro m vs hp' hv;rw[hJ]at hv;unfold trJ at hv;obtain⟨s,rfl,rfl,V,hk⟩:=hv;cbv;refine⟨λhg=>?_,λc hc=>?_⟩
 ·subst hD
  have hg:decide (0<(s.length:Int))=true:=hg;simp only[decide_eq_true_eq]at hg;exact Ff (e:=.l 0) (i:=0) rfl (by omega)
 have hc2:=D7 (e:=.l 0) (i:=0) hD rfl hc;clear hc;cbv;refine⟨_,rfl,rfl,λq hq=>?_⟩;have hq2:q=Gp c:=by subst hD;exact hq
 clear hq;cbv;refine br hD (λh=>?_) (λh=>?_)<;>cbv
 ·have h:(decide (0<(s.length:Int))&&q)=true:=h
  simp only[Bool.and_eq_true,decide_eq_true_eq]at h;have h0:0<s.length:=by have:=h.1;omega
  have hb:blankB (s.getD 0 0)=true:=by rw[blankB,hc2.of,<-hq2];exact h.2
  clear h;refine⟨by subst hD;exact D9 (i:=1) (j:=s.length) (a:=.l 1) (b:=.len s) rfl rfl (by omega) (by omega),λr hr=>?_⟩;have hr2:r=s.drop 1:=by
   rw[Hh (i:=1) (j:=s.length) hD rfl rfl hr];exact List.take_of_length_le (by simp)
  clear hr;cbv;refine⟨s.length-1,by have:=V.m;omega,?_⟩;rw[hJ];subst hD;refine⟨r,rfl,rfl,⟨by rw[hr2];simp,by rw[hr2];have:=V.len;simp;omega⟩,?_⟩;rw[hk,trimF,drop1 h0,Hf hb,hr2];rfl
 have h:(decide (0<(s.length:Int))&&q)=false:=h;have hk3:k=Fj s:=by
  rw[hk,trimF,Sq]
  by_cases h0:0<s.length
  ·right
   rw[<-hc2.charI,<-hq2];have e:decide (0<(s.length:Int))=true:=by simp only[decide_eq_true_eq];omega
   rw[e]at h;simpa using h
  ·left;exact List.eq_nil_of_length_eq_zero (by omega)
 clear hk h hc2 hq2 hJ J;obtain⟨J,hJ⟩:∃J,J=trJ Fj k:=⟨_,rfl⟩;refine⟨[0],J,⟨rfl,s.length,?_⟩,?_⟩
 ·rw[hJ]
  subst hD;exact⟨s,rfl,rfl,⟨rfl,V.len⟩,hk3⟩
 clear hk3 V;intro m vs hp' hv;rw[hJ]at hv;unfold trJ at hv;obtain⟨s,rfl,rfl,V,hk⟩:=hv;have hE:0<s.length->ST.den (.bin .sub .i64 (.len s) (.l 1))=((s.length-1:Nat):Int):=by
  intro h0;have:=V.len;show IntKind.i64.wrap ((s.length:Int)-1)=_;rw[A4 (by omega) (by omega)];omega
 cbv;refine⟨λhg=>?_,λc hc=>?_⟩
 ·subst hD
  have hg:decide (0<(s.length:Int))=true:=hg;simp only[decide_eq_true_eq]at hg;exact Ff (i:=s.length-1) (hE (by omega)) (by omega)
 by_cases h0:0<s.length
 ·have hc2:=D7 (i:=s.length-1) hD (hE h0) hc
  clear hc;cbv;refine⟨_,rfl,rfl,λq hq=>?_⟩;have hq2:q=Gp c:=by subst hD;exact hq
  clear hq;cbv;refine br hD (λh=>?_) (λh=>?_)<;>cbv
  ·have h:(decide (0<(s.length:Int))&&q)=true:=h
   simp only[Bool.and_eq_true,decide_eq_true_eq]at h;have hb:blankB (s.getD (s.length-1) 0)=true:=by rw[blankB,hc2.of,<-hq2];exact h.2
   clear h;have hE2:=hE h0;refine⟨by subst hD;exact D9 (i:=0) (j:=s.length-1) (a:=.l 0) rfl hE2 (by omega) (by omega),λr hr=>?_⟩;have hr2:r=s.take (s.length-1):=by
    rw[Hh (i:=0) (j:=s.length-1) hD rfl hE2 hr];rfl
   clear hr;cbv;refine⟨s.length-1,by have:=V.m;omega,?_⟩;rw[hJ];subst hD;refine⟨r,rfl,rfl,⟨by rw[hr2];simp,by rw[hr2];have:=V.len;simp;omega⟩,?_⟩;rw[hk,Wi h0,So hb,hr2]
  ·have h:(decide (0<(s.length:Int))&&q)=false:=h
   refine Us ?_;rw[hk,Sn]
   right
   rw[<-hc2.charI,<-hq2];have e:decide (0<(s.length:Int))=true:=by simp only[decide_eq_true_eq];omega
   rw[e]at h;simpa using h
 ·have hs:s=[]:=List.eq_nil_of_length_eq_zero (by omega)
  subst hs;clear hc hE;cbv;refine⟨_,rfl,rfl,λq hq=>?_⟩;cbv;refine br hD (λh=>?_) (λh=>?_)<;>cbv
  ·have h:(decide ((0:Int)<0)&&q)=true:=h
   simp at h
  ·refine Us ?_
   rw[hk];rfl
def plJ(s:List UInt8)(k:Bool)(m:Nat)(vs:List (Option SV))(hp:List Hl):Prop :=
 ∃(i:Nat) (I:Int),vs=[some (.str s),some (.int .i64 (.a I))]/\hp=[]/\At s i I m/\k=Br (s.drop i)
theorem Ak5(c:UInt8):((!((c.toNat:Int)==9))&&(decide ((c.toNat:Int)<32)||decide (126<(c.toNat:Int))))=!okB c:=by
 unfold okB;rw[Bool.eq_iff_iff];simp only[Bool.and_eq_true,Bool.not_eq_true',Bool.or_eq_true,decide_eq_true_eq,beq_eq_false_iff_ne,ne_eq,Bool.or_eq_false_iff,decide_eq_false_iff_not,Bool.and_eq_false_iff];omega
theorem Qu:Ay Tryz.prog gl 173 (Ly Br):=by
 refine Bq (gh:=[]) mixed B4 Ai Tryz.func173 (by kernel_rfl) (by kernel_rfl) ?_;intro xs ls K h;unfold Ly at h;obtain⟨s,rfl,rfl,hs,h⟩:=h;obtain⟨k,hk⟩:∃k,k=Br s:=⟨_,rfl⟩;refine⟨_,_,h k hk,λD hD=>?_⟩;cbv;clear h;obtain⟨J,hJ⟩:∃J,J=plJ s k:=⟨_,rfl⟩;refine⟨[0,3],J,⟨rfl,s.length,?_⟩,?_⟩
 ·rw[hJ]
  subst hD;exact⟨0,0,rfl,rfl,At.zero hs,hk⟩
 intro m vs hp hv;rw[hJ]at hv;unfold plJ at hv;obtain⟨i,I,rfl,rfl,V,hk2⟩:=hv;clear hk;cbv;refine br hD (λh=>?_) (λh=>?_)<;>cbv
 ·have hlt:=V.lt (of_decide_eq_true (p:=I<(s.length:Int)) h)
  clear h;rw[Bn hlt]at hk2;have hst:=V.step hD hlt;refine⟨V.inS hD hlt,λb hb=>?_⟩;cbv;have hb2:=Gk hD V.I hb;clear hb;refine⟨λ_=>V.inS hD hlt,λb2 hb3=>?_⟩;cbv;have e2:b2=b:=by rw[(Gk hD V.I hb3).h,hb2.h]
  subst e2;clear hb3;refine⟨λ_ _=>V.inS hD hlt,λb3 hb3=>?_⟩;cbv;have e2:b3=b2:=by rw[(Gk hD V.I hb3).h,hb2.h]
  subst e2;clear hb3;have hok:=Ak5 (s.getD i 0);rw[<-hb2.h]at hok;have hk3:k=(okB (s.getD i 0)&&Br (s.drop (i+1))):=hk2;refine br hD (λh=>?_) (λh=>?_)<;>cbv
  ·have h:((b3 != 9)&&(decide (b3<32)||decide (126<b3)))=true:=h
   have h:(!okB (s.getD i 0))=true:=by rw[<-hok];exact h
   refine Aw hD ?_;rw[hk3];have h:okB (s.getD i 0)=false:=by simpa only[Bool.not_eq_true'] using h
   rw[h];rfl
  ·have h:((b3 != 9)&&(decide (b3<32)||decide (126<b3)))=false:=h
   have h:(!okB (s.getD i 0))=false:=by rw[<-hok];exact h
   have h:okB (s.getD i 0)=true:=by simpa only[Bool.not_eq_false'] using h
   refine⟨_,hst.1,?_⟩;rw[hJ];unfold plJ;subst hD;exact⟨i+1,_,rfl,rfl,hst.2,by rw[hk3,h,Bool.true_and]⟩
 have he:=V.eq (of_decide_eq_false (p:=I<(s.length:Int)) h);refine Aw hD ?_;rw[hk2,List.drop_eq_nil_of_le (by omega)];rfl
set_option maxHeartbeats 8000000
theorem Aeo(l:List HF)(i:Nat)(h:i<l.length)(n:Int):Dw (l.drop i) n=if Wf (l.getD i default) then 6 else if 2000<(l.getD i default).value.length then 3 else Dw (l.drop (i+1)) (n+Kx (l.getD i default)):=by
 have:l.drop i=l.getD i default :: l.drop (i+1):=by rw[List.getD_eq_getElem?_getD,List.getElem?_eq_getElem h,Option.getD_some,List.drop_eq_getElem_cons h]
 rw[this,Dw]
structure HpS2(a b:List UInt8):Prop where
 a:a.length<=64
 b:b.length<=2000
structure RcJ(k:Int)(l:List HF)(i:Nat)(I N:Int)(m:Nat):Prop where
 lie:AtR l i I m
 lo:0<=N
 hi:N<=3000 * (i+1)
 len:l.length<=100
 k:k=Dw (l.drop i) N
def rcJ(k:Int)(l:List HF)(nl:Bool)(n:Int)(f:Nat->List SV)(m:Nat)(vs:List (Option SV))(hp:List Hl):Prop :=
 ∃(i:Nat) (I N:Int),vs=[some (.sl (.a nl) (.a n) 2 f),some (.int .i64 (.a N)),some (.int .i64 (.a I))]/\hp=[]/\RcJ k l i I N m
theorem Qv:Ay Tryz.prog gl 130 spCheck:=by
 refine Bq (gh:=[]) mixed B4 (Ab H8 (Ab Qu (Ab Zu Ai))) Tryz.func130 (by kernel_rfl) (by kernel_rfl) ?_;intro xs ls K h;unfold spCheck at h;obtain⟨l,nl,n,f,rfl,rfl,R,h⟩:=h;obtain⟨k,hk⟩:∃k,k=A6 l:=⟨_,rfl⟩;refine⟨_,_,h k hk,λD hD=>?_⟩;cbv;clear h;refine br hD (λh=>?_) (λh=>?_)<;>cbv
 ·refine Be hD ?_
  have h2:100<n:=of_decide_eq_true (p:=(100:Int)<n) h;rw[hk,A6,if_pos (by have:=R.n;omega)];rfl
 have h2:n<=100:=by
  have:=of_decide_eq_false (p:=(100:Int)<n) h;omega
 clear h;obtain⟨J,hJ⟩:∃J,J=rcJ k l nl n f:=⟨_,rfl⟩;refine⟨[0,3,4],J,⟨rfl,l.length,?_⟩,?_⟩
 ·rw[hJ]
  subst hD;refine⟨0,0,2,rfl,rfl,AtR.zero R.len,by omega,by omega,by have:=R.n;omega,?_⟩;rw[hk,A6,if_neg (by have:=R.n;omega)];rfl
 clear hk;intro m vs hp hj;rw[hJ]at hj;obtain⟨i,I,N,rfl,rfl,V⟩:=hj;cbv;refine br hD (λh=>?_) (λh=>?_)<;>cbv
 ·have hlt:=V.lie.lt R.n (of_decide_eq_true (p:=I<n) h)
  clear h;have inA:=V.lie.inB hD R.n hlt;have hx:=R.f i hlt;have hsm:=R.small i hlt;have hk:=V.k;rw[Aeo l i hlt]at hk;obtain⟨x,hxx⟩:∃x,x=l.getD i default:=⟨_,rfl⟩;rw[<-hxx]at hx hk hsm;clear hxx;have hst:=V.lie.step hD hlt;obtain⟨xn,xv⟩:=x;refine⟨inA,λj hj=>?_⟩;have hj:=V.lie.j hD hj;cbv;rw[hj,hx];cbv;refine⟨xn,rfl,rfl,hsm.1,λa ha=>?_⟩;cbv;rw[<-Nr]at ha;have hal:a=true->xn.length<=64:=λe=>by
   rw[e]at ha;unfold Bg at ha;have ha:=ha.symm;simp only[Bool.and_eq_true,decide_eq_true_eq]at ha;exact ha.2.2
  refine⟨xv,rfl,rfl,hsm.2,λb hb=>?_⟩;cbv;refine⟨xv,rfl,rfl,hsm.2,λc hc=>?_⟩;cbv;have hbad:Wf ⟨xn,xv⟩=(!a||(!b||c != xv)):=by rw[Wf,ha,hb,hc]
  rw[hbad]at hk;simp only at hk;clear ha hb hc hbad;refine br hD (λh=>?_) (λh=>?_)<;>cbv
  ·have h:((!a||!b)||c != xv)=true:=h
   rw[if_pos (by rw[<-Bool.or_assoc];exact h)]at hk;exact Be hD hk.symm
  have h:((!a||!b)||c != xv)=false:=h;rw[if_neg (by rw[<-Bool.or_assoc,h];simp)]at hk;have hat:a=true:=by simp only[Bool.or_eq_false_iff,Bool.not_eq_false']at h;exact h.1.1
  clear h;refine br hD (λh=>?_) (λh=>?_)<;>cbv
  ·have h:2000<xv.length:=by have h:=of_decide_eq_true (p:=(2000:Int)<(xv.length:Int)) h;omega
   rw[if_pos h]at hk;exact Be hD hk.symm
  have h:¬2000<xv.length:=by have h:=of_decide_eq_false (p:=(2000:Int)<(xv.length:Int)) h;omega
  rw[if_neg h]at hk;have hxn:xn.length<=64:=hal hat;have hV:HpS2 xn xv:=⟨hxn,by omega⟩;have hsz:IntKind.i64.wrap (IntKind.i64.wrap (IntKind.i64.wrap (IntKind.i64.wrap (N+(xn.length:Int))+2)+(xv.length:Int))+2)=N+Kx ⟨xn,xv⟩:=by
   have:=V.lo;have:=V.hi;have:=V.lie.le;have:=V.len;have e1:=hV.a;have e2:=hV.b;rw[A4 (n:=N+(xn.length:Int)) (by omega) (by omega),A4 (n:=N+(xn.length:Int)+2) (by omega) (by omega),A4 (n:=N+(xn.length:Int)+2+(xv.length:Int)) (by omega) (by omega),A4 (by omega) (by omega)];unfold Kx;simp only;omega
  have hszb:0<=Kx ⟨xn,xv⟩/\Kx ⟨xn,xv⟩<=3000:=by unfold Kx;simp only;omega
  refine⟨_,hst.1,?_⟩;rw[hJ];unfold rcJ;subst hD;refine⟨i+1,_,_,rfl,rfl,⟨hst.2,?_,?_,V.len,?_⟩⟩
  ·show 0<=IntKind.i64.wrap (IntKind.i64.wrap (IntKind.i64.wrap (IntKind.i64.wrap (N+(xn.length:Int))+2)+(xv.length:Int))+2)
   rw[hsz];have:=V.lo;omega
  ·show IntKind.i64.wrap (IntKind.i64.wrap (IntKind.i64.wrap (IntKind.i64.wrap (N+(xn.length:Int))+2)+(xv.length:Int))+2)<=_
   rw[hsz];have:=V.hi;omega
  ·rw[hk]
   show _=Dw _ (IntKind.i64.wrap (IntKind.i64.wrap (IntKind.i64.wrap (IntKind.i64.wrap (N+(xn.length:Int))+2)+(xv.length:Int))+2));rw[hsz]
 have hi:=V.lie.eq R.n (of_decide_eq_false (p:=I<n) h);have hdn:l.drop i=[]:=List.drop_eq_nil_of_le (by omega);have hk:=V.k;rw[hdn,Dw]at hk;clear h;refine br hD (λh=>?_) (λh=>?_)<;>cbv
 ·have h:8192<N:=of_decide_eq_true (p:=(8192:Int)<N) h
  rw[if_pos h]at hk;exact Be hD hk.symm
 ·have h:¬8192<N:=of_decide_eq_false (p:=(8192:Int)<N) h
  rw[if_neg h]at hk;exact Be hD hk.symm
def inF:List (List UInt8)->List UInt8->Bool
 | [],_=>false
 |x :: l,s=>(x==s)||inF l s
set_option maxHeartbeats 16000000
def Ke(l:List HF):Bool:=l.any λx=>Tp (foldF x.name)
def Cf(r:Rq):List HF×Int :=
 if A6 r.fields≠0 then ([],A6 r.fields) else if Ke r.fields then ([],8) else
 if (A3 r).2≠0 then ([],(A3 r).2) else ((A3 r).1,A6 (A3 r).1)
structure OwJ(l:List HF)(k:Bool)(i:Nat)(I:Int)(m:Nat):Prop where
 lie:AtR l i I m
 k:k=Ke (l.drop i)
def B8(r:Rq):List UInt8×List HF×Int :=
 if r.id<1\/1000000000<r.id then (sId,[],7) else if !Jl r.method then (Afh,[],6) else if r.method=S8 then (Afh,[],9) else
 if (Tq r.target).2≠0 then (sTarget,[],(Tq r.target).2) else if !Alu r.host then (sHostP,[],6) else
 if (Cf r).2≠0 then (sFields,[],(Cf r).2) else if 65536<r.body.length then (sBody,[],3) else if (r.body != []&&Agw r.method)=true then (sBody,[],2) else ([],(Cf r).1,0)
def Agt(r:Rq):List UInt8×Int:=((B8 r).1,(B8 r).2.2)
open Go Go.RowKit Go.Sx
set_option maxHeartbeats 2000000
structure BKept(b:Nat)(v v':Value)(w w':World):Prop where
 os:w'.os=w.os
 tape:w'.tape=w.tape
 output:w'.output=w.output
 size:w.heap.size<=w'.heap.size
 block:∀k,k<w.heap.size->k≠b->some k≠v.ownBlock->w'.heap[k]?=w.heap[k]?
 new:∀k,v'.ownBlock=some k->v.ownBlock=some k\/w.heap.size<=k
structure BldAt(w:World)(b:Nat)(p v:Value)(s:List UInt8):Prop where
 pp:p=.pointer none\/p=.pointer (some ⟨b,0,none⟩)
 at_:w.heap[b]?=some (.cells #[p,v] 180 (0,0))
 own:w.ownsRow 0 5 1 v s.length (Lib.byteCells s)
 ne:v.ownBlock≠some b
structure Agz(v:Value)(w w':World):Prop where
 os:w'.os=w.os
 tape:w'.tape=w.tape
 output:w'.output=w.output
 size:w.heap.size<=w'.heap.size
 block:∀k,k<w.heap.size->some k≠v.ownBlock->w'.heap[k]?=w.heap[k]?
theorem Agz.drew(v:Value)(w:World):Agz v w w.drew:=⟨rfl,rfl,rfl,Nat.le_refl _,λ_ _ _=>rfl⟩
theorem Agz.b{v:Value}{b:Nat}{w w':World}(h:Agz v w w'):BKept b v .nilIface w w' :=
 ⟨h.os,h.tape,h.output,h.size,λk h1 _ h3=>h.block k h1 h3,λk hk=>by simp[Value.ownBlock]at hk⟩
set_option maxHeartbeats 16000000
def Gq(x:HF):List UInt8:=((x.name++[58,32])++x.value)++[13,10]
def Cm(l:List HF):List UInt8:=l.flatMap Gq++[13,10]
def Tm(l:List HF):List UInt8×Int:=if A6 l≠0 then ([],A6 l) else (Cm l,0)
structure PrJ(l:List HF)(k t:List UInt8)(i:Nat)(I:Int)(m:Nat):Prop where
 lie:AtR l i I m
 k:k=t++Cm (l.drop i)
 len:t.length<=3000 * i
set_option maxHeartbeats 4000000
def sVer:List UInt8:=[32,72,84,84,80,47,49,46,49,13,10]
def O0(r:Rq):List UInt8×Int :=
 if (B8 r).2.2≠0 then ([],(B8 r).2.2) else if (Tm (B8 r).2.1).2≠0 then ([],(Tm (B8 r).2.1).2) else
 (((((r.method++[32])++r.target)++sVer)++(Tm (B8 r).2.1).1)++r.body,0)
structure ExOk(r:Rq):Prop where
 method:Jl r.method=true
 org:(Tq r.target).2=0
 chk:(Cf r).2=0
 host:Alu r.host=true
 body:r.body.length<=65536
 fields:(B8 r).2.1=(Cf r).1
 id1:1<=r.id
 id2:r.id<=1000000000
 part:(B8 r).1=[]
theorem Abt{r:Rq}(h:(B8 r).2.2=0):ExOk r:=by
 have h0:=h;unfold B8 at h
 split at h
 ·cases h
 ·rename_i g1
  split at h
  ·cases h
  ·rename_i g2
   split at h
   ·cases h
   ·rename_i g3
    split at h
    ·rename_i g4;exact absurd h g4
    ·rename_i g4
     split at h
     ·cases h
     ·rename_i g5
      split at h
      ·rename_i g6;exact absurd h g6
      ·rename_i g6
       split at h
       ·cases h
       ·rename_i g7
        split at h
        ·cases h
        ·rename_i g8
         refine⟨by simpa using g2,by simpa using g4,by simpa using g6,by simpa using g5,by omega,?_,by omega,by omega,?_⟩
         ·unfold B8
          rw[if_neg g1,if_neg g2,if_neg g3,if_neg g4,if_neg g5,if_neg g6,if_neg g7,if_neg g8]
         ·unfold B8
          rw[if_neg g1,if_neg g2,if_neg g3,if_neg g4,if_neg g5,if_neg g6,if_neg g7,if_neg g8]
instance:DecidableEq HF:=λa b=>decidable_of_iff (a.name=b.name/\a.value=b.value) (by cases a;cases b;simp)
instance:DecidableEq Rq:=λa b=>decidable_of_iff (a.id=b.id/\a.method=b.method/\a.target=b.target/\a.host=b.host/\a.fields=b.fields/\a.body=b.body) (by cases a;cases b;simp)
def spEqH:FSpec:=λ_ xs ls K=>∃(a b:List HF) (na nb:Bool) (A B:Int) (f g:Nat->List SV),xs=[.sl (.a na) (.a A) 2 f,.sl (.a nb) (.a B) 2 g]/\ls=[]/\Bu f A a/\Bu g B b/\∀r:Bool,r=decide (a=b)->K (.bool (.a r)) []
structure EqJ(k:Bool)(a b:List HF)(i:Nat)(I:Int)(m:Nat):Prop where
 at_:AtR a i I m
 k:k=decide (a.drop i=b.drop i)
def eqJ(k:Bool)(a b:List HF)(na nb:Bool)(A B:Int)(f g:Nat->List SV)(m:Nat)(vs:List (Option SV))(hp:List Hl):Prop :=
 ∃(i:Nat) (I:Int),vs=[some (.sl (.a na) (.a A) 2 f),some (.sl (.a nb) (.a B) 2 g),some (.int .i64 (.a I))]/\hp=[]/\EqJ k a b i I m
theorem Aml{l:List HF}{i:Nat}(h:i<l.length):l.drop i=l.getD i default :: l.drop (i+1):=by
 rw[List.getD_eq_getElem?_getD,List.getElem?_eq_getElem h,Option.getD_some,List.drop_eq_getElem_cons h]
theorem Ami:Ay Tryz.prog gl 28 spEqH:=by
 refine Bq (gh:=[]) mixed B4 Ai Tryz.func28 (by kernel_rfl) (by kernel_rfl) ?_;intro xs ls K h;unfold spEqH at h;obtain⟨a,b,na,nb,A,B,f,g,rfl,rfl,RA,RB,h⟩:=h;obtain⟨k,hk⟩:∃k,k=decide (a=b):=⟨_,rfl⟩;refine⟨_,_,h k hk,λD hD=>?_⟩;cbv;clear h;refine br hD (λh=>?_) (λh=>?_)<;>cbv
 ·have h2:A≠B:=by simpa using h
  refine Aw hD ?_;rw[hk];have h3:a≠b:=λe=>h2 (by rw[RA.n,RB.n,e]);show false=_
  symm
  exact decide_eq_false h3
 have h2:A=B:=by simpa using h
 have hlab:a.length=b.length:=by have:=RA.n;have:=RB.n;omega
 clear h;obtain⟨J,hJ⟩:∃J,J=eqJ k a b na nb A B f g:=⟨_,rfl⟩;refine⟨[0,1,5],J,⟨rfl,a.length,?_⟩,?_⟩
 ·rw[hJ]
  subst hD;exact⟨0,0,rfl,rfl,AtR.zero RA.len,hk⟩
 intro m vs hp' hv;rw[hJ]at hv;unfold eqJ at hv;obtain⟨i,I,rfl,rfl,V⟩:=hv;clear hk;cbv;refine br hD (λh=>?_) (λh=>?_)<;>cbv
 ·have hlt:=V.at_.lt RA.n (of_decide_eq_true (p:=I<A) h)
  clear h;have hltb:i<b.length:=by omega
  have inA:=V.at_.inB hD RA.n hlt;have inB':Sx.InB (D.i (.a I)) (D.i (.a B)):=by have:=V.at_.I;have:=RB.n;subst hD;exact⟨by show 0<=I;omega,by show I<B;omega⟩
  have hk2:=V.k;rw[Aml hlt,Aml hltb]at hk2;have e1:=RA.f i hlt;have d1:=RB.f i hltb;obtain⟨x,hx⟩:∃x,x=a.getD i default:=⟨_,rfl⟩;obtain⟨y,hy⟩:∃y,y=b.getD i default:=⟨_,rfl⟩;rw[<-hx]at e1 hk2;rw[<-hy]at d1 hk2;clear hx hy;obtain⟨x1,x2⟩:=x;obtain⟨y1,y2⟩:=y;have hst:=V.at_.step hD hlt;refine⟨inA,λj hj=>?_⟩;have hj:=V.at_.j hD hj;cbv;rw[hj,e1];cbv;refine⟨inB',λj2 hj2=>?_⟩;have hj2:=V.at_.j hD hj2;cbv;rw[hj2,d1];cbv;refine br hD (λh=>?_) (λh=>?_)<;>cbv
  ·have h:(!((x1==y1)&&(x2==y2)))=true:=h
   refine Aw hD ?_;show false=k;rw[hk2]
   symm
   apply decide_eq_false;intro e
   injection e with e1 e2
   injection e1 with e3 e4
   rw[e3,e4]at h;simp at h
  ·have h:(!((x1==y1)&&(x2==y2)))=false:=h
   simp only[Bool.not_eq_false',Bool.and_eq_true,beq_iff_eq]at h;refine⟨_,hst.1,?_⟩;rw[hJ];unfold eqJ;subst hD;refine⟨i+1,_,rfl,rfl,⟨hst.2,?_⟩⟩;rw[hk2,h.1,h.2];simp
 ·have he:=V.at_.eq RA.n (of_decide_eq_false (p:=I<A) h)
  refine Aw hD ?_;show true=k;rw[V.k,List.drop_eq_nil_of_le (by omega),List.drop_eq_nil_of_le (by omega)];rfl
end Go.Proofs.YtdoogdbjiijifaaGreatDoor
