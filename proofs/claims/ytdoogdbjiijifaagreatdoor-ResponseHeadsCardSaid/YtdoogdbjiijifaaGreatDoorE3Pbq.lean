/- Part of the proofs of the statements about responses and messages (layers 9 and 10): a symbolic executor over the code, that it is sound, and contracts of functions; it has no conditions of its own. -/
import Derived.Test.YtdoogdbjiijifaaGreatDoorE3Pbp
import Derived.Test.YtdoogdbjiijifaaGreatDoorE3Pbl
import Derived.Test.YtdoogdbjiijifaaGreatDoorE3Pbn
import Derived.Test.YtdoogdbjiijifaaGreatDoorE3Pbg
namespace Go.Proofs.YtdoogdbjiijifaaGreatDoor
open Go Go.Sx
set_option maxRecDepth 100000
set_option maxHeartbeats 8000000
structure FrL9(l:List (List UInt8))(N:Int)(i:Nat)(I:Int)(m:Nat):Prop where
 lie:AtR l i I m
 eN:N=Bt (l.getD 0 [])
 ok:(l.take i).all (λs=>decide (0<=Bt s)&&(Bt s==Bt (l.getD 0 [])))=true
def frJ9(cs:List SV)(l:List (List UInt8))(N:Int)(b:Bool)(n:Int)(f:Nat->List SV)(m:Nat)(vs:List (Option SV))(hp:List Hl):Prop :=
 ∃(i:Nat) (I:Int),vs=[some (.sl (.a b) (.a n) 1 f),some (.int .i64 (.a N)),some (.int .i64 (.a I))]/\hp=[.blk 25 cs]/\FrL9 l N i I m
theorem rfr_bad{l:List (List UInt8)}{i:Nat}(hi:i<l.length)(h:(decide (0<=Bt (l.getD i []))&&(Bt (l.getD i [])==Bt (l.getD 0 [])))=false):Ahn l=(0,0,6):=by
 unfold Ahn;rw[if_neg];intro ha;have:=List.all_eq_true.1 ha (l.getD i []) (by rw[List.getD_eq_getElem?_getD,List.getElem?_eq_getElem hi];exact List.getElem_mem hi);rw[h]at this;cases this
theorem rfr_ok{l:List (List UInt8)}(h:l.all (λs=>decide (0<=Bt s)&&(Bt s==Bt (l.getD 0 [])))=true):Ahn l=if 65536<Bt (l.getD 0 []) then (0,0,3) else (1,Bt (l.getD 0 []),0):=by
 unfold Ahn;rw[if_pos h]
theorem Xq{F:List HF}{t:List UInt8}{l:List (List UInt8)}(hl:l=(Cp (Cc F t)).getD []):l.length<=300000/\∀j,(l.getD j []).length<=2000:=by
 have hs:=Ku F t;cases hk:Cp (Cc F t) with
 |none =>
  rw[hk]at hl;subst hl;exact⟨by simp,λj=>by simp⟩
 |some L =>
  rw[hk]at hl;obtain rfl:l=L:=hl;obtain⟨h1,h2⟩:=Na _ _ hk;refine⟨by have:=hs.1;omega,λj=>?_⟩
  by_cases hj:j<l.length
  ·refine h2 _ ?_
   rw[List.getD_eq_getElem?_getD,List.getElem?_eq_getElem hj];exact List.getElem_mem hj
  ·rw[List.getD_eq_getElem?_getD,List.getElem?_eq_none (by omega)];simp
structure X0(g:Nat->List SV)(l:List (List UInt8)):Prop where
 h:∀j,g j=[.str (l.getD j [])]
 ln:∀j,(l.getD j []).length<=2000
theorem X0.of{l:List (List UInt8)}(h:∀j,(l.getD j []).length<=2000):X0 (Cj l) l:=⟨λ_=>rfl,h⟩
theorem frTE{F:List HF}{mi n':Int}{l:List (List UInt8)}{is x2 lb:Bool}{x r:List UInt8}{j:Nat}{g:Nat->List SV}
  (hT:Bj (Cc F nTEnc)=some [sChunked]↔is=true/\l.length=1/\foldF (l.getD 0 [])=sChunked) (G:GrS g n' lb l) (hx2:x2=!(Cc F nLen).isEmpty)
  (hj:(!((((x2||mi==0)||!is)||n' != 1)))=true->j=0) (hx:x=l.getD j []) (hr:r=foldF x):
  (((((x2||mi==0)||!is)||n' != 1))||r != sChunked)=true↔(Cc F nLen≠[]\/mi=0\/Bj (Cc F nTEnc)≠some [sChunked]):=by
 have hn:=G.row.n;rw[Ne,Ne,hT]
 by_cases a:Cc F nLen=[]
 ·rw[a]at hx2
  have hx2:x2=false:=hx2;subst hx2
  by_cases b:mi=0
  ·simp[b]
  have b':(mi==0)=false:=by simpa using b
  cases is with
  |false=>simp
  |true =>
   by_cases c:n'=1
   ·have hj:=hj (by rw[b',c];rfl)
    subst hj;have hl:l.length=1:=by omega
    rw[b',c,hr,hx];simp[a,b,hl]
   ·have hl:¬l.length=1:=by omega
    have c':(n' != 1)=true:=by simpa using c
    rw[c'];simp[hl]
 ·have:x2=true:=by
   rw[hx2];cases h:Cc F nLen with
   |nil=>exact (a h).elim
   |cons y ys=>rfl
  subst this;simp[a]
theorem Abn:Ay Tryz.prog gl 20 spFraming:=by
 refine Bq (gh:=[]) mixed C6 (Ab H8 (Ab Ain (Ab Ajq (Ab els_ok (Ab Ti (Ab Ts Ai)))))) Tryz.func20 (by kernel_rfl) (by kernel_rfl) ?_;intro xs ls K h;unfold spFraming at h;obtain⟨m,hd,mi,st,re,nl,n,f,rfl,rfl,V,hm,h⟩:=h;obtain⟨k,hk⟩:∃k,k=Ar m hd:=⟨_,rfl⟩;obtain⟨ra,rb,rc⟩:=k;have h:=h ra rb rc hk;refine⟨_,_,h,λD hD=>?_⟩;clear h;unfold I8;cbv;refine⟨m,rfl,rfl,hm,λtk htk=>?_⟩;have htk2:tk=Bg m:=by subst hD;rw[Nr];exact htk
 clear htk;cbv;unfold Ar at hk;rw[<-htk2]at hk;refine br hD (λhb=>?_) (λhb=>?_)<;>cbv
 ·have hb:(!tk)=true:=by subst hD;exact hb
  rw[if_pos hb]at hk;simp only[Prod.mk.injEq]at hk;obtain⟨rfl,rfl,rfl⟩:=hk;subst hD;exact Li rfl rfl rfl
 have hb:(!tk)=false:=by subst hD;exact hb
 rw[if_neg (by rw[hb];decide)]at hk;clear hb;refine⟨hd,D.i (.a mi),D.i (.a st),re,D.b (.a nl),D.i (.a n),f,rfl,rfl,by subst hD;exact V,λe he=>?_⟩;cbv;rw[<-he]at hk;refine br hD (λhb=>?_) (λhb=>?_)<;>cbv
 ·have hb:(e != 0)=true:=by subst hD;exact hb
  rw[if_pos (by simpa using hb)]at hk;simp only[Prod.mk.injEq]at hk;obtain⟨rfl,rfl,rfl⟩:=hk;subst hD;exact Li rfl rfl rfl
 have hb:(e != 0)=false:=by subst hD;exact hb
 have e0:e=0:=by simpa using hb
 rw[if_neg (by simpa using e0)]at hk;have hc0:A6 hd.fields=0:=by
  rw[e0]at he;unfold Gj at he
  split at he
  ·cases he
  ·exact he.symm
 clear hb he;have hst:st=hd.status:=V.est;have hmi:mi=hd.minor:=V.emi;rw[<-hst,<-hmi]at hk;clear hst hmi;have hT:Cc hd.fields nTEnc=B5 hd.fields nTEnc:=No hc0 (by decide +kernel) (by decide +kernel);have hL:Cc hd.fields nLen=B5 hd.fields nLen:=No hc0 (by decide +kernel) (by decide +kernel);rw[<-hT,<-hL]at hk;clear hT hL;refine br hD (λhb=>?_) (λhb=>?_)<;>cbv
 ·have hb:Pq m st=true:=by subst hD;exact hb
  rw[if_pos hb]at hk;simp only[Prod.mk.injEq]at hk;obtain⟨rfl,rfl,rfl⟩:=hk;subst hD;exact Li rfl rfl rfl
 have hb:Pq m st=false:=by subst hD;exact hb
 rw[if_neg (by rw[hb];decide)]at hk;clear hb;refine⟨hd.fields,_,_,f,nTEnc,rfl,rfl,by subst hD;exact V.row,by decide,λx1 hx1=>?_⟩;cbv;refine br hD (λhb=>?_) (λhb=>?_)<;>cbv
 ·have hb:x1=true:=by subst hD;exact hb
  rw[hb]at hx1;rw[if_pos (by intro h0;rw[h0]at hx1;cases hx1)]at hk;clear hb hx1;refine⟨hd.fields,_,_,f,nTEnc,rfl,rfl,by subst hD;exact V.row,by decide,λl is n' lb hl his hn hlb=>?_⟩;have hT:=frT hl his;obtain⟨hll,hxl⟩:=Xq hl;obtain⟨g,hg⟩:∃g,g=Cj l:=⟨_,rfl⟩;have G:GrS g n' lb l:=⟨by rw[hg,hn];exact Bl.row (by omega),hlb⟩;have S:X0 g l:=hg ▸ X0.of hxl;rw[<-hg];clear hg hl his hn hlb hxl hll;cbv;refine⟨hd.fields,_,_,f,nLen,rfl,rfl,by subst hD;exact V.row,by decide,λx2 hx2=>?_⟩;cbv;refine⟨λhb=>?_,λj hj=>?_⟩
  ·have hb:((((x2||mi==0)||!is)||n' != 1))=false:=by
    have hb:(!((((x2||mi==0)||!is)||n' != 1)))=true:=by subst hD;exact hb
    simpa using hb
   simp only[Bool.or_eq_false_iff]at hb;have hn:n'=1:=by simpa using hb.2
   subst hD;exact⟨Int.le_refl 0,by show (0:Int)<n';omega⟩
  have hj:(!((((x2||mi==0)||!is)||n' != 1)))=true->j=0:=by
   intro h;have:=isJ hD (by subst hD;exact hj h);omega
  cbv;obtain⟨x,hx⟩:∃x,x=l.getD j []:=⟨_,rfl⟩;have hxl:=S.ln j;rw[S.h j,<-hx];rw[<-hx]at hxl;cbv;refine⟨x,rfl,rfl,by omega,λr hr=>?_⟩;cbv;refine br hD (λhb=>?_) (λhb=>?_)<;>cbv
  ·have hb:(((((x2||mi==0)||!is)||n' != 1))||r != sChunked)=true:=by subst hD;exact hb
   rw[if_pos]at hk
   ·simp only[Prod.mk.injEq]at hk
    obtain⟨rfl,rfl,rfl⟩:=hk;subst hD;exact Li rfl rfl rfl
   ·exact (frTE hT G hx2 hj hx hr).1 hb
  ·have hb:(((((x2||mi==0)||!is)||n' != 1))||r != sChunked)=false:=by subst hD;exact hb
   rw[if_neg]at hk
   ·simp only[Prod.mk.injEq]at hk
    obtain⟨rfl,rfl,rfl⟩:=hk;subst hD;exact Li rfl rfl rfl
   ·intro h
    rw[(frTE hT G hx2 hj hx hr).2 h]at hb;cases hb
 have hb:x1=false:=by subst hD;exact hb
 have hne:¬(Cc hd.fields nTEnc≠[]):=by
  intro h;rw[hb]at hx1;cases hv:Cc hd.fields nTEnc with
  |nil=>exact h hv
  |cons y ys=>rw[hv]at hx1;cases hx1
 rw[if_neg hne]at hk;clear hne;clear hb hx1;refine⟨hd.fields,_,_,f,nLen,rfl,rfl,by subst hD;exact V.row,by decide,λx2 hx2=>?_⟩;cbv;refine br hD (λhb=>?_) (λhb=>?_)<;>cbv
 rotate_left
 ·have hb:x2=false:=by subst hD;exact hb
  rw[if_neg]at hk
  ·simp only[Prod.mk.injEq]at hk
   obtain⟨rfl,rfl,rfl⟩:=hk;subst hD;exact Li rfl rfl rfl
  ·intro h
   rw[hb]at hx2;cases hv:Cc hd.fields nLen with
   |nil=>exact h hv
   |cons y ys=>rw[hv]at hx2;cases hx2
 have hb:x2=true:=by subst hD;exact hb
 rw[hb]at hx2;rw[if_pos (by intro h0;rw[h0]at hx2;cases hx2)]at hk;clear hb hx2;refine⟨hd.fields,_,_,f,nLen,rfl,rfl,by subst hD;exact V.row,by decide,λl is n' lb hl his hn hlb=>?_⟩;obtain⟨hll,hxl⟩:=Xq hl;obtain⟨g,hg⟩:∃g,g=Cj l:=⟨_,rfl⟩;have G:GrS g n' lb l:=⟨by rw[hg,hn];exact Bl.row (by omega),hlb⟩;have S:X0 g l:=hg ▸ X0.of hxl;rw[<-hg];clear hg hn hlb hxl hll;cbv;refine br hD (λhb=>?_) (λhb=>?_)<;>cbv
 ·have hb:(!is||n'==0)=true:=by subst hD;exact hb
  have h0:Cp (Cc hd.fields nLen)=none\/Cp (Cc hd.fields nLen)=some []:=by
   have hn:=G.row.n;cases h:Cp (Cc hd.fields nLen) with
   |none=>exact Or.inl rfl
   |some L =>
    rw[h]at hl his;have his:is=true:=his;have hl:l=L:=hl;rw[his]at hb;have hb:(n'==0)=true:=hb;have hb:n'=0:=by simpa using hb
    refine Or.inr ?_;rw[<-hl];cases l with
    |nil=>rfl
    |cons y ys=>simp only[List.length_cons]at hn;omega
  have hk:=hk.trans (frN0 h0);simp only[Prod.mk.injEq]at hk;obtain⟨rfl,rfl,rfl⟩:=hk;subst hD;exact Li rfl rfl rfl
 have hb:(!is||n'==0)=false:=by subst hD;exact hb
 have hpos:0<l.length:=by
  have hn:=G.row.n;simp only[Bool.or_eq_false_iff]at hb;have:¬n'=0:=by simpa using hb.2
  omega
 have hk:=hk.trans (frN (l:=l) (by
  cases h:Cp (Cc hd.fields nLen) with
  |none=>rw[h]at his;rw[show is=false from his]at hb;cases hb
  |some L=>rw[h]at hl;rw[show l=L from hl]) (by intro h;rw[h]at hpos;cases hpos))
 clear hl his hb;refine⟨by subst hD;exact⟨Int.le_refl 0,by have:=G.row.n;show (0:Int)<n';omega⟩,λj hj=>?_⟩;obtain rfl:j=0:=by have:=isJ (I:=0) hD (by subst hD;exact hj);omega
 clear hj;cbv;obtain⟨x0,hx0⟩:∃x,x=l.getD 0 []:=⟨_,rfl⟩;have hxl:=S.ln 0;rw[S.h 0,<-hx0];rw[<-hx0]at hxl;cbv;refine⟨x0,rfl,rfl,by omega,λN hN=>?_⟩;cbv;have hN:N=Bt (l.getD 0 []):=by rw[hN,hx0]
 clear hxl;obtain⟨J,hJ⟩:∃J,J=frJ9 [.int .i64 (.a mi),.int .i64 (.a st),.str re,.sl (.a nl) (.a n) 2 f] l N lb n' g:=⟨_,rfl⟩;refine⟨[10,12,13],J,⟨rfl,l.length,?_⟩,?_⟩
 ·rw[hJ]
  subst hD;exact⟨0,0,rfl,rfl,⟨AtR.zero (by have:=G.row.len;omega),hN,rfl⟩⟩
 intro m2 vs hp hv;rw[hJ]at hv;obtain⟨i,I,rfl,rfl,W⟩:=hv;cbv;refine br hD (λh=>?_) (λh=>?_)<;>cbv
 ·have hlt:=W.lie.lt G.row.n (of_decide_eq_true (p:=I<n') h)
  clear h;refine⟨W.lie.inB hD G.row.n hlt,λj hj=>?_⟩;obtain rfl:=W.lie.j hD hj;clear hj;obtain⟨x,hx⟩:∃x,x=l.getD j []:=⟨_,rfl⟩;have hxl:=S.ln j;cbv;rw[S.h j,<-hx];rw[<-hx]at hxl;cbv;refine⟨x,rfl,rfl,by omega,λv hv=>?_⟩;cbv;refine⟨λ_=>W.lie.inB hD G.row.n hlt,λj2 hj2=>?_⟩;have hj2:(decide (v<0))=false->j2=j:=λh0=>W.lie.j hD (hj2 (by subst hD;show (!decide (v<0))=true;rw[h0];rfl));obtain⟨x3,hx3⟩:∃x,x=l.getD j2 []:=⟨_,rfl⟩;have hxl3:=S.ln j2;cbv;rw[S.h j2,<-hx3];rw[<-hx3]at hxl3;cbv;refine⟨x3,rfl,rfl,by omega,λv3 hv3=>?_⟩;cbv;have hjd:=W.ok;refine br hD (λh=>?_) (λh=>?_)<;>cbv
  ·have h:(decide (v<0)||v3 != N)=true:=by subst hD;exact h
   have hk:=hk.trans (rfr_bad hlt (by
    rw[<-hx,<-hv,<-hN]
    by_cases h0:v<0
    ·rw[show decide (0<=v)=false from decide_eq_false (by omega)];rfl
    ·have h1:=hj2 (decide_eq_false h0)
     subst h1;have e3:v3=v:=by rw[hv3,hv,hx3,hx]
     rw[decide_eq_false h0,e3]at h;have h:(v != N)=true:=h;have h:¬v=N:=by simpa using h
     simp[h]))
   simp only[Prod.mk.injEq]at hk;obtain⟨rfl,rfl,rfl⟩:=hk;subst hD;exact Li rfl rfl rfl
  have h:(decide (v<0)||v3 != N)=false:=by subst hD;exact h
  simp only[Bool.or_eq_false_iff]at h;have h1:=hj2 h.1;subst h1;have e3:v3=v:=by rw[hv3,hv,hx3,hx]
  have hvN:v=N:=by have:=h.2;rw[e3]at this;simpa using this
  have hv0:0<=v:=by have:=of_decide_eq_false h.1;omega
  refine⟨l.length-(j2+1),(W.lie.step hD hlt).1,?_⟩;rw[hJ];subst hD;refine⟨j2+1,_,rfl,rfl,⟨(W.lie.step rfl hlt).2,hN,?_⟩⟩;rw[List.take_add_one,List.all_append,W.ok,List.getElem?_eq_getElem hlt];have ex:l[j2]=x:=by rw[hx,List.getD_eq_getElem?_getD,List.getElem?_eq_getElem hlt];rfl
  rw[ex];show (true&&((decide (0<=Bt x)&&(Bt x==Bt (l.getD 0 [])))&&true))=true;rw[<-hv,<-hN,hvN];simp;omega
 ·have hi:=W.lie.eq G.row.n (of_decide_eq_false (p:=I<n') h)
  clear h;have hok:=W.ok;rw[hi,List.take_length]at hok;have hk:=hk.trans (rfr_ok hok);rw[<-hN]at hk;refine br hD (λh=>?_) (λh=>?_)<;>cbv
  ·have h:65536<N:=of_decide_eq_true (by subst hD;exact h)
   rw[if_pos h]at hk;simp only[Prod.mk.injEq]at hk;obtain⟨rfl,rfl,rfl⟩:=hk;subst hD;exact Li rfl rfl rfl
  ·have h:¬65536<N:=of_decide_eq_false (by subst hD;exact h)
   rw[if_neg h]at hk;simp only[Prod.mk.injEq]at hk;obtain⟨rfl,rfl,rfl⟩:=hk;subst hD;exact Li rfl rfl rfl
def ov9(x:HF):Bool:=decide (2100<(x.name.length:Int))||decide (2100<(x.value.length:Int))
def Abs(n:Int):List HF->Nat->Bool
 | [],_=>decide (110<n)
 |_ :: _,0=>decide (110<n)
 |x :: l,m+1=>if ov9 x then true else Abs n l m
def spFar9:FSpec:=λ_ xs ls K=>∃(l:List HF) (nl:Bool) (n:Int) (f:Nat->List SV),xs=[.sl (.a nl) (.a n) 2 f]/\ls=[]/\Bu f n l/\(∀j,f j=Dk (l.getD j default))/\∀r,K (.bool (.a r)) []
structure FaL9(l:List HF)(n:Int)(k:Bool)(i:Nat)(I:Int)(m:Nat):Prop where
 lie:AtR l i I m
 le:i<=200
 k:k=Abs n (l.drop i) (200-i)
def faJ9(l:List HF)(k nl:Bool)(n:Int)(f:Nat->List SV)(m:Nat)(vs:List (Option SV))(hp:List Hl):Prop :=
 ∃(i:Nat) (I:Int),vs=[some (.sl (.a nl) (.a n) 2 f),some (.int .i64 (.a I))]/\hp=[]/\FaL9 l n k i I m
theorem far9_ok:Ay Tryz.prog gl 15 spFar9:=by
 refine Bq (gh:=[]) mixed B4 Ai Tryz.func15 (by kernel_rfl) (by kernel_rfl) ?_;intro xs ls K h;unfold spFar9 at h;obtain⟨l,nl,n,f,rfl,rfl,R,hT,h⟩:=h;obtain⟨k,hk⟩:∃k,k=Abs n l 200:=⟨_,rfl⟩;refine⟨_,_,h k,λD hD=>?_⟩;clear h;cbv;obtain⟨J,hJ⟩:∃J,J=faJ9 l k nl n f:=⟨_,rfl⟩;refine⟨[0,3],J,⟨rfl,l.length,?_⟩,?_⟩
 ·rw[hJ]
  subst hD;exact⟨0,0,rfl,rfl,⟨AtR.zero R.len,by omega,hk⟩⟩
 clear hk;intro m vs hp hv;rw[hJ]at hv;obtain⟨i,I,rfl,rfl,V⟩:=hv;cbv;have VI1:VI I i:=⟨V.lie.I⟩;refine br hD (λh=>?_) (λh=>?_)<;>cbv
 ·have h:(decide (I<n)&&decide (I<200))=true:=by subst hD;exact h
  rw[Bool.and_eq_true,decide_eq_true_eq,decide_eq_true_eq]at h;have hlt:=V.lie.lt R.n h.1;have hi2:i<200:=by have:=VI1.h;have:=h.2;omega
  clear h;refine⟨V.lie.inB hD R.n hlt,λj hj=>?_⟩;obtain rfl:=V.lie.j hD hj;clear hj;obtain⟨x,hx⟩:∃x,x=l.getD j default:=⟨_,rfl⟩;have hk:=V.k;rw[Kn (d:=default) hlt,<-hx,show 200-j=(200-(j+1))+1 from by omega,Abs]at hk;have e:=hT j;rw[<-hx]at e;cbv;rw[e];cbv;refine⟨λ_=>V.lie.inB hD R.n hlt,λj2 hj2=>?_⟩;have hj2:(decide (2100<(x.name.length:Int)))=false->j2=j:=λh0=>V.lie.j hD (hj2 (by subst hD;show (!decide (2100<(x.name.length:Int)))=true;rw[h0];rfl));obtain⟨y,hy⟩:∃y,y=l.getD j2 default:=⟨_,rfl⟩;have e2:=hT j2;rw[<-hy]at e2;cbv;rw[e2];cbv;have hcond:(decide (2100<(x.name.length:Int))||decide (2100<(y.value.length:Int)))=ov9 x:=by
   unfold ov9;cases h0:decide (2100<(x.name.length:Int)) with
   |true=>rfl
   |false=>rw[hy,hj2 h0,<-hx]
  refine br hD (λh=>?_) (λh=>?_)<;>cbv
  ·have h:(decide (2100<(x.name.length:Int))||decide (2100<(y.value.length:Int)))=true:=by subst hD;exact h
   rw[hcond]at h;rw[if_pos h]at hk;exact Aw hD hk.symm
  have h:(decide (2100<(x.name.length:Int))||decide (2100<(y.value.length:Int)))=false:=by subst hD;exact h
  rw[hcond]at h;rw[h]at hk;have hk:k=Abs n (l.drop (j+1)) (200-(j+1)):=hk;refine⟨l.length-(j+1),(V.lie.step hD hlt).1,?_⟩;rw[hJ];subst hD;exact⟨j+1,_,rfl,rfl,⟨(V.lie.step rfl hlt).2,by omega,hk⟩⟩
 ·have h:(decide (I<n)&&decide (I<200))=false:=by subst hD;exact h
  have hk:=V.k;refine Aw hD ?_;show decide (110<n)=k;have hn:=R.n;have hI:=VI1.h;have hle:=V.lie.le;have:=V.le;rw[Bool.and_eq_false_iff,decide_eq_false_iff_not,decide_eq_false_iff_not]at h;rcases h with h|h
  ·have hi:i=l.length:=by omega
   rw[hi,List.drop_length,Abs]at hk;exact hk.symm
  ·have hi:i=200:=by omega
   rw[hi]at hk;cases hd:l.drop 200 with
   |nil=>rw[hd,Abs]at hk;exact hk.symm
   |cons y ys=>rw[hd,Abs]at hk;exact hk.symm
end Go.Proofs.YtdoogdbjiijifaaGreatDoor
