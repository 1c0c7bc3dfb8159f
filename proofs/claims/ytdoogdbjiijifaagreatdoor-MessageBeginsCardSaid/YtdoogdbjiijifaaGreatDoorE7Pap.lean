/- A part of the proof: contracts of functions, or the executor and its soundness. No conditions. -/
import Derived.Below
import Derived.Laws.StructEq
import Derived.Lib.UnsafeStr
import Derived.AtR
import Derived.Test.YtdoogdbjiijifaaGreatDoorE7Pao
namespace Go.Cv
open Go Go.RowKit
section
variable {α:Type}
theorem lq{β:Type}(m:Nat)(x y:β):@Bool.rec (λ_=>β) y x (Nat.beq (m % 2) 0)=if m % 2=0 then x else y:=by
 by_cases h:m % 2=0
 .rw[QE h,h];rfl
 .rw[QD h]
  have:Nat.beq (m % 2) 0=false:=by
   cases hb:Nat.beq (m % 2) 0 with
   |false=>rfl
   |true=>exact absurd (Nat.eq_of_beq_eq_true hb) h
  rw[this]
theorem Nj(f m:Nat):Ga (f+1) (m+1)=if m % 2=0 then .l (Ga f (m / 2)) else .r (Ga f (m / 2)):=lq m _ _
theorem Amw:∀(f k k':Nat),k+1<2 ^ f->k'+1<2 ^ f->Ga f k=Ga f k'->k=k':=by
 intro f
 induction f with
 |zero=>intro k k' h;simp at h
 |succ f ih =>
  intro k k' h h' e;have h2:2 ^ (f+1)=2 * 2 ^ f:=by rw[YZ];omega
  cases k with
  |zero =>
   cases k' with
   |zero=>rfl
   |succ m =>
    rw[Nj]at e;have e:Pa.h=_:=e
    split at e<;>cases e
  |succ m =>
   cases k' with
   |zero =>
    rw[Nj]at e;have e:_=Pa.h:=e
    split at e<;>cases e
   |succ m' =>
    rw[Nj,Nj]at e
    split at e<;>split at e
    .have:=ih (m / 2) (m' / 2) (by omega) (by omega) (Pa.l.inj e);omega
    .exact absurd e (by simp)
    .exact absurd e (by simp)
    .have:=ih (m / 2) (m' / 2) (by omega) (by omega) (Pa.r.inj e);omega
theorem Tr.JQ(k:Nat):(Tr.e:Tr α).get k=none:=rfl
theorem Tr.vL(a:α):∀(p:Pa) (t:Tr α),(Tr.bc a p t).oA p=some a:=by
 intro p
 induction p with
 |h=>intro t;cases t<;>rfl
 |l p ih=>intro t;cases t with
  |e=>exact ih .e
  |n v l r=>exact ih l
 |r p ih=>intro t;cases t with
  |e=>exact ih .e
  |n v l r=>exact ih r
theorem Tr.ig(a:α):∀(p p':Pa) (t:Tr α),p'≠p->(Tr.bc a p t).oA p'=t.oA p':=by
 intro p
 induction p with
 |h=>intro p' t h;cases p'<;>cases t<;>first|rfl|exact absurd rfl h
 |l p ih=>intro p' t h;cases p' with
  |h=>cases t<;>rfl
  |r q=>cases t<;>rfl
  |l q =>
   have hq:q≠p:=λe=>h (by rw[e]);cases t with
   |e=>exact ih q .e hq
   |n v l r=>exact ih q l hq
 |r p ih=>intro p' t h;cases p' with
  |h=>cases t<;>rfl
  |l q=>cases t<;>rfl
  |r q =>
   have hq:q≠p:=λe=>h (by rw[e]);cases t with
   |e=>exact ih q .e hq
   |n v l r=>exact ih q r hq
theorem Ah9{k k':Nat}(h:k<aH)(e:path k'=path k):k'=k:=by
 unfold path aH at *;have h40:(2:Nat) ^ 40=1099511627776:=rfl
 by_cases hk:k'+1<2 ^ 40
 .exact Amw 40 k' k hk (by omega) e
 .exfalso
  have key:∀(f j k:Nat),k+1<2 ^ f->2 ^ f<=j+1->Ga f j≠Ga f k:=by
   intro f
   induction f with
   |zero=>intro j k h;simp at h
   |succ f ih =>
    intro j k h h' e;have h2:2 ^ (f+1)=2 * 2 ^ f:=by rw[YZ];omega
    have hp:0<2 ^ f:=YY (by simp);cases j with
    |zero=>omega
    |succ j =>
     cases k with
     |zero =>
      rw[Nj]at e;have e:_=Pa.h:=e
      split at e<;>cases e
     |succ k =>
      rw[Nj,Nj]at e
      by_cases hf:k / 2+1<2 ^ f/\2 ^ f<=j / 2+1
      .split at e<;>split at e
       .exact ih (j / 2) (k / 2) hf.1 hf.2 (Pa.l.inj e)
       .exact absurd e (by simp)
       .exact absurd e (by simp)
       .exact ih (j / 2) (k / 2) hf.1 hf.2 (Pa.r.inj e)
      .omega
  exact key 40 k' k (by omega) (by omega) e
theorem Tr.cH(t:Tr α)(a:α){k:Nat}(h:k<aH)(k':Nat):(t.set k a).get k'=if k'=k then some a else t.get k':=by
 unfold Tr.set Tr.get
 by_cases e:k'=k
 .rw[e,QE rfl,Tr.vL]
 .rw[QD e,Tr.ig _ _ _ _ (λh'=>e (Ah9 h h'))]
theorem Tr.wU{R:Type}(a:α):∀(p:Pa) (t:Tr α) (K:Tr α->R),Tr.nr a p t K=K (Tr.bc a p t):=by
 intro p
 induction p with
 |h=>intro t K;cases t<;>rfl
 |l p ih =>
  intro t K;cases t with
  |e=>exact ih .e _
  |n v l r=>exact ih l _
 |r p ih =>
  intro t K;cases t with
  |e=>exact ih .e _
  |n v l r=>exact ih r _
theorem Tr.bS{R:Type}(t:Tr α)(k:Nat)(a:α)(K:Tr α->R):t.dL k a K=K (t.set k a):=Tr.wU a (path k) t K
end
theorem Ej{R:Type}(n:Nat)(K:Nat->R):Gg n K=K n:=by cases n<;>rfl
theorem iv{R:Type}(n:Int)(K:Int->R):JZ n K=K n:=by
 cases n with
 |ofNat m=>exact Ej m λm=>K (.ofNat m)
 |negSucc m=>exact Ej m λm=>K (.negSucc m)
theorem Vw{R:Type}(v:CV)(K:CV->R):rS v K=K v:=by
 cases v<;>first|rfl|skip
 .rename_i t;cases t<;>rfl
 .rename_i k n;exact iv n λn=>K (.i k n)
 .simp only[rS,Ej]
 .simp only[rS,Ej]
 .simp only[rS,Ej]
theorem Ah{α:Type}:∀(l:List α) (n:Nat),nth l n=l[n]?:=by
 intro l
 induction l with
 |nil=>intro n;rfl
 |cons x l ih=>intro n;cases n with
  |zero=>rfl
  |succ n=>rw[ZJ];exact ih n
theorem B7{α:Type}(l:List α):len l=l.length:=by
 induction l with
 |nil=>rfl
 |cons x l ih=>show Nat.succ (len l)=_;rw[ih];rfl
theorem Ls{α:Type}(l t:List α):app l t=l++t:=by
 induction l with
 |nil=>rfl
 |cons x l ih=>show x :: app l t=_;rw[ih];rfl
theorem A5{α:Type}(n:Nat):∀l:List α,By n l=l.drop n:=by
 induction n with
 |zero=>intro l;rfl
 |succ n ih=>intro l;cases l with
  |nil=>rfl
  |cons x l=>exact ih l
theorem Ax{α:Type}(n:Nat):∀l:List α,takeN n l=l.take n:=by
 induction n with
 |zero=>intro l;rfl
 |succ n ih=>intro l;cases l with
  |nil=>rfl
  |cons x l=>show x :: takeN n l=_;rw[ih];rfl
theorem b9(l vs:List CV)(n:Nat):B9 l vs n=l.take n++(vs++l.drop (n+vs.length)):=by
 unfold B9;rw[Ls,Ls,Ax,A5,B7];rfl
theorem Cz{α:Type}(g:α->Bool)(l:List α):Cg g l=true↔∀x∈l,g x=true:=by
 induction l with
 |nil=>simp[Cg]
 |cons x l ih =>
  show (bif g x then Cg g l else false)=true↔_;cases hx:g x<;>simp[hx,ih]
theorem Ca(x:Nat)(l:List Nat):Dx x l=true↔x∈l:=by
 induction l with
 |nil=>simp[Dx]
 |cons y l ih =>
  show (bif Nat.beq y x then true else Dx x l)=true↔_;have hb:Nat.beq y x=true↔y=x:=⟨Nat.eq_of_beq_eq_true,λe=>e ▸ Nat.beq_refl y⟩;cases h:Nat.beq y x
  .have:y≠x:=λe=>by rw[hb.2 e]at h;cases h
   simp[ih,Ne.symm this]
  .simp[hb.1 h]
theorem Aka{α β:Type}(g:α->Option β):∀(l:List α) (r:List β),sd g l=some r->r.length=l.length/\∀(i:Nat) (x:α),l[i]?=some x->g x=r[i]?:=by
 intro l
 induction l with
 |nil=>intro r h;cases h;simp
 |cons x l ih =>
  intro r h;have h:(match g x with|none=>none|some y=>match sd g l with|none=>none|some ys=>some (y :: ys))=some r:=h
  split at h
  .cases h
  .rename_i y hy
   split at h
   .cases h
   .rename_i ys sG
    cases h;obtain⟨h1,h2⟩:=ih ys sG;refine⟨by simp[h1],λi x' qH=>?_⟩;cases i with
    |zero=>simp at qH;subst qH;simpa using hy
    |succ i=>simpa using h2 i x' (by simpa using qH)
def iH:Nat->Nat->List UInt8
 |0,_=>[]
 |l+1,n=>UInt8.ofNat (n % 256) :: iH l (n / 256)
theorem Ek:∀(l n:Nat),(iH l n).length=l
 |0,_=>rfl
 |l+1,n=>by simp[iH,Ek l]
def strOf(l n:Nat):ByteArray:=⟨(iH l n).toArray⟩
theorem A7(l n:Nat):(strOf l n).size=l:=by
 show (iH l n).toArray.size=l;simp[Ek]
theorem Cj(l n:Nat):(strOf l n).data.toList=iH l n:=by simp[strOf]
theorem Abo(n:Nat):(UInt8.ofNat (n % 256)).toNat=n % 256:=by simp
theorem Tp:∀(l n i:Nat),i<l->((iH l n)[i]?).map UInt8.toNat=some (Ea n i)
 |0,_,_,h=>by omega
 |l+1,n,0,_=>by
  simp only[iH,ZL,QO,Abo];show _=some ((n / 256 ^ 0) % 256);simp
 |l+1,n,i+1,h=>by
  simp only[iH,ZJ];rw[Tp l _ i (by omega)];show some ((n / 256 / 256 ^ i) % 256)=some ((n / 256 ^ (i+1)) % 256);rw[Nat.div_div_eq_div_mul,YZ,YI 256]
def N8:List UInt8->Nat
 | []=>0
 |x :: l=>x.toNat+256 * N8 l
theorem Tx:∀(l n:Nat),n<256 ^ l->N8 (iH l n)=n
 |0,n,h=>by simp at h;subst h;rfl
 |l+1,n,h=>by
  simp only[iH,N8,Abo];rw[Tx l _ (by rw[YZ]at h;exact Nat.div_lt_of_lt_mul (by omega))];omega
theorem Ahl:∀l:List UInt8,N8 l<256 ^ l.length
 | []=>by simp[N8]
 |x :: l=>by
  have:=Ahl l;have hx:=x.toNat_lt;simp only[N8,QT,YZ];omega
theorem Aei:∀l:List UInt8,iH l.length (N8 l)=l
 | []=>rfl
 |x :: l=>by
  have hx:=x.toNat_lt;simp only[QT,iH,N8];have h1:(x.toNat+256 * N8 l) % 256=x.toNat:=by omega
  have h2:(x.toNat+256 * N8 l) / 256=N8 l:=by omega
  rw[h1,h2,Aei l];simp
theorem Ait:∀(l n l' n':Nat),n<256 ^ l->iH (l+l') (n+n' * 256 ^ l)=iH l n++iH l' n'
 |0,n,l',n',h=>by simp at h;subst h;simp[iH]
 |l+1,n,l',n',h=>by
  rw[show l+1+l'=(l+l')+1 by omega];simp only[iH,List.cons_append];have h0:n' * 256 ^ (l+1)=256 * (n' * 256 ^ l):=by rw[YZ,<-Nat.mul_assoc,YI]
  have h1:(n+n' * 256 ^ (l+1)) % 256=n % 256:=by rw[h0];omega
  have h2:(n+n' * 256 ^ (l+1)) / 256=n / 256+n' * 256 ^ l:=by rw[h0];omega
  rw[h1,h2,Ait l _ l' n' (by rw[YZ]at h;exact Nat.div_lt_of_lt_mul (by omega))]
theorem Aek:∀(a l n:Nat),a<=l->(iH l n).drop a=iH (l-a) (n / 256 ^ a)
 |0,l,n,_=>by simp
 |a+1,0,_,h=>by omega
 |a+1,l+1,n,h=>by
  simp only[iH,List.drop_succ_cons];rw[Aek a l _ (by omega),Nat.div_div_eq_div_mul,show l+1-(a+1)=l-a by omega,YZ,YI 256]
theorem Aej:∀(c l n:Nat),c<=l->(iH l n).take c=iH c (n % 256 ^ c)
 |0,l,n,_=>by simp[iH]
 |c+1,0,_,h=>by omega
 |c+1,l+1,n,h=>by
  simp only[iH,UB];rw[Aej c l _ (by omega)];have h1:n % 256 ^ (c+1) % 256=n % 256:=by
   rw[YZ,YI,Nat.mod_mul_right_mod]
  have h2:n % 256 ^ (c+1) / 256=n / 256 % 256 ^ c:=by
   rw[YZ,YI,Nat.mod_mul_right_div_self]
  rw[h1,h2]
theorem jr{l n l' n':Nat}(h:n<256 ^ l)(h':n'<256 ^ l')(e:iH l n=iH l' n'):l=l'/\n=n':=by
 have hl:l=l':=by rw[<-Ek l n,e,Ek]
 exact⟨hl,by rw[<-Tx l n h,e,Tx l' n' h']⟩
theorem Ajk{l n l' n':Nat}(h:n<256 ^ l):strOf l n++strOf l' n'=strOf (l+l') (n+n' * 256 ^ l):=by
 apply ByteArray.ext;rw[ByteArray.data_append,strOf,strOf,strOf,Ait l n l' n' h];simp
theorem Rr(s:ByteArray):ofBytes s=(s.data.toList.length,N8 s.data.toList):=by
 unfold ofBytes;congr 1
 generalize s.data.toList=l
 induction l with
 |nil=>rfl
 |cons x l ih=>simp only[List.foldr_cons,ih,N8];rfl
theorem W7(s:ByteArray):strOf (ofBytes s).1 (ofBytes s).2=s:=by
 rw[Rr];apply ByteArray.ext;show (iH s.data.toList.length (N8 s.data.toList)).toArray=s.data;rw[Aei]
theorem Af5(s:ByteArray):(ofBytes s).2<256 ^ (ofBytes s).1:=by rw[Rr];exact Ahl _
structure Loc where
 aE:Nat
 lo:Nat
 en:Nat
abbrev Ip:=Nat->Nat->Option Loc
inductive VR(ι:Ip):CV->Value->Prop
 |bot (v:Value):VR ι .bot v
 |u:VR ι .u undef
 |b (t:Bool):VR ι (.b t) (.bool t)
 |i (k:IntKind) (n:Int):VR ι (.i k n) (.int k n)
 |s {l n:Nat} (h:n<256 ^ l):VR ι (.s l n) (.string (strOf l n))
 |np:VR ι .np (.pointer none)
 |p {r g off:Nat} {L:Loc} (h:ι r g=some L) (hl:L.lo<=off):VR ι (.p r g off) (.pointer (some ⟨L.aE,off-L.lo,none⟩))
 |ns:VR ι .ns (.slice none 0 0)
 |sl {r g off l sz cap:Nat} {L:Loc} {a:Addr} {c:Nat} (h:ι r g=some L) (hl:L.lo<=off) (hz:0<sz) (hc:off+c * sz<=L.en) (ha:0<c->a=⟨L.aE,off-L.lo,none⟩) (hn:l<=c)
   (h0:cap=0->c=(L.en-off) / sz) (h1:∀k,cap=k+1->c=k):VR ι (.sl r g off l sz cap) (.slice (some a) l c)
 |nm:VR ι .nm (.map none)
 |m {r:Nat} {L:Loc} (h:ι r 0=some L):VR ι (.m r) (.map (some L.aE))
 |nf:VR ι .nf .nilFunc
 |f {fn:Nat} {xs ys:List CV} {us vs:List Value} (h1:xs.length=us.length) (h2:∀(i:Nat) (x:CV) (v:Value),xs[i]?=some x->us[i]?=some v->VR ι x v) (h3:ys.length=vs.length) (h4:∀(i:Nat) (x:CV) (v:Value),ys[i]?=some x->vs[i]?=some v->VR ι x v):
   VR ι (.f fn xs ys) (.func (.func fn) ⟨us⟩ ⟨vs⟩)
 |yl {l:Nat} {L:Loc} (h:ι l 0=some L):VR ι (.yl l) (.func (.yield L.aE) #[] #[])
 |ni:VR ι .ni .nilIface
 |ifc {t:Nat} {v:CV} {v':Value} (h:VR ι v v'):VR ι (.ifc t v) (.iface t v')
 |agg {xs:List CV} {us:List Value} (h1:xs.length=us.length) (h2:∀(i:Nat) (x:CV) (v:Value),xs[i]?=some x->us[i]?=some v->VR ι x v):VR ι (.agg xs) (.agg ⟨us⟩)
 |tup {xs:List CV} {us:List Value} (h1:xs.length=us.length) (h2:∀(i:Nat) (x:CV) (v:Value),xs[i]?=some x->us[i]?=some v->VR ι x v):VR ι (.tup xs) (.tuple ⟨us⟩)
def cF(ι:Ip)(xs:List CV)(us:List Value):Prop:=xs.length=us.length/\∀(i:Nat) (x:CV) (v:Value),xs[i]?=some x->us[i]?=some v->VR ι x v
section
variable {ι bI:Ip} {xs ys:List CV} {us vs:List Value} {x:CV} {v:Value}
theorem cF.nil:cF ι [] []:=⟨rfl,by simp⟩
theorem cF.cons(h:VR ι x v)(hs:cF ι xs us):cF ι (x :: xs) (v :: us) :=
 ⟨by simp[hs.1],λi x' v' h1 h2=>by
  cases i with
  |zero=>simp at h1 h2;subst h1 h2;exact h
  |succ i=>exact hs.2 i x' v' (by simpa using h1) (by simpa using h2)⟩
theorem cF.cons_inv(h:cF ι (x :: xs) us):∃v lC,us=v :: lC/\VR ι x v/\cF ι xs lC:=by
 cases us with
 |nil=>simp[cF]at h
 |cons v lC=>exact⟨v,lC,rfl,h.2 0 x v rfl rfl,by simpa using h.1,λi x' v' h1 h2=>h.2 (i+1) x' v' (by simpa using h1) (by simpa using h2)⟩
theorem cF.fU(h:cF ι [] us):us=[]:=QQ h.1.symm
theorem cF.app(h:cF ι xs us)(h':cF ι ys vs):cF ι (xs++ys) (us++vs) :=
 ⟨by simp[h.1,h'.1],λi x v a b=>by
  rw[YC]at a b;rw[h.1]at a
  split at a
  .rename_i hi;rw[QE hi]at b;exact h.2 i x v a b
  .rename_i hi;rw[QD hi]at b;exact h'.2 _ x v a b⟩
theorem cF.take(n:Nat)(h:cF ι xs us):cF ι (xs.take n) (us.take n) :=
 ⟨by simp[h.1],λi x v a b=>by
  rw[QL]at a b
  split at a
  .rename_i e;rw[QE e]at b;exact h.2 i x v a b
  .cases a⟩
theorem cF.drop(n:Nat)(h:cF ι xs us):cF ι (xs.drop n) (us.drop n) :=
 ⟨by simp[h.1],λi x v a b=>by
  rw[XL]at a b;exact h.2 _ x v a b⟩
theorem cF.get{i:Nat}(h:cF ι xs us)(hx:xs[i]?=some x):∃v,us[i]?=some v/\VR ι x v:=by
 have aA:i<us.length:=by rw[<-h.1];exact (List.getElem?_eq_some_iff.1 hx).1
 exact⟨us[i],QA aA,h.2 i x _ hx (QA aA)⟩
theorem VR.sY(h:cF ι xs us):VR ι (.agg xs) (.agg ⟨us⟩):=.agg h.1 h.2
theorem VR.nS(h:cF ι xs us):VR ι (.tup xs) (.tuple ⟨us⟩):=.tup h.1 h.2
theorem VR.cW(h:VR ι (.agg xs) v):∃us,v=.agg ⟨us⟩/\cF ι xs us:=by cases h with|agg h1 h2=>exact⟨_,rfl,h1,h2⟩
theorem VR.gT(h:VR ι (.tup xs) v):∃us,v=.tuple ⟨us⟩/\cF ι xs us:=by cases h with|tup h1 h2=>exact⟨_,rfl,h1,h2⟩
def Ex(ι bI:Ip):Prop:=∀r g L,ι r g=some L->bI r g=some L
theorem Ex.refl:Ex ι ι:=λ_ _ _ h=>h
theorem Ex.trans{DJ:Ip}(h:Ex ι bI)(h':Ex bI DJ):Ex ι DJ:=λr g L e=>h' r g L (h r g L e)
theorem VR.mono(x:Ex ι bI){c:CV}{v:Value}(h:VR ι c v):VR bI c v:=by
 induction h with
 |bot v=>exact .bot v
 |u=>exact .u
 |b t=>exact .b t
 |i k n=>exact .i k n
 |s h=>exact .s h
 |np=>exact .np
 |p h hl=>exact .p (x _ _ _ h) hl
 |ns=>exact .ns
 |sl h hl hz hc ha hn h0 h1=>exact .sl (x _ _ _ h) hl hz hc ha hn h0 h1
 |nm=>exact .nm
 |m h=>exact .m (x _ _ _ h)
 |nf=>exact .nf
 |f h1 _ h3 _ ih2 ih4=>exact .f h1 ih2 h3 ih4
 |yl h=>exact .yl (x _ _ _ h)
 |ni=>exact .ni
 |ifc _ ih=>exact .ifc ih
 |agg h1 _ ih=>exact .agg h1 ih
 |tup h1 _ ih=>exact .tup h1 ih
theorem cF.mono(x:Ex ι bI)(h:cF ι xs us):cF bI xs us:=⟨h.1,λi c v a b=>(h.2 i c v a b).mono x⟩
theorem VR.jD{t:Bool}(h:VR ι (.b t) v):v=.bool t:=by cases h;rfl
theorem VR.fM{k:IntKind}{n:Int}(h:VR ι (.i k n) v):v=.int k n:=by cases h;rfl
theorem VR.fJ{l n:Nat}(h:VR ι (.s l n) v):v=.string (strOf l n)/\n<256 ^ l:=by cases h with|s h=>exact⟨rfl,h⟩
theorem VR.fL{r g off:Nat}(h:VR ι (.p r g off) v):∃L,ι r g=some L/\L.lo<=off/\v=.pointer (some ⟨L.aE,off-L.lo,none⟩):=by cases h with|p h hl=>exact⟨_,h,hl,rfl⟩
theorem VR.rH{fn:Nat}(h:VR ι (.f fn xs ys) v):∃us vs,v=.func (.func fn) ⟨us⟩ ⟨vs⟩/\cF ι xs us/\cF ι ys vs:=by cases h with|f h1 h2 h3 h4=>exact⟨_,_,rfl,⟨h1,h2⟩,⟨h3,h4⟩⟩
theorem Oo(h:Nm x=true)(hr:VR ι x v):v.oneCell'=true:=by
 cases hr<;>first|rfl|simp[Nm]at h
theorem Za(h:VR ι x v)(ha:∀us,v=.agg us->∃xs,x=.agg xs):cF ι x.cells v.cells.toList:=by
 by_cases hx:∃xs,x=.agg xs
 .obtain⟨xs,rfl⟩:=hx
  obtain⟨us,rfl,hl⟩:=h.cW;exact hl
 .have h1:x.cells=[x]:=by cases x<;>first|rfl|exact (hx ⟨_,rfl⟩).elim
  have h2:v.cells=#[v]:=by
   cases v with
   |agg us=>exact (hx (ha us rfl)).elim
   |_=>rfl
  rw[h1,h2];exact .cons h .nil
theorem Aer(h:VR ι x v)(ho:Cg Nm x.cells=true):cF ι x.cells v.cells.toList/\∀u∈v.cells.toList,u.oneCell'=true:=by
 have hr:cF ι x.cells v.cells.toList:=Za h (λus e=>by
  subst e;cases h with
  |bot=>simp[CV.cells,Cg,Nm]at ho
  |agg h1 h2=>exact⟨_,rfl⟩)
 refine⟨hr,λu hu=>?_⟩;obtain⟨i,hi⟩:=List.mem_iff_getElem?.1 hu;have aA:i<x.cells.length:=by rw[hr.1];exact (List.getElem?_eq_some_iff.1 hi).1
 exact Oo ((Cz _ _).1 ho _ (XQ aA)) (hr.2 i _ u (QA aA) hi)
end
def FR(ι:Ip)(fr:Tr CV)(tmps:Array Value):Prop:=∀t v,fr.get t=some v->VR ι v (tmps.getD t undef)
theorem FR.mono{ι bI:Ip}(x:Ex ι bI){fr:Tr CV}{tmps:Array Value}(h:FR ι fr tmps):FR bI fr tmps:=λt v e=>(h t v e).mono x
theorem FR.aX{ι:Ip}{fr:Tr CV}{tmps:Array Value}(h:FR ι fr tmps)(t:Nat):VR ι (aX fr t) (tmps.getD t undef):=by
 unfold Cv.aX
 split
 .rename_i v e;exact h t v e
 .exact .bot _
theorem FR.set{ι:Ip}{fr:Tr CV}{tmps:Array Value}(h:FR ι fr tmps){t:Nat}{v:CV}{u:Value}(hv:VR ι v u)(ht:t<tmps.size)(hk:t<aH):FR ι (fr.set t v) (tmps.setIfInBounds t u):=by
 intro t' v' e;rw[Tr.cH _ _ hk]at e
 split at e
 .rename_i he
  cases e;subst he;simp[ht];exact hv
 .rename_i he
  have:=h t' v' e;rw[QM,XX (Ne.symm he),<-QM];exact this
def se:Nat->LoopState
 |0=>.ready
 |1=>.busy
 |2=>.done
 |_=>.exhausted
structure Sg where
 P:Program
 en:En
noncomputable def Sg.nt(S:Sg)(fn:Nat):Nat:=Qc S.en fn
def OR(S:Sg)(ι:Ip)(w:World)(L:Loc)(g:Nat):CO->Prop
 |.c ty tr n G fz _ mk=>g<=G/\∃arr gR,w.heap[L.aE]?=some (.cells arr ty gR)/\L.en<=L.lo+arr.size/\
   (∀i c,tr.get i=some c->c.w<=G/\i<n/\i<aH/\(c.w<=g->L.lo<=i->∃v,arr[i-L.lo]?=some v/\VR ι c.v v/\v.oneCell'=true))/\
   (g=G->n<=L.en/\(if mk then gR=(0,0)\/gR=(arr.size,arr.size+1) else gR.1=0/\gR.2<=fz-L.lo))
 |.mp es=>g=0/\∃fT clock,w.heap[L.aE]?=some (.map fT clock)/\es.length=fT.size/\∀(i:Nat) e m,es[i]?=some e->fT[i]?=some m->VR ι e.1 m.key/\VR ι e.2 m.val
 |.lp st pd fn fr ps dQ body df=>g=0/\∃Ld tmps,ι df 0=some Ld/\tmps.size=S.nt fn/\FR ι fr tmps/\
   w.heap[L.aE]?=some (.loop { state:=se st,pending:=pd,fn,tmps,params:=ps.toArray,assign:=dQ,body,defers:=Ld.aE })
 |.it l n i=>g=0/\n<256 ^ l/\w.heap[L.aE]?=some (.stringIter (strOf l n) i)
 |.df=>g=0/\w.heap[L.aE]?=some (.deferred (some []))
 |.dead=>True
def SL:CO->Bool
 |.c _ _ _ _ _ ro _=>ro
 |_=>false
theorem OR.mono{S:Sg}{ι bI:Ip}(x:Ex ι bI){w w':World}{L:Loc}{g:Nat}{o:CO}(hw:w'.heap[L.aE]?=w.heap[L.aE]?)(h:OR S ι w L g o):OR S bI w' L g o:=by
 cases o with
 |c ty tr n G fz ro mk =>
  obtain⟨h0,arr,gR,h1,h2,h3,h4⟩:=h;exact⟨h0,arr,gR,by rw[hw];exact h1,h2,λi c e=>⟨(h3 i c e).1,(h3 i c e).2.1,(h3 i c e).2.2.1,λa b=>let ⟨v,q1,q2,q3⟩:=(h3 i c e).2.2.2 a b;⟨v,q1,q2.mono x,q3⟩⟩,h4⟩
 |mp es =>
  obtain⟨h0,fT,cl,h1,h2,h3⟩:=h;exact⟨h0,fT,cl,by rw[hw];exact h1,h2,λi e m a b=>⟨(h3 i e m a b).1.mono x,(h3 i e m a b).2.mono x⟩⟩
 |lp st pd fn fr ps dQ body df =>
  obtain⟨h0,Ld,tmps,h1,h2,h3,h4⟩:=h;exact⟨h0,Ld,tmps,x _ _ _ h1,h2,h3.mono x,by rw[hw];exact h4⟩
 |it l n i=>exact⟨h.1,h.2.1,by rw[hw];exact h.2.2⟩
 |df=>exact⟨h.1,by rw[hw];exact h.2⟩
 |dead=>trivial
structure HR(S:Sg)(base:Nat)(w0:World)(U:Nat->Option CO)(ι:Ip)(hp:Tr CO)(nx:Nat)(w:World):Prop where
 below:Below base w0 w
 top:base<=w.heap.size
 key:nx<=aH
 obj:∀r g L,ι r g=some L->∃o,hp.get r=some o/\OR S ι w L g o/\L.aE<w.heap.size/\(L.aE<base->SL o=true)
 inj:∀r g L r' g' L',ι r g=some L->ι r' g'=some L'->L.aE=L'.aE->r=r'/\L=L'
 oB:∀r g L,ι r g=some L->r<nx
 zI:∀r o,U r=some o->hp.get r=some o/\(∀g,ι r g=none)/\r<nx
 lt:∀r o,hp.get r=some o->r<nx
section
variable {S:Sg} {base:Nat} {w0 w w':World} {U:Nat->Option CO} {ι bI:Ip} {hp dS:Tr CO} {nx:Nat}
theorem HR.drew(h:HR S base w0 U ι hp nx w):HR S base w0 U ι hp nx { w with drawn:=w.drawn+1 } :=
 ⟨h.below.drew,h.top,h.key,λr g L e=>let ⟨o,a,b,c,d⟩:=h.obj r g L e;⟨o,a,b.mono Ex.refl rfl,c,d⟩,h.inj,h.oB,h.zI,h.lt⟩
def Ip.add(ι:Ip)(r g:Nat)(L:Loc):Ip:=λr' g'=>if r'=r/\g'=g then some L else ι r' g'
theorem Ip.gZ{r g:Nat}{L:Loc}(h:ι r g=none):Ex ι (ι.add r g L):=λr' g' L' e=>by
 unfold Ip.add
 split
 .rename_i he;rw[he.1,he.2,h]at e;cases e
 .exact e
theorem Ip.bW(ι:Ip)(r g:Nat)(L:Loc):ι.add r g L r g=some L:=by simp[Ip.add]
theorem HR.born(h:HR S base w0 U ι hp nx w){r en:Nat}{o:CO}{ob:Obj}(hr:∀g,ι r g=none)(hn:r<nx)(hg:hp.get r=some o)
  (ho:OR S (ι.add r 0 ⟨w.heap.size,0,en⟩) (w.alloc ob) ⟨w.heap.size,0,en⟩ 0 o) {U':Nat->Option CO} (hU:∀r' o',U' r'=some o'->r'≠r/\U r'=some o'):
  HR S base w0 U' (ι.add r 0 ⟨w.heap.size,0,en⟩) hp nx (w.alloc ob):=by
 have hx:Ex ι (ι.add r 0 ⟨w.heap.size,0,en⟩):=Ip.gZ (hr 0);have hs:(w.alloc ob).heap.size=w.heap.size+1:=by simp
 refine⟨h.below.alloc h.top ob,by have:=h.top;omega,h.key,λr' g L e=>?_,λr1 g1 L1 r2 g2 L2 e1 e2 he=>?_,λr' g L e=>?_,λr' o' e=>?_,h.lt⟩
 .simp only[Ip.add]at e
  split at e
  .rename_i he
   cases e;obtain⟨rfl,rfl⟩:=he;exact⟨o,hg,ho,by rw[hs];exact US _,λaA=>absurd aA (by have:=h.top;show ¬w.heap.size<base;omega)⟩
  .obtain⟨o',a,b,c,d⟩:=h.obj r' g L e
   exact⟨o',a,b.mono hx (Below.heap_alloc w ob L.aE c),by rw[hs];omega,d⟩
 .simp only[Ip.add]at e1 e2
  split at e1<;>split at e2
  .rename_i a b;cases e1;cases e2;exact⟨by rw[a.1,b.1],rfl⟩
  .cases e1
   obtain⟨_,_,_,c,_⟩:=h.obj r2 g2 L2 e2;exact absurd he (by show ¬w.heap.size=_;omega)
  .cases e2
   obtain⟨_,_,_,c,_⟩:=h.obj r1 g1 L1 e1;exact absurd he (by show ¬_=w.heap.size;omega)
  .exact h.inj r1 g1 L1 r2 g2 L2 e1 e2 he
 .simp only[Ip.add]at e
  split at e
  .rename_i he;rw[he.1];exact hn
  .exact h.oB r' g L e
 .obtain⟨aV,hu⟩:=hU r' o' e
  obtain⟨a,b,c⟩:=h.zI r' o' hu;exact⟨a,λg=>by simp only[Ip.add];rw[QD (by omega)];exact b g,c⟩
theorem HR.draw(h:HR S base w0 U ι hp nx w)(o:CO)(hk:nx+2<=aH):HR S base w0 (λr=>if r=nx then some o else U r) ι (hp.set nx o) (nx+1) w:=by
 have aV:∀r g L,ι r g=some L->r≠nx:=λr g L e=>by have:=h.oB r g L e;omega
 refine⟨h.below,h.top,by omega,λr g L e=>?_,h.inj,λr g L e=>by have:=h.oB r g L e;omega,λr o' e=>?_,λr o' e=>?_⟩
 .obtain⟨o',a,b⟩:=h.obj r g L e
  exact⟨o',by rw[Tr.cH _ _ (by omega),QD (aV r g L e)];exact a,b⟩
 .split at e
  .rename_i he;cases e;subst he
   exact⟨by rw[Tr.cH _ _ (by omega),QE rfl],λg=>by
    cases e':ι r g with
    |none=>rfl
    |some L=>exact absurd rfl (aV r g L e'),by omega⟩
  .rename_i he
   obtain⟨a,b,c⟩:=h.zI r o' e;exact⟨by rw[Tr.cH _ _ (by omega),QD he];exact a,b,by omega⟩
 .rw[Tr.cH _ _ (by omega)]at e
  split at e
  .omega
  .have:=h.lt r o' e;omega
theorem HR.new(h:HR S base w0 U ι hp nx w){en:Nat}{o:CO}{ob:Obj}(hk:nx+2<=aH)
  (ho:OR S (ι.add nx 0 ⟨w.heap.size,0,en⟩) (w.alloc ob) ⟨w.heap.size,0,en⟩ 0 o):
  HR S base w0 U (ι.add nx 0 ⟨w.heap.size,0,en⟩) (hp.set nx o) (nx+1) (w.alloc ob)/\Ex ι (ι.add nx 0 ⟨w.heap.size,0,en⟩):=by
 have hn:∀g,ι nx g=none:=λg=>by
  cases e:ι nx g with
  |none=>rfl
  |some L=>have:=h.oB nx g L e;omega
 refine⟨(h.draw o hk).born hn (by omega) (by rw[Tr.cH _ _ (by omega),QE rfl]) ho (λr' o' e=>?_),Ip.gZ (hn 0)⟩;have:r'≠nx:=by have:=(h.zI r' o' e).2.2;omega
 exact⟨this,by rw[QD this];exact e⟩
theorem HR.write(h:HR S base w0 U ι hp nx w){r:Nat}{o':CO}(hx:Ex ι bI)(bV:∀r' g' L',bI r' g'=some L'->ι r' g'=some L'\/r'=r)
  (hb:Below base w w') (hrn:r<nx) (hur:U r=none)
  (bN:∀r' g' L',ι r' g'=some L'->r'≠r->w'.heap[L'.aE]?=w.heap[L'.aE]?)
  (WB:∀g L,bI r g=some L->OR S bI w' L g o'/\L.aE<w'.heap.size/\(L.aE<base->SL o'=true))
  (IC:∀g L r' g' L',bI r g=some L->ι r' g'=some L'->r'≠r->L.aE≠L'.aE)
  (lH:∀g L g' L',bI r g=some L->bI r g'=some L'->L.aE=L'.aE->L=L'):
  HR S base w0 U bI (hp.set r o') nx w':=by
 have hk:r<aH:=by have:=h.key;omega
 refine⟨h.below.trans hb,by have:=h.top;have:=hb.size;omega,h.key,λr' g L e=>?_,λr1 g1 L1 r2 g2 L2 e1 e2 he=>?_,λr' g L e=>?_,λr' o e=>?_,λr' o e=>?_⟩
 .by_cases hr:r'=r
  .subst hr
   exact⟨o',by rw[Tr.cH _ _ hk,QE rfl],WB g L e⟩
  .have e':=(bV r' g L e).resolve_right hr
   obtain⟨o,a,b,c,d⟩:=h.obj r' g L e';exact⟨o,by rw[Tr.cH _ _ hk,QD hr];exact a,b.mono hx (bN r' g L e' hr),by have:=hb.size;omega,d⟩
 .by_cases h1:r1=r<;>by_cases h2:r2=r
  .subst h1 h2;exact⟨rfl,lH g1 L1 g2 L2 e1 e2 he⟩
  .subst h1
   exact absurd he (IC g1 L1 r2 g2 L2 e1 ((bV r2 g2 L2 e2).resolve_right h2) h2)
  .subst h2
   exact absurd he.symm (IC g2 L2 r1 g1 L1 e2 ((bV r1 g1 L1 e1).resolve_right h1) h1)
  .exact h.inj r1 g1 L1 r2 g2 L2 ((bV r1 g1 L1 e1).resolve_right h1) ((bV r2 g2 L2 e2).resolve_right h2) he
 .rcases bV r' g L e with e'|e'
  .exact h.oB r' g L e'
  .subst e';exact hrn
 .obtain⟨a,b,c⟩:=h.zI r' o e
  have aV:r'≠r:=λe'=>by subst e';rw[hur]at e;cases e
  refine⟨by rw[Tr.cH _ _ hk,QD aV];exact a,λg=>?_,c⟩;cases e':bI r' g with
  |none=>rfl
  |some L=>have:=(bV r' g L e').resolve_right aV;rw[b g]at this;cases this
 .rw[Tr.cH _ _ hk]at e
  split at e
  .omega
  .exact h.lt r' o e
theorem HR.gM(h:HR S base w0 U ι hp nx w){r g:Nat}{L:Loc}(e:ι r g=some L):U r=none:=by
 cases hu:U r with
 |none=>rfl
 |some o=>have:=(h.zI r o hu).2.1 g;rw[this]at e;cases e
theorem HR.other(h:HR S base w0 U ι hp nx w){b':Nat}(hb:Below w.heap.size w w')(_rR:b'=w.heap.size):HR S base w0 U ι hp nx w' :=
 ⟨h.below.trans (hb.mono h.top),by have:=h.top;have:=hb.size;omega,h.key,λr g L e=>let ⟨o,a,b,c,d⟩:=h.obj r g L e;⟨o,a,b.mono Ex.refl (hb.block _ c),by have:=hb.size;omega,d⟩,h.inj,h.oB,h.zI,h.lt⟩
end
def Bp(P:Program):TK->TypeDesc->Bool
 |.int k,.int k'=>k==k'
 |.bool,.bool=>true
 |.string,.string=>true
 |.ptr e,.pointer e'=>e==e'
 |.slice e,.slice e'=>e==e'
 |.struct fs,.struct fields=>(fields.toList.map λf=>(f.offset,f.type))==fs&&fields.toList.all λf=>(P.info? f.type).isSome
 |.array n e,.array n' e'=>n==n'&&e==e'
 |.map k e,.map k' e'=>k==k'&&e==e'
 |.iface,.interface _=>true
 |.func,.func _ _ _=>true
 |.pU,.unsafePointer=>true
 |.other,.struct _=>false
 |.other,.array ..=>false
 |.other,.interface _=>false
 |.other,_=>true
 |_,_=>false
def zB:CV->Value->Bool
 |.i k n,.int k' n'=>k==k'&&n==n'
 |.b b,.bool b'=>b==b'
 |.s 0 0,.string s'=>s'.data.toList.length==0
 |.np,.pointer none=>true
 |.ns,.slice none 0 0=>true
 |.ni,.nilIface=>true
 |.nf,.nilFunc=>true
 |.nm,.map none=>true
 |.bot,.chan none=>true
 |.bot,.float _ _=>true
 |_,_=>false
def nH:List CV->List Value->Bool
 | [],[]=>true
 |s :: ss,v :: vs=>zB s v&&nH ss vs
 |_,_=>false
def Fe:TK->Bool
 |.struct _|.array _ _=>true
 |_=>false
def zJ(P:Program)(t:TypeId)(ti:TI):Bool :=
 match P.underlying t,P.info? t with
 |some d,some i=>ti.zero.length==ti.size&&Bp P ti.k d&&i.size==ti.size&&i.bytes==ti.bytes&&(match i.zero with|some z=>nH ti.zero z.cells.toList&&(match z with|.agg _=>Fe ti.k|_=>!Fe ti.k)|none=>false)
 |_,_=>false
structure Bm(P:Program)(t:TypeId)(ti:TI):Prop where
 nR:ti.zero.length=ti.size
 jF:∃d,P.underlying t=some d/\Bp P ti.k d=true
 info:∃i z,P.info? t=some i/\i.size=ti.size/\i.bytes=ti.bytes/\i.zero=some z/\nH ti.zero z.cells.toList=true/\(match z with|.agg _=>Fe ti.k|_=>!Fe ti.k)=true
theorem Afe{P:Program}{t:TypeId}{ti:TI}(h:zJ P t ti=true):Bm P t ti:=by
 unfold zJ at h
 split at h
 .rename_i d i hd hi
  simp only[QB,XI]at h;obtain⟨⟨⟨⟨h0,h1⟩,h2⟩,h3⟩,h4⟩:=h
  split at h4
  .rename_i z hz
   simp only[QB]at h4;exact⟨h0,⟨d,hd,h1⟩,⟨i,z,hi,h2,h3,hz,h4⟩⟩
  .simp at h4
 .simp at h
theorem si{ι:Ip}{s:CV}{v:Value}(h:zB s v=true):VR ι s v/\v.oneCell'=true:=by
 unfold zB at h
 split at h<;>simp at h
 .obtain⟨rfl,rfl⟩:=h;exact⟨.i _ _,rfl⟩
 .subst h;exact⟨.b _,rfl⟩
 .rename_i s'
  refine⟨?_,rfl⟩;have:s'=strOf 0 0:=by
   apply ByteArray.ext;have h2:s'.data.toList=[]:=QQ (by simpa using h);show s'.data=#[];rw[<-Array.toList_inj];exact h2
  rw[this];exact .s (by simp)
 .exact⟨.np,rfl⟩
 .exact⟨.ns,rfl⟩
 .exact⟨.ni,rfl⟩
 .exact⟨.nf,rfl⟩
 .exact⟨.nm,rfl⟩
 .exact⟨.bot _,rfl⟩
 .exact⟨.bot _,rfl⟩
theorem N5{ι:Ip}:∀ {ss:List CV} {vs:List Value},nH ss vs=true->cF ι ss vs/\∀v∈vs,v.oneCell'=true
 | [],[],_=>⟨.nil,by simp⟩
 |s :: ss,v :: vs,h=>by
  simp only[nH,QB]at h;obtain⟨h1,h2⟩:=N5 (ι:=ι) h.2;obtain⟨h3,h4⟩:=si (ι:=ι) h.1;exact⟨.cons h3 h1,by simpa using⟨h4,h2⟩⟩
 | [],_ :: _,h=>by simp[nH]at h
 |_ :: _,[],h=>by simp[nH]at h
section
variable {P:Program} {t:Nat} {ti:TI}
theorem Ad{P:Program}{t:TypeId}{d:TypeDesc}(h:P.underlying t=some d)(w:World):(underlying t).run P w=.ok d w:=by simp[underlying,h]
theorem Bm.sizeOf(h:Bm P t ti)(w:World):(sizeOf t).run P w=.ok ti.size w:=by
 obtain⟨i,z,hi,h1,_⟩:=h.info;simp[Go.sizeOf,typeInfo,hi,h1]
theorem Bm.isAgg(h:Bm P t ti)(w:World):(Go.isAgg t).run P w=.ok (Fe ti.k) w:=by
 obtain⟨d,hd,hk⟩:=h.jF;unfold Go.isAgg;simp only[Sem.run_bind,Ad hd,Result.andThen_ok];cases cY:ti.k<;>rw[cY]at hk<;>cases d<;>first|rfl|simp[Bp]at hk
theorem Bm.ky(h:Bm P t ti)(w:World):∃i,(typeInfo t).run P w=.ok i w/\i.bytes=ti.bytes/\i.size=ti.size:=by
 obtain⟨i,z,hi,h1,h2,_⟩:=h.info;exact⟨i,by simp[typeInfo,hi],h2,h1⟩
theorem Bm.zero(h:Bm P t ti)(ι:Ip)(w:World):∃z,(zeroValue t).run P w=.ok z w/\cF ι ti.zero z.cells.toList/\(∀v∈z.cells.toList,v.oneCell'=true)/\z.cells.size=ti.size/\
  VR ι (if Fe ti.k then .agg ti.zero else (ti.zero.headD .bot)) z:=by
 obtain⟨i,z,hi,h1,h2,h3,h4,h5⟩:=h.info;obtain⟨a,b⟩:=N5 (ι:=ι) h4;have aM:z.cells.size=ti.size:=by rw[<-h.nR,a.1];simp
 refine⟨z,by simp[zeroValue,typeInfo,hi,h3],a,b,aM,?_⟩;cases hk:Fe ti.k
 .rw[hk]at h5
  have hz:z.cells=#[z]:=by cases z<;>first|rfl|simp at h5
  rw[hz]at a;obtain⟨s,hs⟩:∃s,ti.zero=[s]:=by
   have:=a.1
   match h:ti.zero,this with
   | [s],_=>exact⟨s,rfl⟩
  rw[hs]at a ⊢;exact a.2 0 s z rfl rfl
 .rw[hk]at h5
  cases z<;>simp at h5;exact .sY (by simpa[Value.cells] using a)
theorem Fw{fs:List (Nat×TypeId)}{fields:Array Field}(h:(fields.toList.map λf=>(f.offset,f.type))=fs){i fo ft:Nat}(hi:nth fs i=some (fo,ft)):
  ∃f,fields[i]?=some f/\f.offset=fo/\f.type=ft:=by
 rw[Ah,<-h,QP]at hi;cases hf:fields.toList[i]? with
 |none=>rw[hf]at hi;cases hi
 |some f =>
  rw[hf]at hi;simp only[QO,Option.some.injEq,Prod.mk.injEq]at hi;exact⟨f,by rw[<-QG];exact hf,hi.1,hi.2⟩
theorem Bm.struct(h:Bm P t ti){fs:List (Nat×TypeId)}(hk:ti.k=.struct fs):
  ∃fields,P.underlying t=some (.struct fields)/\(fields.toList.map λf=>(f.offset,f.type))=fs/\∀f∈fields.toList,∃i,P.info? f.type=some i:=by
 obtain⟨d,hd,hb⟩:=h.jF;rw[hk]at hb;cases d<;>simp only[Bp,QR]at hb;rename_i fields;simp only[QB,XI,VD,Option.isSome_iff_exists]at hb;exact⟨fields,hd,hb.1,hb.2⟩
theorem Bm.slice(h:Bm P t ti){e:TypeId}(hk:ti.k=.slice e):P.underlying t=some (.slice e):=by
 obtain⟨d,hd,hb⟩:=h.jF;rw[hk]at hb;cases d<;>simp only[Bp,QR,XI]at hb;rw[hd,hb]
theorem Bm.array(h:Bm P t ti){n e:Nat}(hk:ti.k=.array n e):P.underlying t=some (.array n e):=by
 obtain⟨d,hd,hb⟩:=h.jF;rw[hk]at hb;cases d<;>simp only[Bp,QR,XI,QB]at hb;rw[hd,hb.1,hb.2]
theorem Bm.map(h:Bm P t ti){k e:Nat}(hk:ti.k=.map k e):P.underlying t=some (.map k e):=by
 obtain⟨d,hd,hb⟩:=h.jF;rw[hk]at hb;cases d<;>simp only[Bp,QR,XI,QB]at hb;rw[hd,hb.1,hb.2]
theorem Bm.int(h:Bm P t ti){k:IntKind}(hk:ti.k=.int k):P.underlying t=some (.int k):=by
 obtain⟨d,hd,hb⟩:=h.jF;rw[hk]at hb;cases d<;>simp only[Bp,QR,XI]at hb;rw[hd,hb]
theorem Bm.string(h:Bm P t ti)(hk:ti.k=.string):P.underlying t=some .string:=by
 obtain⟨d,hd,hb⟩:=h.jF;rw[hk]at hb;cases d<;>simp only[Bp,QR]at hb;rw[hd]
theorem Bm.wZ(h:Bm P t ti)(hk:ti.k≠.iface):∃d,P.underlying t=some d/\∀ms,d≠.interface ms:=by
 obtain⟨d,hd,hb⟩:=h.jF;refine⟨d,hd,λms e=>?_⟩;subst e;cases cY:ti.k<;>rw[cY]at hb<;>first|exact hk cY|simp[Bp]at hb
end
structure eH(S:Sg):Prop where
 mixed:S.P.follows .mixedOrders=true
 T:∀t ti,S.en.T t=some ti->Bm S.P t ti
 cmp:∀t,(S.en.X (1000000+t)).isSome=true->S.P.stoodInHeld t=false/\S.P.eqGuardType S.P.depth t=false/\∀f∈(S.P.fieldsOf t).toList,f.name≠"_"
section
variable {S:Sg}
theorem O6(_h:eH S){t:Nat}{b:Bool}{n:Nat}(e:Cv.isAgg S.en t=some (b,n)):∃ti,S.en.T t=some ti/\Fe ti.k=b/\ti.size=n:=by
 unfold Cv.isAgg at e
 split at e
 .rename_i fs n' a c hT;cases e;exact⟨_,hT,rfl,rfl⟩
 .rename_i k' e' n' a c hT;cases e;exact⟨_,hT,rfl,rfl⟩
 .rename_i k n' a' z' c hx hT
  cases e;refine⟨_,hT,?_,rfl⟩;cases k<;>first|rfl|exact (c _ rfl).elim|exact (hx _ _ rfl).elim
 .cases e
theorem Do{t n:Nat}(e:Ez S.en t=some n):∃ti,S.en.T t=some ti/\ti.size=n:=by
 unfold Ez at e
 split at e
 .rename_i ti hT;cases e;exact⟨ti,hT,rfl⟩
 .cases e
theorem U3{ι:Ip}(v:Value):VR ι (DF v) v:=by
 unfold DF
 split
 .exact .b _
 .exact .i _ _
 .rename_i s
  have:=W7 s;have h:=VR.s (ι:=ι) (Af5 s);rw[this]at h;exact h
 .exact .np
 .exact .ns
 .exact .nm
 .exact .nf
 .exact .ni
 .exact .bot _
theorem cr{ι:Ip}(v:Value):VR ι (SY v) v:=by
 have key:∀l:List Value,cF ι (l.map DF) l:=λl=>by
  induction l with
  |nil=>exact .nil
  |cons x l ih=>exact .cons (U3 x) ih
 unfold SY
 split
 .rename_i cs;exact .sY (key cs.toList)
 .rename_i cs;exact .nS (key cs.toList)
 .exact U3 v
def GR(S:Sg)(ι:Ip):Prop:=∀g r,S.en.G g=some r->∃en,ι r 0=some ⟨g,0,en⟩
theorem GR.mono{ι bI:Ip}(x:Ex ι bI)(h:GR S ι):GR S bI:=λg r e=>let ⟨en,h⟩:=h g r e;⟨en,x _ _ _ h⟩
theorem Ay{ι:Ip}{fr:Tr CV}{a:Act}(hg:GR S ι)(h:FR ι fr a.tmps)(x:Operand):VR ι (ev S.en fr x) (a.eval x):=by
 cases x with
 |tmp t=>exact h.aX t
 |const v=>exact cr v
 |global g =>
  simp only[ev,Act.eval]
  split
  .rename_i r e
   obtain⟨en,hr⟩:=hg g r e;exact .p hr (ZD _)
  .exact .bot _
 |func f=>exact .f rfl (by simp) rfl (by simp)
theorem Pm{ι:Ip}{fr:Tr CV}{a:Act}(hg:GR S ι)(h:FR ι fr a.tmps):∀xs:List Operand,cF ι (xs.map (ev S.en fr)) (xs.map a.eval)
 | []=>.nil
 |x :: xs=>.cons (Ay hg h x) (Pm hg h xs)
theorem J9{tr:Tr CW}{g i:Nat}{v:CV}(h:cellAt tr g i=some v):∃c,tr.get i=some c/\c.w<=g/\c.v=v:=by
 unfold cellAt at h
 split at h
 .rename_i c hc
  cases hb:Nat.ble c.w g
  .rw[hb]at h;cases h
  .rw[hb]at h;cases h;exact⟨c,hc,XA hb,rfl⟩
 .cases h
theorem Lo{tr:Tr CW}{g:Nat}:∀(n i:Nat) (l:List CV),Ha tr g n i=some l->l.length=n/\∀j v,l[j]?=some v->cellAt tr g (i+j)=some v
 |0,i,l,h=>by cases h;simp
 |n+1,i,l,h=>by
  have h:(match cellAt tr g i with|none=>none|some v=>match Ha tr g n (i+1) with|none=>none|some vs=>some (v :: vs))=some l:=h
  split at h
  .cases h
  .rename_i v hv
   split at h
   .cases h
   .rename_i vs kL
    cases h;obtain⟨h1,h2⟩:=Lo n (i+1) vs kL;refine⟨by simp[h1],λj y hu=>?_⟩;cases j with
    |zero=>simp at hu;subst hu;exact hv
    |succ j=>have:=h2 j y (by simpa using hu);rw[show i+(j+1)=i+1+j by omega];exact this
theorem OR.cell{ι:Ip}{w:World}{L:Loc}{g ty n G fz:Nat}{tr:Tr CW}{ro mk:Bool}(h:OR S ι w L g (.c ty tr n G fz ro mk)){i:Nat}{v:CV}(hl:L.lo<=i)(e:cellAt tr g i=some v):
  ∃u,w.cell? ⟨L.aE,i-L.lo,none⟩=some u/\VR ι v u/\u.oneCell'=true:=by
 obtain⟨_,arr,gR,h1,_,h3,_⟩:=h;obtain⟨c,hc,hw,rfl⟩:=J9 e;obtain⟨u,hu,hr⟩:=(h3 i c hc).2.2.2 hw hl;exact⟨u,by simp[World.cell?,h1,hu],hr⟩
theorem OR.cells{ι:Ip}{w:World}{L:Loc}{g ty n G fz:Nat}{tr:Tr CW}{ro mk:Bool}(h:OR S ι w L g (.c ty tr n G fz ro mk)){i k:Nat}{l:List CV}(hl:L.lo<=i)(e:Ha tr g k i=some l):
  ∃us,us.length=k/\cF ι l us/\(∀u∈us,u.oneCell'=true)/\∀(j:Nat) (u:Value),us[j]?=some u->w.cell? ⟨L.aE,i-L.lo+j,none⟩=some u:=by
 obtain⟨h1,h2⟩:=Lo k i l e;have key:∀(l:List CV) (i:Nat),L.lo<=i->(∀(j:Nat) (v:CV),l[j]?=some v->cellAt tr g (i+j)=some v)->∃us,us.length=l.length/\cF ι l us/\(∀u∈us,u.oneCell'=true)/\∀(j:Nat) (u:Value),us[j]?=some u->w.cell? ⟨L.aE,i-L.lo+j,none⟩=some u:=by
  intro l
  induction l with
  |nil=>intro i _ _;exact⟨[],rfl,.nil,by simp,by simp⟩
  |cons x l ih =>
   intro i hi hx;obtain⟨u,q1,q2,q3⟩:=h.cell hi (hx 0 x rfl);obtain⟨us,p1,p2,p3,p4⟩:=ih (i+1) (by omega) (λj v hj=>by rw[show i+1+j=i+(j+1) by omega];exact hx (j+1) v (by simpa using hj));refine⟨u :: us,by simp[p1],.cons q2 p2,by simpa using⟨q3,p3⟩,λj v hj=>?_⟩;cases j with
   |zero=>simp at hj;subst hj;exact q1
   |succ j=>rw[show i-L.lo+(j+1)=i+1-L.lo+j by omega];exact p4 j v (by simpa using hj)
 obtain⟨us,p1,p2⟩:=key l i hl h2;exact⟨us,by rw[p1,h1],p2⟩
end
theorem Ff(b o n:Nat):(⟨b,o,none⟩:Addr).add n=⟨b,o+n,none⟩:=by unfold Addr.add;split<;>simp_all
theorem Iz{P:Program}{w:World}{b o:Nat}{us:List Value}(h:∀(j:Nat) (u:Value),us[j]?=some u->w.cell? ⟨b,o+j,none⟩=some u):(loadCells ⟨b,o,none⟩ us.length).run P w=.ok ⟨us⟩ w:=by
 have:=run_loadCells_list (P:=P) (w:=w) ⟨b,o,none⟩ us (λj u hj=>by rw[Ff];exact h j u hj);simpa using this
theorem Id{k:IntKind}{n:Nat}(h:n<=Xh k):k.wrap (n:Int)=n:=by
 unfold IntKind.wrap;cases k<;>simp[Xh]at h<;>simp[IntKind.bits,IntKind.signed]<;>omega
theorem l7(k:IntKind)(x y:Int):zu k x y=k.wrap (x+y):=by
 unfold zu
 split
 .rename_i a c
  cases h:Nat.ble (Nat.add a c) (Xh k)
  .rfl
  .exact (Id (XA h)).symm
 .rfl
theorem Ahp(k:IntKind)(x y:Int):an k x y=k.wrap (x-y):=by
 unfold an
 split
 .rename_i a c
  cases h:Nat.ble c a&&Nat.ble a (Xh k)
  .rfl
  .simp only[QB]at h
   have h1:=XA h.1;have h2:=XA h.2;have:k.wrap ((a-c:Nat):Int)=((a-c:Nat):Int):=Id (by omega);show ((a-c:Nat):Int)=k.wrap ((a:Int)-(c:Int));rw[<-this];congr 1;omega
 .rfl
theorem cy(k:IntKind)(x y:Int):ur k x y=k.wrap (x * y):=by
 unfold ur
 split
 .rename_i a c
  cases h:Nat.ble (Nat.mul a c) (Xh k)
  .rfl
  .exact (Id (XA h)).symm
 .rfl
theorem yu(k:IntKind)(x:Int):cvI k x=k.wrap x:=by
 unfold cvI
 split
 .rename_i a
  cases h:Nat.ble a (Xh k)
  .rfl
  .exact (Id (XA h)).symm
 .rfl
theorem beq_iff(a b:Nat):Nat.beq a b=true↔a=b:=⟨Nat.eq_of_beq_eq_true,λe=>e ▸ Nat.beq_refl a⟩
theorem As(a b:Nat):Nat.ble a b=true↔a<=b:=⟨XA,Nat.ble_eq_true_of_le⟩
theorem Nu(x y:Int):vP x y=(x==y):=by
 rw[ZC,XI];cases x<;>cases y<;>simp[vP]<;>omega
theorem Qo(x y:Int):tW x y=decide (x<=y):=by
 rw[ZC,QN];cases x<;>cases y<;>simp only[tW,As,Int.ofNat_eq_natCast,QR,true_iff,false_iff]<;>omega
theorem J8{a c:IntKind}:pT a c=true↔a=c:=by
 cases a<;>cases c<;>simp[pT,u4]
theorem Aik(x:Int):u6 x=true↔x=0:=by
 cases x with
 |ofNat a=>simp[u6]
 |negSucc a=>simp[u6]
theorem Akr(x:Int):isNeg x=true↔x<0:=by
 cases x with
 |ofNat a=>simp[isNeg]
 |negSucc a=>simp[isNeg]
section
variable {P:Program} {w:World} {ι:Ip}
theorem Aoy{op:BinOp}{k:IntKind}{x y:Int}{v:CV}(h:Aoz op k x y=some v)(t:TypeId):∃n,v=.i k n/\(binOp op t (.int k x) (.int k y)).run P w=.ok (.int k n) w:=by
 unfold Aoz at h
 split at h
 .cases hz:u6 y<;>rw[hz]at h<;>cases h
  have:y≠0:=λe=>by rw[(Aik y).2 e]at hz;cases hz
  exact⟨_,rfl,by simp[binOp,Op.intDiv,this]⟩
 .cases hz:u6 y<;>rw[hz]at h<;>cases h
  have:y≠0:=λe=>by rw[(Aik y).2 e]at hz;cases hz
  exact⟨_,rfl,by simp[binOp,Op.intDiv,this]⟩
 .cases h;exact⟨_,rfl,by simp[binOp,Op.intBits]⟩
 .cases h;exact⟨_,rfl,by simp[binOp,Op.intBits]⟩
 .cases h;exact⟨_,rfl,by simp[binOp,Op.intBits]⟩
 .cases h;exact⟨_,rfl,by simp[binOp,Op.intBits]⟩
 .cases h
theorem Anu{op:BinOp}{k:IntKind}{x y:Int}{v:CV}(h:Anv op k x y=some v)(t:TypeId):∃u,(binOp op t (.int k x) (.int k y)).run P w=.ok u w/\VR ι v u:=by
 unfold Anv at h
 split at h<;>first|(cases h;done)|skip
 .cases h;exact⟨.int k (k.wrap (x+y)),by simp[binOp,Op.intArith],by rw[l7];exact .i _ _⟩
 .cases h;exact⟨.int k (k.wrap (x-y)),by simp[binOp,Op.intArith],by rw[Ahp];exact .i _ _⟩
 .cases h;exact⟨.int k (k.wrap (x * y)),by simp[binOp,Op.intArith],by rw[cy];exact .i _ _⟩
 .cases h;exact⟨.bool (x==y),by simp[binOp,Op.intCmp],by rw[Nu];exact .b _⟩
 .cases h;exact⟨.bool (x != y),by simp[binOp,Op.intCmp],by rw[Nu];exact .b _⟩
 .cases h;exact⟨.bool (decide (x<y)),by simp[binOp,Op.intCmp],by rw[Qo,show (!decide (y<=x))=decide (x<y) by rw[ZC];simp];exact .b _⟩
 .cases h;exact⟨.bool (decide (x<=y)),by simp[binOp,Op.intCmp],by rw[Qo];exact .b _⟩
 .cases h;exact⟨.bool (decide (x > y)),by simp[binOp,Op.intCmp],by rw[Qo,show (!decide (x<=y))=decide (x > y) by rw[ZC];simp];exact .b _⟩
 .cases h;exact⟨.bool (decide (x>=y)),by simp[binOp,Op.intCmp],by rw[Qo];exact .b _⟩
 .obtain⟨n,rfl,hr⟩:=Aoy (P:=P) (w:=w) h t
  exact⟨_,hr,.i _ _⟩
theorem Aht{op:BinOp}{k k':IntKind}{x y:Int}{v:CV}(h:az op k x y=some v)(t:TypeId):∃u,(binOp op t (.int k x) (.int k' y)).run P w=.ok u w/\VR ι v u:=by
 unfold az at h;cases hn:isNeg y<;>rw[hn]at h<;>simp only[cond_true,cond_false]at h
 .have:¬y<0:=λe=>by rw[(Akr y).2 e]at hn;cases hn
  split at h<;>cases h
  .exact⟨.int k (k.wrap (x * 2 ^ (min y.toNat k.bits))),by simp[binOp,Op.shift,this],.i _ _⟩
  .exact⟨.int k (x.fdiv (2 ^ (min y.toNat k.bits))),by simp[binOp,Op.shift,this],.i _ _⟩
 .cases h
theorem lk{op:BinOp}{k:IntKind}{a:Int}{y v:CV}{uy:Value}(h:za op k a y=some v)(hy:VR ι y uy)(t:TypeId):∃u,(binOp op t (.int k a) uy).run P w=.ok u w/\VR ι v u/\∃k' c,uy=.int k' c:=by
 unfold za at h
 split at h
 .rename_i k' c
  rw[hy.fM]
  split at h
  .obtain⟨u,h1,h2⟩:=Aht (P:=P) (w:=w) (k':=k') (ι:=ι) h t;exact⟨u,h1,h2,_,_,rfl⟩
  .obtain⟨u,h1,h2⟩:=Aht (P:=P) (w:=w) (k':=k') (ι:=ι) h t;exact⟨u,h1,h2,_,_,rfl⟩
  .unfold GA at h
   cases hk:pT k k'<;>rw[hk]at h
   .cases h
   .obtain rfl:=J8.1 hk
    obtain⟨u,h1,h2⟩:=Anu (P:=P) (w:=w) (ι:=ι) h t;exact⟨u,h1,h2,_,_,rfl⟩
 .cases h
theorem toList_eq(s:ByteArray):s.toList=s.data.toList:=by
 exact Lib.toList_data s
theorem L0{l n l' n':Nat}(h:n<256 ^ l)(h':n'<256 ^ l'):((strOf l n).toList==(strOf l' n').toList)=vO l n l' n':=by
 rw[toList_eq,toList_eq,Cj,Cj,ZC,XI];unfold vO;simp only[QB,beq_iff];exact⟨jr h h',λe=>by rw[e.1,e.2]⟩
theorem y0{l n l' n':Nat}(h:n<256 ^ l)(h':n'<256 ^ l'):n+n' * 256 ^ l<256 ^ (l+l'):=by
 rw[Nat.pow_add,YI (256 ^ l)];have:n'+1<=256 ^ l':=h'
 calc n+n' * 256 ^ l<256 ^ l+n' * 256 ^ l:=by omega
  _=(n'+1) * 256 ^ l:=by rw[XJ];omega
  _<=256 ^ l' * 256 ^ l:=QH _ this
theorem lj{op:BinOp}{l n:Nat}{y v:CV}{uy:Value}(h:y9 op l n y=some v)(hn:n<256 ^ l)(hy:VR ι y uy)(t:TypeId):∃u,(binOp op t (.string (strOf l n)) uy).run P w=.ok u w/\VR ι v u/\∃s,uy=.string s:=by
 unfold y9 at h
 split at h
 .rename_i l' n'
  obtain⟨rfl,vB⟩:=hy.fJ
  split at h
  .cases hb:Nat.ble (Nat.add l l') 1000000000<;>rw[hb]at h<;>cases h
   have hle:=(As _ _).1 hb;refine⟨.string (strOf l n++strOf l' n'),?_,?_,_,rfl⟩
   .have kE:IntKind.i64.max=9223372036854775807:=by decide
    have:¬(((strOf l n).size+(strOf l' n').size:Nat):Int) > IntKind.i64.max:=by
     rw[A7,A7,kE];have:l+l'<=1000000000:=hle;omega
    simp only[binOp,Op.stringOp,QD this];rfl
   .rw[Ajk hn]
    exact .s (y0 hn vB)
  .cases h
   refine⟨.bool (vO l n l' n'),?_,.b _,_,rfl⟩;simp only[binOp,Op.stringOp,L0 hn vB];rfl
  .cases h
   refine⟨.bool (!vO l n l' n'),?_,.b _,_,rfl⟩;simp only[binOp,Op.stringOp,L0 hn vB];rfl
  .cases h
 .cases h
end
section
variable {S:Sg} {ι:Ip} {hp:Tr CO} {w:World} {fr:Tr CV} {a:Act}
def Rd(S:Sg)(ι:Ip)(hp:Tr CO)(w:World):Prop:=∀r g L,ι r g=some L->∃o,hp.get r=some o/\OR S ι w L g o
theorem HR.rd{base:Nat}{w0:World}{U:Nat->Option CO}{nx:Nat}(h:HR S base w0 U ι hp nx w):Rd S ι hp w:=λr g L e=>let ⟨o,a,b,_⟩:=h.obj r g L e;⟨o,a,b⟩
theorem Rd.of(h:Rd S ι hp w){r g:Nat}{L:Loc}{o:CO}(e:ι r g=some L)(ho:hp.get r=some o):OR S ι w L g o:=by
 obtain⟨o',a,b⟩:=h r g L e;rw[a]at ho;cases ho;exact b
theorem Ol(hS:eH S){t off:Nat}{cs:List CV}{us:List Value}{v:CV}(h:Rn S.en t cs off=some v)(hl:cF ι cs us):∃u,(part t ⟨us⟩ off).run S.P w=.ok u w/\VR ι v u:=by
 unfold Rn at h
 split at h
 .rename_i n e
  obtain⟨ti,hT,hk,rfl⟩:=O6 hS e;have cY:=hS.T t ti hT;cases hb:Nat.ble (Nat.add off ti.size) (len cs)<;>rw[hb]at h<;>cases h;refine⟨.agg ⟨(us.drop off).take ti.size⟩,?_,?_⟩
  .simp only[part,Sem.run_bind,cY.isAgg w,Result.andThen_ok,hk,if_true,cY.sizeOf w,Sem.run_pure]
   congr 2;apply XN;simp
  .rw[Ax,A5]
   exact .sY ((hl.drop off).take _)
 .rename_i n e
  obtain⟨ti,hT,hk,rfl⟩:=O6 hS e;have cY:=hS.T t ti hT;rw[Ah]at h;obtain⟨u,hu,hr⟩:=hl.get h;exact⟨u,by simp[part,cY.isAgg w,hk,hu],hr⟩
 .cases h
theorem Anf(hS:eH S){t ty n G fz g off:Nat}{tr:Tr CW}{ro mk:Bool}{L:Loc}{v:CV}(h:Ang S.en t tr g off=some v)(ho:OR S ι w L g (.c ty tr n G fz ro mk))(hl:L.lo<=off):
  ∃u,(loadVar t ⟨L.aE,off-L.lo,none⟩).run S.P w=.ok u w/\VR ι v u:=by
 unfold Ang at h
 split at h
 .rename_i n' e
  obtain⟨ti,hT,hk,rfl⟩:=O6 hS e;have cY:=hS.T t ti hT
  split at h
  .rename_i l hc
   cases h;obtain⟨us,h1,h2,_,h4⟩:=ho.cells hl hc;refine⟨.agg ⟨us⟩,?_,.sY h2⟩;have aG:=Iz (P:=S.P) h4;rw[h1]at aG;simp[loadVar,cY.isAgg w,hk,cY.sizeOf w,aG]
  .cases h
 .rename_i n' e
  obtain⟨ti,hT,hk,rfl⟩:=O6 hS e;have cY:=hS.T t ti hT;obtain⟨u,h1,h2,_⟩:=ho.cell hl h;exact⟨u,by simp[loadVar,cY.isAgg w,hk,h1],h2⟩
 .cases h
theorem Adb(hS:eH S)(hR:Rd S ι hp w){t r g off:Nat}{v:CV}{L:Loc}(h:Rw S.en t hp r g off=some v)(hi:ι r g=some L)(hl:L.lo<=off):
  ∃u,(loadVar t ⟨L.aE,off-L.lo,none⟩).run S.P w=.ok u w/\VR ι v u:=by
 unfold Rw at h
 split at h
 .rename_i ho;exact Anf hS h (hR.of hi ho) hl
 .cases h
end
section
variable {S:Sg} {ι:Ip} {hp:Tr CO} {w:World} {fr:Tr CV} {a:Act}
theorem VR.kR{v:Value}(h:VR ι .np v):v=.pointer none:=by cases h;rfl
theorem VR.eR{v:Value}(h:VR ι .ns v):v=.slice none 0 0:=by cases h;rfl
theorem VR.kS{v:Value}(h:VR ι .nm v):v=.map none:=by cases h;rfl
theorem VR.qF{r:Nat}{v:Value}(h:VR ι (.m r) v):∃L,ι r 0=some L/\v=.map (some L.aE):=by cases h with|m h=>exact⟨_,h,rfl⟩
theorem VR.aS{r g off l sz cap:Nat}{v:Value}(h:VR ι (.sl r g off l sz cap) v):∃L ad c,ι r g=some L/\L.lo<=off/\0<sz/\off+c * sz<=L.en/\(0<c->ad=⟨L.aE,off-L.lo,none⟩)/\l<=c/\(cap=0->c=(L.en-off) / sz)/\(∀k,cap=k+1->c=k)/\v=.slice (some ad) l c:=by
 cases h with|sl h hl hz hc ha hn h0 h1=>exact⟨_,_,_,h,hl,hz,hc,ha,hn,h0,h1,rfl⟩
theorem Aol(hS:eH S):∀(d m t:Nat) (x y:CV) (u v:Value) (b:Bool),d<=m->uN S.en d t x y=some b->VR ι x u->VR ι y v->(Op.equalIn m t u v).run S.P w=.ok b w:=by
 intro d
 induction d with
 |zero=>intro m t x y u v b _ h;cases h
 |succ d ih =>
  intro m t x y u v b hm h hx hy;obtain⟨m,rfl⟩:∃m',m=m'+1:=⟨m-1,by omega⟩
  replace h:(match S.en.T t with|some ti=>rz S.en (uN S.en d) t ti.k x y|none=>none)=some b:=h
  split at h
  .rename_i ti hT
   have cY:=hS.T t ti hT;unfold rz at h
   split at h
   .rename_i hk
    obtain⟨dd,hd,hb⟩:=cY.jF;rw[hk]at hb;cases dd<;>simp only[Bp,QR]at hb;unfold Aop at h
    split at h<;>cases h
    rename_i s t';rw[hx.jD,hy.jD];simp only[Op.equalIn,Sem.run_bind,Ad hd,Result.andThen_ok,Sem.run_pure];cases s<;>cases t'<;>rfl
   .rename_i k hk
    unfold qx at h
    split at h
    .rename_i j a k' c
     cases hj:pT j k'<;>rw[hj]at h<;>cases h;obtain rfl:=J8.1 hj;rw[hx.fM,hy.fM];simp[Op.equalIn,Ad (cY.int hk),Nu]
    .cases h
   .rename_i hk
    unfold eqStr at h
    split at h
    .rename_i l n l' n'
     cases h;obtain⟨rfl,h1⟩:=hx.fJ;obtain⟨rfl,h2⟩:=hy.fJ;have hb:=L0 h1 h2;have eA:(strOf l n==strOf l' n')=vO l n l' n':=by rw[beq_toListBytes];exact hb
     simp[Op.equalIn,Ad (cY.string hk),eA]
    .cases h
   .rename_i e hk
    obtain⟨dd,hd,hb⟩:=cY.jF;rw[hk]at hb;cases dd<;>simp only[Bp,QR,XI]at hb;subst hb
    split at h
    .rename_i sz he
     obtain⟨te,jC,aM⟩:=Do he;have aT:=(hS.T e te jC).sizeOf w;unfold qw at h
     split at h
     .split at h<;>cases h
      .rw[hx.kR,hy.kR];simp[Op.equalIn,Ad hd]
      .obtain⟨L,_,_,rfl⟩:=hy.fL
       rw[hx.kR];simp[Op.equalIn,Ad hd]
     .split at h
      .cases h
       obtain⟨L,_,_,rfl⟩:=hx.fL;rw[hy.kR];simp[Op.equalIn,Ad hd]
      .rename_i _ r g o _ r' g' o'
       cases hb:Nat.beq r r'&&Nat.beq g g'<;>rw[hb]at h<;>cases h;simp only[QB,beq_iff]at hb;obtain⟨rfl,rfl⟩:=hb;obtain⟨L,hL,cZ,rfl⟩:=hx.fL;obtain⟨L',gz,jM,rfl⟩:=hy.fL;rw[hL]at gz;cases gz;have hbe:Nat.beq o o'=((⟨L.aE,o-L.lo,none⟩:Addr)==⟨L.aE,o'-L.lo,none⟩):=by
        rw[ZC,beq_iff,XI,Addr.mk.injEq];constructor
        .intro e;subst e;simp
        .rintro⟨_,e,_⟩;omega
       simp[Op.equalIn,Ad hd,aT,aM,sameAddr,hbe]
      .cases h
     .cases h
    .cases h
   .rename_i e hk
    have hd:=cY.slice hk;unfold KH at h
    split at h
    .split at h<;>cases h
     .rw[hx.eR,hy.eR];simp[Op.equalIn,Ad hd]
     .obtain⟨_,_,_,_,_,_,_,_,_,_,_,rfl⟩:=hy.aS
      rw[hx.eR];simp[Op.equalIn,Ad hd]
    .split at h<;>cases h
     obtain⟨_,_,_,_,_,_,_,_,_,_,_,rfl⟩:=hx.aS;rw[hy.eR];simp[Op.equalIn,Ad hd]
    .cases h
   .rename_i k e hk
    have hd:=cY.map hk;unfold KI at h
    split at h
    .split at h<;>cases h
     .rw[hx.kS,hy.kS];simp[Op.equalIn,Ad hd]
     .obtain⟨_,_,rfl⟩:=hy.qF
      rw[hx.kS];simp[Op.equalIn,Ad hd]
    .split at h<;>cases h
     obtain⟨_,_,rfl⟩:=hx.qF;rw[hy.kS];simp[Op.equalIn,Ad hd]
    .cases h
   .rename_i hk
    obtain⟨dd,hd,hb⟩:=cY.jF;rw[hk]at hb;cases dd<;>simp only[Bp,QR]at hb;unfold KK at h
    split at h
    .split at h<;>cases h
     .cases hx;cases hy;simp[Op.equalIn,Ad hd]
     .obtain⟨_,_,rfl,_⟩:=hy.rH
      cases hx;simp[Op.equalIn,Ad hd]
    .split at h<;>cases h
     obtain⟨_,_,rfl,_⟩:=hx.rH;cases hy;simp[Op.equalIn,Ad hd]
    .cases h
   .rename_i hk
    obtain⟨dd,hd,hb⟩:=cY.jF;rw[hk]at hb;cases dd<;>simp only[Bp,QR]at hb;unfold KJ at h
    split at h
    .split at h<;>cases h
     .cases hx;cases hy;simp[Op.equalIn,Ad hd]
     .cases hx;cases hy;simp[Op.equalIn,Ad hd]
    .split at h<;>cases h
     cases hx;cases hy;simp[Op.equalIn,Ad hd]
    .cases h
   .rename_i fs hk
    unfold yj at h
    split at h
    .rename_i xs ys
     split at h
     .rename_i c hc
      obtain⟨us,rfl,kB⟩:=hx.cW;obtain⟨vs,rfl,sG⟩:=hy.cW;obtain⟨fields,hd,CA,_⟩:=cY.struct hk;have hX:=hS.cmp t (by rw[show S.en.X (1000000+t)=some c from hc];rfl);have nZ:S.P.fieldsOf t=fields:=by simp[Program.fieldsOf,hd]
      have zR:=hX.2.2;rw[run_equalIn_struct w m t ⟨us⟩ ⟨vs⟩ (by rw[nZ];exact hd) hX.1];rw[nZ]at zR ⊢;rw[<-CA]at h;clear hd CA nZ hx hy
      generalize fields.toList=fl at h zR
      induction fl generalizing b with
      |nil =>
       have h:some true=some b:=h;cases h;rfl
      |cons f fl ihf =>
       have h:(match Rn S.en f.type xs f.offset,Rn S.en f.type ys f.offset with
        |some a,some c=>match uN S.en d f.type a c with
         |some true=>ry S.en (uN S.en d) xs ys (fl.map λf=>(f.offset,f.type))
         |some false=>some false
         |none=>none
        |_,_=>none)=some b:=h
       have hn:f.name≠"_":=zR f (QY ..)
       split at h
       .rename_i p q hp hq
        obtain⟨pu,r1,k1⟩:=Ol hS (w:=w) hp kB;obtain⟨qu,r2,k2⟩:=Ol hS (w:=w) hq sG
        split at h
        .rename_i he
         have r3:=ih m f.type p q pu qu true (by omega) he k1 k2;simp only[Op.eqFields,ne_eq,hn,not_false_eq_true,if_true,Sem.run_bind,r1,r2,r3,Result.andThen_ok];simpa using ihf b h (λg hg=>zR g (QX _ hg))
        .rename_i he
         have r3:=ih m f.type p q pu qu false (by omega) he k1 k2;cases h;simp only[Op.eqFields,ne_eq,hn,not_false_eq_true,if_true,Sem.run_bind,r1,r2,r3,Result.andThen_ok];simp
        .cases h
       .cases h
     .cases h
    .cases h
   .cases h
  .cases h
end
end Go.Cv
