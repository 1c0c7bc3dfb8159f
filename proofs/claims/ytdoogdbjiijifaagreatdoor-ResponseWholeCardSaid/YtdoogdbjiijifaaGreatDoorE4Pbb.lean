/- Part of the proofs of the statements about responses and messages (layers 9 and 10): a symbolic executor over the code, that it is sound, and contracts of functions; it has no conditions of its own. -/
import Derived.Lib.Strings
import Derived.Lib.Slices
import Derived.Lib.Walk
import Derived.Lib.Builder
import Derived.Lib.AppendStr
import Derived.Lib.UnsafeStr
import Derived.WalkKit
import Derived.Laws.Externs
import Derived.Laws.IdiomCopy
import Derived.Test.YtdoogdbjiijifaaGreatDoorE4Pba
import Derived.Test.YtdoogdbjiijifaaGreatDoorE4Paz
namespace Go.Proofs.YtdoogdbjiijifaaGreatDoor
open Go Go.Sx
set_option maxRecDepth 100000
set_option maxHeartbeats 8000000
structure HpS2 (a b : List UInt8) : Prop where
 a : a.length<=64
 b : b.length<=2000
structure RcJ (k : Int) (l : List HF) (i : Nat) (I N : Int) (m : Nat) : Prop where
 lie : AtR l i I m
 lo : 0<=N
 hi : N<=3000 * (i + 1)
 len : l.length<=100
 k : k = Fi (l.drop i) N
def inF : List (List UInt8)->List UInt8->Bool
 | [],_=>false
 | x :: l,s=>(x == s) || inF l s
end Go.Proofs.YtdoogdbjiijifaaGreatDoor
namespace Go.Proofs.YtdoogdbjiijifaaGreatDoor
open Go Go.Sx
set_option maxRecDepth 100000
set_option maxHeartbeats 16000000
def Jm (l : List HF) : Bool:=l.any fun x=>Sv (foldF x.name)
def B7 (r : Rq) : List HF×Int :=
 if A9 r.fields≠0 then ([],A9 r.fields) else if Jm r.fields then ([],8) else
 if (A0 r).2≠0 then ([],(A0 r).2) else ((A0 r).1,A9 (A0 r).1)
structure OwJ (l : List HF) (k : Bool) (i : Nat) (I : Int) (m : Nat) : Prop where
 lie : AtR l i I m
 k : k = Jm (l.drop i)
end Go.Proofs.YtdoogdbjiijifaaGreatDoor
namespace Go.Proofs.YtdoogdbjiijifaaGreatDoor
open Go Go.Sx
set_option maxRecDepth 100000
set_option maxHeartbeats 16000000
def Bt (r : Rq) : List UInt8×List HF×Int :=
 if r.id < 1\/1000000000 < r.id then (sId,[],7) else if !Is r.method then (Adt,[],6) else if r.method = Sd then (Adt,[],9) else
 if (Sw r.target).2≠0 then (sTarget,[],(Sw r.target).2) else if !Ajs r.host then (sHostP,[],6) else
 if (B7 r).2≠0 then (sFields,[],(B7 r).2) else if 65536 < r.body.length then (sBody,[],3) else if (r.body != [] && Ae4 r.method) = true then (sBody,[],2) else ([],(B7 r).1,0)
def Ae1 (r : Rq) : List UInt8×Int:=((Bt r).1,(Bt r).2.2)
end Go.Proofs.YtdoogdbjiijifaaGreatDoor
namespace Go.Proofs.YtdoogdbjiijifaaGreatDoor
open Go Go.RowKit Go.Sx
set_option maxHeartbeats 2000000
set_option maxRecDepth 100000
structure BKept (b : Nat) (v v' : Value) (w w' : World) : Prop where
 os : w'.os = w.os
 tape : w'.tape = w.tape
 output : w'.output = w.output
 size : w.heap.size<=w'.heap.size
 block : ∀ k,k < w.heap.size->k≠b->some k≠v.ownBlock->w'.heap[k]? = w.heap[k]?
 new : ∀ k,v'.ownBlock = some k->v.ownBlock = some k\/w.heap.size<=k
end Go.Proofs.YtdoogdbjiijifaaGreatDoor
namespace Go.Proofs.YtdoogdbjiijifaaGreatDoor
open Go Go.RowKit Go.Sx
set_option maxHeartbeats 2000000
set_option maxRecDepth 100000
structure BldAt (w : World) (b : Nat) (p v : Value) (s : List UInt8) : Prop where
 pp : p = .pointer none\/p = .pointer (some ⟨b,0,none⟩)
 at_ : w.heap[b]? = some (.cells #[p,v] 180 (0,0))
 own : w.ownsRow 0 5 1 v s.length (Lib.byteCells s)
 ne : v.ownBlock≠some b
end Go.Proofs.YtdoogdbjiijifaaGreatDoor
namespace Go.Proofs.YtdoogdbjiijifaaGreatDoor
open Go Go.RowKit Go.Sx
set_option maxHeartbeats 2000000
set_option maxRecDepth 100000
structure Ae7 (v : Value) (w w' : World) : Prop where
 os : w'.os = w.os
 tape : w'.tape = w.tape
 output : w'.output = w.output
 size : w.heap.size<=w'.heap.size
 block : ∀ k,k < w.heap.size->some k≠v.ownBlock->w'.heap[k]? = w.heap[k]?
theorem Ae7.drew (v : Value) (w : World) : Ae7 v w w.drew:=⟨rfl,rfl,rfl,Nat.le_refl _,fun _ _ _=>rfl⟩
theorem Ae7.b {v : Value} {b : Nat} {w w' : World} (h : Ae7 v w w') : BKept b v .nilIface w w' :=
 ⟨h.os,h.tape,h.output,h.size,fun k h1 _ h3=>h.block k h1 h3,fun k hk=>by simp [Value.ownBlock] at hk⟩
end Go.Proofs.YtdoogdbjiijifaaGreatDoor
namespace Go.Proofs.YtdoogdbjiijifaaGreatDoor
open Go Go.RowKit Go.Sx
set_option maxHeartbeats 2000000
set_option maxRecDepth 100000
end Go.Proofs.YtdoogdbjiijifaaGreatDoor
namespace Go.Proofs.YtdoogdbjiijifaaGreatDoor
open Go Go.Sx
set_option maxRecDepth 100000
set_option maxHeartbeats 16000000
def F8 (x : HF) : List UInt8:=((x.name ++ [58,32]) ++ x.value) ++ [13,10]
def Cb (l : List HF) : List UInt8:=l.flatMap F8 ++ [13,10]
def Sq (l : List HF) : List UInt8×Int:=if A9 l≠0 then ([],A9 l) else (Cb l,0)
structure PrJ (l : List HF) (k t : List UInt8) (i : Nat) (I : Int) (m : Nat) : Prop where
 lie : AtR l i I m
 k : k = t ++ Cb (l.drop i)
 len : t.length<=3000 * i
end Go.Proofs.YtdoogdbjiijifaaGreatDoor
namespace Go.Proofs.YtdoogdbjiijifaaGreatDoor
open Go Go.Sx
set_option maxRecDepth 100000
set_option maxHeartbeats 4000000
def sVer : List UInt8:=[32,72,84,84,80,47,49,46,49,13,10]
def Nw (r : Rq) : List UInt8×Int :=
 if (Bt r).2.2≠0 then ([],(Bt r).2.2) else if (Sq (Bt r).2.1).2≠0 then ([],(Sq (Bt r).2.1).2) else
 (((((r.method ++ [32]) ++ r.target) ++ sVer) ++ (Sq (Bt r).2.1).1) ++ r.body,0)
structure ExOk (r : Rq) : Prop where
 method : Is r.method = true
 org : (Sw r.target).2 = 0
 chk : (B7 r).2 = 0
 host : Ajs r.host = true
 body : r.body.length<=65536
 fields : (Bt r).2.1 = (B7 r).1
 id1 : 1<=r.id
 id2 : r.id<=1000000000
 part : (Bt r).1 = []
theorem Aai {r : Rq} (h : (Bt r).2.2 = 0) : ExOk r:=by
 have h0:=h
 unfold Bt at h
 split at h
 ·cases h
 ·rename_i g1
  split at h
  ·cases h
  ·rename_i g2
   split at h
   ·cases h
   ·rename_i g3
    split at h
    ·rename_i g4; exact absurd h g4
    ·rename_i g4
     split at h
     ·cases h
     ·rename_i g5
      split at h
      ·rename_i g6; exact absurd h g6
      ·rename_i g6
       split at h
       ·cases h
       ·rename_i g7
        split at h
        ·cases h
        ·rename_i g8
         refine ⟨by simpa using g2,by simpa using g4,by simpa using g6,by simpa using g5,by omega,?_,by omega,by omega,?_⟩
         ·unfold Bt
          rw [if_neg g1,if_neg g2,if_neg g3,if_neg g4,if_neg g5,if_neg g6,if_neg g7,if_neg g8]
         ·unfold Bt
          rw [if_neg g1,if_neg g2,if_neg g3,if_neg g4,if_neg g5,if_neg g6,if_neg g7,if_neg g8]
end Go.Proofs.YtdoogdbjiijifaaGreatDoor
namespace Go.Proofs.YtdoogdbjiijifaaGreatDoor
open Go Go.Sx
set_option maxRecDepth 100000
set_option maxHeartbeats 4000000
instance : DecidableEq HF:=fun a b=>decidable_of_iff (a.name = b.name/\a.value = b.value) (by cases a; cases b; simp)
instance : DecidableEq Rq:=fun a b=>decidable_of_iff (a.id = b.id/\a.method = b.method/\a.target = b.target/\a.host = b.host/\a.fields = b.fields/\a.body = b.body) (by cases a; cases b; simp)
def spEqH : FSpec:=fun _ xs ls K=>∃ (a b : List HF) (na nb : Bool) (A B : Int) (f g : Nat->List SV),xs = [.sl (.a na) (.a A) 2 f,.sl (.a nb) (.a B) 2 g]/\ls = []/\Bx f A a/\Bx g B b/\∀ r : Bool,r = decide (a = b)->K (.bool (.a r)) []
structure EqJ (k : Bool) (a b : List HF) (i : Nat) (I : Int) (m : Nat) : Prop where
 at_ : AtR a i I m
 k : k = decide (a.drop i = b.drop i)
def eqJ (k : Bool) (a b : List HF) (na nb : Bool) (A B : Int) (f g : Nat->List SV) (m : Nat) (vs : List (Option SV)) (hp : List Hl) : Prop :=
 ∃ (i : Nat) (I : Int),vs = [some (.sl (.a na) (.a A) 2 f),some (.sl (.a nb) (.a B) 2 g),some (.int .i64 (.a I))]/\hp = []/\EqJ k a b i I m
theorem dropH {l : List HF} {i : Nat} (h : i < l.length) : l.drop i = l.getD i default :: l.drop (i + 1):=by
 rw [List.getD_eq_getElem?_getD,List.getElem?_eq_getElem h,Option.getD_some,List.drop_eq_getElem_cons h]
theorem Aak : A2 Tryz.prog gl 28 spEqH:=by
 refine C9 (gh:=[]) mixed Dp Av Tryz.func28 (by kernel_rfl) (by kernel_rfl) ?_
 intro xs ls K h
 unfold spEqH at h
 obtain ⟨a,b,na,nb,A,B,f,g,rfl,rfl,RA,RB,h⟩:=h
 obtain ⟨k,hk⟩ : ∃ k,k = decide (a = b):=⟨_,rfl⟩
 refine ⟨_,_,h k hk,fun D hD=>?_⟩
 cbv
 clear h
 refine br hD (fun h=>?_) (fun h=>?_)<;>cbv
 ·have h2 : A≠B:=by simpa using h
  refine A5 hD ?_
  rw [hk]
  have h3 : a≠b:=fun e=>h2 (by rw [RA.n,RB.n,e])
  show false = _
  symm
  exact decide_eq_false h3
 have h2 : A = B:=by simpa using h
 have hlab : a.length = b.length:=by have:=RA.n; have:=RB.n; omega
 clear h
 obtain ⟨J,hJ⟩ : ∃ J,J = eqJ k a b na nb A B f g:=⟨_,rfl⟩
 refine ⟨[0,1,5],J,⟨rfl,a.length,?_⟩,?_⟩
 ·rw [hJ]
  subst hD
  exact ⟨0,0,rfl,rfl,AtR.zero RA.len,hk⟩
 intro m vs hp' hv
 rw [hJ] at hv
 unfold eqJ at hv
 obtain ⟨i,I,rfl,rfl,V⟩:=hv
 clear hk
 cbv
 refine br hD (fun h=>?_) (fun h=>?_)<;>cbv
 ·have hlt:=V.at_.lt RA.n (of_decide_eq_true (p:=I < A) h)
  clear h
  have hltb : i < b.length:=by omega
  have inA:=V.at_.inB hD RA.n hlt
  have inB' : Sx.InB (D.i (.a I)) (D.i (.a B)):=by have:=V.at_.I; have:=RB.n; subst hD; exact ⟨by show 0<=I; omega,by show I < B; omega⟩
  have hk2:=V.k
  rw [dropH hlt,dropH hltb] at hk2
  have e1:=RA.f i hlt
  have d1:=RB.f i hltb
  obtain ⟨x,hx⟩ : ∃ x,x = a.getD i default:=⟨_,rfl⟩
  obtain ⟨y,hy⟩ : ∃ y,y = b.getD i default:=⟨_,rfl⟩
  rw [<-hx] at e1 hk2
  rw [<-hy] at d1 hk2
  clear hx hy
  obtain ⟨x1,x2⟩:=x
  obtain ⟨y1,y2⟩:=y
  have hst:=V.at_.step hD hlt
  refine ⟨inA,fun j hj=>?_⟩
  have hj:=V.at_.j hD hj
  cbv
  rw [hj,e1]
  cbv
  refine ⟨inB',fun j2 hj2=>?_⟩
  have hj2:=V.at_.j hD hj2
  cbv
  rw [hj2,d1]
  cbv
  refine br hD (fun h=>?_) (fun h=>?_)<;>cbv
  ·have h : (!((x1 == y1) && (x2 == y2))) = true:=h
   refine A5 hD ?_
   show false = k
   rw [hk2]
   symm
   apply decide_eq_false
   intro e
   injection e with e1 e2
   injection e1 with e3 e4
   rw [e3,e4] at h
   simp at h
  ·have h : (!((x1 == y1) && (x2 == y2))) = false:=h
   simp only [Bool.not_eq_false',Bool.and_eq_true,beq_iff_eq] at h
   refine ⟨_,hst.1,?_⟩
   rw [hJ]
   unfold eqJ
   subst hD
   refine ⟨i + 1,_,rfl,rfl,⟨hst.2,?_⟩⟩
   rw [hk2,h.1,h.2]
   simp
 ·have he:=V.at_.eq RA.n (of_decide_eq_false (p:=I < A) h)
  refine A5 hD ?_
  show true = k
  rw [V.k,List.drop_eq_nil_of_le (by omega),List.drop_eq_nil_of_le (by omega)]
  rfl
end Go.Proofs.YtdoogdbjiijifaaGreatDoor
namespace Go.Proofs.YtdoogdbjiijifaaGreatDoor
open Go Go.Sx
set_option maxRecDepth 100000
set_option maxHeartbeats 8000000
def getF (l : List HF) (t : List UInt8) : List (List UInt8):=(l.filter fun x=>foldF x.name == foldF t).map HF.value
structure GtJ (l : List HF) (t : List UInt8) (k out : List (List UInt8)) (i : Nat) (I n : Int) (b : Bool) (f : Nat->List SV) (m : Nat) : Prop where
 lie : AtR l i I m
 row : GrS f n b out
 ol : out.length<=i
 k : k = out ++ getF (l.drop i) t
end Go.Proofs.YtdoogdbjiijifaaGreatDoor
namespace Go.Proofs.YtdoogdbjiijifaaGreatDoor
open Go Go.Sx
set_option maxRecDepth 100000
set_option maxHeartbeats 16000000
def elsF (els : List (List UInt8)) : List (List UInt8):=(els.filter Bj).map foldF
def Ai7 : List (List UInt8)->List (List UInt8)->Option (List (List UInt8))
 | [],out=>some out
 | v :: r,out=>if (Bb v).2≠0 then none else Ai7 r (out ++ elsF (Bb v).1)
structure NaJ (vs : List (List UInt8)) (k : Option (List (List UInt8))) (out : List (List UInt8)) (i : Nat) (I n : Int) (b : Bool) (f : Nat->List SV) (m : Nat) : Prop where
 lie : AtR vs i I m
 row : Cc f n out
 nl : b = false
 ol : out.length<=7 + i * 2001
 ne : out≠[]
 vl : vs.length<=100
 vm : ∀ x∈vs,x.length<=2000
 k : k = Ai7 (vs.drop i) out
structure NbJ (els : List (List UInt8)) (fin out : List (List UInt8)) (i j : Nat) (J n : Int) (b : Bool) (f : Nat->List SV) (m : Nat) : Prop where
 lie : AtR els j J m
 row : Cc f n out
 nl : b = false
 ol : out.length<=7 + i * 2001 + j
 el : els.length<=2001
 i : i<=100
 ne : out≠[]
 k : fin = out ++ elsF (els.drop j)
end Go.Proofs.YtdoogdbjiijifaaGreatDoor
namespace Go.Proofs.YtdoogdbjiijifaaGreatDoor
open Go Go.Sx
set_option maxRecDepth 100000
set_option maxHeartbeats 16000000
def keptR (o : List (List UInt8)) (l : List HF) : List HF:=l.filter fun x=>!inF o (foldF x.name)
structure StJ (l : List HF) (o : List (List UInt8)) (k out : List HF) (i : Nat) (I n : Int) (b : Bool) (f : Nat->List SV) (m : Nat) : Prop where
 lie : AtR l i I m
 row : GrH f n b out
 ol : out.length<=i
 k : k = out ++ keptR o (l.drop i)
end Go.Proofs.YtdoogdbjiijifaaGreatDoor
namespace Go.Proofs.YtdoogdbjiijifaaGreatDoor
open Go Go.Sx
set_option maxRecDepth 100000
set_option maxHeartbeats 8000000
structure EnV (s : List UInt8) (i : Nat) (I : Int) : Prop where
 I : I = i
 len : s.length<=1000000
 le : i<=s.length
end Go.Proofs.YtdoogdbjiijifaaGreatDoor
namespace Go.Proofs.YtdoogdbjiijifaaGreatDoor
open Go Go.Sx
set_option maxRecDepth 100000
set_option maxHeartbeats 8000000
structure DgV (n : Int) (k : Nat) : Prop where
 lo : 0<=n
 lt : n < (k + 1 : Nat)
 hi : n<=9223372036854775807
structure HpE2 (n : Int) (k : Nat) : Prop where
 h : n < k
end Go.Proofs.YtdoogdbjiijifaaGreatDoor
namespace Go.Proofs.YtdoogdbjiijifaaGreatDoor
open Go Go.Sx
set_option maxRecDepth 100000
set_option maxHeartbeats 8000000
end Go.Proofs.YtdoogdbjiijifaaGreatDoor
namespace Go.Proofs.YtdoogdbjiijifaaGreatDoor
open Go Go.Sx
set_option maxRecDepth 100000
set_option maxHeartbeats 8000000
end Go.Proofs.YtdoogdbjiijifaaGreatDoor
namespace Go.Proofs.YtdoogdbjiijifaaGreatDoor
open Go Go.Sx
set_option maxRecDepth 100000
set_option maxHeartbeats 16000000
theorem pre47 (s : List UInt8) : Lib.hasPrefix s [47] = decide (s≠[]/\charI s 0 = 47):=by
 cases s with
 | nil=>rfl
 | cons b r =>
  rw [Bool.eq_iff_iff]
  simp only [Lib.hasPrefix,List.isPrefixOf,Bool.and_true,beq_iff_eq,decide_eq_true_eq,ne_eq,reduceCtorEq,not_false_eq_true,true_and]
  unfold charI
  simp only [List.getD_cons_zero]
  constructor
  ·intro h; rw [<-h]; rfl
  ·intro h
   have : b.toNat = 47:=by omega
   exact (UInt8.toNat_inj.1 this).symm
end Go.Proofs.YtdoogdbjiijifaaGreatDoor
namespace Go.Proofs.YtdoogdbjiijifaaGreatDoor
open Go Go.Sx
set_option maxRecDepth 100000
set_option maxHeartbeats 16000000
structure IdOk (id : Int) : Prop where
 lo : 0<=id
end Go.Proofs.YtdoogdbjiijifaaGreatDoor
namespace Go.Proofs.YtdoogdbjiijifaaGreatDoor
open Go Go.Sx
set_option maxRecDepth 100000
set_option maxHeartbeats 8000000
def Bu (l : List HF) (t : List UInt8) : List (List UInt8):=(l.filter fun x=>foldF x.name == t).map HF.value
theorem K5 (x : HF) (l : List HF) (t : List UInt8) : Bu (x :: l) t = if foldF x.name == t then x.value :: Bu l t else Bu l t:=by
 unfold Bu
 rw [List.filter_cons]
 split<;>simp
structure VaJ (l : List HF) (t : List UInt8) (k out : List (List UInt8)) (i : Nat) (I n : Int) (b : Bool) (f : Nat->List SV) (m : Nat) : Prop where
 lie : AtR l i I m
 row : GrS f n b out
 ol : out.length<=i
 k : k = out ++ Bu (l.drop i) t
theorem Rl (l : List HF) (t : List UInt8) : (Bu l t).length<=l.length:=by
 unfold Bu
 rw [List.length_map]
 exact List.length_filter_le ..
def digB (c : Int) : Bool:=decide (48<=c) && decide (c<=57)
end Go.Proofs.YtdoogdbjiijifaaGreatDoor
namespace Go.Proofs.YtdoogdbjiijifaaGreatDoor
open Go Go.Sx
set_option maxRecDepth 100000
set_option maxHeartbeats 8000000
def Oj (s : List UInt8) : HF×Bool :=
 if (!(Ap 58 s).2.2 || !Bj (Ap 58 s).1) || !Ci (Ap 58 s).2.1 then (⟨[],[]⟩,false) else (⟨(Ap 58 s).1,trimF (Ap 58 s).2.1⟩,true)
structure LenLe3 (a : List UInt8) (n : Nat) : Prop where
 h : a.length<=n
structure RdJ (s : List UInt8) (i : Nat) (I : Int) (m : Nat) : Prop where
 lie : At s i I m
 k : Ap 58 s = (s.take i ++ (Ap 58 (s.drop i)).1,(Ap 58 (s.drop i)).2)
structure EqB (a b : Bool) : Prop where
 h : a = b
end Go.Proofs.YtdoogdbjiijifaaGreatDoor
namespace Go.Proofs.YtdoogdbjiijifaaGreatDoor
open Go Go.Sx
set_option maxRecDepth 100000
set_option maxHeartbeats 400000
def noNl (b : List UInt8) (p i : Nat) : Prop:=∀ j,p<=j->j < i->b.getD j 0≠10
theorem Xk {s : List UInt8} {c : UInt8} : ∀ {j : Nat},j < s.length->s.getD j 0 = c->(∀ k,k < j->s.getD k 0≠c)->Lib.indexByte s c = (j : Int):=by
 induction s with
 | nil=>intro j h; simp at h
 | cons b r ih =>
  intro j h hc hn
  unfold Lib.indexByte
  cases j with
  | zero=>rw [if_pos (by simp [show b = c by simpa using hc])]; rfl
  | succ j =>
   have h0:=hn 0 (by omega)
   rw [if_neg (by simpa using h0)]
   rw [ih (j:=j) (by simpa using h) (by simpa using hc) (fun k hk=>by have:=hn (k + 1) (by omega); simpa using this)]
   rw [if_neg (by simp<;>omega)]
   omega
theorem nl_at {b : List UInt8} {p i : Nat} (hp : p<=i) (h : i < b.length) (hc : b.getD i 0 = 10) (hn : noNl b p i) : Lib.indexByte (b.drop p) 10 = ((i - p : Nat) : Int):=by
 apply Xk
 ·rw [List.length_drop]; omega
 ·rw [List.getD_eq_getElem?_getD,List.getElem?_drop,<-List.getD_eq_getElem?_getD,show p + (i - p) = i by omega,hc]
 ·intro k hk
  have:=hn (p + k) (by omega) (by omega)
  rw [List.getD_eq_getElem?_getD,List.getElem?_drop,<-List.getD_eq_getElem?_getD]; exact this
def hpL (b : List UInt8) (m i : Nat) (r : List HF) (cr : Bool) (s : List UInt8) : List HF×Int×Int :=
 if (!cr) || decide (0<=Lib.indexByte s 13) then ([],0,6) else
 if s = [] then (r,(i : Int) + 1,0) else
 if (!(Oj s).2) then ([],0,6) else
 if decide (2000 < (Oj s).1.value.length) || decide (r.length = 100) then ([],0,3) else
 hpG b m (i + 1) (r ++ [(Oj s).1])
theorem suf1 (s : List UInt8) (c : UInt8) : Lib.hasSuffix s [c] = (decide (s≠[]) && (s.getD (s.length - 1) 0 == c)):=by
 rw [Bool.eq_iff_iff]
 unfold Lib.hasSuffix
 rw [List.isSuffixOf_iff_suffix,Bool.and_eq_true,decide_eq_true_eq,beq_iff_eq]
 constructor
 ·rintro ⟨t,rfl⟩
  refine ⟨by simp,?_⟩
  rw [List.length_append]
  simp [List.getD_eq_getElem?_getD]
 ·rintro ⟨h1,h2⟩
  refine ⟨s.take (s.length - 1),?_⟩
  have hl : s.length - 1 < s.length:=by cases s with | nil=>exact absurd rfl h1 | cons a r=>simp
  rw [Lc hl] at h2
  have:=List.take_append_drop (s.length - 1) s
  rw [Cl hl,Lc hl,h2,List.drop_eq_nil_of_le (by omega)] at this
  exact this
theorem hp_line {b : List UInt8} {p m i : Nat} {r : List HF} (hp : p<=i) (h : i < b.length) (hc : b.getD i 0 = 10) (hn : noNl b p i) (h8 : i < 8192) (cr : Bool) (hcr : cr = (decide (i≠p) && (b.getD (i - 1) 0 == 13))) :
  (cr = false->hpG b (m + 1) p r = ([],0,6))/\(cr = true->hpG b (m + 1) p r = hpL b m i r true ((b.drop p).take (i - 1 - p))):=by
 have hs : Lib.hasSuffix ((b.drop p).take (i - p)) [13] = cr:=by
  rw [suf1,hcr]
  by_cases e : i = p
  ·rw [e]; simp
  ·have hl : ((b.drop p).take (i - p)).length = i - p:=by rw [List.length_take,List.length_drop]; omega
   have e1 : decide ((b.drop p).take (i - p)≠[]) = true:=by
    rw [decide_eq_true_eq]; intro e2; rw [e2] at hl; simp at hl; omega
   have e2 : decide (i≠p) = true:=by simpa using e
   rw [e1,e2,Bool.true_and,Bool.true_and,hl]
   rw [List.getD_eq_getElem?_getD,List.getElem?_take,if_pos (by omega),List.getElem?_drop,<-List.getD_eq_getElem?_getD,show p + (i - p - 1) = i - 1 by omega]
 have hkey : (cr = true->Lib.trimSuffix ((b.drop p).take (i - p)) [13] = (b.drop p).take (i - 1 - p)):=fun e=>by
  unfold Lib.trimSuffix
  rw [hs,if_pos e,List.length_take,List.length_drop,List.take_take]
  congr 1
  simp only [List.length_cons,List.length_nil]
  omega
 rw [hpG,nl_at hp h hc hn]
 rw [if_neg (by simp; omega),if_neg (by omega)]
 have ent : (((i - p : Nat) : Int)).toNat = i - p:=by omega
 rw [ent,hs]
 refine ⟨fun e=>by rw [if_pos (by rw [e]; rfl)],fun e=>?_⟩
 rw [hkey e]
 obtain ⟨s,hse⟩ : ∃ s,s = (b.drop p).take (i - 1 - p):=⟨_,rfl⟩
 rw [<-hse]
 have e3 : (p : Int) + ((i - p : Nat) : Int) + 1 = (i : Int) + 1:=by omega
 have e4 : p + (i - p) + 1 = i + 1:=by omega
 rw [e3,e4,e]
 unfold hpL Oj
 split
 ·rfl
 split
 ·rfl
 split
 ·simp
 ·simp only [Bool.not_true,Bool.false_eq_true,if_false]
end Go.Proofs.YtdoogdbjiijifaaGreatDoor
namespace Go.Proofs.YtdoogdbjiijifaaGreatDoor
open Go Go.Sx
set_option maxRecDepth 100000
set_option maxHeartbeats 8000000
def Dv (s : List UInt8) : Bool:=s.all fun b=>digB (b.toNat : Int)
def Nz (s : List UInt8) : List UInt8:=if (1 < s.length/\charI s 0 = 45)/\charI s 1≠48 then s.drop 1 else s
def Ac3 (s : List UInt8) : Bool:=(!(decide (Nz s = []) || (decide (1 < (Nz s).length) && decide (charI (Nz s) 0 = 48)))) && Dv (Nz s)
theorem Aav (t : List UInt8) : (Lib.trimS t X3 = [])↔Dv t = true:=by
 unfold Dv
 rw [List.all_eq_true]
 have e : ∀ c : UInt8,X3.contains c = digB (c.toNat : Int):=fun c=>by
  rw [Bool.eq_iff_iff,dig_in]
  unfold digB
  simp only [Bool.and_eq_true,decide_eq_true_eq]
  omega
 constructor
 ·intro h c hc
  rw [<-e]
  exact Afi h c hc
 ·intro h
  show ((t.reverse.dropWhile (fun x=>X3.contains x)).reverse).dropWhile (fun x=>X3.contains x) = []
  rw [D7]
  intro x hx
  have hx:=List.mem_reverse.1 hx
  have hx : x∈t.reverse:=(List.dropWhile_suffix _).subset hx
  rw [e]
  exact h x (List.mem_reverse.1 hx)
theorem Aez (s : List UInt8) : Ac3 s = Aax s:=by
 unfold Aax
 have hA : ∀ t : List UInt8,(t = []\/Lib.trimS t X3≠[])↔¬ (t≠[]/\Dv t = true):=fun t=>by
  rw [<-Aav]
  constructor
  ·rintro (h | h) ⟨a,b⟩
   ·exact a h
   ·exact h b
  ·intro h
   rcases Decidable.em (t = []) with e | e
   ·exact .inl e
   ·exact .inr fun g=>h ⟨e,g⟩
 match s with
 | []=>rfl
 | c :: r =>
  by_cases hc : c = 45
  ·subst hc
   have hp : Gt (45 :: r) [45] = r:=by
    unfold Gt preB
    simp
   rw [hp]
   match r with
   | []=>rfl
   | d :: r' =>
    by_cases hd : d = 48
    ·subst hd
     have ht : Nz (45 :: 48 :: r') = 45 :: 48 :: r':=by
      unfold Nz
      rw [if_neg]
      rintro ⟨_,h⟩
      exact h rfl
     have h1 : Ac3 (45 :: 48 :: r') = false:=by
      unfold Ac3
      rw [ht]
      have : Dv (45 :: 48 :: r') = false:=rfl
      rw [this,Bool.and_false]
     rw [h1]
     split
     ·rfl
     ·show false = (((48 : UInt8) != 48) || ((45 :: 48 :: r' : List UInt8) == [48]))
      rfl
    ·have ht : Nz (45 :: d :: r') = d :: r':=by
      unfold Nz
      rw [if_pos]
      ·rfl
      ·refine ⟨⟨by simp,rfl⟩,fun h=>hd ?_⟩
       have h : (d.toNat : Int) = 48:=h
       have : d.toNat = 48:=by omega
       exact UInt8.toNat_inj.1 this
     unfold Ac3
     rw [ht]
     have e0 : decide (charI (d :: r') 0 = 48) = false:=by
      rw [decide_eq_false]
      intro h
      apply hd
      have h : (d.toNat : Int) = 48:=h
      have : d.toNat = 48:=by omega
      exact UInt8.toNat_inj.1 this
     rw [e0,Bool.and_false]
     have e1 : ((d :: r').getD 0 0 != 48) = true:=by simpa using hd
     rw [e1,Bool.true_or]
     by_cases hg : Dv (d :: r') = true
     ·rw [if_neg (by rw [hA]; simp [hg]),hg]
      simp
     ·rw [if_pos (by rw [hA]; exact fun h=>hg h.2)]
      simp at hg
      simp [hg]
  ·have hp : Gt (c :: r) [45] = c :: r:=by
    unfold Gt preB
    simp [hc]
   rw [hp]
   have ht : Nz (c :: r) = c :: r:=by
    unfold Nz
    rw [if_neg]
    rintro ⟨⟨_,h⟩,_⟩
    apply hc
    have h : (c.toNat : Int) = 45:=h
    have : c.toNat = 45:=by omega
    exact UInt8.toNat_inj.1 this
   unfold Ac3
   rw [ht]
   by_cases hg : Dv (c :: r) = true
   ·rw [if_neg (by rw [hA]; simp [hg]),hg,Bool.and_true]
    by_cases h48 : c = 48
    ·subst h48
     cases r with
     | nil=>rfl
     | cons d r' =>
      show (!(decide _ || (decide (1 < r'.length + 1 + 1) && true))) = _
      rw [decide_eq_true (show 1 < r'.length + 1 + 1 by omega)]
      simp
    ·have e0 : decide (charI (c :: r) 0 = 48) = false:=by
      rw [decide_eq_false]
      intro h
      apply h48
      have h : (c.toNat : Int) = 48:=h
      have : c.toNat = 48:=by omega
      exact UInt8.toNat_inj.1 this
     have e1 : ((c :: r).getD 0 0 != 48) = true:=by simpa using h48
     rw [e0,e1,Bool.and_false]
     simp
   ·rw [if_pos (by rw [hA]; exact fun h=>hg h.2)]
    simp at hg
    simp [hg]
end Go.Proofs.YtdoogdbjiijifaaGreatDoor
namespace Go.Proofs.YtdoogdbjiijifaaGreatDoor
open Go Go.Sx
set_option maxRecDepth 100000
set_option maxHeartbeats 16000000
def B4 : Nat->List UInt8->Nat
 | acc,[]=>acc
 | acc,c :: r=>if c = 45 then B4 acc r else B4 (acc * 10 + (c.toNat - 48)) r
theorem R9 : ∀ (l : List UInt8) (acc : Nat),acc<=B4 acc l
 | [],acc=>Nat.le_refl _
 | c :: r,acc=>by
  unfold B4
  split
  ·exact R9 r acc
  ·exact Nat.le_trans (by omega) (R9 r _)
def Agn (s : List UInt8) (hi : Int) : Int×Int :=
 if !Aax s then (0,6) else if charI s 0 = 45 then (0,7) else if (B4 0 s : Int)<=hi then ((B4 0 s : Int),0) else (0,7)
theorem Ain : ∀ (l : List UInt8) (acc : Nat),(∀ c∈l,48<=c.toNat/\c.toNat<=57)->acc<=18446744073709551615->Lib.parseUintM 18446744073709551615 acc l = if B4 acc l<=18446744073709551615 then .ok (B4 acc l) else .range
 | [],acc,_,h=>by simp [Lib.parseUintM,B4,h]
 | c :: r,acc,h,ha=>by
  have hc:=h c (List.mem_cons_self ..)
  have hr : ∀ d∈r,48<=d.toNat/\d.toNat<=57:=fun d hd=>h d (List.mem_cons_of_mem _ hd)
  have hne : c≠45:=by rintro rfl; exact absurd hc.1 (by decide)
  rw [Lib.parseUintM,if_pos hc,B4,if_neg hne]
  have hm:=R9 r (acc * 10 + (c.toNat - 48))
  split
  ·rw [if_neg (by omega)]
  ·split
   ·rw [if_neg (by omega)]
   ·exact Ain r _ hr (by omega)
theorem Mi {s : List UInt8} (h : Dv s = true) : ∀ c∈s,48<=c.toNat/\c.toNat<=57:=fun c hc=>by
 have:=List.all_eq_true.1 h c hc
 unfold digB at this
 simp only [Bool.and_eq_true,decide_eq_true_eq] at this
 omega
theorem Ais {s : List UInt8} (hne : s≠[]) (h : Dv s = true) : Af1 s = if B4 0 s < 9223372036854775808 then ((B4 0 s : Int),true) else (9223372036854775807,false):=by
 match s,hne with
 | c :: r,_ =>
  have hd:=Mi h
  have hc:=hd c (List.mem_cons_self ..)
  have hpm:=Ain (c :: r) 0 hd (by omega)
  have hp : Lib.parseIntB 64 (c :: r) = if B4 0 (c :: r) < 9223372036854775808 then .ok (B4 0 (c :: r) : Int) else .range:=by
   unfold Lib.parseIntB
   simp only
   rw [if_neg (by omega)]
   unfold Lib.parseUintB
   rw [if_neg (by simp)]
   have hpm2 : Lib.parseUintM (2 ^ 64 - 1) 0 (c :: r) = if B4 0 (c :: r)<=18446744073709551615 then .ok (B4 0 (c :: r)) else .range:=hpm
   rw [hpm2]
   generalize B4 0 (c :: r) = v
   by_cases h1 : v<=18446744073709551615
   ·rw [if_pos h1]
    simp only
    by_cases h2 : v < 9223372036854775808
    ·rw [if_neg (by omega),if_neg (by omega),if_neg (by omega),if_pos h2]
    ·rw [if_pos ⟨by omega,by omega⟩,if_neg h2]
   ·rw [if_neg h1,if_neg (by omega)]
  unfold Af1
  rw [hp]
  by_cases h2 : B4 0 (c :: r) < 9223372036854775808
  ·rw [if_pos h2,if_pos h2]
  ·rw [if_neg h2,if_neg h2]
   have : Lib.intSat 64 (c :: r) = 9223372036854775807:=by
    unfold Lib.intSat
    rw [if_neg (by simp; omega)]
    rfl
   rw [this]
theorem Ac4 {s : List UInt8} (h : Aax s = true) (h0 : charI s 0≠45) : s≠[]/\Dv s = true:=by
 rw [<-Aez] at h
 unfold Ac3 at h
 have ht : Nz s = s:=by unfold Nz; rw [if_neg (fun g=>h0 g.1.2)]
 rw [ht] at h
 simp only [Bool.and_eq_true,Bool.not_eq_true',Bool.or_eq_false_iff,decide_eq_false_iff_not] at h
 exact ⟨h.1.1,h.2⟩
theorem Zj (s : List UInt8) {hi : Int} (h0 : 0<=hi) (h1 : hi<=1000000000) : Gb s hi = if (Agn s hi).2 = 7/\charI s 0 = 45 then ((Agn s hi).1,6) else Agn s hi:=by
 unfold Gb Agn
 have hp : Lib.hasPrefix s [45] = decide (s≠[]/\charI s 0 = 45):=by
  cases s with
  | nil=>rfl
  | cons b r =>
   rw [Bool.eq_iff_iff]
   simp only [Lib.hasPrefix,List.isPrefixOf,Bool.and_true,beq_iff_eq,decide_eq_true_eq,ne_eq,reduceCtorEq,not_false_eq_true,true_and]
   unfold charI
   simp only [List.getD_cons_zero]
   constructor
   ·intro h; rw [<-h]; rfl
   ·intro h
    have : b.toNat = 45:=by omega
    exact (UInt8.toNat_inj.1 this).symm
 by_cases hd : Aax s = true
 ·rw [hd]
  by_cases h45 : charI s 0 = 45
  ·have hne : s≠[]:=by rintro rfl; revert h45; decide
   rw [hp,decide_eq_true ⟨hne,h45⟩]
   simp [h45]
  ·have hP:=Ac4 hd h45
   rw [hp,decide_eq_false (fun g=>h45 g.2)]
   simp only [Bool.not_true,Bool.false_eq_true,if_false,h45]
   unfold intF
   rw [hd,Ais hP.1 hP.2]
   simp only [Bool.not_true,Bool.false_eq_true,if_false]
   generalize B4 0 s = v
   by_cases h2 : v < 9223372036854775808
   ·rw [if_pos h2]
    simp only [Bool.true_eq_false,false_or]
    by_cases h3 : (v : Int)<=hi
    ·rw [if_neg (by omega),if_pos h3]
     simp
    ·rw [if_pos (by omega),if_neg h3]
     simp
   ·have h4 : ¬ (v : Int)<=hi:=by omega
    rw [if_neg h2,if_pos (.inl rfl),if_neg h4]
    simp
 ·have hd : Aax s = false:=by simpa using hd
  rw [hd]
  simp only [Bool.not_false,if_true]
  have e7 : ¬ ((6 : Int) = 7/\charI s 0 = 45):=fun g=>absurd g.1 (by decide)
  rw [if_neg e7]
  split
  ·simp
  ·unfold intF; rw [hd]; simp
end Go.Proofs.YtdoogdbjiijifaaGreatDoor
namespace Go.Proofs.YtdoogdbjiijifaaGreatDoor
open Go Go.Sx
set_option maxRecDepth 100000
set_option maxHeartbeats 4000000
structure LenOk (t : List UInt8) : Prop where
 h : t.length<=100000
structure CondIs (c : Bool) (s : List UInt8) : Prop where
 h : c = decide ((1 < s.length/\charI s 0 = 45)/\charI s 1≠48)
end Go.Proofs.YtdoogdbjiijifaaGreatDoor
namespace Go.Proofs.YtdoogdbjiijifaaGreatDoor
open Go Go.Sx
set_option maxRecDepth 100000
set_option maxHeartbeats 4000000
structure InJ (s : List UInt8) (fin acc i : Nat) (I N : Int) (m : Nat) : Prop where
 lie : At s i I m
 N : N = -(acc : Int)
 le : acc<=9223372036854775808
 k : fin = B4 acc (s.drop i)
 cs : ∀ c∈s,c.toNat = 45\/(48<=c.toNat/\c.toNat<=57)
structure HiOk (hi : Int) : Prop where
 lo : 0<=hi
 hi : hi<=1000000000
structure FinIs (fin : Nat) (mn : Bool) : Prop where
 h : mn = true->1<=fin
structure IntK (kv ke : Int) (mn : Bool) (fin : Nat) (hi : Int) : Prop where
 h : (kv,ke) = if mn = true then ((0 : Int),(7 : Int)) else if (fin : Int)<=hi then ((fin : Int),0) else (0,7)
structure QuoIs (q : Int) (d : Nat) : Prop where
 h : q = -(((9223372036854775808 - d) / 10 : Nat) : Int)
structure NIs (N : Int) (fin : Nat) : Prop where
 h : N = -(fin : Int)
 le : fin<=9223372036854775808
structure KIs (kv ke : Int) (fin : Nat) (hi : Int) : Prop where
 h : (kv,ke) = if (false = true) then ((0 : Int),(7 : Int)) else if (fin : Int)<=hi then ((fin : Int),0) else (0,7)
end Go.Proofs.YtdoogdbjiijifaaGreatDoor
namespace Go.Proofs.YtdoogdbjiijifaaGreatDoor
open Go Go.Sx
set_option maxRecDepth 100000
set_option maxHeartbeats 4000000
end Go.Proofs.YtdoogdbjiijifaaGreatDoor
namespace Go.Proofs.YtdoogdbjiijifaaGreatDoor
open Go Go.Sx
set_option maxRecDepth 100000
set_option maxHeartbeats 16000000
theorem Ael (b : List UInt8) : ∀ (m p : Nat) (r : List HF),p<=b.length->(∀ x∈r,x.value.length<=2000)->
  (∀ x∈(hpG b m p r).1,x.value.length<=2000)/\0<=(hpG b m p r).2.1/\(hpG b m p r).2.1<=b.length
 | 0,p,r,_,_=>⟨fun x hx=>by simp [hpG] at hx,by simp [hpG],by simp [hpG]⟩
 | m + 1,p,r,hp,hs=>by
  have h0 : ∀ z : Int,(∀ x∈(([],0,z) : List HF×Int×Int).1,x.value.length<=2000)/\0<=(([],0,z) : List HF×Int×Int).2.1/\(([],0,z) : List HF×Int×Int).2.1<=(b.length : Int):=fun z=>⟨fun x hx=>(nomatch hx),by simp,by simp⟩
  have hi:=Lb (s:=b.drop p) (c:=10)
  rw [List.length_drop] at hi
  unfold hpG
  split
  ·exact h0 _
  split
  ·exact h0 _
  rename_i hn
  have hi2:=hi.2 (by omega)
  split
  ·exact h0 _
  split
  ·exact ⟨hs,by show 0<=(p : Int) + _ + 1; omega,by show (p : Int) + _ + 1<=_; omega⟩
  split
  ·exact h0 _
  split
  ·exact h0 _
  rename_i h
  simp only [Bool.or_eq_true,decide_eq_true_eq,not_or] at h
  obtain ⟨h1,h2⟩:=h
  refine Ael b m _ _ (by omega) fun x hx=>?_
  rcases List.mem_append.1 hx with hx | hx
  ·exact hs x hx
  ·have hx:=List.mem_singleton.1 hx
   subst hx
   show (trimF _).length<=_
   omega
theorem Aco (b : List UInt8) : (∀ x∈(Ax b).1,x.value.length<=2000)/\0<=(Ax b).2.1/\(Ax b).2.1<=b.length:=Ael b _ 0 [] (by omega) (fun x hx=>by cases hx)
structure FrSm (r : Fr) : Prop where
 hosts : ∀ s∈r.hosts,s.length<=2000
 ids : ∀ s∈r.ids,s.length<=2000
 lens : ∀ s∈r.lens,s.length<=2000
def rqZ : Rq:=⟨0,[],[],[],[],[]⟩
def Aip (b : List UInt8) (r : Rq) (p sz : Int) : Rq×Int×Int :=
 if (Ae1 r).2≠0 then (rqZ,0,(Ae1 r).2) else if decide (0 < sz) && Ae4 r.method then (rqZ,0,2) else if (b.length : Int) - p < sz then (rqZ,0,10) else
 (⟨r.id,r.method,r.target,r.host,r.fields,(b.drop p.toNat).take sz.toNat⟩,p + sz,0)
def Aiq (b me ta : List UInt8) (p : Int) (ho : List UInt8) (fs : List HF) (ia la : Int×Int) : Rq×Int×Int :=
 if ia.2 = 6\/la.2 = 6 then (rqZ,0,6) else if la.2≠0 then (rqZ,0,3) else Aip b ⟨ia.1,me,ta,ho,fs,[]⟩ p la.1
def Aj0 (fr : Fr) : Bool:=((fr.hosts.length != 1 || fr.ids.length != 1) || decide (1 < fr.lens.length)) || fr.coded
def lenS (fr : Fr) : List UInt8:=if fr.lens.length = 0 then [48] else fr.lens.getD 0 []
def Air (b me ta : List UInt8) (p : Int) (fr : Fr) : Rq×Int×Int :=
 if Aj0 fr then (rqZ,0,6) else Aiq b me ta p (fr.hosts.getD 0 []) fr.rest (Gb (fr.ids.getD 0 []) 1000000000) (Gb (lenS fr) 65536)
def Aio (b : List UInt8) : Rq×Int×Int :=
 if (Cw b).2.2.2≠0 then (rqZ,0,(Cw b).2.2.2) else
 if (Ax (b.drop (Cw b).2.2.1.toNat)).2.2≠0 then (rqZ,0,(Ax (b.drop (Cw b).2.2.1.toNat)).2.2) else
 Air b (Cw b).1 (Cw b).2.1 ((Cw b).2.2.1 + (Ax (b.drop (Cw b).2.2.1.toNat)).2.1) (H8 (Ax (b.drop (Cw b).2.2.1.toNat)).1)
structure PV (b me ta : List UInt8) (p : Int) : Prop where
 lo : 0<=p
 hi : p<=(b.length : Int)
 me : me.length<=1025
 ta : ta.length<=1025
end Go.Proofs.YtdoogdbjiijifaaGreatDoor
namespace Go.Proofs.YtdoogdbjiijifaaGreatDoor
open Go Go.Sx
set_option maxRecDepth 100000
set_option maxHeartbeats 4000000
def findV (t : List UInt8) : List HF->Option (List UInt8)
 | []=>none
 | x :: l=>if foldF x.name = t then some x.value else findV t l
structure KyJ (l : List HF) (k : Option (List UInt8)) (t : List UInt8) (i : Nat) (I : Int) (m : Nat) : Prop where
 lie : AtR l i I m
 k : k = findV t (l.drop i)
end Go.Proofs.YtdoogdbjiijifaaGreatDoor
namespace Go.Proofs.YtdoogdbjiijifaaGreatDoor
open Go Go.Sx
set_option maxRecDepth 100000
set_option maxHeartbeats 4000000
end Go.Proofs.YtdoogdbjiijifaaGreatDoor
namespace Go.Proofs.YtdoogdbjiijifaaGreatDoor
open Go Go.Sx
set_option maxRecDepth 100000
set_option maxHeartbeats 4000000
structure LnJ (b : List UInt8) (i : Nat) (I : Int) (m : Nat) : Prop where
 lie : At b i I m
 le : i<=1024
 k : lnK b i
structure CB (c : Int) (x : UInt8) : Prop where
 h : c = (x.toNat : Int)
structure CK (g : Bool) (c : Int) (x : UInt8) : Prop where
 h : g = true->c = (x.toNat : Int)
structure SpJ (t : List UInt8) (k : Nat) (I P : Int) (m : Nat) : Prop where
 lie : At t k I m
 p : P < (t.length : Int)
 p0 : -1<=P
 k : spK t k P
structure LnX (s x : List UInt8) : Prop where
 x : 11<=s.length->x = s.drop (s.length - 11)
 w : 11<=s.length->IntKind.i64.wrap ((s.length : Int) - 11) = ((s.length - 11 : Nat) : Int)
structure PRa (t : List UInt8) (P : Int) : Prop where
 p : P < (t.length : Int)
 p0 : -1<=P
end Go.Proofs.YtdoogdbjiijifaaGreatDoor
namespace Go.Proofs.YtdoogdbjiijifaaGreatDoor
open Go Go.Sx
set_option maxRecDepth 100000
set_option maxHeartbeats 400000
theorem Aja : Ki≠nId/\Ki≠nLen/\Ki≠nTE/\nId≠nLen/\nId≠nTE/\nLen≠nTE:=by decide
theorem Bi (x : HF) (l : List HF) (t : List UInt8) : Bu (l ++ [x]) t = Bu l t ++ (if foldF x.name == t then [x.value] else []):=by
 unfold Bu
 rw [List.filter_append,List.map_append]
 congr 1
 rw [List.filter_cons]
 split<;>simp
structure FrR (r : Fr) (l : List HF) : Prop where
 hosts : r.hosts = Bu l Ki
 ids : r.ids = Bu l nId
 lens : r.lens = Bu l nLen
 coded : r.coded = decide (0 < (Bu l nTE).length)
 rest : r.rest = l.filter fun x=>!Sv (foldF x.name)
theorem Gy (t : List UInt8) : Sv t = (t == Ki || t == nId || t == nLen || t == nTE):=by
 rw [Bool.or_assoc,Bool.or_assoc]; rfl
theorem Ajz {r : Fr} {l : List HF} (x : HF) (h : FrR r l) : FrR (Tq r x) (l ++ [x]):=by
 obtain ⟨h1,h2,h3,h4,h5⟩:=h
 obtain ⟨n1,n2,n3,n4,n5,n6⟩:=Aja
 unfold Tq
 by_cases e1 : foldF x.name = Ki
 ·rw [if_pos e1]
  refine ⟨?_,?_,?_,?_,?_⟩
  ·rw [Bi,if_pos (by rw [e1]; exact beq_self_eq_true _),<-h1]
  ·rw [Bi,if_neg (by rw [e1]; simpa using n1),List.append_nil]; exact h2
  ·rw [Bi,if_neg (by rw [e1]; simpa using n2),List.append_nil]; exact h3
  ·rw [Bi,if_neg (by rw [e1]; simpa using n3),List.append_nil]; exact h4
  ·rw [List.filter_append,<-h5,List.filter_cons,if_neg (by rw [Gy,e1]; simp)]; simp
 rw [if_neg e1]
 by_cases e2 : foldF x.name = nId
 ·rw [if_pos e2]
  refine ⟨?_,?_,?_,?_,?_⟩
  ·rw [Bi,if_neg (by simpa using e1),List.append_nil]; exact h1
  ·rw [Bi,if_pos (by rw [e2]; exact beq_self_eq_true _),<-h2]
  ·rw [Bi,if_neg (by rw [e2]; simpa using n4),List.append_nil]; exact h3
  ·rw [Bi,if_neg (by rw [e2]; simpa using n5),List.append_nil]; exact h4
  ·rw [List.filter_append,<-h5,List.filter_cons,if_neg (by rw [Gy,e2]; simp)]; simp
 rw [if_neg e2]
 by_cases e3 : foldF x.name = nLen
 ·rw [if_pos e3]
  refine ⟨?_,?_,?_,?_,?_⟩
  ·rw [Bi,if_neg (by simpa using e1),List.append_nil]; exact h1
  ·rw [Bi,if_neg (by simpa using e2),List.append_nil]; exact h2
  ·rw [Bi,if_pos (by rw [e3]; exact beq_self_eq_true _),<-h3]
  ·rw [Bi,if_neg (by rw [e3]; simpa using n6),List.append_nil]; exact h4
  ·rw [List.filter_append,<-h5,List.filter_cons,if_neg (by rw [Gy,e3]; simp)]; simp
 rw [if_neg e3]
 by_cases e4 : foldF x.name = nTE
 ·rw [if_pos e4]
  refine ⟨?_,?_,?_,?_,?_⟩
  ·rw [Bi,if_neg (by simpa using e1),List.append_nil]; exact h1
  ·rw [Bi,if_neg (by simpa using e2),List.append_nil]; exact h2
  ·rw [Bi,if_neg (by simpa using e3),List.append_nil]; exact h3
  ·rw [Bi,if_pos (by rw [e4]; exact beq_self_eq_true _)]
   simp
  ·rw [List.filter_append,<-h5,List.filter_cons,if_neg (by rw [Gy,e4]; simp)]; simp
 rw [if_neg e4]
 refine ⟨?_,?_,?_,?_,?_⟩
 ·rw [Bi,if_neg (by simpa using e1),List.append_nil]; exact h1
 ·rw [Bi,if_neg (by simpa using e2),List.append_nil]; exact h2
 ·rw [Bi,if_neg (by simpa using e3),List.append_nil]; exact h3
 ·rw [Bi,if_neg (by simpa using e4),List.append_nil]; exact h4
 ·rw [List.filter_append,<-h5,List.filter_cons,if_pos (by rw [Gy]; simp [e1,e2,e3,e4])]; simp
theorem Aaf : ∀ (l l0 : List HF) (r : Fr),FrR r l0->FrR (l.foldl Tq r) (l0 ++ l)
 | [],l0,r,h=>by rw [List.append_nil]; exact h
 | x :: l,l0,r,h=>by
  have:=Aaf l (l0 ++ [x]) _ (Ajz x h)
  rw [List.append_assoc,List.singleton_append] at this
  exact this
theorem Ajy (l : List HF) : FrR (H8 l) l:=by
 have:=Aaf l [] ⟨[],[],[],false,[]⟩ ⟨rfl,rfl,rfl,rfl,rfl⟩
 rwa [List.nil_append] at this
theorem Ai2 : Gb [48] 65536 = (0,0):=by decide +kernel
end Go.Proofs.YtdoogdbjiijifaaGreatDoor
namespace Go.Proofs.YtdoogdbjiijifaaGreatDoor
open Go Go.Sx
set_option maxRecDepth 100000
set_option maxHeartbeats 8000000
theorem Aa3 {r : Rq} (h : (B7 r).2 = 0) : (A0 r).2 = 0/\(B7 r).1 = (A0 r).1/\A9 (A0 r).1 = 0/\A9 r.fields = 0/\Jm r.fields = false:=by
 unfold B7 at h ⊢
 split at h
 ·rename_i g; exact absurd h g
 rename_i g1
 split at h
 ·cases h
 rename_i g2
 split at h
 ·rename_i g; exact absurd h g
 rename_i g3
 rw [if_neg g1,if_neg g2,if_neg g3]
 exact ⟨by simpa using g3,rfl,h,by simpa using g1,by simpa using g2⟩
theorem Ty {r : Rq} (h : (Bt r).2.2 = 0) : Nw r = (((((r.method ++ [32]) ++ r.target) ++ sVer) ++ Cb (A0 r).1) ++ r.body,0):=by
 have E:=Aai h
 obtain ⟨_,h2,h3,_,_⟩:=Aa3 E.chk
 unfold Nw
 have hp : Sq (A0 r).1 = (Cb (A0 r).1,0):=by unfold Sq; rw [if_neg (by simp [h3])]
 rw [if_neg (by simp [h]),E.fields,h2,hp,if_neg (by simp)]
end Go.Proofs.YtdoogdbjiijifaaGreatDoor
namespace Go.Proofs.YtdoogdbjiijifaaGreatDoor
open Go Go.Sx
set_option maxRecDepth 100000
set_option maxHeartbeats 16000000
def segW (w : List UInt8) : List UInt8->List (List UInt8)
 | []=>[w]
 | b :: r=>if b = 47 then w :: segW [] r else segW (w ++ [b]) r
structure SgR (s : List UInt8) (k out : List (List UInt8)) (fr i : Nat) (F I n : Int) (b : Bool) (f : Nat->List SV) (m : Nat) : Prop where
 lie : At s i I m
 F : F = fr
 f1 : 1<=fr
 le : fr<=i
 row : GrS f n b out
 ol : out.length<=i
 k : k = out ++ segW ((s.drop fr).take (i - fr)) (s.drop i)
 len : s.length<=100000
end Go.Proofs.YtdoogdbjiijifaaGreatDoor
namespace Go.Proofs.YtdoogdbjiijifaaGreatDoor
open Go Go.Sx
set_option maxRecDepth 100000
set_option maxHeartbeats 16000000
def cst (st : List (List UInt8)) (s : List UInt8) (last : Bool) : List (List UInt8) :=
 if s≠[46]/\s≠[46,46] then st ++ [s] else
 if last then (if s = [46,46]/\st≠[] then st.dropLast else st) ++ [[]] else (if s = [46,46]/\st≠[] then st.dropLast else st)
def Aeq : List (List UInt8)->List (List UInt8)->List (List UInt8)
 | st,[]=>st
 | st,x :: r=>Aeq (cst st x r.isEmpty) r
end Go.Proofs.YtdoogdbjiijifaaGreatDoor
namespace Go.Proofs.YtdoogdbjiijifaaGreatDoor
open Go Go.Sx
set_option maxRecDepth 100000
set_option maxHeartbeats 16000000
structure DeJ (s k t : List UInt8) (i : Nat) (I n : Int) (f : Nat->List SV) (m : Nat) : Prop where
 lie : At s i I m
 row : A7 f n t
 k : k = t ++ normL s i
 le : t.length<=i
 len : s.length<=100000
end Go.Proofs.YtdoogdbjiijifaaGreatDoor
namespace Go.Proofs.YtdoogdbjiijifaaGreatDoor
open Go Go.Sx
set_option maxRecDepth 100000
set_option maxHeartbeats 16000000
end Go.Proofs.YtdoogdbjiijifaaGreatDoor
namespace Go.Proofs.YtdoogdbjiijifaaGreatDoor
open Go Go.Sx
set_option maxRecDepth 100000
set_option maxHeartbeats 40000000
structure ClJ (l st kk : List (List UInt8)) (i : Nat) (I n N : Int) (f fl : Nat->List SV) (m : Nat) : Prop where
 lie : AtR l i I m
 rl : Cc fl N l
 row : Cc f n st
 sl : st.length<=i
 ll : l.length<=501
 sm : ∀ x∈st,x.length<=500
 lm : ∀ x∈l,x.length<=500
 k : kk = Aeq st (l.drop i)
structure CoJ (st : List (List UInt8)) (o k : List UInt8) (i : Nat) (I n : Int) (f : Nat->List SV) (m : Nat) : Prop where
 lie : AtR st i I m
 row : Cc f n st
 sl : st.length<=501
 sm : ∀ x∈st,x.length<=500
 ol : o.length<=501 * i
 k : k = o ++ (st.drop i).flatMap (fun x=>47 :: x)
end Go.Proofs.YtdoogdbjiijifaaGreatDoor
