/- Part of the proofs of the statements about responses and messages (layers 9 and 10): a symbolic executor over the code, that it is sound, and contracts of functions; it has no conditions of its own. -/
import Derived.Test.YtdoogdbjiijifaaGreatDoorE4Pbd
import Derived.Test.YtdoogdbjiijifaaGreatDoorE4Pbb
import Derived.Test.YtdoogdbjiijifaaGreatDoorE4Pav
import Derived.Test.YtdoogdbjiijifaaGreatDoorE4Pba
import Derived.Test.YtdoogdbjiijifaaGreatDoorE4Paz
namespace Go.Proofs.YtdoogdbjiijifaaGreatDoor
open Go Go.Sx
set_option maxRecDepth 100000
set_option maxHeartbeats 400000
def A8 (l : List UInt8) : Int:=if l = [] then 0 else if Cq l then 3 else if (A3 l).1 = l.length then 1 else 2
theorem L1 : ∀ (l : List UInt8) (k n : Nat),k<=(E6 l k n).1/\(E6 l k n).1<=k + l.length
 | [],k,n=>by simp [E6]
 | c :: r,k,n=>by
  unfold E6
  split
  ·have:=L1 r (k + 1) (16 * n + (D8 c).toNat)
   simp only [List.length_cons]; omega
  ·simp
theorem Sa (c : UInt8) : ∀ (l : List UInt8) (k n : Nat),E6 (l ++ [c]) k n = if (E6 l k n).1 = k + l.length/\0<=D8 c then ((E6 l k n).1 + 1,16 * (E6 l k n).2 + (D8 c).toNat) else E6 l k n
 | [],k,n=>by
  simp only [List.nil_append,E6,List.length_nil,Nat.add_zero,true_and]
 | d :: r,k,n=>by
  simp only [List.cons_append]
  unfold E6
  by_cases hd : 0<=D8 d
  ·rw [if_pos hd,if_pos hd,Sa c r]
   have e : (k + 1 + r.length) = k + (d :: r).length:=by simp only [List.length_cons]; omega
   rw [e]
  ·rw [if_neg hd,if_neg hd,if_neg]
   rintro ⟨h,_⟩
   simp only [List.length_cons] at h
   omega
theorem I5 (l : List UInt8) (c : UInt8) : A3 (l ++ [c]) = if (A3 l).1 = l.length/\0<=D8 c then ((A3 l).1 + 1,16 * (A3 l).2 + (D8 c).toNat) else A3 l:=by
 unfold A3
 rw [Sa,Nat.zero_add]
theorem Ah3 (l : List UInt8) : (A3 l).1<=l.length:=by have:=(L1 l 0 0).2; unfold A3; omega
theorem Aey (c : UInt8) : D8 c<=15:=(Afg _).2
theorem Vg : ∀ (l : List UInt8) (k n : Nat),n < 16 ^ k->(E6 l k n).2 < 16 ^ (E6 l k n).1
 | [],k,n,h=>h
 | c :: r,k,n,h=>by
  unfold E6
  split
  ·refine Vg r _ _ ?_
   have h1:=Aey c
   rw [Nat.pow_succ]
   omega
  ·exact h
theorem Z1 {l : List UInt8} (h : Fk l) (k : Nat) : Fk (l.take k):=fun i hi=>by
 rw [List.length_take] at hi
 have h1:=h i (by omega)
 have e1 : (l.take k).take i = l.take i:=by rw [List.take_take]; congr 1; omega
 have e2 : (l.take k).getD i 0 = l.getD i 0:=by rw [List.getD_eq_getElem?_getD,List.getD_eq_getElem?_getD,List.getElem?_take,if_pos (by omega)]
 rw [e1,e2]; exact h1
theorem P7 {l : List UInt8} (h : Fk l) : (A3 l).1<=8:=by
 suffices H : ∀ k,k<=l.length->(A3 (l.take k)).1<=8 by
  have:=H l.length (Nat.le_refl _)
  rwa [List.take_length] at this
 intro k
 induction k with
 | zero=>intro _; simp [A3,E6]
 | succ k ih =>
  intro hk
  have hm:=h k (by omega)
  have e : l.take (k + 1) = l.take k ++ [l.getD k 0]:=by
   rw [List.take_add_one,List.getElem?_eq_getElem (by omega),List.getD_eq_getElem?_getD,List.getElem?_eq_getElem (by omega)]; rfl
  rw [e,I5]
  have i1:=ih (by omega)
  split
  ·rename_i g
   unfold Ct at hm
   split at hm
   ·cases hm
   split at hm
   ·rename_i g13
    rw [g13] at g
    exact absurd g.2 (by decide)
   split at hm
   ·split at hm
    ·cases hm
    ·rename_i g8
     simp only
     have : (A3 (l.take k)).1≠8:=fun e8=>g8 ⟨g.2,e8⟩
     omega
   ·rename_i g8; exact absurd g.1 g8
  ·exact i1
theorem Te {l : List UInt8} (h : Fk l) : (A3 l).2 < 4294967296:=by
 have h1:=Vg l 0 0 (by decide)
 have h2:=P7 h
 have h3 : (16 : Nat) ^ (A3 l).1<=16 ^ 8:=Nat.pow_le_pow_right (by decide) h2
 have h4 : (A3 l).2 < 16 ^ (A3 l).1:=h1
 have h5 : (16 : Nat) ^ 8 = 4294967296:=by decide
 omega
theorem Hp (l : List UInt8) (c : UInt8) : Cq (l ++ [c]) = (c == 13):=by
 unfold Cq
 rw [List.length_append]
 simp only [List.length_cons,List.length_nil,Nat.add_sub_cancel]
 rw [List.getD_eq_getElem?_getD,List.getElem?_append_right (Nat.le_refl _)]
 simp
theorem Rc (l : List UInt8) : A8 (l ++ [13]) = 3/\A3 (l ++ [13]) = A3 l:=by
 refine ⟨?_,?_⟩
 ·unfold A8
  rw [if_neg (by simp),Hp]
  simp
 ·rw [I5,if_neg]
  rintro ⟨_,h⟩
  exact absurd h (by decide)
theorem Aag {l : List UInt8} {c : UInt8} (h : (A3 l).1 = l.length) (hd : 0<=D8 c) : A8 (l ++ [c]) = 1/\(A3 (l ++ [c])).2 = 16 * (A3 l).2 + (D8 c).toNat:=by
 have hc : c≠13:=by rintro rfl; exact absurd hd (by decide)
 have e:=I5 l c
 rw [if_pos ⟨h,hd⟩] at e
 refine ⟨?_,by rw [e]⟩
 unfold A8
 rw [if_neg (by simp),Hp,if_neg (by simpa using hc),if_pos (by rw [e,List.length_append]; simp only [List.length_cons,List.length_nil]; omega)]
theorem F1 {l : List UInt8} {c : UInt8} (h : ¬ ((A3 l).1 = l.length/\0<=D8 c)) (hc : c≠13) : A8 (l ++ [c]) = 2/\A3 (l ++ [c]) = A3 l:=by
 have e:=I5 l c
 rw [if_neg h] at e
 refine ⟨?_,e⟩
 unfold A8
 have:=Ah3 l
 rw [if_neg (by simp),Hp,if_neg (by simpa using hc),if_neg (by rw [e,List.length_append]; simp only [List.length_cons,List.length_nil]; omega)]
theorem Qd (l : List UInt8) : A8 l = 0\/A8 l = 1\/A8 l = 2\/A8 l = 3:=by
 unfold A8
 split
 ·simp
 split
 ·simp
 split<;>simp
theorem Rd {l : List UInt8} : A8 l = 0↔l = []:=by
 unfold A8
 split
 ·simp_all
 split
 ·simp_all
 split<;>simp_all
theorem Ld {l : List UInt8} : A8 l = 3↔Cq l = true:=by
 unfold A8
 split
 ·rename_i h; subst h; simp [Cq]
 split
 ·simp_all
 split<;>simp_all
theorem Xt {l : List UInt8} (h : A8 l = 1) : l≠[]/\Cq l = false/\(A3 l).1 = l.length:=by
 unfold A8 at h
 split at h
 ·cases h
 split at h
 ·cases h
 split at h
 ·exact ⟨by assumption,by simp_all,by assumption⟩
 ·cases h
theorem Xs {l : List UInt8} (h : A8 l = 2) : l≠[]/\Cq l = false/\(A3 l).1≠l.length:=by
 unfold A8 at h
 split at h
 ·cases h
 split at h
 ·cases h
 split at h
 ·cases h
 ·exact ⟨by assumption,by simp_all,by assumption⟩
theorem Tg {l : List UInt8} (h : Fk l) : l.length<=201:=by
 refine Nat.le_of_not_lt fun hl=>?_
 have h1:=h 200 (by omega)
 have hlen : (l.take 200).length = 200:=by rw [List.length_take]; omega
 have hc : l.getD 200 0 = 13:=by
  refine Decidable.byContradiction fun hc=>?_
  unfold Ct at h1
  split at h1
  ·cases h1
  rw [hlen] at h1
  split at h1
  ·split at h1
   ·cases h1
   ·split at h1
    ·cases h1
    ·rw [if_pos (Nat.le_refl _)] at h1; cases h1
  ·split at h1
   ·cases h1
   ·rw [if_pos (Nat.le_refl _)] at h1; cases h1
 have h2:=h 201 (by omega)
 have e : l.take 201 = l.take 200 ++ [l.getD 200 0]:=by
  rw [List.take_add_one,List.getElem?_eq_getElem (by omega),List.getD_eq_getElem?_getD,List.getElem?_eq_getElem (by omega)]; rfl
 rw [e,hc] at h2
 unfold Ct at h2
 rw [Hp,if_pos (by decide)] at h2
 cases h2
theorem Tf {l : List UInt8} (h : Fk l) (hl : l≠[]) : (A3 l).1≠0:=by
 match l,hl with
 | c :: r,_ =>
  have h0:=h 0 (by simp)
  have hd : 0<=D8 c:=by
   simp only [List.take_zero,List.getD_cons_zero] at h0
   unfold Ct at h0
   split at h0
   ·cases h0
   split at h0
   ·rw [if_pos (show (A3 ([] : List UInt8)).1 = 0 from rfl)] at h0; cases h0
   rw [if_pos (show (A3 ([] : List UInt8)).1 = ([] : List UInt8).length from rfl)] at h0
   split at h0
   ·cases h0
   split at h0
   ·cases h0
   ·rename_i g
    exact Int.not_lt.1 fun e=>g ⟨e,.inr rfl⟩
  unfold A3 E6
  rw [if_pos hd]
  have:=(L1 r 1 (16 * 0 + (D8 c).toNat)).1
  simp only [Nat.zero_add]
  omega
theorem Nt {l : List UInt8} (h : A8 l = 0\/A8 l = 1) : Cq l = false/\(A3 l).1 = l.length:=by
 rcases h with h | h
 ·rw [Rd] at h; subst h; exact ⟨rfl,rfl⟩
 ·exact ⟨(Xt h).2.1,(Xt h).2.2⟩
theorem Zo {l : List UInt8} {c : UInt8} (h : A8 l = 3) : Ct l c = 6:=by
 unfold Ct; rw [if_pos (Ld.1 h)]
theorem Ra {l : List UInt8} (hl : Fk l) (h : A8 l≠3) : Ct l 13 = if A8 l = 0 then 6 else 0:=by
 have h3 : Cq l = false:=by
  cases e : Cq l with
  | false=>rfl
  | true=>exact absurd (Ld.2 e) h
 unfold Ct
 rw [h3]
 simp only [Bool.false_eq_true,if_false,if_true]
 by_cases h0 : A8 l = 0
 ·rw [if_pos h0]; rw [Rd] at h0; subst h0; rfl
 ·rw [if_neg h0,if_neg (Tf hl fun e=>h0 (Rd.2 e))]
theorem Io {l : List UInt8} {c : UInt8} (h : A8 l = 2) (hc : c≠13) : Ct l c = if !okB c then 6 else if 200<=l.length then 3 else 0:=by
 obtain ⟨_,h2,h3⟩:=Xs h
 unfold Ct
 rw [h2,if_neg (by simp),if_neg hc,if_neg h3]
theorem more_8 {l : List UInt8} {c : UInt8} (h : A8 l = 0\/A8 l = 1) (hd : 0<=D8 c) (h8 : l.length = 8) : Ct l c = 3:=by
 obtain ⟨h2,h3⟩:=Nt h
 have hc : c≠13:=by rintro rfl; exact absurd hd (by decide)
 unfold Ct
 rw [h2,if_neg (by simp),if_neg hc,if_pos h3,if_pos ⟨hd,by omega⟩]
theorem Zp {l : List UInt8} {c : UInt8} (h : A8 l = 0\/A8 l = 1) (hd : 0<=D8 c) (h8 : l.length≠8) : Ct l c = if 200<=l.length then 3 else 0:=by
 obtain ⟨h2,h3⟩:=Nt h
 have hc : c≠13:=by rintro rfl; exact absurd hd (by decide)
 unfold Ct
 rw [h2,if_neg (by simp),if_neg hc,if_pos h3,if_neg (by rintro ⟨_,e⟩; omega),if_neg (by rintro ⟨e,_⟩; omega)]
theorem La {l : List UInt8} (hl : Fk l) (h : A8 l = 1) : Ct l 59 = if 200<=l.length then 3 else 0:=by
 obtain ⟨h1,h2,h3⟩:=Xt h
 have hd : D8 59 < 0:=by decide
 unfold Ct
 rw [h2,if_neg (by simp),if_neg (by decide),if_pos h3,if_neg (by rintro ⟨e,_⟩; omega),if_neg]
 rintro ⟨_,e | e⟩
 ·exact e rfl
 ·exact Tf hl h1 e
theorem Zq {l : List UInt8} {c : UInt8} (h : A8 l = 0\/A8 l = 1) (hd : D8 c < 0) (hc : c≠13) (hn : ¬ (c = 59/\A8 l = 1)) : Ct l c = 6:=by
 obtain ⟨h2,h3⟩:=Nt h
 unfold Ct
 rw [h2,if_neg (by simp),if_neg hc,if_pos h3,if_neg (by rintro ⟨e,_⟩; omega),if_pos]
 refine ⟨hd,?_⟩
 by_cases e : c = 59
 ·refine .inr ?_
  rcases h with h | h
  ·rw [Rd] at h; subst h; rfl
  ·exact absurd ⟨e,h⟩ hn
 ·exact .inl e
theorem Aa5 {s : Ch} {c : UInt8} (hp : s.phase = 0) (h : ¬ (c = 10/\Cq s.line = true)) : chS s c = if Ct s.line c≠0 then (s,Ct s.line c) else (⟨0,s.line ++ [c],s.data,s.left,s.trailers⟩,0):=by
 unfold chS; rw [if_pos hp,if_neg h]
theorem Aa4 {s : Ch} (hp : s.phase = 0) (h : Cq s.line = true) : chS s 10 = if (A3 s.line).2 = 0 then (⟨3,[],s.data,s.left,s.trailers⟩,0) else if 65536 < s.data.length + (A3 s.line).2 then (s,3) else (⟨1,[],s.data,(A3 s.line).2,s.trailers⟩,0):=by
 unfold chS; rw [if_pos hp,if_pos ⟨rfl,h⟩]
end Go.Proofs.YtdoogdbjiijifaaGreatDoor
namespace Go.Proofs.YtdoogdbjiijifaaGreatDoor
open Go Go.Sx
set_option maxRecDepth 100000
set_option maxHeartbeats 400000
structure EqNN (a b : Nat) : Prop where
 h : a = b
structure LeN (a b : Nat) : Prop where
 h : a<=b
def LeO (s s' : SV) : Prop:=∀ (I : Nat->Nat->Prop) (w : Go.World) (v : Go.Value),RO I w s v->RO I w s' v
theorem LeO.refl (s : SV) : LeO s s:=fun _ _ _ h=>h
theorem LeO.sl {nl nl' : BT} {n n' : ST} {sz : Nat} {f f' : Nat->List SV} (h1 : nl.den = nl'.den) (h2 : n.den = n'.den) (h : ∀ i : Nat,(i : Int) < n.den->f i = f' i) : LeO (.sl nl n sz f) (.sl nl' n' sz f'):=by
 intro I w v hr
 rcases hr.sl_inv with ⟨rfl,e0,e1⟩ | ⟨a,m,cap,g,rfl,e1,e2,e3,e3',e4,e5,e5',e6,e7⟩
 ·exact .slnil (by rw [<-h1]; exact e1) (by rw [<-h2]; exact e0)
 ·have hf : ∀ i,i < m->f' i = f i:=fun i hi=>(h i (by omega)).symm
  exact .sl g (by rw [<-h1]; exact e1) (by rw [<-h2]; exact e2) e3 e3' e4 (fun i hi=>by rw [hf i hi]; exact e5 i hi) e5' e6 (fun i j s hi hs=>by rw [hf i hi] at hs; exact e7 i j s hi hs)
def rqCs (r : Rq) (nl : Bool) (n : Int) (f : Nat->List SV) : List SV:=[.int .i64 (.a r.id),.str r.method,.str r.target,.str r.host,.sl (.a nl) (.a n) 2 f,.str r.body]
def IsRq (cs : List SV) (r : Rq) : Prop:=∃ nl n f,cs = rqCs r nl n f/\GrH f n nl r.fields
structure Ug (f : Nat->List SV) (n : Int) (l : List Rq) : Prop where
 n : n = l.length
 f : ∀ i,i < l.length->IsRq (f i) (l.getD i rqZ)
 len : l.length<=9223372036854775807
structure GrQ (f : Nat->List SV) (n : Int) (nl : Bool) (l : List Rq) : Prop where
 row : Ug f n l
 nl : nl = l.isEmpty
theorem Ug.nil : Ug (fun _=>[]) 0 []:=⟨rfl,fun i hi=>absurd hi (by simp),by simp⟩
theorem GrQ.nil : GrQ (fun _=>[]) 0 true []:=⟨Ug.nil,rfl⟩
theorem Ug.app {f g f' : Nat->List SV} {n m n' : Int} {a b : List Rq} (R : Ug f n a) (S : Ug g m b) (h : Ht f' n' n m f g) (hl : a.length + b.length<=9223372036854775807) : Ug f' n' (a ++ b):=by
 have hn:=R.n; have hm:=S.n
 refine ⟨by rw [h.len,hn,hm,List.length_append]; omega,fun i hi=>?_,by rw [List.length_append]; exact hl⟩
 rw [List.length_append] at hi
 by_cases h1 : i < a.length
 ·rw [h.lo i (by omega),List.getD_eq_getElem?_getD,List.getElem?_append_left h1,<-List.getD_eq_getElem?_getD]
  exact R.f i h1
 ·rw [h.hi i (i - a.length) (by omega) (by omega),List.getD_eq_getElem?_getD,List.getElem?_append_right (by omega),<-List.getD_eq_getElem?_getD]
  exact S.f _ (by omega)
theorem Ug.one {f : Nat->List SV} {x : Rq} (h : IsRq (f 0) x) : Ug f 1 [x]:=by
 refine ⟨rfl,fun i hi=>?_,by simp⟩
 have hi : i < 1:=hi
 obtain rfl : i = 0:=by omega
 exact h
theorem GrQ.more {f f' g : Nat->List SV} {n n' : Int} {nl nl' : Bool} {l : List Rq} {x : Rq} (G : GrQ f n nl l) (hg : IsRq (g 0) x) (h : Ht f' n' n 1 f g) (hl : l.length<=1000000) (hb : nl' = false) : GrQ f' n' nl' (l ++ [x]) :=
 ⟨G.row.app (Ug.one hg) h (by simp only [List.length_cons,List.length_nil]; omega),by rw [hb]; simp⟩
end Go.Proofs.YtdoogdbjiijifaaGreatDoor
namespace Go.Proofs.YtdoogdbjiijifaaGreatDoor
open Go Go.Sx
set_option maxRecDepth 100000
set_option maxHeartbeats 8000000
structure Ea (s : Ch) (ph lf : Int) (tl : Int) (tf : Nat->List SV) (dl : Int) (df : Nat->List SV) (nl : Int) (nf : Nat->List SV) (fo sz : Int) : Prop where
 eph : ph = s.phase
 elf : lf = s.left
 tr : Bx tf tl s.trailers
 da : A7 df dl s.data
 li : A7 nf nl s.line
 efo : fo = if s.phase = 0 then A8 s.line else 0
 esz : sz = if s.phase = 0 then ((A3 s.line).2 : Int) else 0
def rdC (ph : Int) (l0 d0 : List UInt8) (lf : Int) (tn : Bool) (tl : Int) (tf : Nat->List SV) (db : Bool) (dl : Int) (nn : Bool) (nl g fo sz : Int) : List SV :=
 [.int .i64 (.a ph),.str l0,.str d0,.int .i64 (.a lf),.sl (.a tn) (.a tl) 2 tf,.osl (.a db) (.a dl) 1,.vsl (.a nn) (.a nl) (.a g) 2,.int .i64 (.a fo),.int .i64 (.a sz)]
structure Ahl (s s' : Ch) (tn nn : Bool) (g : Int) (tn' nn' : Bool) (g' : Int) (db' : Bool) : Prop where
 ed : db' = false
 et : tn' = if s'.phase = 4 then s'.trailers.isEmpty else tn
 en : nn' = if s.phase = 1 then nn else s'.line.isEmpty
 eg : g' = if s.phase = 1 then g else if s'.phase = 4 then g + 3 else g + 1
def Uf (s : Ch) (c : UInt8) (l0 d0 : List UInt8) (tn0 nn0 : Bool) (g0 : Int) (gr : Bool) (K : SV->List Hl->Prop) : Prop :=
 ∀ e,e = (chS s c).2->(e≠0->K (.int .i64 (.a e)) [.gone,.gone,.gone])/\
  (e = 0->∀ ph lf tn tl tf db dl df nn nl g nf fo sz,Ea (chS s c).1 ph lf tl tf dl df nl nf fo sz->Ahl s (chS s c).1 tn0 nn0 g0 tn nn g db->K (.int .i64 (.a e)) [.blk 220 (rdC ph l0 d0 lf tn tl tf db dl nn nl g fo sz),.own 5 (.a dl) 1 gr df,.vec 5 (.a nl) (.a g) 1 nf])
def J7 (p : Int) : FSpec:=fun _ xs ls K=>∃ (s : Ch) (c : UInt8) (ci : Int) (ph lf : Int) (l0 d0 : List UInt8) (tn : Bool) (tl : Int) (tf : Nat->List SV) (db : Bool) (dl : Int) (gr : Bool) (df : Nat->List SV) (nn : Bool) (nl g : Int) (nf : Nat->List SV) (fo sz : Int),
 xs = [.ptr 0 0,.int .u8 (.a ci)]/\ls = [.blk 220 (rdC ph l0 d0 lf tn tl tf db dl nn nl g fo sz),.own 5 (.a dl) 1 gr df,.vec 5 (.a nl) (.a g) 1 nf]/\
 ci = (c.toNat : Int)/\Ea s ph lf tl tf dl df nl nf fo sz/\s.phase = p/\db = false/\Ia s/\Uf s c l0 d0 tn nn g gr K
theorem Ce (s : List UInt8) : LeV (.str s) (.str s):=LeV.refl _
theorem Mg {t t' ph ph' lf lf' tl tl' dl dl' nl nl' g g' g2 g2' n n' fo fo' sz sz' : ST} {l0 d0 : List UInt8} {tn tn' db db' nn nn' : BT} {tf tf' df df' nf nf' : Nat->List SV} {gr : Bool} (he : t.den = t'.den) (h1 : ph.den = ph'.den) (h2 : lf.den = lf'.den)
  (h3 : LeV (.sl tn tl 2 tf) (.sl tn' tl' 2 tf')) (h4 : db.den = db'.den/\dl.den = dl'.den) (h5 : nn.den = nn'.den/\nl.den = nl'.den/\g.den = g'.den) (h6 : fo.den = fo'.den) (h7 : sz.den = sz'.den)
  (h8 : n.den = n'.den/\∀ i : Nat,(i : Int) < n.den->df i = df' i) {m m' : ST} (h9 : m.den = m'.den/\g2.den = g2'.den/\∀ i : Nat,(i : Int) < m.den->nf i = nf' i) :
  Fin (.int .i64 t) (.int .i64 t') [.blk 220 [.int .i64 ph,.str l0,.str d0,.int .i64 lf,.sl tn tl 2 tf,.osl db dl 1,.vsl nn nl g 2,.int .i64 fo,.int .i64 sz],.own 5 n 1 gr df,.vec 5 m g2 1 nf]
   [.blk 220 [.int .i64 ph',.str l0,.str d0,.int .i64 lf',.sl tn' tl' 2 tf',.osl db' dl' 1,.vsl nn' nl' g' 2,.int .i64 fo',.int .i64 sz'],.own 5 n' 1 gr df',.vec 5 m' g2' 1 nf'] :=
 ⟨Al he,Cp (LeH.cons (Am (.cons (Al h1) (.cons (Ce _) (.cons (Ce _) (.cons (Al h2) (.cons h3 (.cons (Aeg h4.1 h4.2) (.cons (Aef h5.1 h5.2.1 h5.2.2) (.cons (Al h6) (.cons (Al h7) .nil))))))))))
  (LeH.cons (Xh h8.1 h8.2) (LeH.cons (Hn h9.1 h9.2.1 h9.2.2) fun _ _ _ _ h=>h))),Nat.le_refl _⟩
theorem Di {t t' : ST} {a b c : Hl} (he : t.den = t'.den) : Fin (.int .i64 t) (.int .i64 t') [a,b,c] [.gone,.gone,.gone]:=by
 refine ⟨Al he,fun h E w hk=>?_,Nat.le_refl _⟩
 match h with
 | 0=>trivial
 | 1=>trivial
 | 2=>trivial
 | h + 3=>exact hk
theorem row1 {f : Nat->List SV} {c : UInt8} (h : f 0 = [.int .u8 (.a (c.toNat : Int))]) : ∀ i,i < [c].length->f i = [.int .u8 (.a (([c].getD i 0).toNat : Int))]:=by
 intro i hi
 have : i = 0:=by simpa using hi
 subst this
 simpa using h
theorem eqB (c d : UInt8) : ((c.toNat : Int) == (d.toNat : Int)) = (c == d):=by
 rw [Bool.eq_iff_iff,beq_iff_eq,beq_iff_eq]
 constructor
 ·intro h; exact UInt8.toNat_inj.1 (by omega)
 ·intro h; rw [h]
theorem Agp : A2 Tryz.prog gl 187 (J7 1):=by
 refine El (gh:=[]) mixed C3 Av Tryz.func187 (by kernel_rfl) (by kernel_rfl) ?_
 intro xs ls K h
 unfold J7 at h
 obtain ⟨s,c,ci,ph,lf,l0,d0,tn,tl,tf,db,dl,gr,df,nn,nl,g,nf,fo,sz,rfl,rfl,rfl,V,hp,hdb,hO,h⟩:=h
 have hc : chS s c = (⟨if s.left - 1 = 0 then 2 else 1,s.line,s.data ++ [c],s.left - 1,s.trailers⟩,0):=by unfold chS; rw [if_neg (by omega),if_pos hp]
 obtain ⟨q1,q2,q3⟩:=hO.p1 hp
 have hd:=hO.data
 have hle:=V.elf
 have hw : IntKind.i64.wrap (lf - 1) = lf - 1:=Bk (by omega) (by omega)
 unfold Uf at h
 rw [hc] at h
 have h:=(h 0 rfl).2 rfl
 simp only at h
 have hdl : dl = s.data.length:=V.da.n
 have R' : A7 (byteRow (s.data ++ [c])) ((s.data ++ [c]).length : Nat) (s.data ++ [c]):=⟨rfl,fun i _=>rfl⟩
 have hfo : fo = 0:=by have:=V.efo; rwa [if_neg (by omega)] at this
 have hsz : sz = 0:=by have:=V.esz; rwa [if_neg (by omega)] at this
 have VD : VI dl s.data.length:=⟨hdl⟩
 have HL : LeN s.data.length 65536:=⟨hd⟩
 clear hdl hd
 have go : ∀ ph' : Int,ph' = (if s.left - 1 = 0 then 2 else 1)->K (.int .i64 (.a 0)) [.blk 220 (rdC ph' l0 d0 (IntKind.i64.wrap (lf - 1)) tn tl tf false ((s.data ++ [c]).length : Nat) nn nl g fo sz),.own 5 (.a ((s.data ++ [c]).length : Nat)) 1 gr (byteRow (s.data ++ [c])),.vec 5 (.a nl) (.a g) 1 nf]:=fun ph' hph =>
  h ph' _ tn tl tf false _ _ nn nl g nf fo sz ⟨hph,by rw [hw,hle],V.tr,R',V.li,by rw [hfo,if_neg]; show ¬ (if _ then _ else _) = _; split<;>decide,by rw [hsz,if_neg]; show ¬ (if _ then _ else _) = _; split<;>decide⟩ ⟨rfl,by rw [if_neg]; show ¬ (if _ then _ else _) = _; split<;>decide,by rw [if_pos hp],by rw [if_pos hp]⟩
 have hzd : (IntKind.i64.wrap (lf - 1) == 0) = decide (s.left - 1 = 0):=by rw [hw,hle,Bool.eq_iff_iff,beq_iff_eq,decide_eq_true_eq]
 obtain ⟨N,VN⟩ : ∃ N : Int,VI N (s.data ++ [c]).length:=⟨_,⟨rfl⟩⟩
 rw [<-VN.h] at go R'
 have hNd : N = dl + 1:=by rw [VN.h,VD.h,List.length_append]; simp
 obtain ⟨W,hW⟩ : ∃ W,W = IntKind.i64.wrap (lf - 1):=⟨_,rfl⟩
 rw [<-hW] at go
 have EW : EqI W (IntKind.i64.wrap (lf - 1)):=⟨hW⟩
 clear hW
 have HN : EqI N (dl + 1):=⟨hNd⟩
 obtain ⟨T,hT⟩ : ∃ T,T = s.data ++ [c]:=⟨_,rfl⟩
 rw [<-hT] at go R'
 clear h hc hNd hle q3 q2
 refine ⟨_,_,go (if s.left - 1 = 0 then 2 else 1) rfl,fun D hD=>?_⟩
 obtain ⟨p',hp'⟩ : ∃ p' : Int,p' = (if s.left - 1 = 0 then 2 else 1):=⟨_,rfl⟩
 rw [<-hp']
 cbv
 intro f3 hf3
 cbv
 refine ⟨by subst hD; exact ⟨rfl,by show (dl + 1) * 1<=_; rw [VD.h]; have:=HL.h; omega,by show dl + 1<=_; rw [VD.h]; have:=HL.h; omega⟩,fun f4 n4 hm=>?_⟩
 cbv
 have h40 : f3 0 = [.int .u8 (.a (c.toNat : Int))]:=by rw [hf3.h 0 _ rfl]; subst hD; rfl
 have R4 : A7 f4 n4 (s.data ++ [c]):=V.da.more (g:=f3) (u:=[c]) rfl (row1 h40) (by subst hD; exact hm)
 clear hm hf3
 rw [<-hT] at R4
 have hrow : n4 = N/\∀ i : Nat,(i : Int) < n4->f4 i = byteRow T i:=by
  have e1:=R4.n
  have e2:=R'.n
  refine ⟨by omega,fun i hi=>?_⟩
  rw [R4.f i (by omega)]; rfl
 refine br hD (fun hb=>?_) (fun hb=>?_)<;>cbv
 ·have hb : (IntKind.i64.wrap (lf - 1) == 0) = true:=by subst hD; exact hb
  rw [hzd,decide_eq_true_eq] at hb
  rw [if_pos hb] at hp'
  subst hD hp'
  exact Mg rfl rfl (by exact EW.h.symm) (LeV.refl _) ⟨by rw [hdb]; rfl,by exact hrow.1⟩ ⟨rfl,rfl,rfl⟩ rfl rfl (by exact hrow) ⟨rfl,rfl,fun _ _=>rfl⟩
 ·have hb : (IntKind.i64.wrap (lf - 1) == 0) = false:=by subst hD; exact hb
  rw [hzd,decide_eq_false_iff_not] at hb
  rw [if_neg hb] at hp'
  have hph:=V.eph
  rw [hp] at hph
  subst hD hp' hph
  exact Mg rfl rfl (by exact EW.h.symm) (LeV.refl _) ⟨by rw [hdb]; rfl,by exact hrow.1⟩ ⟨rfl,rfl,rfl⟩ rfl rfl (by exact hrow) ⟨rfl,rfl,fun _ _=>rfl⟩
end Go.Proofs.YtdoogdbjiijifaaGreatDoor
namespace Go.Proofs.YtdoogdbjiijifaaGreatDoor
open Go Go.Sx
set_option maxRecDepth 100000
set_option maxHeartbeats 8000000
theorem Ajq : A2 Tryz.prog gl 188 (J7 2):=by
 refine El (gh:=[(999985,[]),(3,[.vmov 0 6 2]),(5,[.vnil 0 6 2])]) mixed C3 Av Tryz.func188 (by kernel_rfl) (by kernel_rfl) ?_
 intro xs ls K h
 unfold J7 at h
 obtain ⟨s,c,ci,ph,lf,l0,d0,tn,tl,tf,db,dl,gr,df,nn,nl,g,nf,fo,sz,rfl,rfl,rfl,V,hp,hdb,hO,h⟩:=h
 have hnl : nl = s.line.length:=V.li.n
 unfold Uf at h
 have hc : chS s c = if s.line = []/\c = 13 then (⟨2,[13],s.data,s.left,s.trailers⟩,0) else if s.line = [13]/\c = 10 then (⟨0,[],s.data,s.left,s.trailers⟩,0) else (s,6):=by
  unfold chS; rw [if_neg (by omega),if_neg (by omega),if_pos hp]
 have hfo : fo = 0:=by have:=V.efo; rwa [if_neg (by omega)] at this
 have hsz : sz = 0:=by have:=V.esz; rwa [if_neg (by omega)] at this
 have hc13 : ((c.toNat : Int) == 13) = (c == 13):=eqB c 13
 have hc10 : ((c.toNat : Int) == 10) = (c == 10):=eqB c 10
 have hl0 : (nl == 0) = decide (s.line = []):=by rw [hnl,Bool.eq_iff_iff,beq_iff_eq,decide_eq_true_eq,<-List.length_eq_zero_iff]; omega
 have hl1 : (nl == 1) = decide (s.line = [13]):=by
  rcases (hO.p2 hp).1 with e | e
  ·rw [hnl,e]; decide
  ·rw [hnl,e]; decide
 clear hnl
 by_cases h1 : s.line = []/\c = 13
 ·rw [hc,if_pos h1] at h
  have h:=(h 0 rfl).2 rfl
  simp only at h
  obtain ⟨G,hG⟩ : ∃ G,G = g + 1:=⟨_,rfl⟩
  have h:=h ph lf tn tl tf db dl df false 1 G (byteRow [13]) fo sz ⟨by rw [V.eph,hp],V.elf,V.tr,V.da,⟨rfl,fun i _=>rfl⟩,hfo,hsz⟩ ⟨hdb,by rw [if_neg]; show ¬ (2 : Int) = 4; decide,by rw [if_neg (by omega)]; rfl,by rw [if_neg (by omega),hG,if_neg]; show ¬ (2 : Int) = 4; decide⟩
  have EG : EqI G (g + 1):=⟨hG⟩
  clear hG hc
  refine ⟨_,_,h,fun D hD=>?_⟩
  cbv
  refine br hD (fun hb=>?_) (fun hb=>?_)<;>cbv
  ·intro f3 hf3
   cbv
   have h30 : f3 0 = [.int .u8 (.a (c.toNat : Int))]:=by rw [hf3.h 0 _ rfl]; subst hD; rfl
   refine ⟨by subst hD; exact ⟨rfl⟩,fun g' hg'=>?_⟩
   cbv
   have hgn : g' = g + 1:=by subst hD; exact hg'.h
   clear hg'
   subst hD
   refine Mg rfl rfl rfl (LeV.refl _) ⟨rfl,rfl⟩ ⟨rfl,rfl,by rw [EG.h]; exact hgn⟩ rfl rfl ⟨rfl,fun _ _=>rfl⟩ ⟨rfl,by rw [EG.h]; exact hgn,fun i hi=>?_⟩
   have hi : (i : Int) < 1:=hi
   obtain rfl : i = 0:=by omega
   rw [h30,h1.2]; rfl
  ·have hb : ((nl == 0) && ((c.toNat : Int) == 13)) = false:=by subst hD; exact hb
   rw [hl0,hc13,h1.1,h1.2] at hb
   cases hb
 by_cases h2 : s.line = [13]/\c = 10
 ·rw [hc,if_neg h1,if_pos h2] at h
  have h:=(h 0 rfl).2 rfl
  simp only at h
  obtain ⟨G,hG⟩ : ∃ G,G = g + 1:=⟨_,rfl⟩
  have h:=h 0 lf tn tl tf db dl df true 0 G (fun _=>[]) fo sz ⟨rfl,V.elf,V.tr,V.da,⟨rfl,fun i hi=>by cases hi⟩,hfo,hsz⟩ ⟨hdb,by rw [if_neg]; show ¬ (0 : Int) = 4; decide,by rw [if_neg (by omega)]; rfl,by rw [if_neg (by omega),hG,if_neg]; show ¬ (0 : Int) = 4; decide⟩
  have EG : EqI G (g + 1):=⟨hG⟩
  clear hG hc
  refine ⟨_,_,h,fun D hD=>?_⟩
  cbv
  refine br hD (fun hb=>?_) (fun hb=>?_)<;>cbv
  ·have hb : ((nl == 0) && ((c.toNat : Int) == 13)) = true:=by subst hD; exact hb
   rw [hl0,hc13,h2.1] at hb
   cases hb
  ·refine br hD (fun hb=>?_) (fun hb=>?_)<;>cbv
   ·intro g' hg'
    cbv
    have hgn : g' = g + 1:=by subst hD; exact hg'.h
    clear hg'
    subst hD
    exact Mg rfl rfl rfl (LeV.refl _) ⟨rfl,rfl⟩ ⟨rfl,rfl,by rw [EG.h]; exact hgn⟩ rfl rfl ⟨rfl,fun _ _=>rfl⟩ ⟨rfl,by rw [EG.h]; exact hgn,fun i hi=>rfl⟩
   ·have hb : ((nl == 1) && ((c.toNat : Int) == 10)) = false:=by subst hD; exact hb
    rw [hl1,hc10,h2.1,h2.2] at hb
    cases hb
 ·rw [hc,if_neg h1,if_neg h2] at h
  have h:=(h 6 rfl).1 (by decide)
  clear hc
  refine ⟨_,_,h,fun D hD=>?_⟩
  cbv
  refine br hD (fun hb=>?_) (fun hb=>?_)<;>cbv
  ·exfalso
   have hb : ((nl == 0) && ((c.toNat : Int) == 13)) = true:=by subst hD; exact hb
   rw [hl0,hc13,Bool.and_eq_true,decide_eq_true_eq,beq_iff_eq] at hb
   exact h1 hb
  ·refine br hD (fun hb=>?_) (fun hb=>?_)<;>cbv
   ·exfalso
    have hb : ((nl == 1) && ((c.toNat : Int) == 10)) = true:=by subst hD; exact hb
    rw [hl1,hc10,Bool.and_eq_true,decide_eq_true_eq,beq_iff_eq] at hb
    exact h2 hb
   ·subst hD; exact Di rfl
end Go.Proofs.YtdoogdbjiijifaaGreatDoor
namespace Go.Proofs.YtdoogdbjiijifaaGreatDoor
open Go Go.Sx
set_option maxRecDepth 100000
set_option maxHeartbeats 8000000
def spSized : FSpec:=fun _ xs ls K=>∃ (s : Ch) (ph lf : Int) (l0 d0 : List UInt8) (tn : Bool) (tl : Int) (tf : Nat->List SV) (db : Bool) (dl : Int) (gr : Bool) (df : Nat->List SV) (nn : Bool) (nl g : Int) (nf : Nat->List SV) (fo sz : Int),
 xs = [.ptr 0 0]/\ls = [.blk 220 (rdC ph l0 d0 lf tn tl tf db dl nn nl g fo sz),.own 5 (.a dl) 1 gr df,.vec 5 (.a nl) (.a g) 1 nf]/\
 Ea s ph lf tl tf dl df nl nf fo sz/\s.phase = 0/\db = false/\Cq s.line = true/\Ia s/\Uf s 10 l0 d0 tn nn g gr K
theorem Ah1 : A2 Tryz.prog gl 240 spSized:=by
 refine El (gh:=[(2,[.vnil 0 6 2])]) mixed C3 Av Tryz.func240 (by kernel_rfl) (by kernel_rfl) ?_
 intro xs ls K h
 unfold spSized at h
 obtain ⟨s,ph,lf,l0,d0,tn,tl,tf,db,dl,gr,df,nn,nl,g,nf,fo,sz,rfl,rfl,V,hp,hdb,hend,hO,h⟩:=h
 unfold Uf at h
 rw [Aa4 hp hend] at h
 have hsz : sz = ((A3 s.line).2 : Int):=by have:=V.esz; rwa [if_pos hp] at this
 have hv:=Te (hO.p0 hp)
 obtain ⟨n,hn⟩ : ∃ n,n = (A3 s.line).2:=⟨_,rfl⟩
 rw [<-hn] at h hsz hv
 have hdl : dl = s.data.length:=V.da.n
 have VS : VI sz n:=⟨hsz⟩
 have VD : VI dl s.data.length:=⟨hdl⟩
 have HL : LeN s.data.length 65536:=⟨hO.data⟩
 have HV : LeN n 4294967296:=⟨by omega⟩
 obtain ⟨G,hG⟩ : ∃ G,G = g + 1:=⟨_,rfl⟩
 have EG : EqI G (g + 1):=⟨hG⟩
 clear hG hsz hv hdl hn
 by_cases h0 : n = 0
 ·rw [if_pos h0] at h
  have h:=(h 0 rfl).2 rfl 3 lf tn tl tf db dl df true 0 G (fun _=>[]) 0 0 ⟨rfl,V.elf,V.tr,V.da,⟨rfl,fun i hi=>by cases hi⟩,by rw [if_neg]; show ¬ (3 : Int) = 0; decide,by rw [if_neg]; show ¬ (3 : Int) = 0; decide⟩ ⟨hdb,by rw [if_neg]; show ¬ (3 : Int) = 4; decide,by rw [if_neg (by omega)]; rfl,by rw [if_neg (by omega),EG.h,if_neg]; show ¬ (3 : Int) = 4; decide⟩
  refine ⟨_,_,h,fun D hD=>?_⟩
  cbv
  intro g' hg'
  cbv
  have hgn : g' = g + 1:=by subst hD; exact hg'.h
  clear hg'
  refine br hD (fun hb=>?_) (fun hb=>?_)<;>cbv
  ·subst hD
   exact Mg rfl rfl rfl (LeV.refl _) ⟨rfl,rfl⟩ ⟨rfl,rfl,by rw [EG.h]; exact hgn⟩ rfl rfl ⟨rfl,fun _ _=>rfl⟩ ⟨rfl,by rw [EG.h]; exact hgn,fun i hi=>rfl⟩
  ·exfalso
   have hb : (sz == 0) = false:=by subst hD; exact hb
   rw [VS.h,h0] at hb
   cases hb
 rw [if_neg h0] at h
 have hw : IntKind.i64.wrap (dl + sz) = dl + sz:=by have:=VS.h; have:=VD.h; have:=HL.h; have:=HV.h; exact Bk (by omega) (by omega)
 by_cases h1 : 65536 < s.data.length + n
 ·rw [if_pos h1] at h
  have h:=(h 3 rfl).1 (by decide)
  refine ⟨_,_,h,fun D hD=>?_⟩
  have hbig : decide (65536 < IntKind.i64.wrap (dl + sz)) = true:=by rw [hw,VS.h,VD.h,decide_eq_true_eq]; omega
  clear hw
  cbv
  intro g' hg'
  cbv
  refine br hD (fun hb=>?_) (fun hb=>?_)<;>cbv
  ·exfalso
   have hb : (sz == 0) = true:=by subst hD; exact hb
   rw [VS.h,beq_iff_eq] at hb
   omega
  ·refine br hD (fun hb=>?_) (fun hb=>?_)<;>cbv
   ·subst hD; exact Di rfl
   ·exfalso
    have hb : decide (65536 < IntKind.i64.wrap (dl + sz)) = false:=by subst hD; exact hb
    rw [hbig] at hb; cases hb
 ·rw [if_neg h1] at h
  have h:=(h 0 rfl).2 rfl 1 sz tn tl tf db dl df true 0 G (fun _=>[]) 0 0 ⟨rfl,VS.h,V.tr,V.da,⟨rfl,fun i hi=>by cases hi⟩,by rw [if_neg]; show ¬ (1 : Int) = 0; decide,by rw [if_neg]; show ¬ (1 : Int) = 0; decide⟩ ⟨hdb,by rw [if_neg]; show ¬ (1 : Int) = 4; decide,by rw [if_neg (by omega)]; rfl,by rw [if_neg (by omega),EG.h,if_neg]; show ¬ (1 : Int) = 4; decide⟩
  refine ⟨_,_,h,fun D hD=>?_⟩
  have hbig : decide (65536 < IntKind.i64.wrap (dl + sz)) = false:=by rw [hw,VS.h,VD.h,decide_eq_false_iff_not]; omega
  clear hw
  cbv
  intro g' hg'
  cbv
  have hgn : g' = g + 1:=by subst hD; exact hg'.h
  clear hg'
  refine br hD (fun hb=>?_) (fun hb=>?_)<;>cbv
  ·exfalso
   have hb : (sz == 0) = true:=by subst hD; exact hb
   rw [VS.h,beq_iff_eq] at hb
   omega
  ·refine br hD (fun hb=>?_) (fun hb=>?_)<;>cbv
   ·exfalso
    have hb : decide (65536 < IntKind.i64.wrap (dl + sz)) = true:=by subst hD; exact hb
    rw [hbig] at hb; cases hb
   ·subst hD
    exact Mg rfl rfl rfl (LeV.refl _) ⟨rfl,rfl⟩ ⟨rfl,rfl,by rw [EG.h]; exact hgn⟩ rfl rfl ⟨rfl,fun _ _=>rfl⟩ ⟨rfl,by rw [EG.h]; exact hgn,fun i hi=>rfl⟩
end Go.Proofs.YtdoogdbjiijifaaGreatDoor
