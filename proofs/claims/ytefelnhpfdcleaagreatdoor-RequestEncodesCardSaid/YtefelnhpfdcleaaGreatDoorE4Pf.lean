/- Part of the proofs of the statements about requests (layer 7): a symbolic executor over the code, that it is sound, and contracts of functions; it has no conditions of its own. -/
import Derived.Lib.ItoaLen
import Derived.Lib.Strings
import Derived.Lib.Slices
import Derived.Lib.Walk
import Derived.Lib.Builder
import Derived.Lib.AppendStr
import Derived.Lib.UnsafeStr
import Derived.WalkKit
import Derived.Laws.Externs
import Derived.Laws.IdiomCopy
import Derived.Test.YtefelnhpfdcleaaGreatDoorE4Pe
namespace Go.Proofs.YtefelnhpfdcleaaGreatDoor
open Go Go.Sx
set_option maxRecDepth 100000
set_option maxHeartbeats 8000000
def hfRow (l : List HF) (i : Nat) : List SV:=match l[i]? with
 | some x=>hfCells x
 | none=>[]
theorem hfRow_at {l : List HF} {i : Nat} (h : i < l.length) : hfRow l i = hfCells (l.getD i default):=by
 unfold hfRow
 rw [List.getElem?_eq_getElem h,List.getD_eq_getElem?_getD,List.getElem?_eq_getElem h]; rfl
theorem RowH.row {l : List HF} (h : l.length≤9223372036854775807) (hs : ∀ i,i < l.length→(l.getD i default).small) : RowH (hfRow l) l.length l:=⟨rfl,fun _ hi=>hfRow_at hi,h,hs⟩
def spCloneH : FSpec:=fun _ xs ls K=>∃ (l : List HF) (nl : Bool) (n : Int) (f : Nat→List SV),xs = [.sl (.a nl) (.a n) 2 f]∧ls = []∧RowH f n l∧l.length≤100000∧(nl = true→l = [])∧
 ∀ g n',RowH g n' l→K (.osl (.a nl) (.a n') 0) [.own 69 (.a n') 2 true g]
theorem clone_ok : FnOk Tryz.prog gl 158 spCloneH:=by
 refine fnOk (gh:=[(2,[.own 2 69]),(3,[]),(999985,[])]) mixed cxOk tabNil Tryz.func158 (by kernel_rfl) (by kernel_rfl) ?_
 intro xs ls K h
 unfold spCloneH at h
 obtain ⟨l,nl,n,f,rfl,rfl,R,hl,hn,h⟩:=h
 obtain ⟨g,hg⟩ : ∃ g,g = hfRow l:=⟨_,rfl⟩
 obtain ⟨n0,hn0⟩ : ∃ n0 : Int,n0 = l.length:=⟨_,rfl⟩
 have R0 : RowH g n0 l:=by rw [hg,hn0]; exact RowH.row R.len R.small
 refine ⟨_,_,h g n0 R0,fun D hD=>?_⟩
 clear h hn0 hg
 cbv
 refine br hD (fun h=>?_) (fun h=>?_)<;>cbv
 ·have h2 : nl = true:=h
  have h3:=hn h2
  subst h2 h3
  subst hD
  have hn0 : n0 = 0:=R0.n
  subst hn0
  exact finOwn (leOsl rfl rfl) rfl fun i hi=>absurd hi (by show ¬ ((i : Int) < 0); omega)
 ·have h2 : nl = false:=h
  subst h2
  intro f0 h0
  clear h0
  cbv
  refine ⟨?_,fun f1 n1 hm=>?_⟩
  ·subst hD; exact ⟨rfl,by have:=R.n; show ((0 : Int) + n) * 32≤_; omega,by have:=R.n; show (0 : Int) + n≤_; omega⟩
  cbv
  have e1 : n1 = n0:=by subst hD; have:=R.n; have:=R0.n; have h5 : n1 = 0 + n:=hm.len; omega
  have e2 : ∀ i,i < l.length→f1 i = g i:=by
   intro i hi
   rw [hm.hi i i (by subst hD; show (i : Int) = 0 + i; omega) (by subst hD; have:=R.n; show (i : Int) < n; omega),R.f i hi,R0.f i hi]
  clear hm
  subst hD
  refine finOwn (leOsl rfl ?_) ?_ fun i hi=>e2 i (by have:=R0.n; have hi : (i : Int) < n1:=hi; omega)
  ·exact e1
  ·exact e1
def spDelH : FSpec:=fun _ xs ls K=>∃ (a b : List UInt8) (F : List UInt8→Bool),xs = [.agg [.str a,.str b],.ptr 0 0]∧ls = [.blk 156 [.mapv 1],.mset F]∧a.length≤9223372036854775807∧
 ∀ r,r = F (foldF a)→K (.bool (.a r)) [.blk 156 [.mapv 1],.mset F]
theorem del_ok : FnOk Tryz.prog gl 159 spDelH:=by
 refine fnOkG (gh:=[]) mixed cxOk (tabCons fold_ok tabNil) Tryz.func159 (by kernel_rfl) (by kernel_rfl) ?_
 intro xs ls K h
 unfold spDelH at h
 obtain ⟨a,b,F,rfl,rfl,ha,h⟩:=h
 refine ⟨_,_,h _ rfl,fun D hD=>?_⟩
 clear h
 obtain ⟨k,hk⟩ : ∃ k,k = F (foldF a):=⟨_,rfl⟩
 rw [←hk]
 cbv
 refine ⟨a,rfl,rfl,ha,fun t ht=>?_⟩
 have ht : t = foldF a:=ht
 cbv
 rw [ht,←hk]
 subst hD
 exact fin_eq rfl rfl
def keepH (F : List UInt8→Bool) (x : HF) : Bool:=!F (foldF x.name)
def idxH (p : HF→Bool) : List HF→Int→Int
 | [],_=>-1
 | x :: l,i=>if p x then i else idxH p l (i + 1)
def idxDel (F : List UInt8→Bool) (l : List HF) : Int:=idxH (fun x=>F (foldF x.name)) l 0
def spIdxH : FSpec:=fun _ xs ls K=>∃ (l : List HF) (F : List UInt8→Bool) (nl : Bool) (n : Int) (f : Nat→List SV),xs = [.osl (.a nl) (.a n) 0,.clo 159 [.ptr 1 0]]∧ls = [.own 69 (.a n) 2 true f,.blk 156 [.mapv 2],.mset F]∧RowH f n l∧
 ∀ r,r = idxDel F l→K (.int .i64 (.a r)) [.own 69 (.a n) 2 true f,.blk 156 [.mapv 2],.mset F]
structure IxJ (k : Int) (F : List UInt8→Bool) (l : List HF) (i : Nat) (I : Int) (m : Nat) : Prop where
 lie : AtR l i I m
 k : k = idxH (fun x=>F (foldF x.name)) (l.drop i) I
def ixJ (k : Int) (F : List UInt8→Bool) (l : List HF) (nl : Bool) (n : Int) (f : Nat→List SV) (m : Nat) (vs : List (Option SV)) (hp : List Hl) : Prop :=
 ∃ (i : Nat) (I : Int),vs = [some (.osl (.a nl) (.a n) 0),some (.clo 159 [.ptr 1 0]),some (.int .i64 (.a n)),some (.int .i64 (.a I))]∧hp = [.own 69 (.a n) 2 true f,.blk 156 [.mapv 2],.mset F]∧IxJ k F l i I m
theorem idxH_ok : FnOk Tryz.prog gl 174 spIdxH:=by
 refine fnOkG (gh:=[]) mixed cxOk (tabConsG del_ok tabNil) Tryz.func174 (by kernel_rfl) (by kernel_rfl) ?_
 intro xs ls K h
 unfold spIdxH at h
 obtain ⟨l,F,nl,n,f,rfl,rfl,R,h⟩:=h
 obtain ⟨k,hk⟩ : ∃ k,k = idxDel F l:=⟨_,rfl⟩
 refine ⟨_,_,h k hk,fun D hD=>?_⟩
 clear h
 obtain ⟨J,hJ⟩ : ∃ J,J = ixJ k F l nl n f:=⟨_,rfl⟩
 cbv
 refine ⟨[0,1,7,8],J,⟨rfl,l.length,?_⟩,?_⟩
 ·rw [hJ]
  subst hD
  exact ⟨0,0,rfl,rfl,AtR.zero R.len,hk⟩
 intro m vs hp hj
 rw [hJ] at hj
 obtain ⟨i,I,rfl,rfl,V⟩:=hj
 clear hk
 cbv
 refine br hD (fun h=>?_) (fun h=>?_)<;>cbv
 ·have hlt:=V.lie.lt R.n (of_decide_eq_true (p:=I < n) h)
  clear h
  refine ⟨⟨by subst hD; rfl⟩,V.lie.inB hD R.n hlt,fun j hj=>?_⟩
  obtain rfl:=V.lie.j hD hj
  clear hj
  have e1:=R.f j hlt
  have hsm:=R.small j hlt
  have hk2:=V.k
  rw [dropR (d:=default) hlt] at hk2
  obtain ⟨x,hx⟩ : ∃ x,x = l.getD j default:=⟨_,rfl⟩
  rw [←hx] at e1 hk2 hsm
  obtain ⟨a,b⟩:=x
  cbv
  rw [e1]
  cbv
  refine ⟨⟨by subst hD; rfl⟩,⟨by subst hD; have:=R.n; show (j : Int) < n; omega⟩,?_⟩
  refine ⟨a,b,F,?_,?_,hsm.1,fun t ht=>?_⟩
  ·rfl
  ·rfl
  cbv
  refine br hD (fun h=>?_) (fun h=>?_)<;>cbv
  ·have h3 : F (foldF a) = true:=by rw [←ht]; simpa using h
   subst hD
   rw [hk2,idxH,if_pos h3]
   exact fin_eq rfl rfl
  ·have h3 : F (foldF a) = false:=by rw [←ht]; simpa using h
   clear h
   obtain ⟨g1,g2⟩:=V.lie.step hD hlt
   refine ⟨_,g1,?_⟩
   rw [hJ]
   unfold ixJ
   subst hD
   refine ⟨j + 1,_,rfl,rfl,g2,?_⟩
   rw [hk2,idxH,if_neg (by rw [h3]; simp)]
   have h6:=g2.I
   have h7:=V.lie.I
   rw [h6,h7]; rfl
 ·have hi:=V.lie.eq R.n (of_decide_eq_false (p:=I < n) h)
  have hk2:=V.k
  rw [hi,List.drop_length] at hk2
  clear h
  subst hD
  rw [hk2]
  exact fin_eq rfl rfl
end Go.Proofs.YtefelnhpfdcleaaGreatDoor
namespace Go.Proofs.YtefelnhpfdcleaaGreatDoor
open Go Go.Sx
set_option maxRecDepth 100000
set_option maxHeartbeats 8000000
def keptH (F : List UInt8→Bool) (l : List HF) : List HF:=l.filter (keepH F)
def spDelF : FSpec:=fun _ xs ls K=>∃ (l : List HF) (F : List UInt8→Bool) (nl : Bool) (n : Int) (f : Nat→List SV),xs = [.osl (.a nl) (.a n) 0,.clo 159 [.ptr 1 0]]∧ls = [.own 69 (.a n) 2 true f,.blk 156 [.mapv 2],.mset F]∧RowH f n l∧
 ∀ g n',RowH g n' (keptH F l)→K (.sl (.a nl) (.a n') 2 g) [.gone,.blk 156 [.mapv 2],.mset F]
structure DelJ (F : List UInt8→Bool) (l : List HF) (f : Nat→List SV) (j : Nat) (I J : Int) (m : Nat) : Prop where
 lie : AtR l j J m
 I : I = ((keptH F (l.take j)).length : Int)
 row : ∀ k,k < (keptH F (l.take j)).length→f k = hfCells ((keptH F (l.take j)).getD k default)
 rest : ∀ k,j≤k→k < l.length→f k = hfCells (l.getD k default)
 tot : ∀ k,k < l.length→∃ x,f k = hfCells x
 lt : (keptH F (l.take j)).length < j
def delJ (F : List UInt8→Bool) (l : List HF) (nl : Bool) (n : Int) (m : Nat) (vs : List (Option SV)) (hp : List Hl) : Prop :=
 ∃ (j : Nat) (I J : Int) (f : Nat→List SV),vs = [some (.osl (.a nl) (.a n) 0),some (.clo 159 [.ptr 1 0]),some (.int .i64 (.a I)),some (.int .i64 (.a J))]∧hp = [.own 69 (.a n) 2 true f,.blk 156 [.mapv 2],.mset F]∧DelJ F l f j I J m
theorem keptH_take (F : List UInt8→Bool) (l : List HF) {j : Nat} (h : j < l.length) : keptH F (l.take (j + 1)) = keptH F (l.take j) ++ (if keepH F (l.getD j default) then [l.getD j default] else []):=by
 unfold keptH
 rw [List.take_succ_eq_append_getElem h,List.filter_append,List.getD_eq_getElem?_getD,List.getElem?_eq_getElem h]
 congr 1
 simp only [Option.getD_some,List.filter_cons,List.filter_nil]
theorem idxH_none {p : HF→Bool} : ∀ {l : List HF} {i : Int},0≤i→idxH p l i = -1→l.filter (fun x=>!p x) = l
 | [],_,_,_=>rfl
 | x :: l,i,hi,h=>by
  unfold idxH at h
  split at h
  ·omega
  ·rename_i hp
   rw [List.filter_cons,if_pos (by simpa using hp),idxH_none (by omega) h]
theorem idxH_some {p : HF→Bool} : ∀ {l : List HF} {i : Int},0≤i→idxH p l i≠-1→∃ j : Nat,idxH p l i = i + j∧j < l.length∧p (l.getD j default) = true∧(l.take j).filter (fun x=>!p x) = l.take j
 | [],_,_,h=>absurd rfl h
 | x :: l,i,hi,h=>by
  unfold idxH at h ⊢
  split at h
  ·rename_i hp
   exact ⟨0,by rw [if_pos hp]; omega,by simp,by simpa using hp,by simp⟩
  ·rename_i hp
   rw [if_neg hp]
   obtain ⟨j,h1,h2,h3,h4⟩:=idxH_some (by omega) h
   refine ⟨j + 1,by rw [h1]; omega,by simp; omega,by simpa using h3,?_⟩
   rw [List.take_succ_cons,List.filter_cons,if_pos (by simpa using hp),h4]
theorem keptH_len (F : List UInt8→Bool) (l : List HF) : (keptH F l).length≤l.length:=List.length_filter_le _ _
theorem keptH_small {F : List UInt8→Bool} {l : List HF} (h : ∀ i,i < l.length→(l.getD i default).small) : ∀ i,i < (keptH F l).length→((keptH F l).getD i default).small:=by
 intro i hi
 have hm : (keptH F l).getD i default∈l:=by
  rw [List.getD_eq_getElem?_getD,List.getElem?_eq_getElem hi]
  exact (List.mem_filter.1 (List.getElem_mem hi)).1
 obtain ⟨k,hk,e⟩:=List.mem_iff_getElem.1 hm
 have:=h k hk
 rwa [List.getD_eq_getElem?_getD,List.getElem?_eq_getElem hk,Option.getD_some,e] at this
theorem delF_ok : FnOk Tryz.prog gl 157 spDelF:=by
 refine fnOkG (gh:=[(3,[.share 4])]) mixed cxOk (tabConsG idxH_ok (tabConsG del_ok tabNil)) Tryz.func157 (by kernel_rfl) (by kernel_rfl) ?_
 intro xs ls K h
 unfold spDelF at h
 obtain ⟨l,F,nl,n,f,rfl,rfl,R,h⟩:=h
 obtain ⟨l2,hl2⟩ : ∃ l2,l2 = keptH F l:=⟨_,rfl⟩
 obtain ⟨g,hg⟩ : ∃ g,g = hfRow l2:=⟨_,rfl⟩
 obtain ⟨n2,hn2⟩ : ∃ n2 : Int,n2 = l2.length:=⟨_,rfl⟩
 have R2 : RowH g n2 l2:=by
  rw [hg,hn2]; refine RowH.row ?_ ?_
  ·have:=keptH_len F l; have:=R.len; rw [hl2]; omega
  ·rw [hl2]; exact keptH_small R.small
 refine ⟨_,_,h g n2 (by rw [←hl2]; exact R2),fun D hD=>?_⟩
 clear h hn2 hg
 obtain ⟨J,hJ⟩ : ∃ J,J = delJ F l nl n:=⟨_,rfl⟩
 cbv
 refine ⟨l,F,nl,n,f,?_,?_,R,fun i hi=>?_⟩
 ·subst hD; rfl
 ·subst hD; rfl
 cbv
 refine br hD (fun h=>?_) (fun h=>?_)<;>cbv
 ·have h2 : i = -1:=by simpa using h
  clear h
  have h3 : keptH F l = l:=idxH_none (Int.le_refl 0) (show idxDel F l = -1 by rw [←hi]; exact h2)
  rw [h3] at hl2
  subst hl2
  refine ⟨⟨by subst hD; rfl⟩,?_⟩
  subst hD
  refine ⟨LeV.sl rfl ?_ fun k hk=>?_,LeH.refl _,Nat.le_refl _⟩
  ·show n = n2; rw [R.n,R2.n]
  ·have hk : (k : Int) < n:=hk
   have:=R.n
   rw [R.f k (by omega),R2.f k (by omega)]
 have h2 : i≠-1:=by simpa using h
 clear h
 obtain ⟨i0,h3,h4,h5,h6⟩:=idxH_some (Int.le_refl 0) (by rw [hi] at h2; exact h2)
 have h3 : i = (i0 : Int):=by rw [hi]; show idxH _ l 0 = _; rw [h3]; omega
 have hk0 : keptH F (l.take (i0 + 1)) = l.take i0:=by
  rw [keptH_take F l h4]
  have : keepH F (l.getD i0 default) = false:=by unfold keepH; rw [h5]; rfl
  rw [this,if_neg (by simp),List.append_nil]; exact h6
 clear hi h2
 refine ⟨[0,1,5,6],J,⟨rfl,l.length - (i0 + 1),?_⟩,?_⟩
 ·rw [hJ]
  subst hD
  refine ⟨i0 + 1,_,_,f,rfl,rfl,⟨by omega,?_,rfl,R.len⟩,?_,fun k hk=>?_,fun k _ hk=>R.f k hk,fun k hk=>⟨_,R.f k hk⟩,?_⟩
  ·have:=R.len
   show IntKind.i64.wrap (i + 1) = _
   rw [h3,wrap64 (by omega) (by omega)]; omega
  ·rw [hk0,List.length_take]; show i = _; omega
  ·rw [hk0] at hk ⊢
   rw [List.length_take] at hk
   rw [R.f k (by omega),List.getD_eq_getElem?_getD,List.getD_eq_getElem?_getD,List.getElem?_take,if_pos (by omega)]
  ·rw [hk0,List.length_take]; omega
 clear h3 h4 h5 h6 hk0
 intro m vs hp hj
 rw [hJ] at hj
 obtain ⟨j,I,Jv,f1,rfl,rfl,V⟩:=hj
 cbv
 refine br hD (fun h=>?_) (fun h=>?_)<;>cbv
 ·have hlt:=V.lie.lt R.n (of_decide_eq_true (p:=Jv < n) h)
  clear h
  refine ⟨⟨by subst hD; rfl⟩,V.lie.inB hD R.n hlt,fun q hq=>?_⟩
  obtain rfl:=V.lie.j hD hq
  clear hq
  have e1:=V.rest q (Nat.le_refl q) hlt
  have hsm:=R.small q hlt
  have hkt:=keptH_take F l hlt
  obtain ⟨x,hx⟩ : ∃ x,x = l.getD q default:=⟨_,rfl⟩
  rw [←hx] at e1 hkt hsm
  obtain ⟨a,b⟩:=x
  cbv
  rw [e1]
  cbv
  refine ⟨⟨by subst hD; rfl⟩,⟨by subst hD; have:=R.n; show (q : Int) < n; omega⟩,?_⟩
  refine ⟨a,b,F,?_,?_,hsm.1,fun t ht=>?_⟩
  ·rfl
  ·rfl
  cbv
  refine br hD (fun h=>?_) (fun h=>?_)<;>cbv
  ·have h3 : keepH F ⟨a,b⟩ = true:=by
    have h : (!t) = true:=h
    unfold keepH; rw [←h,ht]
   clear h
   rw [if_pos h3] at hkt
   refine ⟨⟨by subst hD; rfl⟩,?_,fun p hp=>?_⟩
   ·subst hD
    have h1:=V.I; have h2:=V.lt; have:=R.n
    exact ⟨by show 0≤I; omega,by show I < n; omega⟩
   have hp2 : p = (keptH F (l.take q)).length:=by
    have hp : (p : Int) = I:=by subst hD; exact hp.h
    have:=V.I; omega
   clear hp
   have hplt : p < l.length:=by have:=V.lt; omega
   obtain ⟨y,hy⟩:=V.tot p hplt
   obtain ⟨c,d⟩:=y
   cbv
   refine ⟨⟨by subst hD; rfl⟩,⟨by subst hD; have:=R.n; show (p : Int) < n; omega⟩,?_⟩
   rw [hy]
   cbv
   intro f2 hf2
   cbv
   obtain ⟨g1,g2⟩:=V.lie.step hD hlt
   generalize hgm : l.length - (q + 1) = m' at g1 g2
   refine ⟨m',g1,?_⟩
   rw [hJ]
   unfold delJ
   subst hD
   have hat : f2 p = hfCells ⟨a,b⟩:=hf2.at_
   have hln : (keptH F (l.take (q + 1))).length = p + 1:=by rw [hkt,List.length_append,←hp2]; rfl
   refine ⟨q + 1,_,_,f2,rfl,rfl,g2,?_,fun k hk=>?_,fun k hk hk2=>?_,fun k hk=>?_,?_⟩
   ·rw [hln]
    have h1:=V.I; have h3:=R.len
    show IntKind.i64.wrap (I + 1) = _
    rw [wrap64 (by omega) (by omega)]; omega
   ·rw [hln] at hk
    rw [hkt]
    by_cases e : k = p
    ·subst e
     rw [hat,List.getD_eq_getElem?_getD,List.getElem?_append_right (by omega),←hp2,Nat.sub_self]; rfl
    ·rw [hf2.other k e,V.row k (by omega),List.getD_eq_getElem?_getD,List.getD_eq_getElem?_getD,List.getElem?_append_left (by omega)]
   ·have h4:=V.lt
    rw [hf2.other k (by omega)]
    exact V.rest k (by omega) hk2
   ·by_cases e : k = p
    ·subst e; exact ⟨_,hat⟩
    ·rw [hf2.other k e]; exact V.tot k hk
   ·rw [hln]; have:=V.lt; omega
  ·have h3 : keepH F ⟨a,b⟩ = false:=by
    have h : (!t) = false:=h
    unfold keepH; rw [←h,ht]
   clear h
   rw [if_neg (by rw [h3]; simp),List.append_nil] at hkt
   obtain ⟨g1,g2⟩:=V.lie.step hD hlt
   generalize hgm : l.length - (q + 1) = m' at g1 g2
   refine ⟨m',g1,?_⟩
   rw [hJ]
   unfold delJ
   subst hD
   refine ⟨q + 1,_,_,f1,rfl,rfl,g2,?_,?_,fun k hk=>V.rest k (by omega),V.tot,?_⟩
   ·rw [hkt]; exact V.I
   ·rw [hkt]; exact V.row
   ·rw [hkt]; have:=V.lt; omega
 ·have hi:=V.lie.eq R.n (of_decide_eq_false (p:=Jv < n) h)
  clear h
  have hk2 : keptH F (l.take j) = l2:=by rw [hi,List.take_length,hl2]
  have hI : I = (l2.length : Int):=by rw [←hk2]; exact V.I
  have hle : l2.length≤l.length:=by rw [hl2]; exact keptH_len F l
  have hrow : ∀ k,k < l2.length→f1 k = hfCells (l2.getD k default):=by rw [←hk2]; exact V.row
  have R1 : I = n2:=by rw [R2.n]; exact hI
  have R3 : 0≤n2∧n2≤n:=by have:=R2.n; have:=R.n; omega
  clear hk2 hI V
  refine ⟨⟨by subst hD; rfl⟩,by subst hD; exact ⟨by show 0≤I; omega,by show I≤n; omega,Int.le_refl _⟩,?_⟩
  refine ⟨⟨by subst hD; rfl⟩,fun f3 hf3=>?_⟩
  cbv
  refine ⟨⟨by subst hD; rfl⟩,by subst hD; exact ⟨Int.le_refl _,by show 0≤I; omega,by show I≤n; omega⟩,?_⟩
  subst hD
  refine ⟨LeV.sl rfl R1 fun k hk=>?_,LeH.refl _,Nat.le_refl _⟩
  have hk : (k : Int) < I:=hk
  have h4 : k < l2.length:=by have:=R2.n; omega
  rw [hf3.lo k hk,hrow k h4,R2.f k h4]
def stripF (l : List HF) : List HF×Int :=
 if checkF l≠0 then ([],checkF l) else if (hopsF l).2 then (keptH (hopsF l).1 l,0) else ([],6)
structure ResH (l : List HF) (nb : Bool) (n : Int) (f : Nat→List SV) : Prop where
 row : RowH f n l
 nil : nb = true→l = []
def spStrip : FSpec:=fun _ xs ls K=>∃ (l : List HF) (nl : Bool) (n : Int) (f : Nat→List SV),xs = [.sl (.a nl) (.a n) 2 f]∧ls = []∧RowH f n l∧(nl = true→l = [])∧
 ∀ r e nb n' g,(r,e) = stripF l→ResH r nb n' g→(nb = (nl || e != 0))→K (.tup [.sl (.a nb) (.a n') 2 g,.int .i64 (.a e)]) []
theorem checkF_len {l : List HF} (h : checkF l = 0) : l.length≤100:=by
 unfold checkF at h
 split at h
 ·cases h
 ·omega
theorem strip_ok : FnOk Tryz.prog gl 138 spStrip:=by
 refine fnOkG (gh:=[]) mixed cxOk (tabConsG hops_ok (tabConsG clone_ok (tabConsG delF_ok tabNil))) Tryz.func138 (by kernel_rfl) (by kernel_rfl) ?_
 intro xs ls K h
 unfold spStrip at h
 obtain ⟨l,nl,n,f,rfl,rfl,R,hnl,h⟩:=h
 obtain ⟨k,hk⟩ : ∃ k,k = stripF l:=⟨_,rfl⟩
 obtain ⟨kr,ke⟩:=k
 obtain ⟨g,hg⟩ : ∃ g,g = hfRow kr:=⟨_,rfl⟩
 obtain ⟨n2,hn2⟩ : ∃ n2 : Int,n2 = kr.length:=⟨_,rfl⟩
 have hkr : kr = []∨kr = keptH (hopsF l).1 l:=by
  unfold stripF at hk
  split at hk
  ·simp only [Prod.mk.injEq] at hk; exact .inl hk.1
  ·split at hk
   ·simp only [Prod.mk.injEq] at hk; exact .inr hk.1
   ·simp only [Prod.mk.injEq] at hk; exact .inl hk.1
 have R2 : RowH g n2 kr:=by
  rw [hg,hn2]
  rcases hkr with rfl | rfl
  ·exact ⟨rfl,fun i hi=>absurd hi (by simp),by simp,fun i hi=>absurd hi (by simp)⟩
  ·refine RowH.row ?_ (keptH_small R.small)
   have:=keptH_len (hopsF l).1 l; have:=R.len; omega
 obtain ⟨nb,hnb⟩ : ∃ nb,nb = (nl || ke != 0):=⟨_,rfl⟩
 refine ⟨_,_,h kr ke nb n2 g hk ⟨R2,fun hb=>?_⟩ hnb,fun D hD=>?_⟩
 ·rcases hkr with h1 | h1
  ·exact h1
  ·rw [hnb] at hb
   simp only [Bool.or_eq_true,bne_iff_ne,ne_eq] at hb
   rcases hb with hb | hb
   ·rw [h1,hnl hb]; rfl
   ·unfold stripF at hk
    split at hk
    ·simp only [Prod.mk.injEq] at hk; exact hk.1
    ·split at hk
     ·simp only [Prod.mk.injEq] at hk; exact absurd hk.2 hb
     ·simp only [Prod.mk.injEq] at hk; exact hk.1
 clear h hg hn2
 unfold stripF at hk
 cbv
 refine ⟨l,_,_,f,rfl,rfl,by subst hD; exact R,fun k hkk=>?_⟩
 unfold hopsK at hkk
 obtain ⟨ce,hce⟩ : ∃ ce,ce = checkF l:=⟨_,rfl⟩
 rw [←hce] at hkk hk
 by_cases h1 : ce≠0
 ·rw [if_pos h1] at hkk hk
  rw [hkk]
  cbv
  refine br hD (fun h=>?_) (fun h=>?_)
  ·cbv
   simp only [Prod.mk.injEq] at hk
   obtain ⟨rfl,rfl⟩:=hk
   subst hD
   refine ⟨LeV.tup (LeL.cons (LeV.sl ?_ ?_ fun i hi=>absurd hi (by show ¬ ((i : Int) < 0); omega)) (LeL.refl _)),LeH.refl _,Nat.le_refl _⟩
   ·show true = nb
    rw [hnb]; simp [h1]
   ·show 0 = n2; rw [R2.n]; rfl
  ·cbv
   exact absurd h (by simp [BT.den,cmpDen,h1])
 ·have hc0 : checkF l = 0:=by rw [←hce]; simpa using h1
  rw [if_neg h1] at hkk hk
  by_cases h2 : (hopsF l).2 = true
  ·rw [if_pos h2] at hkk hk
   simp only [Prod.mk.injEq] at hk
   obtain ⟨rfl,rfl⟩:=hk
   obtain ⟨F,hF⟩ : ∃ F,F = (hopsF l).1:=⟨_,rfl⟩
   rw [←hF] at hkk R2
   rw [hkk]
   cbv
   refine br hD (fun h=>?_) (fun h=>?_)
   ·cbv
    exact absurd h (by simp [BT.den,cmpDen])
   cbv
   refine ⟨l,nl,n,f,?_,rfl,R,by have:=checkF_len hc0; omega,hnl,fun g1 n1 R1=>?_⟩
   ·subst hD; rfl
   cbv
   refine ⟨l,F,nl,n1,g1,?_,?_,R1,fun g3 n3 R3=>?_⟩
   ·subst hD; rfl
   ·subst hD; rfl
   cbv
   subst hD
   refine ⟨LeV.tup (LeL.cons (LeV.sl ?_ ?_ fun i hi=>?_) (LeL.refl _)),LeH.refl _,Nat.le_refl _⟩
   ·show nl = nb
    rw [hnb]; simp
   ·show n3 = n2; rw [R2.n,R3.n]
   ·have hi : (i : Int) < n3:=hi
    have:=R3.n
    rw [R3.f i (by omega),R2.f i (by omega)]
  ·rw [if_neg h2] at hkk hk
   simp only [Prod.mk.injEq] at hk
   obtain ⟨rfl,rfl⟩:=hk
   rw [hkk]
   cbv
   refine br hD (fun h=>?_) (fun h=>?_)
   ·cbv
    subst hD
    refine ⟨LeV.tup (LeL.cons (LeV.sl ?_ ?_ fun i hi=>absurd hi (by show ¬ ((i : Int) < 0); omega)) (LeL.refl _)),LeH.refl _,Nat.le_refl _⟩
    ·show true = nb
     rw [hnb]; simp
    ·show 0 = n2; rw [R2.n]; rfl
   ·cbv
    exact absurd h (by simp [BT.den,cmpDen])
end Go.Proofs.YtefelnhpfdcleaaGreatDoor
namespace Go.Proofs.YtefelnhpfdcleaaGreatDoor
open Go Go.Sx
set_option maxRecDepth 100000
set_option maxHeartbeats 40000000
def spKinds : FSpec:=fun _ xs ls K=>xs = []∧ls = []∧∀ R,R = kindCells→K (.agg R) []
def ttK (Z : List SV) : List (Nat×TI):=[
 (3,⟨.int .i64,1,8,[.int .i64 (.l 0)]⟩),
 (4,⟨.bool,1,1,[.bool (.l false)]⟩),
 (5,⟨.int .u8,1,1,[.int .u8 (.l 0)]⟩),
 (9,⟨.string,1,16,[.str []]⟩),
 (23,⟨.int .i64,1,8,[.int .i64 (.l 0)]⟩),
 (36,⟨.slice 5,1,24,[(.sl (.l true) (.l 0) 1 fun _=>[])]⟩),
 (93,⟨.array 256 5,256,256,Z⟩)]
def zCells : List SV:=List.replicate 256 (.int .u8 (.l 0))
theorem ttK_ok : ttB Tryz.prog (ttK zCells) = true:=by kernel_rfl
theorem cxOkK {Z : List SV} (hZ : Z = zCells) {tab : List (Nat×FSpec)} {gl : List (Nat×SV)} {gh : List (Nat×List Gh)} {its : List (Nat×(FSpec→FSpec))} {yl : List FSpec} : CxOk Tryz.prog ⟨dn,ttK Z,tab,gl,[],gh,its,yl⟩:=by
 subst hZ; exact ⟨rfl,ttK_ok,fun _ h=>(by cases h)⟩
def mayL : List Nat:=[33,36,38,39,40,41,42,43,44,59,61,58,64,47]
def may2 (i : Nat) (c : Nat) : ST:=if c∈mayL.take i then .a 2 else .l 0
def zRow (_ : Nat) : List SV:=[.int .u8 (.l 0)]
theorem zRow_built : ZRow zRow 256 1 zCells:=by
 refine ⟨⟨fun i r h=>?_⟩⟩
 unfold zCells at h
 have h2:=chunks_get 256 i _ r h
 have hi : i < 256:=by
  rcases Nat.lt_or_ge i 256 with h3 | h3
  ·exact h3
  ·have : (chunks 1 256 (List.replicate 256 (.int .u8 (.l 0)))).length = 256:=by kernel_rfl
   rw [List.getElem?_eq_none (by omega)] at h; cases h
 rw [h2,takeN_eq,dropN_eq,Nat.mul_one,List.drop_replicate,List.take_replicate]
 have : min 1 (256 - i) = 1:=by omega
 rw [this]; rfl
structure KaV (i : Nat) (I : Int) (f : Nat→List SV) (m : Nat) : Prop where
 I : I = i
 le : i≤14
 m : m = 14 - i
 row : ∀ c,c < 256→f c = [.int .u8 (may2 i c)]
def kaJ (z fl : Nat→List SV) (m : Nat) (vs : List (Option SV)) (hp : List Hl) : Prop :=
 ∃ (i : Nat) (I : Int) (f : Nat→List SV),vs = [some (.ptr 0 0),some (.ptr 1 0),some (.osl (.a false) (.a 14) 2),some (.int .i64 (.a 14)),some (.int .i64 (.a I))]∧
  hp = [.row 93 (.a 256) 1 z,.row 93 (.a 256) 1 f,.own 5 (.a 14) 1 false fl]∧KaV i I f m
def kd2 (n c : Nat) : ST:=if c < n∧kindN c = 1 then .a 1 else may2 14 c
structure KdV (c : Nat) (I : Int) (f : Nat→List SV) (m : Nat) : Prop where
 I : I = c
 le : c≤256
 m : m = 256 - c
 row : ∀ k,k < 256→f k = [.int .u8 (kd2 c k)]
theorem KdV.lo {c : Nat} {I : Int} {f : Nat→List SV} {m : Nat} (V : KdV c I f m) : 0≤I:=by have:=V.I; omega
theorem KdV.row1 {c : Nat} {I : Int} {f : Nat→List SV} {m : Nat} (V : KdV c I f m) (h : c < 256) : ∃ X,f c = [.int .u8 X]:=⟨_,V.row c h⟩
theorem KdV.yes {c : Nat} {I : Int} {f f2 : Nat→List SV} {m : Nat} (V : KdV c I f m) (h : c < 256) (hf : SetAt f2 f c [.int .u8 (.a 1)]) (hk : kindN c = 1) : KdV (c + 1) (dn.i (.bin .add .i64 (.a I) (.l 1))) f2 (256 - (c + 1)):=by
 refine ⟨?_,by omega,rfl,fun k hk2=>?_⟩
 ·have:=V.I
  show IntKind.i64.wrap (I + 1) = _
  rw [wrap64 (by omega) (by omega)]; omega
 ·by_cases e : k = c
  ·subst e
   rw [hf.at_,kd2,if_pos ⟨by omega,hk⟩]
  ·rw [hf.other k e,V.row k hk2]
   unfold kd2
   have : (k < c∧kindN k = 1)↔(k < c + 1∧kindN k = 1):=by constructor<;>rintro ⟨a,b⟩<;>exact ⟨by omega,b⟩
   simp only [this]
theorem KdV.no {c : Nat} {I : Int} {f : Nat→List SV} {m : Nat} (V : KdV c I f m) (h : c < 256) (hk : kindN c≠1) : KdV (c + 1) (dn.i (.bin .add .i64 (.a I) (.l 1))) f (256 - (c + 1)):=by
 refine ⟨?_,by omega,rfl,fun k hk2=>?_⟩
 ·have:=V.I
  show IntKind.i64.wrap (I + 1) = _
  rw [wrap64 (by omega) (by omega)]; omega
 ·rw [V.row k hk2]
  unfold kd2
  have : (k < c∧kindN k = 1)↔(k < c + 1∧kindN k = 1):=by
   constructor
   ·rintro ⟨a,b⟩; exact ⟨by omega,b⟩
   ·rintro ⟨a,b⟩
    refine ⟨?_,b⟩
    rcases Nat.lt_or_ge k c with h | h
    ·exact h
    ·obtain rfl : k = c:=by omega
     exact absurd b hk
  simp only [this]
def kdJ (z fl : Nat→List SV) (m : Nat) (vs : List (Option SV)) (hp : List Hl) : Prop :=
 ∃ (c : Nat) (I : Int) (f : Nat→List SV),vs = [some (.ptr 0 0),some (.ptr 1 0),some (.int .i64 (.a I))]∧hp = [.row 93 (.a 256) 1 z,.row 93 (.a 256) 1 f,.own 5 (.a 14) 1 false fl]∧KdV c I f m
theorem idx4 : ∀ c : Fin 256,decide (0≤Lib.indexByte [45,46,95,126] (UInt8.ofNat c.1)) = decide (c.1 = 45∨c.1 = 46∨c.1 = 95∨c.1 = 126):=by decide
def kdCells : List SV:=(List.range 256).map fun k=>.int .u8 (kd2 256 k)
theorem kd_flat {f : Nat→List SV} (h : ∀ k,k < 256→f k = [.int .u8 (kd2 256 k)]) : Flat f 256 1 kdCells:=by
 refine ⟨by simp [kdCells],fun i hi=>?_⟩
 have hi : i < 256:=by omega
 have hl : kdCells.length = 256:=by simp [kdCells]
 rw [h i hi,Nat.mul_one,List.drop_eq_getElem_cons (by rw [hl]; exact hi)]
 simp [kdCells]
structure FlOk (fl : Nat→List SV) : Prop where
 h : ∀ j,j < 14→fl j = [.int .u8 (.a ((mayL.getD j 0 : Nat) : Int))]
structure VI (vi : Int) (v : Nat) : Prop where
 h : vi = (v : Int)
def kdLit : List SV:=[.int .u8 (.l 0),.int .u8 (.l 0),.int .u8 (.l 0),.int .u8 (.l 0),.int .u8 (.l 0),.int .u8 (.l 0),.int .u8 (.l 0),.int .u8 (.l 0),.int .u8 (.l 0),.int .u8 (.l 0),.int .u8 (.l 0),.int .u8 (.l 0),.int .u8 (.l 0),.int .u8 (.l 0),.int .u8 (.l 0),.int .u8 (.l 0),.int .u8 (.l 0),.int .u8 (.l 0),.int .u8 (.l 0),.int .u8 (.l 0),.int .u8 (.l 0),.int .u8 (.l 0),.int .u8 (.l 0),.int .u8 (.l 0),.int .u8 (.l 0),.int .u8 (.l 0),.int .u8 (.l 0),.int .u8 (.l 0),.int .u8 (.l 0),.int .u8 (.l 0),.int .u8 (.l 0),.int .u8 (.l 0),.int .u8 (.l 0),.int .u8 (.a 2),.int .u8 (.l 0),.int .u8 (.l 0),.int .u8 (.a 2),.int .u8 (.l 0),.int .u8 (.a 2),.int .u8 (.a 2),.int .u8 (.a 2),.int .u8 (.a 2),.int .u8 (.a 2),.int .u8 (.a 2),.int .u8 (.a 2),.int .u8 (.a 1),.int .u8 (.a 1),.int .u8 (.a 2),.int .u8 (.a 1),.int .u8 (.a 1),.int .u8 (.a 1),.int .u8 (.a 1),.int .u8 (.a 1),.int .u8 (.a 1),.int .u8 (.a 1),.int .u8 (.a 1),.int .u8 (.a 1),.int .u8 (.a 1),.int .u8 (.a 2),.int .u8 (.a 2),.int .u8 (.l 0),.int .u8 (.a 2),.int .u8 (.l 0),.int .u8 (.l 0),.int .u8 (.a 2),.int .u8 (.a 1),.int .u8 (.a 1),.int .u8 (.a 1),.int .u8 (.a 1),.int .u8 (.a 1),.int .u8 (.a 1),.int .u8 (.a 1),.int .u8 (.a 1),.int .u8 (.a 1),.int .u8 (.a 1),.int .u8 (.a 1),.int .u8 (.a 1),.int .u8 (.a 1),.int .u8 (.a 1),.int .u8 (.a 1),.int .u8 (.a 1),.int .u8 (.a 1),.int .u8 (.a 1),.int .u8 (.a 1),.int .u8 (.a 1),.int .u8 (.a 1),.int .u8 (.a 1),.int .u8 (.a 1),.int .u8 (.a 1),.int .u8 (.a 1),.int .u8 (.a 1),.int .u8 (.l 0),.int .u8 (.l 0),.int .u8 (.l 0),.int .u8 (.l 0),.int .u8 (.a 1),.int .u8 (.l 0),.int .u8 (.a 1),.int .u8 (.a 1),.int .u8 (.a 1),.int .u8 (.a 1),.int .u8 (.a 1),.int .u8 (.a 1),.int .u8 (.a 1),.int .u8 (.a 1),.int .u8 (.a 1),.int .u8 (.a 1),.int .u8 (.a 1),.int .u8 (.a 1),.int .u8 (.a 1),.int .u8 (.a 1),.int .u8 (.a 1),.int .u8 (.a 1),.int .u8 (.a 1),.int .u8 (.a 1),.int .u8 (.a 1),.int .u8 (.a 1),.int .u8 (.a 1),.int .u8 (.a 1),.int .u8 (.a 1),.int .u8 (.a 1),.int .u8 (.a 1),.int .u8 (.a 1),.int .u8 (.l 0),.int .u8 (.l 0),.int .u8 (.l 0),.int .u8 (.a 1),.int .u8 (.l 0),.int .u8 (.l 0),.int .u8 (.l 0),.int .u8 (.l 0),.int .u8 (.l 0),.int .u8 (.l 0),.int .u8 (.l 0),.int .u8 (.l 0),.int .u8 (.l 0),.int .u8 (.l 0),.int .u8 (.l 0),.int .u8 (.l 0),.int .u8 (.l 0),.int .u8 (.l 0),.int .u8 (.l 0),.int .u8 (.l 0),.int .u8 (.l 0),.int .u8 (.l 0),.int .u8 (.l 0),.int .u8 (.l 0),.int .u8 (.l 0),.int .u8 (.l 0),.int .u8 (.l 0),.int .u8 (.l 0),.int .u8 (.l 0),.int .u8 (.l 0),.int .u8 (.l 0),.int .u8 (.l 0),.int .u8 (.l 0),.int .u8 (.l 0),.int .u8 (.l 0),.int .u8 (.l 0),.int .u8 (.l 0),.int .u8 (.l 0),.int .u8 (.l 0),.int .u8 (.l 0),.int .u8 (.l 0),.int .u8 (.l 0),.int .u8 (.l 0),.int .u8 (.l 0),.int .u8 (.l 0),.int .u8 (.l 0),.int .u8 (.l 0),.int .u8 (.l 0),.int .u8 (.l 0),.int .u8 (.l 0),.int .u8 (.l 0),.int .u8 (.l 0),.int .u8 (.l 0),.int .u8 (.l 0),.int .u8 (.l 0),.int .u8 (.l 0),.int .u8 (.l 0),.int .u8 (.l 0),.int .u8 (.l 0),.int .u8 (.l 0),.int .u8 (.l 0),.int .u8 (.l 0),.int .u8 (.l 0),.int .u8 (.l 0),.int .u8 (.l 0),.int .u8 (.l 0),.int .u8 (.l 0),.int .u8 (.l 0),.int .u8 (.l 0),.int .u8 (.l 0),.int .u8 (.l 0),.int .u8 (.l 0),.int .u8 (.l 0),.int .u8 (.l 0),.int .u8 (.l 0),.int .u8 (.l 0),.int .u8 (.l 0),.int .u8 (.l 0),.int .u8 (.l 0),.int .u8 (.l 0),.int .u8 (.l 0),.int .u8 (.l 0),.int .u8 (.l 0),.int .u8 (.l 0),.int .u8 (.l 0),.int .u8 (.l 0),.int .u8 (.l 0),.int .u8 (.l 0),.int .u8 (.l 0),.int .u8 (.l 0),.int .u8 (.l 0),.int .u8 (.l 0),.int .u8 (.l 0),.int .u8 (.l 0),.int .u8 (.l 0),.int .u8 (.l 0),.int .u8 (.l 0),.int .u8 (.l 0),.int .u8 (.l 0),.int .u8 (.l 0),.int .u8 (.l 0),.int .u8 (.l 0),.int .u8 (.l 0),.int .u8 (.l 0),.int .u8 (.l 0),.int .u8 (.l 0),.int .u8 (.l 0),.int .u8 (.l 0),.int .u8 (.l 0),.int .u8 (.l 0),.int .u8 (.l 0),.int .u8 (.l 0),.int .u8 (.l 0),.int .u8 (.l 0),.int .u8 (.l 0),.int .u8 (.l 0),.int .u8 (.l 0),.int .u8 (.l 0),.int .u8 (.l 0),.int .u8 (.l 0),.int .u8 (.l 0),.int .u8 (.l 0),.int .u8 (.l 0),.int .u8 (.l 0),.int .u8 (.l 0),.int .u8 (.l 0),.int .u8 (.l 0),.int .u8 (.l 0),.int .u8 (.l 0),.int .u8 (.l 0),.int .u8 (.l 0),.int .u8 (.l 0),.int .u8 (.l 0)]
theorem kdLit_eq : kdLit = kdCells:=by kernel_rfl
theorem kdLit_plain : PlainC kdLit:=⟨by kernel_rfl,by kernel_rfl⟩
theorem kinds_ok : FnOk Tryz.prog [] 72 spKinds:=by
 obtain ⟨Z,hZ⟩ : ∃ Z,Z = zCells:=⟨_,rfl⟩
 refine fnOk (gh:=[(3000000,[]),(3000001,[]),(999985,[]),(16,[.unrow 0])]) mixed (cxOkK hZ) (tabCons idxB_ok tabNil) Tryz.func72 (by kernel_rfl) (by kernel_rfl) ?_
 rintro xs ls K ⟨rfl,rfl,h⟩
 obtain ⟨R,hR⟩ : ∃ R,R = kindCells:=⟨_,rfl⟩
 refine ⟨_,_,h R hR,fun D hD=>?_⟩
 clear h
 obtain ⟨z,hz⟩ : ∃ z,z = zRow:=⟨_,rfl⟩
 have hzb : ZRow z 256 1 Z:=by rw [hz,hZ]; exact zRow_built
 have hz0 : ∀ k,z k = [.int .u8 (.l 0)]:=fun k=>by rw [hz]; rfl
 cbv
 refine ⟨z,hzb,?_⟩
 cbv
 refine ⟨z,hzb,?_⟩
 cbv
 intro fl hf
 have hfl : FlOk fl:=by
  subst hD
  refine ⟨fun j hj=>?_⟩
  match j,hj with
  | 0,_=>exact hf.h 0 _ rfl
  | 1,_=>exact hf.h 1 _ rfl
  | 2,_=>exact hf.h 2 _ rfl
  | 3,_=>exact hf.h 3 _ rfl
  | 4,_=>exact hf.h 4 _ rfl
  | 5,_=>exact hf.h 5 _ rfl
  | 6,_=>exact hf.h 6 _ rfl
  | 7,_=>exact hf.h 7 _ rfl
  | 8,_=>exact hf.h 8 _ rfl
  | 9,_=>exact hf.h 9 _ rfl
  | 10,_=>exact hf.h 10 _ rfl
  | 11,_=>exact hf.h 11 _ rfl
  | 12,_=>exact hf.h 12 _ rfl
  | 13,_=>exact hf.h 13 _ rfl
 clear hf
 cbv
 refine ⟨⟨by subst hD; rfl⟩,?_⟩
 obtain ⟨J,hJ⟩ : ∃ J,J = kaJ z fl:=⟨_,rfl⟩
 cbv
 refine ⟨[0,1,6,7,8],J,⟨rfl,14,?_⟩,?_⟩
 ·rw [hJ]
  subst hD
  refine ⟨0,0,z,rfl,rfl,rfl,by omega,rfl,fun c _=>?_⟩
  rw [hz0]; rfl
 intro m vs hp hj
 rw [hJ] at hj
 obtain ⟨i,I,f,rfl,rfl,V⟩:=hj
 cbv
 refine br hD (fun h=>?_) (fun h=>?_)<;>cbv
 ·have hlt : i < 14:=by
   have h : decide (I < 14) = true:=h
   simp only [decide_eq_true_eq] at h
   have:=V.I; omega
  clear h
  refine ⟨⟨by subst hD; rfl⟩,by subst hD; exact ⟨by show 0≤I; have:=V.I; omega,by show I < 14; have:=V.I; omega⟩,fun j hj=>?_⟩
  have hj2 : j = i:=by
   have hj : (j : Int) = I:=by subst hD; exact hj.h
   have:=V.I; omega
  subst hj2
  clear hj
  have e1:=hfl.h j hlt
  obtain ⟨v,hv⟩ : ∃ v,v = mayL.getD j 0:=⟨_,rfl⟩
  rw [←hv] at e1
  have hv256 : v < 256:=by
   have : ∀ j : Fin 14,mayL.getD j.1 0 < 256:=by decide
   rw [hv]; exact this ⟨j,hlt⟩
  obtain ⟨vi,hvi⟩ : ∃ vi : Int,VI vi v:=⟨_,⟨rfl⟩⟩
  rw [←hvi.h] at e1
  cbv
  refine ⟨⟨by subst hD; rfl⟩,⟨by subst hD; show (j : Int) < 14; omega⟩,?_⟩
  rw [e1]
  cbv
  refine ⟨by subst hD; exact ⟨by show 0≤vi; rw [hvi.h]; exact Int.natCast_nonneg v,by show vi < 256; rw [hvi.h]; exact_mod_cast hv256⟩,fun q hq=>?_⟩
  have hq2 : q = v:=by
   have hq : (q : Int) = vi:=by subst hD; exact hq.h
   rw [hvi.h] at hq; exact_mod_cast hq
  subst hq2
  clear hq
  obtain ⟨X,e2⟩ : ∃ X,f q = [.int .u8 X]:=⟨_,V.row q hv256⟩
  cbv
  refine ⟨⟨by subst hD; show (q : Int) < 256; exact_mod_cast hv256⟩,?_⟩
  rw [e2]
  cbv
  intro f2 hf2
  cbv
  refine ⟨14 - (j + 1),by have:=V.m; omega,?_⟩
  rw [hJ]
  unfold kaJ
  subst hD
  refine ⟨j + 1,_,f2,rfl,rfl,?_,by omega,rfl,fun c hc=>?_⟩
  ·have:=V.I
   show IntKind.i64.wrap (I + 1) = _
   rw [wrap64 (by omega) (by omega)]; omega
  ·have htk : ∀ x,x∈mayL.take (j + 1)↔x∈mayL.take j∨x = q:=by
    intro x
    have hl : j < mayL.length:=hlt
    rw [List.take_succ_eq_append_getElem hl,List.mem_append,List.mem_singleton]
    have : mayL[j] = q:=by rw [hv,List.getD_eq_getElem?_getD,List.getElem?_eq_getElem hl]; rfl
    rw [this]
   by_cases e : c = q
   ·subst e
    rw [hf2.at_,may2,if_pos ((htk c).2 (.inr rfl))]
    rfl
   ·rw [hf2.other c e,V.row c hc]
    unfold may2
    have : (c∈mayL.take (j + 1))↔c∈mayL.take j:=by rw [htk]; exact ⟨fun h=>h.resolve_right e,.inl⟩
    simp only [this]
 have hi : i = 14:=by
  have h : decide (I < 14) = false:=h
  simp only [decide_eq_false_iff_not] at h
  have:=V.I; have:=V.le; omega
 have hrow:=V.row
 rw [hi] at hrow
 clear h V hJ J hi
 obtain ⟨J,hJ⟩ : ∃ J,J = kdJ z fl:=⟨_,rfl⟩
 refine ⟨[0,1,15],J,⟨rfl,256,?_⟩,?_⟩
 ·rw [hJ]
  subst hD
  refine ⟨0,0,f,rfl,rfl,rfl,by omega,rfl,fun k hk=>?_⟩
  rw [hrow k hk,kd2,if_neg (by omega)]
 clear hrow
 intro m vs hp hj
 rw [hJ] at hj
 obtain ⟨c,I,f,rfl,rfl,V⟩:=hj
 cbv
 refine br hD (fun h=>?_) (fun h=>?_)<;>cbv
 ·have hlt : c < 256:=by
   have h : decide (I < 256) = true:=h
   simp only [decide_eq_true_eq] at h
   have:=V.I; omega
  clear h
  refine br hD (fun h=>?_) (fun h=>?_)<;>cbv
  ·have hk1 : kindN c = 1:=by
    have h : (decide (48≤I) && decide (I≤57)) = true:=h
    simp only [Bool.and_eq_true,decide_eq_true_eq] at h
    have:=V.I
    unfold kindN; rw [if_pos (by omega)]
   clear h
   refine ⟨by subst hD; exact ⟨by show 0≤I; have:=V.lo; omega,by show I < 256; have:=V.I; omega⟩,fun q hq=>?_⟩
   have hq2 : q = c:=by
    have hq : (q : Int) = I:=by subst hD; exact hq.h
    have:=V.I; omega
   subst hq2
   clear hq
   cbv
   obtain ⟨X,hX⟩:=V.row1 hlt
   refine ⟨by subst hD; exact ⟨by show (q : Int) < 256; omega⟩,?_⟩
   rw [hX]
   cbv
   intro f2 hf2
   cbv
   refine ⟨256 - (q + 1),by have:=V.m; omega,?_⟩
   rw [hJ]
   unfold kdJ
   subst hD
   exact ⟨q + 1,_,f2,rfl,rfl,V.yes hlt hf2 hk1⟩
  have n1 : ¬ (48≤c∧c≤57):=by
   have h : (decide (48≤I) && decide (I≤57)) = false:=h
   have hI:=V.I
   rintro ⟨a,b⟩
   have a' : decide (48≤I) = true:=by rw [decide_eq_true_eq]; omega
   have b' : decide (I≤57) = true:=by rw [decide_eq_true_eq]; omega
   rw [a',b'] at h; cases h
  clear h
  refine br hD (fun h=>?_) (fun h=>?_)<;>cbv
  ·have hk1 : kindN c = 1:=by
    have h : (decide (65≤I) && decide (I≤90)) = true:=h
    simp only [Bool.and_eq_true,decide_eq_true_eq] at h
    have:=V.I
    unfold kindN; rw [if_pos (by omega)]
   clear h
   refine ⟨by subst hD; exact ⟨by show 0≤I; have:=V.lo; omega,by show I < 256; have:=V.I; omega⟩,fun q hq=>?_⟩
   have hq2 : q = c:=by
    have hq : (q : Int) = I:=by subst hD; exact hq.h
    have:=V.I; omega
   subst hq2
   clear hq
   cbv
   obtain ⟨X,hX⟩:=V.row1 hlt
   refine ⟨by subst hD; exact ⟨by show (q : Int) < 256; omega⟩,?_⟩
   rw [hX]
   cbv
   intro f2 hf2
   cbv
   refine ⟨256 - (q + 1),by have:=V.m; omega,?_⟩
   rw [hJ]
   unfold kdJ
   subst hD
   exact ⟨q + 1,_,f2,rfl,rfl,V.yes hlt hf2 hk1⟩
  have n2 : ¬ (65≤c∧c≤90):=by
   have h : (decide (65≤I) && decide (I≤90)) = false:=h
   have hI:=V.I
   rintro ⟨a,b⟩
   have a' : decide (65≤I) = true:=by rw [decide_eq_true_eq]; omega
   have b' : decide (I≤90) = true:=by rw [decide_eq_true_eq]; omega
   rw [a',b'] at h; cases h
  clear h
  refine br hD (fun h=>?_) (fun h=>?_)<;>cbv
  ·have hk1 : kindN c = 1:=by
    have h : (decide (97≤I) && decide (I≤122)) = true:=h
    simp only [Bool.and_eq_true,decide_eq_true_eq] at h
    have:=V.I
    unfold kindN; rw [if_pos (by omega)]
   clear h
   refine ⟨by subst hD; exact ⟨by show 0≤I; have:=V.lo; omega,by show I < 256; have:=V.I; omega⟩,fun q hq=>?_⟩
   have hq2 : q = c:=by
    have hq : (q : Int) = I:=by subst hD; exact hq.h
    have:=V.I; omega
   subst hq2
   clear hq
   cbv
   obtain ⟨X,hX⟩:=V.row1 hlt
   refine ⟨by subst hD; exact ⟨by show (q : Int) < 256; omega⟩,?_⟩
   rw [hX]
   cbv
   intro f2 hf2
   cbv
   refine ⟨256 - (q + 1),by have:=V.m; omega,?_⟩
   rw [hJ]
   unfold kdJ
   subst hD
   exact ⟨q + 1,_,f2,rfl,rfl,V.yes hlt hf2 hk1⟩
  have n3 : ¬ (97≤c∧c≤122):=by
   have h : (decide (97≤I) && decide (I≤122)) = false:=h
   have hI:=V.I
   rintro ⟨a,b⟩
   have a' : decide (97≤I) = true:=by rw [decide_eq_true_eq]; omega
   have b' : decide (I≤122) = true:=by rw [decide_eq_true_eq]; omega
   rw [a',b'] at h; cases h
  clear h
  have hw : IntKind.u8.wrap I = I:=IntWalk.u8_in _ ⟨V.lo,by have:=V.I; omega⟩
  refine ⟨_,_,rfl,rfl,by subst hD; show 0≤IntKind.u8.wrap I∧IntKind.u8.wrap I≤255; rw [hw]; exact ⟨V.lo,by have:=V.I; omega⟩,fun r hr=>?_⟩
  have hr2 : decide (0≤r) = decide (c = 45∨c = 46∨c = 95∨c = 126):=by
   have e : r = Lib.indexByte [45,46,95,126] (UInt8.ofNat c):=by
    have hr : r = Lib.indexByte [45,46,95,126] (UInt8.ofNat (IntKind.u8.wrap I).toNat):=by subst hD; exact hr
    rw [hr,hw,V.I]; rfl
   rw [e]; exact idx4 ⟨c,hlt⟩
  clear hr
  cbv
  refine br hD (fun h=>?_) (fun h=>?_)<;>cbv
  ·have hk1 : kindN c = 1:=by
    have h : decide (0≤r) = true:=h
    rw [hr2,decide_eq_true_eq] at h
    unfold kindN; rw [if_pos (by omega)]
   clear h
   refine ⟨by subst hD; exact ⟨by show 0≤I; have:=V.lo; omega,by show I < 256; have:=V.I; omega⟩,fun q hq=>?_⟩
   have hq2 : q = c:=by
    have hq : (q : Int) = I:=by subst hD; exact hq.h
    have:=V.I; omega
   subst hq2
   clear hq
   cbv
   obtain ⟨X,hX⟩:=V.row1 hlt
   refine ⟨by subst hD; exact ⟨by show (q : Int) < 256; omega⟩,?_⟩
   rw [hX]
   cbv
   intro f2 hf2
   cbv
   refine ⟨256 - (q + 1),by have:=V.m; omega,?_⟩
   rw [hJ]
   unfold kdJ
   subst hD
   exact ⟨q + 1,_,f2,rfl,rfl,V.yes hlt hf2 hk1⟩
  ·have hk1 : kindN c≠1:=by
    have h : decide (0≤r) = false:=h
    rw [hr2,decide_eq_false_iff_not] at h
    unfold kindN; rw [if_neg (by omega)]
    split<;>decide
   clear h
   refine ⟨256 - (c + 1),by have:=V.m; omega,?_⟩
   rw [hJ]
   unfold kdJ
   subst hD
   exact ⟨c + 1,_,f,rfl,rfl,V.no hlt hk1⟩
 have hc : c = 256:=by
  have h : decide (I < 256) = false:=h
  simp only [decide_eq_false_iff_not] at h
  have:=V.I; have:=V.le; omega
 have hrow:=V.row
 rw [hc] at hrow
 clear h V hJ hc
 obtain ⟨cs,hcs⟩ : ∃ cs,cs = kdLit:=⟨_,rfl⟩
 refine ⟨⟨by subst hD; rfl⟩,cs,by subst hD; rw [hcs,kdLit_eq]; exact kd_flat hrow,?_⟩
 clear hrow
 cbv
 refine ⟨⟨by subst hD; rfl⟩,by rw [hcs]; exact kdLit_plain,fun k=>[.int .u8 (kd2 256 k)],by subst hD; rw [hcs,kdLit_eq]; exact kd_flat fun _ _=>rfl,?_⟩
 refine ⟨kdLit,by subst hD; rw [kdLit_eq]; exact kd_flat fun _ _=>rfl,?_⟩
 clear hcs
 cbv
 subst hD
 rw [hR]
 exact fin_eq (by kernel_rfl) rfl
end Go.Proofs.YtefelnhpfdcleaaGreatDoor
namespace Go.Proofs.YtefelnhpfdcleaaGreatDoor
open Go Go.Sx
set_option maxRecDepth 100000
set_option maxHeartbeats 8000000
def valueI (c : Int) : Int:=if 48≤c∧c≤57 then c - 48 else if 65≤c∧c≤70 then c - 55 else if 97≤c∧c≤102 then c - 87 else -1
theorem valueI_le (c : Int) : -1≤valueI c∧valueI c≤15:=by
 unfold valueI
 split
 ·omega
 ·split
  ·omega
  ·split<;>omega
def spValue : FSpec:=fun _ xs ls K=>∃ (c : Int),xs = [.int .u8 (.a c)]∧ls = []∧(0≤c∧c≤255)∧∀ r,r = valueI c→K (.int .i64 (.a r)) []
theorem value_ok : FnOk Tryz.prog gl 106 spValue:=by
 refine fnOk (gh:=[]) mixed cxOk tabNil Tryz.func106 (by kernel_rfl) (by kernel_rfl) ?_
 intro xs ls K h
 unfold spValue at h
 obtain ⟨c,rfl,rfl,hc,h⟩:=h
 obtain ⟨k,hk⟩ : ∃ k,k = valueI c:=⟨_,rfl⟩
 refine ⟨_,_,h k hk,fun D hD=>?_⟩
 clear h
 unfold valueI at hk
 cbv
 have w : ∀ n : Int,-1000≤n→n≤1000→IntKind.i64.wrap n = n:=fun n a b=>wrap64 (by omega) (by omega)
 refine br hD (fun h=>?_) (fun h=>?_)<;>cbv
 ·have h2 : 48≤c∧c≤57:=by simpa using h
  refine finInt hD ?_
  rw [hk,if_pos h2]
  show IntKind.i64.wrap (IntKind.i64.wrap c - 48) = _
  rw [w c (by omega) (by omega),w _ (by omega) (by omega)]
 have h2 : ¬ (48≤c∧c≤57):=by simpa using h
 rw [if_neg h2] at hk
 clear h h2
 refine br hD (fun h=>?_) (fun h=>?_)<;>cbv
 ·have h2 : 65≤c∧c≤70:=by simpa using h
  refine finInt hD ?_
  rw [hk,if_pos h2]
  show IntKind.i64.wrap (IntKind.i64.wrap (IntKind.i64.wrap c - 65) + 10) = _
  rw [w c (by omega) (by omega),w (c - 65) (by omega) (by omega),w _ (by omega) (by omega)]
  omega
 have h2 : ¬ (65≤c∧c≤70):=by simpa using h
 rw [if_neg h2] at hk
 clear h h2
 refine br hD (fun h=>?_) (fun h=>?_)<;>cbv
 ·have h2 : 97≤c∧c≤102:=by simpa using h
  refine finInt hD ?_
  rw [hk,if_pos h2]
  show IntKind.i64.wrap (IntKind.i64.wrap (IntKind.i64.wrap c - 97) + 10) = _
  rw [w c (by omega) (by omega),w (c - 97) (by omega) (by omega),w _ (by omega) (by omega)]
  omega
 have h2 : ¬ (97≤c∧c≤102):=by simpa using h
 rw [if_neg h2] at hk
 refine finInt hD ?_
 rw [hk]; rfl
def hexP (s : List UInt8) (i : Nat) : Prop:=i + 2 < s.length∧charI s i = 37∧0≤valueI (charI s (i + 1))∧0≤valueI (charI s (i + 2))
instance (s : List UInt8) (i : Nat) : Decidable (hexP s i):=by unfold hexP; exact inferInstance
def escAt (s : List UInt8) (i : Nat) : Bool:=decide (hexP s i)
def escV (s : List UInt8) (i : Nat) : Int:=if hexP s i then 16 * valueI (charI s (i + 1)) + valueI (charI s (i + 2)) else 0
theorem charI_drop (s : List UInt8) (i j : Nat) : charI (s.drop i) j = charI s (i + j):=by
 unfold charI
 rw [List.getD_eq_getElem?_getD,List.getElem?_drop,←List.getD_eq_getElem?_getD]
theorem hexP_drop (s : List UInt8) (i : Nat) : hexP (s.drop i) 0↔hexP s i:=by
 unfold hexP
 rw [charI_drop,charI_drop,charI_drop,List.length_drop]
 simp only [Nat.add_zero,Nat.zero_add]
 constructor<;>rintro ⟨a,b⟩<;>exact ⟨by omega,b⟩
theorem escAt_drop (s : List UInt8) (i : Nat) : escAt (s.drop i) 0 = escAt s i:=by
 unfold escAt; rw [decide_eq_decide]; exact hexP_drop s i
theorem escV_drop (s : List UInt8) (i : Nat) : escV (s.drop i) 0 = escV s i:=by
 unfold escV
 rw [charI_drop,charI_drop]
 simp only [hexP_drop,Nat.zero_add]
def spUnesc : FSpec:=fun _ xs ls K=>∃ (s : List UInt8),xs = [.str s]∧ls = []∧s.length≤9223372036854775807∧∀ v b,v = escV s 0→b = escAt s 0→K (.tup [.int .u8 (.a v),.bool (.a b)]) []
theorem or16 : ∀ a b : Fin 16,binDen .or .i64 (IntKind.i64.wrap ((a.1 : Int) * 16)) (b.1 : Int) = 16 * a.1 + b.1:=by decide
theorem finUn {D : Dn} (hD : D = dn) {v : Int} {b : Bool} {x : ST} {y : BT} (h1 : x.den = v) (h2 : y.den = b) : Fin (.tup [.int .u8 (.a (D.i x)),.bool (.a (D.b y))]) (.tup [.int .u8 (.a v),.bool (.a b)]) [] []:=by
 subst hD h1 h2; exact finV (LeV.refl _)
theorem unescape_ok : FnOk Tryz.prog gl 73 spUnesc:=by
 refine fnOk (gh:=[]) mixed cxOk (tabCons value_ok tabNil) Tryz.func73 (by kernel_rfl) (by kernel_rfl) ?_
 intro xs ls K h
 unfold spUnesc at h
 obtain ⟨s,rfl,rfl,hs,h⟩:=h
 obtain ⟨kv,hkv⟩ : ∃ k,k = escV s 0:=⟨_,rfl⟩
 obtain ⟨kb,hkb⟩ : ∃ k,k = escAt s 0:=⟨_,rfl⟩
 refine ⟨_,_,h kv kb hkv hkb,fun D hD=>?_⟩
 clear h
 cbv
 refine ⟨fun hg=>?_,fun c hc=>?_⟩
 ·subst hD; exact ⟨by decide,by have hg : (!decide ((s.length : Int) < 3)) = true:=hg; simp at hg; show (0 : Int) < _; omega⟩
 have hc2 : CharAt c s 0:=by subst hD; exact ⟨hc.h⟩
 clear hc
 cbv
 refine br hD (fun h=>?_) (fun h=>?_)<;>cbv
 ·have h2 : ¬ hexP s 0:=by
   rintro ⟨h1,h2,_⟩
   rw [←hc2.charI] at h2
   have h : (decide ((s.length : Int) < 3) || (c != 37)) = true:=h
   simp only [Bool.or_eq_true,decide_eq_true_eq,bne_iff_ne,ne_eq] at h
   omega
  exact finUn hD (by rw [hkv,escV,if_neg h2]; rfl) (by rw [hkb,escAt,decide_eq_false h2]; rfl)
 have h2 : 3≤s.length∧c = 37:=by
  have h : (decide ((s.length : Int) < 3) || (c != 37)) = false:=h
  simp only [Bool.or_eq_false_iff,decide_eq_false_iff_not,bne_eq_false_iff_eq] at h
  omega
 clear h
 obtain ⟨h3,rfl⟩:=h2
 refine ⟨by subst hD; exact ⟨by decide,by show (1 : Int) < _; omega⟩,fun x hx=>?_⟩
 have hx2 : CharAt x s 1:=by subst hD; exact ⟨hx.h⟩
 clear hx
 cbv
 refine ⟨_,rfl,rfl,by subst hD; exact hx2.le,fun a ha=>?_⟩
 have ha : a = valueI x:=by subst hD; exact ha
 cbv
 refine ⟨by subst hD; exact ⟨by decide,by show (2 : Int) < _; omega⟩,fun y hy=>?_⟩
 have hy2 : CharAt y s 2:=by subst hD; exact ⟨hy.h⟩
 clear hy
 cbv
 refine ⟨_,rfl,rfl,by subst hD; exact hy2.le,fun b hb=>?_⟩
 have hb : b = valueI y:=by subst hD; exact hb
 cbv
 have hP : hexP s 0↔0≤a∧0≤b:=by
  unfold hexP
  simp only [Nat.zero_add]
  rw [←hc2.charI,←hx2.charI,←hy2.charI,←ha,←hb]
  constructor
  ·exact fun h=>h.2.2
  ·exact fun h=>⟨by omega,rfl,h⟩
 refine br hD (fun h=>?_) (fun h=>?_)<;>cbv
 ·have h2 : ¬ hexP s 0:=by
   rw [hP]
   have h : (decide (a < 0) || decide (b < 0)) = true:=h
   simp only [Bool.or_eq_true,decide_eq_true_eq] at h
   omega
  exact finUn hD (by rw [hkv,escV,if_neg h2]; rfl) (by rw [hkb,escAt,decide_eq_false h2]; rfl)
 have h2 : 0≤a∧0≤b:=by
  have h : (decide (a < 0) || decide (b < 0)) = false:=h
  simp only [Bool.or_eq_false_iff,decide_eq_false_iff_not] at h
  omega
 have la:=(valueI_le x).2
 have lb:=(valueI_le y).2
 rw [←ha] at la
 rw [←hb] at lb
 refine ⟨⟨by subst hD; decide⟩,?_⟩
 refine finUn hD ?_ ?_
 rotate_left
 ·rw [hkb,escAt,decide_eq_true (hP.2 h2)]; rfl
 rw [hkv,escV,if_pos (hP.2 h2)]
 simp only [Nat.zero_add]
 rw [←hx2.charI,←hy2.charI,←ha,←hb]
 have e:=or16 ⟨a.toNat,by omega⟩ ⟨b.toNat,by omega⟩
 simp only at e
 rw [Int.toNat_of_nonneg h2.1,Int.toNat_of_nonneg h2.2] at e
 show IntKind.u8.wrap (binDen .or .i64 (IntKind.i64.wrap (a * 16)) b) = _
 rw [e]
 have : ∀ n : Int,0≤n→n≤255→IntKind.u8.wrap n = n:=fun n h0 h1=>by
  have:=IntWalk.u8_in n ⟨by omega,by omega⟩
  exact this
 exact this _ (by omega) (by omega)
end Go.Proofs.YtefelnhpfdcleaaGreatDoor
namespace Go.Proofs.YtefelnhpfdcleaaGreatDoor
open Go Go.Sx
set_option maxRecDepth 100000
set_option maxHeartbeats 16000000
def orgL (s : List UInt8) (i e : Nat) : Option Nat :=
 if h : i < s.length then
  if escAt s i then orgL s (i + 3) e
  else if charI s i = 63 then orgL s (i + 1) (min e i)
  else if kindN (charI s i).toNat = 0 then none
  else orgL s (i + 1) e
 else some e
 termination_by s.length - i
def orgF (s : List UInt8) : Int×Int :=
 if 500 < s.length then (0,3) else if !Lib.hasPrefix s [47] then (0,6) else match orgL s 0 s.length with
  | some e=>((e : Int),0)
  | none=>(0,6)
def spOrg : FSpec:=fun _ xs ls K=>∃ (s : List UInt8),xs = [.str s]∧ls = []∧s.length≤9223372036854775807∧∀ e r,(e,r) = orgF s→K (.tup [.int .i64 (.a e),.int .i64 (.a r)]) []
structure KRow (f : Nat→List SV) : Prop where
 h : ∀ i,i < 256→f i = [.int .u8 (.a (kindN i))]
theorem kind_flat {f : Nat→List SV} (h : KRow f) : Flat f 256 1 kindCells:=by
 refine ⟨by simp [kindCells],fun i hi=>?_⟩
 have hi : i < 256:=by omega
 have hl : kindCells.length = 256:=by simp [kindCells]
 rw [h.h i hi,Nat.mul_one,List.drop_eq_getElem_cons (by rw [hl]; exact hi)]
 simp [kindCells]
theorem kind_plain : PlainC kindCells:=⟨by kernel_rfl,by kernel_rfl⟩
theorem finII {D : Dn} (hD : D = dn) {e r : Int} {x y : ST} (h1 : x.den = e) (h2 : y.den = r) : Fin (.tup [.int .i64 (.a (D.i x)),.int .i64 (.a (D.i y))]) (.tup [.int .i64 (.a e),.int .i64 (.a r)]) [] []:=by
 subst hD h1 h2; exact finV (LeV.refl _)
structure OrgJ (s : List UInt8) (k : Option Nat) (i e : Nat) (I E : Int) (m : Nat) : Prop where
 lie : At s i I m
 E : E = e
 k : k = orgL s i e
 len : s.length≤500
def orgJ (s : List UInt8) (kr : Nat→List SV) (k : Option Nat) (m : Nat) (vs : List (Option SV)) (hp : List Hl) : Prop :=
 ∃ (i e : Nat) (I E : Int),vs = [some (.str s),some (.ptr 0 0),some (.int .i64 (.a E)),some (.int .i64 (.a I))]∧hp = [.row 93 (.a 256) 1 kr]∧OrgJ s k i e I E m
theorem orgL_esc {s : List UInt8} {i e : Nat} (h : i < s.length) (h1 : escAt s i = true) : orgL s i e = orgL s (i + 3) e:=by
 rw [orgL,dif_pos h,if_pos h1]
theorem orgL_mark {s : List UInt8} {i e : Nat} (h : i < s.length) (h1 : escAt s i = false) (h2 : charI s i = 63) : orgL s i e = orgL s (i + 1) (min e i):=by
 rw [orgL,dif_pos h,if_neg (by simp [h1]),if_pos h2]
theorem orgL_bad {s : List UInt8} {i e : Nat} (h : i < s.length) (h1 : escAt s i = false) (h2 : charI s i≠63) (h3 : kindN (charI s i).toNat = 0) : orgL s i e = none:=by
 rw [orgL,dif_pos h,if_neg (by simp [h1]),if_neg h2,if_pos h3]
theorem orgL_more {s : List UInt8} {i e : Nat} (h : i < s.length) (h1 : escAt s i = false) (h2 : charI s i≠63) (h3 : kindN (charI s i).toNat≠0) : orgL s i e = orgL s (i + 1) e:=by
 rw [orgL,dif_pos h,if_neg (by simp [h1]),if_neg h2,if_neg h3]
theorem orgL_end {s : List UInt8} {i e : Nat} (h : i = s.length) : orgL s i e = some e:=by
 rw [orgL,dif_neg (by omega)]
theorem escAt_len {s : List UInt8} {i : Nat} (h : escAt s i = true) : i + 2 < s.length:=(of_decide_eq_true h).1
theorem origin_ok : FnOk Tryz.prog gl 35 spOrg:=by
 obtain ⟨Z,hZ⟩ : ∃ Z,Z = zCells:=⟨_,rfl⟩
 refine fnOk (gh:=[(3000004,[])]) mixed (cxOkK hZ) (tabCons hasPre_ok (tabCons (fnOk_nil kinds_ok) (tabCons unescape_ok tabNil))) Tryz.func35 (by kernel_rfl) (by kernel_rfl) ?_
 intro xs ls K h
 unfold spOrg at h
 obtain ⟨s,rfl,rfl,hs,h⟩:=h
 obtain ⟨k,hk⟩ : ∃ k,k = orgF s:=⟨_,rfl⟩
 obtain ⟨ke,kr⟩:=k
 refine ⟨_,_,h ke kr hk,fun D hD=>?_⟩
 clear h
 unfold orgF at hk
 cbv
 refine br hD (fun h=>?_) (fun h=>?_)<;>cbv
 ·have h2 : 500 < s.length:=by have h : decide ((500 : Int) < (s.length : Int)) = true:=h; simp only [decide_eq_true_eq] at h; omega
  rw [if_pos h2] at hk
  simp only [Prod.mk.injEq] at hk
  exact finII hD hk.1.symm hk.2.symm
 have hlen : s.length≤500:=by have h : decide ((500 : Int) < (s.length : Int)) = false:=h; simp only [decide_eq_false_iff_not] at h; omega
 rw [if_neg (by omega)] at hk
 clear h
 refine ⟨s,_,rfl,rfl,fun b hb=>?_⟩
 have hb : b = Lib.hasPrefix s [47]:=hb
 cbv
 refine br hD (fun h=>?_) (fun h=>?_)<;>cbv
 ·have h2 : (!b) = true:=h
  rw [←hb,if_pos h2] at hk
  simp only [Prod.mk.injEq] at hk
  exact finII hD hk.1.symm hk.2.symm
 have h2 : (!b) = false:=h
 rw [←hb,if_neg (by rw [h2]; simp)] at hk
 clear h h2 hb
 intro R hR
 obtain ⟨kr0,hkr0⟩ : ∃ f,KRow f:=⟨fun i=>[.int .u8 (.a (kindN i))],⟨fun _ _=>rfl⟩⟩
 cbv
 refine ⟨by rw [hR]; exact kind_plain.plain,zRow,by rw [hZ]; exact zRow_built,?_⟩
 cbv
 refine ⟨⟨by subst hD; rfl⟩,by rw [hR]; exact kind_plain,kr0,by subst hD; rw [hR]; exact kind_flat hkr0,?_⟩
 clear hR
 obtain ⟨kk,hkk⟩ : ∃ kk,kk = orgL s 0 s.length:=⟨_,rfl⟩
 rw [←hkk] at hk
 obtain ⟨J,hJ⟩ : ∃ J,J = orgJ s kr0 kk:=⟨_,rfl⟩
 cbv
 refine ⟨[0,4,5,6],J,⟨rfl,s.length,?_⟩,?_⟩
 ·rw [hJ]
  subst hD
  exact ⟨0,s.length,_,_,rfl,rfl,At.zero hs,rfl,hkk,hlen⟩
 clear hkk
 intro m vs hp hj
 rw [hJ] at hj
 obtain ⟨i,e,I,E,rfl,rfl,V⟩:=hj
 cbv
 refine br hD (fun h=>?_) (fun h=>?_)<;>cbv
 ·have hlt:=V.lie.lt (of_decide_eq_true (p:=I < (s.length : Int)) h)
  clear h
  refine ⟨by subst hD; exact ⟨by show 0≤I; have:=V.lie.I; omega,by show I≤s.length; have:=V.lie.I; omega,Int.le_refl _⟩,fun t ht=>?_⟩
  have ht2 : t = s.drop i:=by
   have h1 : t = (s.drop I.toNat).take ((s.length : Int).toNat - I.toNat):=by subst hD; exact ht.h
   have h2:=V.lie.I
   have h3 : I.toNat = i:=by omega
   rw [h1,h3,List.take_of_length_le (by rw [List.length_drop]; omega)]
  clear ht
  cbv
  refine ⟨t,rfl,rfl,by rw [ht2,List.length_drop]; omega,fun v b hv hb=>?_⟩
  have hb2 : b = escAt s i:=by rw [hb,ht2,escAt_drop]
  clear hv hb ht2
  cbv
  refine br hD (fun h=>?_) (fun h=>?_)<;>cbv
  ·have h2 : escAt s i = true:=by rw [←hb2]; exact h
   have h3:=escAt_len h2
   clear h
   refine ⟨s.length - (i + 3),by have:=V.lie.m; omega,?_⟩
   rw [hJ]
   unfold orgJ
   subst hD
   refine ⟨i + 3,e,_,_,rfl,rfl,⟨by omega,?_,rfl,V.lie.len⟩,V.E,by rw [V.k,orgL_esc hlt h2],hlen⟩
   have:=V.lie.I
   show IntKind.i64.wrap (IntKind.i64.wrap (I + 2) + 1) = _
   rw [wrap64 (n:=I + 2) (by omega) (by omega),wrap64 (by omega) (by omega)]; omega
  have he : escAt s i = false:=by rw [←hb2]; exact h
  clear h
  refine ⟨V.lie.inS hD hlt,fun c hc=>?_⟩
  have hc2:=charOf hD V.lie.I hc
  clear hc
  have hle:=hc2.le
  cbv
  refine br hD (fun h=>?_) (fun h=>?_)<;>cbv
  ·have h63 : charI s i = 63:=by rw [←hc2.charI]; have h : (c == 63) = true:=h; simpa using h
   clear h
   intro mn hmn
   have hmn2 : mn = min E I:=by subst hD; exact hmn.h
   clear hmn
   cbv
   refine ⟨s.length - (i + 1),by have:=V.lie.m; omega,?_⟩
   rw [hJ]
   unfold orgJ
   subst hD
   refine ⟨i + 1,min e i,_,_,rfl,rfl,(V.lie.step rfl hlt).2,?_,by rw [V.k,orgL_mark hlt he h63],hlen⟩
   have:=V.lie.I; have:=V.E
   show mn = _
   rw [hmn2]; omega
  have h63 : charI s i≠63:=by rw [←hc2.charI]; have h : (c == 63) = false:=h; simpa using h
  clear h
  refine ⟨V.lie.inS hD hlt,fun d hd=>?_⟩
  have hcd : d = c:=by have:=charOf hD V.lie.I hd; rw [this.h,hc2.h]
  subst hcd
  clear hd
  cbv
  refine ⟨by subst hD; exact ⟨by show 0≤d; omega,by show d < 256; omega⟩,fun q hq=>?_⟩
  have hq2 : (q : Int) = d:=by subst hD; exact hq.h
  clear hq
  have hq256 : q < 256:=by omega
  have hkq:=hkr0.h q hq256
  have hkn : kindN q = kindN (charI s i).toNat:=by
   have : q = (charI s i).toNat:=by rw [←hc2.charI]; omega
   rw [this]
  obtain ⟨kq,hkq2⟩ : ∃ kq,kq = kindN q:=⟨_,rfl⟩
  rw [←hkq2] at hkq hkn
  cbv
  refine ⟨⟨by subst hD; show (q : Int) < 256; omega⟩,?_⟩
  rw [hkq]
  cbv
  refine br hD (fun h=>?_) (fun h=>?_)<;>cbv
  ·have h0 : kq = 0:=by have h : (kq == 0) = true:=h; simpa using h
   rw [V.k,orgL_bad hlt he h63 (by rw [←hkn]; exact h0)] at hk
   simp only [Prod.mk.injEq] at hk
   exact finII hD hk.1.symm hk.2.symm
  ·have h0 : kq≠0:=by have h : (kq == 0) = false:=h; simpa using h
   refine ⟨s.length - (i + 1),by have:=V.lie.m; omega,?_⟩
   rw [hJ]
   unfold orgJ
   subst hD
   exact ⟨i + 1,e,_,_,rfl,rfl,(V.lie.step rfl hlt).2,V.E,by rw [V.k,orgL_more hlt he h63 (by rw [←hkn]; exact h0)],hlen⟩
 ·have hi:=V.lie.eq (of_decide_eq_false (p:=I < (s.length : Int)) h)
  rw [V.k,orgL_end hi] at hk
  simp only [Prod.mk.injEq] at hk
  exact finII hD (by have:=V.E; rw [hk.1]; exact this) hk.2.symm
end Go.Proofs.YtefelnhpfdcleaaGreatDoor
namespace Go.Proofs.YtefelnhpfdcleaaGreatDoor
open Go Go.Sx
set_option maxRecDepth 100000
set_option maxHeartbeats 16000000
def splitF (s : List UInt8) : List UInt8×List UInt8×Bool×Int :=
 if (orgF s).2≠0 then ([],[],false,(orgF s).2) else if (orgF s).1≠(cutF 63 s).1.length then ([],[],false,6) else ((cutF 63 s).1,(cutF 63 s).2.1,(cutF 63 s).2.2,0)
theorem orgF_len {s : List UInt8} (h : (orgF s).2 = 0) : s.length≤500:=by
 unfold orgF at h
 split at h
 ·cases h
 ·omega
def spSplitT : FSpec:=fun _ xs ls K=>∃ (s : List UInt8),xs = [.str s]∧ls = []∧s.length≤9223372036854775807∧∀ p q h e,(p,q,h,e) = splitF s→K (.tup [.str p,.str q,.bool (.a h),.int .i64 (.a e)]) []
theorem finSp {D : Dn} (hD : D = dn) {p q p' q' : List UInt8} {h : Bool} {e : Int} {x : BT} {y : ST} (h1 : p' = p) (h2 : q' = q) (h3 : x.den = h) (h4 : y.den = e) : Fin (.tup [.str p',.str q',.bool (.a (D.b x)),.int .i64 (.a (D.i y))]) (.tup [.str p,.str q,.bool (.a h),.int .i64 (.a e)]) [] []:=by
 subst hD h1 h2 h3 h4; exact finV (LeV.refl _)
theorem split_ok7 : FnOk Tryz.prog gl 13 spSplitT:=by
 refine fnOk (gh:=[]) mixed cxOk (tabCons origin_ok (tabCons cut_ok tabNil)) Tryz.func13 (by kernel_rfl) (by kernel_rfl) ?_
 intro xs ls K h
 unfold spSplitT at h
 obtain ⟨s,rfl,rfl,hs,h⟩:=h
 obtain ⟨k,hk⟩ : ∃ k,k = splitF s:=⟨_,rfl⟩
 obtain ⟨kp,kq,kh,ke⟩:=k
 refine ⟨_,_,h kp kq kh ke hk,fun D hD=>?_⟩
 clear h
 unfold splitF at hk
 cbv
 refine ⟨s,rfl,rfl,hs,fun e r her=>?_⟩
 rw [←her] at hk
 have hlen : r = 0→s.length≤500:=fun h=>orgF_len (by rw [←her]; exact h)
 clear her
 cbv
 refine br hD (fun h=>?_) (fun h=>?_)<;>cbv
 ·have h1 : r≠0:=by simpa using h
  rw [if_pos h1] at hk
  simp only [Prod.mk.injEq] at hk
  exact finSp hD hk.1.symm hk.2.1.symm hk.2.2.1.symm hk.2.2.2.symm
 have h1 : r = 0:=by simpa using h
 rw [if_neg (by simp [h1])] at hk
 clear h
 refine ⟨s,63,rfl,rfl,by have:=hlen h1; omega,fun a b t hc=>?_⟩
 rw [←hc] at hk
 clear hc
 cbv
 refine br hD (fun h=>?_) (fun h=>?_)<;>cbv
 ·have h2 : e≠(a.length : Int):=by have h : (e != (a.length : Int)) = true:=h; simpa using h
  rw [if_pos h2] at hk
  simp only [Prod.mk.injEq] at hk
  exact finSp hD hk.1.symm hk.2.1.symm hk.2.2.1.symm hk.2.2.2.symm
 ·have h2 : ¬ e≠(a.length : Int):=by have h : (e != (a.length : Int)) = false:=h; simpa using h
  rw [if_neg h2] at hk
  simp only [Prod.mk.injEq] at hk
  exact finSp hD hk.1.symm hk.2.1.symm hk.2.2.1.symm hk.2.2.2.symm
def digL : List UInt8:=[48,49,50,51,52,53,54,55,56,57,65,66,67,68,69,70]
def escO (v : Int) : List UInt8:=if kindN v.toNat = 1 then [UInt8.ofNat v.toNat] else [37,digL.getD (v.toNat / 16) 0,digL.getD (v.toNat % 16) 0]
def normL (s : List UInt8) (i : Nat) : List UInt8 :=
 if h : i < s.length then if escAt s i then escO (escV s i) ++ normL s (i + 3) else s.getD i 0 :: normL s (i + 1) else []
 termination_by s.length - i
theorem normL_esc {s : List UInt8} {i : Nat} (h : i < s.length) (h1 : escAt s i = true) : normL s i = escO (escV s i) ++ normL s (i + 3):=by
 rw [normL,dif_pos h,if_pos h1]
theorem normL_one {s : List UInt8} {i : Nat} (h : i < s.length) (h1 : escAt s i = false) : normL s i = s.getD i 0 :: normL s (i + 1):=by
 rw [normL,dif_pos h,if_neg (by simp [h1])]
theorem normL_end {s : List UInt8} {i : Nat} (h : i = s.length) : normL s i = []:=by
 rw [normL,dif_neg (by omega)]
theorem escV_le (s : List UInt8) (i : Nat) : 0≤escV s i∧escV s i≤255:=by
 unfold escV
 split
 ·rename_i h
  have h1:=(valueI_le (charI s (i + 1))).2
  have h2:=(valueI_le (charI s (i + 2))).2
  have:=h.2.2.1; have:=h.2.2.2
  omega
 ·omega
structure RowU (f : Nat→List SV) (n : Int) (t : List UInt8) : Prop where
 n : n = t.length
 f : ∀ i,i < t.length→f i = [.int .u8 (.a ((t.getD i 0).toNat : Int))]
theorem RowU.more {f f' g : Nat→List SV} {n n' m : Int} {t u : List UInt8} (R : RowU f n t) (hm : m = u.length) (hg : ∀ i,i < u.length→g i = [.int .u8 (.a ((u.getD i 0).toNat : Int))]) (h : MoreRow f' n' n m f g) : RowU f' n' (t ++ u):=by
 have hn:=R.n
 refine ⟨by rw [h.len,hn,hm,List.length_append]; omega,fun i hi=>?_⟩
 rw [List.length_append] at hi
 rw [List.getD_eq_getElem?_getD,List.getElem?_append]
 split
 ·rename_i h1
  rw [h.lo i (by omega),R.f i h1,List.getD_eq_getElem?_getD]
 ·rename_i h1
  rw [h.hi i (i - t.length) (by omega) (by omega),hg _ (by omega),List.getD_eq_getElem?_getD]
theorem RowU.str {f : Nat→List SV} {n : Int} {t r : List UInt8} (R : RowU f n t) (h : StrRow r n f) : r = t:=by
 have hn:=R.n
 have hl : r.length = t.length:=by have:=h.len; omega
 refine List.ext_getElem hl fun i h1 h2=>?_
 have:=h.row i _ (by omega) (R.f i h2)
 have h5 : ((r.getD i 0).toNat : Int) = ((t.getD i 0).toNat : Int):=this
 have this : (r.getD i 0).toNat = (t.getD i 0).toNat:=by omega
 rw [List.getD_eq_getElem?_getD,List.getElem?_eq_getElem h1,List.getD_eq_getElem?_getD,List.getElem?_eq_getElem h2] at this
 exact UInt8.toNat_inj.1 this
theorem RowU.byte {f : Nat→List SV} {n : Int} {t : List UInt8} (R : RowU f n t) : ByteRow n f:=by
 refine ⟨by rw [R.n]; omega,fun i hi=>⟨_,R.f i (by have:=R.n; omega),?_,?_⟩⟩
 ·show (0 : Int)≤((t.getD i 0).toNat : Int); omega
 ·have:=(t.getD i 0).toNat_lt; show ((t.getD i 0).toNat : Int) < 256; omega
structure NoJ (s k t : List UInt8) (i : Nat) (I n : Int) (f : Nat→List SV) (m : Nat) : Prop where
 lie : At s i I m
 row : RowU f n t
 k : k = t ++ normL s i
 le : t.length≤i
 len : s.length≤100000
def noJ (s k : List UInt8) (kr : Nat→List SV) (m : Nat) (vs : List (Option SV)) (hp : List Hl) : Prop :=
 ∃ (t : List UInt8) (i : Nat) (I n : Int) (nl : Bool) (f : Nat→List SV),vs = [some (.str s),some (.ptr 0 0),some (.gsl (.a nl) (.a n) 1 f 1),some (.int .i64 (.a I))]∧hp = [.row 93 (.a 256) 1 kr,.tail 5 (.a n) 1]∧NoJ s k t i I n f m
theorem toNat8 : ∀ q : Fin 256,(UInt8.ofNat q.1).toNat = q.1:=by decide
theorem shr16 : ∀ v : Fin 256,binDen .shr .u8 (v.1 : Int) 4 = ((v.1 / 16 : Nat) : Int):=by decide
theorem and16 : ∀ v : Fin 256,binDen .and .u8 (v.1 : Int) 15 = ((v.1 % 16 : Nat) : Int):=by decide
def spNormal : FSpec:=fun _ xs ls K=>∃ (s : List UInt8),xs = [.str s]∧ls = []∧s.length≤100000∧∀ r,r = normL s 0→K (.str r) []
theorem normal_ok : FnOk Tryz.prog gl 39 spNormal:=by
 obtain ⟨Z,hZ⟩ : ∃ Z,Z = zCells:=⟨_,rfl⟩
 refine fnOk (gh:=[(3000003,[])]) mixed (cxOkK hZ) (tabCons (fnOk_nil kinds_ok) (tabCons unescape_ok tabNil)) Tryz.func39 (by kernel_rfl) (by kernel_rfl) ?_
 intro xs ls K h
 unfold spNormal at h
 obtain ⟨s,rfl,rfl,hs,h⟩:=h
 obtain ⟨k,hk⟩ : ∃ k,k = normL s 0:=⟨_,rfl⟩
 refine ⟨_,_,h k hk,fun D hD=>?_⟩
 clear h
 cbv
 intro R hR
 obtain ⟨kr0,hkr0⟩ : ∃ f,KRow f:=⟨fun i=>[.int .u8 (.a (kindN i))],⟨fun _ _=>rfl⟩⟩
 cbv
 refine ⟨by rw [hR]; exact kind_plain.plain,zRow,by rw [hZ]; exact zRow_built,?_⟩
 cbv
 refine ⟨⟨by subst hD; rfl⟩,by rw [hR]; exact kind_plain,kr0,by subst hD; rw [hR]; exact kind_flat hkr0,?_⟩
 clear hR
 cbv
 refine ⟨by subst hD; exact ⟨by show (0 : Int)≤s.length; omega,by show (s.length : Int) * 1≤_; omega,by show (s.length : Int)≤_; omega⟩,?_⟩
 obtain ⟨J,hJ⟩ : ∃ J,J = noJ s k kr0:=⟨_,rfl⟩
 cbv
 refine ⟨[0,3,4,5],J,⟨rfl,s.length,?_⟩,?_⟩
 ·rw [hJ]
  subst hD
  exact ⟨[],0,_,_,_,_,rfl,rfl,At.zero (by omega),⟨rfl,fun i hi=>absurd hi (by simp)⟩,hk,Nat.le_refl _,hs⟩
 clear hk
 intro m vs hp hj
 rw [hJ] at hj
 obtain ⟨t,i,I,n,nl,f,rfl,rfl,V⟩:=hj
 cbv
 refine br hD (fun h=>?_) (fun h=>?_)<;>cbv
 ·have hlt:=V.lie.lt (of_decide_eq_true (p:=I < (s.length : Int)) h)
  clear h
  refine ⟨by subst hD; exact ⟨by show 0≤I; have:=V.lie.I; omega,by show I≤s.length; have:=V.lie.I; omega,Int.le_refl _⟩,fun u hu=>?_⟩
  have hu2 : u = s.drop i:=by
   have h1 : u = (s.drop I.toNat).take ((s.length : Int).toNat - I.toNat):=by subst hD; exact hu.h
   have h2:=V.lie.I
   have h3 : I.toNat = i:=by omega
   rw [h1,h3,List.take_of_length_le (by rw [List.length_drop]; omega)]
  clear hu
  cbv
  refine ⟨u,rfl,rfl,by rw [hu2,List.length_drop]; omega,fun v b hv hb=>?_⟩
  have hb2 : b = escAt s i:=by rw [hb,hu2,escAt_drop]
  have hv2 : v = escV s i:=by rw [hv,hu2,escV_drop]
  clear hv hb hu2
  cbv
  refine br hD (fun h=>?_) (fun h=>?_)<;>cbv
  ·have he : escAt s i = false:=by rw [←hb2]; have h : (!b) = true:=h; simpa using h
   clear h
   refine ⟨V.lie.inS hD hlt,fun c hc=>?_⟩
   have hc2:=charOf hD V.lie.I hc
   clear hc
   cbv
   intro g hg
   have hg0 : g 0 = [.int .u8 (.a c)]:=by subst hD; exact hg.h 0 _ rfl
   clear hg
   cbv
   refine ⟨by subst hD; exact ⟨rfl,by have:=V.row.n; have:=V.le; show (n + 1) * 1≤_; omega,by have:=V.row.n; have:=V.le; show n + 1≤_; omega⟩,fun f' n' hm=>?_⟩
   have R2 : RowU f' n' (t ++ [s.getD i 0]):=by
    subst hD
    refine V.row.more (m:=1) rfl (fun j hj=>?_) hm
    have : j = 0:=by simpa using hj
    subst this
    rw [hg0]
    have:=hc2.h
    rw [this]; rfl
   clear hm
   cbv
   refine ⟨s.length - (i + 1),by have:=V.lie.m; omega,?_⟩
   rw [hJ]
   unfold noJ
   subst hD
   refine ⟨t ++ [s.getD i 0],i + 1,_,n',_,f',rfl,rfl,(V.lie.step rfl hlt).2,R2,?_,?_,hs⟩
   ·rw [V.k,normL_one hlt he]; simp
   ·have:=V.le; simp; omega
  have he : escAt s i = true:=by rw [←hb2]; have h : (!b) = false:=h; simpa using h
  have h3:=escAt_len he
  have hvle:=escV_le s i
  rw [←hv2] at hvle
  clear h
  refine ⟨by subst hD; exact ⟨by show 0≤v; omega,by show v < 256; omega⟩,fun q hq=>?_⟩
  have hq0 : (q : Int) = v:=by subst hD; exact hq.h
  clear hq
  have hq2 : VI v q:=⟨hq0.symm⟩
  have hq256 : q < 256:=by omega
  have hkq:=hkr0.h q hq256
  have hqv : q = v.toNat:=by omega
  clear hq0
  obtain ⟨kq,hkq2⟩ : ∃ kq,kq = kindN q:=⟨_,rfl⟩
  rw [←hkq2] at hkq
  cbv
  refine ⟨⟨by subst hD; show (q : Int) < 256; omega⟩,?_⟩
  rw [hkq]
  have hstep : IntKind.i64.wrap (IntKind.i64.wrap (I + 2) + 1) = ((i + 3 : Nat) : Int):=by
   have:=V.lie.I
   rw [wrap64 (n:=I + 2) (by omega) (by omega),wrap64 (by omega) (by omega)]; omega
  cbv
  refine br hD (fun h=>?_) (fun h=>?_)<;>cbv
  ·have h1 : kq = 1:=by have h : (kq == 1) = true:=h; simpa using h
   have hO : escO v = [UInt8.ofNat v.toNat]:=by unfold escO; rw [if_pos (by rw [←hqv,←hkq2]; exact h1)]
   clear h
   intro g hg
   have hg0 : g 0 = [.int .u8 (.a v)]:=by subst hD; exact hg.h 0 _ rfl
   clear hg
   cbv
   refine ⟨by subst hD; exact ⟨rfl,by have:=V.row.n; have:=V.le; show (n + 1) * 1≤_; omega,by have:=V.row.n; have:=V.le; show n + 1≤_; omega⟩,fun f' n' hm=>?_⟩
   have R2 : RowU f' n' (t ++ escO v):=by
    subst hD
    rw [hO]
    refine V.row.more (m:=1) rfl (fun j hj=>?_) hm
    have : j = 0:=by simpa using hj
    subst this
    rw [hg0]
    have : v = (((UInt8.ofNat v.toNat).toNat : Nat) : Int):=by
     have:=toNat8 ⟨q,hq256⟩
     simp only at this
     rw [←hqv,this]; exact hq2.h
    show [SV.int .u8 (.a v)] = [SV.int .u8 (.a (((UInt8.ofNat v.toNat).toNat : Nat) : Int))]
    rw [←this]
   clear hm
   cbv
   refine ⟨s.length - (i + 3),by have:=V.lie.m; omega,?_⟩
   rw [hJ]
   unfold noJ
   subst hD
   refine ⟨t ++ escO v,i + 3,_,n',_,f',rfl,rfl,⟨by omega,hstep,rfl,V.lie.len⟩,R2,?_,?_,hs⟩
   ·rw [V.k,normL_esc hlt he,hv2]; simp
   ·have:=V.le; rw [hO]; simp; omega
  ·have h1 : kq≠1:=by have h : (kq == 1) = false:=h; simpa using h
   have hO : escO v = [37,digL.getD (v.toNat / 16) 0,digL.getD (v.toNat % 16) 0]:=by unfold escO; rw [if_neg (by rw [←hqv,←hkq2]; exact h1)]
   clear h
   have s1:=shr16 ⟨q,hq256⟩
   simp only at s1
   rw [←hq2.h] at s1
   refine ⟨⟨by subst hD; decide⟩,by subst hD; exact ⟨by show 0≤binDen .shr .u8 v 4; rw [s1]; omega,by show binDen .shr .u8 v 4 < 16; rw [s1]; omega⟩,fun c1 hc1=>?_⟩
   have hd1 : c1 = (((digL.getD (v.toNat / 16) 0).toNat : Nat) : Int):=by
    have h5 : c1 = (((digL.getD (binDen .shr .u8 v 4).toNat 0).toNat : Nat) : Int):=by subst hD; exact hc1.h
    rw [h5,s1,Int.toNat_natCast,hqv]
   have hd1 : VI c1 (digL.getD (v.toNat / 16) 0).toNat:=⟨hd1⟩
   clear hc1 s1
   cbv
   have s2:=and16 ⟨q,hq256⟩
   simp only at s2
   rw [←hq2.h] at s2
   refine ⟨by subst hD; exact ⟨by show 0≤binDen .and .u8 v 15; rw [s2]; omega,by show binDen .and .u8 v 15 < 16; rw [s2]; omega⟩,fun c2 hc2=>?_⟩
   have hd2 : c2 = (((digL.getD (v.toNat % 16) 0).toNat : Nat) : Int):=by
    have h5 : c2 = (((digL.getD (binDen .and .u8 v 15).toNat 0).toNat : Nat) : Int):=by subst hD; exact hc2.h
    rw [h5,s2,Int.toNat_natCast,hqv]
   clear hc2 s2
   have hd2 : VI c2 (digL.getD (v.toNat % 16) 0).toNat:=⟨hd2⟩
   cbv
   intro g hg
   have hg0 : g 0 = [.int .u8 (.a 37)]:=by subst hD; exact hg.h 0 _ rfl
   have hg1 : g 1 = [.int .u8 (.a c1)]:=by subst hD; exact hg.h 1 _ rfl
   have hg2 : g 2 = [.int .u8 (.a c2)]:=by subst hD; exact hg.h 2 _ rfl
   clear hg
   cbv
   refine ⟨by subst hD; exact ⟨rfl,by have:=V.row.n; have:=V.le; show (n + 3) * 1≤_; omega,by have:=V.row.n; have:=V.le; show n + 3≤_; omega⟩,fun f' n' hm=>?_⟩
   have R2 : RowU f' n' (t ++ escO v):=by
    subst hD
    rw [hO]
    refine V.row.more (m:=3) rfl (fun j hj=>?_) hm
    match j,hj with
    | 0,_=>rw [hg0]; rfl
    | 1,_=>rw [hg1,hd1.h]; rfl
    | 2,_=>rw [hg2,hd2.h]; rfl
   clear hm
   cbv
   refine ⟨s.length - (i + 3),by have:=V.lie.m; omega,?_⟩
   rw [hJ]
   unfold noJ
   subst hD
   refine ⟨t ++ escO v,i + 3,_,n',_,f',rfl,rfl,⟨by omega,hstep,rfl,V.lie.len⟩,R2,?_,?_,hs⟩
   ·rw [V.k,normL_esc hlt he,hv2]; simp
   ·have:=V.le; rw [hO]; simp; omega
 ·have hi:=V.lie.eq (of_decide_eq_false (p:=I < (s.length : Int)) h)
  have hk2 : k = t:=by rw [V.k,normL_end hi,List.append_nil]
  clear h
  refine ⟨by subst hD; exact V.row.byte,fun r hr=>?_⟩
  have hr2 : r = t:=by subst hD; exact V.row.str hr
  cbv
  exact finStr (by rw [hr2,hk2])
end Go.Proofs.YtefelnhpfdcleaaGreatDoor
namespace Go.Proofs.YtefelnhpfdcleaaGreatDoor
open Go Go.Sx
set_option maxRecDepth 100000
set_option maxHeartbeats 16000000
abbrev CS:=List (List UInt8)×Bool×Int
def capp (x : List UInt8) (σ : CS) : CS:=(σ.1 ++ [x],false,σ.2.2 + 1)
def cpop (σ : CS) : CS:=(σ.1.dropLast,σ.2.1,σ.2.2 + 1)
def cstep (σ : CS) (s : List UInt8) (last : Bool) : CS :=
 if s≠[46]∧s≠[46,46] then capp s σ else
 if last then capp [] (if s = [46,46]∧σ.1≠[] then cpop σ else σ) else (if s = [46,46]∧σ.1≠[] then cpop σ else σ)
def cfr (h : Nat) : List (Nat×Option SV):=[(8,some (.ptr h 0))]
def cleanY (c : LC) : FSpec:=fun _ xs ls K=>∃ (s : List UInt8) (last : Bool) (st : List (List UInt8)) (nl : Bool) (g n : Int) (f : Nat→List SV),
 xs = [.yv 0,.str s,.bool (.a last)]∧ls = [.lrec c (cfr 1) 0 none,.blk 61 [.vsl (.a nl) (.a n) (.a g) 2],.vec 9 (.a n) (.a g) 1 f]∧RowS f n st∧st.length≤100000∧
 ∀ st' nl' g' n' f',(st',nl',g') = cstep (st,nl,g) s last→RowS f' n' st'→K (.bool (.a true)) [.lrec c (cfr 1) 0 none,.blk 61 [.vsl (.a nl') (.a n') (.a g') 2],.vec 9 (.a n') (.a g') 1 f']
theorem cutF_lt {c : UInt8} {s : List UInt8} (h : (cutF c s).2.2 = true) : (cutF c s).2.1.length < s.length:=by
 obtain ⟨_,_,h3,h4⟩:=cutF_yes h
 rw [h3,List.length_drop]; omega
def segFold (σ : CS) (rest : List UInt8) : CS :=
 if h : (cutF 47 rest).2.2 = true then segFold (cstep σ (cutF 47 rest).1 false) (cutF 47 rest).2.1 else cstep σ (cutF 47 rest).1 true
 termination_by rest.length
decreasing_by exact cutF_lt h
theorem segFold_more {σ : CS} {rest a b : List UInt8} (h : (a,b,true) = cutF 47 rest) : segFold σ rest = segFold (cstep σ a false) b:=by
 rw [segFold,dif_pos (by rw [←h]),←h]
theorem segFold_last {σ : CS} {rest a b : List UInt8} (h : (a,b,false) = cutF 47 rest) : segFold σ rest = cstep σ a true:=by
 rw [segFold,dif_neg (by rw [←h]; simp),←h]
theorem cstep_len (σ : CS) (s : List UInt8) (last : Bool) : (cstep σ s last).1.length≤σ.1.length + 1:=by
 unfold cstep capp cpop
 split
 ·simp
 ·split<;>split<;>simp<;>omega
theorem segFold_len : ∀ (n : Nat) (σ : CS) (rest : List UInt8),rest.length≤n→(segFold σ rest).1.length≤σ.1.length + rest.length + 1
 | 0,σ,rest,h=>by
  have : rest = []:=List.eq_nil_of_length_eq_zero (by omega)
  subst this
  rw [segFold,dif_neg (by simp [cutF])]
  have:=cstep_len σ (cutF 47 []).1 true
  simp only [List.length_nil]; omega
 | n + 1,σ,rest,h=>by
  rw [segFold]
  split
  ·rename_i hc
   have h1:=cutF_lt hc
   have h2:=segFold_len n (cstep σ (cutF 47 rest).1 false) (cutF 47 rest).2.1 (by omega)
   have h3:=cstep_len σ (cutF 47 rest).1 false
   omega
  ·have:=cstep_len σ (cutF 47 rest).1 true
   omega
theorem finClean {c : LC} {path : List UInt8} {nl : Bool} {n n2 g : Int} {f f2 : Nat→List SV} {st : List (List UInt8)} (R : RowS f n st) (R2 : RowS f2 n2 st) :
  Fin (.tup []) (.tup []) [.lrec c (cfr 2) 0 none,.blk 9 [.str path],.blk 61 [.vsl (.a nl) (.a n) (.a g) 3],.vec 9 (.a n) (.a g) 1 f] [.lrec c (cfr 2) 0 none,.blk 9 [.str path],.blk 61 [.vsl (.a nl) (.a n2) (.a g) 3],.vec 9 (.a n2) (.a g) 1 f2]:=by
 obtain rfl : n = n2:=by rw [R.n,R2.n]
 refine ⟨LeV.refl _,leH_of (LeH.cons (fun _ _ _ h=>h) (LeH.cons (fun _ _ _ h=>h) (LeH.cons (fun _ _ _ h=>h) (LeH.cons (leH_vec rfl rfl fun i hi=>?_) fun _ _ _ _ h=>h)))),Nat.le_refl _⟩
 have hi : (i : Int) < n:=hi
 have:=R.n
 rw [R.f i (by omega),R2.f i (by omega)]
def spSegs : FSpec:=fun _ xs ls K=>∃ (s : List UInt8),xs = [.str s]∧ls = []∧K (.clo 78 [.ptr 0 0]) [.blk 9 [.str s]]
theorem segs_ok : FnOk Tryz.prog gl 38 spSegs:=by
 refine fnOkG (gh:=[]) mixed cxOk tabNil Tryz.func38 (by kernel_rfl) (by kernel_rfl) ?_
 intro xs ls K h
 unfold spSegs at h
 obtain ⟨s,rfl,rfl,h⟩:=h
 refine ⟨_,_,h,fun D hD=>?_⟩
 clear h
 cbv
 subst hD
 exact fin_eq rfl rfl
def itClean (Y : FSpec) : FSpec:=fun _ xs ls K=>∃ (c : LC) (path : List UInt8) (st : List (List UInt8)) (nl : Bool) (g n : Int) (f : Nat→List SV),Y = cleanY c∧
 xs = [.yv 0,.ptr 1 0]∧ls = [.lrec c (cfr 2) 0 none,.blk 9 [.str path],.blk 61 [.vsl (.a nl) (.a n) (.a g) 3],.vec 9 (.a n) (.a g) 1 f]∧RowS f n st∧1≤path.length∧st.length + path.length≤50000∧
 ∀ st' nl' g' n' f',(st',nl',g') = segFold (st,nl,g) (path.drop 1)→RowS f' n' st'→K (.tup []) [.lrec c (cfr 2) 0 none,.blk 9 [.str path],.blk 61 [.vsl (.a nl') (.a n') (.a g') 3],.vec 9 (.a n') (.a g') 1 f']
structure SgJ (k : CS) (rest : List UInt8) (st : List (List UInt8)) (nl : Bool) (g n : Int) (f : Nat→List SV) (m : Nat) : Prop where
 m : m = rest.length
 row : RowS f n st
 k : k = segFold (st,nl,g) rest
 len : st.length + rest.length≤50000
def sgJ (c : LC) (path : List UInt8) (k : CS) (m : Nat) (vs : List (Option SV)) (hp : List Hl) : Prop :=
 ∃ (rest : List UInt8) (st : List (List UInt8)) (nl : Bool) (g n : Int) (f : Nat→List SV),vs = [some (.yv 0),some (.str rest)]∧
  hp = [.lrec c (cfr 2) 0 none,.blk 9 [.str path],.blk 61 [.vsl (.a nl) (.a n) (.a g) 3],.vec 9 (.a n) (.a g) 1 f]∧SgJ k rest st nl g n f m
theorem segs1_ok (Y : FSpec) (hY : YOk Tryz.prog gl Y) : FnOk Tryz.prog gl 78 (itClean Y):=by
 refine fnOkI (gh:=[]) (its:=[]) (yl:=[Y]) mixed cxOk (tabCons cut_ok tabNil) ⟨fun _ h=>(by cases h),fun Z h=>by rw [List.mem_singleton] at h; subst h; exact hY⟩ Tryz.func78 (by kernel_rfl) (by kernel_rfl) ?_
 intro xs ls K h
 unfold itClean at h
 obtain ⟨c,path,st,nl,g,n,f,rfl,rfl,rfl,R,hp1,hlen,h⟩:=h
 obtain ⟨k,hk⟩ : ∃ k,k = segFold (st,nl,g) (path.drop 1):=⟨_,rfl⟩
 obtain ⟨n2,f2,R2⟩ : ∃ n2 f2,RowS f2 n2 k.1:=⟨_,_,RowS.row (l:=k.1) (by
  have:=segFold_len path.length (st,nl,g) (path.drop 1) (by simp)
  rw [←hk] at this
  simp only [List.length_drop] at this; omega)⟩
 refine ⟨_,_,h k.1 k.2.1 k.2.2 n2 f2 hk R2,fun D hD=>?_⟩
 clear h
 obtain ⟨k1,k2,k3⟩:=k
 obtain ⟨J,hJ⟩ : ∃ J,J = sgJ c path (k1,k2,k3):=⟨_,rfl⟩
 simp only at R2
 cbv
 refine ⟨by subst hD; exact ⟨by decide,by show (1 : Int)≤path.length; omega,Int.le_refl _⟩,fun r hr=>?_⟩
 have hr2 : r = path.drop 1:=by
  have h1 : r = (path.drop 1).take ((path.length : Int).toNat - 1):=by subst hD; exact hr.h
  rw [h1,List.take_of_length_le (by rw [List.length_drop]; omega)]
 clear hr
 cbv
 refine ⟨[0,3],J,⟨rfl,r.length,?_⟩,?_⟩
 ·rw [hJ]
  subst hD
  refine ⟨r,st,nl,g,n,f,rfl,rfl,rfl,R,by rw [hk,hr2],by rw [hr2,List.length_drop]; omega⟩
 clear hk hr2 R hlen
 intro m vs hp hj
 rw [hJ] at hj
 obtain ⟨rest,st,nl,g,n,f,rfl,rfl,V⟩:=hj
 cbv
 refine ⟨rest,47,rfl,rfl,by have:=V.len; omega,fun a b t hc=>?_⟩
 cbv
 refine ⟨a,!t,st,nl,g,n,f,?_,?_,V.row,by have:=V.len; omega,fun st' nl' g' n' f' hst R'=>?_⟩
 ·subst hD; rfl
 ·subst hD; rfl
 cbv
 refine br hD (fun h=>?_) (fun h=>?_)
 ·cbv
  have ht : t = false:=by simpa [BT.den] using h
  subst ht
  have e1:=V.k
  have hst : (st',nl',g') = cstep (st,nl,g) a true:=hst
  rw [segFold_last hc,←hst] at e1
  simp only [Prod.mk.injEq] at e1
  obtain ⟨rfl,rfl,rfl⟩:=e1
  subst hD
  exact finClean R' R2
 ·cbv
  have ht : t = true:=by simpa [BT.den] using h
  subst ht
  have e1:=V.k
  rw [segFold_more hc] at e1
  have hb : b.length < rest.length:=by
   have:=cutF_lt (c:=47) (s:=rest) (by rw [←hc])
   rw [←hc] at this; exact this
  have hst2 : st'.length≤st.length + 1:=by
   have:=cstep_len (st,nl,g) a false
   rw [show (!true) = false from rfl] at hst
   rw [←hst] at this; exact this
  refine ⟨b.length,by have:=V.m; omega,?_⟩
  rw [hJ]
  unfold sgJ
  subst hD
  refine ⟨b,st',nl',g',n',f',rfl,rfl,rfl,R',?_,by have:=V.len; omega⟩
  rw [e1,hst]; rfl
end Go.Proofs.YtefelnhpfdcleaaGreatDoor
namespace Go.Proofs.YtefelnhpfdcleaaGreatDoor
open Go Go.Sx Go.RowKit
set_option maxRecDepth 100000
set_option maxHeartbeats 2000000
theorem cell_in {W : World} {b o : Nat} {sp : Option Nat} {v : Value} (h : W.cell? ⟨b,o,sp⟩ = some v) : b < W.heap.size:=by
 unfold World.cell? at h
 split at h
 ·rename_i c _ _ hc
  exact (Array.getElem?_eq_some_iff.1 hc).1
 ·cases h
def spJoin : FSpec:=fun _ xs ls K=>∃ (l : List (List UInt8)) (sep : List UInt8) (nl : Bool) (n : Int) (f : Nat→List SV),xs = [.sl (.a nl) (.a n) 1 f,.str sep]∧ls = []∧RowS f n l∧l.length≤1000000∧(Lib.join l sep).length≤140737488355328∧∀ r,r = Lib.join l sep→K (.str r) []
theorem join_ok : FnOk Tryz.prog gl 40 spJoin:=by
 refine ⟨⟨Tryz.f40,_,Tryz.func40,rfl,by kernel_rfl⟩,fun xs ls K h=>?_⟩
 obtain ⟨l,sep,nl,n,f,rfl,rfl,R,hN,hL,h⟩:=h
 refine ⟨_,_,h _ rfl,callsTo_below fun E B w vals _ _ _ hr=>?_⟩
 obtain ⟨v,u,rfl,hv,hu⟩:=relL_two hr
 rw [rel_str hu]
 have hRn:=R.n
 have none : ∀ (a : Option Addr) (c : Nat),l.length = 0→Calls Tryz.prog 40 ⟨[.slice a 0 c,.string (Sx.bytes sep)]⟩ w fun e w'=>∃ v,e = .returned v∧(∀ E,Rel E w' (.str (Lib.join l sep)) v)∧Below w.heap.size w w':=by
  intro a c h0
  obtain rfl : l = []:=List.eq_nil_of_length_eq_zero h0
  refine (sh_strings_Join_none a c (Sx.bytes sep) w).mono ?_
  rintro e w' ⟨rfl,rfl⟩
  exact ⟨_,rfl,fun E=>.ro (.str rfl),Below.refl _ _⟩
 cases hv with
 | ro h =>
  cases h with
  | slnil h hn =>
   have hn : n = 0:=hn
   exact none _ _ (by omega)
  | sl g h hn hc hcm hs hl h1 hcell hrel =>
   rename_i a m cap
   have hn : n = (m : Int):=hn
   have hm : l.length = m:=by omega
   by_cases h0 : m = 0
   ·subst h0; exact none _ _ hm
   ·obtain ⟨bk,o,sp⟩:=a
    obtain rfl : sp = Option.none:=hs (by omega)
    have cells : ∀ j,j < m→w.cell? ⟨bk,o + j,Option.none⟩ = some (.string (Sx.bytes (l.getD j []))):=by
     intro j hj
     have e1:=(hcell j 0 hj (by omega)).1
     have e2:=hrel j 0 (.str (l.getD j [])) hj (by rw [R.f j (by omega)]; rfl)
     simp only [Nat.mul_one,Nat.add_zero] at e1
     rw [e1]
     cases e2 with
     | str h=>rw [h]
    have hmap : (l.map Sx.bytes).map (·.data.toList) = l:=by
     rw [List.map_map]
     have : ((fun x : ByteArray=>x.data.toList)∘Sx.bytes) = id:=by funext s; simp [Sx.bytes]
     rw [this,List.map_id]
    have:=sh_strings_Join bk o cap (l.map Sx.bytes) (Sx.bytes sep) w (fun j x hx=>?_) (cell_in (cells 0 (by omega))) (by rw [List.length_map]; omega) (by rw [List.length_map]; omega) (by rw [hmap]; simpa [Sx.bytes] using hL)
    ·rw [hmap,List.length_map,hm] at this
     refine this.mono ?_
     rintro e w' ⟨rfl,hB⟩
     exact ⟨_,rfl,fun E=>.ro (.str (by simp [Sx.bytes])),hB⟩
    ·rw [List.getElem?_map] at hx
     obtain ⟨s,hs1,rfl⟩:=Option.map_eq_some_iff.1 hx
     have hj : j < l.length:=(List.getElem?_eq_some_iff.1 hs1).1
     rw [cells j (by omega),List.getD_eq_getElem?_getD,hs1]; rfl
end Go.Proofs.YtefelnhpfdcleaaGreatDoor
namespace Go.Proofs.YtefelnhpfdcleaaGreatDoor
open Go Go.Sx
set_option maxRecDepth 100000
set_option maxHeartbeats 40000000
def cleanF (s : List UInt8) : List UInt8×Int :=
 if (splitF s).2.2.2≠0 then ([],(splitF s).2.2.2) else
 ([47] ++ Lib.join (segFold ([],true,0) ((normL (splitF s).1 0).drop 1)).1 [47] ++ (if (splitF s).2.2.1 then [63] ++ normL (splitF s).2.1 0 else []),0)
theorem normL_len (s : List UInt8) : ∀ (m i : Nat),s.length - i≤m→(normL s i).length≤s.length - i∧(i < s.length→1≤(normL s i).length)
 | m,i,hm=>by
  by_cases hi : i < s.length
  ·cases m with
   | zero=>omega
   | succ m =>
    by_cases he : escAt s i = true
    ·have h3:=escAt_len he
     rw [normL_esc hi he]
     have ih:=(normL_len s m (i + 3) (by omega)).1
     have hO : 1≤(escO (escV s i)).length∧(escO (escV s i)).length≤3:=by unfold escO; split<;>simp
     simp only [List.length_append]
     omega
    ·rw [normL_one hi (by simpa using he)]
     have ih:=(normL_len s m (i + 1) (by omega)).1
     simp only [List.length_cons]
     omega
  ·rw [normL,dif_neg hi]
   simp; omega
theorem splitF_ok {s p q : List UInt8} {h : Bool} (hs : (p,q,h,(0 : Int)) = splitF s) : s.length≤500∧1≤p.length∧p.length≤500∧q.length≤500:=by
 unfold splitF at hs
 split at hs
 ·rename_i h1
  simp only [Prod.mk.injEq] at hs
  exact absurd hs.2.2.2.symm h1
 ·rename_i h1
  have h0 : (orgF s).2 = 0:=by simpa using h1
  have hl:=orgF_len h0
  split at hs
  ·simp only [Prod.mk.injEq] at hs; omega
  ·simp only [Prod.mk.injEq] at hs
   obtain ⟨rfl,rfl,rfl,_⟩:=hs
   have hp : Lib.hasPrefix s [47] = true:=by
    unfold orgF at h0
    split at h0
    ·cases h0
    ·split at h0
     ·cases h0
     ·rename_i h5; simpa using h5
   have key : ∀ (c : UInt8) (s : List UInt8),(cutF c s).1.length≤s.length∧(cutF c s).2.1.length≤s.length:=by
    intro c s
    induction s with
    | nil=>exact ⟨Nat.le_refl _,Nat.le_refl _⟩
    | cons b r ih=>unfold cutF; split<;>simp<;>omega
   refine ⟨hl,?_,by have:=(key 63 s).1; omega,by have:=(key 63 s).2; omega⟩
   cases s with
   | nil=>cases hp
   | cons b r =>
    have hb : b = 47:=by
     simp [Lib.hasPrefix,List.isPrefixOf] at hp
     exact hp.symm
    subst hb
    simp [cutF]
structure CBound (p q : List UInt8) : Prop where
 p1 : 1≤p.length
 p : p.length≤500
 q : q.length≤500
def spClean : FSpec:=fun _ xs ls K=>∃ (s : List UInt8),xs = [.str s]∧ls = []∧s.length≤9223372036854775807∧∀ t e,(t,e) = cleanF s→K (.tup [.str t,.int .i64 (.a e)]) []
structure EqI (a b : Int) : Prop where
 h : a = b
theorem finCR {c : LC} {fr : List (Nat×Option SV)} {bt : BT} {nlT : BT} {nT gT nT' gT' : ST} {k2 : Bool} {n1 n2 k3 : Int} {f1 f2 : Nat→List SV} {st : List (List UInt8)} (hb : bt.den = true) (h1 : nlT.den = k2) (h2 : nT.den = n1) (h3 : gT.den = k3) (h4 : nT'.den = n1) (h5 : gT'.den = k3) (R : RowS f1 n1 st) (R2 : RowS f2 n2 st) :
  Fin (.bool bt) (.bool (.a true)) [.lrec c fr 0 none,.blk 61 [.vsl nlT nT gT 2],.vec 9 nT' gT' 1 f1] [.lrec c fr 0 none,.blk 61 [.vsl (.a k2) (.a n2) (.a k3) 2],.vec 9 (.a n2) (.a k3) 1 f2]:=by
 obtain rfl : n1 = n2:=by rw [R.n,R2.n]
 refine ⟨leBool hb,leH_of (LeH.cons (fun _ _ _ h=>h) (LeH.cons (leH_blk (LeL.cons (leVsl h1 h2 h3) LeL.nil)) (LeH.cons (leH_vec h4 h5 fun i hi=>?_) fun _ _ _ _ h=>h))),Nat.le_refl _⟩
 rw [h4] at hi
 have:=R.n
 rw [R.f i (by omega),R2.f i (by omega)]
theorem RowS.pop {f : Nat→List SV} {n : Int} {st : List (List UInt8)} (R : RowS f n st) (h : 1≤st.length) : RowS f (n - 1) st.dropLast:=by
 have hn:=R.n
 refine ⟨by rw [List.length_dropLast]; omega,fun i hi=>?_,by have:=R.len; rw [List.length_dropLast]; omega⟩
 rw [List.length_dropLast] at hi
 rw [R.f i (by omega),List.getD_eq_getElem?_getD,List.getD_eq_getElem?_getD,List.getElem?_dropLast,if_pos (by omega)]
theorem cstep_mem {B : Nat} {σ : CS} {s : List UInt8} {last : Bool} (h : ∀ x∈σ.1,x.length≤B) (hs : s.length≤B) : ∀ x∈(cstep σ s last).1,x.length≤B:=by
 have hp : ∀ x∈(if s = [46,46]∧σ.1≠[] then cpop σ else σ).1,x.length≤B:=by
  split
  ·exact fun x hx=>h x (List.dropLast_subset _ hx)
  ·exact h
 intro x hx
 unfold cstep at hx
 split at hx
 ·simp only [capp,List.mem_append,List.mem_singleton] at hx
  rcases hx with hx | rfl
  ·exact h x hx
  ·exact hs
 ·split at hx
  ·simp only [capp,List.mem_append,List.mem_singleton] at hx
   rcases hx with hx | rfl
   ·exact hp x hx
   ·simp
  ·exact hp x hx
theorem cutF_len (c : UInt8) (s : List UInt8) : (cutF c s).1.length≤s.length∧(cutF c s).2.1.length≤s.length:=by
 induction s with
 | nil=>exact ⟨Nat.le_refl _,Nat.le_refl _⟩
 | cons b r ih=>unfold cutF; split<;>simp<;>omega
theorem segFold_mem {B : Nat} : ∀ (n : Nat) (σ : CS) (rest : List UInt8),rest.length≤n→rest.length≤B→(∀ x∈σ.1,x.length≤B)→∀ x∈(segFold σ rest).1,x.length≤B
 | n,σ,rest,h,hB,hσ=>by
  have hc:=(cutF_len 47 rest).1
  rw [segFold]
  split
  ·rename_i hc2
   have h1:=cutF_lt hc2
   cases n with
   | zero=>omega
   | succ n=>exact segFold_mem n _ _ (by omega) (by omega) (cstep_mem hσ (by omega))
  ·exact cstep_mem hσ (by omega)
theorem joinTail_len {B : Nat} : ∀ {l : List (List UInt8)},(∀ x∈l,x.length≤B)→(Lib.joinTail [47] l).length≤l.length * (B + 1)
 | [],_=>by simp [Lib.joinTail]
 | x :: l,h=>by
  have h1:=joinTail_len (l:=l) fun y hy=>h y (List.mem_cons_of_mem _ hy)
  have h2:=h x (List.mem_cons_self ..)
  have : Lib.joinTail [47] (x :: l) = [47] ++ x ++ Lib.joinTail [47] l:=by simp [Lib.joinTail]
  rw [this]
  simp only [List.length_append,List.length_cons,List.length_nil,Nat.add_mul,Nat.one_mul]
  omega
theorem join_len {B : Nat} {l : List (List UInt8)} (h : ∀ x∈l,x.length≤B) : (Lib.join l [47]).length≤l.length * (B + 1):=by
 cases l with
 | nil=>simp [Lib.join_nil]
 | cons x l =>
  rw [Lib.join_cons]
  have h1:=joinTail_len (l:=l) fun y hy=>h y (List.mem_cons_of_mem _ hy)
  have h2:=h x (List.mem_cons_self ..)
  simp only [List.length_append,List.length_cons,Nat.add_mul,Nat.one_mul]
  omega
theorem clean_ok : FnOk Tryz.prog gl 15 spClean:=by
 refine fnOkI (gh:=[(4,[.vecb 8 0 9]),(2000014,[.vshareb 8 0])]) (its:=[(78,itClean)]) (yl:=[]) mixed cxOk (tabCons split_ok7 (tabCons normal_ok (tabConsG segs_ok (tabCons join_ok tabNil)))) ⟨fun x h Y hY=>by rw [List.mem_singleton] at h; subst h; exact segs1_ok Y hY,fun _ h=>(by cases h)⟩ Tryz.func15 (by kernel_rfl) (by kernel_rfl) ?_
 intro xs ls K h
 unfold spClean at h
 obtain ⟨s,rfl,rfl,hs,h⟩:=h
 obtain ⟨k,hk⟩ : ∃ k,k = cleanF s:=⟨_,rfl⟩
 obtain ⟨kt,ke⟩:=k
 refine ⟨_,_,h kt ke hk,fun D hD=>?_⟩
 clear h
 unfold cleanF at hk
 cbv
 refine ⟨s,rfl,rfl,hs,fun p q hb e hsp=>?_⟩
 rw [←hsp] at hk
 simp only at hk
 cbv
 refine br hD (fun h=>?_) (fun h=>?_)
 ·cbv
  have h1 : e≠0:=by simpa using h
  rw [if_pos h1] at hk
  simp only [Prod.mk.injEq] at hk
  obtain ⟨rfl,rfl⟩:=hk
  subst hD
  exact fin_eq rfl rfl
 have h1 : e = 0:=by simpa using h
 subst h1
 rw [if_neg (by simp)] at hk
 have CB : CBound p q:=by
  obtain ⟨_,a,b,c⟩:=splitF_ok hsp
  exact ⟨a,b,c⟩
 clear h hsp
 cbv
 refine ⟨p,rfl,rfl,by have:=CB.p; omega,fun pn hpn=>?_⟩
 have hpl:=(normL_len p p.length 0 (by omega))
 rw [←hpn] at hpl hk
 have PB : 1≤pn.length∧pn.length≤500:=by have:=CB.p1; have:=CB.p; omega
 clear hpl hpn
 cbv
 refine ⟨pn,rfl,rfl,?_⟩
 cbv
 intro c hc
 refine ⟨[8],cleanY c,?_,?_⟩
 ·rintro xs ls K' ⟨x,last,st,nl,g,n,f,rfl,rfl,R,hl,h⟩
  refine ⟨⟨_,rfl⟩,?_⟩
  obtain ⟨k,hk⟩ : ∃ k,k = cstep (st,nl,g) x last:=⟨_,rfl⟩
  obtain ⟨n2,f2,R2⟩ : ∃ n2 f2,RowS f2 n2 k.1:=⟨_,_,RowS.row (l:=k.1) (by have:=cstep_len (st,nl,g) x last; rw [←hk] at this; simp only at this; omega)⟩
  refine ⟨_,_,h k.1 k.2.1 k.2.2 n2 f2 hk R2,?_⟩
  clear h
  obtain ⟨k1,k2,k3⟩:=k
  simp only at R2
  unfold cstep at hk
  cbv
  refine br hD (fun h=>?_) (fun h=>?_)<;>cbv
  ·have hx : x≠[46]∧x≠[46,46]:=by
    have h : (!(x == [46]) && !(x == [46,46])) = true:=h
    simpa using h
   rw [if_pos hx] at hk
   simp only [capp,Prod.mk.injEq] at hk
   obtain ⟨hq1,hq2,hq3⟩:=hk
   subst hq1 hq2
   have hk3 : EqI k3 _:=⟨hq3⟩
   clear hq3
   clear h hx
   intro f0 hf0
   have h0 : f0 0 = [.str x]:=hf0.h 0 _ rfl
   clear hf0
   cbv
   refine ⟨by subst hD; exact ⟨rfl,by have:=R.n; have:=hl; show (n + 1) * 16≤_; omega,by have:=R.n; have:=hl; show n + 1≤_; omega⟩,⟨by subst hD; rfl⟩,fun f1 n1 hm g1 hg=>?_⟩
   have e1 : RowS f1 n1 (st ++ [x]):=R.more h0 (by subst hD; exact hm) (by have:=hl; omega)
   have e2 : g1 = k3:=by subst hD; rw [hk3.h]; exact hg.h
   clear hm hg
   cbv
   subst hD
   exact finCR rfl (Bool.and_false nl) rfl e2 rfl e2 e1 R2
  have hx : ¬ (x≠[46]∧x≠[46,46]):=by
   have h : (!(x == [46]) && !(x == [46,46])) = false:=h
   simpa using h
  rw [if_neg hx] at hk
  clear h hx
  refine br hD (fun h=>?_) (fun h=>?_)<;>cbv
  ·have hx : x = [46,46]∧st≠[]:=by
    have h : ((x == [46,46]) && decide (0 < n)) = true:=h
    simp only [Bool.and_eq_true,beq_iff_eq,decide_eq_true_eq] at h
    refine ⟨h.1,fun e=>?_⟩
    have:=R.n
    rw [e] at this
    have:=h.2
    simp at *; omega
   have hpos : 1≤st.length:=by
    cases st with
    | nil=>exact absurd rfl hx.2
    | cons a b=>simp
   simp only [if_pos hx,cpop] at hk
   clear h hx
   have Rp:=R.pop hpos
   have hlp : st.dropLast.length≤99999:=by rw [List.length_dropLast]; omega
   generalize st.dropLast = sp at hk Rp hlp
   obtain ⟨np,hnp⟩ : ∃ np,np = n - 1:=⟨_,rfl⟩
   rw [←hnp] at Rp
   have hn1 : IntKind.i64.wrap (n - 1) = np:=by have:=R.n; rw [wrap64 (by omega) (by omega)]; exact hnp.symm
   have hnb : 0≤np∧np≤n:=by have:=Rp.n; omega
   clear hnp
   refine ⟨⟨by subst hD; rfl⟩,⟨by subst hD; rfl⟩,by subst hD; exact ⟨Int.le_refl _,by show 0≤IntKind.i64.wrap (n - 1); rw [hn1]; exact hnb.1,by show IntKind.i64.wrap (n - 1)≤n; rw [hn1]; exact hnb.2⟩,fun g2 hg2=>?_⟩
   have eg : EqI g2 (g + 1):=⟨by subst hD; exact hg2.h⟩
   clear hg2
   cbv
   refine br hD (fun h=>?_) (fun h=>?_)<;>cbv
   ·have hlast : last = true:=h
    subst hlast
    rw [if_pos rfl] at hk
    simp only [capp,Prod.mk.injEq] at hk
    obtain ⟨hq1,hq2,hq3⟩:=hk
    subst hq1 hq2
    have hk3 : EqI k3 _:=⟨hq3⟩
    clear hq3
    clear h
    intro f0 hf0
    have h0 : f0 0 = [.str []]:=hf0.h 0 _ rfl
    clear hf0
    cbv
    refine ⟨by subst hD; exact ⟨rfl,by have:=Rp.n; show (IntKind.i64.wrap (n - 1) + 1) * 16≤_; rw [hn1]; omega,by have:=Rp.n; show IntKind.i64.wrap (n - 1) + 1≤_; rw [hn1]; omega⟩,⟨by subst hD; rfl⟩,fun f1 n1 hm g1 hg=>?_⟩
    have e1 : RowS f1 n1 (sp ++ [[]]):=Rp.more h0 (by subst hD; rw [←hn1]; exact hm) (by omega)
    have e2 : g1 = k3:=by subst hD; rw [hk3.h,←eg.h]; exact hg.h
    clear hm hg
    cbv
    subst hD
    exact finCR rfl (Bool.and_false nl) rfl e2 rfl e2 e1 R2
   ·have hlast : last = false:=h
    subst hlast
    rw [if_neg (by simp)] at hk
    simp only [Prod.mk.injEq] at hk
    obtain ⟨hq1,hq2,hq3⟩:=hk
    subst hq1 hq2
    have hk3 : EqI k3 _:=⟨hq3⟩
    clear hq3
    clear h
    subst hD
    exact finCR (n1:=np) rfl rfl hn1 (by rw [hk3.h]; exact eg.h) hn1 (by rw [hk3.h]; exact eg.h) Rp R2
  have hx : ¬ (x = [46,46]∧st≠[]):=by
   have h : ((x == [46,46]) && decide (0 < n)) = false:=h
   rintro ⟨h1,h2⟩
   have h3 : 0 < n:=by
    have:=R.n
    cases st with
    | nil=>exact absurd rfl h2
    | cons a b=>rw [this]; simp
   rw [h1] at h
   simp [h3] at h
  simp only [if_neg hx] at hk
  clear h hx
  refine br hD (fun h=>?_) (fun h=>?_)<;>cbv
  ·have hlast : last = true:=h
   subst hlast
   rw [if_pos rfl] at hk
   simp only [capp,Prod.mk.injEq] at hk
   obtain ⟨hq1,hq2,hq3⟩:=hk
   subst hq1 hq2
   have hk3 : EqI k3 _:=⟨hq3⟩
   clear hq3
   clear h
   intro f0 hf0
   have h0 : f0 0 = [.str []]:=hf0.h 0 _ rfl
   clear hf0
   cbv
   refine ⟨by subst hD; exact ⟨rfl,by have:=R.n; have:=hl; show (n + 1) * 16≤_; omega,by have:=R.n; have:=hl; show n + 1≤_; omega⟩,⟨by subst hD; rfl⟩,fun f1 n1 hm g1 hg=>?_⟩
   have e1 : RowS f1 n1 (st ++ [[]]):=R.more h0 (by subst hD; exact hm) (by have:=hl; omega)
   have e2 : g1 = k3:=by subst hD; rw [hk3.h]; exact hg.h
   clear hm hg
   cbv
   subst hD
   exact finCR rfl (Bool.and_false nl) rfl e2 rfl e2 e1 R2
  ·have hlast : last = false:=h
   subst hlast
   rw [if_neg (by simp)] at hk
   simp only [Prod.mk.injEq] at hk
   obtain ⟨hq1,hq2,hq3⟩:=hk
   subst hq1 hq2
   have hk3 : EqI k3 _:=⟨hq3⟩
   clear hq3
   clear h
   subst hD
   exact finCR rfl rfl rfl hk3.h.symm rfl hk3.h.symm R R2
 ·cbv
  refine ⟨c,pn,[],true,0,0,fun _=>[],rfl,rfl,by subst hD; rfl,RowS.nil,PB.1,by have:=PB.2; simp only [List.length_nil]; omega,fun st nl g n f hst R=>?_⟩
  have hst1 : (segFold ([],true,0) (List.drop 1 pn)).1 = st:=by rw [←hst]
  rw [hst1] at hk
  have SL : st.length≤600∧(Lib.join st [47]).length≤400000:=by
   have h1:=segFold_len pn.length ([],true,0) (pn.drop 1) (by simp)
   have h2:=segFold_mem (B:=pn.length) pn.length ([],true,0) (pn.drop 1) (by simp) (by simp) (fun x hx=>by simp at hx)
   rw [hst1] at h1 h2
   simp only [List.length_drop,List.length_nil] at h1
   have h3:=join_len h2
   have h4 : st.length≤501:=by omega
   have h5 : st.length * (pn.length + 1)≤501 * 501:=Nat.mul_le_mul h4 (by omega)
   omega
  clear hst hst1
  cbv
  refine ⟨⟨⟨by subst hD; rfl⟩,⟨by subst hD; rfl⟩⟩,?_⟩
  refine ⟨st,[47],nl,n,f,by subst hD; rfl,rfl,R,by omega,by omega,fun j hj=>?_⟩
  rw [←hj] at hk
  have hjl : j.length≤400000:=by rw [hj]; exact SL.2
  clear hj
  cbv
  refine ⟨⟨by simp only [List.length_cons,List.length_nil]; omega⟩,fun u hu=>?_⟩
  have hu : u = [47] ++ j:=hu.h
  rw [←hu] at hk
  have hul : u.length≤400001:=by rw [hu]; simp; omega
  clear hu
  cbv
  refine br hD (fun h=>?_) (fun h=>?_)<;>cbv
  ·have hb1 : hb = true:=h
   subst hb1
   rw [if_pos rfl] at hk
   clear h
   refine ⟨q,rfl,rfl,by have:=CB.q; omega,fun qn hqn=>?_⟩
   have hql:=(normL_len q q.length 0 (by omega)).1
   rw [←hqn] at hql hk
   have hql : qn.length≤500:=by have:=CB.q; omega
   clear hqn
   cbv
   refine ⟨⟨by simp only [List.length_cons,List.length_nil]; omega⟩,fun u2 hu2=>?_⟩
   have hu2 : u2 = [63] ++ qn:=hu2.h
   rw [←hu2] at hk
   have hul2 : u2.length≤501:=by rw [hu2]; simp; omega
   clear hu2
   cbv
   refine ⟨⟨by omega⟩,fun u3 hu3=>?_⟩
   have hu3 : u3 = u ++ u2:=hu3.h
   rw [←hu3] at hk
   simp only [Prod.mk.injEq] at hk
   obtain ⟨hq1,hq2⟩:=hk
   subst hq1 hq2
   cbv
   subst hD
   exact fin_eq rfl rfl
  ·have hb1 : hb = false:=h
   subst hb1
   rw [if_neg (by simp),List.append_nil] at hk
   simp only [Prod.mk.injEq] at hk
   obtain ⟨hq1,hq2⟩:=hk
   subst hq1 hq2
   subst hD
   exact fin_eq rfl rfl
end Go.Proofs.YtefelnhpfdcleaaGreatDoor
namespace Go.Proofs.YtefelnhpfdcleaaGreatDoor
open Go Go.Sx
set_option maxRecDepth 100000
set_option maxHeartbeats 2000000
structure Rq where
 id : Int
 method : List UInt8
 target : List UInt8
 host : List UInt8
 fields : List HF
 body : List UInt8
structure RqOk (r : Rq) (nl : Bool) (n : Int) (f : Nat→List SV) : Prop where
 id1 : -9223372036854775808≤r.id
 id2 : r.id≤9223372036854775807
 method : r.method.length≤9223372036854775807
 target : r.target.length≤9223372036854775807
 host : r.host.length≤9223372036854775807
 body : r.body.length≤9223372036854775807
 row : RowH f n r.fields
 nil : nl = true→r.fields = []
def sHost : List UInt8:=[72,111,115,116]
def sXId : List UInt8:=[88,45,82,101,113,117,101,115,116,45,73,100]
def sCL : List UInt8:=[67,111,110,116,101,110,116,45,76,101,110,103,116,104]
def sPost : List UInt8:=[80,79,83,84]
def sPut : List UInt8:=[80,85,84]
def sPatch : List UInt8:=[80,65,84,67,72]
def sConnect : List UInt8:=[67,79,78,78,69,67,84]
def sId : List UInt8:=[105,100]
def sMethod : List UInt8:=[109,101,116,104,111,100]
def sTarget : List UInt8:=[116,97,114,103,101,116]
def sHostP : List UInt8:=[104,111,115,116]
def sFields : List UInt8:=[102,105,101,108,100,115]
def sBody : List UInt8:=[98,111,100,121]
def hasBody (r : Rq) : Bool:=((r.body != [] || r.method == sPost) || r.method == sPut) || r.method == sPatch
def writtenF (r : Rq) : List HF×Int :=
 if (stripF r.fields).2≠0 then ([],(stripF r.fields).2) else
 (([⟨sHost,r.host⟩,⟨sXId,Lib.itoa r.id⟩] ++ (stripF r.fields).1) ++ (if hasBody r then [⟨sCL,Lib.itoa r.body.length⟩] else []),0)
theorem RowH.app {f g f' : Nat→List SV} {n m n' : Int} {a b : List HF} (R : RowH f n a) (S : RowH g m b) (h : MoreRow f' n' n m f g) (hl : a.length + b.length≤9223372036854775807) : RowH f' n' (a ++ b):=by
 have hn:=R.n; have hm:=S.n
 refine ⟨by rw [h.len,hn,hm,List.length_append]; omega,fun i hi=>?_,by rw [List.length_append]; exact hl,fun i hi=>?_⟩
 ·rw [List.length_append] at hi
  rw [List.getD_eq_getElem?_getD,List.getElem?_append]
  split
  ·rename_i h1
   rw [h.lo i (by omega),R.f i h1,List.getD_eq_getElem?_getD]
  ·rename_i h1
   rw [h.hi i (i - a.length) (by omega) (by omega),S.f _ (by omega),List.getD_eq_getElem?_getD]
 ·rw [List.length_append] at hi
  rw [List.getD_eq_getElem?_getD,List.getElem?_append]
  split
  ·rename_i h1
   have:=R.small i h1
   rwa [List.getD_eq_getElem?_getD] at this
  ·rename_i h1
   have:=S.small (i - a.length) (by omega)
   rwa [List.getD_eq_getElem?_getD] at this
theorem RowH.one {f : Nat→List SV} {x : HF} (h : f 0 = hfCells x) (hs : x.small) : RowH f 1 [x]:=by
 refine ⟨rfl,fun i hi=>?_,by simp,fun i hi=>?_⟩
 ·have : i = 0:=by simpa using hi
  subst this; exact h
 ·have : i = 0:=by simpa using hi
  subst this; exact hs
theorem RowH.two {f : Nat→List SV} {x y : HF} (h : f 0 = hfCells x) (h1 : f 1 = hfCells y) (hs : x.small) (hs1 : y.small) : RowH f 2 [x,y]:=by
 refine ⟨rfl,fun i hi=>?_,by simp,fun i hi=>?_⟩
 ·match i,hi with
  | 0,_=>exact h
  | 1,_=>exact h1
 ·match i,hi with
  | 0,_=>exact hs
  | 1,_=>exact hs1
theorem stripF_len (l : List HF) : (stripF l).2 = 0→(stripF l).1.length≤100:=by
 intro h
 unfold stripF at h ⊢
 split
 ·simp
 ·rename_i h1
  rw [if_neg h1] at h
  have h1 : checkF l = 0:=by simpa using h1
  have:=checkF_len h1
  split
  ·have:=keptH_len (hopsF l).1 l
   simp only; omega
  ·simp
theorem itoa_len {n : Int} (h1 : -9223372036854775808≤n) (h2 : n≤9223372036854775807) : (Lib.itoa n).length≤9223372036854775807:=by
 have:=Lib.itoa_length_le n h1 h2; omega
def spWritten : FSpec:=fun _ xs ls K=>∃ (r : Rq) (nl : Bool) (n : Int) (f : Nat→List SV),xs = [.agg [.int .i64 (.a r.id),.str r.method,.str r.target,.str r.host,.sl (.a nl) (.a n) 2 f,.str r.body]]∧ls = []∧RqOk r nl n f∧
 ∀ l e nb n' g,(l,e) = writtenF r→RowH g n' l→nb = (e != 0)→K (.tup [.sl (.a nb) (.a n') 2 g,.int .i64 (.a e)]) []
theorem rowOf (l : List HF) (h : l.length≤9223372036854775807) (hs : ∀ i,i < l.length→(l.getD i default).small) : ∃ g n,RowH g n l:=⟨_,_,RowH.row h hs⟩
theorem small_append {a b : List HF} (h : ∀ i,i < a.length→(a.getD i default).small) (h2 : ∀ i,i < b.length→(b.getD i default).small) : ∀ i,i < (a ++ b).length→((a ++ b).getD i default).small:=by
 intro i hi
 rw [List.length_append] at hi
 rw [List.getD_eq_getElem?_getD,List.getElem?_append]
 split
 ·rename_i h1
  have:=h i h1
  rwa [List.getD_eq_getElem?_getD] at this
 ·rename_i h1
  have:=h2 (i - a.length) (by omega)
  rwa [List.getD_eq_getElem?_getD] at this
theorem stripF_small {l : List HF} (h : ∀ i,i < l.length→(l.getD i default).small) : ∀ i,i < (stripF l).1.length→((stripF l).1.getD i default).small:=by
 unfold stripF
 split
 ·intro i hi; simp at hi
 ·split
  ·exact keptH_small h
  ·intro i hi; simp at hi
theorem finSl {D : Dn} (hD : D = dn) {nb : Bool} {n n2 e : Int} {g g2 : Nat→List SV} {x : BT} {y z : ST} {l : List HF} (h1 : x.den = nb) (R : RowH g2 n2 l) (h2 : y.den = n2) (h3 : z.den = e) (R2 : RowH g n l) :
  Fin (.tup [.sl (.a (D.b x)) (.a (D.i y)) 2 g2,.int .i64 (.a (D.i z))]) (.tup [.sl (.a nb) (.a n) 2 g,.int .i64 (.a e)]) [] []:=by
 subst hD h1 h3
 have hn : n2 = n:=by rw [R.n,R2.n]
 refine finV (LeV.tup (LeL.cons (LeV.sl rfl (by show y.den = n; rw [h2,hn]) fun i hi=>?_) (LeL.refl _)))
 have hi : (i : Int) < y.den:=hi
 have:=R.n
 rw [R.f i (by omega),R2.f i (by omega)]
theorem written_ok : FnOk Tryz.prog gl 111 spWritten:=by
 refine fnOk (gh:=[]) mixed cxOk (tabCons strip_ok (tabCons fmt_ok (tabCons itoa_ok tabNil))) Tryz.func111 (by kernel_rfl) (by kernel_rfl) ?_
 intro xs ls K h
 unfold spWritten at h
 obtain ⟨r,nl,n,f,rfl,rfl,R,h⟩:=h
 obtain ⟨k,hk⟩ : ∃ k,k = writtenF r:=⟨_,rfl⟩
 obtain ⟨kl,ke⟩:=k
 have hs0 : ∀ x : HF,∀ (a b : List UInt8),x = ⟨a,b⟩→a.length≤100→b.length≤9223372036854775807→x.small:=fun x a b e h1 h2=>by subst e; exact ⟨by show a.length≤_; omega,h2⟩
 have hxs : HF.small ⟨sHost,r.host⟩:=hs0 _ _ _ rfl (by decide) R.host
 have hys : HF.small ⟨sXId,Lib.itoa r.id⟩:=hs0 _ _ _ rfl (by decide) (itoa_len R.id1 R.id2)
 have hzs : HF.small ⟨sCL,Lib.itoa r.body.length⟩:=hs0 _ _ _ rfl (by decide) (itoa_len (by omega) (by have:=R.body; omega))
 have hg : ∃ g n',RowH g n' kl:=by
  unfold writtenF at hk
  split at hk
  ·simp only [Prod.mk.injEq] at hk
   rw [hk.1]; exact rowOf [] (by simp) (fun i hi=>absurd hi (by simp))
  ·rename_i h1
   have h1 : (stripF r.fields).2 = 0:=by simpa using h1
   have h2:=stripF_len _ h1
   simp only [Prod.mk.injEq] at hk
   rw [hk.1]
   refine rowOf _ ?_ (small_append (small_append (fun i hi=>?_) (stripF_small R.row.small)) ?_)
   ·simp only [List.length_append]
    split<;>simp<;>omega
   ·match i,hi with
    | 0,_=>exact hxs
    | 1,_=>exact hys
   ·split
    ·intro i hi
     have : i = 0:=by simpa using hi
     subst this; exact hzs
    ·intro i hi; simp at hi
 obtain ⟨g,n2,R2⟩:=hg
 obtain ⟨nb,hnb⟩ : ∃ nb,nb = (ke != 0):=⟨_,rfl⟩
 refine ⟨_,_,h kl ke nb n2 g hk R2 hnb,fun D hD=>?_⟩
 clear h
 obtain ⟨id,me,ta,ho,fs,bo⟩:=r
 simp only at R hxs hys hzs
 unfold writtenF at hk
 simp only at hk
 cbv
 refine ⟨fs,_,_,f,rfl,rfl,by subst hD; exact R.row,by subst hD; exact R.nil,fun l e nb2 n3 g3 hl RR hnb2=>?_⟩
 have hl2:=stripF_len fs
 rw [←hl] at hl2 hk
 simp only at hl2 hk
 have R3:=RR.row
 clear RR hl
 cbv
 refine br hD (fun h=>?_) (fun h=>?_)<;>cbv
 ·have h1 : e≠0:=by simpa using h
  rw [if_pos h1] at hk
  simp only [Prod.mk.injEq] at hk
  obtain ⟨rfl,rfl⟩:=hk
  exact finSl hD (by rw [hnb]; simp [h1]) (l:=[]) ⟨rfl,fun i hi=>absurd hi (by simp),by simp,fun i hi=>absurd hi (by simp)⟩ rfl rfl R2
 have h1 : e = 0:=by simpa using h
 rw [if_neg (by simp [h1])] at hk
 have hl3:=hl2 h1
 clear h hl2
 refine ⟨_,_,rfl,rfl,by subst hD; exact R.id1,by subst hD; exact R.id2,by subst hD; rfl,fun ids hids=>?_⟩
 cbv
 have hids : ids = Lib.itoa id:=by subst hD; exact hids
 rw [←hids] at hk hys
 clear hids
 intro f2 hf2
 cbv
 have hR2 : RowH f2 2 [⟨sHost,ho⟩,⟨sXId,ids⟩]:=RowH.two (hf2.h 0 _ rfl) (hf2.h 1 _ rfl) hxs hys
 clear hf2
 have hn3:=R3.n
 refine ⟨?_,fun f4 n4 hm=>?_⟩
 ·subst hD
  refine ⟨rfl,?_,?_⟩
  ·show ((2 : Int) + n3) * 32≤140737488355328
   omega
  ·show (2 : Int) + n3≤9223372036854775807
   omega
 cbv
 have R4 : RowH f4 n4 ([⟨sHost,ho⟩,⟨sXId,ids⟩] ++ l):=hR2.app R3 (by subst hD; exact hm) (by simp only [List.length_cons,List.length_nil]; omega)
 clear hm hR2 hn3
 have hl4 : (([⟨sHost,ho⟩,⟨sXId,ids⟩] : List HF) ++ l).length≤102:=by simp; omega
 obtain ⟨l4,hl4e⟩ : ∃ l4,l4 = ([⟨sHost,ho⟩,⟨sXId,ids⟩] : List HF) ++ l:=⟨_,rfl⟩
 rw [←hl4e] at hk R4 hl4
 clear hl4e
 refine br hD (fun h=>?_) (fun h=>?_)<;>cbv
 ·have hb : hasBody ⟨id,me,ta,ho,fs,bo⟩ = true:=h
  rw [if_pos hb] at hk
  clear h hb
  refine ⟨_,rfl,rfl,by subst hD; show -9223372036854775808≤(bo.length : Int); omega,by subst hD; show (bo.length : Int)≤_; have:=R.body; simp only at this; omega,fun bs hbs=>?_⟩
  cbv
  have hbs : bs = Lib.itoa (bo.length : Int):=by subst hD; exact hbs
  rw [←hbs] at hk hzs
  clear hbs
  intro f5 hf5
  cbv
  have hR5 : RowH f5 1 [⟨sCL,bs⟩]:=RowH.one (hf5.h 0 _ rfl) hzs
  clear hf5
  refine ⟨by subst hD; exact ⟨rfl,by have:=R4.n; show (n4 + 1) * 32≤_; omega,by have:=R4.n; show n4 + 1≤_; omega⟩,fun f6 n6 hm=>?_⟩
  cbv
  have R6 : RowH f6 n6 (l4 ++ [⟨sCL,bs⟩]):=R4.app hR5 (by subst hD; exact hm) (by simp only [List.length_cons,List.length_nil]; omega)
  clear hm
  simp only [Prod.mk.injEq] at hk
  obtain ⟨hq1,hq2⟩:=hk
  subst hq1 hq2
  exact finSl hD (by rw [hnb]; rfl) R6 rfl rfl R2
 ·have hb : hasBody ⟨id,me,ta,ho,fs,bo⟩ = false:=h
  rw [if_neg (by rw [hb]; simp),List.append_nil] at hk
  simp only [Prod.mk.injEq] at hk
  obtain ⟨hq1,hq2⟩:=hk
  subst hq1 hq2
  exact finSl hD (by rw [hnb]; rfl) R4 rfl rfl R2
end Go.Proofs.YtefelnhpfdcleaaGreatDoor
namespace Go.Proofs.YtefelnhpfdcleaaGreatDoor
open Go Go.Sx Go.ChangeShapes Go.WideShapes Go.RowKit
set_option maxRecDepth 100000
abbrev StD:={s : List UInt8 // s.length≤maxLen}
abbrev I64D:={n : Int // (Lit.int .i64 n).wf = true}
abbrev HfD:=StD×StD×Unit
def hfC (x : HfD) : List SV:=[.str x.1.1] ++ ([.str x.2.1.1] ++ [])
abbrev FsD:={x : Bool×List HfD // x.2.length≤maxLen∧(x.1 = true→x.2 = [])}
abbrev RqD:=I64D×StD×StD×StD×FsD×StD×Unit
def rqC (x : RqD) : List SV:=[.int .i64 (.a x.1.1)] ++ ([.str x.2.1.1] ++ ([.str x.2.2.1.1] ++ ([.str x.2.2.2.1.1] ++ (slC 2 hfC x.2.2.2.2.1.1 ++ ([.str x.2.2.2.2.2.1.1] ++ [])))))
theorem open2 : OpenT Tryz.prog 2 (fun n : I64D=>[.int .i64 (.a n.1)]):=.intB Tryz.underlying2
theorem open69 : OpenT Tryz.prog 69 hfC:=.struct (fs:=[(0,9),(1,9)]) (len:=2) Tryz.underlying69 (by rfl) (by kernel_rfl) (OpenF.cons 0 1 1 (by kernel_rfl) open9 (OpenF.cons 1 1 0 (by kernel_rfl) open9 OpenF.nil))
theorem open29 : OpenT Tryz.prog 29 (fun x : FsD=>slC 2 hfC x.1):=.sliceN Tryz.underlying29 (by kernel_rfl) (by decide) open69
theorem open31 : OpenT Tryz.prog 31 rqC:=.struct (fs:=[(0,2),(1,9),(2,9),(3,9),(4,29),(5,9)]) (len:=6) Tryz.underlying31 (by rfl) (by kernel_rfl)
 (OpenF.cons 0 1 5 (by kernel_rfl) open2 (OpenF.cons 1 1 4 (by kernel_rfl) open9 (OpenF.cons 2 1 3 (by kernel_rfl) open9 (OpenF.cons 3 1 2 (by kernel_rfl) open9 (OpenF.cons 4 1 1 (by kernel_rfl) open29 (OpenF.cons 5 1 0 (by kernel_rfl) open9 OpenF.nil))))))
def hfOf (x : HfD) : HF:=⟨x.1.1,x.2.1.1⟩
def rqOf (x : RqD) : Rq:=⟨x.1.1,x.2.1.1,x.2.2.1.1,x.2.2.2.1.1,x.2.2.2.2.1.1.2.map hfOf,x.2.2.2.2.2.1.1⟩
theorem strD_fit (x : StD) : x.1.length≤9223372036854775807:=Nat.le_trans x.2 (by decide)
theorem rowH_of (l : List HfD) (h : l.length≤maxLen) : RowH (rowOfL hfC l) (l.length : Int) (l.map hfOf):=by
 refine ⟨by rw [List.length_map],fun i hi=>?_,by rw [List.length_map]; exact Nat.le_trans h (by decide),fun i hi=>?_⟩
 ·rw [List.length_map] at hi
  unfold rowOfL
  rw [List.getElem?_eq_getElem hi,List.getD_eq_getElem?_getD,List.getElem?_map,List.getElem?_eq_getElem hi]; rfl
 ·rw [List.length_map] at hi
  rw [List.getD_eq_getElem?_getD,List.getElem?_map,List.getElem?_eq_getElem hi]
  exact ⟨strD_fit l[i].1,strD_fit l[i].2.1⟩
def rqF (x : RqD) : Nat→List SV:=rowOfL hfC x.2.2.2.2.1.1.2
theorem rqOk_of (x : RqD) : RqOk (rqOf x) x.2.2.2.2.1.1.1 (x.2.2.2.2.1.1.2.length : Int) (rqF x):=by
 have hw:=x.1.2
 simp only [Lit.wf,Bool.and_eq_true,decide_eq_true_eq] at hw
 refine ⟨?_,?_,strD_fit _,strD_fit _,strD_fit _,strD_fit _,rowH_of _ x.2.2.2.2.1.2.1,fun e=>?_⟩
 ·exact hw.1
 ·exact hw.2
 ·show List.map hfOf _ = []
  rw [x.2.2.2.2.1.2.2 e]; rfl
def rq31 (x : RqD) : SV:=.agg (rqC x)
end Go.Proofs.YtefelnhpfdcleaaGreatDoor
namespace Go.Proofs.YtefelnhpfdcleaaGreatDoor
open Go Go.Sx
set_option maxRecDepth 100000
set_option maxHeartbeats 8000000
theorem val_09 {c : Int} (h : 48≤c∧c≤57) : valueI c = c - 48:=by unfold valueI; rw [if_pos h]
theorem val_AF {c : Int} (h : 65≤c∧c≤70) : valueI c = c - 55:=by unfold valueI; rw [if_neg (by omega),if_pos h]
theorem val_af {c : Int} (h : 97≤c∧c≤102) : valueI c = c - 87:=by unfold valueI; rw [if_neg (by omega),if_neg (by omega),if_pos h]
theorem val_no {c : Int} (h1 : ¬ (48≤c∧c≤57)) (h2 : ¬ (65≤c∧c≤70)) (h3 : ¬ (97≤c∧c≤102)) : valueI c = -1:=by unfold valueI; rw [if_neg h1,if_neg h2,if_neg h3]
theorem hex_ok : FnOk Tryz.prog gl 82 spValue:=by
 refine fnOk (gh:=[]) mixed cxOk tabNil Tryz.func82 (by kernel_rfl) (by kernel_rfl) ?_
 intro xs ls K h
 unfold spValue at h
 obtain ⟨c,rfl,rfl,hc,h⟩:=h
 obtain ⟨k,hk⟩ : ∃ k,k = valueI c:=⟨_,rfl⟩
 refine ⟨_,_,h k hk,fun D hD=>?_⟩
 cbv
 clear h
 have w : ∀ n : Int,-1000≤n→n≤1000→IntKind.i64.wrap n = n:=fun n a b=>wrap64 (by omega) (by omega)
 refine br hD (fun h=>?_) (fun h=>?_)<;>cbv
 ·have h2 : 48≤c∧c≤57:=by simpa using h
  refine finInt hD ?_
  rw [hk,val_09 h2]
  show IntKind.i64.wrap (IntKind.u8.wrap (c - 48)) = _
  rw [wrap8 (by omega) (by omega),w _ (by omega) (by omega)]
 have h2 : ¬ (48≤c∧c≤57):=by simpa using h
 clear h
 refine br hD (fun h=>?_) (fun h=>?_)<;>cbv
 ·have h3 : 97≤c∧c≤102:=by simpa using h
  refine finInt hD ?_
  rw [hk,val_af h3]
  show IntKind.i64.wrap (IntKind.i64.wrap (IntKind.u8.wrap (c - 97)) + 10) = _
  rw [wrap8 (by omega) (by omega),w (c - 97) (by omega) (by omega),w _ (by omega) (by omega)]
  omega
 have h3 : ¬ (97≤c∧c≤102):=by simpa using h
 clear h
 refine br hD (fun h=>?_) (fun h=>?_)<;>cbv
 ·have h4 : 65≤c∧c≤70:=by simpa using h
  refine finInt hD ?_
  rw [hk,val_AF h4]
  show IntKind.i64.wrap (IntKind.i64.wrap (IntKind.u8.wrap (c - 65)) + 10) = _
  rw [wrap8 (by omega) (by omega),w (c - 65) (by omega) (by omega),w _ (by omega) (by omega)]
  omega
 have h4 : ¬ (65≤c∧c≤70):=by simpa using h
 refine finInt hD ?_
 rw [hk,val_no h2 h4 h3]; rfl
def plainC (c : Int) : Bool:=decide (kindN c.toNat = 1)
def spPlainR : FSpec:=fun _ xs ls K=>∃ (c : Int),xs = [.int .u8 (.a c)]∧ls = []∧(0≤c∧c≤255)∧∀ r,r = plainC c→K (.bool (.a r)) []
theorem plainC_iff {c : Int} (hc : 0≤c∧c≤255) : plainC c = true↔((((((97≤c∧c≤122)∨(65≤c∧c≤90))∨(48≤c∧c≤57))∨c = 45)∨c = 46)∨c = 95)∨c = 126:=by
 unfold plainC kindN
 rw [decide_eq_true_eq]
 split
 ·constructor
  ·intro _; omega
  ·intro _; rfl
 ·split
  ·constructor
   ·intro h; cases h
   ·intro _; omega
  ·constructor
   ·intro h; cases h
   ·intro _; omega
theorem plainR_ok : FnOk Tryz.prog gl 76 spPlainR:=by
 refine fnOk (gh:=[]) mixed cxOk tabNil Tryz.func76 (by kernel_rfl) (by kernel_rfl) ?_
 intro xs ls K h
 unfold spPlainR at h
 obtain ⟨c,rfl,rfl,hc,h⟩:=h
 obtain ⟨k,hk⟩ : ∃ k,k = plainC c:=⟨_,rfl⟩
 refine ⟨_,_,h k hk,fun D hD=>?_⟩
 cbv
 clear h
 refine finBool hD ?_
 rw [hk,Bool.eq_iff_iff,plainC_iff hc]
 show (((((((decide (97≤c) && decide (c≤122)) || (decide (65≤c) && decide (c≤90))) || (decide (48≤c) && decide (c≤57))) || (c == 45)) || (c == 46)) || (c == 95)) || (c == 126)) = true↔_
 simp only [Bool.or_eq_true,Bool.and_eq_true,decide_eq_true_eq,beq_iff_eq]
def amongF (c : Int) (s : List UInt8) : Bool:=s.any fun b=>((b.toNat : Int) == c)
def spAmong : FSpec:=fun _ xs ls K=>∃ (c : Int) (s : List UInt8),xs = [.int .u8 (.a c),.str s]∧ls = []∧s.length≤9223372036854775807∧∀ r,r = amongF c s→K (.bool (.a r)) []
def amJ (c : Int) (s : List UInt8) (k : Bool) (m : Nat) (vs : List (Option SV)) (hp : List Hl) : Prop :=
 ∃ (i : Nat) (I : Int),vs = [some (.int .u8 (.a c)),some (.str s),some (.int .i64 (.a I))]∧hp = []∧At s i I m∧k = amongF c (s.drop i)
theorem among_ok : FnOk Tryz.prog gl 77 spAmong:=by
 refine fnOk (gh:=[]) mixed cxOk tabNil Tryz.func77 (by kernel_rfl) (by kernel_rfl) ?_
 intro xs ls K h
 unfold spAmong at h
 obtain ⟨c,s,rfl,rfl,hs,h⟩:=h
 obtain ⟨k,hk⟩ : ∃ k,k = amongF c s:=⟨_,rfl⟩
 refine ⟨_,_,h k hk,fun D hD=>?_⟩
 cbv
 clear h
 obtain ⟨J,hJ⟩ : ∃ J,J = amJ c s k:=⟨_,rfl⟩
 refine ⟨[0,1,5],J,⟨rfl,s.length,?_⟩,?_⟩
 ·rw [hJ]
  subst hD
  exact ⟨0,0,rfl,rfl,At.zero hs,hk⟩
 intro m vs hp hv
 rw [hJ] at hv
 unfold amJ at hv
 obtain ⟨i,I,rfl,rfl,V,hk2⟩:=hv
 clear hk
 cbv
 refine br hD (fun h=>?_) (fun h=>?_)<;>cbv
 ·have hlt:=V.lt (of_decide_eq_true (p:=I < (s.length : Int)) h)
  clear h
  rw [drop_at hlt] at hk2
  refine ⟨V.inS hD hlt,fun b hb=>?_⟩
  cbv
  have hb2:=charOf hD V.I hb
  have hst:=V.step hD hlt
  refine br hD (fun h=>?_) (fun h=>?_)<;>cbv
  ·have h : (b == c) = true:=h
   refine finBool hD ?_
   rw [hk2]
   show true = (((s.getD i 0).toNat : Int) == c || amongF c _)
   have h3:=hb2.charI
   unfold charI at h3
   rw [←h3,h]; rfl
  ·have h : (b == c) = false:=h
   refine ⟨_,hst.1,?_⟩
   rw [hJ]
   unfold amJ
   subst hD
   refine ⟨i + 1,_,rfl,rfl,hst.2,?_⟩
   rw [hk2]
   show (((s.getD i 0).toNat : Int) == c || amongF c _) = _
   have h3:=hb2.charI
   unfold charI at h3
   rw [←h3,h,Bool.false_or]
 have he:=V.eq (of_decide_eq_false (p:=I < (s.length : Int)) h)
 refine finBool hD ?_
 rw [hk2,List.drop_eq_nil_of_le (by omega)]; rfl
def spEncd : FSpec:=fun _ xs ls K=>∃ (s : List UInt8) (i : Nat) (I : Int),xs = [.str s,.int .i64 (.a I)]∧ls = []∧I = i∧s.length≤1000000∧i≤s.length∧∀ r,r = escAt s i→K (.bool (.a r)) []
structure EnV (s : List UInt8) (i : Nat) (I : Int) : Prop where
 I : I = i
 len : s.length≤1000000
 le : i≤s.length
theorem encoded_ok : FnOk Tryz.prog gl 75 spEncd:=by
 refine fnOk (gh:=[]) mixed cxOk (tabCons hex_ok tabNil) Tryz.func75 (by kernel_rfl) (by kernel_rfl) ?_
 intro xs ls K h
 unfold spEncd at h
 obtain ⟨s,i,I,rfl,rfl,hI,hs,hi,h⟩:=h
 obtain ⟨k,hk⟩ : ∃ k,k = escAt s i:=⟨_,rfl⟩
 have V : EnV s i I:=⟨hI,hs,hi⟩
 clear hI hs hi
 refine ⟨_,_,h k hk,fun D hD=>?_⟩
 cbv
 clear h
 have w1 : IntKind.i64.wrap (I + 1) = I + 1:=by have:=V.I; have:=V.len; have:=V.le; exact wrap64 (by omega) (by omega)
 have w2 : IntKind.i64.wrap (I + 2) = I + 2:=by have:=V.I; have:=V.len; have:=V.le; exact wrap64 (by omega) (by omega)
 have hlt : decide (IntKind.i64.wrap (I + 2) < (s.length : Int)) = true→i + 2 < s.length:=fun hg=>by
  have h:=of_decide_eq_true hg
  rw [w2] at h
  have:=V.I; omega
 refine ⟨fun hg=>?_,fun c hc=>?_⟩
 ·subst hD
  have:=hlt hg
  exact ⟨by show 0≤I; have:=V.I; omega,by show I < _; have:=V.I; omega⟩
 cbv
 have hc2 : CharAt c s i:=charOf hD V.I hc
 clear hc
 refine ⟨fun hg=>?_,fun x hx=>?_⟩
 ·subst hD
  have hg : (decide (IntKind.i64.wrap (I + 2) < (s.length : Int)) && (c == 37)) = true:=hg
  have:=hlt (Bool.and_eq_true_iff.1 hg).1
  exact ⟨by show 0≤IntKind.i64.wrap (I + 1); rw [w1]; have:=V.I; omega,by show IntKind.i64.wrap (I + 1) < _; rw [w1]; have:=V.I; omega⟩
 cbv
 have hx2 : CharAt x s (i + 1):=byteAt hD (e:=.bin .add .i64 (.a I) (.l 1)) (by show IntKind.i64.wrap (I + 1) = _; rw [w1,V.I]; rfl) hx
 clear hx
 refine ⟨_,rfl,rfl,by subst hD; exact hx2.le,fun a ha=>?_⟩
 cbv
 have ha : a = valueI x:=by subst hD; exact ha
 refine ⟨fun hg=>?_,fun y hy=>?_⟩
 ·subst hD
  have hg : ((decide (IntKind.i64.wrap (I + 2) < (s.length : Int)) && (c == 37)) && decide (0≤a)) = true:=hg
  have:=hlt (Bool.and_eq_true_iff.1 (Bool.and_eq_true_iff.1 hg).1).1
  exact ⟨by show 0≤IntKind.i64.wrap (I + 2); rw [w2]; have:=V.I; omega,by show IntKind.i64.wrap (I + 2) < _; rw [w2]; have:=V.I; omega⟩
 cbv
 have hy2 : CharAt y s (i + 2):=byteAt hD (e:=.bin .add .i64 (.a I) (.l 2)) (by show IntKind.i64.wrap (I + 2) = _; rw [w2,V.I]; rfl) hy
 clear hy
 refine ⟨_,rfl,rfl,by subst hD; exact hy2.le,fun b hb=>?_⟩
 cbv
 have hb : b = valueI y:=by subst hD; exact hb
 refine finBool hD ?_
 rw [hk]
 show (((decide (IntKind.i64.wrap (I + 2) < (s.length : Int)) && (c == 37)) && decide (0≤a)) && decide (0≤b)) = _
 have hP : hexP s i↔(i + 2 < s.length∧c = 37∧0≤a∧0≤b):=by
  unfold hexP
  rw [←hc2.charI,←hx2.charI,←hy2.charI,←ha,←hb]
 unfold escAt
 rw [w2,Bool.eq_iff_iff]
 simp only [Bool.and_eq_true,decide_eq_true_eq,beq_iff_eq]
 rw [hP]
 have:=V.I
 constructor
 ·rintro ⟨⟨⟨h1,h2⟩,h3⟩,h4⟩; exact ⟨by omega,h2,h3,h4⟩
 ·rintro ⟨h1,h2,h3,h4⟩; exact ⟨⟨⟨by omega,h2⟩,h3⟩,h4⟩
end Go.Proofs.YtefelnhpfdcleaaGreatDoor
namespace Go.Proofs.YtefelnhpfdcleaaGreatDoor
open Go Go.Sx
set_option maxRecDepth 100000
set_option maxHeartbeats 16000000
def amS : List UInt8:=[33,36,38,39,40,41,42,43,44,59,61,58,64,47]
theorem kind_am : ∀ c : Fin 256,(!plainC (c.1 : Int) && !amongF (c.1 : Int) amS) = decide (kindN c.1 = 0):=by decide +kernel
theorem kind_am2 {c : Int} (h : 0≤c∧c≤255) : (!plainC c && !amongF c amS) = decide (kindN c.toNat = 0):=by
 have:=kind_am ⟨c.toNat,by omega⟩
 have e : ((c.toNat : Nat) : Int) = c:=by omega
 simp only [e] at this
 exact this
theorem plus3 {s : List UInt8} {i : Nat} {I : Int} {m : Nat} (V : At s i I m) (h : i < s.length) (hl : s.length≤1000000) : IntKind.i64.wrap (IntKind.i64.wrap (I + 2) + 1) = ((i + 3 : Nat) : Int):=by
 have:=V.I; rw [wrap64 (n:=I + 2) (by omega) (by omega),wrap64 (by omega) (by omega)]; omega
def tgJ (s : List UInt8) (k : Option Nat) (m : Nat) (vs : List (Option SV)) (hp : List Hl) : Prop :=
 ∃ (i e : Nat) (I E : Int),vs = [some (.str s),some (.int .i64 (.a E)),some (.int .i64 (.a I))]∧hp = []∧OrgJ s k i e I E m
theorem pre47 (s : List UInt8) : Lib.hasPrefix s [47] = decide (s≠[]∧charI s 0 = 47):=by
 cases s with
 | nil=>rfl
 | cons b r =>
  rw [Bool.eq_iff_iff]
  simp only [Lib.hasPrefix,List.isPrefixOf,Bool.and_true,beq_iff_eq,decide_eq_true_eq,ne_eq,reduceCtorEq,not_false_eq_true,true_and]
  unfold charI
  simp only [List.getD_cons_zero]
  constructor
  ·intro h; rw [←h]; rfl
  ·intro h
   have : b.toNat = 47:=by omega
   exact (UInt8.toNat_inj.1 this).symm
theorem refTarget_ok : FnOk Tryz.prog gl 37 spOrg:=by
 refine fnOk (gh:=[]) mixed cxOk (tabCons encoded_ok (tabCons plainR_ok (tabCons among_ok tabNil))) Tryz.func37 (by kernel_rfl) (by kernel_rfl) ?_
 intro xs ls K h
 unfold spOrg at h
 obtain ⟨s,rfl,rfl,hs,h⟩:=h
 obtain ⟨k,hk⟩ : ∃ k,k = orgF s:=⟨_,rfl⟩
 obtain ⟨ke,kr⟩:=k
 refine ⟨_,_,h ke kr hk,fun D hD=>?_⟩
 cbv
 clear h
 unfold orgF at hk
 refine br hD (fun h=>?_) (fun h=>?_)<;>cbv
 ·have h2 : 500 < s.length:=by have h : decide ((500 : Int) < (s.length : Int)) = true:=h; simp only [decide_eq_true_eq] at h; omega
  rw [if_pos h2] at hk
  simp only [Prod.mk.injEq] at hk
  exact finII hD hk.1.symm hk.2.symm
 have hlen : s.length≤500:=by have h : decide ((500 : Int) < (s.length : Int)) = false:=h; simp only [decide_eq_false_iff_not] at h; omega
 rw [if_neg (by omega),pre47] at hk
 clear h
 refine ⟨fun hg=>?_,fun c hc=>?_⟩
 ·subst hD
  have hg : (!(s == [])) = true:=hg
  have hg : (s == []) = false:=by simpa only [Bool.not_eq_true'] using hg
  have hne : s≠[]:=fun e=>by rw [e] at hg; cases hg
  exact ⟨by decide,by show (0 : Int) < _; have:=List.length_pos_iff.2 hne; omega⟩
 cbv
 have hc2 : CharAt c s 0:=by subst hD; exact ⟨hc.h⟩
 rw [←hc2.charI] at hk
 clear hc
 refine br hD (fun h=>?_) (fun h=>?_)<;>cbv
 ·have h2 : ((s == []) || (c != 47)) = true:=h
  rw [if_pos (by
   simp only [Bool.or_eq_true,beq_iff_eq,bne_iff_ne,ne_eq] at h2
   simp only [Bool.not_eq_true',decide_eq_false_iff_not,not_and]
   rintro h3 h4
   rcases h2 with h2 | h2
   ·exact h3 h2
   ·exact h2 h4)] at hk
  simp only [Prod.mk.injEq] at hk
  exact finII hD hk.1.symm hk.2.symm
 have h2 : ((s == []) || (c != 47)) = false:=h
 rw [if_neg (by
   simp only [Bool.or_eq_false_iff,beq_eq_false_iff_ne,bne_eq_false_iff_eq,ne_eq] at h2
   simp only [Bool.not_eq_true',decide_eq_false_iff_not]
   exact fun h=>h h2)] at hk
 clear h h2 hc2
 obtain ⟨kk,hkk⟩ : ∃ kk,kk = orgL s 0 s.length:=⟨_,rfl⟩
 rw [←hkk] at hk
 obtain ⟨J,hJ⟩ : ∃ J,J = tgJ s kk:=⟨_,rfl⟩
 refine ⟨[0,4,5],J,⟨rfl,s.length,?_⟩,?_⟩
 ·rw [hJ]
  subst hD
  exact ⟨0,s.length,_,_,rfl,rfl,At.zero hs,rfl,hkk,hlen⟩
 clear hkk
 intro m vs hp hj
 rw [hJ] at hj
 obtain ⟨i,e,I,E,rfl,rfl,V⟩:=hj
 cbv
 refine br hD (fun h=>?_) (fun h=>?_)<;>cbv
 ·have hlt:=V.lie.lt (of_decide_eq_true (p:=I < (s.length : Int)) h)
  clear h
  refine ⟨V.lie.inS hD hlt,fun c hc=>?_⟩
  cbv
  have hc2 : CharAt c s i:=charOf hD V.lie.I hc
  clear hc
  refine br hD (fun h=>?_) (fun h=>?_)<;>cbv
  ·have h2 : c = 63:=by have h : (c == 63) = true:=h; exact eq_of_beq h
   have he : escAt s i = false:=by
    unfold escAt; rw [decide_eq_false]
    rintro ⟨_,h3,_⟩
    rw [←hc2.charI,h2] at h3
    cases h3
   have hmin:=orgL_mark (e:=e) hlt he (by rw [←hc2.charI]; exact h2)
   intro mn hmn
   cbv
   have hmn2 : mn = min E I:=by subst hD; exact hmn.h
   clear hmn
   refine ⟨s.length - (i + 1),by have:=V.lie.m; omega,?_⟩
   rw [hJ]
   unfold tgJ
   subst hD
   refine ⟨i + 1,min e i,_,_,rfl,rfl,(V.lie.step rfl hlt).2,?_,by rw [V.k,hmin],hlen⟩
   have:=V.lie.I; have:=V.E
   show mn = _
   rw [hmn2]; omega
  have h2 : c≠63:=by have h : (c == 63) = false:=h; simpa using h
  clear h
  refine ⟨s,i,I,by subst hD; rfl,rfl,V.lie.I,by omega,by omega,fun b hb=>?_⟩
  cbv
  refine br hD (fun h=>?_) (fun h=>?_)<;>cbv
  ·have h3 : escAt s i = true:=by rw [←hb]; exact h
   have h4:=escAt_len h3
   refine ⟨s.length - (i + 3),by have:=V.lie.m; omega,?_⟩
   rw [hJ]
   unfold tgJ
   subst hD
   exact ⟨i + 3,e,_,_,rfl,rfl,⟨by omega,plus3 V.lie hlt (by omega),rfl,V.lie.len⟩,V.E,by rw [V.k,orgL_esc hlt h3],hlen⟩
  have he : escAt s i = false:=by rw [←hb]; exact h
  clear h hb
  refine ⟨V.lie.inS hD hlt,fun d hd=>?_⟩
  cbv
  have hdc : d = c:=by rw [(charOf hD V.lie.I hd).h,hc2.h]
  subst hdc
  clear hd
  refine ⟨_,rfl,rfl,by subst hD; exact hc2.le,fun p hp=>?_⟩
  cbv
  have hp : p = plainC d:=by subst hD; exact hp
  refine ⟨fun _=>V.lie.inS hD hlt,fun d2 hd2=>?_⟩
  cbv
  have hdc : d2 = d:=by rw [(charOf hD V.lie.I hd2).h,hc2.h]
  subst hdc
  clear hd2
  refine ⟨_,[33,36,38,39,40,41,42,43,44,59,61,58,64,47],rfl,rfl,by decide,fun q hq=>?_⟩
  cbv
  have hq : q = amongF d2 amS:=by subst hD; exact hq
  have hkn:=kind_am2 hc2.le
  rw [←hp,←hq] at hkn
  clear hp hq
  have hcc:=hc2.charI
  refine br hD (fun h=>?_) (fun h=>?_)<;>cbv
  ·have h : (!p && !q) = true:=h
   rw [hkn] at h
   rw [V.k,orgL_bad hlt he (by rw [←hcc]; exact h2) (by rw [←hcc]; exact of_decide_eq_true h)] at hk
   simp only [Prod.mk.injEq] at hk
   exact finII hD hk.1.symm hk.2.symm
  ·have h : (!p && !q) = false:=h
   rw [hkn] at h
   refine ⟨s.length - (i + 1),by have:=V.lie.m; omega,?_⟩
   rw [hJ]
   unfold tgJ
   subst hD
   exact ⟨i + 1,e,_,_,rfl,rfl,(V.lie.step rfl hlt).2,V.E,by rw [V.k,orgL_more hlt he (by rw [←hcc]; exact h2) (by rw [←hcc]; exact of_decide_eq_false h)],hlen⟩
 have hi:=V.lie.eq (of_decide_eq_false (p:=I < (s.length : Int)) h)
 clear h
 rw [V.k,orgL_end hi] at hk
 simp only [Prod.mk.injEq] at hk
 exact finII hD (by rw [hk.1]; exact V.E) hk.2.symm
end Go.Proofs.YtefelnhpfdcleaaGreatDoor
namespace Go.Proofs.YtefelnhpfdcleaaGreatDoor
open Go Go.Sx
set_option maxRecDepth 100000
set_option maxHeartbeats 4000000
def preB (s p : List UInt8) : Bool:=decide (p.length≤s.length) && (s.take p.length == p)
def trimPreF (s p : List UInt8) : List UInt8:=if preB s p then s.drop p.length else s
structure Two (s p : List UInt8) : Prop where
 s : s.length≤9223372036854775807
 p : p.length≤9223372036854775807
def spPre : FSpec:=fun _ xs ls K=>∃ (s p : List UInt8),xs = [.str s,.str p]∧ls = []∧Two s p∧∀ r,r = preB s p→K (.bool (.a r)) []
theorem pre104_ok : FnOk Tryz.prog gl 104 spPre:=by
 refine fnOk (gh:=[]) mixed cxOk tabNil Tryz.func104 (by kernel_rfl) (by kernel_rfl) ?_
 intro xs ls K h
 unfold spPre at h
 obtain ⟨s,p,rfl,rfl,T,h⟩:=h
 obtain ⟨k,hk⟩ : ∃ k,k = preB s p:=⟨_,rfl⟩
 refine ⟨_,_,h k hk,fun D hD=>?_⟩
 clear h
 cbv
 refine ⟨fun hg=>?_,fun r hr=>?_⟩
 ·subst hD
  have hg : decide ((p.length : Int)≤(s.length : Int)) = true:=hg
  simp only [decide_eq_true_eq] at hg
  exact ⟨Int.le_refl _,by show (0 : Int)≤p.length; omega,by show (p.length : Int)≤s.length; exact hg⟩
 cbv
 have hr2 : r = s.take p.length:=by
  have h1 : r = (s.drop 0).take ((p.length : Int).toNat - 0):=by subst hD; exact hr.h
  rw [h1]; simp
 refine finBool hD ?_
 rw [hk,preB,←hr2]
 have : decide ((p.length : Int)≤(s.length : Int)) = decide (p.length≤s.length):=by rw [decide_eq_decide]; omega
 rw [←this]; rfl
def spTrimPre : FSpec:=fun _ xs ls K=>∃ (s p : List UInt8),xs = [.str s,.str p]∧ls = []∧Two s p∧∀ r,r = trimPreF s p→K (.str r) []
theorem trimPre166_ok : FnOk Tryz.prog gl 166 spTrimPre:=by
 refine fnOk (gh:=[]) mixed cxOk (tabCons pre104_ok tabNil) Tryz.func166 (by kernel_rfl) (by kernel_rfl) ?_
 intro xs ls K h
 unfold spTrimPre at h
 obtain ⟨s,p,rfl,rfl,T,h⟩:=h
 obtain ⟨k,hk⟩ : ∃ k,k = trimPreF s p:=⟨_,rfl⟩
 refine ⟨_,_,h k hk,fun D hD=>?_⟩
 cbv
 clear h
 unfold trimPreF at hk
 refine ⟨s,p,rfl,rfl,T,fun b hb=>?_⟩
 cbv
 have hle : b = true→p.length≤s.length:=by
  rw [hb,preB]; simp only [Bool.and_eq_true,decide_eq_true_eq]; exact fun h=>h.1
 rw [←hb] at hk
 clear hb
 refine br hD (fun h=>?_) (fun h=>?_)<;>cbv
 ·have h1 : b = true:=h
  rw [if_pos h1] at hk
  have hle:=hle h1
  refine ⟨by subst hD; exact ⟨by show (0 : Int)≤p.length; omega,by show (p.length : Int)≤s.length; omega,Int.le_refl _⟩,fun r hr=>?_⟩
  cbv
  have hr2 : r = s.drop p.length:=by
   have h1 : r = (s.drop (p.length : Int).toNat).take ((s.length : Int).toNat - (p.length : Int).toNat):=by subst hD; exact hr.h
   have h2 : (p.length : Int).toNat = p.length:=Int.toNat_natCast _
   rw [h1,h2,List.take_of_length_le (by rw [List.length_drop]; omega)]
  exact finStr (by rw [hr2,hk])
 ·have h1 : b = false:=h
  rw [if_neg (by rw [h1]; simp)] at hk
  exact finStr hk.symm
theorem trimPre_ok : FnOk Tryz.prog gl 147 spTrimPre:=by
 refine fnOk (gh:=[]) mixed cxOk (tabCons trimPre166_ok tabNil) Tryz.func147 (by kernel_rfl) (by kernel_rfl) ?_
 intro xs ls K h
 unfold spTrimPre at h
 obtain ⟨s,p,rfl,rfl,T,h⟩:=h
 obtain ⟨k,hk⟩ : ∃ k,k = trimPreF s p:=⟨_,rfl⟩
 refine ⟨_,_,h k hk,fun D hD=>?_⟩
 cbv
 clear h
 refine ⟨s,p,rfl,rfl,T,fun b hb=>?_⟩
 cbv
 exact finStr (by rw [hb,hk])
def digS : List UInt8:=[48,49,50,51,52,53,54,55,56,57]
def decF (s : List UInt8) : Bool :=
 if trimPreF s [45] = []∨Lib.trimS (trimPreF s [45]) digS≠[] then false else ((trimPreF s [45]).getD 0 0 != 48) || (s == [48])
def spDec : FSpec:=fun _ xs ls K=>∃ (s : List UInt8),xs = [.str s]∧ls = []∧s.length≤100000∧∀ r,r = decF s→K (.bool (.a r)) []
theorem dec_ok : FnOk Tryz.prog gl 125 spDec:=by
 refine fnOk (gh:=[]) mixed cxOk (tabCons trimPre_ok (tabCons trim64_ok tabNil)) Tryz.func125 (by kernel_rfl) (by kernel_rfl) ?_
 intro xs ls K h
 unfold spDec at h
 obtain ⟨s,rfl,rfl,hs,h⟩:=h
 obtain ⟨k,hk⟩ : ∃ k,k = decF s:=⟨_,rfl⟩
 refine ⟨_,_,h k hk,fun D hD=>?_⟩
 cbv
 clear h
 unfold decF at hk
 refine ⟨s,[45],rfl,rfl,⟨by omega,by decide⟩,fun t ht=>?_⟩
 cbv
 have htl : t.length≤100000:=by
  rw [ht,trimPreF]
  split
  ·rw [List.length_drop]; omega
  ·exact hs
 rw [←ht] at hk
 clear ht
 refine ⟨t,digS,rfl,rfl,by omega,by decide,by decide,fun u hu=>?_⟩
 cbv
 rw [←hu] at hk
 clear hu
 refine br hD (fun h=>?_) (fun h=>?_)<;>cbv
 ·have h1 : t = []∨u≠[]:=by
   have h : ((t == []) || !(u == [])) = true:=h
   simpa using h
  rw [if_pos h1] at hk
  exact finBool hD (by rw [hk]; rfl)
 have h1 : ¬ (t = []∨u≠[]):=by
  have h : ((t == []) || !(u == [])) = false:=h
  simpa using h
 rw [if_neg h1] at hk
 have hpos : 1≤t.length:=by
  cases t with
  | nil=>exact absurd (.inl rfl) h1
  | cons a b=>simp
 clear h h1
 refine ⟨by subst hD; exact ⟨Int.le_refl _,by show (0 : Int) < t.length; omega⟩,fun c hc=>?_⟩
 cbv
 have hc2 : c = ((t.getD 0 0).toNat : Int):=by subst hD; exact hc.h
 refine finBool hD ?_
 rw [hk]
 have : (c != 48) = (t.getD 0 0 != 48):=by
  rw [hc2]
  rw [Bool.eq_iff_iff]
  simp only [bne_iff_ne,ne_eq]
  constructor
  ·intro h e; apply h; rw [e]; rfl
  ·intro h e; apply h
   have : (t.getD 0 0).toNat = 48:=by exact_mod_cast e
   exact UInt8.toNat_inj.1 this
 rw [←this]; rfl
def intF (s : List UInt8) (lo hi : Int) : Int×Int :=
 if !decF s then (0,6) else if (pInt s).2 = false∨(pInt s).1 < lo∨hi < (pInt s).1 then (0,7) else ((pInt s).1,0)
theorem digits_ok (M : Nat) : ∀ (l : List UInt8) (acc : Nat),(∀ c∈l,48≤c.toNat∧c.toNat≤57)→fair (Lib.parseUintM M acc l) = true
 | [],acc,_=>by simp [Lib.parseUintM,fair]
 | c :: r,acc,h=>by
  unfold Lib.parseUintM
  rw [if_pos (h c (List.mem_cons_self ..))]
  split
  ·rfl
  ·split
   ·rfl
   ·exact digits_ok M r _ fun d hd=>h d (List.mem_cons_of_mem _ hd)
theorem dig_in (c : UInt8) : digS.contains c = true↔48≤c.toNat∧c.toNat≤57:=by
 have : ∀ n : Fin 256,digS.contains (UInt8.ofNat n.1) = true↔48≤n.1∧n.1≤57:=by decide
 have h:=this ⟨c.toNat,c.toNat_lt⟩
 simpa using h
theorem dropWhile_twice (p : UInt8→Bool) : ∀ l : List UInt8,(l.dropWhile p).dropWhile p = l.dropWhile p
 | []=>rfl
 | c :: r=>by
  by_cases h : p c = true
  ·rw [List.dropWhile_cons_of_pos h,dropWhile_twice p r]
  ·rw [List.dropWhile_cons_of_neg h,List.dropWhile_cons_of_neg h]
theorem dropWhile_nil (p : UInt8→Bool) : ∀ l : List UInt8,l.dropWhile p = []↔∀ x∈l,p x = true
 | []=>by simp
 | c :: r=>by
  by_cases h : p c = true
  ·rw [List.dropWhile_cons_of_pos h,dropWhile_nil p r]
   simp [h]
  ·rw [List.dropWhile_cons_of_neg h]
   simp [h]
theorem trimS_nil {l cs : List UInt8} (h : Lib.trimS l cs = []) : ∀ c∈l,cs.contains c = true:=by
 have h : ((l.reverse.dropWhile (fun x=>cs.contains x)).reverse).dropWhile (fun x=>cs.contains x) = []:=h
 rw [dropWhile_nil] at h
 have h2 : (l.reverse.dropWhile (fun x=>cs.contains x)).dropWhile (fun x=>cs.contains x) = []:=by
  rw [dropWhile_nil]
  exact fun x hx=>h x (List.mem_reverse.2 hx)
 rw [dropWhile_twice,dropWhile_nil] at h2
 exact fun c hc=>h2 c (List.mem_reverse.2 hc)
theorem parseU_ok {l : List UInt8} (h0 : l≠[]) (h : ∀ c∈l,48≤c.toNat∧c.toNat≤57) : fair (Lib.parseUintB 64 l) = true:=by
 unfold Lib.parseUintB
 rw [if_neg h0]
 exact digits_ok _ l 0 h
theorem parseI_ok {c : UInt8} {r : List UInt8} (h : fair (Lib.parseUintB 64 (if c.toNat = 43∨c.toNat = 45 then r else c :: r)) = true) : fair (Lib.parseIntB 64 (c :: r)) = true:=by
 unfold Lib.parseIntB
 simp only
 rcases hp : Lib.parseUintB 64 (if c.toNat = 43∨c.toNat = 45 then r else c :: r) with u | _ | _
 ·simp only
  split
  ·rfl
  ·split<;>rfl
 ·rw [hp] at h
  cases h
 ·rfl
theorem decF_ok {s : List UInt8} (h : decF s = true) : fair (Lib.parseIntB 64 s) = true:=by
 unfold decF at h
 split at h
 ·cases h
 ·rename_i h1
  have h2 : trimPreF s [45]≠[]:=fun e=>h1 (.inl e)
  have h3 : Lib.trimS (trimPreF s [45]) digS = []:=by
   rcases Decidable.em (Lib.trimS (trimPreF s [45]) digS = []) with e | e
   ·exact e
   ·exact absurd (.inr e) h1
  have h4 : ∀ c∈trimPreF s [45],48≤c.toNat∧c.toNat≤57:=fun c hc=>(dig_in c).1 (trimS_nil h3 c hc)
  clear h h1 h3
  unfold trimPreF at h2 h4
  cases s with
  | nil=>split at h2<;>simp at h2
  | cons c r =>
   refine parseI_ok ?_
   by_cases hp : preB (c :: r) [45] = true
   ·rw [if_pos hp] at h2 h4
    have hc : c = 45:=by
     unfold preB at hp
     simp at hp
     exact hp
    subst hc
    simp only [List.length_cons,List.length_nil,List.drop_succ_cons,List.drop_zero] at h2 h4
    rw [if_pos (by decide)]
    exact parseU_ok h2 h4
   ·rw [if_neg hp] at h2 h4
    have:=h4 c (List.mem_cons_self ..)
    rw [if_neg (by omega)]
    exact parseU_ok h2 h4
structure IntA (s : List UInt8) (lo hi : Int) : Prop where
 len : s.length≤100000
def spInt : FSpec:=fun _ xs ls K=>∃ (s : List UInt8) (lo hi : Int),xs = [.str s,.int .i64 (.a lo),.int .i64 (.a hi)]∧ls = []∧s.length≤100000∧∀ v e,(v,e) = intF s lo hi→K (.tup [.int .i64 (.a v),.int .i64 (.a e)]) []
theorem finI2 {D : Dn} (hD : D = dn) {e r : Int} {x y : ST} (h1 : x.den = e) (h2 : y.den = r) : Fin (.tup [.int .i64 (.a (D.i x)),.int .i64 (.a (D.i y))]) (.tup [.int .i64 (.a e),.int .i64 (.a r)]) [] []:=by
 subst hD h1 h2; exact finV (LeV.refl _)
theorem int_ok : FnOk Tryz.prog gl 95 spInt:=by
 refine fnOk (gh:=[]) mixed cxOk (tabCons dec_ok (tabCons pInt_ok tabNil)) Tryz.func95 (by kernel_rfl) (by kernel_rfl) ?_
 intro xs ls K h
 unfold spInt at h
 obtain ⟨s,lo,hi,rfl,rfl,hs,h⟩:=h
 obtain ⟨k,hk⟩ : ∃ k,k = intF s lo hi:=⟨_,rfl⟩
 obtain ⟨kv,ke⟩:=k
 refine ⟨_,_,h kv ke hk,fun D hD=>?_⟩
 cbv
 clear h
 unfold intF at hk
 refine ⟨s,rfl,rfl,hs,fun d hd=>?_⟩
 cbv
 have hdo : d = true→fair (Lib.parseIntB 64 s) = true:=fun h=>decF_ok (by rw [←hd]; exact h)
 rw [←hd] at hk
 clear hd
 refine br hD (fun h=>?_) (fun h=>?_)<;>cbv
 ·have h1 : (!d) = true:=h
  rw [if_pos h1] at hk
  simp only [Prod.mk.injEq] at hk
  exact finI2 hD hk.1.symm hk.2.symm
 have h1 : (!d) = false:=h
 rw [if_neg (by rw [h1]; simp)] at hk
 have hsy:=hdo (by simpa using h1)
 clear h h1 hdo
 refine ⟨s,_,_,rfl,rfl,⟨by subst hD; rfl,by subst hD; rfl,hs,hsy⟩,fun v e hve=>?_⟩
 cbv
 rw [←hve] at hk
 simp only at hk
 clear hve hsy
 refine br hD (fun h=>?_) (fun h=>?_)<;>cbv
 ·have h1 : e = false∨v < lo∨hi < v:=by
   have h : ((!e || decide (v < lo)) || decide (hi < v)) = true:=h
   simp only [Bool.or_eq_true,Bool.not_eq_true',decide_eq_true_eq] at h
   rcases h with (h | h) | h
   ·exact .inl h
   ·exact .inr (.inl h)
   ·exact .inr (.inr h)
  rw [if_pos h1] at hk
  simp only [Prod.mk.injEq] at hk
  exact finI2 hD hk.1.symm hk.2.symm
 ·have h1 : ¬ (e = false∨v < lo∨hi < v):=by
   have h : ((!e || decide (v < lo)) || decide (hi < v)) = false:=h
   simp only [Bool.or_eq_false_iff,Bool.not_eq_false',decide_eq_false_iff_not] at h
   rintro (h2 | h2 | h2)
   ·rw [h2] at h; exact absurd h.1.1 (by simp)
   ·exact h.1.2 h2
   ·exact h.2 h2
  rw [if_neg h1] at hk
  simp only [Prod.mk.injEq] at hk
  exact finI2 hD hk.1.symm hk.2.symm
def numberF (s : List UInt8) (hi : Int) : Int×Int:=if Lib.hasPrefix s [45] then (0,6) else intF s 0 hi
def spNumber : FSpec:=fun _ xs ls K=>∃ (s : List UInt8) (hi : Int),xs = [.str s,.int .i64 (.a hi)]∧ls = []∧s.length≤100000∧∀ v e,(v,e) = numberF s hi→K (.tup [.int .i64 (.a v),.int .i64 (.a e)]) []
theorem number_ok : FnOk Tryz.prog gl 55 spNumber:=by
 refine fnOk (gh:=[]) mixed cxOk (tabCons hasPre_ok (tabCons int_ok tabNil)) Tryz.func55 (by kernel_rfl) (by kernel_rfl) ?_
 intro xs ls K h
 unfold spNumber at h
 obtain ⟨s,hi,rfl,rfl,hs,h⟩:=h
 obtain ⟨k,hk⟩ : ∃ k,k = numberF s hi:=⟨_,rfl⟩
 obtain ⟨kv,ke⟩:=k
 refine ⟨_,_,h kv ke hk,fun D hD=>?_⟩
 cbv
 clear h
 unfold numberF at hk
 refine ⟨s,[45],rfl,rfl,fun b hb=>?_⟩
 cbv
 rw [←hb] at hk
 clear hb
 refine br hD (fun h=>?_) (fun h=>?_)<;>cbv
 ·have h1 : b = true:=h
  rw [if_pos h1] at hk
  simp only [Prod.mk.injEq] at hk
  exact finI2 hD hk.1.symm hk.2.symm
 ·have h1 : b = false:=h
  rw [if_neg (by rw [h1]; simp)] at hk
  refine ⟨s,_,_,rfl,rfl,hs,fun v e hve=>?_⟩
  cbv
  have hve : (v,e) = intF s 0 hi:=by subst hD; exact hve
  rw [←hve] at hk
  simp only [Prod.mk.injEq] at hk
  exact finI2 hD hk.1.symm hk.2.symm
end Go.Proofs.YtefelnhpfdcleaaGreatDoor
namespace Go.Proofs.YtefelnhpfdcleaaGreatDoor
open Go Go.Sx
set_option maxRecDepth 100000
set_option maxHeartbeats 4000000
theorem RowU.sub {f f' : Nat→List SV} {n n' : Int} {t : List UInt8} {a b : Nat} {A B : Int} (R : RowU f n t) (h : SubRow f' n' f A B) (hA : A = a) (hB : B = b) (hab : a≤b) (hb : b≤t.length) : RowU f' n' ((t.drop a).take (b - a)):=by
 refine ⟨by rw [h.len,hA,hB,List.length_take,List.length_drop]; omega,fun i hi=>?_⟩
 rw [List.length_take,List.length_drop] at hi
 rw [h.row i (i + a) (by rw [hA]; omega),R.f (i + a) (by omega)]
 rw [List.getD_eq_getElem?_getD,List.getD_eq_getElem?_getD,List.getElem?_take,if_pos (by omega),List.getElem?_drop,Nat.add_comm a i]
theorem cutF_len' (c : UInt8) (s : List UInt8) : (cutF c s).1.length≤s.length∧(cutF c s).2.1.length≤s.length:=by
 induction s with
 | nil=>exact ⟨Nat.le_refl _,Nat.le_refl _⟩
 | cons b r ih=>unfold cutF; split<;>simp<;>omega
def rVer : List UInt8:=[32,72,84,84,80,47,49,46,49,13,10]
def lineBad (is both : Bool) (m t : List UInt8) (has : Bool) : Bool:=(((!is || !both) || m == []) || t == []) || has
def readLineF (b : List UInt8) : List UInt8×List UInt8×Int×Int :=
 if !(cutF 10 (b.take 1024)).2.2 && decide (b.length < 1024) then ([],[],0,10) else if !(cutF 10 (b.take 1024)).2.2 then ([],[],0,3) else
 if lineBad (Lib.hasSuffix ((cutF 10 (b.take 1024)).1 ++ [10]) rVer) (cutF 32 (Lib.trimSuffix ((cutF 10 (b.take 1024)).1 ++ [10]) rVer)).2.2 (cutF 32 (Lib.trimSuffix ((cutF 10 (b.take 1024)).1 ++ [10]) rVer)).1 (cutF 32 (Lib.trimSuffix ((cutF 10 (b.take 1024)).1 ++ [10]) rVer)).2.1 (decide (0≤Lib.indexByte (cutF 32 (Lib.trimSuffix ((cutF 10 (b.take 1024)).1 ++ [10]) rVer)).2.1 32)) then ([],[],0,6) else
 ((cutF 32 (Lib.trimSuffix ((cutF 10 (b.take 1024)).1 ++ [10]) rVer)).1,(cutF 32 (Lib.trimSuffix ((cutF 10 (b.take 1024)).1 ++ [10]) rVer)).2.1,((cutF 10 (b.take 1024)).1.length : Int) + 1,0)
def spReadLine : FSpec:=fun _ xs ls K=>∃ (b : List UInt8) (nl : Bool) (n : Int) (f : Nat→List SV),xs = [.sl (.a nl) (.a n) 1 f]∧ls = []∧RowU f n b∧b.length≤1000000∧∀ m t k e,(m,t,k,e) = readLineF b→K (.tup [.str m,.str t,.int .i64 (.a k),.int .i64 (.a e)]) []
theorem finRL {D : Dn} (hD : D = dn) {m t m' t' : List UInt8} {k e : Int} {x y : ST} (h1 : m' = m) (h2 : t' = t) (h3 : x.den = k) (h4 : y.den = e) : Fin (.tup [.str m',.str t',.int .i64 (.a (D.i x)),.int .i64 (.a (D.i y))]) (.tup [.str m,.str t,.int .i64 (.a k),.int .i64 (.a e)]) [] []:=by
 subst hD h1 h2 h3 h4; exact finV (LeV.refl _)
theorem readLine_ok : FnOk Tryz.prog gl 52 spReadLine:=by
 refine fnOk (gh:=[]) mixed cxOk (tabCons cut_ok (tabCons cutSuf_ok (tabCons cont1_ok tabNil))) Tryz.func52 (by kernel_rfl) (by kernel_rfl) ?_
 intro xs ls K h
 unfold spReadLine at h
 obtain ⟨b,nl,n,f,rfl,rfl,R,hb,h⟩:=h
 obtain ⟨k,hk0⟩ : ∃ k,k = readLineF b:=⟨_,rfl⟩
 obtain ⟨km,kt,kk,ke⟩:=k
 have hk:=hk0
 unfold readLineF at hk
 obtain ⟨s0,hs0⟩ : ∃ s,s = b.take 1024:=⟨_,rfl⟩
 rw [←hs0] at hk
 obtain ⟨c1,hc1⟩ : ∃ s,s = cutF 10 s0:=⟨_,rfl⟩
 rw [←hc1] at hk
 have hcl:=cutF_len' 10 s0
 rw [←hc1] at hcl
 obtain ⟨ca,cb,ct⟩:=c1
 simp only at hk hcl
 have hs0l : s0.length≤1024:=by rw [hs0,List.length_take]; omega
 refine ⟨_,_,h km kt kk ke hk0,fun D hD=>?_⟩
 cbv
 clear h hk0
 intro mn hmn
 cbv
 have hmn2 : VI mn (min b.length 1024):=⟨by
  have h1 : mn = min n 1024:=by subst hD; exact hmn.h
  have:=R.n
  rw [h1,this]; omega⟩
 clear hmn
 refine ⟨by subst hD; exact ⟨Int.le_refl _,by show (0 : Int)≤mn; rw [hmn2.h]; omega,by show mn≤n; rw [hmn2.h,R.n]; omega⟩,fun f1 n1 hsub=>?_⟩
 cbv
 have R1 : RowU f1 n1 s0:=by
  have:=R.sub (a:=0) (b:=min b.length 1024) hsub (by subst hD; rfl) (by subst hD; exact hmn2.h) (by omega) (by omega)
  rw [hs0]
  have e : (b.drop 0).take (min b.length 1024 - 0) = b.take 1024:=by
   rw [List.drop_zero,Nat.sub_zero]
   rcases Nat.le_total b.length 1024 with h | h
   ·rw [Nat.min_eq_left h,List.take_of_length_le (Nat.le_refl _),List.take_of_length_le h]
   ·rw [Nat.min_eq_right h]
  rw [e] at this; exact this
 clear hsub
 refine ⟨by subst hD; exact R1.byte,fun r hr=>?_⟩
 cbv
 have hr2 : r = s0:=by subst hD; exact R1.str hr
 clear hr
 refine ⟨r,10,rfl,rfl,by rw [hr2]; omega,fun a x t hat=>?_⟩
 cbv
 rw [hr2,←hc1] at hat
 simp only [Prod.mk.injEq] at hat
 obtain ⟨hq1,hq2,hq3⟩:=hat
 subst hq1 hq2 hq3
 clear hc1 hr2
 refine br hD (fun h=>?_) (fun h=>?_)<;>cbv
 ·have h1 : (!t && decide (b.length < 1024)) = true:=by
   have h : (!t && decide (n < 1024)) = true:=h
   have e : decide (n < 1024) = decide (b.length < 1024):=by rw [decide_eq_decide,R.n]; omega
   rw [←e]; exact h
  rw [if_pos h1] at hk
  simp only [Prod.mk.injEq] at hk
  exact finRL hD hk.1.symm hk.2.1.symm hk.2.2.1.symm hk.2.2.2.symm
 have h1 : (!t && decide (b.length < 1024)) = false:=by
  have h : (!t && decide (n < 1024)) = false:=h
  have e : decide (n < 1024) = decide (b.length < 1024):=by rw [decide_eq_decide,R.n]; omega
  rw [←e]; exact h
 rw [if_neg (by rw [h1]; simp)] at hk
 clear h h1
 refine br hD (fun h=>?_) (fun h=>?_)<;>cbv
 ·have h1 : (!t) = true:=h
  rw [if_pos h1] at hk
  simp only [Prod.mk.injEq] at hk
  exact finRL hD hk.1.symm hk.2.1.symm hk.2.2.1.symm hk.2.2.2.symm
 have h1 : (!t) = false:=h
 rw [if_neg (by rw [h1]; simp)] at hk
 have hal : a.length≤1024:=by omega
 clear h h1
 refine ⟨⟨by simp only [List.length_cons,List.length_nil]; omega⟩,fun s1 hs1=>?_⟩
 cbv
 have hs1 : s1 = a ++ [10]:=hs1.h
 rw [←hs1] at hk
 have hs1l : s1.length≤1025:=by rw [hs1]; simp; omega
 clear hs1
 refine ⟨s1,rVer,rfl,rfl,by omega,fun s2 is2 hs2 his2=>?_⟩
 cbv
 rw [←hs2,←his2] at hk
 have hs2l : s2.length≤1025:=by
  rw [hs2,Lib.trimSuffix]
  split
  ·rw [List.length_take]; omega
  ·exact hs1l
 clear hs2 his2
 refine ⟨s2,32,rfl,rfl,by omega,fun me ta bo hmt=>?_⟩
 cbv
 rw [←hmt] at hk
 simp only at hk
 clear hmt
 refine ⟨ta,32,rfl,rfl,fun cc hcc=>?_⟩
 cbv
 rw [←hcc] at hk
 clear hcc
 have hwr : IntKind.i64.wrap ((a.length : Int) + 1) = (a.length : Int) + 1:=wrap64 (by omega) (by omega)
 refine br hD (fun h=>?_) (fun h=>?_)<;>cbv
 ·have h1 : lineBad is2 bo me ta cc = true:=h
  rw [if_pos h1] at hk
  simp only [Prod.mk.injEq] at hk
  exact finRL hD hk.1.symm hk.2.1.symm hk.2.2.1.symm hk.2.2.2.symm
 ·have h1 : lineBad is2 bo me ta cc = false:=h
  rw [if_neg (by rw [h1]; simp)] at hk
  simp only [Prod.mk.injEq] at hk
  refine finRL hD hk.1.symm hk.2.1.symm ?_ hk.2.2.2.symm
  rw [hk.2.2.1]
  have hwr : IntKind.i64.wrap ((a.length : Int) + 1) = (a.length : Int) + 1:=wrap64 (by omega) (by omega)
  exact hwr
end Go.Proofs.YtefelnhpfdcleaaGreatDoor
namespace Go.Proofs.YtefelnhpfdcleaaGreatDoor
open Go Go.Sx
set_option maxRecDepth 100000
set_option maxHeartbeats 8000000
structure Fr where
 hosts : List (List UInt8)
 ids : List (List UInt8)
 lens : List (List UInt8)
 coded : Bool
 rest : List HF
def nHost : List UInt8:=[104,111,115,116]
def nId : List UInt8:=[120,45,114,101,113,117,101,115,116,45,105,100]
def nLen : List UInt8:=[99,111,110,116,101,110,116,45,108,101,110,103,116,104]
def nTE : List UInt8:=[116,114,97,110,115,102,101,114,45,101,110,99,111,100,105,110,103]
def frStep (r : Fr) (x : HF) : Fr :=
 if foldF x.name = nHost then { r with hosts:=r.hosts ++ [x.value] } else
 if foldF x.name = nId then { r with ids:=r.ids ++ [x.value] } else
 if foldF x.name = nLen then { r with lens:=r.lens ++ [x.value] } else
 if foldF x.name = nTE then { r with coded:=true } else { r with rest:=r.rest ++ [x] }
def frameF (l : List HF) : Fr:=l.foldl frStep ⟨[],[],[],false,[]⟩
structure GrS (f : Nat→List SV) (n : Int) (nl : Bool) (l : List (List UInt8)) : Prop where
 row : RowS f n l
 nl : nl = l.isEmpty
structure GrH (f : Nat→List SV) (n : Int) (nl : Bool) (l : List HF) : Prop where
 row : RowH f n l
 nl : nl = l.isEmpty
structure FrV (r : Fr) (f1 f2 f3 f4 : Nat→List SV) (n1 n2 n3 n4 : Int) (b1 b2 b3 b4 : Bool) : Prop where
 g1 : GrS f1 n1 b1 r.hosts
 g2 : GrS f2 n2 b2 r.ids
 g3 : GrS f3 n3 b3 r.lens
 g4 : GrH f4 n4 b4 r.rest
def spFrame : FSpec:=fun _ xs ls K=>∃ (l : List HF) (nl : Bool) (n : Int) (f : Nat→List SV),xs = [.sl (.a nl) (.a n) 2 f]∧ls = []∧RowH f n l∧l.length≤100∧
 ∀ r f1 f2 f3 f4 n1 n2 n3 n4 b1 b2 b3 b4,r = frameF l→FrV r f1 f2 f3 f4 n1 n2 n3 n4 b1 b2 b3 b4→K (.agg [.sl (.a b1) (.a n1) 1 f1,.sl (.a b2) (.a n2) 1 f2,.sl (.a b3) (.a n3) 1 f3,.bool (.a r.coded),.sl (.a b4) (.a n4) 2 f4]) []
structure FrJ (l : List HF) (k r : Fr) (f1 f2 f3 f4 : Nat→List SV) (n1 n2 n3 n4 : Int) (b1 b2 b3 b4 : Bool) (i : Nat) (I : Int) (m : Nat) : Prop where
 lie : AtR l i I m
 v : FrV r f1 f2 f3 f4 n1 n2 n3 n4 b1 b2 b3 b4
 k : k = (l.drop i).foldl frStep r
 len : r.hosts.length + r.ids.length + r.lens.length + r.rest.length≤i
def z80 : List SV:=[.sl (.a true) (.a 0) 1 (fun _=>[]),.sl (.a true) (.a 0) 1 (fun _=>[]),.sl (.a true) (.a 0) 1 (fun _=>[]),.bool (.a false),.sl (.a true) (.a 0) 2 (fun _=>[])]
def frJ (l : List HF) (k : Fr) (nl : Bool) (n : Int) (f : Nat→List SV) (m : Nat) (vs : List (Option SV)) (hp : List Hl) : Prop :=
 ∃ (r : Fr) (f1 f2 f3 f4 : Nat→List SV) (n1 n2 n3 n4 : Int) (b1 b2 b3 b4 c : Bool) (i : Nat) (I : Int),vs = [some (.ptr 0 0),some (.ptr 1 0),some (.sl (.a nl) (.a n) 2 f),some (.int .i64 (.a n)),some (.int .i64 (.a I))]∧
  hp = [.blk 80 z80,.blk 80 [.gsl (.a b1) (.a n1) 1 f1 2,.gsl (.a b2) (.a n2) 1 f2 3,.gsl (.a b3) (.a n3) 1 f3 4,.bool (.a c),.gsl (.a b4) (.a n4) 2 f4 5],.tail 9 (.a n1) 1,.tail 9 (.a n2) 1,.tail 9 (.a n3) 1,.tail 69 (.a n4) 2]∧c = r.coded∧FrJ l k r f1 f2 f3 f4 n1 n2 n3 n4 b1 b2 b3 b4 i I m
theorem nilRow' : RowH (fun _=>[]) 0 []:=⟨rfl,fun i hi=>absurd hi (by simp),by simp,fun i hi=>absurd hi (by simp)⟩
theorem GrS.nil : GrS (fun _=>[]) 0 true []:=⟨RowS.nil,rfl⟩
theorem GrH.nil : GrH (fun _=>[]) 0 true []:=⟨nilRow',rfl⟩
theorem GrS.more {f f' g : Nat→List SV} {n n' : Int} {nl nl' : Bool} {l : List (List UInt8)} {x : List UInt8} (G : GrS f n nl l) (hg : g 0 = [.str x]) (h : MoreRow f' n' n 1 f g) (hl : l.length≤100) (hb : nl' = false) : GrS f' n' nl' (l ++ [x]):=⟨G.row.more hg h (by omega),by rw [hb]; simp⟩
theorem GrH.more {f f' g : Nat→List SV} {n n' : Int} {nl nl' : Bool} {l : List HF} {x : HF} (G : GrH f n nl l) (hg : g 0 = hfCells x) (hs : x.small) (h : MoreRow f' n' n 1 f g) (hl : l.length≤100) (hb : nl' = false) : GrH f' n' nl' (l ++ [x]) :=
 ⟨G.row.app (RowH.one hg hs) h (by simp only [List.length_cons,List.length_nil]; omega),by rw [hb]; simp⟩
theorem RowH.smallM {f : Nat→List SV} {n : Int} {l : List HF} (R : RowH f n l) (x : HF) (hx : x∈l) : x.small:=by
 obtain ⟨k,hk,e⟩:=List.mem_iff_getElem.1 hx
 have:=R.small k hk
 rwa [List.getD_eq_getElem?_getD,List.getElem?_eq_getElem hk,Option.getD_some,e] at this
theorem frame_len : ∀ (l : List HF) (r : Fr),(∀ x∈l,x.small)→(∀ x∈r.rest,x.small)→
  (l.foldl frStep r).hosts.length≤r.hosts.length + l.length∧(l.foldl frStep r).ids.length≤r.ids.length + l.length∧(l.foldl frStep r).lens.length≤r.lens.length + l.length∧(l.foldl frStep r).rest.length≤r.rest.length + l.length∧∀ x∈(l.foldl frStep r).rest,x.small
 | [],r,_,h=>⟨Nat.le_refl _,Nat.le_refl _,Nat.le_refl _,Nat.le_refl _,h⟩
 | x :: l,r,hl,h=>by
  have hx:=hl x (List.mem_cons_self ..)
  have step : (frStep r x).hosts.length≤r.hosts.length + 1∧(frStep r x).ids.length≤r.ids.length + 1∧(frStep r x).lens.length≤r.lens.length + 1∧(frStep r x).rest.length≤r.rest.length + 1∧∀ y∈(frStep r x).rest,y.small:=by
   unfold frStep
   split
   ·exact ⟨by simp,by simp,by simp,by simp,h⟩
   ·split
    ·exact ⟨by simp,by simp,by simp,by simp,h⟩
    ·split
     ·exact ⟨by simp,by simp,by simp,by simp,h⟩
     ·split
      ·exact ⟨by simp,by simp,by simp,by simp,h⟩
      ·refine ⟨by simp,by simp,by simp,by simp,fun y hy=>?_⟩
       simp only [List.mem_append,List.mem_singleton] at hy
       rcases hy with hy | rfl
       ·exact h y hy
       ·exact hx
  obtain ⟨s1,s2,s3,s4,s5⟩:=step
  obtain ⟨t1,t2,t3,t4,t5⟩:=frame_len l (frStep r x) (fun y hy=>hl y (List.mem_cons_of_mem _ hy)) s5
  simp only [List.foldl_cons,List.length_cons]
  exact ⟨by omega,by omega,by omega,by omega,t5⟩
theorem leGrS {f f2 : Nat→List SV} {n n2 : Int} {b b2 : Bool} {l : List (List UInt8)} {x : BT} {y : ST} (G : GrS f n b l) (G2 : GrS f2 n2 b2 l) (hx : x.den = b:=by rfl) (hy : y.den = n:=by rfl) : LeV (.sl x y 1 f) (.sl (.a b2) (.a n2) 1 f2):=by
 refine LeV.sl (by rw [hx,G.nl,G2.nl.symm]; rfl) (by rw [hy,G.row.n,G2.row.n.symm]; rfl) fun i hi=>?_
 rw [hy] at hi
 have:=G.row.n
 rw [G.row.f i (by omega),G2.row.f i (by omega)]
theorem leGrH {f f2 : Nat→List SV} {n n2 : Int} {b b2 : Bool} {l : List HF} {x : BT} {y : ST} (G : GrH f n b l) (G2 : GrH f2 n2 b2 l) (hx : x.den = b:=by rfl) (hy : y.den = n:=by rfl) : LeV (.sl x y 2 f) (.sl (.a b2) (.a n2) 2 f2):=by
 refine LeV.sl (by rw [hx,G.nl,G2.nl.symm]; rfl) (by rw [hy,G.row.n,G2.row.n.symm]; rfl) fun i hi=>?_
 rw [hy] at hi
 have:=G.row.n
 rw [G.row.f i (by omega),G2.row.f i (by omega)]
theorem frame_ok : FnOk Tryz.prog gl 54 spFrame:=by
 refine fnOkG (gh:=[(1,[.hold 3 0 9,.hold 3 1 9,.hold 3 2 9,.hold 3 4 69])]) mixed cxOk (tabCons fold_ok tabNil) Tryz.func54 (by kernel_rfl) (by kernel_rfl) ?_
 intro xs ls K h
 unfold spFrame at h
 obtain ⟨l,nl,n,f,rfl,rfl,R,hl,h⟩:=h
 obtain ⟨k,hk⟩ : ∃ k,k = frameF l:=⟨_,rfl⟩
 have hk0 : k = l.foldl frStep ⟨[],[],[],false,[]⟩:=hk
 have hV : ∃ f1 f2 f3 f4 n1 n2 n3 n4 b1 b2 b3 b4,FrV k f1 f2 f3 f4 n1 n2 n3 n4 b1 b2 b3 b4:=by
  obtain ⟨L1,L2,L3,L4,L5⟩:=frame_len l ⟨[],[],[],false,[]⟩ (fun x hx=>R.smallM x hx) (fun x hx=>by cases hx)
  rw [←hk0] at L1 L2 L3 L4 L5
  simp only [List.length_nil] at L1 L2 L3 L4
  exact ⟨_,_,_,_,_,_,_,_,_,_,_,_,⟨RowS.row (by omega),rfl⟩,⟨RowS.row (by omega),rfl⟩,⟨RowS.row (by omega),rfl⟩,⟨RowH.row (by omega) (fun i hi=>L5 _ (by rw [List.getD_eq_getElem?_getD,List.getElem?_eq_getElem hi]; exact List.getElem_mem hi)),rfl⟩⟩
 obtain ⟨f1,f2,f3,f4,n1,n2,n3,n4,b1,b2,b3,b4,hV⟩:=hV
 obtain ⟨J,hJ⟩ : ∃ J,J = frJ l k nl n f:=⟨_,rfl⟩
 refine ⟨_,_,h k f1 f2 f3 f4 n1 n2 n3 n4 b1 b2 b3 b4 hk hV,fun D hD=>?_⟩
 cbv
 clear h
 refine ⟨[2,3,6,7,8],J,⟨rfl,l.length,?_⟩,?_⟩
 ·rw [hJ]
  subst hD
  exact ⟨⟨[],[],[],false,[]⟩,_,_,_,_,_,_,_,_,_,_,_,_,_,0,_,rfl,rfl,rfl,⟨AtR.zero R.len,⟨GrS.nil,GrS.nil,GrS.nil,GrH.nil⟩,hk,Nat.le_refl _⟩⟩
 clear hk hk0
 intro m vs hp hj
 rw [hJ] at hj
 obtain ⟨r,e1,e2,e3,e4,m1,m2,m3,m4,c1,c2,c3,c4,c,i,I,rfl,rfl,hc,V⟩:=hj
 cbv
 refine br hD (fun h=>?_) (fun h=>?_)<;>cbv
 ·have hlt:=V.lie.lt R.n (of_decide_eq_true (p:=I < n) h)
  clear h
  refine ⟨V.lie.inB hD R.n hlt,fun j hj=>?_⟩
  obtain rfl:=V.lie.j hD hj
  clear hj
  have q1:=R.f j hlt
  have hsm:=R.small j hlt
  have hk2:=V.k
  rw [dropR (d:=default) hlt] at hk2
  obtain ⟨x,hx⟩ : ∃ x,x = l.getD j default:=⟨_,rfl⟩
  rw [←hx] at q1 hk2 hsm
  obtain ⟨a,b⟩:=x
  cbv
  rw [q1]
  cbv
  refine ⟨a,rfl,rfl,hsm.1,fun t ht=>?_⟩
  cbv
  have ht : t = foldF a:=ht
  rw [List.foldl_cons,frStep] at hk2
  simp only at hk2
  rw [←ht] at hk2
  clear ht
  refine br hD (fun h=>?_) (fun h=>?_)<;>cbv
  ·have h1 : t = nHost:=eq_of_beq (show (t == nHost) = true from h)
   rw [if_pos h1] at hk2
   clear h h1
   intro g hg
   cbv
   have hg0 : g 0 = [.str b]:=hg.h 0 _ rfl
   clear hg
   have hln : r.hosts.length≤100:=by have:=V.len; have:=V.lie.le; omega
   have hN : m1 = (r.hosts.length : Int):=V.v.g1.row.n
   refine ⟨by subst hD; exact ⟨rfl,by show (m1 + 1) * 16≤_; omega,by show m1 + 1≤_; omega⟩,fun f' n' hm=>?_⟩
   cbv
   have G2 : ∀ nl',nl' = false→GrS f' n' nl' (r.hosts ++ [b]):=fun nl' hb=>V.v.g1.more hg0 (by subst hD; exact hm) (by omega) hb
   clear hm hN
   obtain ⟨y1,y2⟩:=V.lie.step hD hlt
   refine ⟨_,y1,?_⟩
   rw [hJ]
   unfold frJ
   subst hD
   refine ⟨⟨r.hosts ++ [b],r.ids,r.lens,r.coded,r.rest⟩,f',e2,e3,e4,n',m2,m3,m4,_,c2,c3,c4,c,j + 1,_,rfl,rfl,hc,⟨y2,⟨G2 _ (Bool.and_false _),V.v.g2,V.v.g3,V.v.g4⟩,hk2,by have:=V.len; simp only [List.length_append,List.length_cons,List.length_nil]; omega⟩⟩
  have h1 : ¬ t = nHost:=by
   have h : (t == nHost) = false:=h
   intro e; rw [e] at h; simp at h
  rw [if_neg h1] at hk2
  clear h h1
  refine br hD (fun h=>?_) (fun h=>?_)<;>cbv
  ·have h1 : t = nId:=eq_of_beq (show (t == nId) = true from h)
   rw [if_pos h1] at hk2
   clear h h1
   intro g hg
   cbv
   have hg0 : g 0 = [.str b]:=hg.h 0 _ rfl
   clear hg
   have hln : r.ids.length≤100:=by have:=V.len; have:=V.lie.le; omega
   have hN : m2 = (r.ids.length : Int):=V.v.g2.row.n
   refine ⟨by subst hD; exact ⟨rfl,by show (m2 + 1) * 16≤_; omega,by show m2 + 1≤_; omega⟩,fun f' n' hm=>?_⟩
   cbv
   have G2 : ∀ nl',nl' = false→GrS f' n' nl' (r.ids ++ [b]):=fun nl' hb=>V.v.g2.more hg0 (by subst hD; exact hm) (by omega) hb
   clear hm hN
   obtain ⟨y1,y2⟩:=V.lie.step hD hlt
   refine ⟨_,y1,?_⟩
   rw [hJ]
   unfold frJ
   subst hD
   refine ⟨⟨r.hosts,r.ids ++ [b],r.lens,r.coded,r.rest⟩,e1,f',e3,e4,m1,n',m3,m4,c1,_,c3,c4,c,j + 1,_,rfl,rfl,hc,⟨y2,⟨V.v.g1,G2 _ (Bool.and_false _),V.v.g3,V.v.g4⟩,hk2,by have:=V.len; simp only [List.length_append,List.length_cons,List.length_nil]; omega⟩⟩
  have h1 : ¬ t = nId:=by
   have h : (t == nId) = false:=h
   intro e; rw [e] at h; simp at h
  rw [if_neg h1] at hk2
  clear h h1
  refine br hD (fun h=>?_) (fun h=>?_)<;>cbv
  ·have h1 : t = nLen:=eq_of_beq (show (t == nLen) = true from h)
   rw [if_pos h1] at hk2
   clear h h1
   intro g hg
   cbv
   have hg0 : g 0 = [.str b]:=hg.h 0 _ rfl
   clear hg
   have hln : r.lens.length≤100:=by have:=V.len; have:=V.lie.le; omega
   have hN : m3 = (r.lens.length : Int):=V.v.g3.row.n
   refine ⟨by subst hD; exact ⟨rfl,by show (m3 + 1) * 16≤_; omega,by show m3 + 1≤_; omega⟩,fun f' n' hm=>?_⟩
   cbv
   have G2 : ∀ nl',nl' = false→GrS f' n' nl' (r.lens ++ [b]):=fun nl' hb=>V.v.g3.more hg0 (by subst hD; exact hm) (by omega) hb
   clear hm hN
   obtain ⟨y1,y2⟩:=V.lie.step hD hlt
   refine ⟨_,y1,?_⟩
   rw [hJ]
   unfold frJ
   subst hD
   refine ⟨⟨r.hosts,r.ids,r.lens ++ [b],r.coded,r.rest⟩,e1,e2,f',e4,m1,m2,n',m4,c1,c2,_,c4,c,j + 1,_,rfl,rfl,hc,⟨y2,⟨V.v.g1,V.v.g2,G2 _ (Bool.and_false _),V.v.g4⟩,hk2,by have:=V.len; simp only [List.length_append,List.length_cons,List.length_nil]; omega⟩⟩
  have h1 : ¬ t = nLen:=by
   have h : (t == nLen) = false:=h
   intro e; rw [e] at h; simp at h
  rw [if_neg h1] at hk2
  clear h h1
  refine br hD (fun h=>?_) (fun h=>?_)<;>cbv
  ·have h1 : t = nTE:=eq_of_beq (show (t == nTE) = true from h)
   rw [if_pos h1] at hk2
   clear h h1
   obtain ⟨y1,y2⟩:=V.lie.step hD hlt
   refine ⟨_,y1,?_⟩
   rw [hJ]
   unfold frJ
   subst hD
   exact ⟨⟨r.hosts,r.ids,r.lens,true,r.rest⟩,e1,e2,e3,e4,m1,m2,m3,m4,c1,c2,c3,c4,true,j + 1,_,rfl,rfl,rfl,⟨y2,⟨V.v.g1,V.v.g2,V.v.g3,V.v.g4⟩,hk2,by have:=V.len; simp only; omega⟩⟩
  have h1 : ¬ t = nTE:=by
   have h : (t == nTE) = false:=h
   intro e; rw [e] at h; simp at h
  rw [if_neg h1] at hk2
  clear h h1
  intro g hg
  cbv
  have hg0 : g 0 = hfCells ⟨a,b⟩:=hg.h 0 _ rfl
  clear hg
  have hln : r.rest.length≤100:=by have:=V.len; have:=V.lie.le; omega
  have hN : m4 = (r.rest.length : Int):=V.v.g4.row.n
  refine ⟨by subst hD; exact ⟨rfl,by show (m4 + 1) * 32≤_; omega,by show m4 + 1≤_; omega⟩,fun f' n' hm=>?_⟩
  cbv
  have G2 : ∀ nl',nl' = false→GrH f' n' nl' (r.rest ++ [⟨a,b⟩]):=fun nl' hb=>V.v.g4.more hg0 hsm (by subst hD; exact hm) (by omega) hb
  clear hm hN
  obtain ⟨y1,y2⟩:=V.lie.step hD hlt
  refine ⟨_,y1,?_⟩
  rw [hJ]
  unfold frJ
  subst hD
  refine ⟨⟨r.hosts,r.ids,r.lens,r.coded,r.rest ++ [⟨a,b⟩]⟩,e1,e2,e3,f',m1,m2,m3,n',c1,c2,c3,(c4 && false),c,j + 1,_,rfl,rfl,hc,⟨y2,⟨V.v.g1,V.v.g2,V.v.g3,G2 _ (Bool.and_false _)⟩,hk2,by have:=V.len; simp only [List.length_append,List.length_cons,List.length_nil]; omega⟩⟩
 ·have hi:=V.lie.eq R.n (of_decide_eq_false (p:=I < n) h)
  have hk2:=V.k
  rw [hi,List.drop_length] at hk2
  have hk3 : k = r:=hk2
  subst hk3
  subst hD
  refine ⟨LeV.agg (LeL.cons (leGrS V.v.g1 hV.g1) (LeL.cons (leGrS V.v.g2 hV.g2) (LeL.cons (leGrS V.v.g3 hV.g3) (LeL.cons (leBool hc) (LeL.cons (leGrH V.v.g4 hV.g4) LeL.nil))))),LeH.refl _,Nat.le_refl _⟩
end Go.Proofs.YtefelnhpfdcleaaGreatDoor
namespace Go.Proofs.YtefelnhpfdcleaaGreatDoor
open Go Go.Sx
set_option maxRecDepth 100000
set_option maxHeartbeats 16000000
def segW (w : List UInt8) : List UInt8→List (List UInt8)
 | []=>[w]
 | b :: r=>if b = 47 then w :: segW [] r else segW (w ++ [b]) r
theorem segW_len (s : List UInt8) : ∀ w,(segW w s).length≤s.length + 1∧∀ x∈segW w s,x.length≤w.length + s.length:=by
 induction s with
 | nil=>intro w; simp [segW]
 | cons b r ih =>
  intro w
  unfold segW
  split
  ·have:=ih []
   refine ⟨by simp; omega,fun x hx=>?_⟩
   rcases List.mem_cons.1 hx with rfl | hx
   ·simp
   ·have:=this.2 x hx; simp at this ⊢; omega
  ·have:=ih (w ++ [b])
   refine ⟨by simp; omega,fun x hx=>?_⟩
   have:=this.2 x hx; simp at this ⊢; omega
def spSegR : FSpec:=fun _ xs ls K=>∃ (s : List UInt8),xs = [.str s]∧ls = []∧s.length≤100000∧1≤s.length∧∀ r f n b,r = segW [] (s.drop 1)→GrS f n b r→(∀ j,f j = [.str (r.getD j [])])→K (.sl (.a b) (.a n) 1 f) []
structure SgR (s : List UInt8) (k out : List (List UInt8)) (fr i : Nat) (F I n : Int) (b : Bool) (f : Nat→List SV) (m : Nat) : Prop where
 lie : At s i I m
 F : F = fr
 f1 : 1≤fr
 le : fr≤i
 row : GrS f n b out
 ol : out.length≤i
 k : k = out ++ segW ((s.drop fr).take (i - fr)) (s.drop i)
 len : s.length≤100000
def sgrJ (s : List UInt8) (k : List (List UInt8)) (m : Nat) (vs : List (Option SV)) (hp : List Hl) : Prop :=
 ∃ (out : List (List UInt8)) (fr i : Nat) (F I n : Int) (b : Bool) (f : Nat→List SV),vs = [some (.str s),some (.gsl (.a b) (.a n) 1 f 0),some (.int .i64 (.a F)),some (.int .i64 (.a I))]∧hp = [.tail 9 (.a n) 1]∧SgR s k out fr i F I n b f m
theorem segs_ok_ref : FnOk Tryz.prog gl 41 spSegR:=by
 refine fnOk (gh:=[(1,[.attach 3 9])]) mixed cxOk tabNil Tryz.func41 (by kernel_rfl) (by kernel_rfl) ?_
 intro xs ls K h
 unfold spSegR at h
 obtain ⟨s,rfl,rfl,hs,hs1,h⟩:=h
 obtain ⟨k,hk⟩ : ∃ k,k = segW [] (s.drop 1):=⟨_,rfl⟩
 have hkl:=segW_len (s.drop 1) []
 rw [←hk] at hkl
 have hG : ∃ f1 n1 b1,GrS f1 n1 b1 k∧∀ j,f1 j = [.str (k.getD j [])]:=⟨_,_,_,⟨RowS.row (by have:=hkl.1; rw [List.length_drop] at this; omega),rfl⟩,fun _=>rfl⟩
 obtain ⟨f1,n1,b1,hG,hT⟩:=hG
 clear hkl
 refine ⟨_,_,h k f1 n1 b1 hk hG hT,fun D hD=>?_⟩
 cbv
 clear h hT
 obtain ⟨J,hJ⟩ : ∃ J,J = sgrJ s k:=⟨_,rfl⟩
 refine ⟨[0,3,4,5],J,⟨rfl,s.length - 1,?_⟩,?_⟩
 ·rw [hJ]
  subst hD
  exact ⟨[],1,1,_,_,_,_,_,rfl,rfl,⟨⟨hs1,rfl,rfl,by omega⟩,rfl,Nat.le_refl _,Nat.le_refl _,GrS.nil,by simp,by rw [hk]; simp,hs⟩⟩
 clear hk
 intro m vs hp hj
 rw [hJ] at hj
 obtain ⟨out,fr,i,F,I,n,b,f,rfl,rfl,V⟩:=hj
 cbv
 refine br hD (fun h=>?_) (fun h=>?_)<;>cbv
 ·have hlt:=V.lie.lt (of_decide_eq_true (p:=I < (s.length : Int)) h)
  clear h
  have hk:=V.k
  rw [drop_at hlt] at hk
  refine ⟨V.lie.inS hD hlt,fun c hc=>?_⟩
  cbv
  have hc2:=charOf hD V.lie.I hc
  clear hc
  refine br hD (fun h=>?_) (fun h=>?_)<;>cbv
  ·have h1 : s.getD i 0 = 47:=by
    have h : (c == 47) = true:=h
    have h2:=eq_of_beq h
    have h3:=hc2.h
    have : (s.getD i 0).toNat = 47:=by omega
    exact UInt8.toNat_inj.1 this
   rw [segW,if_pos h1] at hk
   refine ⟨by subst hD; exact ⟨by show 0≤F; rw [V.F]; omega,by show F≤I; rw [V.F,V.lie.I]; have:=V.le; omega,by show I≤(s.length : Int); rw [V.lie.I]; omega⟩,fun w hw=>?_⟩
   cbv
   have hw : w = (s.drop fr).take (i - fr):=by
    subst hD
    have h7 : w = (s.drop F.toNat).take (I.toNat - F.toNat):=hw.h
    have e1 : F.toNat = fr:=by have:=V.F; omega
    have e2 : I.toNat = i:=by have:=V.lie.I; omega
    rw [h7,e1,e2]
   rw [←hw] at hk
   clear hw h h1
   intro g hg
   cbv
   have hg0 : g 0 = [.str w]:=hg.h 0 _ rfl
   clear hg
   refine ⟨by subst hD; exact ⟨rfl,by have:=V.row.row.n; have:=V.ol; show (n + 1) * 16≤_; omega,by have:=V.row.row.n; have:=V.ol; show n + 1≤_; omega⟩,fun f' n' hm=>?_⟩
   cbv
   have G2 : ∀ nl',nl' = false→GrS f' n' nl' (out ++ [w]):=fun nl' hb=>⟨V.row.row.more hg0 (by subst hD; exact hm) (by have:=V.ol; omega),by rw [hb]; simp⟩
   clear hm
   have hst:=V.lie.step hD hlt
   refine ⟨_,hst.1,?_⟩
   rw [hJ]
   unfold sgrJ
   subst hD
   refine ⟨out ++ [w],i + 1,i + 1,_,_,n',(b && false),f',rfl,rfl,⟨hst.2,hst.2.I,by omega,Nat.le_refl _,G2 _ (Bool.and_false _),by have:=V.ol; simp; omega,?_,hs⟩⟩
   rw [hk]
   simp
  ·have h1 : s.getD i 0≠47:=by
    have h : (c == 47) = false:=h
    have h3:=hc2.h
    intro e
    rw [e] at h3
    rw [h3] at h
    cases h
   rw [segW,if_neg h1] at hk
   have hst:=V.lie.step hD hlt
   refine ⟨_,hst.1,?_⟩
   rw [hJ]
   unfold sgrJ
   subst hD
   refine ⟨out,fr,i + 1,_,_,_,_,_,rfl,rfl,⟨hst.2,V.F,V.f1,by have:=V.le; omega,V.row,by have:=V.ol; omega,?_,hs⟩⟩
   rw [hk]
   have e1 : i + 1 - fr = (i - fr) + 1:=by have:=V.le; omega
   rw [e1,List.take_add_one,List.getElem?_drop]
   have e2 : fr + (i - fr) = i:=by have:=V.le; omega
   rw [e2,List.getElem?_eq_getElem hlt,List.getD_eq_getElem?_getD,List.getElem?_eq_getElem hlt]
   rfl
 have hi:=V.lie.eq (of_decide_eq_false (p:=I < (s.length : Int)) h)
 have hk:=V.k
 have hdn : s.drop i = []:=List.drop_eq_nil_of_le (by omega)
 rw [hdn,segW] at hk
 clear h
 have e9 : s.length - fr = (s.drop fr).length:=by rw [List.length_drop]
 rw [hi,e9,List.take_length] at hk
 refine ⟨by subst hD; exact ⟨by show 0≤F; rw [V.F]; omega,by show F≤(s.length : Int); rw [V.F]; have:=V.le; omega,Int.le_refl _⟩,fun w hw=>?_⟩
 cbv
 have hw : w = s.drop fr:=by
  subst hD
  have h7 : w = (s.drop F.toNat).take ((s.length : Int).toNat - F.toNat):=hw.h
  have e1 : F.toNat = fr:=by have:=V.F; omega
  rw [h7,e1,List.take_of_length_le (by rw [List.length_drop]; omega)]
 rw [←hw] at hk
 clear hw e9
 intro g hg
 cbv
 have hg0 : g 0 = [.str w]:=hg.h 0 _ rfl
 clear hg
 refine ⟨by subst hD; exact ⟨rfl,by have:=V.row.row.n; have:=V.ol; show (n + 1) * 16≤_; omega,by have:=V.row.row.n; have:=V.ol; show n + 1≤_; omega⟩,fun f' n' hm=>?_⟩
 cbv
 have G2 : ∀ nl',nl' = false→GrS f' n' nl' k:=fun nl' hb=>by
  rw [hk]
  exact ⟨V.row.row.more hg0 (by subst hD; exact hm) (by have:=V.ol; omega),by rw [hb]; simp⟩
 subst hD
 exact finV (leGrS (G2 (b && false) (Bool.and_false _)) hG rfl rfl)
end Go.Proofs.YtefelnhpfdcleaaGreatDoor
namespace Go.Proofs.YtefelnhpfdcleaaGreatDoor
open Go Go.Sx
set_option maxRecDepth 100000
set_option maxHeartbeats 16000000
def cst (st : List (List UInt8)) (s : List UInt8) (last : Bool) : List (List UInt8) :=
 if s≠[46]∧s≠[46,46] then st ++ [s] else
 if last then (if s = [46,46]∧st≠[] then st.dropLast else st) ++ [[]] else (if s = [46,46]∧st≠[] then st.dropLast else st)
theorem cstep_cst (σ : CS) (s : List UInt8) (last : Bool) : (cstep σ s last).1 = cst σ.1 s last:=by
 unfold cstep cst
 split
 ·rfl
 ·split
  ·split<;>rfl
  ·split<;>rfl
def foldSeg : List (List UInt8)→List (List UInt8)→List (List UInt8)
 | st,[]=>st
 | st,x :: r=>foldSeg (cst st x r.isEmpty) r
theorem segW_cut (s : List UInt8) : ∀ w,segW w s = if (cutF 47 s).2.2 then (w ++ (cutF 47 s).1) :: segW [] (cutF 47 s).2.1 else [w ++ (cutF 47 s).1]:=by
 induction s with
 | nil=>intro w; simp [segW,cutF]
 | cons b r ih =>
  intro w
  rw [show segW w (b :: r) = if b = 47 then w :: segW [] r else segW (w ++ [b]) r from rfl,show cutF 47 (b :: r) = if b == 47 then ([],r,true) else (b :: (cutF 47 r).1,(cutF 47 r).2) from rfl]
  by_cases hb : b = 47
  ·have hb2 : (b == 47) = true:=by rw [hb]; rfl
   simp only [if_pos hb,if_pos hb2,if_true,List.append_nil]
  ·have hb2 : ¬ (b == 47) = true:=by simpa using hb
   simp only [if_neg hb,if_neg hb2]
   rw [ih]
   split<;>simp only [List.append_assoc,List.singleton_append]
theorem segW_ne (s w : List UInt8) : segW w s≠[]:=by
 rw [segW_cut]; split<;>simp
theorem segFold_seg : ∀ (n : Nat) (σ : CS) (rest : List UInt8),rest.length≤n→(segFold σ rest).1 = foldSeg σ.1 (segW [] rest)
 | n,σ,rest,hn=>by
  rw [segW_cut,segFold]
  by_cases h : (cutF 47 rest).2.2 = true
  ·rw [dif_pos h,if_pos h]
   have h1:=cutF_lt h
   cases n with
   | zero=>omega
   | succ n =>
    rw [segFold_seg n _ _ (by omega),cstep_cst]
    show _ = foldSeg (cst σ.1 ([] ++ (cutF 47 rest).1) (segW [] (cutF 47 rest).2.1).isEmpty) (segW [] (cutF 47 rest).2.1)
    have : (segW [] (cutF 47 rest).2.1).isEmpty = false:=by
     have:=segW_ne (cutF 47 rest).2.1 []
     simpa using this
    rw [this,List.nil_append]
  ·rw [dif_neg h,if_neg h,cstep_cst]
   rfl
theorem cst_ne (st : List (List UInt8)) (s : List UInt8) : cst st s true≠[]:=by
 unfold cst
 split
 ·simp
 ·simp
theorem foldSeg_ne : ∀ (l st : List (List UInt8)),l≠[]→foldSeg st l≠[]
 | [],_,h=>absurd rfl h
 | [x],st,_=>cst_ne st x
 | x :: y :: r,st,_=>by
  rw [foldSeg]
  exact foldSeg_ne (y :: r) _ (by simp)
theorem flat_join : ∀ {l : List (List UInt8)},l≠[]→l.flatMap (fun x=>47 :: x) = [47] ++ Lib.join l [47]
 | [],h=>absurd rfl h
 | x :: l,_=>by
  rw [Lib.join_cons]
  have key : ∀ m : List (List UInt8),m.flatMap (fun x=>47 :: x) = Lib.joinTail [47] m:=by
   intro m
   induction m with
   | nil=>rfl
   | cons y m ih =>
    have : Lib.joinTail [47] (y :: m) = [47] ++ y ++ Lib.joinTail [47] m:=by simp [Lib.joinTail]
    rw [this,←ih]
    simp
  rw [←key]
  simp
theorem cleanF_ref {s p q : List UInt8} {h : Bool} (hs : (p,q,h,(0 : Int)) = splitF s) : cleanF s = ((foldSeg [] (segW [] ((normL p 0).drop 1))).flatMap (fun x=>47 :: x) ++ (if h then [63] ++ normL q 0 else []),0):=by
 unfold cleanF
 rw [←hs,if_neg (by simp),segFold_seg _ _ _ (Nat.le_refl _),flat_join (foldSeg_ne _ _ (segW_ne _ _))]
end Go.Proofs.YtefelnhpfdcleaaGreatDoor
namespace Go.Proofs.YtefelnhpfdcleaaGreatDoor
open Go Go.Sx
set_option maxRecDepth 100000
set_option maxHeartbeats 16000000
def anyOwn (l : List HF) : Bool:=l.any fun x=>ownF (foldF x.name)
def chkFieldsF (r : Rq) : List HF×Int :=
 if checkF r.fields≠0 then ([],checkF r.fields) else if anyOwn r.fields then ([],8) else
 if (writtenF r).2≠0 then ([],(writtenF r).2) else ((writtenF r).1,checkF (writtenF r).1)
def spChk : FSpec:=fun _ xs ls K=>∃ (r : Rq) (nl : Bool) (n : Int) (f : Nat→List SV),xs = [.agg [.int .i64 (.a r.id),.str r.method,.str r.target,.str r.host,.sl (.a nl) (.a n) 2 f,.str r.body]]∧ls = []∧RqOk r nl n f∧
 ∀ l e nb n' g,(l,e) = chkFieldsF r→RowH g n' l→nb = l.isEmpty→K (.tup [.sl (.a nb) (.a n') 2 g,.int .i64 (.a e)]) []
structure OwJ (l : List HF) (k : Bool) (i : Nat) (I : Int) (m : Nat) : Prop where
 lie : AtR l i I m
 k : k = anyOwn (l.drop i)
theorem writtenF_ne (r : Rq) (h : (writtenF r).2 = 0) : (writtenF r).1.isEmpty = false:=by
 unfold writtenF at h ⊢
 split
 ·rename_i h1; rw [if_pos h1] at h; exact absurd h h1
 ·rfl
theorem itoaS (n : Int) (h1 : -9223372036854775808≤n) (h2 : n≤9223372036854775807) (a : List UInt8) (ha : a.length≤100) : HF.small ⟨a,Lib.itoa n⟩:=⟨by show a.length≤_; omega,itoa_len h1 h2⟩
theorem writtenF_row {r : Rq} {nl : Bool} {n : Int} {f : Nat→List SV} (R : RqOk r nl n f) : ∃ g n',RowH g n' (writtenF r).1:=by
 unfold writtenF
 split
 ·exact rowOf [] (by simp) (fun i hi=>absurd hi (by simp))
 ·rename_i h1
  have h1 : (stripF r.fields).2 = 0:=by simpa using h1
  have h2:=stripF_len _ h1
  refine rowOf _ ?_ (small_append (small_append (fun i hi=>?_) (stripF_small R.row.small)) ?_)
  ·simp only [List.length_append]
   split<;>simp<;>omega
  ·match i,hi with
   | 0,_=>exact ⟨by show sHost.length≤_; decide,R.host⟩
   | 1,_=>exact itoaS _ R.id1 R.id2 _ (by decide)
  ·split
   ·intro i hi
    have : i = 0:=by simpa using hi
    subst this; exact itoaS _ (by omega) (by have:=R.body; omega) _ (by decide)
   ·intro i hi; simp at hi
theorem nilRow : RowH (fun _=>[]) 0 []:=⟨rfl,fun i hi=>absurd hi (by simp),by simp,fun i hi=>absurd hi (by simp)⟩
def owJ (r : Rq) (k : Bool) (nl : Bool) (n : Int) (f : Nat→List SV) (m : Nat) (vs : List (Option SV)) (hp : List Hl) : Prop :=
 ∃ (i : Nat) (I : Int),vs = [some (.ptr 0 0),some (.sl (.a nl) (.a n) 2 f),some (.int .i64 (.a n)),some (.int .i64 (.a I))]∧hp = [.blk 31 [.int .i64 (.a r.id),.str r.method,.str r.target,.str r.host,.sl (.a nl) (.a n) 2 f,.str r.body]]∧OwJ r.fields k i I m
theorem chk_ok : FnOk Tryz.prog gl 84 spChk:=by
 refine fnOk (gh:=[]) mixed cxOk (tabCons check_ok (tabCons isOwn_ok (tabCons written_ok tabNil))) Tryz.func84 (by kernel_rfl) (by kernel_rfl) ?_
 intro xs ls K h
 unfold spChk at h
 obtain ⟨r,nl,n,f,rfl,rfl,R,h⟩:=h
 obtain ⟨k,hk⟩ : ∃ k,k = chkFieldsF r:=⟨_,rfl⟩
 obtain ⟨kl,ke⟩:=k
 have hg : ∃ g n',RowH g n' kl:=by
  unfold chkFieldsF at hk
  split at hk
  ·simp only [Prod.mk.injEq] at hk; rw [hk.1]; exact ⟨_,_,nilRow⟩
  ·split at hk
   ·simp only [Prod.mk.injEq] at hk; rw [hk.1]; exact ⟨_,_,nilRow⟩
   ·split at hk
    ·simp only [Prod.mk.injEq] at hk; rw [hk.1]; exact ⟨_,_,nilRow⟩
    ·simp only [Prod.mk.injEq] at hk; rw [hk.1]; exact writtenF_row R
 obtain ⟨g,n2,R2⟩:=hg
 obtain ⟨nb,hnb⟩ : ∃ nb,nb = kl.isEmpty:=⟨_,rfl⟩
 refine ⟨_,_,h kl ke nb n2 g hk R2 hnb,fun D hD=>?_⟩
 clear h
 unfold chkFieldsF at hk
 obtain ⟨wl,hwl⟩ : ∃ w,w = writtenF r:=⟨_,rfl⟩
 have hwn:=writtenF_ne r
 rw [←hwl] at hk hwn
 obtain ⟨wl,we⟩:=wl
 simp only at hk hwn
 obtain ⟨J,hJ⟩ : ∃ J,J = owJ r (anyOwn r.fields) nl n f:=⟨_,rfl⟩
 obtain ⟨ao,hao⟩ : ∃ a,a = anyOwn r.fields:=⟨_,rfl⟩
 rw [←hao] at hk hJ
 obtain ⟨id,me,ta,ho,fs,bo⟩:=r
 simp only at R hJ hao hk
 cbv
 refine ⟨fs,_,_,f,rfl,rfl,by subst hD; exact R.row,fun e he=>?_⟩
 cbv
 rw [←he] at hk
 clear he
 refine br hD (fun h=>?_) (fun h=>?_)<;>cbv
 ·have h1 : e≠0:=by simpa using h
  rw [if_pos h1] at hk
  simp only [Prod.mk.injEq] at hk
  obtain ⟨hq1,hq2⟩:=hk
  subst hq1 hq2
  exact finSl hD (by rw [hnb]; rfl) nilRow rfl rfl R2
 have h1 : e = 0:=by simpa using h
 rw [if_neg (by simp [h1])] at hk
 clear h h1
 refine ⟨[1,16,17,18],J,⟨rfl,fs.length,?_⟩,?_⟩
 ·rw [hJ]
  subst hD
  exact ⟨0,0,rfl,rfl,AtR.zero R.row.len,hao⟩
 clear hao
 intro m vs hp hj
 rw [hJ] at hj
 obtain ⟨i,I,rfl,rfl,V⟩:=hj
 simp only at V
 cbv
 refine br hD (fun h=>?_) (fun h=>?_)<;>cbv
 ·have hlt:=V.lie.lt R.row.n (of_decide_eq_true (p:=I < n) h)
  clear h
  refine ⟨V.lie.inB hD R.row.n hlt,fun j hj=>?_⟩
  cbv
  obtain rfl:=V.lie.j hD hj
  clear hj
  have e1:=R.row.f j hlt
  have hsm:=R.row.small j hlt
  have hk2:=V.k
  rw [dropR (d:=default) hlt] at hk2
  obtain ⟨x,hx⟩ : ∃ x,x = fs.getD j default:=⟨_,rfl⟩
  rw [←hx] at e1 hk2 hsm
  obtain ⟨a,b⟩:=x
  rw [e1]
  cbv
  refine ⟨a,rfl,rfl,hsm.1,fun t ht=>?_⟩
  cbv
  have ht : t = ownF (foldF a):=ht
  have hk3 : ao = (t || anyOwn (fs.drop (j + 1))):=by rw [hk2,ht]; rfl
  clear ht hk2
  refine br hD (fun h=>?_) (fun h=>?_)<;>cbv
  ·have h1 : t = true:=h
   have hk4 : ao = true:=by rw [hk3,h1]; rfl
   rw [if_pos hk4] at hk
   simp only [Prod.mk.injEq] at hk
   obtain ⟨hq1,hq2⟩:=hk
   subst hq1 hq2
   exact finSl hD (by rw [hnb]; rfl) nilRow rfl rfl R2
  ·have h1 : t = false:=h
   obtain ⟨g1,g2⟩:=V.lie.step hD hlt
   refine ⟨_,g1,?_⟩
   rw [hJ]
   unfold owJ
   subst hD
   exact ⟨j + 1,_,rfl,rfl,g2,by rw [hk3,h1]; rfl⟩
 ·have hi:=V.lie.eq R.row.n (of_decide_eq_false (p:=I < n) h)
  have hk2:=V.k
  rw [hi,List.drop_length] at hk2
  have hk3 : ao = false:=hk2
  rw [if_neg (by rw [hk3]; simp)] at hk
  clear h hk2
  refine ⟨⟨id,me,ta,ho,fs,bo⟩,nl,n,f,by subst hD; rfl,rfl,R,fun l e2 nb2 n3 g3 hw R3 hnb2=>?_⟩
  cbv
  rw [←hwl] at hw
  simp only [Prod.mk.injEq] at hw
  obtain ⟨hq1,hq2⟩:=hw
  subst hq1 hq2
  refine br hD (fun h=>?_) (fun h=>?_)<;>cbv
  ·have h1 : e2≠0:=by simpa using h
   rw [if_pos h1] at hk
   simp only [Prod.mk.injEq] at hk
   obtain ⟨hq1,hq2⟩:=hk
   subst hq1 hq2
   exact finSl hD (by rw [hnb]; rfl) nilRow rfl rfl R2
  ·have h1 : e2 = 0:=by simpa using h
   rw [if_neg (by simp [h1])] at hk
   have hne:=hwn h1
   refine ⟨l,_,_,g3,rfl,rfl,by subst hD; exact R3,fun c hc=>?_⟩
   cbv
   rw [←hc] at hk
   clear hc
   simp only [Prod.mk.injEq] at hk
   obtain ⟨hq1,hq2⟩:=hk
   subst hq1 hq2
   refine finSl hD ?_ R3 rfl rfl R2
   rw [hnb,hne,hnb2,h1]; rfl
end Go.Proofs.YtefelnhpfdcleaaGreatDoor
namespace Go.Proofs.YtefelnhpfdcleaaGreatDoor
open Go Go.Sx
set_option maxRecDepth 100000
set_option maxHeartbeats 16000000
def examineF (r : Rq) : List UInt8×List HF×Int :=
 if r.id < 1∨1000000000 < r.id then (sId,[],7) else if !isMethodF r.method then (sMethod,[],6) else if r.method = sConnect then (sMethod,[],9) else
 if (orgF r.target).2≠0 then (sTarget,[],(orgF r.target).2) else if !hostF r.host then (sHostP,[],6) else
 if (chkFieldsF r).2≠0 then (sFields,[],(chkFieldsF r).2) else if 65536 < r.body.length then (sBody,[],3) else if (r.body != [] && bareF r.method) = true then (sBody,[],2) else ([],(chkFieldsF r).1,0)
def spExam : FSpec:=fun _ xs ls K=>∃ (r : Rq) (nl : Bool) (n : Int) (f : Nat→List SV),xs = [.agg [.int .i64 (.a r.id),.str r.method,.str r.target,.str r.host,.sl (.a nl) (.a n) 2 f,.str r.body]]∧ls = []∧RqOk r nl n f∧
 ∀ p l e nb n' g,(p,l,e) = examineF r→RowH g n' l→nb = l.isEmpty→K (.tup [.str p,.sl (.a nb) (.a n') 2 g,.int .i64 (.a e)]) []
theorem finEx {D : Dn} (hD : D = dn) {p p' : List UInt8} {nb : Bool} {n n2 e : Int} {g g2 : Nat→List SV} {x : BT} {y z : ST} {l : List HF} (hp : p' = p) (h1 : x.den = nb) (R : RowH g2 n2 l) (h2 : y.den = n2) (h3 : z.den = e) (R2 : RowH g n l) :
  Fin (.tup [.str p',.sl (.a (D.b x)) (.a (D.i y)) 2 g2,.int .i64 (.a (D.i z))]) (.tup [.str p,.sl (.a nb) (.a n) 2 g,.int .i64 (.a e)]) [] []:=by
 subst hD h1 h3 hp
 have hn : n2 = n:=by rw [R.n,R2.n]
 refine finV (LeV.tup (LeL.cons (LeV.refl _) (LeL.cons (LeV.sl rfl (by show y.den = n; rw [h2,hn]) fun i hi=>?_) (LeL.refl _))))
 have hi : (i : Int) < y.den:=hi
 have:=R.n
 rw [R.f i (by omega),R2.f i (by omega)]
theorem chkFieldsF_row {r : Rq} {nl : Bool} {n : Int} {f : Nat→List SV} (R : RqOk r nl n f) : ∃ g n',RowH g n' (chkFieldsF r).1:=by
 unfold chkFieldsF
 split
 ·exact ⟨_,_,nilRow⟩
 ·split
  ·exact ⟨_,_,nilRow⟩
  ·split
   ·exact ⟨_,_,nilRow⟩
   ·exact writtenF_row R
theorem exam_ok : FnOk Tryz.prog gl 43 spExam:=by
 refine fnOk (gh:=[]) mixed cxOk (tabCons isMethod_ok (tabCons origin_ok (tabCons isHost_ok (tabCons chk_ok (tabCons isBare_ok tabNil))))) Tryz.func43 (by kernel_rfl) (by kernel_rfl) ?_
 intro xs ls K h
 unfold spExam at h
 obtain ⟨r,nl,n,f,rfl,rfl,R,h⟩:=h
 obtain ⟨k,hk⟩ : ∃ k,k = examineF r:=⟨_,rfl⟩
 obtain ⟨kp,kl,ke⟩:=k
 have hg : ∃ g n',RowH g n' kl:=by
  unfold examineF at hk
  repeat' split at hk
  all_goals (simp only [Prod.mk.injEq] at hk; rw [hk.2.1])
  all_goals first | exact ⟨_,_,nilRow⟩ | exact chkFieldsF_row R
 obtain ⟨g,n2,R2⟩:=hg
 obtain ⟨nb,hnb⟩ : ∃ nb,nb = kl.isEmpty:=⟨_,rfl⟩
 refine ⟨_,_,h kp kl ke nb n2 g hk R2 hnb,fun D hD=>?_⟩
 clear h
 unfold examineF at hk
 obtain ⟨ck,hck⟩ : ∃ w,w = chkFieldsF r:=⟨_,rfl⟩
 rw [←hck] at hk
 obtain ⟨cl,ce⟩:=ck
 obtain ⟨id,me,ta,ho,fs,bo⟩:=r
 have Rme:=R.method
 have Rta:=R.target
 have Rho:=R.host
 simp only at hk Rme Rta Rho
 cbv
 refine br hD (fun h=>?_) (fun h=>?_)<;>cbv
 ·have h1 : id < 1∨1000000000 < id:=by
   have h : (decide (id < 1) || decide (1000000000 < id)) = true:=h
   simpa using h
  rw [if_pos h1] at hk
  simp only [Prod.mk.injEq] at hk
  obtain ⟨hq1,hq2,hq3⟩:=hk
  subst hq1 hq2 hq3
  exact finEx hD rfl (by rw [hnb]; rfl) nilRow rfl rfl R2
 have h1 : ¬ (id < 1∨1000000000 < id):=by
  have h : (decide (id < 1) || decide (1000000000 < id)) = false:=h
  simp only [Bool.or_eq_false_iff,decide_eq_false_iff_not] at h
  omega
 rw [if_neg h1] at hk
 clear h h1
 refine ⟨me,rfl,rfl,Rme,fun im him=>?_⟩
 cbv
 rw [←him] at hk
 clear him
 refine br hD (fun h=>?_) (fun h=>?_)<;>cbv
 ·have h1 : (!im) = true:=h
  rw [if_pos h1] at hk
  simp only [Prod.mk.injEq] at hk
  obtain ⟨hq1,hq2,hq3⟩:=hk
  subst hq1 hq2 hq3
  exact finEx hD rfl (by rw [hnb]; rfl) nilRow rfl rfl R2
 have h1 : (!im) = false:=h
 rw [if_neg (by rw [h1]; simp)] at hk
 clear h h1
 refine br hD (fun h=>?_) (fun h=>?_)<;>cbv
 ·have h1 : me = sConnect:=eq_of_beq (show (me == sConnect) = true from h)
  rw [if_pos h1] at hk
  simp only [Prod.mk.injEq] at hk
  obtain ⟨hq1,hq2,hq3⟩:=hk
  subst hq1 hq2 hq3
  exact finEx hD rfl (by rw [hnb]; rfl) nilRow rfl rfl R2
 have h1 : ¬ me = sConnect:=by
  have h : (me == sConnect) = false:=h
  intro e; rw [e] at h; simp at h
 rw [if_neg h1] at hk
 clear h h1
 refine ⟨ta,rfl,rfl,Rta,fun oi oe ho2=>?_⟩
 cbv
 rw [←ho2] at hk
 simp only at hk
 clear ho2
 refine br hD (fun h=>?_) (fun h=>?_)<;>cbv
 ·have h1 : oe≠0:=by simpa using h
  rw [if_pos h1] at hk
  simp only [Prod.mk.injEq] at hk
  obtain ⟨hq1,hq2,hq3⟩:=hk
  subst hq1 hq2 hq3
  exact finEx hD rfl (by rw [hnb]; rfl) nilRow rfl rfl R2
 have h1 : ¬ oe≠0:=by simpa using h
 rw [if_neg h1] at hk
 clear h h1
 refine ⟨ho,rfl,rfl,Rho,fun hh hhh=>?_⟩
 cbv
 rw [←hhh] at hk
 clear hhh
 refine br hD (fun h=>?_) (fun h=>?_)<;>cbv
 ·have h1 : (!hh) = true:=h
  rw [if_pos h1] at hk
  simp only [Prod.mk.injEq] at hk
  obtain ⟨hq1,hq2,hq3⟩:=hk
  subst hq1 hq2 hq3
  exact finEx hD rfl (by rw [hnb]; rfl) nilRow rfl rfl R2
 have h1 : (!hh) = false:=h
 rw [if_neg (by rw [h1]; simp)] at hk
 clear h h1
 refine ⟨⟨id,me,ta,ho,fs,bo⟩,nl,n,f,by subst hD; rfl,rfl,R,fun l e nb2 n3 g3 hc R3 hnb2=>?_⟩
 cbv
 rw [←hck] at hc
 simp only [Prod.mk.injEq] at hc
 obtain ⟨hq1,hq2⟩:=hc
 subst hq1 hq2
 refine br hD (fun h=>?_) (fun h=>?_)<;>cbv
 ·have h1 : e≠0:=by simpa using h
  rw [if_pos h1] at hk
  simp only [Prod.mk.injEq] at hk
  obtain ⟨hq1,hq2,hq3⟩:=hk
  subst hq1 hq2 hq3
  exact finEx hD rfl (by rw [hnb]; rfl) nilRow rfl rfl R2
 have h1 : ¬ e≠0:=by simpa using h
 rw [if_neg h1] at hk
 clear h h1
 refine br hD (fun h=>?_) (fun h=>?_)<;>cbv
 ·have h1 : 65536 < bo.length:=by have h : decide ((65536 : Int) < (bo.length : Int)) = true:=h; simp only [decide_eq_true_eq] at h; omega
  rw [if_pos h1] at hk
  simp only [Prod.mk.injEq] at hk
  obtain ⟨hq1,hq2,hq3⟩:=hk
  subst hq1 hq2 hq3
  exact finEx hD rfl (by rw [hnb]; rfl) nilRow rfl rfl R2
 have h1 : ¬ 65536 < bo.length:=by have h : decide ((65536 : Int) < (bo.length : Int)) = false:=h; simp only [decide_eq_false_iff_not] at h; omega
 rw [if_neg h1] at hk
 clear h h1
 refine ⟨me,rfl,rfl,Rme,fun b hb=>?_⟩
 cbv
 rw [←hb] at hk
 clear hb
 refine br hD (fun h=>?_) (fun h=>?_)<;>cbv
 ·have h1 : (bo != [] && b) = true:=h
  rw [if_pos h1] at hk
  simp only [Prod.mk.injEq] at hk
  obtain ⟨hq1,hq2,hq3⟩:=hk
  subst hq1 hq2 hq3
  exact finEx hD rfl (by rw [hnb]; rfl) nilRow rfl rfl R2
 ·have h1 : ¬ (bo != [] && b) = true:=by
   have h : (bo != [] && b) = false:=h
   rw [h]; simp
  rw [if_neg h1] at hk
  simp only [Prod.mk.injEq] at hk
  obtain ⟨hq1,hq2,hq3⟩:=hk
  subst hq1 hq2 hq3
  exact finEx hD rfl (by rw [hnb,←hnb2]; rfl) R3 rfl rfl R2
def checkRF (r : Rq) : List UInt8×Int:=((examineF r).1,(examineF r).2.2)
def spCheckR : FSpec:=fun _ xs ls K=>∃ (r : Rq) (nl : Bool) (n : Int) (f : Nat→List SV),xs = [.agg [.int .i64 (.a r.id),.str r.method,.str r.target,.str r.host,.sl (.a nl) (.a n) 2 f,.str r.body]]∧ls = []∧RqOk r nl n f∧
 ∀ p e,(p,e) = checkRF r→K (.tup [.str p,.int .i64 (.a e)]) []
theorem checkR_ok : FnOk Tryz.prog gl 27 spCheckR:=by
 refine fnOk (gh:=[]) mixed cxOk (tabCons exam_ok tabNil) Tryz.func27 (by kernel_rfl) (by kernel_rfl) ?_
 intro xs ls K h
 unfold spCheckR at h
 obtain ⟨r,nl,n,f,rfl,rfl,R,h⟩:=h
 obtain ⟨k,hk⟩ : ∃ k,k = checkRF r:=⟨_,rfl⟩
 obtain ⟨kp,ke⟩:=k
 refine ⟨_,_,h kp ke hk,fun D hD=>?_⟩
 clear h
 unfold checkRF at hk
 obtain ⟨ck,hck⟩ : ∃ w,w = examineF r:=⟨_,rfl⟩
 rw [←hck] at hk
 obtain ⟨cp,cl,ce⟩:=ck
 obtain ⟨id,me,ta,ho,fs,bo⟩:=r
 simp only [Prod.mk.injEq] at hk
 obtain ⟨hq1,hq2⟩:=hk
 subst hq1 hq2
 cbv
 refine ⟨⟨id,me,ta,ho,fs,bo⟩,nl,n,f,by subst hD; rfl,rfl,R,fun p l e nb2 n3 g3 hc R3 hnb2=>?_⟩
 cbv
 rw [←hck] at hc
 simp only [Prod.mk.injEq] at hc
 obtain ⟨hq1,hq2,hq3⟩:=hc
 subst hq1 hq2 hq3
 subst hD
 exact fin_eq rfl rfl
end Go.Proofs.YtefelnhpfdcleaaGreatDoor
namespace Go.Proofs.YtefelnhpfdcleaaGreatDoor
open Go Go.RowKit Go.Sx
set_option maxHeartbeats 2000000
set_option maxRecDepth 100000
theorem bSize : (Tryz.prog.info? 104).map (·.size) = some 2:=by kernel_rfl
theorem bLies : liesAt Tryz.prog Tryz.prog.depth 104 (2 / Tryz.prog.cellsOf 104) 0 104 1 = true:=by kernel_rfl
theorem bUnd : Tryz.prog.underlying 102 = some (.pointer 104):=by kernel_rfl
theorem bUnsafe : Tryz.prog.underlying 141 = some .unsafePointer:=by kernel_rfl
theorem bByte : (Tryz.prog.info? 5).map (fun i=>(i.zero,i.size,i.bytes)) = some (some (.int .u8 0),1,1):=by kernel_rfl
theorem bSlice : Tryz.prog.underlying 36 = some (.slice 5):=by kernel_rfl
theorem copyCheck_used (b : Nat) (w : World) (h0 : w.cell? ⟨b,0,none⟩ = some (.pointer (some ⟨b,0,none⟩))) :
  Calls Tryz.prog 108 #[.pointer (some ⟨b,0,none⟩)] w fun e w'=>e = .returned (.tuple #[])∧w' = w:=by
 obtain ⟨j,hj,_⟩:=Option.map_eq_some_iff.1 bSize
 go_enter Tryz.func108,Tryz.ntmps108
 go_wp2
 rw [Lib.run_neq_ptr_same w _ bUnd hj]
 go_wp2
 go_end0
 exact ⟨rfl,rfl⟩
theorem copyCheck_fresh (b : Nat) (w : World) (h0 : w.cell? ⟨b,0,none⟩ = some (.pointer none)) (hsh : w.shape? b = some (104,2)) (hfz : w.frozen? ⟨b,0,none⟩ = false) :
  Calls Tryz.prog 108 #[.pointer (some ⟨b,0,none⟩)] w fun e w'=>e = .returned (.tuple #[])∧w' = w.setCell ⟨b,0,none⟩ (.pointer (some ⟨b,0,none⟩)):=by
 obtain ⟨j,hj,hjs⟩:=Option.map_eq_some_iff.1 bSize
 go_enter Tryz.func108,Tryz.ntmps108
 go_wp2
 rw [Lib.run_to_unsafe w ⟨b,0,none⟩ bUnd bUnsafe hj (by rw [hjs]; decide) hsh (Nat.zero_lt_succ 1)]
 simp only [Result.andThen]
 rw [Oper.upon_value]
 go_wp2
 rw [run_callFunc_extern Tryz.func136 (by kernel_rfl) (by kernel_rfl) (by kernel_rfl) (e:=Extern.AbiNoEscape.same) (by kernel_rfl)]
 rw [Lib.run_noEscape]
 simp only [Result.andThen]
 rw [Oper.upon_value]
 go_wp2
 rw [Lib.run_from_unsafe w ⟨b,0,none⟩ bUnsafe bUnd hj hsh bLies]
 simp only [Result.andThen]
 rw [Oper.upon_value]
 go_wp2
 go_end0
 exact ⟨rfl,rfl⟩
structure BKept (b : Nat) (v v' : Value) (w w' : World) : Prop where
 os : w'.os = w.os
 tape : w'.tape = w.tape
 output : w'.output = w.output
 size : w.heap.size≤w'.heap.size
 block : ∀ k,k < w.heap.size→k≠b→some k≠v.ownBlock→w'.heap[k]? = w.heap[k]?
 new : ∀ k,v'.ownBlock = some k→v.ownBlock = some k∨w.heap.size≤k
theorem copyCheck_run (b : Nat) (p v : Value) (s : List UInt8) (w : World) (hbk : w.heap[b]? = some (.cells #[p,v] 104 (0,0))) (hp : p = .pointer none∨p = .pointer (some ⟨b,0,none⟩)) (hown : w.ownsRow 0 5 1 v s.length (Lib.byteCells s)) (hne : v.ownBlock≠some b) :
  Calls Tryz.prog 108 #[.pointer (some ⟨b,0,none⟩)] w fun e w'=>e = .returned (.tuple #[])∧w'.heap[b]? = some (.cells #[.pointer (some ⟨b,0,none⟩),v] 104 (0,0))∧w'.ownsRow 0 5 1 v s.length (Lib.byteCells s)∧w'.os = w.os∧w'.tape = w.tape∧w'.output = w.output∧w'.heap.size = w.heap.size∧∀ k,k≠b→w'.heap[k]? = w.heap[k]?:=by
 rcases hp with rfl | rfl
 ·have hlt : b < w.heap.size:=by
   rcases Nat.lt_or_ge b w.heap.size with h' | h'
   ·exact h'
   ·simp [Array.getElem?_eq_none h'] at hbk
  refine (copyCheck_fresh b w (by rw [Lib.cell_of_heap hbk]; rfl) (by simp [World.shape?,hbk]) (Lib.frozen_of_heap hbk 0)).mono ?_
  rintro e w' ⟨rfl,rfl⟩
  refine ⟨rfl,by simp [World.setCell,Array.getElem?_modify,hbk],?_,rfl,rfl,rfl,by simp [World.setCell],fun k hk=>RowKit.Below.heap_setCell _ _ _ _ (fun e=>hk (by simp [e]))⟩
  refine hown.kept (row:=some b) ⟨rfl,rfl,rfl,by simp [World.setCell],fun k _ hk=>RowKit.Below.heap_setCell _ _ _ _ (fun e=>hk (by simp [e]))⟩ (Or.inr hne)
 ·refine (copyCheck_used b w (by rw [Lib.cell_of_heap hbk]; rfl)).mono ?_
  rintro e w' ⟨rfl,rfl⟩
  exact ⟨rfl,hbk,hown,rfl,rfl,rfl,rfl,fun _ _=>rfl⟩
end Go.Proofs.YtefelnhpfdcleaaGreatDoor
namespace Go.Proofs.YtefelnhpfdcleaaGreatDoor
open Go Go.RowKit Go.Sx
set_option maxHeartbeats 2000000
set_option maxRecDepth 100000
structure BldAt (w : World) (b : Nat) (p v : Value) (s : List UInt8) : Prop where
 pp : p = .pointer none∨p = .pointer (some ⟨b,0,none⟩)
 at_ : w.heap[b]? = some (.cells #[p,v] 104 (0,0))
 own : w.ownsRow 0 5 1 v s.length (Lib.byteCells s)
 ne : v.ownBlock≠some b
def bldPost (w' : World) (b : Nat) (v' : Value) : Hl→Prop
 | .bld T e s'=>T = 104∧e = 5∧∃ p',BldAt w' b p' v' s'
 | .gone=>v'.ownBlock = none
 | _=>False
theorem callsTo_bld {gl : List (Nat×SV)} {f : FuncId} {as1 : List SV} {s : List UInt8} {r : SV} {hl : Hl}
  (run : ∀ (E : Env) (b : Nat) (p v : Value) (w : World) (vals : List Value),BldAt w b p v s→RelL E w as1 vals→Calls Tryz.prog f ⟨.pointer (some ⟨b,0,none⟩) :: vals⟩ w fun e w'=>∃ ev v',e = .returned ev∧(∀ E,Rel E w' r ev)∧BKept b v v' w w'∧bldPost w' b v' hl) :
  CallsTo Tryz.prog gl f (.ptr 0 0 :: as1) [.bld 104 5 s] r [hl]:=by
 intro B E w vals hw0 hI0 hdom hb hg hh hr
 have h0:=hh 0
 obtain ⟨b,p,v,h1,h2,h3,h4,h5,h6,h7,h8⟩:=h0
 match vals,hr with
 | u :: vals,hr =>
  obtain ⟨b',hb',hu⟩:=(hr.2 0 _ u rfl rfl).ptr_inv
  obtain rfl : b = b':=Option.some.inj (h1.symm.trans hb')
  subst hu
  refine (run E b p v w vals ⟨h3,h4,h5,h6⟩ ⟨by have:=hr.1; simpa using this,fun i s' u' a c=>hr.2 (i + 1) s' u' a c⟩).mono ?_
  rintro e w' ⟨ev,v',rfl,hev,K,hpost⟩
  let E' : Env:=⟨E.β,E.τ,fun k=>if v'.ownBlock = some k then some 0 else E.O k,E.κ,E.ζ,E.I⟩
  have hX : ∀ k,E.O k = some 0→B.w0.heap.size≤k∨B.X k:=fun k hk=>(hb.Obd k 0 hk).2
  have hkeep : ∀ k,k < w.heap.size→(∀ j,E.O k = some j→j≠0)→w'.heap[k]? = w.heap[k]?:=by
   intro k hk hn
   refine K.block k hk (fun e=>?_) (fun e=>?_)
   ·subst e; exact hn 0 h2 rfl
   ·exact hn 0 (h8 k e.symm).1 rfl
  have hcell : ∀ b2 o,E.I b2 o→w'.cell? ⟨b2,o,none⟩ = w.cell? ⟨b2,o,none⟩:=by
   intro b2 o hi
   simp only [World.cell?]
   rw [K.block b2 (hb.Ibd b2 o hi) (fun e=>by subst e; exact h7 o hi) (fun e=>(h8 b2 e.symm).2 o hi)]
  have hown' : ∀ k,v'.ownBlock = some k→B.w0.heap.size≤k∨B.X k:=by
   intro k hk
   rcases K.new k hk with h | h
   ·exact hX k (h8 k h).1
   ·left; have:=hb.size; omega
  refine ⟨ev,E',rfl,⟨K.os.trans hb.os,K.tape.trans hb.tape,K.output.trans hb.output,Nat.le_trans hb.size K.size,fun b2 hlt hnX=>?_,fun b2 o hi=>?_,fun b2 o hi=>Nat.lt_of_lt_of_le (hb.Ibd b2 o hi) K.size,hb.Inew,fun b2 j hO=>?_,⟨hb.β0.β,hb.β0.τ,hb.β0.ζ⟩⟩,fun k hk=>?_,hev E'⟩
  ·rw [hkeep b2 (by have:=hb.size; omega) (fun j hj e=>?_)]
   ·exact hb.old b2 hlt hnX
   ·subst e
    rcases hX b2 hj with h | h
    ·omega
    ·exact hnX h
  ·obtain ⟨i1,i2⟩:=hb.I0 b2 o hi
   exact ⟨i1,by rw [hcell b2 o i1]; exact i2⟩
  ·have hO : (if v'.ownBlock = some b2 then some 0 else E.O b2) = some j:=hO
   split at hO
   ·rename_i hv
    refine ⟨?_,hown' b2 hv⟩
    cases hl with
    | bld T e s' =>
     obtain ⟨_,_,p',hA⟩:=hpost
     exact (hA.own.lt b2 hv).2
    | gone =>
     have hn : v'.ownBlock = none:=hpost
     rw [hn] at hv; cases hv
    | _=>exact hpost.elim
   ·obtain ⟨o1,o2⟩:=hb.Obd b2 j hO
    exact ⟨Nat.lt_of_lt_of_le o1 K.size,o2⟩
  ·obtain rfl : k = 0:=by simpa using hk
   cases hl with
   | bld T e s' =>
    obtain ⟨rfl,rfl,p',hA⟩:=hpost
    have hI : ∀ g,v'.ownBlock = some g→∀ o,¬ E.I g o:=by
     intro g hg o hi
     rcases K.new g hg with h | h
     ·exact (h8 g h).2 o hi
     ·have:=hb.Ibd g o hi; omega
    refine ⟨b,p',v',h1,?_,hA.pp,hA.at_,hA.own,hA.ne,h7,fun g hg=>⟨?_,hI g hg⟩⟩
    ·show (if v'.ownBlock = some b then some 0 else E.O b) = some 0
     rw [if_neg hA.ne]; exact h2
    ·show (if v'.ownBlock = some g then some 0 else E.O g) = some 0
     rw [if_pos hg]
   | gone=>trivial
   | _=>exact hpost.elim
 | [],hr=>exact absurd hr.1 (by simp)
end Go.Proofs.YtefelnhpfdcleaaGreatDoor
namespace Go.Proofs.YtefelnhpfdcleaaGreatDoor
open Go Go.RowKit Go.Sx
set_option maxHeartbeats 2000000
set_option maxRecDepth 100000
theorem bPtr : Tryz.prog.underlying 124 = some (.pointer 5):=by kernel_rfl
theorem bCells : Tryz.prog.cellsOf 5 = 1:=by kernel_rfl
structure SKept (v : Value) (w w' : World) : Prop where
 os : w'.os = w.os
 tape : w'.tape = w.tape
 output : w'.output = w.output
 size : w.heap.size≤w'.heap.size
 block : ∀ k,k < w.heap.size→some k≠v.ownBlock→w'.heap[k]? = w.heap[k]?
theorem SKept.drew (v : Value) (w : World) : SKept v w w.drew:=⟨rfl,rfl,rfl,Nat.le_refl _,fun _ _ _=>rfl⟩
theorem unsafeString_none (W : World) (q : Option Addr) : (Builtin.unsafeString_ #[124,3] 9 #[.pointer q,.int .i64 0]).run Tryz.prog W = .ok (.string .empty) W :=
 Lib.run_unsafeString_none W _ _ _ q
theorem string_some (b g cap : Nat) (p : Value) (cur : Array Value) (l : List UInt8) (w : World) (h0 : l≠[]) (hbk : w.heap[b]? = some (.cells #[p,.slice (some ⟨g,0,none⟩) l.length cap] 104 (0,0))) (hg : w.heap[g]? = some (.cells cur 5 (0,0)))
  (hown : w.ownsRow 0 5 1 (.slice (some ⟨g,0,none⟩) l.length cap) l.length (Lib.byteCells l)) (hnc : l.length≤cap) (hcm : cap≤maxLen) (hcs : cur.size = cap * 1) :
  Calls Tryz.prog 81 #[.pointer (some ⟨b,0,none⟩)] w fun e w'=>e = .returned (.string ⟨l.toArray⟩)∧SKept (.slice (some ⟨g,0,none⟩) l.length cap) w w':=by
 have hl0 : l.length≠0:=by simpa using h0
 have c1 : w.drew.cell? ⟨b,1,none⟩ = some (.slice (some ⟨g,0,none⟩) l.length cap):=by
  have : w.drew.heap[b]? = some (.cells #[p,.slice (some ⟨g,0,none⟩) l.length cap] 104 (0,0)):=hbk
  rw [Lib.cell_of_heap this]; rfl
 have hSD : (Builtin.unsafeSliceData_ #[36] 124 #[.slice (some ⟨g,0,none⟩) l.length cap]).run Tryz.prog w.drew = .ok (.pointer (some ⟨g,0,none⟩)) w.drew :=
  Lib.run_unsafeSliceData_row _ _ _ _ _ _ (by omega)
 have hUS : (Builtin.unsafeString_ #[124,3] 9 #[.pointer (some ⟨g,0,none⟩),.int .i64 l.length]).run Tryz.prog w.drew = .ok (.string ⟨l.toArray⟩) (w.drew.freeze ⟨g,0,none⟩ l.length):=by
  refine Lib.run_unsafeString_row w.drew 124 3 9 5 bPtr bCells g cur.size (by have hg' : w.drew.heap[g]? = some (.cells cur 5 (0,0)):=hg; simp [World.shape?,hg']) l h0 (by omega) (by unfold maxLen at hcm; omega) ?_
  intro j x hx
  have:=hown.cells (g:=g) rfl j (.int .u8 x.toNat) (by simp [Lib.byteCells,hx])
  exact this
 have hfz : SKept (.slice (some ⟨g,0,none⟩) l.length cap) w (w.drew.freeze ⟨g,0,none⟩ l.length):=by
  unfold World.freeze
  rw [if_neg hl0]
  refine ⟨rfl,rfl,rfl,by simp,fun k hk hne=>?_⟩
  simp only [Array.getElem?_modify]
  rw [if_neg (fun e=>hne (by rw [←e]; rfl))]
  rfl
 go_enter Tryz.func81,Tryz.ntmps81
 go_wp2
 go_region
 all_goals (go_wp2; go_ret; exact ⟨rfl,hfz⟩)
theorem string_nil (b : Nat) (p : Value) (w : World) (hbk : w.heap[b]? = some (.cells #[p,.slice none 0 0] 104 (0,0))) :
  Calls Tryz.prog 81 #[.pointer (some ⟨b,0,none⟩)] w fun e w'=>e = .returned (.string ⟨#[]⟩)∧SKept (.slice none 0 0) w w':=by
 have hUS:=unsafeString_none
 have c1 : w.drew.cell? ⟨b,1,none⟩ = some (.slice none 0 0):=by
  have : w.drew.heap[b]? = some (.cells #[p,.slice none 0 0] 104 (0,0)):=hbk
  rw [Lib.cell_of_heap this]; rfl
 have hSD : (Builtin.unsafeSliceData_ #[36] 124 #[.slice none 0 0]).run Tryz.prog w.drew = .ok (.pointer none) w.drew:=rfl
 go_enter Tryz.func81,Tryz.ntmps81
 go_wp2
 go_region
 all_goals (go_wp2; go_ret; exact ⟨rfl,SKept.drew _ w⟩)
theorem string_room (b g cap : Nat) (p : Value) (w : World) (hc0 : cap≠0) (hbk : w.heap[b]? = some (.cells #[p,.slice (some ⟨g,0,none⟩) 0 cap] 104 (0,0))) :
  Calls Tryz.prog 81 #[.pointer (some ⟨b,0,none⟩)] w fun e w'=>e = .returned (.string ⟨#[]⟩)∧SKept (.slice (some ⟨g,0,none⟩) 0 cap) w w':=by
 have hUS:=unsafeString_none
 have c1 : w.drew.cell? ⟨b,1,none⟩ = some (.slice (some ⟨g,0,none⟩) 0 cap):=by
  have : w.drew.heap[b]? = some (.cells #[p,.slice (some ⟨g,0,none⟩) 0 cap] 104 (0,0)):=hbk
  rw [Lib.cell_of_heap this]; rfl
 have hSD : (Builtin.unsafeSliceData_ #[36] 124 #[.slice (some ⟨g,0,none⟩) 0 cap]).run Tryz.prog w.drew = .ok (.pointer (some ⟨g,0,none⟩)) w.drew :=
  Lib.run_unsafeSliceData_row _ _ _ _ _ _ hc0
 clear hc0
 go_enter Tryz.func81,Tryz.ntmps81
 go_wp2
 go_region
 all_goals (go_wp2; go_ret; exact ⟨rfl,SKept.drew _ w⟩)
theorem string_noroom (b g : Nat) (p : Value) (cur : Array Value) (w : World) (hbk : w.heap[b]? = some (.cells #[p,.slice (some ⟨g,0,none⟩) 0 0] 104 (0,0))) (hg : w.heap[g]? = some (.cells cur 5 (0,0))) :
  Calls Tryz.prog 81 #[.pointer (some ⟨b,0,none⟩)] w fun e w'=>e = .returned (.string ⟨#[]⟩)∧SKept (.slice (some ⟨g,0,none⟩) 0 0) w w':=by
 have hUS:=unsafeString_none
 have hlt : b < w.heap.size:=by
  rcases Nat.lt_or_ge b w.heap.size with h' | h'
  ·exact h'
  ·simp [Array.getElem?_eq_none h'] at hbk
 have c1 : w.drew.cell? ⟨b,1,none⟩ = some (.slice (some ⟨g,0,none⟩) 0 0):=by
  have : w.drew.heap[b]? = some (.cells #[p,.slice (some ⟨g,0,none⟩) 0 0] 104 (0,0)):=hbk
  rw [Lib.cell_of_heap this]; rfl
 have hSD : (Builtin.unsafeSliceData_ #[36] 124 #[.slice (some ⟨g,0,none⟩) 0 0]).run Tryz.prog w.drew = .ok (.pointer (some ⟨w.drew.heap.size,0,none⟩)) (w.drew.alloc (.view ⟨g,0,none⟩ 5)) :=
  Lib.run_unsafeSliceData_zero w.drew _ _ 5 bPtr ⟨g,0,none⟩ 0 (5,cur.size) (by have hg' : w.drew.heap[g]? = some (.cells cur 5 (0,0)):=hg; simp [World.shape?,hg'])
 have c2 : (w.drew.alloc (.view ⟨g,0,none⟩ 5)).cell? ⟨b,1,none⟩ = some (.slice (some ⟨g,0,none⟩) 0 0):=by
  have : (w.drew.alloc (.view ⟨g,0,none⟩ 5)).heap[b]? = _:=(Lib.alloc_old w.drew _ b hlt).trans hbk
  rw [Lib.cell_of_heap this]; rfl
 have c3 : (w.alloc (.view ⟨g,0,none⟩ 5)).drew.cell? ⟨b,1,none⟩ = some (.slice (some ⟨g,0,none⟩) 0 0):=c2
 have c0 : w.cell? ⟨b,1,none⟩ = some (.slice (some ⟨g,0,none⟩) 0 0):=c1
 have hk : SKept (.slice (some ⟨g,0,none⟩) 0 0) w (w.alloc (.view ⟨g,0,none⟩ 5)).drew:=⟨rfl,rfl,rfl,by show w.heap.size≤(w.heap.push _).size; simp,fun k hk _=>Lib.alloc_old w _ k hk⟩
 go_enter Tryz.func81,Tryz.ntmps81
 go_wp2
 go_region
 all_goals (go_wp2; go_ret; exact ⟨rfl,hk⟩)
theorem SKept.b {v : Value} {b : Nat} {w w' : World} (h : SKept v w w') : BKept b v .nilIface w w' :=
 ⟨h.os,h.tape,h.output,h.size,fun k h1 _ h3=>h.block k h1 h3,fun k hk=>by simp [Value.ownBlock] at hk⟩
theorem string_run (b : Nat) (p v : Value) (s : List UInt8) (w : World) (A : BldAt w b p v s) :
  Calls Tryz.prog 81 #[.pointer (some ⟨b,0,none⟩)] w fun e w'=>e = .returned (.string (Sx.bytes s))∧SKept v w w':=by
 have hown:=A.own
 have hbk:=A.at_
 rcases hown.2 with ⟨rfl,h0⟩ | ⟨g,cap,cur,rfl,_,hg,hnc,hcm,hcs,_⟩
 ·obtain rfl : s = []:=List.eq_nil_of_length_eq_zero h0
  exact string_nil b p w hbk
 ·by_cases h0 : s = []
  ·subst h0
   by_cases hc : cap = 0
   ·subst hc; exact string_noroom b g p cur w hbk hg
   ·exact string_room b g cap p w hc hbk
  ·exact string_some b g cap p cur s w h0 hbk hg hown hnc hcm hcs
def spBS : FSpec:=fun _ xs ls K=>∃ (s : List UInt8),xs = [.ptr 0 0]∧ls = [.bld 104 5 s]∧K (.str s) [.gone]
theorem string_ok : FnOk Tryz.prog gl 81 spBS:=by
 refine ⟨⟨Tryz.f81,_,Tryz.func81,rfl,by kernel_rfl⟩,fun xs ls K h=>?_⟩
 obtain ⟨s,rfl,rfl,h⟩:=h
 refine ⟨_,_,h,callsTo_bld (as1:=[]) fun E b p v w vals A hr=>?_⟩
 obtain rfl : vals = []:=List.eq_nil_of_length_eq_zero (by have:=hr.1; simpa using this.symm)
 refine (string_run b p v s w A).mono ?_
 rintro e w' ⟨rfl,k⟩
 exact ⟨_,.nilIface,rfl,fun E=>.ro (.str rfl),k.b,rfl⟩
end Go.Proofs.YtefelnhpfdcleaaGreatDoor
namespace Go.Proofs.YtefelnhpfdcleaaGreatDoor
open Go Go.RowKit Go.Sx
set_option maxHeartbeats 2000000
set_option maxRecDepth 100000
theorem bStr : Tryz.prog.underlying 9 = some .string:=by kernel_rfl
theorem bByteI : ∃ i,Tryz.prog.info? 5 = some i∧i.zero = some (.int .u8 0)∧i.size = 1∧i.bytes = 1:=by
 obtain ⟨i,hi,h⟩:=Option.map_eq_some_iff.1 bByte
 simp only [Prod.mk.injEq] at h
 exact ⟨i,hi,h.1,h.2.1,h.2.2⟩
theorem str_law {w : World} {v : Value} {n : Nat} {xs : List Value} (hown : w.ownsRow 0 5 1 v n xs) (s : ByteArray) (hb : n + s.size≤140737488355328) :
  ∃ v' w',(Builtin.append_ #[36,9] 36 #[v,.string s]).run Tryz.prog w = .ok v' w'∧w'.ownsRow 0 5 1 v' (n + s.size) (xs ++ Lib.strCells s)∧w.grownBy w' v.ownBlock∧(v'.ownBlock = v.ownBlock∨v'.ownBlock = some w.heap.size):=by
 obtain ⟨i,hi,hz,hs1,hb1⟩:=bByteI
 have h63 : n + s.size≤maxLen:=by unfold maxLen; omega
 obtain ⟨v',w',hr,h2,h3,_⟩:=Lib.run_append_own_string (P:=Tryz.prog) w 0 36 9 36 5 i bSlice bStr hi hz hs1 hb1 v n xs hown s h63 hb (Nat.zero_le _)
 refine ⟨v',w',hr,h2,h3,?_⟩
 have hxl : xs.length = n:=by simpa using hown.1
 rcases hown.2 with ⟨rfl,rfl⟩ | ⟨g,cap,cur,rfl,hbg,hg,hnc,hcm,hcs,htake⟩
 ·by_cases hm : s.size = 0
  ·have hf:=Lib.run_firstCells_string (P:=Tryz.prog) w 1 s
   rw [hm] at hf
   simp [Builtin.append_,run_underlying bSlice,run_underlying bStr,sizeOf,typeInfo,hi,hs1,Builtin.lenOf,hm,hf] at hr
   left; rw [←hr.1]
  ·have hr2:=run_append_nil_string (P:=Tryz.prog) w 36 9 36 5 i (.int .u8 0) bSlice bStr hi hz s (by omega) (by unfold maxLen at h63; omega) (by rw [hb1]; omega)
   rw [hr] at hr2
   injection hr2 with e1 e2
   right; rw [e1]; rfl
 ·by_cases hroom : n + s.size≤cap
  ·have hcs' : cur.size = cap:=by simpa using hcs
   have hr2:=Lib.run_append_room_string (P:=Tryz.prog) w 36 9 36 5 i bSlice bStr hi hs1 g n cap cur hg s hroom (by omega)
   rw [hr] at hr2
   injection hr2 with e1 e2
   left; rw [e1]; rfl
  ·have holds : ∀ j u,xs[j]? = some u→w.cell? ((⟨g,0,none⟩ : Addr).add j) = some u:=hown.cells (g:=g) rfl
   have hr2:=Lib.run_append_grow_string (P:=Tryz.prog) w 36 9 36 5 i (.int .u8 0) bSlice bStr hi hz ⟨g,0,none⟩ n cap xs (by rw [hs1]; simpa using hxl) holds s (by omega) (by unfold maxLen at h63; omega) (by rw [hb1]; exact growslice_fits (by omega) (by omega))
   rw [hr] at hr2
   injection hr2 with e1 e2
   right; rw [e1]; rfl
theorem wpl_str {ops : Array Oper} {rest : List Oper} {o : Oper} {a : Act} {w : World} {Q : Exit→Act→World→Prop} (hgd : o.guard = none) (sl x : Operand)
  (ho : o.op = .call { callee:=.builtin .append,args:=#[sl,x],argTypes:=#[36,9] }) (hty : o.type = 36) {v : Value} {n : Nat} {xs : List Value} (hs : a.eval sl = v) (hown : w.ownsRow 0 5 1 v n xs) (s : ByteArray) (hx : a.eval x = .string s) (hb : n + s.size≤140737488355328)
  (h : ∀ v' w',w'.ownsRow 0 5 1 v' (n + s.size) (xs ++ Lib.strCells s)→w.grownBy w' v.ownBlock→(v'.ownBlock = v.ownBlock∨v'.ownBlock = some w.heap.size)→wpList Tryz.prog ops Q rest (a.put o.dst v') w') : wpList Tryz.prog ops Q (o :: rest) a w:=by
 refine wpList_plain hgd fun K hK=>?_
 obtain ⟨v',w',hr,h2,h3,h4⟩:=str_law hown s hb
 unfold Oper.wp execOp
 simp only [ho,hty,resolve,invoke,builtin,Sem.run_bind,Sem.run_pure,Result.andThen_ok,List.map_toArray,List.map_cons,List.map_nil,hs,hx,hr]
 exact hK _ _ (h v' w' h2 h3 h4)
theorem writeString_run (b : Nat) (p v : Value) (s t : List UInt8) (w : World) (hbk : w.heap[b]? = some (.cells #[p,v] 104 (0,0))) (hp : p = .pointer none∨p = .pointer (some ⟨b,0,none⟩)) (hown : w.ownsRow 0 5 1 v s.length (Lib.byteCells s)) (hne : v.ownBlock≠some b) (hlen : s.length + t.length≤140737488355328) :
  Calls Tryz.prog 80 #[.pointer (some ⟨b,0,none⟩),.string (Sx.bytes t)] w fun e w'=>e = .returned (.tuple #[.int .i64 t.length,.nilIface])∧∃ v',w'.heap[b]? = some (.cells #[.pointer (some ⟨b,0,none⟩),v'] 104 (0,0))∧w'.ownsRow 0 5 1 v' (s.length + t.length) (Lib.byteCells s ++ Lib.strCells (Sx.bytes t))∧v'.ownBlock≠some b∧BKept b v v' w w':=by
 have hts : (Sx.bytes t).size = t.length:=rfl
 go_enter Tryz.func80,Tryz.ntmps80
 go_wp2_with (go_at_call 108; refine (copyCheck_run b p v s _ hbk hp hown hne).mono ?_)
 rintro e w1 ⟨rfl,hbk1,hown1,k1,k2,k3,k4,k5⟩
 have c0 : w1.cell? ⟨b,0,none⟩ = some (.pointer (some ⟨b,0,none⟩)):=by rw [Lib.cell_of_heap hbk1]; rfl
 have c1 : w1.cell? ⟨b,1,none⟩ = some v:=by rw [Lib.cell_of_heap hbk1]; rfl
 go_wp2_with (at_builtin; refine wpl_str (v:=v) (n:=s.length) (xs:=Lib.byteCells s) rfl _ _ rfl rfl rfl hown1 (Sx.bytes t) rfl (by rw [hts]; exact hlen) ?_)
 intro v' w2 hown2 hg hblk
 have hlt : b < w1.heap.size:=by
  rcases Nat.lt_or_ge b w1.heap.size with h' | h'
  ·exact h'
  ·simp [Array.getElem?_eq_none h'] at hbk1
 have hold : ∀ k,k < w1.heap.size→some k≠v.ownBlock→w2.heap[k]? = w1.heap[k]?:=fun k hk hne2=>hg.block k hk hne2
 have hsz : w1.heap.size≤w2.heap.size:=hg.size
 have hgos : w2.os = w1.os∧w2.tape = w1.tape∧w2.output = w1.output:=⟨hg.os,hg.tape,hg.output⟩
 have hne2 : v'.ownBlock≠some b:=by
  rcases hblk with h | h
  ·rw [h]; exact hne
  ·rw [h]; intro e; simp at e; omega
 have hb2 : w2.heap[b]? = some (.cells #[.pointer (some ⟨b,0,none⟩),v] 104 (0,0)):=by rw [hold b hlt (fun e=>hne e.symm)]; exact hbk1
 have d0 : w2.cell? ⟨b,0,none⟩ = some (.pointer (some ⟨b,0,none⟩)):=by rw [Lib.cell_of_heap hb2]; rfl
 have d1 : w2.cell? ⟨b,1,none⟩ = some v:=by rw [Lib.cell_of_heap hb2]; rfl
 have f1 : w2.frozen? ⟨b,1,none⟩ = false:=Lib.frozen_of_heap hb2 1
 have hnew : ∀ k,v'.ownBlock = some k→v.ownBlock = some k∨w.heap.size≤k:=by
  intro k hk
  rcases hblk with h | h
  ·left; rw [←h]; exact hk
  ·right; rw [h] at hk; simp at hk; omega
 obtain ⟨v2,hv2⟩ : ∃ v2,v2 = v':=⟨_,rfl⟩
 have hsh : ∃ a c,v' = .slice a (s.length + t.length) c:=by
  rcases hown2.2 with ⟨h,h2⟩ | ⟨g,cap,cur,h,_⟩
  ·have h2 : s.length + t.length = 0:=h2
   rw [h,h2]; exact ⟨_,_,rfl⟩
  ·exact ⟨_,_,h⟩
 obtain ⟨ao,co,rfl⟩:=hsh
 go_wp2
 go_ret2
 refine ⟨by simp [hts],_,by simp [World.setCell,Array.getElem?_modify,hb2],?_,hne2,⟨?_,?_,?_,by simp [World.setCell]; omega,fun k h1 h2 h3=>?_,hnew⟩⟩
 ·exact hown2.kept (row:=some b) ⟨rfl,rfl,rfl,by simp [World.setCell],fun k _ hk=>RowKit.Below.heap_setCell _ _ _ _ (fun e=>hk (by simp [e]))⟩ (Or.inr hne2)
 ·exact hgos.1.trans k1
 ·exact hgos.2.1.trans k2
 ·exact hgos.2.2.trans k3
 ·rw [RowKit.Below.heap_setCell _ _ _ _ (fun e=>h2 (by simp [e])),hold k (by omega) h3]
  exact k5 k h2
def spWS : FSpec:=fun _ xs ls K=>∃ (s t : List UInt8),xs = [.ptr 0 0,.str t]∧ls = [.bld 104 5 s]∧s.length + t.length≤140737488355328∧∀ r n,r = s ++ t→n = (t.length : Int)→K (.tup [.int .i64 (.a n),.raw .nilIface]) [.bld 104 5 r]
theorem writeString_ok : FnOk Tryz.prog gl 80 spWS:=by
 refine ⟨⟨Tryz.f80,_,Tryz.func80,rfl,by kernel_rfl⟩,fun xs ls K h=>?_⟩
 obtain ⟨s,t,rfl,rfl,hs,h⟩:=h
 refine ⟨_,_,h _ _ rfl rfl,callsTo_bld fun E b p v w vals A hr=>?_⟩
 obtain ⟨u,rfl,hu⟩:=relL_one hr
 rw [rel_str hu]
 refine (writeString_run b p v s t w A.at_ A.pp A.own A.ne hs).mono ?_
 rintro e w' ⟨rfl,v',k1,k2,k3,k4⟩
 refine ⟨_,v',rfl,fun E=>?_,k4,rfl,rfl,_,.inr rfl,k1,?_,k3⟩
 ·refine .tup rfl fun i x y a b=>?_
  match i,a,b with
  | 0,a,b=>cases a; cases b; exact .ro (.int rfl)
  | 1,a,b=>cases a; cases b; exact .ro (.raw rfl)
 ·have : Lib.byteCells (s ++ t) = Lib.byteCells s ++ Lib.strCells (Sx.bytes t):=by simp [Lib.byteCells,Lib.strCells,Sx.bytes]
  rw [this,List.length_append]
  exact k2
end Go.Proofs.YtefelnhpfdcleaaGreatDoor
namespace Go.Proofs.YtefelnhpfdcleaaGreatDoor
open Go Go.Sx
set_option maxRecDepth 100000
set_option maxHeartbeats 16000000
def lineH (x : HF) : List UInt8:=((x.name ++ [58,32]) ++ x.value) ++ [13,10]
def linesL (l : List HF) : List UInt8:=l.flatMap lineH ++ [13,10]
def printF (l : List HF) : List UInt8×Int:=if checkF l≠0 then ([],checkF l) else (linesL l,0)
theorem checkL_field : ∀ {l : List HF} {n : Int},checkL l n = 0→∀ x∈l,x.name.length≤64∧x.value.length≤2000
 | [],_,_,x,hx=>by cases hx
 | y :: l,n,h,x,hx=>by
  unfold checkL at h
  split at h
  ·cases h
  ·rename_i hb
   split at h
   ·cases h
   ·rename_i hv
    rcases List.mem_cons.1 hx with rfl | hx
    ·refine ⟨?_,by omega⟩
     have hb : badH x = false:=by simpa using hb
     unfold badH at hb
     simp only [Bool.or_eq_false_iff,Bool.not_eq_false'] at hb
     have:=hb.1
     unfold tokenF at this
     simp only [Bool.and_eq_true,decide_eq_true_eq] at this
     exact this.2.2
    ·exact checkL_field h x hx
theorem checkF_field {l : List HF} (h : checkF l = 0) : ∀ x∈l,x.name.length≤64∧x.value.length≤2000:=by
 unfold checkF at h
 split at h
 ·cases h
 ·exact checkL_field h
def spPrint : FSpec:=fun _ xs ls K=>∃ (l : List HF) (nl : Bool) (n : Int) (f : Nat→List SV),xs = [.sl (.a nl) (.a n) 2 f]∧ls = []∧RowH f n l∧∀ t e,(t,e) = printF l→K (.tup [.str t,.int .i64 (.a e)]) []
structure PrJ (l : List HF) (k t : List UInt8) (i : Nat) (I : Int) (m : Nat) : Prop where
 lie : AtR l i I m
 k : k = t ++ linesL (l.drop i)
 len : t.length≤3000 * i
def prJ (l : List HF) (k : List UInt8) (nl : Bool) (n : Int) (f : Nat→List SV) (m : Nat) (vs : List (Option SV)) (hp : List Hl) : Prop :=
 ∃ (t : List UInt8) (i : Nat) (I : Int),vs = [some (.ptr 0 0),some (.sl (.a nl) (.a n) 2 f),some (.int .i64 (.a n)),some (.int .i64 (.a I))]∧hp = [.bld 104 5 t]∧PrJ l k t i I m
theorem print_ok : FnOk Tryz.prog gl 44 spPrint:=by
 refine fnOk (gh:=[(4,[.bld 5 5])]) mixed cxOk (tabCons check_ok (tabCons writeString_ok (tabCons string_ok tabNil))) Tryz.func44 (by kernel_rfl) (by kernel_rfl) ?_
 intro xs ls K h
 unfold spPrint at h
 obtain ⟨l,nl,n,f,rfl,rfl,R,h⟩:=h
 obtain ⟨k,hk⟩ : ∃ k,k = printF l:=⟨_,rfl⟩
 obtain ⟨kt,ke⟩:=k
 refine ⟨_,_,h kt ke hk,fun D hD=>?_⟩
 clear h
 unfold printF at hk
 obtain ⟨J,hJ⟩ : ∃ J,J = prJ l kt nl n f:=⟨_,rfl⟩
 cbv
 refine ⟨l,_,_,f,rfl,rfl,by subst hD; exact R,fun e he=>?_⟩
 cbv
 have hcf:=checkF_field (l:=l)
 have hcl:=checkF_len (l:=l)
 rw [←he] at hk hcf hcl
 clear he
 refine br hD (fun h=>?_) (fun h=>?_)<;>cbv
 ·have h1 : e≠0:=by simpa using h
  rw [if_pos h1] at hk
  simp only [Prod.mk.injEq] at hk
  obtain ⟨hq1,hq2⟩:=hk
  subst hq1 hq2
  subst hD
  exact fin_eq rfl rfl
 have h1 : e = 0:=by simpa using h
 rw [if_neg (by simp [h1])] at hk
 simp only [Prod.mk.injEq] at hk
 obtain ⟨hq1,hq2⟩:=hk
 have hcf:=hcf h1
 have hcl:=hcl h1
 clear h
 refine ⟨[5,13,14,15],J,⟨rfl,l.length,?_⟩,?_⟩
 ·rw [hJ]
  subst hD
  exact ⟨[],0,0,rfl,rfl,AtR.zero R.len,hq1,by simp⟩
 clear hq1
 intro m vs hp hj
 rw [hJ] at hj
 obtain ⟨t,i,I,rfl,rfl,V⟩:=hj
 cbv
 refine br hD (fun h=>?_) (fun h=>?_)<;>cbv
 ·have hlt:=V.lie.lt R.n (of_decide_eq_true (p:=I < n) h)
  clear h
  refine ⟨V.lie.inB hD R.n hlt,fun j hj=>?_⟩
  obtain rfl:=V.lie.j hD hj
  clear hj
  have e1:=R.f j hlt
  have hsm:=hcf (l.getD j default) (by rw [List.getD_eq_getElem?_getD,List.getElem?_eq_getElem hlt]; exact List.getElem_mem hlt)
  have hk2:=V.k
  have hlen:=V.len
  rw [dropR (d:=default) hlt] at hk2
  obtain ⟨x,hx⟩ : ∃ x,x = l.getD j default:=⟨_,rfl⟩
  rw [←hx] at e1 hk2 hsm
  obtain ⟨a,b⟩:=x
  simp only at hsm
  cbv
  rw [e1]
  cbv
  refine ⟨⟨by simp only [List.length_cons,List.length_nil]; omega⟩,fun s1 hs1=>?_⟩
  cbv
  have hs1 : s1 = a ++ [58,32]:=hs1.h
  have l1 : s1.length≤66:=by rw [hs1]; simp; omega
  refine ⟨⟨by omega⟩,fun s2 hs2=>?_⟩
  cbv
  have hs2 : s2 = s1 ++ b:=hs2.h
  have l2 : s2.length≤2066:=by rw [hs2]; simp; omega
  refine ⟨⟨by simp only [List.length_cons,List.length_nil]; omega⟩,fun s3 hs3=>?_⟩
  cbv
  have hs3 : s3 = s2 ++ [13,10]:=hs3.h
  have l3 : s3.length≤2068:=by rw [hs3]; simp; omega
  have hline : s3 = lineH ⟨a,b⟩:=by rw [hs3,hs2,hs1]; rfl
  clear hs1 hs2 hs3
  refine ⟨t,s3,rfl,rfl,by omega,fun r nn hr hnn=>?_⟩
  cbv
  obtain ⟨g1,g2⟩:=V.lie.step hD hlt
  refine ⟨_,g1,?_⟩
  rw [hJ]
  unfold prJ
  subst hD
  refine ⟨r,j + 1,_,rfl,rfl,g2,?_,?_⟩
  ·rw [hk2,hr,hline]; simp [linesL]
  ·rw [hr,List.length_append]; omega
 ·have hi:=V.lie.eq R.n (of_decide_eq_false (p:=I < n) h)
  have hk2:=V.k
  have hlen:=V.len
  rw [hi,List.drop_length] at hk2
  clear h
  refine ⟨t,[13,10],rfl,rfl,by simp only [List.length_cons,List.length_nil]; omega,fun r nn hr hnn=>?_⟩
  cbv
  have hk3 : r = kt:=by rw [hr,hk2]; rfl
  refine ⟨r,rfl,rfl,?_⟩
  cbv
  rw [hk3,hq2]
  subst hD
  exact fin_eq rfl rfl
end Go.Proofs.YtefelnhpfdcleaaGreatDoor
namespace Go.Proofs.YtefelnhpfdcleaaGreatDoor
open Go Go.Sx
set_option maxRecDepth 100000
set_option maxHeartbeats 4000000
def sVer : List UInt8:=[32,72,84,84,80,47,49,46,49,13,10]
def encodeF (r : Rq) : List UInt8×Int :=
 if (examineF r).2.2≠0 then ([],(examineF r).2.2) else if (printF (examineF r).2.1).2≠0 then ([],(printF (examineF r).2.1).2) else
 (((((r.method ++ [32]) ++ r.target) ++ sVer) ++ (printF (examineF r).2.1).1) ++ r.body,0)
structure ExOk (r : Rq) : Prop where
 method : isMethodF r.method = true
 org : (orgF r.target).2 = 0
 chk : (chkFieldsF r).2 = 0
 host : hostF r.host = true
 body : r.body.length≤65536
 fields : (examineF r).2.1 = (chkFieldsF r).1
 id1 : 1≤r.id
 id2 : r.id≤1000000000
 part : (examineF r).1 = []
theorem examineF_ok {r : Rq} (h : (examineF r).2.2 = 0) : ExOk r:=by
 have h0:=h
 unfold examineF at h
 split at h
 ·cases h
 ·rename_i g1
  split at h
  ·cases h
  ·rename_i g2
   split at h
   ·cases h
   ·rename_i g3
    split at h
    ·rename_i g4; exact absurd h g4
    ·rename_i g4
     split at h
     ·cases h
     ·rename_i g5
      split at h
      ·rename_i g6; exact absurd h g6
      ·rename_i g6
       split at h
       ·cases h
       ·rename_i g7
        split at h
        ·cases h
        ·rename_i g8
         refine ⟨by simpa using g2,by simpa using g4,by simpa using g6,by simpa using g5,by omega,?_,by omega,by omega,?_⟩
         ·unfold examineF
          rw [if_neg g1,if_neg g2,if_neg g3,if_neg g4,if_neg g5,if_neg g6,if_neg g7,if_neg g8]
         ·unfold examineF
          rw [if_neg g1,if_neg g2,if_neg g3,if_neg g4,if_neg g5,if_neg g6,if_neg g7,if_neg g8]
theorem ExOk.method_len {r : Rq} (E : ExOk r) : r.method.length≤16:=by
 have:=E.method
 unfold isMethodF at this
 simp only [Bool.and_eq_true,decide_eq_true_eq] at this
 exact this.1
theorem linesL_len {l : List HF} (h : ∀ x∈l,x.name.length≤64∧x.value.length≤2000) : (linesL l).length≤3000 * l.length + 2:=by
 have : (l.flatMap lineH).length≤3000 * l.length:=by
  induction l with
  | nil=>simp
  | cons x l ih =>
   have h1:=h x (List.mem_cons_self ..)
   have h2:=ih fun y hy=>h y (List.mem_cons_of_mem _ hy)
   simp only [List.flatMap_cons,List.length_append,List.length_cons,lineH,List.length_nil]
   omega
 unfold linesL
 simp only [List.length_append,List.length_cons,List.length_nil]
 omega
theorem printF_len {l : List HF} : (printF l).1.length≤400000:=by
 unfold printF
 split
 ·simp
 ·rename_i h
  have h : checkF l = 0:=by simpa using h
  have h1:=linesL_len (checkF_field h)
  have h2:=checkF_len h
  simp only; omega
def spEnc : FSpec:=fun _ xs ls K=>∃ (r : Rq) (nl : Bool) (n : Int) (f : Nat→List SV),xs = [.agg [.int .i64 (.a r.id),.str r.method,.str r.target,.str r.host,.sl (.a nl) (.a n) 2 f,.str r.body]]∧ls = []∧RqOk r nl n f∧
 ∀ t e,(t,e) = encodeF r→K (.tup [.str t,.int .i64 (.a e)]) []
theorem encode_ok : FnOk Tryz.prog gl 18 spEnc:=by
 refine fnOk (gh:=[]) mixed cxOk (tabCons exam_ok (tabCons print_ok tabNil)) Tryz.func18 (by kernel_rfl) (by kernel_rfl) ?_
 intro xs ls K h
 unfold spEnc at h
 obtain ⟨r,nl,n,f,rfl,rfl,R,h⟩:=h
 obtain ⟨k,hk⟩ : ∃ k,k = encodeF r:=⟨_,rfl⟩
 obtain ⟨kt,ke⟩:=k
 refine ⟨_,_,h kt ke hk,fun D hD=>?_⟩
 clear h
 unfold encodeF at hk
 have hE:=examineF_ok (r:=r)
 have hM : (examineF r).2.2 = 0→r.method.length≤16:=fun h=>(hE h).method_len
 have hT : (examineF r).2.2 = 0→r.target.length≤500:=fun h=>orgF_len (hE h).org
 have hB : (examineF r).2.2 = 0→r.body.length≤65536:=fun h=>(hE h).body
 clear hE
 obtain ⟨ck,hck⟩ : ∃ w,w = examineF r:=⟨_,rfl⟩
 rw [←hck] at hk hM hT hB
 obtain ⟨cp,cl,ce⟩:=ck
 obtain ⟨id,me,ta,ho,fs,bo⟩:=r
 simp only at hk hM hT hB
 cbv
 refine ⟨⟨id,me,ta,ho,fs,bo⟩,nl,n,f,by subst hD; rfl,rfl,R,fun p l e nb2 n3 g3 hc R3 hnb2=>?_⟩
 cbv
 rw [←hck] at hc
 simp only [Prod.mk.injEq] at hc
 obtain ⟨hq1,hq2,hq3⟩:=hc
 subst hq1 hq2 hq3
 clear hck
 refine br hD (fun h=>?_) (fun h=>?_)<;>cbv
 ·have h1 : e≠0:=by simpa using h
  rw [if_pos h1] at hk
  simp only [Prod.mk.injEq] at hk
  obtain ⟨hq1,hq2⟩:=hk
  subst hq1 hq2
  subst hD
  exact fin_eq rfl rfl
 have h1 : e = 0:=by simpa using h
 rw [if_neg (by simp [h1])] at hk
 have hM:=hM h1
 have hT:=hT h1
 have hB:=hB h1
 clear h
 refine ⟨l,_,_,g3,rfl,rfl,by subst hD; exact R3,fun t e2 ht=>?_⟩
 cbv
 have hPl:=printF_len (l:=l)
 rw [←ht] at hk hPl
 simp only at hk hPl
 clear ht
 refine br hD (fun h=>?_) (fun h=>?_)<;>cbv
 ·have h1 : e2≠0:=by simpa using h
  rw [if_pos h1] at hk
  simp only [Prod.mk.injEq] at hk
  obtain ⟨hq1,hq2⟩:=hk
  subst hq1 hq2
  subst hD
  exact fin_eq rfl rfl
 have h1 : e2 = 0:=by simpa using h
 rw [if_neg (by simp [h1])] at hk
 simp only [Prod.mk.injEq] at hk
 obtain ⟨hq1,hq2⟩:=hk
 clear h
 refine ⟨⟨by simp only [List.length_cons,List.length_nil]; omega⟩,fun s1 hs1=>?_⟩
 cbv
 have hs1 : s1 = me ++ [32]:=hs1.h
 have l1 : s1.length≤17:=by rw [hs1]; simp; omega
 refine ⟨⟨by omega⟩,fun s2 hs2=>?_⟩
 cbv
 have hs2 : s2 = s1 ++ ta:=hs2.h
 have l2 : s2.length≤517:=by rw [hs2]; simp; omega
 refine ⟨⟨by simp only [List.length_cons,List.length_nil]; omega⟩,fun s3 hs3=>?_⟩
 cbv
 have hs3 : s3 = s2 ++ sVer:=hs3.h
 have l3 : s3.length≤528:=by rw [hs3,List.length_append]; have : sVer.length = 11:=rfl; omega
 refine ⟨⟨by omega⟩,fun s4 hs4=>?_⟩
 cbv
 have hs4 : s4 = s3 ++ t:=hs4.h
 have l4 : s4.length≤400528:=by rw [hs4,List.length_append]; omega
 refine ⟨⟨by omega⟩,fun s5 hs5=>?_⟩
 cbv
 have hs5 : s5 = s4 ++ bo:=hs5.h
 have : s5 = kt:=by rw [hs5,hs4,hs3,hs2,hs1,hq1]
 rw [this,hq2]
 subst hD
 exact fin_eq rfl rfl
end Go.Proofs.YtefelnhpfdcleaaGreatDoor
namespace Go.Proofs.YtefelnhpfdcleaaGreatDoor
open Go Go.Sx
set_option maxRecDepth 100000
set_option maxHeartbeats 4000000
def findV (t : List UInt8) : List HF→Option (List UInt8)
 | []=>none
 | x :: l=>if foldF x.name = t then some x.value else findV t l
def keyBad (kind : Int) (name : List UInt8) : Bool :=
 (!(kind == 3) && kind != 1 && kind != 2 || (kind == 3) && !tokenF name) || !(kind == 3) && name != []
def keyF (r : Rq) (kind : Int) (name : List UInt8) : List UInt8×Int :=
 if keyBad kind name then ([],2) else if (checkRF r).2≠0 then ([],(checkRF r).2) else
 if kind = 2 then (r.host,0) else if kind = 1 then ((cutF 63 (cleanF r.target).1).1,(cleanF r.target).2) else
 match findV (foldF name) r.fields with
 | some v=>(v,0)
 | none=>([],4)
def totS (l : List (List UInt8)) : Nat:=(l.map fun x=>x.length + 1).sum
theorem totS_append (a b : List (List UInt8)) : totS (a ++ b) = totS a + totS b:=by simp [totS]
theorem totS_one (x : List UInt8) : totS [x] = x.length + 1:=by simp [totS]
theorem totS_pop : ∀ (l : List (List UInt8)),totS l.dropLast≤totS l
 | []=>Nat.le_refl _
 | [x]=>by simp [totS]
 | x :: y :: l=>by
  have:=totS_pop (y :: l)
  rw [List.dropLast_cons_cons]
  simp only [totS,List.map_cons,List.sum_cons] at this ⊢
  omega
theorem cstep_tot (σ : CS) (s : List UInt8) (last : Bool) : totS (cstep σ s last).1≤totS σ.1 + s.length + 1:=by
 have hp : totS (if s = [46,46]∧σ.1≠[] then cpop σ else σ).1≤totS σ.1:=by
  split
  ·exact totS_pop σ.1
  ·exact Nat.le_refl _
 unfold cstep
 split
 ·simp only [capp,totS_append,totS_one]; omega
 ·split
  ·simp only [capp,totS_append,totS_one,List.length_nil]; omega
  ·omega
theorem cutF_sum {c : UInt8} {s : List UInt8} (h : (cutF c s).2.2 = true) : (cutF c s).1.length + (cutF c s).2.1.length + 1≤s.length:=by
 obtain ⟨_,_,h3,h4⟩:=cutF_yes h
 rw [h3,List.length_drop]; omega
theorem segFold_tot : ∀ (n : Nat) (σ : CS) (rest : List UInt8),rest.length≤n→totS (segFold σ rest).1≤totS σ.1 + rest.length + 1
 | n,σ,rest,h=>by
  rw [segFold]
  split
  ·rename_i hc
   have h1:=cutF_sum hc
   cases n with
   | zero=>omega
   | succ n =>
    have h2:=segFold_tot n (cstep σ (cutF 47 rest).1 false) (cutF 47 rest).2.1 (by omega)
    have h3:=cstep_tot σ (cutF 47 rest).1 false
    omega
  ·have h3:=cstep_tot σ (cutF 47 rest).1 true
   have:=(cutF_len 47 rest).1
   omega
theorem joinTail_tot : ∀ (l : List (List UInt8)),(Lib.joinTail [47] l).length = totS l
 | []=>by simp [Lib.joinTail,totS]
 | x :: l=>by
  have h1:=joinTail_tot l
  have : Lib.joinTail [47] (x :: l) = [47] ++ x ++ Lib.joinTail [47] l:=by simp [Lib.joinTail]
  rw [this]
  simp only [List.length_append,List.length_cons,List.length_nil,h1,totS,List.map_cons,List.sum_cons]
  omega
theorem join_tot (l : List (List UInt8)) : (Lib.join l [47]).length≤totS l:=by
 cases l with
 | nil=>simp [Lib.join_nil]
 | cons x l =>
  rw [Lib.join_cons,List.length_append,joinTail_tot]
  simp only [totS,List.map_cons,List.sum_cons]
  omega
theorem cleanF_len (s : List UInt8) : (cleanF s).1.length≤100000:=by
 unfold cleanF
 split
 ·simp
 ·rename_i h
  obtain ⟨sp,hsp⟩ : ∃ x,x = splitF s:=⟨_,rfl⟩
  obtain ⟨p,q,hb,e⟩:=sp
  rw [←hsp] at h ⊢
  have he : e = 0:=by simpa using h
  subst he
  obtain ⟨_,h1,h2,h3⟩:=splitF_ok hsp
  simp only
  have n1:=(normL_len p p.length 0 (by omega)).1
  have n2:=(normL_len q q.length 0 (by omega)).1
  have t1:=segFold_tot ((normL p 0).drop 1).length ([],true,0) ((normL p 0).drop 1) (Nat.le_refl _)
  have t2:=join_tot (segFold ([],true,0) ((normL p 0).drop 1)).1
  simp only [totS,List.map_nil,List.sum_nil,List.length_drop] at t1
  simp only [totS] at t2
  simp only [List.length_append,List.length_cons,List.length_nil]
  split
  ·simp only [List.length_append,List.length_cons,List.length_nil]; omega
  ·simp only [List.length_nil]; omega
def spKey : FSpec:=fun _ xs ls K=>∃ (r : Rq) (kind : Int) (name : List UInt8) (nl : Bool) (n : Int) (f : Nat→List SV),xs = [.agg [.int .i64 (.a r.id),.str r.method,.str r.target,.str r.host,.sl (.a nl) (.a n) 2 f,.str r.body],.int .i64 (.a kind),.str name]∧ls = []∧RqOk r nl n f∧name.length≤9223372036854775807∧
 ∀ t e,(t,e) = keyF r kind name→K (.tup [.str t,.int .i64 (.a e)]) []
structure KyJ (l : List HF) (k : Option (List UInt8)) (t : List UInt8) (i : Nat) (I : Int) (m : Nat) : Prop where
 lie : AtR l i I m
 k : k = findV t (l.drop i)
def kyJ (r : Rq) (k : Option (List UInt8)) (name : List UInt8) (nl : Bool) (n : Int) (f : Nat→List SV) (m : Nat) (vs : List (Option SV)) (hp : List Hl) : Prop :=
 ∃ (i : Nat) (I : Int),vs = [some (.str name),some (.sl (.a nl) (.a n) 2 f),some (.int .i64 (.a n)),some (.int .i64 (.a I))]∧hp = [.blk 31 [.int .i64 (.a r.id),.str r.method,.str r.target,.str r.host,.sl (.a nl) (.a n) 2 f,.str r.body]]∧KyJ r.fields k (foldF name) i I m
theorem key_ok : FnOk Tryz.prog gl 20 spKey:=by
 refine fnOk (gh:=[]) mixed cxOk (tabCons token_ok (tabCons checkR_ok (tabCons clean_ok (tabCons cut_ok (tabCons fold_ok tabNil))))) Tryz.func20 (by kernel_rfl) (by kernel_rfl) ?_
 intro xs ls K h
 unfold spKey at h
 obtain ⟨r,kind,name,nl,n,f,rfl,rfl,R,hnm,h⟩:=h
 obtain ⟨id,me,ta,ho,fs,bo⟩:=r
 have Rta:=R.target
 have Rrow:=R.row
 simp only at Rta Rrow
 obtain ⟨k,hk0⟩ : ∃ k,k = keyF ⟨id,me,ta,ho,fs,bo⟩ kind name:=⟨_,rfl⟩
 obtain ⟨kt,ke⟩:=k
 have hk:=hk0
 unfold keyF keyBad at hk
 obtain ⟨fv,hfv⟩ : ∃ a,a = findV (foldF name) fs:=⟨_,rfl⟩
 obtain ⟨J,hJ⟩ : ∃ J,J = kyJ ⟨id,me,ta,ho,fs,bo⟩ fv name nl n f:=⟨_,rfl⟩
 simp only at hk
 rw [←hfv] at hk
 obtain ⟨ck,hck⟩ : ∃ w,w = checkRF ⟨id,me,ta,ho,fs,bo⟩:=⟨_,rfl⟩
 rw [←hck] at hk
 obtain ⟨cp,ce⟩:=ck
 simp only at hk
 refine ⟨_,_,h kt ke hk0,fun D hD=>?_⟩
 cbv
 clear h hk0
 refine ⟨name,rfl,rfl,hnm,fun tk htk=>?_⟩
 cbv
 rw [←htk] at hk
 clear htk
 refine br hD (fun h=>?_) (fun h=>?_)<;>cbv
 ·have h1 : ((!(kind == 3) && kind != 1 && kind != 2 || (kind == 3) && !tk) || !(kind == 3) && name != []) = true:=h
  rw [if_pos h1] at hk
  simp only [Prod.mk.injEq] at hk
  obtain ⟨hq1,hq2⟩:=hk
  subst hq1 hq2
  subst hD
  exact fin_eq rfl rfl
 have h1 : ((!(kind == 3) && kind != 1 && kind != 2 || (kind == 3) && !tk) || !(kind == 3) && name != []) = false:=h
 rw [if_neg (by rw [h1]; simp)] at hk
 clear h h1
 refine ⟨⟨id,me,ta,ho,fs,bo⟩,nl,n,f,by subst hD; rfl,rfl,R,fun p e hc=>?_⟩
 cbv
 rw [←hck] at hc
 simp only [Prod.mk.injEq] at hc
 obtain ⟨hq1,hq2⟩:=hc
 subst hq1 hq2
 clear hck
 refine br hD (fun h=>?_) (fun h=>?_)<;>cbv
 ·have h1 : e≠0:=by simpa using h
  rw [if_pos h1] at hk
  simp only [Prod.mk.injEq] at hk
  obtain ⟨hq1,hq2⟩:=hk
  subst hq1 hq2
  subst hD
  exact fin_eq rfl rfl
 have h1 : ¬ e≠0:=by simpa using h
 rw [if_neg h1] at hk
 clear h h1
 refine br hD (fun h=>?_) (fun h=>?_)<;>cbv
 ·have h1 : kind = 2:=by simpa using h
  rw [if_pos h1] at hk
  simp only [Prod.mk.injEq] at hk
  obtain ⟨hq1,hq2⟩:=hk
  subst hq1 hq2
  subst hD
  exact fin_eq rfl rfl
 have h1 : ¬ kind = 2:=by simpa using h
 rw [if_neg h1] at hk
 clear h h1
 refine br hD (fun h=>?_) (fun h=>?_)<;>cbv
 ·have h1 : kind = 1:=by simpa using h
  rw [if_pos h1] at hk
  have hcl:=cleanF_len ta
  clear h h1
  refine ⟨ta,rfl,rfl,Rta,fun t e2 ht=>?_⟩
  cbv
  rw [←ht] at hk hcl
  simp only at hk hcl
  clear ht
  refine ⟨t,63,rfl,rfl,hcl,fun a b c hab=>?_⟩
  cbv
  rw [←hab] at hk
  simp only [Prod.mk.injEq] at hk
  obtain ⟨hq1,hq2⟩:=hk
  subst hq1 hq2
  subst hD
  exact fin_eq rfl rfl
 have h1 : ¬ kind = 1:=by simpa using h
 rw [if_neg h1] at hk
 clear h h1
 refine ⟨[2,73,74,75],J,⟨rfl,fs.length,?_⟩,?_⟩
 ·rw [hJ]
  subst hD
  exact ⟨0,0,rfl,rfl,AtR.zero Rrow.len,hfv⟩
 clear hfv
 intro m vs hp hj
 rw [hJ] at hj
 obtain ⟨i,I,rfl,rfl,V⟩:=hj
 simp only at V
 cbv
 refine br hD (fun h=>?_) (fun h=>?_)<;>cbv
 ·have hlt:=V.lie.lt Rrow.n (of_decide_eq_true (p:=I < n) h)
  clear h
  refine ⟨V.lie.inB hD Rrow.n hlt,fun j hj=>?_⟩
  obtain rfl:=V.lie.j hD hj
  clear hj
  have e1:=Rrow.f j hlt
  have hsm:=Rrow.small j hlt
  have hk2:=V.k
  rw [dropR (d:=default) hlt] at hk2
  obtain ⟨x,hx⟩ : ∃ x,x = fs.getD j default:=⟨_,rfl⟩
  rw [←hx] at e1 hk2 hsm
  obtain ⟨a,b⟩:=x
  cbv
  rw [e1]
  cbv
  refine ⟨a,rfl,rfl,hsm.1,fun t ht=>?_⟩
  cbv
  have ht : t = foldF a:=ht
  refine ⟨name,rfl,rfl,hnm,fun u hu=>?_⟩
  cbv
  have hu : u = foldF name:=hu
  refine br hD (fun h=>?_) (fun h=>?_)<;>cbv
  ·have h1 : foldF a = foldF name:=by
    have h : (t == u) = true:=h
    rw [←ht,←hu]; exact eq_of_beq h
   rw [findV,if_pos h1] at hk2
   rw [hk2] at hk
   simp only [Prod.mk.injEq] at hk
   obtain ⟨hq1,hq2⟩:=hk
   subst hq1 hq2
   subst hD
   exact fin_eq rfl rfl
  ·have h1 : ¬ foldF a = foldF name:=by
    have h : (t == u) = false:=h
    rw [←ht,←hu]; intro e; rw [e] at h; simp at h
   rw [findV,if_neg h1] at hk2
   obtain ⟨g1,g2⟩:=V.lie.step hD hlt
   refine ⟨_,g1,?_⟩
   rw [hJ]
   unfold kyJ
   subst hD
   exact ⟨j + 1,_,rfl,rfl,g2,hk2⟩
 ·have hi:=V.lie.eq Rrow.n (of_decide_eq_false (p:=I < n) h)
  have hk2:=V.k
  rw [hi,List.drop_length] at hk2
  have hk3 : fv = none:=hk2
  rw [hk3] at hk
  simp only [Prod.mk.injEq] at hk
  obtain ⟨hq1,hq2⟩:=hk
  subst hq1 hq2
  subst hD
  exact fin_eq rfl rfl
end Go.Proofs.YtefelnhpfdcleaaGreatDoor
namespace Go.Proofs.YtefelnhpfdcleaaGreatDoor
open Go Go.Sx
set_option maxRecDepth 100000
set_option maxHeartbeats 16000000
structure DeJ (s k t : List UInt8) (i : Nat) (I n : Int) (f : Nat→List SV) (m : Nat) : Prop where
 lie : At s i I m
 row : RowU f n t
 k : k = t ++ normL s i
 le : t.length≤i
 len : s.length≤100000
def deJ (s k : List UInt8) (m : Nat) (vs : List (Option SV)) (hp : List Hl) : Prop :=
 ∃ (t : List UInt8) (i : Nat) (I n : Int) (nl : Bool) (f : Nat→List SV),vs = [some (.str s),some (.gsl (.a nl) (.a n) 1 f 0),some (.int .i64 (.a I))]∧hp = [.tail 5 (.a n) 1]∧DeJ s k t i I n f m
theorem quo16 : ∀ v : Fin 256,binDen .quo .u8 (v.1 : Int) 16 = ((v.1 / 16 : Nat) : Int):=by decide
theorem rem16 : ∀ v : Fin 256,binDen .rem .u8 (v.1 : Int) 16 = ((v.1 % 16 : Nat) : Int):=by decide
theorem escV_at {s : List UInt8} {i : Nat} (h : escAt s i = true) : escV s i = 16 * valueI (charI s (i + 1)) + valueI (charI s (i + 2))∧0≤valueI (charI s (i + 1))∧0≤valueI (charI s (i + 2)):=by
 have hP : hexP s i:=of_decide_eq_true h
 unfold escV
 rw [if_pos hP]
 exact ⟨rfl,hP.2.2.1,hP.2.2.2⟩
theorem decoded_ok : FnOk Tryz.prog gl 42 spNormal:=by
 refine fnOk (gh:=[(1,[.attach 3 5])]) mixed cxOk (tabCons encoded_ok (tabCons hex_ok (tabCons plainR_ok tabNil))) Tryz.func42 (by kernel_rfl) (by kernel_rfl) ?_
 intro xs ls K h
 unfold spNormal at h
 obtain ⟨s,rfl,rfl,hs,h⟩:=h
 obtain ⟨k,hk⟩ : ∃ k,k = normL s 0:=⟨_,rfl⟩
 refine ⟨_,_,h k hk,fun D hD=>?_⟩
 cbv
 clear h
 obtain ⟨J,hJ⟩ : ∃ J,J = deJ s k:=⟨_,rfl⟩
 refine ⟨[0,3,4],J,⟨rfl,s.length,?_⟩,?_⟩
 ·rw [hJ]
  subst hD
  exact ⟨[],0,_,_,_,_,rfl,rfl,At.zero (by omega),⟨rfl,fun i hi=>absurd hi (by simp)⟩,hk,Nat.le_refl _,hs⟩
 clear hk
 intro m vs hp hj
 rw [hJ] at hj
 obtain ⟨t,i,I,n,nl,f,rfl,rfl,V⟩:=hj
 cbv
 refine br hD (fun h=>?_) (fun h=>?_)<;>cbv
 ·have hlt:=V.lie.lt (of_decide_eq_true (p:=I < (s.length : Int)) h)
  clear h
  refine ⟨s,i,I,by subst hD; rfl,rfl,V.lie.I,by omega,by omega,fun b hb2=>?_⟩
  cbv
  refine br hD (fun h=>?_) (fun h=>?_)<;>cbv
  ·have he : escAt s i = false:=by rw [←hb2]; have h : (!b) = true:=h; simpa using h
   clear h
   refine ⟨V.lie.inS hD hlt,fun c hc=>?_⟩
   cbv
   have hc2:=charOf hD V.lie.I hc
   clear hc
   intro g hg
   cbv
   have hg0 : g 0 = [.int .u8 (.a c)]:=by subst hD; exact hg.h 0 _ rfl
   clear hg
   refine ⟨by subst hD; exact ⟨rfl,by have:=V.row.n; have:=V.le; show (n + 1) * 1≤_; omega,by have:=V.row.n; have:=V.le; show n + 1≤_; omega⟩,fun f' n' hm=>?_⟩
   cbv
   have R2 : RowU f' n' (t ++ [s.getD i 0]):=by
    subst hD
    refine V.row.more (m:=1) rfl (fun j hj=>?_) hm
    have : j = 0:=by simpa using hj
    subst this
    rw [hg0]
    have:=hc2.h
    rw [this]; rfl
   clear hm
   refine ⟨s.length - (i + 1),by have:=V.lie.m; omega,?_⟩
   rw [hJ]
   unfold deJ
   subst hD
   refine ⟨t ++ [s.getD i 0],i + 1,_,n',_,f',rfl,rfl,(V.lie.step rfl hlt).2,R2,?_,?_,hs⟩
   ·rw [V.k,normL_one hlt he]; simp
   ·have:=V.le; simp; omega
  have he : escAt s i = true:=by rw [←hb2]; have h : (!b) = false:=h; simpa using h
  have h3:=escAt_len he
  obtain ⟨hev,hv1,hv2⟩:=escV_at he
  have hvle:=escV_le s i
  clear h hb2
  have w1 : IntKind.i64.wrap (I + 1) = I + 1:=by have:=V.lie.I; exact wrap64 (by omega) (by omega)
  have w2 : IntKind.i64.wrap (I + 2) = I + 2:=by have:=V.lie.I; exact wrap64 (by omega) (by omega)
  refine ⟨by subst hD; exact ⟨by show 0≤IntKind.i64.wrap (I + 1); rw [w1]; have:=V.lie.I; omega,by show IntKind.i64.wrap (I + 1) < (s.length : Int); rw [w1]; have:=V.lie.I; omega⟩,fun x hx=>?_⟩
  cbv
  have hx2 : CharAt x s (i + 1):=byteAt hD (e:=.bin .add .i64 (.a I) (.l 1)) (by show IntKind.i64.wrap (I + 1) = _; rw [w1,V.lie.I]; rfl) hx
  clear hx
  refine ⟨_,rfl,rfl,by subst hD; exact hx2.le,fun a ha=>?_⟩
  cbv
  have ha : a = valueI x:=by subst hD; exact ha
  refine ⟨by subst hD; exact ⟨by show 0≤IntKind.i64.wrap (I + 2); rw [w2]; have:=V.lie.I; omega,by show IntKind.i64.wrap (I + 2) < (s.length : Int); rw [w2]; have:=V.lie.I; omega⟩,fun y hy=>?_⟩
  cbv
  have hy2 : CharAt y s (i + 2):=byteAt hD (e:=.bin .add .i64 (.a I) (.l 2)) (by show IntKind.i64.wrap (I + 2) = _; rw [w2,V.lie.I]; rfl) hy
  clear hy
  refine ⟨_,rfl,rfl,by subst hD; exact hy2.le,fun b hb=>?_⟩
  cbv
  have hb : b = valueI y:=by subst hD; exact hb
  rw [←hx2.charI,←hy2.charI,←ha,←hb] at hev
  rw [←hx2.charI,←ha] at hv1
  rw [←hy2.charI,←hb] at hv2
  have la : a≤15:=by rw [ha]; exact (valueI_le x).2
  have lb : b≤15:=by rw [hb]; exact (valueI_le y).2
  clear hx2 hy2 ha hb
  obtain ⟨v,hv⟩ : ∃ v,v = escV s i:=⟨_,rfl⟩
  rw [←hv] at hev hvle
  have hE : IntKind.u8.wrap (IntKind.i64.wrap (IntKind.i64.wrap (16 * a) + b)) = v:=by
   rw [wrap64 (n:=16 * a) (by omega) (by omega),wrap64 (n:=16 * a + b) (by omega) (by omega),←hev]
   exact wrap8 (by omega) (by omega)
  obtain ⟨q,hq⟩ : ∃ q,q = v.toNat:=⟨_,rfl⟩
  have hq2 : VI v q:=⟨by omega⟩
  have hq256 : q < 256:=by omega
  refine ⟨_,rfl,rfl,by subst hD; show 0≤IntKind.u8.wrap (IntKind.i64.wrap (IntKind.i64.wrap (16 * a) + b))∧IntKind.u8.wrap (IntKind.i64.wrap (IntKind.i64.wrap (16 * a) + b))≤255; rw [hE]; exact hvle,fun p hp=>?_⟩
  cbv
  have hp : p = plainC v:=by
   subst hD
   have hp : p = plainC (IntKind.u8.wrap (IntKind.i64.wrap (IntKind.i64.wrap (16 * a) + b))):=hp
   rw [hE] at hp
   exact hp
  have hstep : IntKind.i64.wrap (IntKind.i64.wrap (I + 2) + 1) = ((i + 3 : Nat) : Int):=by
   have:=V.lie.I
   rw [wrap64 (n:=I + 2) (by omega) (by omega),wrap64 (by omega) (by omega)]; omega
  have hstep : VI (IntKind.i64.wrap (IntKind.i64.wrap (I + 2) + 1)) (i + 3):=⟨hstep⟩
  refine br hD (fun h=>?_) (fun h=>?_)<;>cbv
  ·have h1 : kindN v.toNat = 1:=by have h : p = true:=h; rw [hp] at h; exact of_decide_eq_true h
   have hO : escO v = [UInt8.ofNat v.toNat]:=by unfold escO; rw [if_pos h1]
   clear h h1 hp
   intro g hg
   cbv
   have hg0 : g 0 = [.int .u8 (.a v)]:=by
    subst hD
    have h5 : g 0 = [.int .u8 (.a (IntKind.u8.wrap (IntKind.i64.wrap (IntKind.i64.wrap (16 * a) + b))))]:=hg.h 0 _ rfl
    rw [h5,hE]
   clear hg
   refine ⟨by subst hD; exact ⟨rfl,by have:=V.row.n; have:=V.le; show (n + 1) * 1≤_; omega,by have:=V.row.n; have:=V.le; show n + 1≤_; omega⟩,fun f' n' hm=>?_⟩
   cbv
   have R2 : RowU f' n' (t ++ escO v):=by
    subst hD
    rw [hO]
    refine V.row.more (m:=1) rfl (fun j hj=>?_) hm
    have : j = 0:=by simpa using hj
    subst this
    rw [hg0]
    have : v = (((UInt8.ofNat v.toNat).toNat : Nat) : Int):=by
     have:=toNat8 ⟨q,hq256⟩
     simp only at this
     rw [←hq,this]; exact hq2.h
    show [SV.int .u8 (.a v)] = [SV.int .u8 (.a (((UInt8.ofNat v.toNat).toNat : Nat) : Int))]
    rw [←this]
   clear hm
   refine ⟨s.length - (i + 3),by have:=V.lie.m; omega,?_⟩
   rw [hJ]
   unfold deJ
   subst hD
   refine ⟨t ++ escO v,i + 3,_,n',_,f',rfl,rfl,⟨by omega,hstep.h,rfl,V.lie.len⟩,R2,?_,?_,hs⟩
   ·rw [V.k,normL_esc hlt he,hv]; simp
   ·have:=V.le; rw [hO]; simp; omega
  ·have h1 : kindN v.toNat≠1:=by have h : p = false:=h; rw [hp] at h; exact of_decide_eq_false h
   have hO : escO v = [37,digL.getD (v.toNat / 16) 0,digL.getD (v.toNat % 16) 0]:=by unfold escO; rw [if_neg h1]
   clear h h1 hp
   have s1:=quo16 ⟨q,hq256⟩
   simp only at s1
   rw [←hq2.h,←hE] at s1
   have s2:=rem16 ⟨q,hq256⟩
   simp only at s2
   rw [←hq2.h,←hE] at s2
   have S1 : VI (binDen .quo .u8 (IntKind.u8.wrap (IntKind.i64.wrap (IntKind.i64.wrap (16 * a) + b))) 16) (q / 16):=⟨s1⟩
   have S2 : VI (binDen .rem .u8 (IntKind.u8.wrap (IntKind.i64.wrap (IntKind.i64.wrap (16 * a) + b))) 16) (q % 16):=⟨s2⟩
   clear s1 s2
   refine ⟨⟨by subst hD; decide⟩,by subst hD; exact ⟨by show 0≤binDen .quo .u8 (IntKind.u8.wrap (IntKind.i64.wrap (IntKind.i64.wrap (16 * a) + b))) 16; rw [S1.h]; omega,by show binDen .quo .u8 (IntKind.u8.wrap (IntKind.i64.wrap (IntKind.i64.wrap (16 * a) + b))) 16 < 16; rw [S1.h]; omega⟩,fun c1 hc1=>?_⟩
   cbv
   have hd1 : c1 = (((digL.getD (v.toNat / 16) 0).toNat : Nat) : Int):=by
    have h5 : c1 = (((digL.getD (binDen .quo .u8 (IntKind.u8.wrap (IntKind.i64.wrap (IntKind.i64.wrap (16 * a) + b))) 16).toNat 0).toNat : Nat) : Int):=by subst hD; exact hc1.h
    rw [h5,S1.h,Int.toNat_natCast,hq]
   have hd1 : VI c1 (digL.getD (v.toNat / 16) 0).toNat:=⟨hd1⟩
   clear hc1
   refine ⟨⟨by subst hD; decide⟩,by subst hD; exact ⟨by show 0≤binDen .rem .u8 (IntKind.u8.wrap (IntKind.i64.wrap (IntKind.i64.wrap (16 * a) + b))) 16; rw [S2.h]; omega,by show binDen .rem .u8 (IntKind.u8.wrap (IntKind.i64.wrap (IntKind.i64.wrap (16 * a) + b))) 16 < 16; rw [S2.h]; omega⟩,fun c2 hc2=>?_⟩
   cbv
   have hd2 : c2 = (((digL.getD (v.toNat % 16) 0).toNat : Nat) : Int):=by
    have h5 : c2 = (((digL.getD (binDen .rem .u8 (IntKind.u8.wrap (IntKind.i64.wrap (IntKind.i64.wrap (16 * a) + b))) 16).toNat 0).toNat : Nat) : Int):=by subst hD; exact hc2.h
    rw [h5,S2.h,Int.toNat_natCast,hq]
   clear hc2
   have hd2 : VI c2 (digL.getD (v.toNat % 16) 0).toNat:=⟨hd2⟩
   intro g hg
   cbv
   have hg0 : g 0 = [.int .u8 (.a 37)]:=by subst hD; exact hg.h 0 _ rfl
   have hg1 : g 1 = [.int .u8 (.a c1)]:=by subst hD; exact hg.h 1 _ rfl
   have hg2 : g 2 = [.int .u8 (.a c2)]:=by subst hD; exact hg.h 2 _ rfl
   clear hg
   refine ⟨by subst hD; exact ⟨rfl,by have:=V.row.n; have:=V.le; show (n + 3) * 1≤_; omega,by have:=V.row.n; have:=V.le; show n + 3≤_; omega⟩,fun f' n' hm=>?_⟩
   cbv
   have R2 : RowU f' n' (t ++ escO v):=by
    subst hD
    rw [hO]
    refine V.row.more (m:=3) rfl (fun j hj=>?_) hm
    match j,hj with
    | 0,_=>rw [hg0]; rfl
    | 1,_=>rw [hg1,hd1.h]; rfl
    | 2,_=>rw [hg2,hd2.h]; rfl
   clear hm
   refine ⟨s.length - (i + 3),by have:=V.lie.m; omega,?_⟩
   rw [hJ]
   unfold deJ
   subst hD
   refine ⟨t ++ escO v,i + 3,_,n',_,f',rfl,rfl,⟨by omega,hstep.h,rfl,V.lie.len⟩,R2,?_,?_,hs⟩
   ·rw [V.k,normL_esc hlt he,hv]; simp
   ·have:=V.le; rw [hO]; simp; omega
 ·have hi:=V.lie.eq (of_decide_eq_false (p:=I < (s.length : Int)) h)
  have hk2 : k = t:=by rw [V.k,normL_end hi,List.append_nil]
  clear h
  refine ⟨by subst hD; exact V.row.byte,fun r hr=>?_⟩
  cbv
  have hr2 : r = t:=by subst hD; exact V.row.str hr
  exact finStr (by rw [hr2,hk2])
end Go.Proofs.YtefelnhpfdcleaaGreatDoor
