/- Part of the proofs of the statements about requests (layer 7): a symbolic executor over the code, that it is sound, and contracts of functions; it has no conditions of its own. -/
import Derived.Test.YtefelnhpfdcleaaGreatDoorSzPaz
namespace Go.Proofs.YtefelnhpfdcleaaGreatDoor
open Go Go.Sx
set_option maxRecDepth 100000
set_option maxHeartbeats 40000000
def spKinds : FSpec:=fun _ xs ls K=>xs = []∧ls = []∧∀ R,R = kindCells→K (.agg R) []
def ttK (Z : List SV) : List (Nat×TI):=[
 (3,⟨.int .i64,1,8,[.int .i64 (.l 0)]⟩),
 (4,⟨.bool,1,1,[.bool (.l false)]⟩),
 (5,⟨.int .u8,1,1,[.int .u8 (.l 0)]⟩),
 (9,⟨.string,1,16,[.str []]⟩),
 (23,⟨.int .i64,1,8,[.int .i64 (.l 0)]⟩),
 (36,⟨.slice 5,1,24,[(.sl (.l true) (.l 0) 1 fun _=>[])]⟩),
 (93,⟨.array 256 5,256,256,Z⟩)]
def zCells : List SV:=List.replicate 256 (.int .u8 (.l 0))
theorem ttK_ok : ttB Tryz.prog (ttK zCells) = true:=by kernel_rfl
theorem Amq {Z : List SV} (hZ : Z = zCells) {tab : List (Nat×FSpec)} {gl : List (Nat×SV)} {gh : List (Nat×List Gh)} {its : List (Nat×(FSpec→FSpec))} {yl : List FSpec} : A5 Tryz.prog ⟨dn,ttK Z,tab,gl,[],gh,its,yl⟩:=by
 subst hZ; exact ⟨rfl,ttK_ok,fun _ h=>(by cases h)⟩
def X6 : List Nat:=[33,36,38,39,40,41,42,43,44,59,61,58,64,47]
def may2 (i : Nat) (c : Nat) : ST:=if c∈X6.take i then .a 2 else .l 0
def zRow (_ : Nat) : List SV:=[.int .u8 (.l 0)]
theorem Oi : ZRow zRow 256 1 zCells:=by
 refine ⟨⟨fun i r h=>?_⟩⟩
 unfold zCells at h
 have h2:=Pd 256 i _ r h
 have hi : i < 256:=by
  rcases Nat.lt_or_ge i 256 with h3 | h3
  ·exact h3
  ·have : (F9 1 256 (List.replicate 256 (.int .u8 (.l 0)))).length = 256:=by kernel_rfl
   rw [List.getElem?_eq_none (by omega)] at h; cases h
 rw [h2,A6,Bl,Nat.mul_one,List.drop_replicate,List.take_replicate]
 have : min 1 (256 - i) = 1:=by omega
 rw [this]; rfl
structure KaV (i : Nat) (I : Int) (f : Nat→List SV) (m : Nat) : Prop where
 I : I = i
 le : i≤14
 m : m = 14 - i
 row : ∀ c,c < 256→f c = [.int .u8 (may2 i c)]
def kaJ (z fl : Nat→List SV) (m : Nat) (vs : List (Option SV)) (hp : List Hl) : Prop :=
 ∃ (i : Nat) (I : Int) (f : Nat→List SV),vs = [some (.ptr 0 0),some (.ptr 1 0),some (.osl (.a false) (.a 14) 2),some (.int .i64 (.a 14)),some (.int .i64 (.a I))]∧
  hp = [.row 93 (.a 256) 1 z,.row 93 (.a 256) 1 f,.own 5 (.a 14) 1 false fl]∧KaV i I f m
def kd2 (n c : Nat) : ST:=if c < n∧Cb c = 1 then .a 1 else may2 14 c
structure KdV (c : Nat) (I : Int) (f : Nat→List SV) (m : Nat) : Prop where
 I : I = c
 le : c≤256
 m : m = 256 - c
 row : ∀ k,k < 256→f k = [.int .u8 (kd2 c k)]
theorem KdV.lo {c : Nat} {I : Int} {f : Nat→List SV} {m : Nat} (V : KdV c I f m) : 0≤I:=by have:=V.I; omega
theorem KdV.row1 {c : Nat} {I : Int} {f : Nat→List SV} {m : Nat} (V : KdV c I f m) (h : c < 256) : ∃ X,f c = [.int .u8 X]:=⟨_,V.row c h⟩
theorem KdV.yes {c : Nat} {I : Int} {f f2 : Nat→List SV} {m : Nat} (V : KdV c I f m) (h : c < 256) (hf : Anc f2 f c [.int .u8 (.a 1)]) (hk : Cb c = 1) : KdV (c + 1) (dn.i (.bin .add .i64 (.a I) (.l 1))) f2 (256 - (c + 1)):=by
 refine ⟨?_,by omega,rfl,fun k hk2=>?_⟩
 ·have:=V.I
  show IntKind.i64.wrap (I + 1) = _
  rw [Am (by omega) (by omega)]; omega
 ·by_cases e : k = c
  ·subst e
   rw [hf.at_,kd2,if_pos ⟨by omega,hk⟩]
  ·rw [hf.other k e,V.row k hk2]
   unfold kd2
   have : (k < c∧Cb k = 1)↔(k < c + 1∧Cb k = 1):=by constructor<;>rintro ⟨a,b⟩<;>exact ⟨by omega,b⟩
   simp only [this]
theorem KdV.no {c : Nat} {I : Int} {f : Nat→List SV} {m : Nat} (V : KdV c I f m) (h : c < 256) (hk : Cb c≠1) : KdV (c + 1) (dn.i (.bin .add .i64 (.a I) (.l 1))) f (256 - (c + 1)):=by
 refine ⟨?_,by omega,rfl,fun k hk2=>?_⟩
 ·have:=V.I
  show IntKind.i64.wrap (I + 1) = _
  rw [Am (by omega) (by omega)]; omega
 ·rw [V.row k hk2]
  unfold kd2
  have : (k < c∧Cb k = 1)↔(k < c + 1∧Cb k = 1):=by
   constructor
   ·rintro ⟨a,b⟩; exact ⟨by omega,b⟩
   ·rintro ⟨a,b⟩
    refine ⟨?_,b⟩
    rcases Nat.lt_or_ge k c with h | h
    ·exact h
    ·obtain rfl : k = c:=by omega
     exact absurd b hk
  simp only [this]
def kdJ (z fl : Nat→List SV) (m : Nat) (vs : List (Option SV)) (hp : List Hl) : Prop :=
 ∃ (c : Nat) (I : Int) (f : Nat→List SV),vs = [some (.ptr 0 0),some (.ptr 1 0),some (.int .i64 (.a I))]∧hp = [.row 93 (.a 256) 1 z,.row 93 (.a 256) 1 f,.own 5 (.a 14) 1 false fl]∧KdV c I f m
theorem idx4 : ∀ c : Fin 256,decide (0≤Lib.indexByte [45,46,95,126] (UInt8.ofNat c.1)) = decide (c.1 = 45∨c.1 = 46∨c.1 = 95∨c.1 = 126):=by decide
def kdCells : List SV:=(List.range 256).map fun k=>.int .u8 (kd2 256 k)
theorem Aa8 {f : Nat→List SV} (h : ∀ k,k < 256→f k = [.int .u8 (kd2 256 k)]) : Ael f 256 1 kdCells:=by
 refine ⟨by simp [kdCells],fun i hi=>?_⟩
 have hi : i < 256:=by omega
 have hl : kdCells.length = 256:=by simp [kdCells]
 rw [h i hi,Nat.mul_one,List.drop_eq_getElem_cons (by rw [hl]; exact hi)]
 simp [kdCells]
structure FlOk (fl : Nat→List SV) : Prop where
 h : ∀ j,j < 14→fl j = [.int .u8 (.a ((X6.getD j 0 : Nat) : Int))]
structure VI (vi : Int) (v : Nat) : Prop where
 h : vi = (v : Int)
def kdLit : List SV:=[.int .u8 (.l 0),.int .u8 (.l 0),.int .u8 (.l 0),.int .u8 (.l 0),.int .u8 (.l 0),.int .u8 (.l 0),.int .u8 (.l 0),.int .u8 (.l 0),.int .u8 (.l 0),.int .u8 (.l 0),.int .u8 (.l 0),.int .u8 (.l 0),.int .u8 (.l 0),.int .u8 (.l 0),.int .u8 (.l 0),.int .u8 (.l 0),.int .u8 (.l 0),.int .u8 (.l 0),.int .u8 (.l 0),.int .u8 (.l 0),.int .u8 (.l 0),.int .u8 (.l 0),.int .u8 (.l 0),.int .u8 (.l 0),.int .u8 (.l 0),.int .u8 (.l 0),.int .u8 (.l 0),.int .u8 (.l 0),.int .u8 (.l 0),.int .u8 (.l 0),.int .u8 (.l 0),.int .u8 (.l 0),.int .u8 (.l 0),.int .u8 (.a 2),.int .u8 (.l 0),.int .u8 (.l 0),.int .u8 (.a 2),.int .u8 (.l 0),.int .u8 (.a 2),.int .u8 (.a 2),.int .u8 (.a 2),.int .u8 (.a 2),.int .u8 (.a 2),.int .u8 (.a 2),.int .u8 (.a 2),.int .u8 (.a 1),.int .u8 (.a 1),.int .u8 (.a 2),.int .u8 (.a 1),.int .u8 (.a 1),.int .u8 (.a 1),.int .u8 (.a 1),.int .u8 (.a 1),.int .u8 (.a 1),.int .u8 (.a 1),.int .u8 (.a 1),.int .u8 (.a 1),.int .u8 (.a 1),.int .u8 (.a 2),.int .u8 (.a 2),.int .u8 (.l 0),.int .u8 (.a 2),.int .u8 (.l 0),.int .u8 (.l 0),.int .u8 (.a 2),.int .u8 (.a 1),.int .u8 (.a 1),.int .u8 (.a 1),.int .u8 (.a 1),.int .u8 (.a 1),.int .u8 (.a 1),.int .u8 (.a 1),.int .u8 (.a 1),.int .u8 (.a 1),.int .u8 (.a 1),.int .u8 (.a 1),.int .u8 (.a 1),.int .u8 (.a 1),.int .u8 (.a 1),.int .u8 (.a 1),.int .u8 (.a 1),.int .u8 (.a 1),.int .u8 (.a 1),.int .u8 (.a 1),.int .u8 (.a 1),.int .u8 (.a 1),.int .u8 (.a 1),.int .u8 (.a 1),.int .u8 (.a 1),.int .u8 (.a 1),.int .u8 (.a 1),.int .u8 (.l 0),.int .u8 (.l 0),.int .u8 (.l 0),.int .u8 (.l 0),.int .u8 (.a 1),.int .u8 (.l 0),.int .u8 (.a 1),.int .u8 (.a 1),.int .u8 (.a 1),.int .u8 (.a 1),.int .u8 (.a 1),.int .u8 (.a 1),.int .u8 (.a 1),.int .u8 (.a 1),.int .u8 (.a 1),.int .u8 (.a 1),.int .u8 (.a 1),.int .u8 (.a 1),.int .u8 (.a 1),.int .u8 (.a 1),.int .u8 (.a 1),.int .u8 (.a 1),.int .u8 (.a 1),.int .u8 (.a 1),.int .u8 (.a 1),.int .u8 (.a 1),.int .u8 (.a 1),.int .u8 (.a 1),.int .u8 (.a 1),.int .u8 (.a 1),.int .u8 (.a 1),.int .u8 (.a 1),.int .u8 (.l 0),.int .u8 (.l 0),.int .u8 (.l 0),.int .u8 (.a 1),.int .u8 (.l 0),.int .u8 (.l 0),.int .u8 (.l 0),.int .u8 (.l 0),.int .u8 (.l 0),.int .u8 (.l 0),.int .u8 (.l 0),.int .u8 (.l 0),.int .u8 (.l 0),.int .u8 (.l 0),.int .u8 (.l 0),.int .u8 (.l 0),.int .u8 (.l 0),.int .u8 (.l 0),.int .u8 (.l 0),.int .u8 (.l 0),.int .u8 (.l 0),.int .u8 (.l 0),.int .u8 (.l 0),.int .u8 (.l 0),.int .u8 (.l 0),.int .u8 (.l 0),.int .u8 (.l 0),.int .u8 (.l 0),.int .u8 (.l 0),.int .u8 (.l 0),.int .u8 (.l 0),.int .u8 (.l 0),.int .u8 (.l 0),.int .u8 (.l 0),.int .u8 (.l 0),.int .u8 (.l 0),.int .u8 (.l 0),.int .u8 (.l 0),.int .u8 (.l 0),.int .u8 (.l 0),.int .u8 (.l 0),.int .u8 (.l 0),.int .u8 (.l 0),.int .u8 (.l 0),.int .u8 (.l 0),.int .u8 (.l 0),.int .u8 (.l 0),.int .u8 (.l 0),.int .u8 (.l 0),.int .u8 (.l 0),.int .u8 (.l 0),.int .u8 (.l 0),.int .u8 (.l 0),.int .u8 (.l 0),.int .u8 (.l 0),.int .u8 (.l 0),.int .u8 (.l 0),.int .u8 (.l 0),.int .u8 (.l 0),.int .u8 (.l 0),.int .u8 (.l 0),.int .u8 (.l 0),.int .u8 (.l 0),.int .u8 (.l 0),.int .u8 (.l 0),.int .u8 (.l 0),.int .u8 (.l 0),.int .u8 (.l 0),.int .u8 (.l 0),.int .u8 (.l 0),.int .u8 (.l 0),.int .u8 (.l 0),.int .u8 (.l 0),.int .u8 (.l 0),.int .u8 (.l 0),.int .u8 (.l 0),.int .u8 (.l 0),.int .u8 (.l 0),.int .u8 (.l 0),.int .u8 (.l 0),.int .u8 (.l 0),.int .u8 (.l 0),.int .u8 (.l 0),.int .u8 (.l 0),.int .u8 (.l 0),.int .u8 (.l 0),.int .u8 (.l 0),.int .u8 (.l 0),.int .u8 (.l 0),.int .u8 (.l 0),.int .u8 (.l 0),.int .u8 (.l 0),.int .u8 (.l 0),.int .u8 (.l 0),.int .u8 (.l 0),.int .u8 (.l 0),.int .u8 (.l 0),.int .u8 (.l 0),.int .u8 (.l 0),.int .u8 (.l 0),.int .u8 (.l 0),.int .u8 (.l 0),.int .u8 (.l 0),.int .u8 (.l 0),.int .u8 (.l 0),.int .u8 (.l 0),.int .u8 (.l 0),.int .u8 (.l 0),.int .u8 (.l 0),.int .u8 (.l 0),.int .u8 (.l 0),.int .u8 (.l 0),.int .u8 (.l 0),.int .u8 (.l 0),.int .u8 (.l 0),.int .u8 (.l 0),.int .u8 (.l 0),.int .u8 (.l 0),.int .u8 (.l 0),.int .u8 (.l 0),.int .u8 (.l 0),.int .u8 (.l 0),.int .u8 (.l 0),.int .u8 (.l 0),.int .u8 (.l 0),.int .u8 (.l 0),.int .u8 (.l 0),.int .u8 (.l 0),.int .u8 (.l 0),.int .u8 (.l 0),.int .u8 (.l 0),.int .u8 (.l 0),.int .u8 (.l 0)]
theorem Wn : kdLit = kdCells:=by kernel_rfl
theorem Adc : Agp kdLit:=⟨by kernel_rfl,by kernel_rfl⟩
theorem Ada : Ar Tryz.prog [] 72 spKinds:=by
 obtain ⟨Z,hZ⟩ : ∃ Z,Z = zCells:=⟨_,rfl⟩
 refine A4 (gh:=[(3000000,[]),(3000001,[]),(999985,[]),(16,[.unrow 0])]) mixed (Amq hZ) (Aa idxB_ok Ae) Tryz.func72 (by kernel_rfl) (by kernel_rfl) ?_
 rintro xs ls K ⟨rfl,rfl,h⟩
 obtain ⟨R,hR⟩ : ∃ R,R = kindCells:=⟨_,rfl⟩
 refine ⟨_,_,h R hR,fun D hD=>?_⟩
 clear h
 obtain ⟨z,hz⟩ : ∃ z,z = zRow:=⟨_,rfl⟩
 have hzb : ZRow z 256 1 Z:=by rw [hz,hZ]; exact Oi
 have hz0 : ∀ k,z k = [.int .u8 (.l 0)]:=fun k=>by rw [hz]; rfl
 cbv
 refine ⟨z,hzb,?_⟩
 cbv
 refine ⟨z,hzb,?_⟩
 cbv
 intro fl hf
 have hfl : FlOk fl:=by
  subst hD
  refine ⟨fun j hj=>?_⟩
  match j,hj with
  | 0,_=>exact hf.h 0 _ rfl
  | 1,_=>exact hf.h 1 _ rfl
  | 2,_=>exact hf.h 2 _ rfl
  | 3,_=>exact hf.h 3 _ rfl
  | 4,_=>exact hf.h 4 _ rfl
  | 5,_=>exact hf.h 5 _ rfl
  | 6,_=>exact hf.h 6 _ rfl
  | 7,_=>exact hf.h 7 _ rfl
  | 8,_=>exact hf.h 8 _ rfl
  | 9,_=>exact hf.h 9 _ rfl
  | 10,_=>exact hf.h 10 _ rfl
  | 11,_=>exact hf.h 11 _ rfl
  | 12,_=>exact hf.h 12 _ rfl
  | 13,_=>exact hf.h 13 _ rfl
 clear hf
 cbv
 refine ⟨⟨by subst hD; rfl⟩,?_⟩
 obtain ⟨J,hJ⟩ : ∃ J,J = kaJ z fl:=⟨_,rfl⟩
 cbv
 refine ⟨[0,1,6,7,8],J,⟨rfl,14,?_⟩,?_⟩
 ·rw [hJ]
  subst hD
  refine ⟨0,0,z,rfl,rfl,rfl,by omega,rfl,fun c _=>?_⟩
  rw [hz0]; rfl
 intro m vs hp hj
 rw [hJ] at hj
 obtain ⟨i,I,f,rfl,rfl,V⟩:=hj
 cbv
 refine br hD (fun h=>?_) (fun h=>?_)<;>cbv
 ·have hlt : i < 14:=by
   have h : decide (I < 14) = true:=h
   simp only [decide_eq_true_eq] at h
   have:=V.I; omega
  clear h
  refine ⟨⟨by subst hD; rfl⟩,by subst hD; exact ⟨by show 0≤I; have:=V.I; omega,by show I < 14; have:=V.I; omega⟩,fun j hj=>?_⟩
  have hj2 : j = i:=by
   have hj : (j : Int) = I:=by subst hD; exact hj.h
   have:=V.I; omega
  subst hj2
  clear hj
  have e1:=hfl.h j hlt
  obtain ⟨v,hv⟩ : ∃ v,v = X6.getD j 0:=⟨_,rfl⟩
  rw [←hv] at e1
  have hv256 : v < 256:=by
   have : ∀ j : Fin 14,X6.getD j.1 0 < 256:=by decide
   rw [hv]; exact this ⟨j,hlt⟩
  obtain ⟨vi,hvi⟩ : ∃ vi : Int,VI vi v:=⟨_,⟨rfl⟩⟩
  rw [←hvi.h] at e1
  cbv
  refine ⟨⟨by subst hD; rfl⟩,⟨by subst hD; show (j : Int) < 14; omega⟩,?_⟩
  rw [e1]
  cbv
  refine ⟨by subst hD; exact ⟨by show 0≤vi; rw [hvi.h]; exact Int.natCast_nonneg v,by show vi < 256; rw [hvi.h]; exact_mod_cast hv256⟩,fun q hq=>?_⟩
  have hq2 : q = v:=by
   have hq : (q : Int) = vi:=by subst hD; exact hq.h
   rw [hvi.h] at hq; exact_mod_cast hq
  subst hq2
  clear hq
  obtain ⟨X,e2⟩ : ∃ X,f q = [.int .u8 X]:=⟨_,V.row q hv256⟩
  cbv
  refine ⟨⟨by subst hD; show (q : Int) < 256; exact_mod_cast hv256⟩,?_⟩
  rw [e2]
  cbv
  intro f2 hf2
  cbv
  refine ⟨14 - (j + 1),by have:=V.m; omega,?_⟩
  rw [hJ]
  unfold kaJ
  subst hD
  refine ⟨j + 1,_,f2,rfl,rfl,?_,by omega,rfl,fun c hc=>?_⟩
  ·have:=V.I
   show IntKind.i64.wrap (I + 1) = _
   rw [Am (by omega) (by omega)]; omega
  ·have htk : ∀ x,x∈X6.take (j + 1)↔x∈X6.take j∨x = q:=by
    intro x
    have hl : j < X6.length:=hlt
    rw [List.take_succ_eq_append_getElem hl,List.mem_append,List.mem_singleton]
    have : X6[j] = q:=by rw [hv,List.getD_eq_getElem?_getD,List.getElem?_eq_getElem hl]; rfl
    rw [this]
   by_cases e : c = q
   ·subst e
    rw [hf2.at_,may2,if_pos ((htk c).2 (.inr rfl))]
    rfl
   ·rw [hf2.other c e,V.row c hc]
    unfold may2
    have : (c∈X6.take (j + 1))↔c∈X6.take j:=by rw [htk]; exact ⟨fun h=>h.resolve_right e,.inl⟩
    simp only [this]
 have hi : i = 14:=by
  have h : decide (I < 14) = false:=h
  simp only [decide_eq_false_iff_not] at h
  have:=V.I; have:=V.le; omega
 have hrow:=V.row
 rw [hi] at hrow
 clear h V hJ J hi
 obtain ⟨J,hJ⟩ : ∃ J,J = kdJ z fl:=⟨_,rfl⟩
 refine ⟨[0,1,15],J,⟨rfl,256,?_⟩,?_⟩
 ·rw [hJ]
  subst hD
  refine ⟨0,0,f,rfl,rfl,rfl,by omega,rfl,fun k hk=>?_⟩
  rw [hrow k hk,kd2,if_neg (by omega)]
 clear hrow
 intro m vs hp hj
 rw [hJ] at hj
 obtain ⟨c,I,f,rfl,rfl,V⟩:=hj
 cbv
 refine br hD (fun h=>?_) (fun h=>?_)<;>cbv
 ·have hlt : c < 256:=by
   have h : decide (I < 256) = true:=h
   simp only [decide_eq_true_eq] at h
   have:=V.I; omega
  clear h
  refine br hD (fun h=>?_) (fun h=>?_)<;>cbv
  ·have hk1 : Cb c = 1:=by
    have h : (decide (48≤I) && decide (I≤57)) = true:=h
    simp only [Bool.and_eq_true,decide_eq_true_eq] at h
    have:=V.I
    unfold Cb; rw [if_pos (by omega)]
   clear h
   refine ⟨by subst hD; exact ⟨by show 0≤I; have:=V.lo; omega,by show I < 256; have:=V.I; omega⟩,fun q hq=>?_⟩
   have hq2 : q = c:=by
    have hq : (q : Int) = I:=by subst hD; exact hq.h
    have:=V.I; omega
   subst hq2
   clear hq
   cbv
   obtain ⟨X,hX⟩:=V.row1 hlt
   refine ⟨by subst hD; exact ⟨by show (q : Int) < 256; omega⟩,?_⟩
   rw [hX]
   cbv
   intro f2 hf2
   cbv
   refine ⟨256 - (q + 1),by have:=V.m; omega,?_⟩
   rw [hJ]
   unfold kdJ
   subst hD
   exact ⟨q + 1,_,f2,rfl,rfl,V.yes hlt hf2 hk1⟩
  have n1 : ¬ (48≤c∧c≤57):=by
   have h : (decide (48≤I) && decide (I≤57)) = false:=h
   have hI:=V.I
   rintro ⟨a,b⟩
   have a' : decide (48≤I) = true:=by rw [decide_eq_true_eq]; omega
   have b' : decide (I≤57) = true:=by rw [decide_eq_true_eq]; omega
   rw [a',b'] at h; cases h
  clear h
  refine br hD (fun h=>?_) (fun h=>?_)<;>cbv
  ·have hk1 : Cb c = 1:=by
    have h : (decide (65≤I) && decide (I≤90)) = true:=h
    simp only [Bool.and_eq_true,decide_eq_true_eq] at h
    have:=V.I
    unfold Cb; rw [if_pos (by omega)]
   clear h
   refine ⟨by subst hD; exact ⟨by show 0≤I; have:=V.lo; omega,by show I < 256; have:=V.I; omega⟩,fun q hq=>?_⟩
   have hq2 : q = c:=by
    have hq : (q : Int) = I:=by subst hD; exact hq.h
    have:=V.I; omega
   subst hq2
   clear hq
   cbv
   obtain ⟨X,hX⟩:=V.row1 hlt
   refine ⟨by subst hD; exact ⟨by show (q : Int) < 256; omega⟩,?_⟩
   rw [hX]
   cbv
   intro f2 hf2
   cbv
   refine ⟨256 - (q + 1),by have:=V.m; omega,?_⟩
   rw [hJ]
   unfold kdJ
   subst hD
   exact ⟨q + 1,_,f2,rfl,rfl,V.yes hlt hf2 hk1⟩
  have n2 : ¬ (65≤c∧c≤90):=by
   have h : (decide (65≤I) && decide (I≤90)) = false:=h
   have hI:=V.I
   rintro ⟨a,b⟩
   have a' : decide (65≤I) = true:=by rw [decide_eq_true_eq]; omega
   have b' : decide (I≤90) = true:=by rw [decide_eq_true_eq]; omega
   rw [a',b'] at h; cases h
  clear h
  refine br hD (fun h=>?_) (fun h=>?_)<;>cbv
  ·have hk1 : Cb c = 1:=by
    have h : (decide (97≤I) && decide (I≤122)) = true:=h
    simp only [Bool.and_eq_true,decide_eq_true_eq] at h
    have:=V.I
    unfold Cb; rw [if_pos (by omega)]
   clear h
   refine ⟨by subst hD; exact ⟨by show 0≤I; have:=V.lo; omega,by show I < 256; have:=V.I; omega⟩,fun q hq=>?_⟩
   have hq2 : q = c:=by
    have hq : (q : Int) = I:=by subst hD; exact hq.h
    have:=V.I; omega
   subst hq2
   clear hq
   cbv
   obtain ⟨X,hX⟩:=V.row1 hlt
   refine ⟨by subst hD; exact ⟨by show (q : Int) < 256; omega⟩,?_⟩
   rw [hX]
   cbv
   intro f2 hf2
   cbv
   refine ⟨256 - (q + 1),by have:=V.m; omega,?_⟩
   rw [hJ]
   unfold kdJ
   subst hD
   exact ⟨q + 1,_,f2,rfl,rfl,V.yes hlt hf2 hk1⟩
  have n3 : ¬ (97≤c∧c≤122):=by
   have h : (decide (97≤I) && decide (I≤122)) = false:=h
   have hI:=V.I
   rintro ⟨a,b⟩
   have a' : decide (97≤I) = true:=by rw [decide_eq_true_eq]; omega
   have b' : decide (I≤122) = true:=by rw [decide_eq_true_eq]; omega
   rw [a',b'] at h; cases h
  clear h
  have hw : IntKind.u8.wrap I = I:=IntWalk.u8_in _ ⟨V.lo,by have:=V.I; omega⟩
  refine ⟨_,_,rfl,rfl,by subst hD; show 0≤IntKind.u8.wrap I∧IntKind.u8.wrap I≤255; rw [hw]; exact ⟨V.lo,by have:=V.I; omega⟩,fun r hr=>?_⟩
  have hr2 : decide (0≤r) = decide (c = 45∨c = 46∨c = 95∨c = 126):=by
   have e : r = Lib.indexByte [45,46,95,126] (UInt8.ofNat c):=by
    have hr : r = Lib.indexByte [45,46,95,126] (UInt8.ofNat (IntKind.u8.wrap I).toNat):=by subst hD; exact hr
    rw [hr,hw,V.I]; rfl
   rw [e]; exact idx4 ⟨c,hlt⟩
  clear hr
  cbv
  refine br hD (fun h=>?_) (fun h=>?_)<;>cbv
  ·have hk1 : Cb c = 1:=by
    have h : decide (0≤r) = true:=h
    rw [hr2,decide_eq_true_eq] at h
    unfold Cb; rw [if_pos (by omega)]
   clear h
   refine ⟨by subst hD; exact ⟨by show 0≤I; have:=V.lo; omega,by show I < 256; have:=V.I; omega⟩,fun q hq=>?_⟩
   have hq2 : q = c:=by
    have hq : (q : Int) = I:=by subst hD; exact hq.h
    have:=V.I; omega
   subst hq2
   clear hq
   cbv
   obtain ⟨X,hX⟩:=V.row1 hlt
   refine ⟨by subst hD; exact ⟨by show (q : Int) < 256; omega⟩,?_⟩
   rw [hX]
   cbv
   intro f2 hf2
   cbv
   refine ⟨256 - (q + 1),by have:=V.m; omega,?_⟩
   rw [hJ]
   unfold kdJ
   subst hD
   exact ⟨q + 1,_,f2,rfl,rfl,V.yes hlt hf2 hk1⟩
  ·have hk1 : Cb c≠1:=by
    have h : decide (0≤r) = false:=h
    rw [hr2,decide_eq_false_iff_not] at h
    unfold Cb; rw [if_neg (by omega)]
    split<;>decide
   clear h
   refine ⟨256 - (c + 1),by have:=V.m; omega,?_⟩
   rw [hJ]
   unfold kdJ
   subst hD
   exact ⟨c + 1,_,f,rfl,rfl,V.no hlt hk1⟩
 have hc : c = 256:=by
  have h : decide (I < 256) = false:=h
  simp only [decide_eq_false_iff_not] at h
  have:=V.I; have:=V.le; omega
 have hrow:=V.row
 rw [hc] at hrow
 clear h V hJ hc
 obtain ⟨cs,hcs⟩ : ∃ cs,cs = kdLit:=⟨_,rfl⟩
 refine ⟨⟨by subst hD; rfl⟩,cs,by subst hD; rw [hcs,Wn]; exact Aa8 hrow,?_⟩
 clear hrow
 cbv
 refine ⟨⟨by subst hD; rfl⟩,by rw [hcs]; exact Adc,fun k=>[.int .u8 (kd2 256 k)],by subst hD; rw [hcs,Wn]; exact Aa8 fun _ _=>rfl,?_⟩
 refine ⟨kdLit,by subst hD; rw [Wn]; exact Aa8 fun _ _=>rfl,?_⟩
 clear hcs
 cbv
 subst hD
 rw [hR]
 exact B7 (by kernel_rfl) rfl
end Go.Proofs.YtefelnhpfdcleaaGreatDoor
namespace Go.Proofs.YtefelnhpfdcleaaGreatDoor
open Go Go.Sx
set_option maxRecDepth 100000
set_option maxHeartbeats 8000000
def Bx (c : Int) : Int:=if 48≤c∧c≤57 then c - 48 else if 65≤c∧c≤70 then c - 55 else if 97≤c∧c≤102 then c - 87 else -1
theorem Nf (c : Int) : -1≤Bx c∧Bx c≤15:=by
 unfold Bx
 split
 ·omega
 ·split
  ·omega
  ·split<;>omega
def spValue : FSpec:=fun _ xs ls K=>∃ (c : Int),xs = [.int .u8 (.a c)]∧ls = []∧(0≤c∧c≤255)∧∀ r,r = Bx c→K (.int .i64 (.a r)) []
theorem Aki : Ar Tryz.prog gl 106 spValue:=by
 refine A4 (gh:=[]) mixed A0 Ae Tryz.func106 (by kernel_rfl) (by kernel_rfl) ?_
 intro xs ls K h
 unfold spValue at h
 obtain ⟨c,rfl,rfl,hc,h⟩:=h
 obtain ⟨k,hk⟩ : ∃ k,k = Bx c:=⟨_,rfl⟩
 refine ⟨_,_,h k hk,fun D hD=>?_⟩
 clear h
 unfold Bx at hk
 cbv
 have w : ∀ n : Int,-1000≤n→n≤1000→IntKind.i64.wrap n = n:=fun n a b=>Am (by omega) (by omega)
 refine br hD (fun h=>?_) (fun h=>?_)<;>cbv
 ·have h2 : 48≤c∧c≤57:=by simpa using h
  refine Bq hD ?_
  rw [hk,if_pos h2]
  show IntKind.i64.wrap (IntKind.i64.wrap c - 48) = _
  rw [w c (by omega) (by omega),w _ (by omega) (by omega)]
 have h2 : ¬ (48≤c∧c≤57):=by simpa using h
 rw [if_neg h2] at hk
 clear h h2
 refine br hD (fun h=>?_) (fun h=>?_)<;>cbv
 ·have h2 : 65≤c∧c≤70:=by simpa using h
  refine Bq hD ?_
  rw [hk,if_pos h2]
  show IntKind.i64.wrap (IntKind.i64.wrap (IntKind.i64.wrap c - 65) + 10) = _
  rw [w c (by omega) (by omega),w (c - 65) (by omega) (by omega),w _ (by omega) (by omega)]
  omega
 have h2 : ¬ (65≤c∧c≤70):=by simpa using h
 rw [if_neg h2] at hk
 clear h h2
 refine br hD (fun h=>?_) (fun h=>?_)<;>cbv
 ·have h2 : 97≤c∧c≤102:=by simpa using h
  refine Bq hD ?_
  rw [hk,if_pos h2]
  show IntKind.i64.wrap (IntKind.i64.wrap (IntKind.i64.wrap c - 97) + 10) = _
  rw [w c (by omega) (by omega),w (c - 97) (by omega) (by omega),w _ (by omega) (by omega)]
  omega
 have h2 : ¬ (97≤c∧c≤102):=by simpa using h
 rw [if_neg h2] at hk
 refine Bq hD ?_
 rw [hk]; rfl
def Qj (s : List UInt8) (i : Nat) : Prop:=i + 2 < s.length∧charI s i = 37∧0≤Bx (charI s (i + 1))∧0≤Bx (charI s (i + 2))
instance (s : List UInt8) (i : Nat) : Decidable (Qj s i):=by unfold Qj; exact inferInstance
def Ct (s : List UInt8) (i : Nat) : Bool:=decide (Qj s i)
def Nx (s : List UInt8) (i : Nat) : Int:=if Qj s i then 16 * Bx (charI s (i + 1)) + Bx (charI s (i + 2)) else 0
theorem Ix (s : List UInt8) (i j : Nat) : charI (s.drop i) j = charI s (i + j):=by
 unfold charI
 rw [List.getD_eq_getElem?_getD,List.getElem?_drop,←List.getD_eq_getElem?_getD]
theorem Zl (s : List UInt8) (i : Nat) : Qj (s.drop i) 0↔Qj s i:=by
 unfold Qj
 rw [Ix,Ix,Ix,List.length_drop]
 simp only [Nat.add_zero,Nat.zero_add]
 constructor<;>rintro ⟨a,b⟩<;>exact ⟨by omega,b⟩
theorem W3 (s : List UInt8) (i : Nat) : Ct (s.drop i) 0 = Ct s i:=by
 unfold Ct; rw [decide_eq_decide]; exact Zl s i
theorem Ajy (s : List UInt8) (i : Nat) : Nx (s.drop i) 0 = Nx s i:=by
 unfold Nx
 rw [Ix,Ix]
 simp only [Zl,Nat.zero_add]
def spUnesc : FSpec:=fun _ xs ls K=>∃ (s : List UInt8),xs = [.str s]∧ls = []∧s.length≤9223372036854775807∧∀ v b,v = Nx s 0→b = Ct s 0→K (.tup [.int .u8 (.a v),.bool (.a b)]) []
theorem or16 : ∀ a b : Fin 16,Bg .or .i64 (IntKind.i64.wrap ((a.1 : Int) * 16)) (b.1 : Int) = 16 * a.1 + b.1:=by decide
theorem Amb {D : Dn} (hD : D = dn) {v : Int} {b : Bool} {x : ST} {y : BT} (h1 : x.den = v) (h2 : y.den = b) : Fin (.tup [.int .u8 (.a (D.i x)),.bool (.a (D.b y))]) (.tup [.int .u8 (.a v),.bool (.a b)]) [] []:=by
 subst hD h1 h2; exact D6 (LeV.refl _)
theorem Sw : Ar Tryz.prog gl 73 spUnesc:=by
 refine A4 (gh:=[]) mixed A0 (Aa Aki Ae) Tryz.func73 (by kernel_rfl) (by kernel_rfl) ?_
 intro xs ls K h
 unfold spUnesc at h
 obtain ⟨s,rfl,rfl,hs,h⟩:=h
 obtain ⟨kv,hkv⟩ : ∃ k,k = Nx s 0:=⟨_,rfl⟩
 obtain ⟨kb,hkb⟩ : ∃ k,k = Ct s 0:=⟨_,rfl⟩
 refine ⟨_,_,h kv kb hkv hkb,fun D hD=>?_⟩
 clear h
 cbv
 refine ⟨fun hg=>?_,fun c hc=>?_⟩
 ·subst hD; exact ⟨by decide,by have hg : (!decide ((s.length : Int) < 3)) = true:=hg; simp at hg; show (0 : Int) < _; omega⟩
 have hc2 : C4 c s 0:=by subst hD; exact ⟨hc.h⟩
 clear hc
 cbv
 refine br hD (fun h=>?_) (fun h=>?_)<;>cbv
 ·have h2 : ¬ Qj s 0:=by
   rintro ⟨h1,h2,_⟩
   rw [←hc2.charI] at h2
   have h : (decide ((s.length : Int) < 3) || (c != 37)) = true:=h
   simp only [Bool.or_eq_true,decide_eq_true_eq,bne_iff_ne,ne_eq] at h
   omega
  exact Amb hD (by rw [hkv,Nx,if_neg h2]; rfl) (by rw [hkb,Ct,decide_eq_false h2]; rfl)
 have h2 : 3≤s.length∧c = 37:=by
  have h : (decide ((s.length : Int) < 3) || (c != 37)) = false:=h
  simp only [Bool.or_eq_false_iff,decide_eq_false_iff_not,bne_eq_false_iff_eq] at h
  omega
 clear h
 obtain ⟨h3,rfl⟩:=h2
 refine ⟨by subst hD; exact ⟨by decide,by show (1 : Int) < _; omega⟩,fun x hx=>?_⟩
 have hx2 : C4 x s 1:=by subst hD; exact ⟨hx.h⟩
 clear hx
 cbv
 refine ⟨_,rfl,rfl,by subst hD; exact hx2.le,fun a ha=>?_⟩
 have ha : a = Bx x:=by subst hD; exact ha
 cbv
 refine ⟨by subst hD; exact ⟨by decide,by show (2 : Int) < _; omega⟩,fun y hy=>?_⟩
 have hy2 : C4 y s 2:=by subst hD; exact ⟨hy.h⟩
 clear hy
 cbv
 refine ⟨_,rfl,rfl,by subst hD; exact hy2.le,fun b hb=>?_⟩
 have hb : b = Bx y:=by subst hD; exact hb
 cbv
 have hP : Qj s 0↔0≤a∧0≤b:=by
  unfold Qj
  simp only [Nat.zero_add]
  rw [←hc2.charI,←hx2.charI,←hy2.charI,←ha,←hb]
  constructor
  ·exact fun h=>h.2.2
  ·exact fun h=>⟨by omega,rfl,h⟩
 refine br hD (fun h=>?_) (fun h=>?_)<;>cbv
 ·have h2 : ¬ Qj s 0:=by
   rw [hP]
   have h : (decide (a < 0) || decide (b < 0)) = true:=h
   simp only [Bool.or_eq_true,decide_eq_true_eq] at h
   omega
  exact Amb hD (by rw [hkv,Nx,if_neg h2]; rfl) (by rw [hkb,Ct,decide_eq_false h2]; rfl)
 have h2 : 0≤a∧0≤b:=by
  have h : (decide (a < 0) || decide (b < 0)) = false:=h
  simp only [Bool.or_eq_false_iff,decide_eq_false_iff_not] at h
  omega
 have la:=(Nf x).2
 have lb:=(Nf y).2
 rw [←ha] at la
 rw [←hb] at lb
 refine ⟨⟨by subst hD; decide⟩,?_⟩
 refine Amb hD ?_ ?_
 rotate_left
 ·rw [hkb,Ct,decide_eq_true (hP.2 h2)]; rfl
 rw [hkv,Nx,if_pos (hP.2 h2)]
 simp only [Nat.zero_add]
 rw [←hx2.charI,←hy2.charI,←ha,←hb]
 have e:=or16 ⟨a.toNat,by omega⟩ ⟨b.toNat,by omega⟩
 simp only at e
 rw [Int.toNat_of_nonneg h2.1,Int.toNat_of_nonneg h2.2] at e
 show IntKind.u8.wrap (Bg .or .i64 (IntKind.i64.wrap (a * 16)) b) = _
 rw [e]
 have : ∀ n : Int,0≤n→n≤255→IntKind.u8.wrap n = n:=fun n h0 h1=>by
  have:=IntWalk.u8_in n ⟨by omega,by omega⟩
  exact this
 exact this _ (by omega) (by omega)
end Go.Proofs.YtefelnhpfdcleaaGreatDoor
namespace Go.Proofs.YtefelnhpfdcleaaGreatDoor
open Go Go.Sx
set_option maxRecDepth 100000
set_option maxHeartbeats 16000000
def I5 (s : List UInt8) (i e : Nat) : Option Nat :=
 if h : i < s.length then
  if Ct s i then I5 s (i + 3) e
  else if charI s i = 63 then I5 s (i + 1) (min e i)
  else if Cb (charI s i).toNat = 0 then none
  else I5 s (i + 1) e
 else some e
 termination_by s.length - i
def Lx (s : List UInt8) : Int×Int :=
 if 500 < s.length then (0,3) else if !Lib.hasPrefix s [47] then (0,6) else match I5 s 0 s.length with
  | some e=>((e : Int),0)
  | none=>(0,6)
def spOrg : FSpec:=fun _ xs ls K=>∃ (s : List UInt8),xs = [.str s]∧ls = []∧s.length≤9223372036854775807∧∀ e r,(e,r) = Lx s→K (.tup [.int .i64 (.a e),.int .i64 (.a r)]) []
structure KRow (f : Nat→List SV) : Prop where
 h : ∀ i,i < 256→f i = [.int .u8 (.a (Cb i))]
theorem Zf {f : Nat→List SV} (h : KRow f) : Ael f 256 1 kindCells:=by
 refine ⟨by simp [kindCells],fun i hi=>?_⟩
 have hi : i < 256:=by omega
 have hl : kindCells.length = 256:=by simp [kindCells]
 rw [h.h i hi,Nat.mul_one,List.drop_eq_getElem_cons (by rw [hl]; exact hi)]
 simp [kindCells]
theorem K5 : Agp kindCells:=⟨by kernel_rfl,by kernel_rfl⟩
theorem Ti {D : Dn} (hD : D = dn) {e r : Int} {x y : ST} (h1 : x.den = e) (h2 : y.den = r) : Fin (.tup [.int .i64 (.a (D.i x)),.int .i64 (.a (D.i y))]) (.tup [.int .i64 (.a e),.int .i64 (.a r)]) [] []:=by
 subst hD h1 h2; exact D6 (LeV.refl _)
structure OrgJ (s : List UInt8) (k : Option Nat) (i e : Nat) (I E : Int) (m : Nat) : Prop where
 lie : At s i I m
 E : E = e
 k : k = I5 s i e
 len : s.length≤500
def orgJ (s : List UInt8) (kr : Nat→List SV) (k : Option Nat) (m : Nat) (vs : List (Option SV)) (hp : List Hl) : Prop :=
 ∃ (i e : Nat) (I E : Int),vs = [some (.str s),some (.ptr 0 0),some (.int .i64 (.a E)),some (.int .i64 (.a I))]∧hp = [.row 93 (.a 256) 1 kr]∧OrgJ s k i e I E m
theorem Vv {s : List UInt8} {i e : Nat} (h : i < s.length) (h1 : Ct s i = true) : I5 s i e = I5 s (i + 3) e:=by
 rw [I5,dif_pos h,if_pos h1]
theorem Rg {s : List UInt8} {i e : Nat} (h : i < s.length) (h1 : Ct s i = false) (h2 : charI s i = 63) : I5 s i e = I5 s (i + 1) (min e i):=by
 rw [I5,dif_pos h,if_neg (by simp [h1]),if_pos h2]
theorem Vw {s : List UInt8} {i e : Nat} (h : i < s.length) (h1 : Ct s i = false) (h2 : charI s i≠63) (h3 : Cb (charI s i).toNat = 0) : I5 s i e = none:=by
 rw [I5,dif_pos h,if_neg (by simp [h1]),if_neg h2,if_pos h3]
theorem Rf {s : List UInt8} {i e : Nat} (h : i < s.length) (h1 : Ct s i = false) (h2 : charI s i≠63) (h3 : Cb (charI s i).toNat≠0) : I5 s i e = I5 s (i + 1) e:=by
 rw [I5,dif_pos h,if_neg (by simp [h1]),if_neg h2,if_neg h3]
theorem Acv {s : List UInt8} {i e : Nat} (h : i = s.length) : I5 s i e = some e:=by
 rw [I5,dif_neg (by omega)]
theorem Np {s : List UInt8} {i : Nat} (h : Ct s i = true) : i + 2 < s.length:=(of_decide_eq_true h).1
theorem Y6 : Ar Tryz.prog gl 35 spOrg:=by
 obtain ⟨Z,hZ⟩ : ∃ Z,Z = zCells:=⟨_,rfl⟩
 refine A4 (gh:=[(3000004,[])]) mixed (Amq hZ) (Aa Zn (Aa (Adn Ada) (Aa Sw Ae))) Tryz.func35 (by kernel_rfl) (by kernel_rfl) ?_
 intro xs ls K h
 unfold spOrg at h
 obtain ⟨s,rfl,rfl,hs,h⟩:=h
 obtain ⟨k,hk⟩ : ∃ k,k = Lx s:=⟨_,rfl⟩
 obtain ⟨ke,kr⟩:=k
 refine ⟨_,_,h ke kr hk,fun D hD=>?_⟩
 clear h
 unfold Lx at hk
 cbv
 refine br hD (fun h=>?_) (fun h=>?_)<;>cbv
 ·have h2 : 500 < s.length:=by have h : decide ((500 : Int) < (s.length : Int)) = true:=h; simp only [decide_eq_true_eq] at h; omega
  rw [if_pos h2] at hk
  simp only [Prod.mk.injEq] at hk
  exact Ti hD hk.1.symm hk.2.symm
 have hlen : s.length≤500:=by have h : decide ((500 : Int) < (s.length : Int)) = false:=h; simp only [decide_eq_false_iff_not] at h; omega
 rw [if_neg (by omega)] at hk
 clear h
 refine ⟨s,_,rfl,rfl,fun b hb=>?_⟩
 have hb : b = Lib.hasPrefix s [47]:=hb
 cbv
 refine br hD (fun h=>?_) (fun h=>?_)<;>cbv
 ·have h2 : (!b) = true:=h
  rw [←hb,if_pos h2] at hk
  simp only [Prod.mk.injEq] at hk
  exact Ti hD hk.1.symm hk.2.symm
 have h2 : (!b) = false:=h
 rw [←hb,if_neg (by rw [h2]; simp)] at hk
 clear h h2 hb
 intro R hR
 obtain ⟨kr0,hkr0⟩ : ∃ f,KRow f:=⟨fun i=>[.int .u8 (.a (Cb i))],⟨fun _ _=>rfl⟩⟩
 cbv
 refine ⟨by rw [hR]; exact K5.plain,zRow,by rw [hZ]; exact Oi,?_⟩
 cbv
 refine ⟨⟨by subst hD; rfl⟩,by rw [hR]; exact K5,kr0,by subst hD; rw [hR]; exact Zf hkr0,?_⟩
 clear hR
 obtain ⟨kk,hkk⟩ : ∃ kk,kk = I5 s 0 s.length:=⟨_,rfl⟩
 rw [←hkk] at hk
 obtain ⟨J,hJ⟩ : ∃ J,J = orgJ s kr0 kk:=⟨_,rfl⟩
 cbv
 refine ⟨[0,4,5,6],J,⟨rfl,s.length,?_⟩,?_⟩
 ·rw [hJ]
  subst hD
  exact ⟨0,s.length,_,_,rfl,rfl,At.zero hs,rfl,hkk,hlen⟩
 clear hkk
 intro m vs hp hj
 rw [hJ] at hj
 obtain ⟨i,e,I,E,rfl,rfl,V⟩:=hj
 cbv
 refine br hD (fun h=>?_) (fun h=>?_)<;>cbv
 ·have hlt:=V.lie.lt (of_decide_eq_true (p:=I < (s.length : Int)) h)
  clear h
  refine ⟨by subst hD; exact ⟨by show 0≤I; have:=V.lie.I; omega,by show I≤s.length; have:=V.lie.I; omega,Int.le_refl _⟩,fun t ht=>?_⟩
  have ht2 : t = s.drop i:=by
   have h1 : t = (s.drop I.toNat).take ((s.length : Int).toNat - I.toNat):=by subst hD; exact ht.h
   have h2:=V.lie.I
   have h3 : I.toNat = i:=by omega
   rw [h1,h3,List.take_of_length_le (by rw [List.length_drop]; omega)]
  clear ht
  cbv
  refine ⟨t,rfl,rfl,by rw [ht2,List.length_drop]; omega,fun v b hv hb=>?_⟩
  have hb2 : b = Ct s i:=by rw [hb,ht2,W3]
  clear hv hb ht2
  cbv
  refine br hD (fun h=>?_) (fun h=>?_)<;>cbv
  ·have h2 : Ct s i = true:=by rw [←hb2]; exact h
   have h3:=Np h2
   clear h
   refine ⟨s.length - (i + 3),by have:=V.lie.m; omega,?_⟩
   rw [hJ]
   unfold orgJ
   subst hD
   refine ⟨i + 3,e,_,_,rfl,rfl,⟨by omega,?_,rfl,V.lie.len⟩,V.E,by rw [V.k,Vv hlt h2],hlen⟩
   have:=V.lie.I
   show IntKind.i64.wrap (IntKind.i64.wrap (I + 2) + 1) = _
   rw [Am (n:=I + 2) (by omega) (by omega),Am (by omega) (by omega)]; omega
  have he : Ct s i = false:=by rw [←hb2]; exact h
  clear h
  refine ⟨V.lie.inS hD hlt,fun c hc=>?_⟩
  have hc2:=Cl hD V.lie.I hc
  clear hc
  have hle:=hc2.le
  cbv
  refine br hD (fun h=>?_) (fun h=>?_)<;>cbv
  ·have h63 : charI s i = 63:=by rw [←hc2.charI]; have h : (c == 63) = true:=h; simpa using h
   clear h
   intro mn hmn
   have hmn2 : mn = min E I:=by subst hD; exact hmn.h
   clear hmn
   cbv
   refine ⟨s.length - (i + 1),by have:=V.lie.m; omega,?_⟩
   rw [hJ]
   unfold orgJ
   subst hD
   refine ⟨i + 1,min e i,_,_,rfl,rfl,(V.lie.step rfl hlt).2,?_,by rw [V.k,Rg hlt he h63],hlen⟩
   have:=V.lie.I; have:=V.E
   show mn = _
   rw [hmn2]; omega
  have h63 : charI s i≠63:=by rw [←hc2.charI]; have h : (c == 63) = false:=h; simpa using h
  clear h
  refine ⟨V.lie.inS hD hlt,fun d hd=>?_⟩
  have hcd : d = c:=by have:=Cl hD V.lie.I hd; rw [this.h,hc2.h]
  subst hcd
  clear hd
  cbv
  refine ⟨by subst hD; exact ⟨by show 0≤d; omega,by show d < 256; omega⟩,fun q hq=>?_⟩
  have hq2 : (q : Int) = d:=by subst hD; exact hq.h
  clear hq
  have hq256 : q < 256:=by omega
  have hkq:=hkr0.h q hq256
  have hkn : Cb q = Cb (charI s i).toNat:=by
   have : q = (charI s i).toNat:=by rw [←hc2.charI]; omega
   rw [this]
  obtain ⟨kq,hkq2⟩ : ∃ kq,kq = Cb q:=⟨_,rfl⟩
  rw [←hkq2] at hkq hkn
  cbv
  refine ⟨⟨by subst hD; show (q : Int) < 256; omega⟩,?_⟩
  rw [hkq]
  cbv
  refine br hD (fun h=>?_) (fun h=>?_)<;>cbv
  ·have h0 : kq = 0:=by have h : (kq == 0) = true:=h; simpa using h
   rw [V.k,Vw hlt he h63 (by rw [←hkn]; exact h0)] at hk
   simp only [Prod.mk.injEq] at hk
   exact Ti hD hk.1.symm hk.2.symm
  ·have h0 : kq≠0:=by have h : (kq == 0) = false:=h; simpa using h
   refine ⟨s.length - (i + 1),by have:=V.lie.m; omega,?_⟩
   rw [hJ]
   unfold orgJ
   subst hD
   exact ⟨i + 1,e,_,_,rfl,rfl,(V.lie.step rfl hlt).2,V.E,by rw [V.k,Rf hlt he h63 (by rw [←hkn]; exact h0)],hlen⟩
 ·have hi:=V.lie.eq (of_decide_eq_false (p:=I < (s.length : Int)) h)
  rw [V.k,Acv hi] at hk
  simp only [Prod.mk.injEq] at hk
  exact Ti hD (by have:=V.E; rw [hk.1]; exact this) hk.2.symm
end Go.Proofs.YtefelnhpfdcleaaGreatDoor
