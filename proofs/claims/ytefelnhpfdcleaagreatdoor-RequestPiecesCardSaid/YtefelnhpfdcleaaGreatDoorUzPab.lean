/- Part of the proofs of the statements about requests (layer 7): a symbolic executor over the code, that it is sound, and contracts of functions; it has no conditions of its own. -/
import Derived.Test.YtefelnhpfdcleaaGreatDoorUzPaa
import Derived.Test.YtefelnhpfdcleaaGreatDoorSzPbd
import Derived.Test.YtefelnhpfdcleaaGreatDoorSzPbh
import Derived.Test.YtefelnhpfdcleaaGreatDoorSzPbf
import Derived.Test.YtefelnhpfdcleaaGreatDoorSzPbg
import Derived.Test.YtefelnhpfdcleaaGreatDoorSzPbc
namespace Go.Proofs.YtefelnhpfdcleaaGreatDoor
open Go Go.Sx
set_option maxRecDepth 100000
set_option maxHeartbeats 8000000
def Bv (s : List UInt8) : Bool:=s.all fun b=>Pa (b.toNat : Int)
def Ea (s : List UInt8) : List UInt8:=if (1 < s.length∧charI s 0 = 45)∧charI s 1≠48 then s.drop 1 else s
def Pb (s : List UInt8) : Bool:=(!(decide (Ea s = []) || (decide (1 < (Ea s).length) && decide (charI (Ea s) 0 = 48)))) && Bv (Ea s)
theorem W9 (t : List UInt8) : (Lib.trimS t Nz = [])↔Bv t = true:=by
 unfold Bv
 rw [List.all_eq_true]
 have e : ∀ c : UInt8,Nz.contains c = Pa (c.toNat : Int):=fun c=>by
  rw [Bool.eq_iff_iff,Agg]
  unfold Pa
  simp only [Bool.and_eq_true,decide_eq_true_eq]
  omega
 constructor
 ·intro h c hc
  rw [←e]
  exact Ng h c hc
 ·intro h
  show ((t.reverse.dropWhile (fun x=>Nz.contains x)).reverse).dropWhile (fun x=>Nz.contains x) = []
  rw [Dh]
  intro x hx
  have hx:=List.mem_reverse.1 hx
  have hx : x∈t.reverse:=(List.dropWhile_suffix _).subset hx
  rw [e]
  exact h x (List.mem_reverse.1 hx)
theorem Nq (s : List UInt8) : Pb s = Jn s:=by
 unfold Jn
 have hA : ∀ t : List UInt8,(t = []∨Lib.trimS t Nz≠[])↔¬ (t≠[]∧Bv t = true):=fun t=>by
  rw [←W9]
  constructor
  ·rintro (h | h) ⟨a,b⟩
   ·exact a h
   ·exact h b
  ·intro h
   rcases Decidable.em (t = []) with e | e
   ·exact .inl e
   ·exact .inr fun g=>h ⟨e,g⟩
 match s with
 | []=>rfl
 | c :: r =>
  by_cases hc : c = 45
  ·subst hc
   have hp : By (45 :: r) [45] = r:=by
    unfold By Vo
    simp
   rw [hp]
   match r with
   | []=>rfl
   | d :: r' =>
    by_cases hd : d = 48
    ·subst hd
     have ht : Ea (45 :: 48 :: r') = 45 :: 48 :: r':=by
      unfold Ea
      rw [if_neg]
      rintro ⟨_,h⟩
      exact h rfl
     have h1 : Pb (45 :: 48 :: r') = false:=by
      unfold Pb
      rw [ht]
      have : Bv (45 :: 48 :: r') = false:=rfl
      rw [this,Bool.and_false]
     rw [h1]
     split
     ·rfl
     ·show false = (((48 : UInt8) != 48) || ((45 :: 48 :: r' : List UInt8) == [48]))
      rfl
    ·have ht : Ea (45 :: d :: r') = d :: r':=by
      unfold Ea
      rw [if_pos]
      ·rfl
      ·refine ⟨⟨by simp,rfl⟩,fun h=>hd ?_⟩
       have h : (d.toNat : Int) = 48:=h
       have : d.toNat = 48:=by omega
       exact UInt8.toNat_inj.1 this
     unfold Pb
     rw [ht]
     have e0 : decide (charI (d :: r') 0 = 48) = false:=by
      rw [decide_eq_false]
      intro h
      apply hd
      have h : (d.toNat : Int) = 48:=h
      have : d.toNat = 48:=by omega
      exact UInt8.toNat_inj.1 this
     rw [e0,Bool.and_false]
     have e1 : ((d :: r').getD 0 0 != 48) = true:=by simpa using hd
     rw [e1,Bool.true_or]
     by_cases hg : Bv (d :: r') = true
     ·rw [if_neg (by rw [hA]; simp [hg]),hg]
      simp
     ·rw [if_pos (by rw [hA]; exact fun h=>hg h.2)]
      simp at hg
      simp [hg]
  ·have hp : By (c :: r) [45] = c :: r:=by
    unfold By Vo
    simp [hc]
   rw [hp]
   have ht : Ea (c :: r) = c :: r:=by
    unfold Ea
    rw [if_neg]
    rintro ⟨⟨_,h⟩,_⟩
    apply hc
    have h : (c.toNat : Int) = 45:=h
    have : c.toNat = 45:=by omega
    exact UInt8.toNat_inj.1 this
   unfold Pb
   rw [ht]
   by_cases hg : Bv (c :: r) = true
   ·rw [if_neg (by rw [hA]; simp [hg]),hg,Bool.and_true]
    by_cases h48 : c = 48
    ·subst h48
     cases r with
     | nil=>rfl
     | cons d r' =>
      show (!(decide _ || (decide (1 < r'.length + 1 + 1) && true))) = _
      rw [decide_eq_true (show 1 < r'.length + 1 + 1 by omega)]
      simp
    ·have e0 : decide (charI (c :: r) 0 = 48) = false:=by
      rw [decide_eq_false]
      intro h
      apply h48
      have h : (c.toNat : Int) = 48:=h
      have : c.toNat = 48:=by omega
      exact UInt8.toNat_inj.1 this
     have e1 : ((c :: r).getD 0 0 != 48) = true:=by simpa using h48
     rw [e0,e1,Bool.and_false]
     simp
   ·rw [if_pos (by rw [hA]; exact fun h=>hg h.2)]
    simp at hg
    simp [hg]
end Go.Proofs.YtefelnhpfdcleaaGreatDoor
namespace Go.Proofs.YtefelnhpfdcleaaGreatDoor
open Go Go.Sx
set_option maxRecDepth 100000
set_option maxHeartbeats 16000000
def Ba : Nat→List UInt8→Nat
 | acc,[]=>acc
 | acc,c :: r=>if c = 45 then Ba acc r else Ba (acc * 10 + (c.toNat - 48)) r
theorem Fv : ∀ (l : List UInt8) (acc : Nat),acc≤Ba acc l
 | [],acc=>Nat.le_refl _
 | c :: r,acc=>by
  unfold Ba
  split
  ·exact Fv r acc
  ·exact Nat.le_trans (by omega) (Fv r _)
def Nw (s : List UInt8) (hi : Int) : Int×Int :=
 if !Jn s then (0,6) else if charI s 0 = 45 then (0,7) else if (Ba 0 s : Int)≤hi then ((Ba 0 s : Int),0) else (0,7)
theorem Vr : ∀ (l : List UInt8) (acc : Nat),(∀ c∈l,48≤c.toNat∧c.toNat≤57)→acc≤18446744073709551615→Lib.parseUintM 18446744073709551615 acc l = if Ba acc l≤18446744073709551615 then .ok (Ba acc l) else .range
 | [],acc,_,h=>by simp [Lib.parseUintM,Ba,h]
 | c :: r,acc,h,ha=>by
  have hc:=h c (List.mem_cons_self ..)
  have hr : ∀ d∈r,48≤d.toNat∧d.toNat≤57:=fun d hd=>h d (List.mem_cons_of_mem _ hd)
  have hne : c≠45:=by rintro rfl; exact absurd hc.1 (by decide)
  rw [Lib.parseUintM,if_pos hc,Ba,if_neg hne]
  have hm:=Fv r (acc * 10 + (c.toNat - 48))
  split
  ·rw [if_neg (by omega)]
  ·split
   ·rw [if_neg (by omega)]
   ·exact Vr r _ hr (by omega)
theorem Gw {s : List UInt8} (h : Bv s = true) : ∀ c∈s,48≤c.toNat∧c.toNat≤57:=fun c hc=>by
 have:=List.all_eq_true.1 h c hc
 unfold Pa at this
 simp only [Bool.and_eq_true,decide_eq_true_eq] at this
 omega
theorem Vt {s : List UInt8} (hne : s≠[]) (h : Bv s = true) : Mk s = if Ba 0 s < 9223372036854775808 then ((Ba 0 s : Int),true) else (9223372036854775807,false):=by
 match s,hne with
 | c :: r,_ =>
  have hd:=Gw h
  have hc:=hd c (List.mem_cons_self ..)
  have hpm:=Vr (c :: r) 0 hd (by omega)
  have hp : Lib.parseIntB 64 (c :: r) = if Ba 0 (c :: r) < 9223372036854775808 then .ok (Ba 0 (c :: r) : Int) else .range:=by
   unfold Lib.parseIntB
   simp only
   rw [if_neg (by omega)]
   unfold Lib.parseUintB
   rw [if_neg (by simp)]
   have hpm2 : Lib.parseUintM (2 ^ 64 - 1) 0 (c :: r) = if Ba 0 (c :: r)≤18446744073709551615 then .ok (Ba 0 (c :: r)) else .range:=hpm
   rw [hpm2]
   generalize Ba 0 (c :: r) = v
   by_cases h1 : v≤18446744073709551615
   ·rw [if_pos h1]
    simp only
    by_cases h2 : v < 9223372036854775808
    ·rw [if_neg (by omega),if_neg (by omega),if_neg (by omega),if_pos h2]
    ·rw [if_pos ⟨by omega,by omega⟩,if_neg h2]
   ·rw [if_neg h1,if_neg (by omega)]
  unfold Mk
  rw [hp]
  by_cases h2 : Ba 0 (c :: r) < 9223372036854775808
  ·rw [if_pos h2,if_pos h2]
  ·rw [if_neg h2,if_neg h2]
   have : Lib.intSat 64 (c :: r) = 9223372036854775807:=by
    unfold Lib.intSat
    rw [if_neg (by simp; omega)]
    rfl
   rw [this]
theorem Pc {s : List UInt8} (h : Jn s = true) (h0 : charI s 0≠45) : s≠[]∧Bv s = true:=by
 rw [←Nq] at h
 unfold Pb at h
 have ht : Ea s = s:=by unfold Ea; rw [if_neg (fun g=>h0 g.1.2)]
 rw [ht] at h
 simp only [Bool.and_eq_true,Bool.not_eq_true',Bool.or_eq_false_iff,decide_eq_false_iff_not] at h
 exact ⟨h.1.1,h.2⟩
theorem Ml (s : List UInt8) {hi : Int} (h0 : 0≤hi) (h1 : hi≤1000000000) : Bi s hi = if (Nw s hi).2 = 7∧charI s 0 = 45 then ((Nw s hi).1,6) else Nw s hi:=by
 unfold Bi Nw
 have hp : Lib.hasPrefix s [45] = decide (s≠[]∧charI s 0 = 45):=by
  cases s with
  | nil=>rfl
  | cons b r =>
   rw [Bool.eq_iff_iff]
   simp only [Lib.hasPrefix,List.isPrefixOf,Bool.and_true,beq_iff_eq,decide_eq_true_eq,ne_eq,reduceCtorEq,not_false_eq_true,true_and]
   unfold charI
   simp only [List.getD_cons_zero]
   constructor
   ·intro h; rw [←h]; rfl
   ·intro h
    have : b.toNat = 45:=by omega
    exact (UInt8.toNat_inj.1 this).symm
 by_cases hd : Jn s = true
 ·rw [hd]
  by_cases h45 : charI s 0 = 45
  ·have hne : s≠[]:=by rintro rfl; revert h45; decide
   rw [hp,decide_eq_true ⟨hne,h45⟩]
   simp [h45]
  ·have hP:=Pc hd h45
   rw [hp,decide_eq_false (fun g=>h45 g.2)]
   simp only [Bool.not_true,Bool.false_eq_true,if_false,h45]
   unfold Wo
   rw [hd,Vt hP.1 hP.2]
   simp only [Bool.not_true,Bool.false_eq_true,if_false]
   generalize Ba 0 s = v
   by_cases h2 : v < 9223372036854775808
   ·rw [if_pos h2]
    simp only [Bool.true_eq_false,false_or]
    by_cases h3 : (v : Int)≤hi
    ·rw [if_neg (by omega),if_pos h3]
     simp
    ·rw [if_pos (by omega),if_neg h3]
     simp
   ·have h4 : ¬ (v : Int)≤hi:=by omega
    rw [if_neg h2,if_pos (.inl rfl),if_neg h4]
    simp
 ·have hd : Jn s = false:=by simpa using hd
  rw [hd]
  simp only [Bool.not_false,if_true]
  have e7 : ¬ ((6 : Int) = 7∧charI s 0 = 45):=fun g=>absurd g.1 (by decide)
  rw [if_neg e7]
  split
  ·simp
  ·unfold Wo; rw [hd]; simp
end Go.Proofs.YtefelnhpfdcleaaGreatDoor
namespace Go.Proofs.YtefelnhpfdcleaaGreatDoor
open Go Go.Sx
set_option maxRecDepth 100000
set_option maxHeartbeats 4000000
structure Aek (t : List UInt8) : Prop where
 h : t.length≤100000
structure Anj (c : Bool) (s : List UInt8) : Prop where
 h : c = decide ((1 < s.length∧charI s 0 = 45)∧charI s 1≠48)
end Go.Proofs.YtefelnhpfdcleaaGreatDoor
namespace Go.Proofs.YtefelnhpfdcleaaGreatDoor
open Go Go.Sx
set_option maxRecDepth 100000
set_option maxHeartbeats 4000000
structure InJ (s : List UInt8) (fin acc i : Nat) (I N : Int) (m : Nat) : Prop where
 lie : At s i I m
 N : N = -(acc : Int)
 le : acc≤9223372036854775808
 k : fin = Ba acc (s.drop i)
 cs : ∀ c∈s,c.toNat = 45∨(48≤c.toNat∧c.toNat≤57)
structure HiOk (hi : Int) : Prop where
 lo : 0≤hi
 hi : hi≤1000000000
structure FinIs (fin : Nat) (mn : Bool) : Prop where
 h : mn = true→1≤fin
structure IntK (kv ke : Int) (mn : Bool) (fin : Nat) (hi : Int) : Prop where
 h : (kv,ke) = if mn = true then ((0 : Int),(7 : Int)) else if (fin : Int)≤hi then ((fin : Int),0) else (0,7)
structure QuoIs (q : Int) (d : Nat) : Prop where
 h : q = -(((9223372036854775808 - d) / 10 : Nat) : Int)
structure NIs (N : Int) (fin : Nat) : Prop where
 h : N = -(fin : Int)
 le : fin≤9223372036854775808
structure KIs (kv ke : Int) (fin : Nat) (hi : Int) : Prop where
 h : (kv,ke) = if (false = true) then ((0 : Int),(7 : Int)) else if (fin : Int)≤hi then ((fin : Int),0) else (0,7)
end Go.Proofs.YtefelnhpfdcleaaGreatDoor
namespace Go.Proofs.YtefelnhpfdcleaaGreatDoor
open Go Go.Sx
set_option maxRecDepth 100000
set_option maxHeartbeats 4000000
end Go.Proofs.YtefelnhpfdcleaaGreatDoor
namespace Go.Proofs.YtefelnhpfdcleaaGreatDoor
open Go Go.Sx
set_option maxRecDepth 100000
set_option maxHeartbeats 4000000
structure LnJ (b : List UInt8) (i : Nat) (I : Int) (m : Nat) : Prop where
 lie : At b i I m
 le : i≤1024
 k : lnK b i
structure CB (c : Int) (x : UInt8) : Prop where
 h : c = (x.toNat : Int)
structure CK (g : Bool) (c : Int) (x : UInt8) : Prop where
 h : g = true→c = (x.toNat : Int)
structure SpJ (t : List UInt8) (k : Nat) (I P : Int) (m : Nat) : Prop where
 lie : At t k I m
 p : P < (t.length : Int)
 p0 : -1≤P
 k : spK t k P
structure LnX (s x : List UInt8) : Prop where
 x : 11≤s.length→x = s.drop (s.length - 11)
 w : 11≤s.length→IntKind.i64.wrap ((s.length : Int) - 11) = ((s.length - 11 : Nat) : Int)
structure PRa (t : List UInt8) (P : Int) : Prop where
 p : P < (t.length : Int)
 p0 : -1≤P
end Go.Proofs.YtefelnhpfdcleaaGreatDoor
namespace Go.Proofs.YtefelnhpfdcleaaGreatDoor
open Go Go.Sx
set_option maxRecDepth 100000
set_option maxHeartbeats 400000
theorem V1 : nHost≠nId∧nHost≠nLen∧nHost≠nTE∧nId≠nLen∧nId≠nTE∧nLen≠nTE:=by decide
theorem As (x : HF) (l : List HF) (t : List UInt8) : D4 (l ++ [x]) t = D4 l t ++ (if Ao x.name == t then [x.value] else []):=by
 unfold D4
 rw [List.filter_append,List.map_append]
 congr 1
 rw [List.filter_cons]
 split<;>simp
structure FrR (r : Fr) (l : List HF) : Prop where
 hosts : r.hosts = D4 l nHost
 ids : r.ids = D4 l nId
 lens : r.lens = D4 l nLen
 coded : r.coded = decide (0 < (D4 l nTE).length)
 rest : r.rest = l.filter fun x=>!I4 (Ao x.name)
theorem Cw (t : List UInt8) : I4 t = (t == nHost || t == nId || t == nLen || t == nTE):=by
 rw [Bool.or_assoc,Bool.or_assoc]; rfl
theorem Wx {r : Fr} {l : List HF} (x : HF) (h : FrR r l) : FrR (Cs r x) (l ++ [x]):=by
 obtain ⟨h1,h2,h3,h4,h5⟩:=h
 obtain ⟨n1,n2,n3,n4,n5,n6⟩:=V1
 unfold Cs
 by_cases e1 : Ao x.name = nHost
 ·rw [if_pos e1]
  refine ⟨?_,?_,?_,?_,?_⟩
  ·rw [As,if_pos (by rw [e1]; exact beq_self_eq_true _),←h1]
  ·rw [As,if_neg (by rw [e1]; simpa using n1),List.append_nil]; exact h2
  ·rw [As,if_neg (by rw [e1]; simpa using n2),List.append_nil]; exact h3
  ·rw [As,if_neg (by rw [e1]; simpa using n3),List.append_nil]; exact h4
  ·rw [List.filter_append,←h5,List.filter_cons,if_neg (by rw [Cw,e1]; simp)]; simp
 rw [if_neg e1]
 by_cases e2 : Ao x.name = nId
 ·rw [if_pos e2]
  refine ⟨?_,?_,?_,?_,?_⟩
  ·rw [As,if_neg (by simpa using e1),List.append_nil]; exact h1
  ·rw [As,if_pos (by rw [e2]; exact beq_self_eq_true _),←h2]
  ·rw [As,if_neg (by rw [e2]; simpa using n4),List.append_nil]; exact h3
  ·rw [As,if_neg (by rw [e2]; simpa using n5),List.append_nil]; exact h4
  ·rw [List.filter_append,←h5,List.filter_cons,if_neg (by rw [Cw,e2]; simp)]; simp
 rw [if_neg e2]
 by_cases e3 : Ao x.name = nLen
 ·rw [if_pos e3]
  refine ⟨?_,?_,?_,?_,?_⟩
  ·rw [As,if_neg (by simpa using e1),List.append_nil]; exact h1
  ·rw [As,if_neg (by simpa using e2),List.append_nil]; exact h2
  ·rw [As,if_pos (by rw [e3]; exact beq_self_eq_true _),←h3]
  ·rw [As,if_neg (by rw [e3]; simpa using n6),List.append_nil]; exact h4
  ·rw [List.filter_append,←h5,List.filter_cons,if_neg (by rw [Cw,e3]; simp)]; simp
 rw [if_neg e3]
 by_cases e4 : Ao x.name = nTE
 ·rw [if_pos e4]
  refine ⟨?_,?_,?_,?_,?_⟩
  ·rw [As,if_neg (by simpa using e1),List.append_nil]; exact h1
  ·rw [As,if_neg (by simpa using e2),List.append_nil]; exact h2
  ·rw [As,if_neg (by simpa using e3),List.append_nil]; exact h3
  ·rw [As,if_pos (by rw [e4]; exact beq_self_eq_true _)]
   simp
  ·rw [List.filter_append,←h5,List.filter_cons,if_neg (by rw [Cw,e4]; simp)]; simp
 rw [if_neg e4]
 refine ⟨?_,?_,?_,?_,?_⟩
 ·rw [As,if_neg (by simpa using e1),List.append_nil]; exact h1
 ·rw [As,if_neg (by simpa using e2),List.append_nil]; exact h2
 ·rw [As,if_neg (by simpa using e3),List.append_nil]; exact h3
 ·rw [As,if_neg (by simpa using e4),List.append_nil]; exact h4
 ·rw [List.filter_append,←h5,List.filter_cons,if_pos (by rw [Cw]; simp [e1,e2,e3,e4])]; simp
theorem M0 : ∀ (l l0 : List HF) (r : Fr),FrR r l0→FrR (l.foldl Cs r) (l0 ++ l)
 | [],l0,r,h=>by rw [List.append_nil]; exact h
 | x :: l,l0,r,h=>by
  have:=M0 l (l0 ++ [x]) _ (Wx x h)
  rw [List.append_assoc,List.singleton_append] at this
  exact this
theorem Ww (l : List HF) : FrR (D9 l) l:=by
 have:=M0 l [] ⟨[],[],[],false,[]⟩ ⟨rfl,rfl,rfl,rfl,rfl⟩
 rwa [List.nil_append] at this
theorem Vy : Bi [48] 65536 = (0,0):=by decide +kernel
end Go.Proofs.YtefelnhpfdcleaaGreatDoor
namespace Go.Proofs.YtefelnhpfdcleaaGreatDoor
open Go Go.Sx
set_option maxRecDepth 100000
set_option maxHeartbeats 8000000
theorem Tn {r : Rq} (h : (A1 r).2 = 0) : (Ai r).2 = 0∧(A1 r).1 = (Ai r).1∧A7 (Ai r).1 = 0∧A7 r.fields = 0∧Ed r.fields = false:=by
 unfold A1 at h ⊢
 split at h
 ·rename_i g; exact absurd h g
 rename_i g1
 split at h
 ·cases h
 rename_i g2
 split at h
 ·rename_i g; exact absurd h g
 rename_i g3
 rw [if_neg g1,if_neg g2,if_neg g3]
 exact ⟨by simpa using g3,rfl,h,by simpa using g1,by simpa using g2⟩
theorem Iv {r : Rq} (h : (Av r).2.2 = 0) : Bo r = (((((r.method ++ [32]) ++ r.target) ++ sVer) ++ Bj (Ai r).1) ++ r.body,0):=by
 have E:=M3 h
 obtain ⟨_,h2,h3,_,_⟩:=Tn E.chk
 unfold Bo
 have hp : Fw (Ai r).1 = (Bj (Ai r).1,0):=by unfold Fw; rw [if_neg (by simp [h3])]
 rw [if_neg (by simp [h]),E.fields,h2,hp,if_neg (by simp)]
theorem O8 {r : Rq} (h : (Av r).2.2≠0) : Bo r = ([],(Av r).2.2):=by
 unfold Bo
 rw [if_pos h]
end Go.Proofs.YtefelnhpfdcleaaGreatDoor
namespace Go.Proofs.YtefelnhpfdcleaaGreatDoor
open Go Go.Sx
set_option maxRecDepth 100000
set_option maxHeartbeats 16000000
end Go.Proofs.YtefelnhpfdcleaaGreatDoor
namespace Go.Proofs.YtefelnhpfdcleaaGreatDoor
open Go Go.Sx
set_option maxRecDepth 100000
set_option maxHeartbeats 4000000
def ovB (a b : List UInt8) : Bool:=decide (2100 < (a.length : Int)) || decide (2100 < (b.length : Int))
theorem Ali {a b : List UInt8} (h : ovB a b = false) : a.length≤2100∧b.length≤2100:=by
 unfold ovB at h
 simp only [Bool.or_eq_false_iff,decide_eq_false_iff_not] at h
 omega
def Yh : List HF→Int→Bool
 | [],n=>decide (20000 < n)
 | x :: l,n=>if ovB x.name x.value then true else Yh l (n + x.name.length + x.value.length)
def farH (r : Rq) : Bool:=((((decide (110 < (r.fields.length : Int)) || decide (1200 < (r.method.length : Int))) || decide (1200 < (r.target.length : Int))) || decide (1200 < (r.host.length : Int))) || (decide (3000 < (r.body.length : Int)) && decide ((r.body.length : Int)≤65536))) || decide (65600 < (r.body.length : Int))
def farF (r : Rq) : Bool:=if farH r then true else Yh r.fields 0
def spFar : FSpec:=fun _ xs ls K=>∃ (r : Rq) (nl : Bool) (n : Int) (f : Nat→List SV),xs = [.agg [.int .i64 (.a r.id),.str r.method,.str r.target,.str r.host,.sl (.a nl) (.a n) 2 f,.str r.body]]∧ls = []∧Gd r nl n f∧(∀ j,f j = B6 (r.fields.getD j default))∧∀ b,b = farF r→K (.bool (.a b)) []
structure FaJ (l : List HF) (k : Bool) (i : Nat) (I N : Int) (m : Nat) : Prop where
 lie : AtR l i I m
 lo : 0≤N
 hi : N≤4200 * i
 len : l.length≤110
 k : k = Yh (l.drop i) N
def faJ (r : Rq) (k : Bool) (nl : Bool) (n : Int) (f : Nat→List SV) (m : Nat) (vs : List (Option SV)) (hp : List Hl) : Prop :=
 ∃ (i : Nat) (I N : Int),vs = [some (.ptr 0 0),some (.int .i64 (.a N)),some (.int .i64 (.a I))]∧hp = [.blk 31 [.int .i64 (.a r.id),.str r.method,.str r.target,.str r.host,.sl (.a nl) (.a n) 2 f,.str r.body]]∧FaJ r.fields k i I N m
structure Ang (a : List UInt8) (n : Nat) : Prop where
 h : a.length≤n
theorem Ami : Ar Tryz.prog gl 17 spFar:=by
 refine A4 (gh:=[]) mixed A0 Ae Tryz.func17 (by kernel_rfl) (by kernel_rfl) ?_
 intro xs ls K h
 unfold spFar at h
 obtain ⟨r,nl,n,f,rfl,rfl,R,hT,h⟩:=h
 obtain ⟨k,hk⟩ : ∃ k,k = farF r:=⟨_,rfl⟩
 obtain ⟨fh,hfh⟩ : ∃ k,k = farH r:=⟨_,rfl⟩
 obtain ⟨fl,hfl⟩ : ∃ k,k = Yh r.fields 0:=⟨_,rfl⟩
 refine ⟨_,_,h k hk,fun D hD=>?_⟩
 clear h
 unfold farF at hk
 rw [←hfh,←hfl] at hk
 obtain ⟨id,me,ta,ho,fs,bo⟩:=r
 have VR:=R.row
 simp only at VR hT hfl
 cbv
 have hfn : fh = (((((decide (110 < n) || decide (1200 < (me.length : Int))) || decide (1200 < (ta.length : Int))) || decide (1200 < (ho.length : Int))) || (decide (3000 < (bo.length : Int)) && decide ((bo.length : Int)≤65536))) || decide (65600 < (bo.length : Int))):=by
  rw [hfh,VR.n]; rfl
 clear hfh
 refine br hD (fun h=>?_) (fun h=>?_)<;>cbv
 ·have h : fh = true:=by rw [hfn]; exact h
  rw [if_pos h] at hk
  exact Aj hD hk.symm
 have h : fh = false:=by rw [hfn]; exact h
 have hlen : n≤110:=by
  rw [hfn] at h
  simp only [Bool.or_eq_false_iff,decide_eq_false_iff_not] at h
  have:=h.1.1.1.1.1
  omega
 rw [if_neg (by rw [h]; simp)] at hk
 clear h hfn
 obtain ⟨J,hJ⟩ : ∃ J,J = faJ ⟨id,me,ta,ho,fs,bo⟩ fl nl n f:=⟨_,rfl⟩
 refine ⟨[1,3,4],J,⟨rfl,fs.length,?_⟩,?_⟩
 ·rw [hJ]
  subst hD
  exact ⟨0,0,0,rfl,rfl,⟨AtR.zero VR.len,Int.le_refl _,by omega,by have:=VR.n; show fs.length≤110; omega,hfl⟩⟩
 clear hfl
 intro m vs hp hj
 rw [hJ] at hj
 obtain ⟨i,I,N,rfl,rfl,V⟩:=hj
 cbv
 refine br hD (fun h=>?_) (fun h=>?_)<;>cbv
 ·have hlt:=V.lie.lt VR.n (of_decide_eq_true (p:=I < n) h)
  clear h
  have inA:=V.lie.inB hD VR.n hlt
  have hx:=VR.f i hlt
  have hst:=V.lie.step hD hlt
  have hko:=V.k
  simp only at hlt hx hko
  rw [M7 hlt,Yh] at hko
  obtain ⟨x,hxx⟩ : ∃ x,x = fs.getD i default:=⟨_,rfl⟩
  rw [←hxx] at hx hko
  obtain ⟨xn,xv⟩:=x
  simp only at hko
  refine ⟨inA,fun j hj=>?_⟩
  have hj:=V.lie.j hD hj
  cbv
  rw [hj,hx]
  cbv
  clear hj
  refine ⟨fun _=>inA,fun j2 hj2=>?_⟩
  have hj2 : (!decide (2100 < (xn.length : Int))) = true→j2 = i:=fun hg=>V.lie.j hD (hj2 (by subst hD; exact hg))
  cbv
  rw [hT j2]
  obtain ⟨x2,hx2⟩ : ∃ x2,x2 = fs.getD j2 default:=⟨_,rfl⟩
  rw [←hx2]
  obtain ⟨yn,yv⟩:=x2
  cbv
  have hcond : ovB xn yv = ovB xn xv:=by
   unfold ovB
   cases hb : decide (2100 < (xn.length : Int)) with
   | true=>rfl
   | false =>
    have:=hj2 (by rw [hb]; rfl)
    rw [this,←hxx] at hx2
    have:=congrArg HF.value hx2
    simp only at this
    rw [this]
  clear hj2 hx2 hxx
  refine br hD (fun h=>?_) (fun h=>?_)<;>cbv
  ·have h : ovB xn yv = true:=h
   rw [hcond] at h
   rw [if_pos h] at hko
   refine Aj hD ?_
   rw [hk,hko]; rfl
  have h : ovB xn yv = false:=h
  rw [hcond] at h
  rw [if_neg (by rw [h]; simp)] at hko
  have L1 : Ang xn 2100:=⟨(Ali h).1⟩
  have L2 : Ang xv 2100:=⟨(Ali h).2⟩
  clear h hcond
  refine ⟨inA,fun j hj=>?_⟩
  have hj:=V.lie.j hD hj
  cbv
  rw [hj,hx]
  cbv
  clear hj
  refine ⟨inA,fun j hj=>?_⟩
  have hj:=V.lie.j hD hj
  cbv
  rw [hj,hx]
  cbv
  clear hj
  have hw : IntKind.i64.wrap (IntKind.i64.wrap (N + (xn.length : Int)) + (xv.length : Int)) = N + (xn.length : Int) + (xv.length : Int):=by
   have:=V.lo; have:=V.hi; have:=V.lie.le; have:=V.len; have:=L1.h; have:=L2.h
   simp only at *
   rw [Am (n:=N + (xn.length : Int)) (by omega) (by omega),Am (by omega) (by omega)]
  refine ⟨_,hst.1,?_⟩
  rw [hJ]
  unfold faJ
  subst hD
  refine ⟨i + 1,_,_,rfl,rfl,⟨hst.2,?_,?_,V.len,?_⟩⟩
  ·show 0≤IntKind.i64.wrap (IntKind.i64.wrap (N + (xn.length : Int)) + (xv.length : Int))
   rw [hw]; have:=V.lo; omega
  ·show IntKind.i64.wrap (IntKind.i64.wrap (N + (xn.length : Int)) + (xv.length : Int))≤_
   rw [hw]; have:=V.hi; have:=L1.h; have:=L2.h; omega
  ·rw [hko]
   show _ = Yh _ (IntKind.i64.wrap (IntKind.i64.wrap (N + (xn.length : Int)) + (xv.length : Int)))
   rw [hw]
 have hi:=V.lie.eq VR.n (of_decide_eq_false (p:=I < n) h)
 have hko:=V.k
 simp only at hi hko
 have hdn : fs.drop i = []:=List.drop_eq_nil_of_le (by omega)
 rw [hdn,Yh] at hko
 refine Aj hD ?_
 rw [hk,hko]
 rfl
end Go.Proofs.YtefelnhpfdcleaaGreatDoor
namespace Go.Proofs.YtefelnhpfdcleaaGreatDoor
open Go Go.Sx
set_option maxRecDepth 100000
set_option maxHeartbeats 16000000
def segW (w : List UInt8) : List UInt8→List (List UInt8)
 | []=>[w]
 | b :: r=>if b = 47 then w :: segW [] r else segW (w ++ [b]) r
structure SgR (s : List UInt8) (k out : List (List UInt8)) (fr i : Nat) (F I n : Int) (b : Bool) (f : Nat→List SV) (m : Nat) : Prop where
 lie : At s i I m
 F : F = fr
 f1 : 1≤fr
 le : fr≤i
 row : GrS f n b out
 ol : out.length≤i
 k : k = out ++ segW ((s.drop fr).take (i - fr)) (s.drop i)
 len : s.length≤100000
end Go.Proofs.YtefelnhpfdcleaaGreatDoor
namespace Go.Proofs.YtefelnhpfdcleaaGreatDoor
open Go Go.Sx
set_option maxRecDepth 100000
set_option maxHeartbeats 16000000
def cst (st : List (List UInt8)) (s : List UInt8) (last : Bool) : List (List UInt8) :=
 if s≠[46]∧s≠[46,46] then st ++ [s] else
 if last then (if s = [46,46]∧st≠[] then st.dropLast else st) ++ [[]] else (if s = [46,46]∧st≠[] then st.dropLast else st)
def Ahq : List (List UInt8)→List (List UInt8)→List (List UInt8)
 | st,[]=>st
 | st,x :: r=>Ahq (cst st x r.isEmpty) r
end Go.Proofs.YtefelnhpfdcleaaGreatDoor
namespace Go.Proofs.YtefelnhpfdcleaaGreatDoor
open Go Go.Sx
set_option maxRecDepth 100000
set_option maxHeartbeats 16000000
structure DeJ (s k t : List UInt8) (i : Nat) (I n : Int) (f : Nat→List SV) (m : Nat) : Prop where
 lie : At s i I m
 row : Bn f n t
 k : k = t ++ normL s i
 le : t.length≤i
 len : s.length≤100000
end Go.Proofs.YtefelnhpfdcleaaGreatDoor
namespace Go.Proofs.YtefelnhpfdcleaaGreatDoor
open Go Go.Sx
set_option maxRecDepth 100000
set_option maxHeartbeats 16000000
end Go.Proofs.YtefelnhpfdcleaaGreatDoor
namespace Go.Proofs.YtefelnhpfdcleaaGreatDoor
open Go Go.Sx
set_option maxRecDepth 100000
set_option maxHeartbeats 40000000
structure ClJ (l st kk : List (List UInt8)) (i : Nat) (I n N : Int) (f fl : Nat→List SV) (m : Nat) : Prop where
 lie : AtR l i I m
 rl : A8 fl N l
 row : A8 f n st
 sl : st.length≤i
 ll : l.length≤501
 sm : ∀ x∈st,x.length≤500
 lm : ∀ x∈l,x.length≤500
 k : kk = Ahq st (l.drop i)
structure CoJ (st : List (List UInt8)) (o k : List UInt8) (i : Nat) (I n : Int) (f : Nat→List SV) (m : Nat) : Prop where
 lie : AtR st i I m
 row : A8 f n st
 sl : st.length≤501
 sm : ∀ x∈st,x.length≤500
 ol : o.length≤501 * i
 k : k = o ++ (st.drop i).flatMap (fun x=>47 :: x)
end Go.Proofs.YtefelnhpfdcleaaGreatDoor
namespace Go.Proofs.YtefelnhpfdcleaaGreatDoor
open Go Go.Sx
set_option maxRecDepth 100000
set_option maxHeartbeats 8000000
end Go.Proofs.YtefelnhpfdcleaaGreatDoor
namespace Go.Proofs.YtefelnhpfdcleaaGreatDoor
open Go Go.Sx
set_option maxRecDepth 100000
set_option maxHeartbeats 400000
inductive Un : List UInt8→Prop
 | nil : Un []
 | esc (a b : UInt8) (s : List UInt8) : 0≤Bx (a.toNat : Int)→0≤Bx (b.toNat : Int)→Un s→Un (37 :: a :: b :: s)
 | one (c : UInt8) (s : List UInt8) : (Cb c.toNat≠0∨c = 63)→Un s→Un (c :: s)
inductive Nu : List UInt8→Prop
 | nil : Nu []
 | esc (v : Nat) (s : List UInt8) : v < 256→Cb v≠1→Nu s→Nu (37 :: Qx.getD (v / 16) 0 :: Qx.getD (v % 16) 0 :: s)
 | one (c : UInt8) (s : List UInt8) : (Cb c.toNat≠0∨c = 63)→Nu s→Nu (c :: s)
inductive NrR : List UInt8→List UInt8→Prop
 | nil : NrR [] []
 | esc (a b : UInt8) (s t : List UInt8) : 0≤Bx (a.toNat : Int)→0≤Bx (b.toNat : Int)→NrR s t→NrR (37 :: a :: b :: s) (Qu (16 * Bx (a.toNat : Int) + Bx (b.toNat : Int)) ++ t)
 | one (c : UInt8) (s t : List UInt8) : (Cb c.toNat≠0∨c = 63)→NrR s t→NrR (c :: s) (c :: t)
theorem Uj (s : List UInt8) : ∀ (m i e r : Nat),s.length - i≤m→I5 s i e = some r→Un (s.drop i)
 | m,i,e,r,hm,h=>by
  by_cases hl : i < s.length
  ·cases m with
   | zero=>omega
   | succ m =>
    cases he : Ct s i with
    | true =>
     rw [Vv hl he] at h
     have hp : Qj s i:=of_decide_eq_true he
     have ih:=Uj s m (i + 3) e r (by omega) h
     have d0:=Bf hl
     have d1:=Bf (show i + 1 < s.length by have:=hp.1; omega)
     have d2:=Bf (show i + 1 + 1 < s.length by have:=hp.1; omega)
     rw [d0,d1,d2]
     have h37 : s.getD i 0 = 37:=UInt8.toNat_inj.1 (by have:=hp.2.1; unfold charI at this; show (s.getD i 0).toNat = 37; omega)
     rw [h37]
     exact Un.esc _ _ _ hp.2.2.1 hp.2.2.2 ih
    | false =>
     rw [Bf hl]
     by_cases h63 : charI s i = 63
     ·rw [Rg hl he h63] at h
      exact Un.one _ _ (.inr (UInt8.toNat_inj.1 (by unfold charI at h63; show (s.getD i 0).toNat = 63; omega))) (Uj s m (i + 1) _ r (by omega) h)
     ·by_cases hk : Cb (charI s i).toNat = 0
      ·rw [Vw hl he h63 hk] at h; cases h
      ·rw [Rf hl he h63 hk] at h
       exact Un.one _ _ (.inl (by unfold charI at hk; simpa using hk)) (Uj s m (i + 1) _ r (by omega) h)
  ·rw [List.drop_eq_nil_of_le (by omega)]; exact Un.nil
theorem dig_val : ∀ d : Fin 16,Bx ((Qx.getD d.1 0).toNat : Int) = (d.1 : Int):=by decide
theorem Adz {d : Nat} (h : d < 16) : Bx ((Qx.getD d 0).toNat : Int) = (d : Int):=dig_val ⟨d,h⟩
structure Sep (c : UInt8) : Prop where
 n37 : c≠37
 val : ¬ 0≤Bx (c.toNat : Int)
theorem Un.cut {c : UInt8} (hc : Sep c) {u : List UInt8} (h : Un u) : ∀ a b,u = a ++ c :: b→Un a∧Un b:=by
 induction h with
 | nil=>intro a b h; simp at h
 | esc x y s hx hy _ ih =>
  intro a b h
  match a,h with
  | [],h=>exact absurd (List.cons.inj h).1.symm hc.n37
  | [p],h=>have:=(List.cons.inj (List.cons.inj h).2).1; exact absurd (by rw [←this]; exact hx) hc.val
  | [p,q],h=>have:=(List.cons.inj (List.cons.inj (List.cons.inj h).2).2).1; exact absurd (by rw [←this]; exact hy) hc.val
  | p :: q :: r :: a,h =>
   simp only [List.cons_append,List.cons.injEq] at h
   obtain ⟨rfl,rfl,rfl,h⟩:=h
   obtain ⟨h1,h2⟩:=ih a b h
   exact ⟨.esc _ _ _ hx hy h1,h2⟩
 | one x s hx hs ih =>
  intro a b h
  match a,h with
  | [],h=>rw [(List.cons.inj h).2] at hs; exact ⟨.nil,hs⟩
  | p :: a,h =>
   simp only [List.cons_append,List.cons.injEq] at h
   obtain ⟨rfl,h⟩:=h
   obtain ⟨h1,h2⟩:=ih a b h
   exact ⟨.one _ _ hx h1,h2⟩
theorem Nu.cut {c : UInt8} (hc : Sep c) {u : List UInt8} (h : Nu u) : ∀ a b,u = a ++ c :: b→Nu a∧Nu b:=by
 induction h with
 | nil=>intro a b h; simp at h
 | esc v s hv hk _ ih =>
  intro a b h
  match a,h with
  | [],h=>exact absurd (List.cons.inj h).1.symm hc.n37
  | [p],h=>have:=(List.cons.inj (List.cons.inj h).2).1; exact absurd (by rw [←this,Adz (by omega)]; omega) hc.val
  | [p,q],h=>have:=(List.cons.inj (List.cons.inj (List.cons.inj h).2).2).1; exact absurd (by rw [←this,Adz (by omega)]; omega) hc.val
  | p :: q :: r :: a,h =>
   simp only [List.cons_append,List.cons.injEq] at h
   obtain ⟨rfl,rfl,rfl,h⟩:=h
   obtain ⟨h1,h2⟩:=ih a b h
   exact ⟨.esc _ _ hv hk h1,h2⟩
 | one x s hx hs ih =>
  intro a b h
  match a,h with
  | [],h=>rw [(List.cons.inj h).2] at hs; exact ⟨.nil,hs⟩
  | p :: a,h =>
   simp only [List.cons_append,List.cons.injEq] at h
   obtain ⟨rfl,h⟩:=h
   obtain ⟨h1,h2⟩:=ih a b h
   exact ⟨.one _ _ hx h1,h2⟩
theorem Nu.app {a b : List UInt8} (h : Nu a) (hb : Nu b) : Nu (a ++ b):=by
 induction h with
 | nil=>exact hb
 | esc v s hv hk _ ih=>exact .esc _ _ hv hk ih
 | one c s hc _ ih=>exact .one _ _ hc ih
theorem Qy {c : UInt8} : ∀ {a : List UInt8},c ∉ a→∀ b,Ah c (a ++ c :: b) = (a,b,true)
 | [],_,b=>by simp [Ah]
 | x :: a,h,b=>by
  rw [List.mem_cons,not_or] at h
  show (if x == c then ([],a ++ c :: b,true) else (x :: (Ah c (a ++ c :: b)).1,(Ah c (a ++ c :: b)).2)) = _
  rw [if_neg (by simpa using fun e=>h.1 e.symm),Qy h.2 b]
theorem Z1 {c : UInt8} : ∀ {a : List UInt8},c ∉ a→Ah c a = (a,[],false)
 | [],_=>by simp [Ah]
 | x :: a,h=>by
  rw [List.mem_cons,not_or] at h
  show (if x == c then _ else _) = _
  rw [if_neg (by simpa using fun e=>h.1 e.symm),Z1 h.2]
structure Seg (x : List UInt8) : Prop where
 nu : Nu x
 n47 : (47 : UInt8) ∉ x
 n63 : (63 : UInt8) ∉ x
structure Good (x : List UInt8) : Prop where
 seg : Seg x
 d1 : x≠[46]
 d2 : x≠[46,46]
theorem Seg.nil : Seg []:=⟨.nil,by simp,by simp⟩
theorem Good.nil : Good []:=⟨.nil,by simp,by simp⟩
def flat (L : List (List UInt8)) : List UInt8:=L.flatMap fun x=>47 :: x
structure Cleaned (s t : List UInt8) (L : List (List UInt8)) (Q : List UInt8) (hb : Bool) : Prop where
 eq : t = flat L ++ (if hb then 63 :: Q else [])
 ne : L≠[]
 good : ∀ x∈L,Good x
 q : Nu Q
 q0 : hb = false→Q = []
 len : t.length≤s.length
 s500 : s.length≤500
 sp : Gi t = (flat L,Q,hb,0)
 has : (Gi s).2.2 = (hb,0)
 again : Le t = (t,0)
theorem orgF_un {s : List UInt8} (h : (Lx s).2 = 0) : Un s∧s≠[]∧charI s 0 = 47∧s.length≤500:=by
 have hl:=P2 h
 unfold Lx at h
 rw [if_neg (by omega),Ald] at h
 split at h
 ·cases h
 rename_i h0
 have h0 : s≠[]∧charI s 0 = 47:=by simpa using h0
 cases ho : I5 s 0 s.length with
 | none=>rw [ho] at h; cases h
 | some r =>
  have:=Uj s s.length 0 s.length r (by omega) ho
  rw [List.drop_zero] at this
  exact ⟨this,h0.1,h0.2,hl⟩
end Go.Proofs.YtefelnhpfdcleaaGreatDoor
