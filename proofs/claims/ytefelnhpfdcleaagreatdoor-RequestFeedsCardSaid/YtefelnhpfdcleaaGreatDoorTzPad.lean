/- Part of the proofs of the statements about requests (layer 7): a symbolic executor over the code, that it is sound, and contracts of functions; it has no conditions of its own. -/
import Derived.Test.YtefelnhpfdcleaaGreatDoorTzPac
import Derived.Test.YtefelnhpfdcleaaGreatDoorTzPaa
import Derived.Test.YtefelnhpfdcleaaGreatDoorSzPbh
namespace Go.Proofs.YtefelnhpfdcleaaGreatDoor
open Go Go.Sx
set_option maxRecDepth 100000
set_option maxHeartbeats 4000000
def dcJ (t : List UInt8) (k : Bool) (m : Nat) (vs : List (Option SV)) (hp : List Hl) : Prop :=
 ∃ (i : Nat) (I : Int),vs = [some (.str t),some (.int .i64 (.a I))]∧hp = []∧At t i I m∧k = Bv (t.drop i)
structure Aek (t : List UInt8) : Prop where
 h : t.length≤100000
structure Anj (c : Bool) (s : List UInt8) : Prop where
 h : c = decide ((1 < s.length∧charI s 0 = 45)∧charI s 1≠48)
def Ad1 (t : List UInt8) : Bool:=(decide (t = []) || (decide (1 < t.length) && decide (charI t 0 = 48)))
theorem Agh : Ar Tryz.prog gl 127 spDec:=by
 refine A4 (gh:=[]) mixed A0 (Aa Amo Ae) Tryz.func127 (by kernel_rfl) (by kernel_rfl) ?_
 intro xs ls K h
 unfold spDec at h
 obtain ⟨s,rfl,rfl,hs,h⟩:=h
 obtain ⟨k,hk⟩ : ∃ k,k = Jn s:=⟨_,rfl⟩
 refine ⟨_,_,h k hk,fun D hD=>?_⟩
 cbv
 clear h
 rw [←Nq] at hk
 have hk : k = (!Ad1 (Ea s) && Bv (Ea s)):=hk
 have LS : Aek s:=⟨hs⟩
 clear hs
 have body : ∀ t : List UInt8,Aek t→k = (!Ad1 t && Bv t)→True:=fun _ _ _=>trivial
 refine ⟨fun hg=>?_,fun a ha=>?_⟩
 ·subst hD
  have hg : decide (1 < (s.length : Int)) = true:=hg
  have:=of_decide_eq_true hg
  exact Ds (e:=.l 0) (i:=0) rfl (by omega)
 cbv
 have ha:=Co (e:=.l 0) (i:=0) hD rfl ha
 refine ⟨fun hg=>?_,fun b hb=>?_⟩
 ·subst hD
  have hg : (decide (1 < (s.length : Int)) && (a == 45)) = true:=hg
  rw [Bool.and_eq_true] at hg
  have:=of_decide_eq_true hg.1
  exact Ds (e:=.l 1) (i:=1) rfl (by omega)
 cbv
 have hb:=Co (e:=.l 1) (i:=1) hD rfl hb
 clear body
 have hC : ((decide (1 < (s.length : Int)) && (a == 45)) && (b != 48)) = decide ((1 < s.length∧charI s 0 = 45)∧charI s 1≠48):=by
  rw [←ha.charI,←hb.charI,Bool.eq_iff_iff]
  simp only [Bool.and_eq_true,decide_eq_true_eq,beq_iff_eq,bne_iff_ne,ne_eq]
  constructor
  ·rintro ⟨⟨h1,h2⟩,h3⟩; exact ⟨⟨by omega,h2⟩,h3⟩
  ·rintro ⟨⟨h1,h2⟩,h3⟩; exact ⟨⟨by omega,h2⟩,h3⟩
 have HC : Anj ((decide (1 < (s.length : Int)) && (a == 45)) && (b != 48)) s:=⟨hC⟩
 clear hC ha hb
 refine br hD (fun h=>?_) (fun h=>?_)<;>cbv
 ·have h : ((decide (1 < (s.length : Int)) && (a == 45)) && (b != 48)) = true:=h
  rw [HC.h] at h
  have h:=of_decide_eq_true h
  have h1 : 1 < s.length:=h.1.1
  refine ⟨by subst hD; exact Ee (i:=1) (j:=s.length) (a:=.l 1) (b:=.len s) rfl rfl (by omega) (by omega),fun t ht=>?_⟩
  cbv
  have ht : t = s.drop 1:=by
   rw [Hn (i:=1) (j:=s.length) hD rfl rfl ht]
   exact List.take_of_length_le (by simp)
  have hdt : t = Ea s:=by unfold Ea; rw [if_pos h,ht]
  have LT : Aek t:=⟨by have:=LS.h; rw [ht,List.length_drop]; omega⟩
  clear h ht HC
  have hk : k = (!Ad1 t && Bv t):=by rw [←hdt] at hk; exact hk
  clear hdt
  refine ⟨fun hg _=>?_,fun c hc=>?_⟩
  ·subst hD
   have hg : decide (1 < (t.length : Int)) = true:=hg
   have:=of_decide_eq_true hg
   have h9 : 0 < t.length:=by omega
   exact Ds (e:=.l 0) (i:=0) rfl h9
  cbv
  have hc:=Co (e:=.l 0) (i:=0) hD rfl hc
  have hdg : Ad1 t = (((t.length : Int) == 0) || (decide (1 < (t.length : Int)) && (c == 48))):=by
   unfold Ad1
   rw [←hc.charI]
   have e1 : decide (t = []) = ((t.length : Int) == 0):=by rw [Bool.eq_iff_iff,decide_eq_true_eq,beq_iff_eq,←List.length_eq_zero_iff]; omega
   have e2 : decide (1 < t.length) = decide (1 < (t.length : Int)):=by rw [decide_eq_decide]; omega
   have e3 : decide (c = 48) = (c == 48):=by rw [Bool.eq_iff_iff,decide_eq_true_eq,beq_iff_eq]
   rw [e1,e2,e3]
  rw [hdg] at hk
  refine br hD (fun h=>?_) (fun h=>?_)<;>cbv
  ·have h : (((t.length : Int) == 0) || (decide (1 < (t.length : Int)) && (c == 48))) = true:=h
   rw [h] at hk
   exact Aj hD hk.symm
  have h : (((t.length : Int) == 0) || (decide (1 < (t.length : Int)) && (c == 48))) = false:=h
  rw [h] at hk
  have hk : k = Bv t:=hk
  clear h hdg hc
  obtain ⟨J,hJ⟩ : ∃ J,J = dcJ t k:=⟨_,rfl⟩
  refine ⟨[0,3],J,⟨rfl,t.length,?_⟩,?_⟩
  ·rw [hJ]
   subst hD
   exact ⟨0,0,rfl,rfl,At.zero (by have:=LT.h; omega),hk⟩
  intro m vs hp hv
  rw [hJ] at hv
  unfold dcJ at hv
  obtain ⟨i,I,rfl,rfl,V,hk2⟩:=hv
  clear hk
  cbv
  refine br hD (fun h=>?_) (fun h=>?_)<;>cbv
  ·have hlt:=V.lt (of_decide_eq_true (p:=I < (t.length : Int)) h)
   clear h
   rw [Bf hlt] at hk2
   have hk2 : k = (Pa (charI t i) && Bv (t.drop (i + 1))):=hk2
   have hst:=V.step hD hlt
   refine ⟨V.inS hD hlt,fun d hd=>?_⟩
   cbv
   have hd2:=Cl hD V.I hd
   clear hd
   refine ⟨_,rfl,rfl,fun q hq=>?_⟩
   cbv
   have hq : q = Pa d:=by subst hD; exact hq
   rw [←hd2.charI,←hq] at hk2
   refine br hD (fun h=>?_) (fun h=>?_)<;>cbv
   ·have h : (!q) = true:=h
    have h : q = false:=by simpa using h
    rw [h,Bool.false_and] at hk2
    exact Aj hD hk2.symm
   ·have h : (!q) = false:=h
    have h : q = true:=by simpa using h
    rw [h,Bool.true_and] at hk2
    refine ⟨_,hst.1,?_⟩
    rw [hJ]
    unfold dcJ
    subst hD
    exact ⟨i + 1,_,rfl,rfl,hst.2,hk2⟩
  have he:=V.eq (of_decide_eq_false (p:=I < (t.length : Int)) h)
  have hdn : t.drop i = []:=List.drop_eq_nil_of_le (by omega)
  rw [hdn] at hk2
  exact Aj hD hk2.symm
 ·have h : ((decide (1 < (s.length : Int)) && (a == 45)) && (b != 48)) = false:=h
  rw [HC.h] at h
  have h:=of_decide_eq_false h
  obtain ⟨t,ht⟩ : ∃ t,t = s:=⟨_,rfl⟩
  have hdt : s = Ea s:=by unfold Ea; rw [if_neg h]
  have LT:=LS
  clear h HC ht t
  have hk : k = (!Ad1 s && Bv s):=by rw [←hdt] at hk; exact hk
  clear hdt
  refine ⟨fun hg _=>?_,fun c hc=>?_⟩
  ·subst hD
   have hg : decide (1 < (s.length : Int)) = true:=hg
   have:=of_decide_eq_true hg
   have h9 : 0 < s.length:=by omega
   exact Ds (e:=.l 0) (i:=0) rfl h9
  cbv
  have hc:=Co (e:=.l 0) (i:=0) hD rfl hc
  have hdg : Ad1 s = (((s.length : Int) == 0) || (decide (1 < (s.length : Int)) && (c == 48))):=by
   unfold Ad1
   rw [←hc.charI]
   have e1 : decide (s = []) = ((s.length : Int) == 0):=by rw [Bool.eq_iff_iff,decide_eq_true_eq,beq_iff_eq,←List.length_eq_zero_iff]; omega
   have e2 : decide (1 < s.length) = decide (1 < (s.length : Int)):=by rw [decide_eq_decide]; omega
   have e3 : decide (c = 48) = (c == 48):=by rw [Bool.eq_iff_iff,decide_eq_true_eq,beq_iff_eq]
   rw [e1,e2,e3]
  rw [hdg] at hk
  refine br hD (fun h=>?_) (fun h=>?_)<;>cbv
  ·have h : (((s.length : Int) == 0) || (decide (1 < (s.length : Int)) && (c == 48))) = true:=h
   rw [h] at hk
   exact Aj hD hk.symm
  have h : (((s.length : Int) == 0) || (decide (1 < (s.length : Int)) && (c == 48))) = false:=h
  rw [h] at hk
  have hk : k = Bv s:=hk
  clear h hdg hc
  obtain ⟨J,hJ⟩ : ∃ J,J = dcJ s k:=⟨_,rfl⟩
  refine ⟨[0,3],J,⟨rfl,s.length,?_⟩,?_⟩
  ·rw [hJ]
   subst hD
   exact ⟨0,0,rfl,rfl,At.zero (by have:=LT.h; omega),hk⟩
  intro m vs hp hv
  rw [hJ] at hv
  unfold dcJ at hv
  obtain ⟨i,I,rfl,rfl,V,hk2⟩:=hv
  clear hk
  cbv
  refine br hD (fun h=>?_) (fun h=>?_)<;>cbv
  ·have hlt:=V.lt (of_decide_eq_true (p:=I < (s.length : Int)) h)
   clear h
   rw [Bf hlt] at hk2
   have hk2 : k = (Pa (charI s i) && Bv (s.drop (i + 1))):=hk2
   have hst:=V.step hD hlt
   refine ⟨V.inS hD hlt,fun d hd=>?_⟩
   cbv
   have hd2:=Cl hD V.I hd
   clear hd
   refine ⟨_,rfl,rfl,fun q hq=>?_⟩
   cbv
   have hq : q = Pa d:=by subst hD; exact hq
   rw [←hd2.charI,←hq] at hk2
   refine br hD (fun h=>?_) (fun h=>?_)<;>cbv
   ·have h : (!q) = true:=h
    have h : q = false:=by simpa using h
    rw [h,Bool.false_and] at hk2
    exact Aj hD hk2.symm
   ·have h : (!q) = false:=h
    have h : q = true:=by simpa using h
    rw [h,Bool.true_and] at hk2
    refine ⟨_,hst.1,?_⟩
    rw [hJ]
    unfold dcJ
    subst hD
    exact ⟨i + 1,_,rfl,rfl,hst.2,hk2⟩
  have he:=V.eq (of_decide_eq_false (p:=I < (s.length : Int)) h)
  have hdn : s.drop i = []:=List.drop_eq_nil_of_le (by omega)
  rw [hdn] at hk2
  exact Aj hD hk2.symm
end Go.Proofs.YtefelnhpfdcleaaGreatDoor
namespace Go.Proofs.YtefelnhpfdcleaaGreatDoor
open Go Go.Sx
set_option maxRecDepth 100000
set_option maxHeartbeats 4000000
theorem Aj3 {s : List UInt8} (h : Jn s = true) : s≠[]∧(∀ c∈s,c.toNat = 45∨(48≤c.toNat∧c.toNat≤57))∧(charI s 0 = 45→1≤Ba 0 s):=by
 rw [←Nq] at h
 unfold Pb at h
 simp only [Bool.and_eq_true,Bool.not_eq_true',Bool.or_eq_false_iff,decide_eq_false_iff_not] at h
 obtain ⟨⟨h1,_⟩,h2⟩:=h
 by_cases hC : (1 < s.length∧charI s 0 = 45)∧charI s 1≠48
 ·have ht : Ea s = s.drop 1:=by unfold Ea; rw [if_pos hC]
  rw [ht] at h1 h2
  match s,hC with
  | c :: d :: r,hC =>
   have hc : c.toNat = 45:=by have h:=hC.1.2; have h : (c.toNat : Int) = 45:=h; omega
   have hd:=Gw h2
   refine ⟨by simp,fun x hx=>?_,fun _=>?_⟩
   ·rcases List.mem_cons.1 hx with rfl | hx
    ·exact .inl hc
    ·exact .inr (hd x hx)
   ·have hc45 : c = 45:=UInt8.toNat_inj.1 hc
    have hd1:=hd d (List.mem_cons_self ..)
    have hne : d≠45:=by rintro rfl; exact absurd hd1.1 (by decide)
    have hn8 : d.toNat≠48:=by have h:=hC.2; have h : ¬ (d.toNat : Int) = 48:=h; omega
    rw [Ba,if_pos hc45,Ba,if_neg hne]
    have:=Fv r (0 * 10 + (d.toNat - 48))
    omega
  | [],hC=>exact absurd hC.1.1 (by simp)
  | [_],hC=>exact absurd hC.1.1 (by simp)
 ·have ht : Ea s = s:=by unfold Ea; rw [if_neg hC]
  rw [ht] at h1 h2
  have hd:=Gw h2
  refine ⟨h1,fun x hx=>.inr (hd x hx),fun h45=>?_⟩
  match s,h1 with
  | c :: r,_ =>
   have h45 : (c.toNat : Int) = 45:=h45
   have:=hd c (List.mem_cons_self ..)
   omega
def spIntN : FSpec:=fun _ xs ls K=>∃ (s : List UInt8) (lo hi : Int),xs = [.str s,.int .i64 (.a lo),.int .i64 (.a hi)]∧ls = []∧s.length≤100000∧lo = 0∧0≤hi∧hi≤1000000000∧∀ v e,(v,e) = Nw s hi→K (.tup [.int .i64 (.a v),.int .i64 (.a e)]) []
structure InJ (s : List UInt8) (fin acc i : Nat) (I N : Int) (m : Nat) : Prop where
 lie : At s i I m
 N : N = -(acc : Int)
 le : acc≤9223372036854775808
 k : fin = Ba acc (s.drop i)
 cs : ∀ c∈s,c.toNat = 45∨(48≤c.toNat∧c.toNat≤57)
def inJ9 (s : List UInt8) (lo hi : Int) (mn : Bool) (fin : Nat) (m : Nat) (vs : List (Option SV)) (hp : List Hl) : Prop :=
 ∃ (acc i : Nat) (I N : Int),vs = [some (.str s),some (.int .i64 (.a lo)),some (.int .i64 (.a hi)),some (.bool (.a mn)),some (.int .i64 (.a N)),some (.int .i64 (.a I))]∧hp = []∧InJ s fin acc i I N m
structure HiOk (hi : Int) : Prop where
 lo : 0≤hi
 hi : hi≤1000000000
structure FinIs (fin : Nat) (mn : Bool) : Prop where
 h : mn = true→1≤fin
structure IntK (kv ke : Int) (mn : Bool) (fin : Nat) (hi : Int) : Prop where
 h : (kv,ke) = if mn = true then ((0 : Int),(7 : Int)) else if (fin : Int)≤hi then ((fin : Int),0) else (0,7)
structure QuoIs (q : Int) (d : Nat) : Prop where
 h : q = -(((9223372036854775808 - d) / 10 : Nat) : Int)
structure NIs (N : Int) (fin : Nat) : Prop where
 h : N = -(fin : Int)
 le : fin≤9223372036854775808
structure KIs (kv ke : Int) (fin : Nat) (hi : Int) : Prop where
 h : (kv,ke) = if (false = true) then ((0 : Int),(7 : Int)) else if (fin : Int)≤hi then ((fin : Int),0) else (0,7)
theorem Al5 : Ar Tryz.prog gl 98 spIntN:=by
 refine A4 (gh:=[]) mixed A0 (Aa Agh Ae) Tryz.func98 (by kernel_rfl) (by kernel_rfl) ?_
 intro xs ls K h
 unfold spIntN at h
 obtain ⟨s,lo,hi,rfl,rfl,hs,hlo,h0,h1,h⟩:=h
 obtain ⟨k,hk⟩ : ∃ k,k = Nw s hi:=⟨_,rfl⟩
 obtain ⟨kv,ke⟩:=k
 refine ⟨_,_,h kv ke hk,fun D hD=>?_⟩
 cbv
 clear h
 have HH : HiOk hi:=⟨h0,h1⟩
 clear h0 h1
 refine ⟨s,rfl,rfl,hs,fun d hd=>?_⟩
 cbv
 unfold Nw at hk
 rw [←hd] at hk
 refine br hD (fun h=>?_) (fun h=>?_)<;>cbv
 ·have h : (!d) = true:=h
  rw [if_pos h] at hk
  simp only [Prod.mk.injEq] at hk
  exact Kj hD hk.1.symm hk.2.symm
 have h : (!d) = false:=h
 rw [if_neg (by rw [h]; simp)] at hk
 obtain ⟨c1,c2,c3⟩:=Aj3 (s:=s) (by rw [←hd]; simpa using h)
 have hpos : 0 < s.length:=List.length_pos_iff.2 c1
 clear h hd c1
 refine ⟨by subst hD; exact Ds (e:=.l 0) (i:=0) rfl hpos,fun a ha=>?_⟩
 cbv
 have ha:=Co (e:=.l 0) (i:=0) hD rfl ha
 rw [←ha.charI] at hk c3
 obtain ⟨fin,hfin⟩ : ∃ fin,fin = Ba 0 s:=⟨_,rfl⟩
 rw [←hfin] at hk c3
 obtain ⟨mn,hmn⟩ : ∃ mn,mn = (a == 45):=⟨_,rfl⟩
 have HK : IntK kv ke mn fin hi:=⟨by
  rw [hk,hmn]
  by_cases e : a = 45
  ·rw [if_pos e,if_pos (by simp [e])]
  ·rw [if_neg e,if_neg (fun g : (a == 45) = true=>e (eq_of_beq g))]⟩
 have HM : FinIs fin mn:=⟨fun e=>c3 (by rw [hmn] at e; exact eq_of_beq e)⟩
 have LS : Aek s:=⟨hs⟩
 clear hk c3 hs
 obtain ⟨J,hJ⟩ : ∃ J,J = inJ9 s lo hi mn fin:=⟨_,rfl⟩
 refine ⟨[0,1,2,8,9,10],J,⟨rfl,s.length,?_⟩,?_⟩
 ·rw [hJ,hmn]
  subst hD
  exact ⟨0,0,_,_,rfl,rfl,⟨At.zero (by have:=LS.h; omega),rfl,by omega,hfin,c2⟩⟩
 clear hfin hmn hpos c2
 intro m vs hp hv
 rw [hJ] at hv
 unfold inJ9 at hv
 obtain ⟨acc,i,I,N,rfl,rfl,V⟩:=hv
 cbv
 refine br hD (fun h=>?_) (fun h=>?_)<;>cbv
 ·have hlt:=V.lie.lt (of_decide_eq_true (p:=I < (s.length : Int)) h)
  clear h
  have hst:=V.lie.step hD hlt
  have hkd:=V.k
  rw [Bf hlt,Ba] at hkd
  have hcs:=V.cs (s.getD i 0) (by rw [Ew hlt]; exact List.getElem_mem hlt)
  have inS:=V.lie.inS hD hlt
  refine ⟨inS,fun c hc=>?_⟩
  cbv
  have hc2:=Cl hD V.lie.I hc
  clear hc
  refine br hD (fun h=>?_) (fun h=>?_)<;>cbv
  ·have h : (c == 45) = true:=h
   have h45 : s.getD i 0 = 45:=by
    have h2:=eq_of_beq h
    have h3:=hc2.h
    have : (s.getD i 0).toNat = 45:=by omega
    exact UInt8.toNat_inj.1 this
   rw [if_pos h45] at hkd
   refine ⟨_,hst.1,?_⟩
   rw [hJ]
   unfold inJ9
   subst hD
   exact ⟨acc,i + 1,_,_,rfl,rfl,⟨hst.2,V.N,V.le,hkd,V.cs⟩⟩
  have h : (c == 45) = false:=h
  have h45 : s.getD i 0≠45:=by
   intro e
   have h3:=hc2.h
   rw [e] at h3
   rw [h3] at h
   cases h
  rw [if_neg h45] at hkd
  have hr : 48≤c∧c≤57:=by
   have h3:=hc2.h
   rcases hcs with h4 | h4
   ·exact absurd (UInt8.toNat_inj.1 (show (s.getD i 0).toNat = (45 : UInt8).toNat from h4)) h45
   ·omega
  obtain ⟨dn0,hdn0⟩ : ∃ q,q = (s.getD i 0).toNat - 48:=⟨_,rfl⟩
  have hdd : VI (IntKind.i64.wrap (IntKind.u8.wrap (c - 48))) dn0:=⟨by
   have h3:=hc2.h
   rw [Pn (by omega) (by omega),Am (by omega) (by omega)]
   omega⟩
  have hd9 : dn0≤9:=by have h3:=hc2.h; omega
  rw [←hdn0] at hkd
  clear h hcs hdn0
  refine ⟨inS,fun c' hc=>?_⟩
  cbv
  have e1 : c' = c:=by rw [(Cl hD V.lie.I hc).h,hc2.h]
  subst e1
  clear hc
  have hquo : Bg .quo .i64 (IntKind.i64.wrap (-9223372036854775808 + IntKind.i64.wrap (IntKind.u8.wrap (c' - 48)))) 10 = -(((9223372036854775808 - dn0) / 10 : Nat) : Int):=by
   rw [hdd.h,Am (n:=-9223372036854775808 + (dn0 : Int)) (by omega) (by omega)]
   show IntKind.i64.wrap (Int.tdiv (-9223372036854775808 + (dn0 : Int)) 10) = _
   have e2 : (-9223372036854775808 + (dn0 : Int)) = -(((9223372036854775808 - dn0 : Nat)) : Int):=by omega
   rw [e2,Int.neg_tdiv,Int.tdiv_eq_ediv_of_nonneg (by omega)]
   have e3 : (((9223372036854775808 - dn0 : Nat)) : Int) / 10 = (((9223372036854775808 - dn0) / 10 : Nat) : Int):=by omega
   rw [e3]
   exact Am (by omega) (by omega)
  have HQ : QuoIs (Bg .quo .i64 (IntKind.i64.wrap (-9223372036854775808 + IntKind.i64.wrap (IntKind.u8.wrap (c' - 48)))) 10) dn0:=⟨hquo⟩
  clear hquo
  refine ⟨⟨by subst hD; decide⟩,?_⟩
  refine br hD (fun h=>?_) (fun h=>?_)<;>cbv
  ·have h : decide (N < Bg .quo .i64 (IntKind.i64.wrap (-9223372036854775808 + IntKind.i64.wrap (IntKind.u8.wrap (c' - 48)))) 10) = true:=h
   have h:=of_decide_eq_true h
   rw [HQ.h,V.N] at h
   have hbig : 9223372036854775808 < acc * 10 + dn0:=by omega
   have hle:=Fv (s.drop (i + 1)) (acc * 10 + dn0)
   rw [←hkd] at hle
   have hK:=HK.h
   have hno : ¬ (fin : Int)≤hi:=by have:=HH.hi; omega
   rw [if_neg hno] at hK
   have hK : (kv,ke) = ((0 : Int),(7 : Int)):=by rw [hK]; split<;>rfl
   obtain ⟨e1,e2⟩:=Prod.mk.inj hK
   exact Kj hD e1.symm e2.symm
  have h : decide (N < Bg .quo .i64 (IntKind.i64.wrap (-9223372036854775808 + IntKind.i64.wrap (IntKind.u8.wrap (c' - 48)))) 10) = false:=h
  have h:=of_decide_eq_false h
  rw [HQ.h,V.N] at h
  have hfit : acc * 10 + dn0≤9223372036854775808:=by omega
  have hN2 : IntKind.i64.wrap (IntKind.i64.wrap (10 * N) - IntKind.i64.wrap (IntKind.u8.wrap (c' - 48))) = -((acc * 10 + dn0 : Nat) : Int):=by
   rw [hdd.h,V.N,Am (n:=10 * -(acc : Int)) (by omega) (by omega),Am (by omega) (by omega)]
   omega
  refine ⟨_,hst.1,?_⟩
  rw [hJ]
  unfold inJ9
  subst hD
  exact ⟨acc * 10 + dn0,i + 1,_,_,rfl,rfl,⟨hst.2,hN2,hfit,hkd,V.cs⟩⟩
 have hi2:=V.lie.eq (of_decide_eq_false (p:=I < (s.length : Int)) h)
 have hdn : s.drop i = []:=List.drop_eq_nil_of_le (by omega)
 have hfa : fin = acc:=by rw [V.k,hdn]; rfl
 subst hfa
 clear h hdn hi2
 have HN : NIs N fin:=⟨V.N,V.le⟩
 clear V
 refine br hD (fun h=>?_) (fun h=>?_)<;>cbv
 ·have h : (!mn && (N == -9223372036854775808)) = true:=h
  rw [Bool.and_eq_true] at h
  have hN:=eq_of_beq h.2
  have hK:=HK.h
  have hmf : mn = false:=by simpa using h.1
  have hno : ¬ (fin : Int)≤hi:=by have:=HH.hi; have:=HN.h; omega
  rw [if_neg hno,hmf] at hK
  obtain ⟨e1,e2⟩:=Prod.mk.inj hK
  exact Kj hD e1.symm e2.symm
 have h : (!mn && (N == -9223372036854775808)) = false:=h
 have hnm : mn = false→N≠-9223372036854775808:=fun e=>by rw [e] at h; simpa using h
 clear h
 refine br hD (fun h=>?_) (fun h=>?_)<;>cbv
 ·have hmf : mn = false:=by have h : (!mn) = true:=h; simpa using h
  have hN:=hnm hmf
  have hneg : IntKind.i64.wrap (0 - N) = (fin : Int):=by
   have h1:=HN.h
   have h2:=HN.le
   rw [Am (by omega) (by omega)]; omega
  have HG : VI (IntKind.i64.wrap (0 - N)) fin:=⟨hneg⟩
  have hK:=HK.h
  rw [hmf] at hK
  have HK2 : KIs kv ke fin hi:=⟨hK⟩
  clear hneg hK hnm hN h
  refine br hD (fun h=>?_) (fun h=>?_)<;>cbv
  ·have h : (decide (IntKind.i64.wrap (0 - N) < lo) || decide (hi < IntKind.i64.wrap (0 - N))) = true:=h
   rw [HG.h] at h
   simp only [Bool.or_eq_true,decide_eq_true_eq] at h
   have hK:=HK2.h
   rw [if_neg (by decide),if_neg (by omega)] at hK
   obtain ⟨e1,e2⟩:=Prod.mk.inj hK
   exact Kj hD e1.symm e2.symm
  ·have h : (decide (IntKind.i64.wrap (0 - N) < lo) || decide (hi < IntKind.i64.wrap (0 - N))) = false:=h
   rw [HG.h] at h
   simp only [Bool.or_eq_false_iff,decide_eq_false_iff_not] at h
   have hK:=HK2.h
   rw [if_neg (by decide),if_pos (by omega)] at hK
   obtain ⟨e1,e2⟩:=Prod.mk.inj hK
   exact Kj hD (by rw [e1]; exact HG.h) e2.symm
 have hmt : mn = true:=by have h : (!mn) = false:=h; simpa using h
 clear h hnm
 have hK:=HK.h
 rw [if_pos hmt] at hK
 obtain ⟨e1,e2⟩:=Prod.mk.inj hK
 have hpos:=HM.h hmt
 have hneg : N < 0:=by have:=HN.h; omega
 refine br hD (fun h=>?_) (fun h=>?_)<;>cbv
 ·exact Kj hD e1.symm e2.symm
 ·exfalso
  have h : (decide (N < lo) || decide (hi < N)) = false:=h
  simp only [Bool.or_eq_false_iff,decide_eq_false_iff_not] at h
  omega
end Go.Proofs.YtefelnhpfdcleaaGreatDoor
namespace Go.Proofs.YtefelnhpfdcleaaGreatDoor
open Go Go.Sx
set_option maxRecDepth 100000
set_option maxHeartbeats 4000000
def spNumR : FSpec:=fun _ xs ls K=>∃ (s : List UInt8) (hi : Int),xs = [.str s,.int .i64 (.a hi)]∧ls = []∧s.length≤100000∧0≤hi∧hi≤1000000000∧∀ v e,(v,e) = Bi s hi→K (.tup [.int .i64 (.a v),.int .i64 (.a e)]) []
theorem Acz : Ar Tryz.prog gl 59 spNumR:=by
 refine A4 (gh:=[]) mixed A0 (Aa Al5 Ae) Tryz.func59 (by kernel_rfl) (by kernel_rfl) ?_
 intro xs ls K h
 unfold spNumR at h
 obtain ⟨s,hi,rfl,rfl,hs,h0,h1,h⟩:=h
 obtain ⟨k,hk⟩ : ∃ k,k = Bi s hi:=⟨_,rfl⟩
 obtain ⟨kv,ke⟩:=k
 refine ⟨_,_,h kv ke hk,fun D hD=>?_⟩
 cbv
 clear h
 refine ⟨s,_,_,by subst hD; rfl,rfl,hs,by subst hD; rfl,by subst hD; exact h0,by subst hD; exact h1,fun v e hve=>?_⟩
 cbv
 have hve : (v,e) = Nw s hi:=by subst hD; exact hve
 rw [Ml s h0 h1,←hve] at hk
 have hne : e = 7→s≠[]:=fun e7=>by
  intro e0
  subst e0
  have : Nw [] hi = (0,6):=rfl
  rw [this] at hve
  have:=(Prod.mk.inj hve).2
  omega
 clear hve h0 h1
 refine ⟨fun hg=>?_,fun a ha=>?_⟩
 ·subst hD
  have hg : (e == 7) = true:=hg
  exact Ds (e:=.l 0) (i:=0) rfl (List.length_pos_iff.2 (hne (eq_of_beq hg)))
 cbv
 have ha:=Co (e:=.l 0) (i:=0) hD rfl ha
 simp only at hk
 rw [←ha.charI] at hk
 clear ha hne
 refine br hD (fun h=>?_) (fun h=>?_)<;>cbv
 ·have h : ((e == 7) && (a == 45)) = true:=h
  simp only [Bool.and_eq_true,beq_iff_eq] at h
  rw [if_pos h] at hk
  obtain ⟨e1,e2⟩:=Prod.mk.inj hk
  exact Kj hD e1.symm e2.symm
 ·have h : ((e == 7) && (a == 45)) = false:=h
  rw [if_neg (fun g=>by rw [g.1,g.2] at h; simp at h)] at hk
  obtain ⟨e1,e2⟩:=Prod.mk.inj hk
  exact Kj hD e1.symm e2.symm
end Go.Proofs.YtefelnhpfdcleaaGreatDoor
namespace Go.Proofs.YtefelnhpfdcleaaGreatDoor
open Go Go.Sx
set_option maxRecDepth 100000
set_option maxHeartbeats 4000000
def spLineR : FSpec:=fun _ xs ls K=>∃ (b : List UInt8) (nl : Bool) (n : Int) (f : Nat→List SV),xs = [.sl (.a nl) (.a n) 1 f]∧ls = []∧Bn f n b∧(∀ j,f j = [.int .u8 (.a ((b.getD j 0).toNat : Int))])∧b.length≤1000000∧∀ m t k e,(m,t,k,e) = Ax b→K (.tup [.str m,.str t,.int .i64 (.a k),.int .i64 (.a e)]) []
structure LnJ (b : List UInt8) (i : Nat) (I : Int) (m : Nat) : Prop where
 lie : At b i I m
 le : i≤1024
 k : lnK b i
def lnJ (b : List UInt8) (nl : Bool) (n : Int) (f : Nat→List SV) (m : Nat) (vs : List (Option SV)) (hp : List Hl) : Prop :=
 ∃ (i : Nat) (I : Int),vs = [some (.sl (.a nl) (.a n) 1 f),some (.int .i64 (.a I))]∧hp = []∧LnJ b i I m
structure CB (c : Int) (x : UInt8) : Prop where
 h : c = (x.toNat : Int)
structure CK (g : Bool) (c : Int) (x : UInt8) : Prop where
 h : g = true→c = (x.toNat : Int)
structure SpJ (t : List UInt8) (k : Nat) (I P : Int) (m : Nat) : Prop where
 lie : At t k I m
 p : P < (t.length : Int)
 p0 : -1≤P
 k : spK t k P
def spJ (t : List UInt8) (ln : Int) (m : Nat) (vs : List (Option SV)) (hp : List Hl) : Prop :=
 ∃ (k : Nat) (I P : Int),vs = [some (.int .i64 (.a ln)),some (.str t),some (.int .i64 (.a P)),some (.int .i64 (.a I))]∧hp = []∧SpJ t k I P m
structure LnX (s x : List UInt8) : Prop where
 x : 11≤s.length→x = s.drop (s.length - 11)
 w : 11≤s.length→IntKind.i64.wrap ((s.length : Int) - 11) = ((s.length - 11 : Nat) : Int)
structure PRa (t : List UInt8) (P : Int) : Prop where
 p : P < (t.length : Int)
 p0 : -1≤P
theorem Us {x : UInt8} {c : Int} (h : c = (x.toNat : Int)) : (c = 10↔x = 10)∧(c = 32↔x = 32):=by
 constructor
 ·constructor
  ·intro e; exact UInt8.toNat_inj.1 (by show x.toNat = 10; omega)
  ·intro e; rw [h,e]; rfl
 ·constructor
  ·intro e; exact UInt8.toNat_inj.1 (by show x.toNat = 32; omega)
  ·intro e; rw [h,e]; rfl
theorem line_ok : Ar Tryz.prog gl 57 spLineR:=by
 refine A4 (gh:=[]) mixed A0 Ae Tryz.func57 (by kernel_rfl) (by kernel_rfl) ?_
 intro xs ls K h
 unfold spLineR at h
 obtain ⟨b,nl,n,f,rfl,rfl,R,hT,hb,h⟩:=h
 obtain ⟨k,hk⟩ : ∃ k,k = Ax b:=⟨_,rfl⟩
 obtain ⟨km,kt,kk,ke⟩:=k
 refine ⟨_,_,h km kt kk ke hk,fun D hD=>?_⟩
 cbv
 clear h
 have HN : VI n b.length:=⟨R.n⟩
 have HB : Nc b 1000000:=⟨hb⟩
 clear hb
 obtain ⟨J,hJ⟩ : ∃ J,J = lnJ b nl n f:=⟨_,rfl⟩
 refine ⟨[0,6],J,⟨rfl,b.length,?_⟩,?_⟩
 ·rw [hJ]
  subst hD
  exact ⟨0,0,rfl,rfl,⟨At.zero (by have:=HB.h; omega),by omega,Als b⟩⟩
 intro m vs hp hv
 rw [hJ] at hv
 unfold lnJ at hv
 obtain ⟨i,I,rfl,rfl,V⟩:=hv
 cbv
 refine ⟨fun hg=>?_,fun j hj=>?_⟩
 ·subst hD
  have hg : (decide (I < n) && decide (I < 1024)) = true:=hg
  simp only [Bool.and_eq_true,decide_eq_true_eq] at hg
  exact ⟨by show 0≤I; have:=V.lie.I; omega,by show I < n; exact hg.1⟩
 cbv
 have hfj : ∃ c : Int,f j = [.int .u8 (.a c)]∧CB c (b.getD j 0):=⟨_,hT j,⟨rfl⟩⟩
 obtain ⟨c,hfj,hcb⟩:=hfj
 rw [hfj]
 cbv
 have hck : CK (decide (I < n) && decide (I < 1024)) c (b.getD i 0):=⟨fun hg=>by
  have h1 : IsJ j I:=by subst hD; exact hj hg
  have h2:=h1.h
  have h3:=V.lie.I
  have : j = i:=by omega
  rw [←this]; exact hcb.h⟩
 clear hj hfj hcb
 refine br hD (fun h=>?_) (fun h=>?_)<;>cbv
 ·have h : ((decide (I < n) && decide (I < 1024)) && (c != 10)) = true:=h
  rw [Bool.and_eq_true] at h
  have hc:=hck.h h.1
  have h1:=h.1
  simp only [Bool.and_eq_true,decide_eq_true_eq] at h1
  have hn:=HN.h
  have hI:=V.lie.I
  have hlt : i < b.length:=by omega
  have hne : b.getD i 0≠10:=fun e=>by
   have:=((Us hc).1).2 e
   have h2:=h.2
   rw [this] at h2
   exact absurd h2 (by decide)
  have hst:=V.lie.step hD hlt
  refine ⟨_,hst.1,?_⟩
  rw [hJ]
  unfold lnJ
  subst hD
  exact ⟨i + 1,_,rfl,rfl,⟨hst.2,by omega,Alt hlt (by omega) hne V.k⟩⟩
 have h : ((decide (I < n) && decide (I < 1024)) && (c != 10)) = false:=h
 refine br hD (fun h2=>?_) (fun h2=>?_)<;>cbv
 ·have h2 : (I == 1024) = true:=h2
  have hi : i = 1024:=by have:=V.lie.I; have:=eq_of_beq h2; omega
  rw [ln_1024 (by rw [←hi]; exact V.k) (by have:=V.lie.le; omega)] at hk
  simp only [Prod.mk.injEq] at hk
  exact Oe hD hk.1.symm hk.2.1.symm hk.2.2.1.symm hk.2.2.2.symm
 have h2 : (I == 1024) = false:=h2
 have hi : i < 1024:=by
  have h3 : I≠1024:=by intro e; rw [e] at h2; exact absurd h2 (by decide)
  have:=V.lie.I; have:=V.le; omega
 clear h2
 refine br hD (fun h2=>?_) (fun h2=>?_)<;>cbv
 ·have h2 : (I == n) = true:=h2
  have hi2 : i = b.length:=by have:=V.lie.I; have:=eq_of_beq h2; have:=HN.h; omega
  rw [ln_more (by rw [←hi2]; exact V.k) (by omega)] at hk
  simp only [Prod.mk.injEq] at hk
  exact Oe hD hk.1.symm hk.2.1.symm hk.2.2.1.symm hk.2.2.2.symm
 have h2 : (I == n) = false:=h2
 have hi2 : i < b.length:=by
  have h3 : I≠n:=by intro e; rw [e] at h2; simp at h2
  have:=V.lie.I; have:=V.lie.le; have:=HN.h; omega
 clear h2
 have h10 : b.getD i 0 = 10:=by
  have hg : (decide (I < n) && decide (I < 1024)) = true:=by
   simp only [Bool.and_eq_true,decide_eq_true_eq]
   have:=V.lie.I; have:=HN.h; omega
  rw [hg,Bool.true_and] at h
  exact ((Us (hck.h hg)).1).1 (by simpa using h)
 clear h hck
 rw [ln_hit V.k hi2 hi h10] at hk
 have W : VI I i:=⟨V.lie.I⟩
 have w1 : IntKind.i64.wrap (I + 1) = I + 1:=by have:=W.h; exact Am (by omega) (by omega)
 have W1 : VI (IntKind.i64.wrap (I + 1)) (i + 1):=⟨by rw [w1,W.h]; omega⟩
 clear w1 V
 refine ⟨by subst hD; exact ⟨Int.le_refl _,by show (0 : Int)≤IntKind.i64.wrap (I + 1); rw [W1.h]; omega,by show IntKind.i64.wrap (I + 1)≤n; rw [W1.h,HN.h]; omega⟩,fun f1 n1 hsub=>?_⟩
 cbv
 have R1 : Bn f1 n1 (b.take (i + 1)):=by
  have:=R.sub (a:=0) (b:=i + 1) hsub (by subst hD; rfl) (by subst hD; exact W1.h) (by omega) (by omega)
  rw [List.drop_zero,Nat.sub_zero] at this
  exact this
 clear hsub
 refine ⟨by subst hD; exact R1.byte,fun s hr=>?_⟩
 cbv
 have hs2 : s = b.take (i + 1):=by subst hD; exact R1.str hr
 clear hr
 have hs3 : s = b.take i ++ [10]:=by rw [hs2,Akn hi2 h10]
 have HL : Nc s 1025:=⟨by rw [hs2,List.length_take]; omega⟩
 have HZ : VI (IntKind.i64.wrap (I + 1)) s.length:=⟨by rw [W1.h,hs2,List.length_take,Nat.min_eq_left (by omega)]⟩
 clear hs2 R1 W1 h10
 have w2 : 11≤s.length→IntKind.i64.wrap ((s.length : Int) - 11) = ((s.length - 11 : Nat) : Int):=fun h=>by
  have:=HL.h
  rw [Am (by omega) (by omega)]; omega
 refine ⟨fun hg=>?_,fun x hx=>?_⟩
 ·subst hD
  have hg : (!decide ((s.length : Int) < 11)) = true:=hg
  have hg : decide ((s.length : Int) < 11) = false:=by simpa using hg
  have hg:=of_decide_eq_false hg
  have h9:=w2 (by omega)
  exact ⟨by show 0≤IntKind.i64.wrap ((s.length : Int) - 11); rw [h9]; omega,by show IntKind.i64.wrap ((s.length : Int) - 11)≤(s.length : Int); rw [h9]; omega,Int.le_refl _⟩
 cbv
 have hxe : 11≤s.length→x = s.drop (s.length - 11):=fun h=>by
  subst hD
  have h7 : x = (s.drop (IntKind.i64.wrap ((s.length : Int) - 11)).toNat).take ((s.length : Int).toNat - (IntKind.i64.wrap ((s.length : Int) - 11)).toNat):=hx.h
  rw [w2 h] at h7
  rw [h7,List.take_of_length_le (by rw [List.length_drop]; omega)]
  congr 1
 have HX : LnX s x:=⟨hxe,w2⟩
 clear hxe w2 hx
 refine br hD (fun h=>?_) (fun h=>?_)<;>cbv
 ·have h : (decide ((s.length : Int) < 11) || !(x == rVer)) = true:=h
  have hf : Lib.hasSuffix (b.take i ++ [10]) rVer = false:=by
   rw [←hs3]
   apply Aid
   by_cases h11 : s.length < 11
   ·exact .inl h11
   ·right
    rw [decide_eq_false (by omega),Bool.false_or] at h
    rw [←HX.x (by omega)]
    simpa using h
  rw [Alu hf] at hk
  simp only [Prod.mk.injEq] at hk
  exact Oe hD hk.1.symm hk.2.1.symm hk.2.2.1.symm hk.2.2.2.symm
 have h : (decide ((s.length : Int) < 11) || !(x == rVer)) = false:=h
 have h11 : 11≤s.length:=by
  simp only [Bool.or_eq_false_iff,decide_eq_false_iff_not] at h
  have:=h.1
  omega
 have hd : s.drop (s.length - 11) = rVer:=by
  rw [decide_eq_false (by omega),Bool.false_or] at h
  rw [←HX.x h11]
  simpa using h
 rw [Rx hs3 hd] at hk
 obtain ⟨z,hz⟩ : ∃ z : Int,z = (s.length : Int):=⟨_,rfl⟩
 rw [←hz] at hk
 clear h hd hs3
 refine ⟨by subst hD; exact ⟨Int.le_refl _,by show 0≤IntKind.i64.wrap ((s.length : Int) - 11); rw [HX.w h11]; omega,by show IntKind.i64.wrap ((s.length : Int) - 11)≤(s.length : Int); rw [HX.w h11]; omega⟩,fun t ht=>?_⟩
 cbv
 have ht2 : t = s.take (s.length - 11):=by
  subst hD
  have h7 : t = (s.drop 0).take ((IntKind.i64.wrap ((s.length : Int) - 11)).toNat - 0):=ht.h
  rw [HX.w h11] at h7
  rw [h7,List.drop_zero,Nat.sub_zero]
  rfl
 rw [←ht2] at hk
 have HTL : Nc t 1025:=⟨by rw [ht2,List.length_take]; have:=HL.h; omega⟩
 clear ht ht2 HX h11
 have HZ2 : IntKind.i64.wrap (I + 1) = z:=by rw [hz]; exact HZ.h
 clear HZ hz HL
 obtain ⟨J2,hJ2⟩ : ∃ J,J = spJ t I:=⟨_,rfl⟩
 refine ⟨[6,7,8,9],J2,⟨rfl,t.length,?_⟩,?_⟩
 ·rw [hJ2]
  subst hD
  exact ⟨0,0,-1,rfl,rfl,⟨At.zero (by have:=HTL.h; omega),by omega,by omega,Akv t⟩⟩
 intro m2 vs2 hp2 hv2
 rw [hJ2] at hv2
 unfold spJ at hv2
 obtain ⟨q,Q,P,rfl,rfl,V⟩:=hv2
 cbv
 have htl:=HTL.h
 refine br hD (fun h=>?_) (fun h=>?_)<;>cbv
 ·have h : decide (Q < (t.length : Int)) = true:=h
  have hlt : q < t.length:=V.lie.lt (of_decide_eq_true h)
  clear h
  refine ⟨by subst hD; exact V.lie.inS rfl hlt,fun c hc=>?_⟩
  cbv
  have hc2:=Cl hD V.lie.I hc
  clear hc
  refine br hD (fun h=>?_) (fun h=>?_)<;>cbv
  ·have h : ((c == 32) && decide (0≤P)) = true:=h
   rw [Bool.and_eq_true] at h
   have hc3:=((Us hc2.h).2).1 (eq_of_beq h.1)
   rw [Ajf hlt hc3 (of_decide_eq_true h.2) V.k] at hk
   simp only [Prod.mk.injEq] at hk
   exact Oe hD hk.1.symm hk.2.1.symm hk.2.2.1.symm hk.2.2.2.symm
  have h : ((c == 32) && decide (0≤P)) = false:=h
  have HC : (c == 32) = true→P < 0:=fun e=>by
   rw [e,Bool.true_and] at h
   have:=of_decide_eq_false h
   omega
  clear h
  have hst:=V.lie.step hD hlt
  refine ⟨by subst hD; exact V.lie.inS rfl hlt,fun c1 hc1=>?_⟩
  cbv
  have hc4:=Cl hD V.lie.I hc1
  clear hc1
  have e : c1 = c:=by rw [hc4.h,hc2.h]
  subst e
  refine br hD (fun h=>?_) (fun h=>?_)<;>cbv
  ·have h : (c1 == 32) = true:=h
   have hc3:=((Us hc2.h).2).1 (eq_of_beq h)
   refine ⟨_,hst.1,?_⟩
   rw [hJ2]
   unfold spJ
   subst hD
   exact ⟨q + 1,_,_,rfl,rfl,⟨hst.2,by show Q < _; have:=V.lie.I; omega,by show -1≤Q; have:=V.lie.I; omega,by have:=Aii hlt hc3 (HC h) V.k; rw [←V.lie.I] at this; exact this⟩⟩
  ·have h : (c1 == 32) = false:=h
   have hc3 : t.getD q 0≠32:=fun e=>by
    rw [((Us hc2.h).2).2 e] at h
    exact absurd h (by decide)
   refine ⟨_,hst.1,?_⟩
   rw [hJ2]
   unfold spJ
   subst hD
   exact ⟨q + 1,_,_,rfl,rfl,⟨hst.2,V.p,V.p0,Akw hlt hc3 V.k⟩⟩
 have h : decide (Q < (t.length : Int)) = false:=h
 have hq : q = t.length:=V.lie.eq (of_decide_eq_false h)
 clear h
 have hK : spK t t.length P:=by rw [←hq]; exact V.k
 have hp1:=V.p
 have hp0:=V.p0
 clear V
 have w3 : IntKind.i64.wrap ((t.length : Int) - 1) = (t.length : Int) - 1:=Am (by omega) (by omega)
 have w4 : IntKind.i64.wrap (P + 1) = P + 1:=Am (by omega) (by omega)
 have PR : PRa t P:=⟨hp1,hp0⟩
 clear hp1 hp0
 refine br hD (fun h=>?_) (fun h=>?_)<;>cbv
 ·have h : (decide (P < 1) || (P == IntKind.i64.wrap ((t.length : Int) - 1))) = true:=h
  rw [w3] at h
  simp only [Bool.or_eq_true,decide_eq_true_eq,beq_iff_eq] at h
  rw [Ajg h hK] at hk
  simp only [Prod.mk.injEq] at hk
  exact Oe hD hk.1.symm hk.2.1.symm hk.2.2.1.symm hk.2.2.2.symm
 have h : (decide (P < 1) || (P == IntKind.i64.wrap ((t.length : Int) - 1))) = false:=h
 rw [w3] at h
 simp only [Bool.or_eq_false_iff,decide_eq_false_iff_not,beq_eq_false_iff_ne,ne_eq] at h
 obtain ⟨r,hr,hr2,hG⟩:=Af0 (z:=z) (by omega) h.2 hK
 rw [hG] at hk
 simp only [Prod.mk.injEq] at hk
 clear h hG hK w3
 have PV : VI P r:=⟨hr⟩
 refine ⟨by subst hD; exact ⟨Int.le_refl _,by show (0 : Int)≤P; rw [PV.h]; omega,by show P≤(t.length : Int); rw [PV.h]; omega⟩,fun a ha=>?_⟩
 cbv
 have ha2 : a = t.take r:=by
  subst hD
  have h7 : a = (t.drop 0).take (P.toNat - 0):=ha.h
  have e9 : P.toNat - 0 = r:=by have:=PV.h; omega
  rw [h7,e9,List.drop_zero]
 refine ⟨by subst hD; exact ⟨by show 0≤IntKind.i64.wrap (P + 1); rw [w4,PV.h]; omega,by show IntKind.i64.wrap (P + 1)≤(t.length : Int); rw [w4,PV.h]; omega,Int.le_refl _⟩,fun y hy=>?_⟩
 cbv
 have hy2 : y = t.drop (r + 1):=by
  subst hD
  have h7 : y = (t.drop (IntKind.i64.wrap (P + 1)).toNat).take ((t.length : Int).toNat - (IntKind.i64.wrap (P + 1)).toNat):=hy.h
  have e9 : (IntKind.i64.wrap (P + 1)).toNat = r + 1:=by rw [w4,PV.h]; omega
  rw [h7,e9,List.take_of_length_le (by rw [List.length_drop]; omega)]
 exact Oe hD (by rw [ha2,hk.1]) (by rw [hy2,hk.2.1]) (by rw [hk.2.2.1]; exact HZ2) hk.2.2.2.symm
end Go.Proofs.YtefelnhpfdcleaaGreatDoor
