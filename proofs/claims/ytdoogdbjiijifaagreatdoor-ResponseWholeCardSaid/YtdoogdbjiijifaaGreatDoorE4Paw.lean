/- Part of the proofs of the statements about responses and messages (layers 9 and 10): a symbolic executor over the code, that it is sound, and contracts of functions; it has no conditions of its own. -/
import Derived.Lib.ItoaNum
import Derived.Test.YtdoogdbjiijifaaGreatDoorProg
import Derived.Test.YtdoogdbjiijifaaGreatDoorE4Pav
namespace Go.Proofs.YtdoogdbjiijifaaGreatDoor
open Go.Sx
set_option maxRecDepth 10000
def tt : List (Nat×TI):=[
 (2,⟨.int .i64,1,8,[.int .i64 (.l 0)]⟩),
 (3,⟨.int .i64,1,8,[.int .i64 (.l 0)]⟩),
 (4,⟨.bool,1,1,[.bool (.l false)]⟩),
 (5,⟨.int .u8,1,1,[.int .u8 (.l 0)]⟩),
 (9,⟨.string,1,16,[.str []]⟩),
 (28,⟨.int .i64,1,8,[.int .i64 (.l 0)]⟩),
 (22,⟨.slice 5,1,24,[(.sl (.l true) (.l 0) 1 fun _=>[])]⟩),
 (23,⟨.slice 100,1,24,[(.sl (.l true) (.l 0) 2 fun _=>[])]⟩),
 (100,⟨.struct [(0,9),(1,9)],2,32,[.str [],.str []]⟩),
 (111,⟨.slice 9,1,24,[(.sl (.l true) (.l 0) 1 fun _=>[])]⟩),
 (55,⟨.struct [(0,2),(1,9),(2,9),(3,9),(4,23),(5,9)],6,96,[.int .i64 (.l 0),.str [],.str [],.str [],(.sl (.l true) (.l 0) 2 fun _=>[]),.str []]⟩),
 (36,⟨.struct [(0,3),(1,9),(2,9),(3,3),(4,23)],5,72,[.int .i64 (.l 0),.str [],.str [],.int .i64 (.l 0),(.sl (.l true) (.l 0) 2 fun _=>[])]⟩),
 (25,⟨.struct [(0,3),(1,3),(2,9),(3,23)],4,56,[.int .i64 (.l 0),.int .i64 (.l 0),.str [],(.sl (.l true) (.l 0) 2 fun _=>[])]⟩),
 (38,⟨.struct [(0,9),(1,3),(2,3),(3,9),(4,25),(8,3),(9,9),(10,3),(11,36)],16,208,[.str [],.int .i64 (.l 0),.int .i64 (.l 0),.str [],.int .i64 (.l 0),.int .i64 (.l 0),.str [],(.sl (.l true) (.l 0) 2 fun _=>[]),.int .i64 (.l 0),.str [],.int .i64 (.l 0),.int .i64 (.l 0),.str [],.str [],.int .i64 (.l 0),(.sl (.l true) (.l 0) 2 fun _=>[])]⟩),
 (45,⟨.struct [(0,25),(4,3),(5,9),(6,23),(7,4)],8,112,[.int .i64 (.l 0),.int .i64 (.l 0),.str [],(.sl (.l true) (.l 0) 2 fun _=>[]),.int .i64 (.l 0),.str [],(.sl (.l true) (.l 0) 2 fun _=>[]),.bool (.l false)]⟩),
 (97,⟨.int .u16,1,2,[.int .u16 (.l 0)]⟩),
 (88,⟨.slice 97,1,24,[(.sl (.l true) (.l 0) 1 fun _=>[])]⟩),
 (265,⟨.struct [(0,9),(1,4),(2,4),(3,4)],4,24,[.str [],.bool (.l false),.bool (.l false),.bool (.l false)]⟩),
 (178,⟨.pointer 180,1,8,[.nilp]⟩),
 (180,⟨.struct [(0,178),(1,22)],2,32,[.nilp,(.sl (.l true) (.l 0) 1 fun _=>[])]⟩),
 (157,⟨.iface,1,16,[.raw .nilIface]⟩),
 (314,⟨.map 9 4,1,8,[.raw (.map none)]⟩)]
def eqs : List TypeId:=[100]
def Akc (_ : Nat) : List SV:=[.ifc (.l false)]
def Aim (i : Nat) : List SV:=[.int .u64 (.a (Go.Lib.pow10Tab.getD i 0))]
def gl : List (Nat×SV):=[(3,.rarr 1 1 Akc),(4,.rarr 20 1 Aim)]
theorem Aj1 {f : Go.FuncId} {sp : FSpec} (h : A2 Tryz.prog [] f sp) : A2 Tryz.prog gl f sp :=
 ⟨h.1,fun xs ls K hs=>let ⟨r,ls',hk,hc⟩:=h.2 xs ls K hs; ⟨r,ls',hk,fun B E w vals a b c d _=>hc B E w vals a b c d (fun _ _ hh=>nomatch hh)⟩⟩
theorem tt_ok : ttB Tryz.prog tt = true:=by kernel_rfl
theorem mixed : Tryz.prog.follows .mixedOrders = true:=by kernel_rfl
theorem Dp {tab : List (Nat×FSpec)} {gl : List (Nat×SV)} {gh : List (Nat×List Gh)} {its : List (Nat×(FSpec->FSpec))} {yl : List FSpec} : Ay Tryz.prog ⟨dn,tt,tab,gl,eqs,gh,its,yl⟩:=by
 refine ⟨rfl,tt_ok,fun t ht=>?_⟩
 simp only [eqs,List.mem_cons,List.mem_nil_iff,or_false] at ht
 rcases ht with rfl
 all_goals
  refine ⟨?_,?_,?_⟩
  ·kernel_rfl
  ·kernel_rfl
  ·decide
def ttR : List (Nat×TI):=[
 (2,⟨.int .i64,1,8,[.int .i64 (.l 0)]⟩),
 (3,⟨.int .i64,1,8,[.int .i64 (.l 0)]⟩),
 (4,⟨.bool,1,1,[.bool (.l false)]⟩),
 (5,⟨.int .u8,1,1,[.int .u8 (.l 0)]⟩),
 (9,⟨.string,1,16,[.str []]⟩),
 (28,⟨.int .i64,1,8,[.int .i64 (.l 0)]⟩),
 (22,⟨.slice 5,1,24,[(.sl (.l true) (.l 0) 1 fun _=>[])]⟩),
 (23,⟨.slice 100,1,24,[(.sl (.l true) (.l 0) 2 fun _=>[])]⟩),
 (100,⟨.struct [(0,9),(1,9)],2,32,[.str [],.str []]⟩),
 (111,⟨.slice 9,1,24,[(.sl (.l true) (.l 0) 1 fun _=>[])]⟩),
 (55,⟨.struct [(0,2),(1,9),(2,9),(3,9),(4,23),(5,9)],6,96,[.int .i64 (.l 0),.str [],.str [],.str [],(.sl (.l true) (.l 0) 2 fun _=>[]),.str []]⟩),
 (36,⟨.struct [(0,3),(1,9),(2,9),(3,3),(4,23)],5,72,[.int .i64 (.l 0),.str [],.str [],.int .i64 (.l 0),(.sl (.l true) (.l 0) 2 fun _=>[])]⟩),
 (25,⟨.struct [(0,3),(1,3),(2,9),(3,23)],4,56,[.int .i64 (.l 0),.int .i64 (.l 0),.str [],(.sl (.l true) (.l 0) 2 fun _=>[])]⟩),
 (38,⟨.struct [(0,9),(1,3),(2,3),(3,9),(4,25),(8,3),(9,9),(10,3),(11,36)],16,208,[.str [],.int .i64 (.l 0),.int .i64 (.l 0),.str [],.int .i64 (.l 0),.int .i64 (.l 0),.str [],(.sl (.l true) (.l 0) 2 fun _=>[]),.int .i64 (.l 0),.str [],.int .i64 (.l 0),.int .i64 (.l 0),.str [],.str [],.int .i64 (.l 0),(.sl (.l true) (.l 0) 2 fun _=>[])]⟩),
 (45,⟨.struct [(0,25),(4,3),(5,9),(6,23),(7,4)],8,112,[.int .i64 (.l 0),.int .i64 (.l 0),.str [],(.sl (.l true) (.l 0) 2 fun _=>[]),.int .i64 (.l 0),.str [],(.sl (.l true) (.l 0) 2 fun _=>[]),.bool (.l false)]⟩),
 (97,⟨.int .u16,1,2,[.int .u16 (.l 0)]⟩),
 (88,⟨.slice 97,1,24,[(.sl (.l true) (.l 0) 1 fun _=>[])]⟩),
 (265,⟨.struct [(0,9),(1,4),(2,4),(3,4)],4,24,[.str [],.bool (.l false),.bool (.l false),.bool (.l false)]⟩),
 (178,⟨.pointer 180,1,8,[.nilp]⟩),
 (180,⟨.struct [(0,178),(1,22)],2,32,[.nilp,(.sl (.l true) (.l 0) 1 fun _=>[])]⟩),
 (220,⟨.struct [(0,36),(5,22),(6,22),(7,3),(8,3)],9,136,[.int .i64 (.l 0),.str [],.str [],.int .i64 (.l 0),(.sl (.l true) (.l 0) 2 fun _=>[]),(.sl (.l true) (.l 0) 1 fun _=>[]),(.sl (.l true) (.l 0) 1 fun _=>[]),.int .i64 (.l 0),.int .i64 (.l 0)]⟩),
 (214,⟨.pointer 220,1,8,[.nilp]⟩),
 (217,⟨.other,1,8,[.raw .nilFunc]⟩),
 (218,⟨.array 4 217,4,32,[.raw .nilFunc,.raw .nilFunc,.raw .nilFunc,.raw .nilFunc]⟩),
 (125,⟨.struct [(0,38),(16,22),(17,22)],18,256,[.str [],.int .i64 (.l 0),.int .i64 (.l 0),.str [],.int .i64 (.l 0),.int .i64 (.l 0),.str [],(.sl (.l true) (.l 0) 2 fun _=>[]),.int .i64 (.l 0),.str [],.int .i64 (.l 0),.int .i64 (.l 0),.str [],.str [],.int .i64 (.l 0),(.sl (.l true) (.l 0) 2 fun _=>[]),(.sl (.l true) (.l 0) 1 fun _=>[]),(.sl (.l true) (.l 0) 1 fun _=>[])]⟩),
 (123,⟨.pointer 125,1,8,[.nilp]⟩),
 (126,⟨.other,1,8,[.raw .nilFunc]⟩),
 (27,⟨.other,1,8,[.raw .nilFunc]⟩),
 (117,⟨.slice 27,1,24,[(.sl (.l true) (.l 0) 1 fun _=>[])]⟩),
 (132,⟨.slice 3,1,24,[(.sl (.l true) (.l 0) 1 fun _=>[])]⟩),
 (182,⟨.slice 22,1,24,[(.sl (.l true) (.l 0) 1 fun _=>[])]⟩),
 (127,⟨.map 3 126,1,8,[.raw (.map none)]⟩),
 (157,⟨.iface,1,16,[.raw .nilIface]⟩),
 (314,⟨.map 9 4,1,8,[.raw (.map none)]⟩)]
theorem ttR_ok : Sx.ttB Tryz.prog ttR = true:=by kernel_rfl
theorem C3 {tab : List (Nat×FSpec)} {gl : List (Nat×SV)} {gh : List (Nat×List Gh)} {its : List (Nat×(FSpec->FSpec))} {yl : List FSpec} : Ay Tryz.prog ⟨dn,ttR,tab,gl,eqs,gh,its,yl⟩:=by
 refine ⟨rfl,ttR_ok,fun t ht=>?_⟩
 simp only [eqs,List.mem_cons,List.mem_nil_iff,or_false] at ht
 rcases ht with rfl
 all_goals
  refine ⟨?_,?_,?_⟩
  ·kernel_rfl
  ·kernel_rfl
  ·decide
end Go.Proofs.YtdoogdbjiijifaaGreatDoor
namespace Go.Proofs.YtdoogdbjiijifaaGreatDoor
open Go.Sx
set_option maxRecDepth 10000
set_option maxHeartbeats 2000000
def O5 : List UInt8:=[48,48,48,48,48,48,48,48,48,50,48,48,48,48,48,48,48,48,48,48,48,48,48,48,48,48,48,48,48,48,48,48,50,51,49,51,51,51,51,51,49,49,51,51,49,51,51,49,51,51,51,51,51,51,51,51,51,51,49,49,49,49,49,49,49,51,51,51,51,51,51,51,51,51,51,51,51,51,51,51,51,51,51,51,51,51,51,51,51,51,51,49,49,49,51,51,51,51,51,51,51,51,51,51,51,51,51,51,51,51,51,51,51,51,51,51,51,51,51,51,51,51,51,49,51,49,51,48]
def Dc (c : Int) : Int:=if 128<=c then 0 else ((O5.getD c.toNat 48).toNat : Int) - 48
def spKind : FSpec:=fun _ xs ls K=>∃ (c : Int),xs = [.int .u8 (.a c)]/\ls = []/\(0<=c/\c<=255)/\∀ r,r = Dc c->K (.int .i64 (.a r)) []
theorem Agm : ∀ i : Fin 128,48<=(O5.getD i.1 0).toNat/\(O5.getD i.1 0).toNat<=51/\O5.getD i.1 0 = O5.getD i.1 48:=by decide
theorem wrap8 {n : Int} (h1 : 0<=n) (h2 : n<=255) : IntKind.u8.wrap n = n:=IntWalk.u8_in _ ⟨by omega,by omega⟩
theorem Xi : A2 Tryz.prog gl 124 spKind:=by
 refine C9 (gh:=[]) mixed Dp Av Tryz.func124 (by kernel_rfl) (by kernel_rfl) ?_
 intro xs ls K h
 unfold spKind at h
 obtain ⟨c,rfl,rfl,hb,h⟩:=h
 obtain ⟨k,hk⟩ : ∃ k,k = Dc c:=⟨_,rfl⟩
 refine ⟨_,_,h k hk,fun D hD=>?_⟩
 clear h
 have w : IntKind.i64.wrap c = c:=Bk (by omega) (by omega)
 cbv
 refine br hD (fun h=>?_) (fun h=>?_)<;>cbv
 ·refine Bv hD ?_
  simp [w] at h
  rw [hk,Dc,if_pos h]
  rfl
 ·have hc : c < 128:=by simp [BT.den,Bw,ST.den,w] at h; omega
  clear h
  refine ⟨by subst hD; exact ⟨hb.1,hc⟩,fun c' hc'=>?_⟩
  cbv
  refine Bv hD ?_
  have e1 : c' = ((O5.getD c.toNat 0).toNat : Int):=by subst hD; exact hc'.h
  obtain ⟨t1,t2,t3⟩:=Agm ⟨c.toNat,by omega⟩
  simp only at t1 t2 t3
  show IntKind.i64.wrap (IntKind.u8.wrap (c' - 48)) = k
  rw [wrap8 (by omega) (by omega),Bk (by omega) (by omega),hk,Dc,if_neg (by omega),<-t3,e1]
def Cv (c : Int) : Bool:=c == 9 || (decide (32<=c) && decide (c<=126))
structure Fl (c : Int) (s : List UInt8) (i : Nat) : Prop where
 h : c = ((s.getD i 0).toNat : Int)
theorem isJ {D : Dn} (hD : D = dn) {j : Nat} {I : Int} (h : IsJ j (D.i (.a I))) : (j : Int) = I:=by subst hD; exact h.h
structure TokI (s : List UInt8) (i : Nat) (I L : Int) (m : Nat) : Prop where
 L : L = s.length
 le : i<=s.length
 I : I = i
 all : ∀ j : Nat,j < i->Dc ((s.getD j 0).toNat : Int) = 3
 m : m = s.length - i
def Bj (s : List UInt8) : Bool:=(s.all fun c=>Dc (c.toNat : Int) == 3) && (decide (0 < s.length) && decide (s.length<=64))
theorem Afk {s : List UInt8} {j : Nat} (hj : j < s.length) (h : Dc ((s.getD j 0).toNat : Int)≠3) : Bj s = false:=by
 unfold Bj
 rw [Bool.and_eq_false_iff]
 left
 rw [List.all_eq_false]
 refine ⟨s[j],List.getElem_mem hj,?_⟩
 rw [List.getD_eq_getElem?_getD,List.getElem?_eq_getElem hj] at h
 simpa using h
theorem Abl {s : List UInt8} (h : ∀ j : Nat,j < s.length->Dc ((s.getD j 0).toNat : Int) = 3) : Bj s = (decide (0 < s.length) && decide (s.length<=64)):=by
 unfold Bj
 have : (s.all fun c=>Dc (c.toNat : Int) == 3) = true:=by
  rw [List.all_eq_true]
  intro c hc
  obtain ⟨j,hj,rfl⟩:=List.mem_iff_getElem.1 hc
  have:=h j hj
  rw [List.getD_eq_getElem?_getD,List.getElem?_eq_getElem hj] at this
  simpa using this
 rw [this]; simp
def spToken : FSpec:=fun _ xs ls K=>∃ (s : List UInt8),xs = [.str s]/\ls = []/\s.length<=9223372036854775807/\∀ r,r = Bj s->K (.bool (.a r)) []
def tokJ (s : List UInt8) (f : Nat->List SV) (m : Nat) (vs : List (Option SV)) (hp : List Hl) : Prop :=
 ∃ (i : Nat) (I L : Int),vs = [some (.str s),some (.sl (.a false) (.a L) 1 f),some (.int .i64 (.a L)),some (.int .i64 (.a I))]/\hp = []/\TokI s i I L m
theorem Ib : A2 Tryz.prog gl 61 spToken:=by
 refine C9 (gh:=[]) mixed Dp (Af Xi Av) Tryz.func61 (by kernel_rfl) (by kernel_rfl) ?_
 intro xs ls K h
 unfold spToken at h
 obtain ⟨s,rfl,rfl,hl,h⟩:=h
 obtain ⟨k,hk⟩ : ∃ k,k = Bj s:=⟨_,rfl⟩
 refine ⟨_,_,h k hk,fun D hD=>?_⟩
 clear h
 cbv
 refine ⟨⟨hl⟩,fun f hf=>?_⟩
 cbv
 obtain ⟨J,hJ⟩ : ∃ J,J = tokJ s f:=⟨_,rfl⟩
 refine ⟨[0,6,7,8],J,⟨rfl,s.length,?_⟩,?_⟩
 ·rw [hJ]
  subst hD
  exact ⟨0,0,_,rfl,rfl,⟨rfl,Nat.zero_le _,rfl,by omega,rfl⟩⟩
 intro m vs hp hv
 rw [hJ] at hv
 unfold tokJ at hv
 obtain ⟨i,I,L,rfl,rfl,V⟩:=hv
 cbv
 refine br hD (fun h=>?_) (fun h=>?_)<;>cbv
 ·have hlt : i < s.length:=by simp at h; have:=V.I; have:=V.L; omega
  clear h
  refine ⟨?_,fun j hj=>?_⟩
  ·have:=V.I; have:=V.L; subst hD; exact ⟨by simp [dn]; omega,by simp [dn]; omega⟩
  have hji : j = i:=by have:=isJ hD hj; have:=V.I; omega
  obtain ⟨c,hc⟩ : ∃ c : Int,c = ((s.getD i 0).toNat : Int):=⟨_,rfl⟩
  have hb : 0<=c/\c<=255:=by have:=(s.getD i 0).toNat_lt; omega
  have hfj : f i = [.int .u8 (.a c)]:=by rw [hf.h,hc]; rfl
  have hc : Fl c s i:=⟨hc⟩
  subst hji
  clear hj
  cbv
  rw [hfj]
  cbv
  refine ⟨_,rfl,rfl,by subst hD; exact hb,fun r hr=>?_⟩
  have hr : r = Dc c:=by subst hD; exact hr
  cbv
  refine br hD (fun h=>?_) (fun h=>?_)<;>cbv
  ·refine A5 hD ?_
   have : r≠3:=by simpa [BT.den,Bw,ST.den] using h
   rw [hk,Afk hlt (by rw [<-hc.h,<-hr]; exact this)]
   rfl
  ·have h3 : r = 3:=by simpa [BT.den,Bw,ST.den] using h
   refine ⟨s.length - (j + 1),by have:=V.m; omega,?_⟩
   rw [hJ]
   subst hD
   have hI:=V.I
   refine ⟨j + 1,_,_,rfl,rfl,⟨V.L,by omega,?_,fun q hq=>?_,rfl⟩⟩
   ·simp [dn]
    rw [Bk (by omega) (by omega)]
    omega
   ·by_cases hqj : q = j
    ·subst hqj
     rw [<-hc.h]
     exact hr.symm.trans h3
    ·exact V.all q (by omega)
 ·have hi : i = s.length:=by simp at h; have:=V.I; have:=V.L; have:=V.le; omega
  clear h
  have hy:=Abl (s:=s) (fun j hj=>V.all j (by omega))
  refine A5 hD ?_
  rw [hk,hy]
  show (decide ((0 : Int) < (s.length : Int)) && decide ((s.length : Int)<=64)) = _
  congr 1<;>exact decide_eq_decide.2 (by omega)
end Go.Proofs.YtdoogdbjiijifaaGreatDoor
namespace Go.Proofs.YtdoogdbjiijifaaGreatDoor
open Go.Sx
set_option maxRecDepth 10000
set_option maxHeartbeats 2000000
def anyB (p : Int->Bool) (s : List UInt8) : Bool:=s.any fun c=>p (c.toNat : Int)
structure IdxI (p : Int->Bool) (s : List UInt8) (i : Nat) (I L : Int) (m : Nat) : Prop where
 L : L = s.length
 le : i<=s.length
 I : I = i
 all : ∀ j : Nat,j < i->p ((s.getD j 0).toNat : Int) = false
 m : m = s.length - i
theorem Lc {s : List UInt8} {j : Nat} (hj : j < s.length) : s.getD j 0 = s[j]:=by
 rw [List.getD_eq_getElem?_getD,List.getElem?_eq_getElem hj]
 rfl
structure RowB (f : Nat->List SV) (n : Int) (s : List UInt8) : Prop where
 n : n = s.length
 f : f = byteRow s
 len : s.length<=9223372036854775807
end Go.Proofs.YtdoogdbjiijifaaGreatDoor
namespace Go.Proofs.YtdoogdbjiijifaaGreatDoor
open Go.Sx
set_option maxRecDepth 10000
set_option maxHeartbeats 2000000
end Go.Proofs.YtdoogdbjiijifaaGreatDoor
namespace Go.Proofs.YtdoogdbjiijifaaGreatDoor
open Go.Sx
set_option maxRecDepth 10000
set_option maxHeartbeats 2000000
structure AllI (p : Int->Bool) (s : List UInt8) (i : Nat) (I : Int) (m : Nat) : Prop where
 le : i<=s.length
 I : I = i
 all : ∀ j : Nat,j < i->p ((s.getD j 0).toNat : Int) = true
 m : m = s.length - i
 len : s.length<=9223372036854775807
theorem charOf {D : Dn} (hD : D = dn) {c I : Int} {s : List UInt8} {i : Nat} (hI : I = i) (h : Adj c s (D.i (.a I))) : Fl c s i:=by
 subst hD
 refine ⟨?_⟩
 have h:=h.h
 show c = _
 rw [h]
 show (((s.getD I.toNat 0).toNat : Nat) : Int) = _
 rw [hI,Int.toNat_natCast]
theorem Fl.le {c : Int} {s : List UInt8} {i : Nat} (h : Fl c s i) : 0<=c/\c<=255:=by
 have h1:=h.h
 have:=(s.getD i 0).toNat_lt
 omega
end Go.Proofs.YtdoogdbjiijifaaGreatDoor
namespace Go.Proofs.YtdoogdbjiijifaaGreatDoor
open Go.Sx
set_option maxRecDepth 10000
set_option maxHeartbeats 2000000
structure At (s : List UInt8) (i : Nat) (I : Int) (m : Nat) : Prop where
 le : i<=s.length
 I : I = i
 m : m = s.length - i
 len : s.length<=9223372036854775807
theorem At.zero {s : List UInt8} (h : s.length<=9223372036854775807) : At s 0 0 s.length:=⟨Nat.zero_le _,rfl,by omega,h⟩
theorem Cl {s : List UInt8} {i : Nat} (h : i < s.length) : s.drop i = s.getD i 0 :: s.drop (i + 1):=by
 rw [Lc h]; exact List.drop_eq_getElem_cons h
theorem At.lt {s : List UInt8} {i : Nat} {I : Int} {m : Nat} (V : At s i I m) (h : I < (s.length : Int)) : i < s.length:=by have:=V.I; omega
theorem At.eq {s : List UInt8} {i : Nat} {I : Int} {m : Nat} (V : At s i I m) (h : ¬ I < (s.length : Int)) : i = s.length:=by have:=V.I; have:=V.le; omega
theorem At.inS {D : Dn} (hD : D = dn) {s : List UInt8} {i : Nat} {I : Int} {m : Nat} (V : At s i I m) (h : i < s.length) : InS (D.i (.a I)) s:=by
 have:=V.I; subst hD; exact ⟨by show 0<=I; omega,by show I < s.length; omega⟩
theorem At.step {D : Dn} (hD : D = dn) {s : List UInt8} {i : Nat} {I : Int} {m : Nat} (V : At s i I m) (h : i < s.length) : s.length - (i + 1) < m/\At s (i + 1) (D.i (.bin .add .i64 (.a I) (.l 1))) (s.length - (i + 1)):=by
 have h1:=V.I; have h2:=V.len; have h3:=V.m
 subst hD
 refine ⟨by omega,by omega,?_,rfl,h2⟩
 show IntKind.i64.wrap (I + 1) = _
 rw [Bk (by omega) (by omega)]; omega
theorem Fl.of {c : Int} {s : List UInt8} {i : Nat} (h : Fl c s i) : ((s.getD i 0).toNat : Int) = c:=h.h.symm
def Ajf : List UInt8:=[33,35,36,37,38,39,42,43,45,46,94,95,96,124,126]
def rangeI (c : Int) : Bool:=((decide (97<=c) && decide (c<=122)) || (decide (65<=c) && decide (c<=90))) || (decide (48<=c) && decide (c<=57))
def letterI (c : Int) : Bool:=rangeI c || anyB (fun x=>x == c) Ajf
end Go.Proofs.YtdoogdbjiijifaaGreatDoor
namespace Go.Proofs.YtdoogdbjiijifaaGreatDoor
open Go.Sx
set_option maxRecDepth 10000
set_option maxHeartbeats 2000000
structure Cc (f : Nat->List SV) (n : Int) (a : List (List UInt8)) : Prop where
 n : n = a.length
 f : ∀ i,i < a.length->f i = [.str (a.getD i [])]
 len : a.length<=9223372036854775807
structure AtR {α : Type} (s : List α) (i : Nat) (I : Int) (m : Nat) : Prop where
 le : i<=s.length
 I : I = i
 m : m = s.length - i
 len : s.length<=9223372036854775807
theorem AtR.zero {α : Type} {s : List α} (h : s.length<=9223372036854775807) : AtR s 0 0 s.length:=⟨Nat.zero_le _,rfl,by omega,h⟩
theorem AtR.lt {α : Type} {s : List α} {i : Nat} {I n : Int} {m : Nat} (V : AtR s i I m) (hn : n = s.length) (h : I < n) : i < s.length:=by have:=V.I; omega
theorem AtR.eq {α : Type} {s : List α} {i : Nat} {I n : Int} {m : Nat} (V : AtR s i I m) (hn : n = s.length) (h : ¬ I < n) : i = s.length:=by have:=V.I; have:=V.le; omega
theorem AtR.inB {D : Dn} (hD : D = dn) {α : Type} {s : List α} {i : Nat} {I n : Int} {m : Nat} (V : AtR s i I m) (hn : n = s.length) (h : i < s.length) : InB (D.i (.a I)) (D.i (.a n)):=by
 have:=V.I; subst hD; exact ⟨by show 0<=I; omega,by show I < n; omega⟩
theorem AtR.step {D : Dn} (hD : D = dn) {α : Type} {s : List α} {i : Nat} {I : Int} {m : Nat} (V : AtR s i I m) (h : i < s.length) : s.length - (i + 1) < m/\AtR s (i + 1) (D.i (.bin .add .i64 (.a I) (.l 1))) (s.length - (i + 1)):=by
 have h1:=V.I; have h2:=V.len; have h3:=V.m
 subst hD
 refine ⟨by omega,by omega,?_,rfl,h2⟩
 show IntKind.i64.wrap (I + 1) = _
 rw [Bk (by omega) (by omega)]; omega
theorem AtR.j {D : Dn} (hD : D = dn) {α : Type} {s : List α} {i j : Nat} {I : Int} {m : Nat} (V : AtR s i I m) (h : IsJ j (D.i (.a I))) : j = i:=by
 have:=isJ hD h; have:=V.I; omega
theorem Ny {α : Type} {s : List α} {i : Nat} {d : α} (h : i < s.length) : s.drop i = s.getD i d :: s.drop (i + 1):=by
 rw [List.drop_eq_getElem_cons h,List.getD_eq_getElem?_getD,List.getElem?_eq_getElem h]; rfl
def spStrings : FSpec:=fun _ xs ls K=>∃ (a b : List (List UInt8)) (na nb : Bool) (A B : Int) (f g : Nat->List SV),xs = [.sl (.a na) (.a A) 1 f,.sl (.a nb) (.a B) 1 g]/\ls = []/\Cc f A a/\Cc g B b/\∀ r,r = (a == b)->K (.bool (.a r)) []
end Go.Proofs.YtdoogdbjiijifaaGreatDoor
namespace Go.Proofs.YtdoogdbjiijifaaGreatDoor
open Go.Sx
set_option maxRecDepth 10000
set_option maxHeartbeats 2000000
def Lt (c : Int) : Int:=if 65<=c/\c<=90 then c + 32 else c
def Aer (b : UInt8) : UInt8:=if 65<=b.toNat/\b.toNat<=90 then b + 32 else b
def foldF (s : List UInt8) : List UInt8:=s.map Aer
theorem Agx (b : UInt8) : ((Aer b).toNat : Int) = Lt (b.toNat : Int):=by
 unfold Aer Lt
 have:=b.toNat_lt
 by_cases h : 65<=b.toNat/\b.toNat<=90
 ·rw [if_pos h,if_pos (by omega)]
  rw [UInt8.toNat_add]
  simp; omega
 ·rw [if_neg h,if_neg (by omega)]
structure Hu (s : List UInt8) (f : Nat->List SV) (i : Nat) (L : Int) : Prop where
 L : L = s.length
 f : ∀ j,f j = [.int .u8 (.a (if j < i then Lt ((s.getD j 0).toNat : Int) else ((s.getD j 0).toNat : Int)))]
theorem Hu.zero {s : List UInt8} {f : Nat->List SV} (h : f = byteRow s) : Hu s f 0 s.length:=by
 refine ⟨rfl,fun j=>?_⟩
 rw [h]; simp [byteRow]
theorem Hu.same {s : List UInt8} {f : Nat->List SV} {i : Nat} {L : Int} (V : Hu s f i L) (h : ¬ (65<=((s.getD i 0).toNat : Int)/\((s.getD i 0).toNat : Int)<=90)) : Hu s f (i + 1) L:=by
 refine ⟨V.L,fun j=>?_⟩
 rw [V.f j]
 by_cases e : j = i
 ·subst e
  rw [if_neg (Nat.lt_irrefl _),if_pos (Nat.lt_succ_self _),Lt,if_neg h]
 ·have : (j < i) = (j < i + 1):=by simp; omega
  simp only [this]
theorem Hu.set {s : List UInt8} {f f' : Nat->List SV} {i : Nat} {L v : Int} (V : Hu s f i L) (h : SetAt f' f i [.int .u8 (.a v)]) (hv : v = Lt ((s.getD i 0).toNat : Int)) : Hu s f' (i + 1) L:=by
 refine ⟨V.L,fun j=>?_⟩
 by_cases e : j = i
 ·subst e
  rw [h.at_,if_pos (Nat.lt_succ_self _),hv]
 ·rw [h.other j e,V.f j]
  have : (j < i) = (j < i + 1):=by simp; omega
  simp only [this]
theorem Hu.byteRow {s : List UInt8} {f : Nat->List SV} {i : Nat} {L : Int} (V : Hu s f i L) : Ez L f:=by
 refine ⟨by have:=V.L; omega,fun j _=>⟨_,V.f j,?_⟩⟩
 show 0<=(if j < i then Lt ((s.getD j 0).toNat : Int) else ((s.getD j 0).toNat : Int))/\(if j < i then Lt ((s.getD j 0).toNat : Int) else ((s.getD j 0).toNat : Int)) < 256
 have:=(s.getD j 0).toNat_lt
 unfold Lt
 split
 ·split<;>omega
 ·omega
theorem Hu.str {s r : List UInt8} {f : Nat->List SV} {i : Nat} {L : Int} (V : Hu s f i L) (hi : i = s.length) (h : Jn r L f) : r = foldF s:=by
 have hl : r.length = s.length:=by have:=h.len; have:=V.L; omega
 refine List.ext_getElem (by simp [foldF,hl]) fun j h1 h2=>?_
 have hj : j < s.length:=by omega
 have:=h.row j _ (by rw [V.L]; omega) (V.f j)
 rw [if_pos (by omega),Lc h1,Lc hj] at this
 simp only [foldF,List.getElem_map]
 refine UInt8.toNat_inj.1 ?_
 have e2:=Agx s[j]
 have e3 : ((r[j].toNat : Nat) : Int) = Lt (s[j].toNat : Int):=this
 omega
def spFold : FSpec:=fun _ xs ls K=>∃ (s : List UInt8),xs = [.str s]/\ls = []/\s.length<=9223372036854775807/\∀ r,r = foldF s->K (.str r) []
theorem up8 : ∀ n : Fin 26,Eh .or .u8 (65 + (n.1 : Int)) 32 = 65 + (n.1 : Int) + 32:=by decide
theorem or8 {c : Int} (h1 : 65<=c) (h2 : c<=90) : Eh .or .u8 c 32 = c + 32:=by
 have:=up8 ⟨(c - 65).toNat,by omega⟩
 have e : 65 + (((c - 65).toNat : Nat) : Int) = c:=by omega
 simp only [e] at this
 exact this
theorem and_false {c : Int} (h : (decide (65<=c) && decide (c<=90)) = false) : ¬ (65<=c/\c<=90):=by simpa using h
def foldJ (s : List UInt8) (m : Nat) (vs : List (Option SV)) (hp : List Hl) : Prop :=
 ∃ (i : Nat) (I L : Int) (nl : Bool) (f : Nat->List SV),vs = [some (.osl (.a nl) (.a L) 0),some (.osl (.a nl) (.a L) 0),some (.int .i64 (.a L)),some (.int .i64 (.a I))]/\hp = [.own 5 (.a L) 1 false f]/\At s i I m/\Hu s f i L
theorem Xu : A2 Tryz.prog gl 128 spFold:=by
 refine C9 (gh:=[(999983,[])]) mixed Dp Av Tryz.func128 (by kernel_rfl) (by kernel_rfl) ?_
 intro xs ls K h
 unfold spFold at h
 obtain ⟨s,rfl,rfl,hl,h⟩:=h
 obtain ⟨k,hk⟩ : ∃ k,k = foldF s:=⟨_,rfl⟩
 refine ⟨_,_,h k hk,fun D hD=>?_⟩
 clear h
 cbv
 refine ⟨⟨hl⟩,fun f hf=>?_⟩
 cbv
 obtain ⟨J,hJ⟩ : ∃ J,J = foldJ s:=⟨_,rfl⟩
 refine ⟨[3,8,9,10],J,⟨rfl,s.length,?_⟩,?_⟩
 ·rw [hJ]
  subst hD
  exact ⟨0,0,_,_,f,rfl,rfl,At.zero hl,Hu.zero hf.h⟩
 clear hf
 intro m vs hp' hv
 rw [hJ] at hv
 unfold foldJ at hv
 obtain ⟨i,I,L,nl,f,rfl,rfl,V,F⟩:=hv
 cbv
 refine br hD (fun h=>?_) (fun h=>?_)<;>cbv
 ·have hlt:=V.lt (by have h:=of_decide_eq_true (p:=I < L) h; have:=F.L; omega)
  clear h
  refine ⟨⟨rfl⟩,?_,fun j hj=>?_⟩
  ·have:=V.I; have:=F.L; subst hD; exact ⟨by show 0<=I; omega,by show I < L; omega⟩
  have hji : j = i:=by have:=isJ hD hj; have:=V.I; omega
  subst hji
  clear hj
  obtain ⟨c,hc⟩ : ∃ c : Int,c = ((s.getD j 0).toNat : Int):=⟨_,rfl⟩
  have hfj : f j = [.int .u8 (.a c)]:=by rw [F.f j,if_neg (Nat.lt_irrefl _),hc]
  have hc : Fl c s j:=⟨hc⟩
  have hb:=hc.le
  cbv
  refine ⟨⟨rfl⟩,?_,?_⟩
  ·have:=V.I; have:=F.L; subst hD; exact ⟨by show (j : Int) < L; omega⟩
  rw [hfj]
  cbv
  refine br hD (fun h=>?_) (fun h=>?_)<;>cbv
  ·have hcc : 65<=c/\c<=90:=by
    have h : (decide (65<=c) && decide (c<=90)) = true:=h
    simpa using h
   clear h
   refine ⟨⟨rfl⟩,?_,fun j3 hj3=>?_⟩
   ·have:=V.I; have:=F.L; subst hD; exact ⟨by show 0<=I; omega,by show I < L; omega⟩
   have hj3' : j3 = j:=by have:=isJ hD hj3; have:=V.I; omega
   clear hj3
   subst hj3'
   cbv
   refine ⟨⟨rfl⟩,?_,?_⟩
   ·have:=V.I; have:=F.L; subst hD; exact ⟨by show (j3 : Int) < L; omega⟩
   rw [hfj]
   cbv
   intro f' hf'
   cbv
   refine ⟨_,(V.step hD hlt).1,?_⟩
   rw [hJ]
   subst hD
   refine ⟨j3 + 1,_,_,_,f',rfl,rfl,(V.step rfl hlt).2,F.set hf' ?_⟩
   rw [hc.of,Lt,if_pos hcc]
   exact or8 hcc.1 hcc.2
  ·have hn : ¬ (65<=((s.getD j 0).toNat : Int)/\((s.getD j 0).toNat : Int)<=90):=by
    rw [hc.of]
    exact and_false h
   refine ⟨_,(V.step hD hlt).1,?_⟩
   rw [hJ]
   subst hD
   exact ⟨j + 1,_,_,_,f,rfl,rfl,(V.step rfl hlt).2,F.same hn⟩
 ·have hi:=V.eq (fun h'=>by have h:=of_decide_eq_false (p:=I < L) h; have:=F.L; omega)
  clear h
  refine ⟨⟨rfl⟩,by subst hD; exact F.byteRow,fun r hr=>?_⟩
  cbv
  have hr2 : r = k:=by subst hD; rw [hk]; exact F.str hi hr
  rw [hr2]
  exact Gg (LeV.refl _)
end Go.Proofs.YtdoogdbjiijifaaGreatDoor
namespace Go.Proofs.YtdoogdbjiijifaaGreatDoor
open Go.Sx
set_option maxRecDepth 10000
set_option maxHeartbeats 2000000
def qdF (p : Int->Bool) : List UInt8->Option (Nat×List UInt8)
 | []=>none
 | c :: r =>
  if !p (c.toNat : Int) then none
  else if (c.toNat : Int) = 34 then some (1,[])
  else if (c.toNat : Int) = 92 then (match r with
   | []=>none
   | d :: r'=>if !p (d.toNat : Int) then none else (qdF p r').map fun x=>(x.1 + 2,d :: x.2))
  else (qdF p r).map fun x=>(x.1 + 1,c :: x.2)
def charI (s : List UInt8) (i : Nat) : Int:=((s.getD i 0).toNat : Int)
theorem D5 (p : Int->Bool) (c : UInt8) (r : List UInt8) : qdF p (c :: r) = (if !p (c.toNat : Int) then none
  else if (c.toNat : Int) = 34 then some (1,[])
  else if (c.toNat : Int) = 92 then (match r with
   | []=>none
   | d :: r'=>if !p (d.toNat : Int) then none else (qdF p r').map fun x=>(x.1 + 2,d :: x.2))
  else (qdF p r).map fun x=>(x.1 + 1,c :: x.2)):=by rw [qdF.eq_def]
theorem Ad3 {p : Int->Bool} {s : List UInt8} {i : Nat} (h : i < s.length) (hb : p (charI s i) = false) : qdF p (s.drop i) = none:=by
 rw [Cl h,D5]
 unfold charI at hb
 rw [hb]; rfl
theorem qdF_end {p : Int->Bool} {s : List UInt8} {i : Nat} (h : s.length<=i) : qdF p (s.drop i) = none:=by
 rw [List.drop_eq_nil_of_le h]; rfl
theorem Vl {p : Int->Bool} {s : List UInt8} {i : Nat} (h : i < s.length) (hb : p (charI s i) = true) (hq : charI s i = 34) : qdF p (s.drop i) = some (1,[]):=by
 rw [Cl h,D5]
 unfold charI at hb hq
 rw [hb,if_neg (by simp),if_pos hq]
theorem Ad2 {p : Int->Bool} {s : List UInt8} {i : Nat} (h : i < s.length) (hb : p (charI s i) = true) (hq : charI s i = 92) (h2 : i + 1 < s.length) (hb2 : p (charI s (i + 1)) = true) : qdF p (s.drop i) = (qdF p (s.drop (i + 2))).map fun x=>(x.1 + 2,s.getD (i + 1) 0 :: x.2):=by
 rw [Cl h,Cl h2,D5]
 unfold charI at hb hq hb2
 rw [hb,if_neg (by simp),if_neg (by omega),if_pos hq]
 simp only
 rw [hb2]
 simp
theorem Sp {p : Int->Bool} {s : List UInt8} {i : Nat} (h : i < s.length) (hb : p (charI s i) = true) (hq : charI s i = 92) (h2 : ¬ (i + 1 < s.length/\p (charI s (i + 1)) = true)) : qdF p (s.drop i) = none:=by
 by_cases h3 : i + 1 < s.length
 ·have hb2 : p (charI s (i + 1)) = false:=by simpa [h3] using h2
  rw [Cl h,Cl h3,D5]
  unfold charI at hb hq hb2
  rw [hb,if_neg (by simp),if_neg (by omega),if_pos hq]
  simp only
  rw [hb2]
  simp
 ·rw [Cl h,List.drop_eq_nil_of_le (by omega),D5]
  unfold charI at hb hq
  rw [hb,if_neg (by simp),if_neg (by omega),if_pos hq]
theorem Zc {p : Int->Bool} {s : List UInt8} {i : Nat} (h : i < s.length) (hb : p (charI s i) = true) (hq : charI s i≠34) (hq2 : charI s i≠92) : qdF p (s.drop i) = (qdF p (s.drop (i + 1))).map fun x=>(x.1 + 1,s.getD i 0 :: x.2):=by
 rw [Cl h,D5]
 unfold charI at hb hq hq2
 rw [hb,if_neg (by simp),if_neg hq,if_neg hq2]
def Jr (c : Int) : Bool:=!(Dc c == 0)
def qAt (p : Int->Bool) (s : List UInt8) (i : Nat) : Int:=match qdF p (s.drop (i + 1)) with
 | none=>0
 | some x=>((i + 1 + x.1 : Nat) : Int)
def M3 (s : List UInt8) : Int:=qAt Jr s 0
theorem M5 {p : Int->Bool} {s : List UInt8} {i : Nat} (h : qdF p (s.drop (i + 1)) = none) : qAt p s i = 0:=by rw [qAt,h]
theorem Vm {p : Int->Bool} {s : List UInt8} {i : Nat} (h : i + 1 < s.length) (hb : p (charI s (i + 1)) = true) (hq : charI s (i + 1) = 34) : qAt p s i = ((i + 2 : Nat) : Int):=by
 rw [qAt,Vl h hb hq]; rfl
theorem Ad4 {p : Int->Bool} {s : List UInt8} {i : Nat} (h : i + 1 < s.length) (hb : p (charI s (i + 1)) = true) (hq : charI s (i + 1) = 92) (h2 : i + 2 < s.length) (hb2 : p (charI s (i + 2)) = true) : qAt p s i = qAt p s (i + 2):=by
 rw [qAt,Ad2 h hb hq h2 hb2,qAt]
 cases qdF p (s.drop (i + 1 + 2)) with
 | none=>rfl
 | some x=>simp only [Option.map_some]; congr 1; omega
theorem Zd {p : Int->Bool} {s : List UInt8} {i : Nat} (h : i + 1 < s.length) (hb : p (charI s (i + 1)) = true) (hq : charI s (i + 1)≠34) (hq2 : charI s (i + 1)≠92) : qAt p s i = qAt p s (i + 1):=by
 rw [qAt,Zc h hb hq hq2,qAt]
 cases qdF p (s.drop (i + 1 + 1)) with
 | none=>rfl
 | some x=>simp only [Option.map_some]; congr 1; omega
structure QI (s : List UInt8) (i : Nat) (I : Int) (m : Nat) : Prop where
 I : I = i
 lt : i < s.length\/i = 0
 m : m = s.length - i
 len : s.length<=9223372036854775807
def Adz (s : List UInt8) (k : Int) (m : Nat) (vs : List (Option SV)) (hp : List Hl) : Prop :=
 ∃ (i : Nat) (I : Int),vs = [some (.str s),some (.int .i64 (.a I))]/\hp = []/\QI s i I m/\k = qAt Jr s i
def Ah0 (F : List UInt8->Int) : FSpec:=fun _ xs ls K=>∃ (s : List UInt8),xs = [.str s]/\ls = []/\s.length<=9223372036854775807/\∀ r,r = F s->K (.int .i64 (.a r)) []
noncomputable def qPre : Code:=match Tryz.f231.body with
 | some (.seq a (.scope _))=>a
 | _=>.skip
noncomputable def Aih : Code:=match Tryz.f231.body with
 | some (.seq _ (.scope c))=>c
 | _=>.skip
noncomputable def qRest : Code:=(findLabel Aih 0).getD .skip
theorem QI.one {s : List UInt8} {i : Nat} {I : Int} {m : Nat} (V : QI s i I m) : ST.den (.bin .add .i64 (.a I) (.l 1)) = ((i + 1 : Nat) : Int):=by
 have h1:=V.I; have h2:=V.len; have h3:=V.lt
 show IntKind.i64.wrap (I + 1) = _
 rw [Bk (by omega) (by omega)]; omega
theorem QI.two {s : List UInt8} {i : Nat} {I : Int} {m : Nat} (V : QI s i I m) (h : i + 1 < s.length) : ST.den (.bin .add .i64 (.bin .add .i64 (.a I) (.l 1)) (.l 1)) = ((i + 2 : Nat) : Int):=by
 have h0:=V.one; have h2:=V.len
 show IntKind.i64.wrap (ST.den (.bin .add .i64 (.a I) (.l 1)) + 1) = _
 rw [h0,Bk (by omega) (by omega)]; omega
theorem O7 {s : List UInt8} {i : Nat} {e : ST} (he : e.den = (i : Int)) (h : i < s.length) : InS (dn.i e) s:=⟨by show 0<=e.den; omega,by show e.den < s.length; omega⟩
theorem Mk {D : Dn} (hD : D = dn) {c : Int} {s : List UInt8} {i : Nat} {e : ST} (he : e.den = (i : Int)) (h : Adj c s (D.i e)) : Fl c s i:=by
 subst hD
 refine ⟨?_⟩
 have h:=h.h
 have e2 : dn.i e = (i : Int):=he
 rw [e2] at h
 rw [h,Int.toNat_natCast]
theorem Fl.charI {c : Int} {s : List UInt8} {i : Nat} (h : Fl c s i) : c = charI s i:=h.h
theorem Ad0 {c : Int} {s : List UInt8} {i : Nat} (hc : Fl c s i) (h : (decide ((s.length : Int)<=((i : Nat) : Int)) || Dc c == 0) = true) : qdF Jr (s.drop i) = none:=by
 by_cases hlt : i < s.length
 ·refine Ad3 hlt ?_
  rw [<-hc.charI,Jr]
  have : ¬ ((s.length : Int)<=(i : Int)):=by omega
  simp [this] at h
  simp [h]
 ·exact qdF_end (by omega)
theorem Zb {c : Int} {s : List UInt8} {i : Nat} (hc : Fl c s i) (h : (decide ((s.length : Int)<=((i : Nat) : Int)) || Dc c == 0) = true) : ¬ (i < s.length/\Jr (charI s i) = true):=by
 rintro ⟨h1,h2⟩
 rw [<-hc.charI,Jr] at h2
 have : ¬ ((s.length : Int)<=(i : Int)):=by omega
 simp [this] at h
 simp [h] at h2
theorem Ad1 {c : Int} {s : List UInt8} {i : Nat} (hc : Fl c s i) (h : (decide ((s.length : Int)<=((i : Nat) : Int)) || Dc c == 0) = false) : i < s.length/\Jr (charI s i) = true:=by
 rw [<-hc.charI,Jr]
 simp at h
 refine ⟨by omega,?_⟩
 simp [h.2]
theorem Afz : A2 Tryz.prog gl 231 (Ah0 M3):=by
 refine fnOkJ (gh:=[]) mixed Dp (Af Xi Av) Tryz.func231 (l:=0) (pre:=qPre) (c:=Aih) (rest:=qRest) (by kernel_rfl) (by kernel_rfl) (by kernel_rfl) ?_
 intro xs ls K h
 unfold Ah0 at h
 obtain ⟨s,rfl,rfl,hl,h⟩:=h
 obtain ⟨k,hk⟩ : ∃ k,k = M3 s:=⟨_,rfl⟩
 refine ⟨_,_,h k hk,fun D hD=>?_⟩
 clear h
 rw [M3] at hk
 obtain ⟨J,hJ⟩ : ∃ J,J = Adz s k:=⟨_,rfl⟩
 refine ⟨[0,3],J,?_,?_⟩
 ·cbv
  have V : QI s 0 0 s.length:=⟨rfl,.inr rfl,rfl,hl⟩
  have hk2:=hk
  have hE1 : ST.den (.l 1) = ((0 + 1 : Nat) : Int):=rfl
  refine ⟨fun hg=>?_,fun c hc=>?_⟩
  ·subst hD; exact O7 hE1 (by have hg : (!decide ((s.length : Int)<=ST.den (.l 1))) = true:=hg; rw [hE1] at hg; simp only [Bool.not_eq_true',decide_eq_false_iff_not] at hg; omega)
  have hc2:=Mk hD hE1 hc
  clear hc
  cbv
  refine ⟨_,rfl,rfl,by subst hD; exact hc2.le,fun r hr=>?_⟩
  have hr2 : r = Dc c:=by subst hD; exact hr
  clear hr
  cbv
  refine br hD (fun h=>?_) (fun h=>?_)<;>cbv
  ·have h : (decide ((s.length : Int)<=ST.den (.l 1)) || r == 0) = true:=h
   rw [hE1,hr2] at h
   refine Bv hD ?_
   rw [hk2,M5 (Ad0 hc2 h)]
   rfl
  have h : (decide ((s.length : Int)<=ST.den (.l 1)) || r == 0) = false:=h
  rw [hE1,hr2] at h
  obtain ⟨hlt,hp⟩:=Ad1 hc2 h
  clear h
  refine ⟨by subst hD; exact O7 hE1 hlt,fun c' hc'=>?_⟩
  have hcc : c' = c:=by have:=Mk hD hE1 hc'; rw [this.h,hc2.h]
  subst hcc
  clear hc'
  cbv
  refine br hD (fun h=>?_) (fun h=>?_)<;>cbv
  ·have h34 : c' = 34:=by have h : (c' == 34) = true:=h; simpa using h
   refine Bv hD ?_
   rw [hk2,Vm hlt hp (by rw [<-hc2.charI]; exact h34)]
   exact rfl
  have h34 : charI s (0 + 1)≠34:=by rw [<-hc2.charI]; have h : (c' == 34) = false:=h; simpa using h
  clear h
  refine br hD (fun h=>?_) (fun h=>?_)<;>cbv
  ·have h92 : charI s (0 + 1) = 92:=by rw [<-hc2.charI]; have h : (c' == 92) = true:=h; simpa using h
   clear h
   have hE2' : ST.den (.l 2) = ((0 + 2 : Nat) : Int):=rfl
   refine ⟨fun hg=>?_,fun d hd=>?_⟩
   ·subst hD; exact O7 hE2' (by have hg : (!decide ((s.length : Int)<=ST.den (.l 2))) = true:=hg; rw [hE2'] at hg; simp only [Bool.not_eq_true',decide_eq_false_iff_not] at hg; omega)
   have hd2:=Mk hD hE2' hd
   clear hd
   cbv
   refine ⟨_,rfl,rfl,by subst hD; exact hd2.le,fun q hq=>?_⟩
   have hq2 : q = Dc d:=by subst hD; exact hq
   clear hq
   cbv
   refine br hD (fun h=>?_) (fun h=>?_)<;>cbv
   ·have h : (decide ((s.length : Int)<=ST.den (.l 2)) || q == 0) = true:=h
    rw [hE2',hq2] at h
    refine Bv hD ?_
    rw [hk2,M5 (Sp hlt hp h92 (Zb hd2 h))]
    rfl
   have h : (decide ((s.length : Int)<=ST.den (.l 2)) || q == 0) = false:=h
   rw [hE2',hq2] at h
   obtain ⟨hlt2,hp2⟩:=Ad1 hd2 h
   refine ⟨s.length - (0 + 2),?_⟩
   rw [hJ]
   subst hD
   exact ⟨0 + 2,_,rfl,rfl,⟨hE2',.inl hlt2,rfl,hl⟩,by rw [hk2,Ad4 hlt hp h92 hlt2 hp2]⟩
  ·have h92 : charI s (0 + 1)≠92:=by rw [<-hc2.charI]; have h : (c' == 92) = false:=h; simpa using h
   refine ⟨s.length - (0 + 1),?_⟩
   rw [hJ]
   subst hD
   exact ⟨0 + 1,_,rfl,rfl,⟨hE1,.inl hlt,rfl,hl⟩,by rw [hk2,Zd hlt hp h34 h92]⟩
 ·intro m vs hp' hv
  rw [hJ] at hv
  unfold Adz at hv
  obtain ⟨i,I,hvs,hhp,V,hk2⟩:=hv
  rw [hvs,hhp]
  clear hvs hhp vs hp' hk
  cbv
  have hE1 : ST.den (.bin .add .i64 (.a I) (.l 1)) = ((i + 1 : Nat) : Int):=V.one
  refine ⟨fun hg=>?_,fun c hc=>?_⟩
  ·subst hD; exact O7 hE1 (by have hg : (!decide ((s.length : Int)<=ST.den (.bin .add .i64 (.a I) (.l 1)))) = true:=hg; rw [hE1] at hg; simp only [Bool.not_eq_true',decide_eq_false_iff_not] at hg; omega)
  have hc2:=Mk hD hE1 hc
  clear hc
  cbv
  refine ⟨_,rfl,rfl,by subst hD; exact hc2.le,fun r hr=>?_⟩
  have hr2 : r = Dc c:=by subst hD; exact hr
  clear hr
  cbv
  refine br hD (fun h=>?_) (fun h=>?_)<;>cbv
  ·have h : (decide ((s.length : Int)<=ST.den (.bin .add .i64 (.a I) (.l 1))) || r == 0) = true:=h
   rw [hE1,hr2] at h
   refine Bv hD ?_
   rw [hk2,M5 (Ad0 hc2 h)]
   rfl
  have h : (decide ((s.length : Int)<=ST.den (.bin .add .i64 (.a I) (.l 1))) || r == 0) = false:=h
  rw [hE1,hr2] at h
  obtain ⟨hlt,hp⟩:=Ad1 hc2 h
  clear h
  refine ⟨by subst hD; exact O7 hE1 hlt,fun c' hc'=>?_⟩
  have hcc : c' = c:=by have:=Mk hD hE1 hc'; rw [this.h,hc2.h]
  subst hcc
  clear hc'
  cbv
  refine br hD (fun h=>?_) (fun h=>?_)<;>cbv
  ·have h34 : c' = 34:=by have h : (c' == 34) = true:=h; simpa using h
   refine Bv hD ?_
   rw [hk2,Vm hlt hp (by rw [<-hc2.charI]; exact h34)]
   exact V.two hlt
  have h34 : charI s (i + 1)≠34:=by rw [<-hc2.charI]; have h : (c' == 34) = false:=h; simpa using h
  clear h
  refine br hD (fun h=>?_) (fun h=>?_)<;>cbv
  ·have h92 : charI s (i + 1) = 92:=by rw [<-hc2.charI]; have h : (c' == 92) = true:=h; simpa using h
   clear h
   have hE2' : ST.den (.bin .add .i64 (.bin .add .i64 (.a I) (.l 1)) (.l 1)) = ((i + 2 : Nat) : Int):=V.two hlt
   refine ⟨fun hg=>?_,fun d hd=>?_⟩
   ·subst hD; exact O7 hE2' (by have hg : (!decide ((s.length : Int)<=ST.den (.bin .add .i64 (.bin .add .i64 (.a I) (.l 1)) (.l 1)))) = true:=hg; rw [hE2'] at hg; simp only [Bool.not_eq_true',decide_eq_false_iff_not] at hg; omega)
   have hd2:=Mk hD hE2' hd
   clear hd
   cbv
   refine ⟨_,rfl,rfl,by subst hD; exact hd2.le,fun q hq=>?_⟩
   have hq2 : q = Dc d:=by subst hD; exact hq
   clear hq
   cbv
   refine br hD (fun h=>?_) (fun h=>?_)<;>cbv
   ·have h : (decide ((s.length : Int)<=ST.den (.bin .add .i64 (.bin .add .i64 (.a I) (.l 1)) (.l 1))) || q == 0) = true:=h
    rw [hE2',hq2] at h
    refine Bv hD ?_
    rw [hk2,M5 (Sp hlt hp h92 (Zb hd2 h))]
    rfl
   have h : (decide ((s.length : Int)<=ST.den (.bin .add .i64 (.bin .add .i64 (.a I) (.l 1)) (.l 1))) || q == 0) = false:=h
   rw [hE2',hq2] at h
   obtain ⟨hlt2,hp2⟩:=Ad1 hd2 h
   refine ⟨s.length - (i + 2),by have:=V.m; omega,?_⟩
   rw [hJ]
   subst hD
   exact ⟨i + 2,_,rfl,rfl,⟨hE2',.inl hlt2,rfl,hl⟩,by rw [hk2,Ad4 hlt hp h92 hlt2 hp2]⟩
  ·have h92 : charI s (i + 1)≠92:=by rw [<-hc2.charI]; have h : (c' == 92) = false:=h; simpa using h
   refine ⟨s.length - (i + 1),by have:=V.m; omega,?_⟩
   rw [hJ]
   subst hD
   exact ⟨i + 1,_,rfl,rfl,⟨hE1,.inl hlt,rfl,hl⟩,by rw [hk2,Zd hlt hp h34 h92]⟩
end Go.Proofs.YtdoogdbjiijifaaGreatDoor
namespace Go.Proofs.YtdoogdbjiijifaaGreatDoor
open Go.Sx
set_option maxRecDepth 10000
set_option maxHeartbeats 2000000
structure RqI (s t : List UInt8) (i : Nat) (I : Int) (m : Nat) : Prop where
 at_ : At s i I m
 t : t.length<=i
theorem At.one {s : List UInt8} {i : Nat} {I : Int} {m : Nat} (V : At s i I m) (h : i < s.length) : ST.den (.bin .add .i64 (.a I) (.l 1)) = ((i + 1 : Nat) : Int):=by
 have h1:=V.I; have h2:=V.len
 show IntKind.i64.wrap (I + 1) = _
 rw [Bk (by omega) (by omega)]; omega
theorem At.two {s : List UInt8} {i : Nat} {I : Int} {m : Nat} (V : At s i I m) (h : i + 1 < s.length) : ST.den (.bin .add .i64 (.bin .add .i64 (.a I) (.l 1)) (.l 1)) = ((i + 2 : Nat) : Int):=by
 have h0:=V.one (by omega); have h2:=V.len
 show IntKind.i64.wrap (ST.den (.bin .add .i64 (.a I) (.l 1)) + 1) = _
 rw [h0,Bk (by omega) (by omega)]; omega
theorem At.den {s : List UInt8} {i : Nat} {I : Int} {m : Nat} (V : At s i I m) : ST.den (.a I) = (i : Int):=V.I
theorem Mw {s : List UInt8} {i j : Nat} {a b : ST} (ha : a.den = (i : Int)) (hb : b.den = (j : Int)) (h : i<=j) (h2 : j<=s.length) : SubS (dn.i a) (dn.i b) s:=⟨by show 0<=a.den; omega,by show a.den<=b.den; omega,by show b.den<=_; omega⟩
end Go.Proofs.YtdoogdbjiijifaaGreatDoor
namespace Go.Proofs.YtdoogdbjiijifaaGreatDoor
open Go.Sx
set_option maxRecDepth 10000
set_option maxHeartbeats 2000000
structure QuI (s t : List UInt8) (i : Nat) (I : Int) (m : Nat) : Prop where
 at_ : At s i I m
 t : t.length<=2 * i + 1
 s : s.length<=500
end Go.Proofs.YtdoogdbjiijifaaGreatDoor
namespace Go.Proofs.YtdoogdbjiijifaaGreatDoor
open Go.Sx
set_option maxRecDepth 10000
set_option maxHeartbeats 2000000
def Akm (c : Int) : Bool:=c == 9 || c == 32
def blankB (c : UInt8) : Bool:=Akm (c.toNat : Int)
def Jo (s : List UInt8) : List UInt8:=s.dropWhile blankB
def Mv (s : List UInt8) : List UInt8:=(s.reverse.dropWhile blankB).reverse
def trimF (s : List UInt8) : List UInt8:=Mv (Jo s)
theorem Ly {c : UInt8} {r : List UInt8} (h : blankB c = true) : Jo (c :: r) = Jo r:=by
 rw [Jo,List.dropWhile_cons_of_pos h]; rfl
theorem Rt {D : Dn} (hD : D = dn) {r s : List UInt8} {i j : Nat} {a b : ST} (ha : a.den = (i : Int)) (hb : b.den = (j : Int)) (hr : SubOf r s (D.i a) (D.i b)) : r = (s.drop i).take (j - i):=by
 subst hD
 have hr:=hr.h
 have e1 : dn.i a = (i : Int):=ha
 have e2 : dn.i b = (j : Int):=hb
 rw [hr,e1,e2,Int.toNat_natCast,Int.toNat_natCast]
structure TrI (s : List UInt8) (m : Nat) : Prop where
 m : m = s.length
 len : s.length<=9223372036854775807
def Ahz (F : List UInt8->List UInt8) : FSpec:=fun _ xs ls K=>∃ (s : List UInt8),xs = [.str s]/\ls = []/\s.length<=9223372036854775807/\∀ r,r = F s->K (.str r) []
theorem finStr {r k : List UInt8} (h : r = k) : Fin (.str r) (.str k) [] []:=by subst h; exact Gg (LeV.refl _)
end Go.Proofs.YtdoogdbjiijifaaGreatDoor
