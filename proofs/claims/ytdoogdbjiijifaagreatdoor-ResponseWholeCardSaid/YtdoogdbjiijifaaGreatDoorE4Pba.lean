/- Part of the proofs of the statements about responses and messages (layers 9 and 10): a symbolic executor over the code, that it is sound, and contracts of functions; it has no conditions of its own. -/
import Derived.Laws.RangeString
import Derived.Laws.RangeAny
import Derived.Lib.ItoaLen
import Derived.Shelf.Bytes.SlIndexAt
import Derived.Test.YtdoogdbjiijifaaGreatDoorE4Pay
import Derived.Test.YtdoogdbjiijifaaGreatDoorE4Paz
import Derived.Test.YtdoogdbjiijifaaGreatDoorE4Paw
namespace Go.Proofs.YtdoogdbjiijifaaGreatDoor
open Go Go.Sx Go.RowKit
set_option maxRecDepth 100000
set_option maxHeartbeats 2000000
theorem Vj {P : Program} {b : Bool} {gl : List (Nat×SV)} {f : FuncId} {xs : List SV} {W : World} {args : List Value} (h : Gp P gl f xs [] (.bool (.a b)) [])
  (hgl : ∀ g s,Sx.look g gl = some s->RO (Kg W) W s (.pointer (some ⟨g,0,none⟩))/\g < W.heap.size/\Qc W g s) (hl : xs.length = args.length) (hr : ∀ (i : Nat) (s : SV) (v : Value),xs[i]? = some s->args[i]? = some v->RO (Kg W) W s v) :
  Calls P f ⟨args⟩ W fun e W'=>e = .returned (.bool b)/\Below W.heap.size W W':=by
 refine (h ⟨W,fun _=>False,Kg W,fun _=>none,fun _=>none,fun _=>none,[]⟩ ⟨fun _=>none,fun _=>none,fun _=>none,fun _=>none,fun _=>none,Kg W⟩ W args rfl (fun _ _ h=>h) (fun _ h=>absurd h (by simp)) ⟨rfl,rfl,rfl,Nat.le_refl _,fun _ _ _=>rfl,fun _ _ h=>⟨h,rfl⟩,fun _ _ h=>h,fun _ _ h=>.inl h,fun _ _ h=>(by cases h),⟨fun _ _ h=>(by cases h),fun _ _ h=>(by cases h),fun _ _ h=>(by cases h)⟩⟩ (fun g s h=>⟨(hgl g s h).1,(hgl g s h).2.1,fun h=>h,(hgl g s h).2.2⟩) (fun h=>?_) ⟨hl,fun i s v a b=>.ro (hr i s v a b)⟩).mono fun e W' hq=>?_
 ·simp only [Ao,nth]
  exact ⟨rfl,rfl,rfl,rfl⟩
 ·obtain ⟨v,E',rfl,hb,_,hv⟩:=hq
  rw [hv.bool_inv]
  exact ⟨rfl,⟨hb.os,hb.tape,hb.output,hb.size,fun k hk=>hb.old k hk (fun h=>h)⟩⟩
def He (x : Nat) : Bool:=decide (x≠9) && (decide (x < 32) || decide (126 < x))
def okB (c : UInt8) : Bool:=decide (c.toNat = 9) || (decide (32<=c.toNat) && decide (c.toNat<=126))
def Ci (s : List UInt8) : Bool:=s.all okB
def spRune : FSpec:=fun _ xs ls K=>∃ (x : Nat),xs = [.int .i32 (.a (x : Int))]/\ls = []/\∀ r,r = He x->K (.bool (.a r)) []
theorem rune_ok : A2 Tryz.prog [] 171 spRune:=by
 refine C9 (gh:=[]) mixed Dp Av Tryz.func171 (by kernel_rfl) (by kernel_rfl) ?_
 intro xs ls K h
 unfold spRune at h
 obtain ⟨x,rfl,rfl,h⟩:=h
 obtain ⟨k,hk⟩ : ∃ k,k = He x:=⟨_,rfl⟩
 refine ⟨_,_,h k hk,fun D hD=>?_⟩
 clear h
 cbv
 refine A5 hD ?_
 rw [hk]
 have e1 : ((x : Int) = 9)↔x = 9:=by omega
 have e2 : ((x : Int) < 32)↔x < 32:=by omega
 have e3 : ((126 : Int) < x)↔126 < x:=by omega
 simp only [BT.den,Bw,ST.den,He]
 rw [Bool.eq_iff_iff]
 simp only [Bool.and_eq_true,Bool.or_eq_true,bne_iff_ne,decide_eq_true_eq,Int.ofNat_eq_natCast]
 constructor
 ·rintro ⟨h1,h2⟩
  exact ⟨fun e=>h1 (e1.2 e),h2.imp (fun e=>e2.1 (of_decide_eq_true e)) (fun e=>e3.1 (of_decide_eq_true e))⟩
 ·rintro ⟨h1,h2⟩
  exact ⟨fun e=>h1 (e1.1 e),h2.imp (fun e=>decide_eq_true (e2.2 e)) (fun e=>decide_eq_true (e3.2 e))⟩
theorem Ad9 (c : UInt8) : okB c = !He c.toNat:=by
 unfold okB He
 by_cases h1 : c.toNat = 9<;>by_cases h2 : c.toNat < 32<;>by_cases h3 : 126 < c.toNat<;>simp [h1,h2,h3]<;>omega
theorem Tl (s : ByteArray) : ∀ (f pos : Nat),s.size<=pos + f->decide (0<=Lib.idxFuncFrom He true s f pos) = !((s.data.toList.drop pos).all okB)
 | 0,pos,h=>by
  have : s.data.toList.drop pos = []:=List.drop_eq_nil_of_le (show s.data.toList.length<=pos from h)
  rw [this]; rfl
 | f + 1,pos,h=>by
  unfold Lib.idxFuncFrom
  by_cases hp : pos < s.size
  ·have hp' : pos < s.data.toList.length:=hp
   have hd : s.data.toList.drop pos = s[pos]'hp :: s.data.toList.drop (pos + 1):=by
    rw [List.drop_eq_getElem_cons hp']; rfl
   rw [if_pos hp,hd,List.all_cons]
   by_cases ha : (s[pos]'hp).toNat < 128
   ·rw [decode_ascii s pos hp ha]
    have ih:=Tl s f (pos + 1) (by omega)
    have hb:=Ad9 (s[pos]'hp)
    by_cases hr : He (s[pos]'hp).toNat = true
    ·rw [if_pos hr,hb,hr]; simp
    ·rw [if_neg hr,hb,ih]
     simp only [Bool.not_eq_true] at hr
     rw [hr]; simp
   ·obtain ⟨d1,_⟩:=decode_high s pos hp (by omega)
    have hr : He (Utf8.decode s pos).1 = true:=by
     unfold He
     simp; omega
    have hb : okB (s[pos]'hp) = false:=by
     rw [Ad9]
     simp only [He]
     simp; omega
    rw [if_pos hr,hb]; simp
  ·rw [if_neg hp]
   have : s.data.toList.drop pos = []:=List.drop_eq_nil_of_le (show s.data.toList.length<=pos from Nat.not_lt.1 hp)
   rw [this]; rfl
def spPlainH : FSpec:=fun _ xs ls K=>∃ (s : List UInt8),xs = [.str s]/\ls = []/\∀ r,r = Ci s->K (.bool (.a r)) []
def spHasR : FSpec:=fun _ xs ls K=>∃ (s : List UInt8),xs = [.str s,.fn 171]/\ls = []/\∀ r,r = !Ci s->K (.bool (.a r)) []
theorem Ahg : ∀ args w,(callFunc 171 args).run Tryz.prog w = .ok (.enter 171 args) w:=enters_of Tryz.func171 (by kernel_rfl) rfl
theorem Ab3 (w : World) : PredGrows Tryz.prog 171 #[] He w:=by
 intro W x _ _
 obtain ⟨r,ls',⟨hr,hl⟩,hc⟩:=rune_ok.2 [.int .i32 (.a (x : Int))] [] (fun r ls'=>r = .bool (.a (He x))/\ls' = []) ⟨x,rfl,rfl,fun r hr=>by rw [hr]; exact ⟨rfl,rfl⟩⟩
 subst hr hl
 refine Vj (gl:=[]) hc (fun g s h=>by simp [Sx.look] at h) (by simp [encR]) fun i s v a b=>?_
 cases i with
 | zero=>simp [encR] at a b; subst a b; exact .int rfl
 | succ i=>simp at a
theorem hasR_ok : A2 Tryz.prog gl 170 spHasR:=by
 refine ⟨⟨Tryz.f170,_,Tryz.func170,rfl,by kernel_rfl⟩,fun xs ls K h=>?_⟩
 obtain ⟨s,rfl,rfl,h⟩:=h
 refine ⟨_,_,h _ rfl,Bn fun E B w vals _ _ _ hr=>?_⟩
 obtain ⟨v,g,rfl,hu,hgv⟩:=D3 hr
 rw [Db hu,hgv.fn_inv]
 refine (Ft 171 #[] Ahg He (Sx.bytes s) w (Ab3 w)).mono ?_
 rintro e w' ⟨rfl,hB⟩
 refine ⟨_,rfl,fun E=>.ro (.bool ?_),hB⟩
 have:=Tl (Sx.bytes s) (Sx.bytes s).size 0 (by omega)
 show (!Ci s) = _
 rw [Lib.idxFunc,this]; rfl
theorem V7 : A2 Tryz.prog gl 120 spPlainH:=by
 refine C9 (gh:=[]) mixed Dp (Af hasR_ok Av) Tryz.func120 (by kernel_rfl) (by kernel_rfl) ?_
 intro xs ls K h
 unfold spPlainH at h
 obtain ⟨s,rfl,rfl,h⟩:=h
 obtain ⟨k,hk⟩ : ∃ k,k = Ci s:=⟨_,rfl⟩
 refine ⟨_,_,h k hk,fun D hD=>?_⟩
 clear h
 cbv
 refine ⟨s,rfl,rfl,fun r hr=>?_⟩
 cbv
 refine A5 hD ?_
 rw [hk,<-Bool.not_not (Ci s),<-hr]
 simp [BT.den]
end Go.Proofs.YtdoogdbjiijifaaGreatDoor
namespace Go.Proofs.YtdoogdbjiijifaaGreatDoor
open Go.Sx
set_option maxRecDepth 100000
set_option maxHeartbeats 8000000
structure HF where
 name : List UInt8
 value : List UInt8
 deriving Inhabited
def Ee (x : HF) : List SV:=[.str x.name,.str x.value]
def HF.small (x : HF) : Prop:=x.name.length<=9223372036854775807/\x.value.length<=9223372036854775807
structure Bx (f : Nat->List SV) (n : Int) (l : List HF) : Prop where
 n : n = l.length
 f : ∀ i,i < l.length->f i = Ee (l.getD i default)
 len : l.length<=9223372036854775807
 small : ∀ i,i < l.length->(l.getD i default).small
def Yr (x : HF) : Int:=x.name.length + x.value.length + 4
structure SizeOk (a b : List UInt8) : Prop where
 a : a.length<=1000000000000
 b : b.length<=1000000000000
def spSize : FSpec:=fun _ xs ls K=>∃ (a b : List UInt8),xs = [.agg [.str a,.str b]]/\ls = []/\SizeOk a b/\∀ r,r = Yr ⟨a,b⟩->K (.int .i64 (.a r)) []
theorem size_ok : A2 Tryz.prog gl 175 spSize:=by
 refine C9 (gh:=[]) mixed Dp Av Tryz.func175 (by kernel_rfl) (by kernel_rfl) ?_
 intro xs ls K h
 unfold spSize at h
 obtain ⟨a,b,rfl,rfl,hs,h⟩:=h
 obtain ⟨k,hk⟩ : ∃ k,k = Yr ⟨a,b⟩:=⟨_,rfl⟩
 refine ⟨_,_,h k hk,fun D hD=>?_⟩
 clear h
 cbv
 refine Bv hD ?_
 have h1:=hs.a; have h2:=hs.b
 rw [hk]
 show IntKind.i64.wrap (IntKind.i64.wrap ((a.length : Int) + b.length) + 4) = _
 rw [Bk (n:=(a.length : Int) + b.length) (by omega) (by omega),Bk (by omega) (by omega)]
 rfl
def Ada (x : HF) : Bool:=!Bj x.name || (!Ci x.value || trimF x.value != x.value)
def Fi : List HF->Int->Int
 | [],n=>if 8192 < n then 3 else 0
 | x :: l,n=>if Ada x then 6 else if 2000 < x.value.length then 3 else Fi l (n + Yr x)
def A9 (l : List HF) : Int:=if 100 < l.length then 3 else Fi l 2
def spCheck : FSpec:=fun _ xs ls K=>∃ (l : List HF) (nl : Bool) (n : Int) (f : Nat->List SV),xs = [.sl (.a nl) (.a n) 2 f]/\ls = []/\Bx f n l/\∀ r,r = A9 l->K (.int .i64 (.a r)) []
structure ChJ (k : Int) (l : List HF) (i : Nat) (I N : Int) (m : Nat) : Prop where
 at_ : AtR l i I m
 lo : 0<=N
 hi : N<=3000 * (i + 1)
 k : k = Fi (l.drop i) N
def chJ (k : Int) (l : List HF) (nl : Bool) (n : Int) (f : Nat->List SV) (m : Nat) (vs : List (Option SV)) (hp : List Hl) : Prop :=
 ∃ (i : Nat) (I N : Int),vs = [some (.int .i64 (.a N)),some (.sl (.a nl) (.a n) 2 f),some (.int .i64 (.a n)),some (.int .i64 (.a I))]/\hp = []/\ChJ k l i I N m
theorem N7 : A2 Tryz.prog gl 125 spCheck:=by
 refine C9 (gh:=[]) mixed Dp (Af Ib (Af V7 (Af K6 (Af size_ok Av)))) Tryz.func125 (by kernel_rfl) (by kernel_rfl) ?_
 intro xs ls K h
 unfold spCheck at h
 obtain ⟨l,nl,n,f,rfl,rfl,R,h⟩:=h
 obtain ⟨k,hk⟩ : ∃ k,k = A9 l:=⟨_,rfl⟩
 refine ⟨_,_,h k hk,fun D hD=>?_⟩
 clear h
 obtain ⟨J,hJ⟩ : ∃ J,J = chJ k l nl n f:=⟨_,rfl⟩
 cbv
 refine br hD (fun h=>?_) (fun h=>?_)<;>cbv
 ·refine Bv hD ?_
  have h2 : 100 < n:=of_decide_eq_true (p:=(100 : Int) < n) h
  rw [hk,A9,if_pos (by have:=R.n; omega)]
  rfl
 have h2 : n<=100:=by
  have:=of_decide_eq_false (p:=(100 : Int) < n) h
  omega
 clear h
 refine ⟨[3,9,10,11],J,⟨rfl,l.length,?_⟩,?_⟩
 ·rw [hJ]
  subst hD
  refine ⟨0,0,2,rfl,rfl,AtR.zero R.len,by omega,by omega,?_⟩
  rw [hk,A9,if_neg (by have:=R.n; omega)]
  rfl
 intro m vs hp hj
 rw [hJ] at hj
 obtain ⟨i,I,N,rfl,rfl,V⟩:=hj
 clear hk
 cbv
 refine br hD (fun h=>?_) (fun h=>?_)<;>cbv
 ·have hlt:=V.at_.lt R.n (of_decide_eq_true (p:=I < n) h)
  clear h
  refine ⟨V.at_.inB hD R.n hlt,fun j hj=>?_⟩
  obtain rfl:=V.at_.j hD hj
  clear hj
  have e1:=R.f j hlt
  have hsm:=R.small j hlt
  have hk2:=V.k
  rw [Ny (d:=default) hlt] at hk2
  obtain ⟨x,hx⟩ : ∃ x,x = l.getD j default:=⟨_,rfl⟩
  rw [<-hx] at e1 hk2 hsm
  obtain ⟨a,b⟩:=x
  cbv
  rw [e1]
  cbv
  refine ⟨a,rfl,rfl,hsm.1,fun t ht=>?_⟩
  cbv
  refine ⟨b,rfl,rfl,fun p hp=>?_⟩
  cbv
  refine ⟨b,_,rfl,rfl,hsm.2,?_,?_,fun q hq=>?_⟩
  ·decide
  ·decide
  cbv
  have hbad : ∀ v : Bool,(((!t || !p) || !(q == b)) = v)->Ada ⟨a,b⟩ = v:=by
   intro v hv
   rw [<-hv,ht,hp,hq,Rm,Bool.or_assoc]
   rfl
  clear ht hp hq
  refine br hD (fun h=>?_) (fun h=>?_)<;>cbv
  ·have h3:=hbad true (by simpa [BT.den] using h)
   refine Bv hD ?_
   rw [hk2,Fi,if_pos h3]; rfl
  have h3:=hbad false (by simpa [BT.den] using h)
  clear h hbad
  refine br hD (fun h=>?_) (fun h=>?_)<;>cbv
  ·have h4 : (2000 : Int) < b.length:=of_decide_eq_true (p:=(2000 : Int) < b.length) h
   refine Bv hD ?_
   rw [hk2,Fi,h3,if_neg (by simp),if_pos (by show 2000 < b.length; omega)]; rfl
  have h4 : b.length<=2000:=by
   have:=of_decide_eq_false (p:=(2000 : Int) < b.length) h
   omega
  clear h
  have ha : a.length<=64:=by
   unfold Ada at h3
   simp only [Bool.or_eq_false_iff,Bool.not_eq_false'] at h3
   have:=h3.1
   unfold Bj at this
   simp only [Bool.and_eq_true,decide_eq_true_eq] at this
   exact this.2.2
  refine ⟨a,b,rfl,rfl,⟨by omega,by omega⟩,fun z hz=>?_⟩
  cbv
  obtain ⟨g1,g2⟩:=V.at_.step hD hlt
  refine ⟨_,g1,?_⟩
  rw [hJ]
  have h5 : z = a.length + b.length + 4:=hz
  have h6:=V.lo
  have h7:=V.hi
  have h8:=V.at_.le
  have h9 : IntKind.i64.wrap (N + z) = N + z:=Bk (by omega) (by have:=R.n; omega)
  subst hD
  refine ⟨j + 1,_,_,rfl,rfl,g2,?_,?_,?_⟩
  ·show 0<=IntKind.i64.wrap (N + z); omega
  ·show IntKind.i64.wrap (N + z)<=_; omega
  ·show k = Fi _ (IntKind.i64.wrap (N + z))
   rw [h9,hk2,Fi,h3,if_neg (by simp),if_neg (by show ¬ 2000 < b.length; omega),h5]
   rfl
 ·have hi:=V.at_.eq R.n (of_decide_eq_false (p:=I < n) h)
  have hk2:=V.k
  rw [hi,List.drop_length] at hk2
  clear h
  refine br hD (fun h=>?_) (fun h=>?_)<;>cbv
  ·refine Bv hD ?_
   have h2 : 8192 < N:=of_decide_eq_true (p:=(8192 : Int) < N) h
   rw [hk2,Fi,if_pos h2]; rfl
  ·refine Bv hD ?_
   have h2 : ¬ 8192 < N:=of_decide_eq_false (p:=(8192 : Int) < N) h
   rw [hk2,Fi,if_neg h2]; rfl
end Go.Proofs.YtdoogdbjiijifaaGreatDoor
namespace Go.Proofs.YtdoogdbjiijifaaGreatDoor
open Go.Sx
set_option maxRecDepth 100000
set_option maxHeartbeats 8000000
def spNamed : FSpec:=fun _ xs ls K=>∃ (nl : Bool) (n : Int) (f : Nat->List SV) (s : List UInt8),xs = [.sl (.a nl) (.a n) 2 f,.str s]/\ls = []/\s.length<=9223372036854775807/\
 ∀ t,t = foldF s->K (.clo 230 [.ptr 0 0,.ptr 1 0]) [.blk 23 [.sl (.a nl) (.a n) 2 f],.blk 9 [.str t]]
theorem Ai8 : A2 Tryz.prog gl 177 spNamed:=by
 refine El (gh:=[]) mixed Dp (Af Xu Av) Tryz.func177 (by kernel_rfl) (by kernel_rfl) ?_
 intro xs ls K h
 unfold spNamed at h
 obtain ⟨nl,n,f,s,rfl,rfl,hs,h⟩:=h
 obtain ⟨k,hk⟩ : ∃ k,k = foldF s:=⟨_,rfl⟩
 refine ⟨_,_,h k hk,fun D hD=>?_⟩
 clear h
 cbv
 refine ⟨s,rfl,rfl,hs,fun t ht=>?_⟩
 rw [<-hk] at ht
 subst ht
 cbv
 subst hD
 exact Acv rfl rfl
end Go.Proofs.YtdoogdbjiijifaaGreatDoor
namespace Go.Proofs.YtdoogdbjiijifaaGreatDoor
open Go.Sx
set_option maxRecDepth 100000
set_option maxHeartbeats 8000000
def setF (F : List UInt8->Bool) (s : List UInt8) : List UInt8->Bool:=fun k=>if k = s then true else F k
def Ade (F : List UInt8->Bool) (els : List (List UInt8)) : List UInt8->Bool:=els.foldl (fun F s=>if Bj s then setF F (foldF s) else F) F
def Aen (t : List UInt8) : List HF->(List UInt8->Bool)->(List UInt8->Bool)×Bool
 | [],F=>(F,true)
 | x :: l,F=>if foldF x.name = t then (if (Bb x.value).2 = 0 then Aen t l (Ade F (Bb x.value).1) else (F,false)) else Aen t l F
structure NmJ (t : List UInt8) (k : (List UInt8->Bool)×Bool) (l : List HF) (F : List UInt8->Bool) (i : Nat) (I : Int) (m : Nat) : Prop where
 lie : AtR l i I m
 k : k = Aen t (l.drop i) F
end Go.Proofs.YtdoogdbjiijifaaGreatDoor
namespace Go.Proofs.YtdoogdbjiijifaaGreatDoor
open Go.Sx
set_option maxRecDepth 100000
set_option maxHeartbeats 8000000
def conn : List UInt8:=[99,111,110,110,101,99,116,105,111,110]
def fixedL : List (List UInt8):=[conn,[107,101,101,112,45,97,108,105,118,101],[112,114,111,120,121,45,99,111,110,110,101,99,116,105,111,110],[116,101],[116,114,97,105,108,101,114],[116,114,97,110,115,102,101,114,45,101,110,99,111,100,105,110,103],[117,112,103,114,97,100,101]]
def baseS : List UInt8->Bool:=fixedL.foldl setF fun _=>false
def hopsF (l : List HF) : (List UInt8->Bool)×Bool:=Aen conn l baseS
theorem Ae9.eq {F' F : List UInt8->Bool} {s : List UInt8} (h : Ae9 F' F s true) : F' = setF F s:=funext fun k=>h.h k
structure HopJ (els : List (List UInt8)) (F0 F : List UInt8->Bool) (i : Nat) (I L : Int) (m : Nat) : Prop where
 lie : AtR els i I m
 L : L = els.length
 k : Ade F0 els = Ade F (els.drop i)
end Go.Proofs.YtdoogdbjiijifaaGreatDoor
namespace Go.Proofs.YtdoogdbjiijifaaGreatDoor
open Go Go.Sx
set_option maxRecDepth 100000
set_option maxHeartbeats 8000000
def Aeo (l : List HF) (i : Nat) : List SV:=match l[i]? with
 | some x=>Ee x
 | none=>[]
theorem Ajt {l : List HF} {i : Nat} (h : i < l.length) : Aeo l i = Ee (l.getD i default):=by
 unfold Aeo
 rw [List.getElem?_eq_getElem h,List.getD_eq_getElem?_getD,List.getElem?_eq_getElem h]; rfl
theorem Bx.row {l : List HF} (h : l.length<=9223372036854775807) (hs : ∀ i,i < l.length->(l.getD i default).small) : Bx (Aeo l) l.length l:=⟨rfl,fun _ hi=>Ajt hi,h,hs⟩
def keepH (F : List UInt8->Bool) (x : HF) : Bool:=!F (foldF x.name)
def idxH (p : HF->Bool) : List HF->Int->Int
 | [],_=>-1
 | x :: l,i=>if p x then i else idxH p l (i + 1)
structure IxJ (k : Int) (F : List UInt8->Bool) (l : List HF) (i : Nat) (I : Int) (m : Nat) : Prop where
 lie : AtR l i I m
 k : k = idxH (fun x=>F (foldF x.name)) (l.drop i) I
end Go.Proofs.YtdoogdbjiijifaaGreatDoor
namespace Go.Proofs.YtdoogdbjiijifaaGreatDoor
open Go Go.Sx
set_option maxRecDepth 100000
set_option maxHeartbeats 8000000
def Z4 (F : List UInt8->Bool) (l : List HF) : List HF:=l.filter (keepH F)
structure DelJ (F : List UInt8->Bool) (l : List HF) (f : Nat->List SV) (j : Nat) (I J : Int) (m : Nat) : Prop where
 lie : AtR l j J m
 I : I = ((Z4 F (l.take j)).length : Int)
 row : ∀ k,k < (Z4 F (l.take j)).length->f k = Ee ((Z4 F (l.take j)).getD k default)
 rest : ∀ k,j<=k->k < l.length->f k = Ee (l.getD k default)
 tot : ∀ k,k < l.length->∃ x,f k = Ee x
 lt : (Z4 F (l.take j)).length < j
def Ru (l : List HF) : List HF×Int :=
 if A9 l≠0 then ([],A9 l) else if (hopsF l).2 then (Z4 (hopsF l).1 l,0) else ([],6)
structure ResH (l : List HF) (nb : Bool) (n : Int) (f : Nat->List SV) : Prop where
 row : Bx f n l
 nil : nb = true->l = []
theorem T5 {l : List HF} (h : A9 l = 0) : l.length<=100:=by
 unfold A9 at h
 split at h
 ·cases h
 ·omega
end Go.Proofs.YtdoogdbjiijifaaGreatDoor
namespace Go.Proofs.YtdoogdbjiijifaaGreatDoor
open Go Go.Sx
set_option maxRecDepth 100000
set_option maxHeartbeats 16000000
abbrev CS:=List (List UInt8)×Bool×Int
def capp (x : List UInt8) (σ : CS) : CS:=(σ.1 ++ [x],false,σ.2.2 + 1)
def cpop (σ : CS) : CS:=(σ.1.dropLast,σ.2.1,σ.2.2 + 1)
def cstep (σ : CS) (s : List UInt8) (last : Bool) : CS :=
 if s≠[46]/\s≠[46,46] then capp s σ else
 if last then capp [] (if s = [46,46]/\σ.1≠[] then cpop σ else σ) else (if s = [46,46]/\σ.1≠[] then cpop σ else σ)
theorem cutF_lt {c : UInt8} {s : List UInt8} (h : (Ap c s).2.2 = true) : (Ap c s).2.1.length < s.length:=by
 obtain ⟨_,_,h3,h4⟩:=Iy h
 rw [h3,List.length_drop]; omega
def W5 (σ : CS) (rest : List UInt8) : CS :=
 if _h : (Ap 47 rest).2.2 = true then W5 (cstep σ (Ap 47 rest).1 false) (Ap 47 rest).2.1 else cstep σ (Ap 47 rest).1 true
 termination_by rest.length
decreasing_by exact cutF_lt _h
structure SgJ (k : CS) (rest : List UInt8) (st : List (List UInt8)) (nl : Bool) (g n : Int) (f : Nat->List SV) (m : Nat) : Prop where
 m : m = rest.length
 row : Cc f n st
 k : k = W5 (st,nl,g) rest
 len : st.length + rest.length<=50000
end Go.Proofs.YtdoogdbjiijifaaGreatDoor
namespace Go.Proofs.YtdoogdbjiijifaaGreatDoor
open Go Go.Sx Go.RowKit
set_option maxRecDepth 100000
set_option maxHeartbeats 2000000
end Go.Proofs.YtdoogdbjiijifaaGreatDoor
namespace Go.Proofs.YtdoogdbjiijifaaGreatDoor
open Go Go.Sx
set_option maxRecDepth 100000
set_option maxHeartbeats 40000000
def cleanF (s : List UInt8) : List UInt8×Int :=
 if (L0 s).2.2.2≠0 then ([],(L0 s).2.2.2) else
 ([47] ++ Lib.join (W5 ([],true,0) ((normL (L0 s).1 0).drop 1)).1 [47] ++ (if (L0 s).2.2.1 then [63] ++ normL (L0 s).2.1 0 else []),0)
structure CBound (p q : List UInt8) : Prop where
 p1 : 1<=p.length
 p : p.length<=500
 q : q.length<=500
structure EqI (a b : Int) : Prop where
 h : a = b
end Go.Proofs.YtdoogdbjiijifaaGreatDoor
namespace Go.Proofs.YtdoogdbjiijifaaGreatDoor
open Go Go.Sx
set_option maxRecDepth 100000
set_option maxHeartbeats 2000000
structure Rq where
 id : Int
 method : List UInt8
 target : List UInt8
 host : List UInt8
 fields : List HF
 body : List UInt8
structure RqOk (r : Rq) (nl : Bool) (n : Int) (f : Nat->List SV) : Prop where
 id1 : -9223372036854775808<=r.id
 id2 : r.id<=9223372036854775807
 method : r.method.length<=9223372036854775807
 target : r.target.length<=9223372036854775807
 host : r.host.length<=9223372036854775807
 body : r.body.length<=9223372036854775807
 row : Bx f n r.fields
 nil : nl = true->r.fields = []
def Yz : List UInt8:=[72,111,115,116]
def Ah7 : List UInt8:=[88,45,82,101,113,117,101,115,116,45,73,100]
def sCL : List UInt8:=[67,111,110,116,101,110,116,45,76,101,110,103,116,104]
def sPost : List UInt8:=[80,79,83,84]
def sPut : List UInt8:=[80,85,84]
def sPatch : List UInt8:=[80,65,84,67,72]
def Sd : List UInt8:=[67,79,78,78,69,67,84]
def sId : List UInt8:=[105,100]
def Adt : List UInt8:=[109,101,116,104,111,100]
def sTarget : List UInt8:=[116,97,114,103,101,116]
def sHostP : List UInt8:=[104,111,115,116]
def sFields : List UInt8:=[102,105,101,108,100,115]
def sBody : List UInt8:=[98,111,100,121]
def Gd (r : Rq) : Bool:=((r.body != [] || r.method == sPost) || r.method == sPut) || r.method == sPatch
def A0 (r : Rq) : List HF×Int :=
 if (Ru r.fields).2≠0 then ([],(Ru r.fields).2) else
 (([⟨Yz,r.host⟩,⟨Ah7,Lib.itoa r.id⟩] ++ (Ru r.fields).1) ++ (if Gd r then [⟨sCL,Lib.itoa r.body.length⟩] else []),0)
theorem Bx.app {f g f' : Nat->List SV} {n m n' : Int} {a b : List HF} (R : Bx f n a) (S : Bx g m b) (h : Ht f' n' n m f g) (hl : a.length + b.length<=9223372036854775807) : Bx f' n' (a ++ b):=by
 have hn:=R.n; have hm:=S.n
 refine ⟨by rw [h.len,hn,hm,List.length_append]; omega,fun i hi=>?_,by rw [List.length_append]; exact hl,fun i hi=>?_⟩
 ·rw [List.length_append] at hi
  rw [List.getD_eq_getElem?_getD,List.getElem?_append]
  split
  ·rename_i h1
   rw [h.lo i (by omega),R.f i h1,List.getD_eq_getElem?_getD]
  ·rename_i h1
   rw [h.hi i (i - a.length) (by omega) (by omega),S.f _ (by omega),List.getD_eq_getElem?_getD]
 ·rw [List.length_append] at hi
  rw [List.getD_eq_getElem?_getD,List.getElem?_append]
  split
  ·rename_i h1
   have:=R.small i h1
   rwa [List.getD_eq_getElem?_getD] at this
  ·rename_i h1
   have:=S.small (i - a.length) (by omega)
   rwa [List.getD_eq_getElem?_getD] at this
theorem Bx.one {f : Nat->List SV} {x : HF} (h : f 0 = Ee x) (hs : x.small) : Bx f 1 [x]:=by
 refine ⟨rfl,fun i hi=>?_,by simp,fun i hi=>?_⟩
 ·have : i = 0:=by simpa using hi
  subst this; exact h
 ·have : i = 0:=by simpa using hi
  subst this; exact hs
theorem Bx.two {f : Nat->List SV} {x y : HF} (h : f 0 = Ee x) (h1 : f 1 = Ee y) (hs : x.small) (hs1 : y.small) : Bx f 2 [x,y]:=by
 refine ⟨rfl,fun i hi=>?_,by simp,fun i hi=>?_⟩
 ·match i,hi with
  | 0,_=>exact h
  | 1,_=>exact h1
 ·match i,hi with
  | 0,_=>exact hs
  | 1,_=>exact hs1
theorem Lp (l : List HF) (h : l.length<=9223372036854775807) (hs : ∀ i,i < l.length->(l.getD i default).small) : ∃ g n,Bx g n l:=⟨_,_,Bx.row h hs⟩
end Go.Proofs.YtdoogdbjiijifaaGreatDoor
namespace Go.Proofs.YtdoogdbjiijifaaGreatDoor
open Go Go.Sx
set_option maxRecDepth 100000
set_option maxHeartbeats 8000000
structure Fr where
 hosts : List (List UInt8)
 ids : List (List UInt8)
 lens : List (List UInt8)
 coded : Bool
 rest : List HF
def Ki : List UInt8:=[104,111,115,116]
def nId : List UInt8:=[120,45,114,101,113,117,101,115,116,45,105,100]
def nLen : List UInt8:=[99,111,110,116,101,110,116,45,108,101,110,103,116,104]
def nTE : List UInt8:=[116,114,97,110,115,102,101,114,45,101,110,99,111,100,105,110,103]
def Tq (r : Fr) (x : HF) : Fr :=
 if foldF x.name = Ki then { r with hosts:=r.hosts ++ [x.value] } else
 if foldF x.name = nId then { r with ids:=r.ids ++ [x.value] } else
 if foldF x.name = nLen then { r with lens:=r.lens ++ [x.value] } else
 if foldF x.name = nTE then { r with coded:=true } else { r with rest:=r.rest ++ [x] }
def H8 (l : List HF) : Fr:=l.foldl Tq ⟨[],[],[],false,[]⟩
structure GrS (f : Nat->List SV) (n : Int) (nl : Bool) (l : List (List UInt8)) : Prop where
 row : Cc f n l
 nl : nl = l.isEmpty
structure GrH (f : Nat->List SV) (n : Int) (nl : Bool) (l : List HF) : Prop where
 row : Bx f n l
 nl : nl = l.isEmpty
structure FrV (r : Fr) (f1 f2 f3 f4 : Nat->List SV) (n1 n2 n3 n4 : Int) (b1 b2 b3 b4 : Bool) : Prop where
 g1 : GrS f1 n1 b1 r.hosts
 g2 : GrS f2 n2 b2 r.ids
 g3 : GrS f3 n3 b3 r.lens
 g4 : GrH f4 n4 b4 r.rest
structure FrJ (l : List HF) (k r : Fr) (f1 f2 f3 f4 : Nat->List SV) (n1 n2 n3 n4 : Int) (b1 b2 b3 b4 : Bool) (i : Nat) (I : Int) (m : Nat) : Prop where
 lie : AtR l i I m
 v : FrV r f1 f2 f3 f4 n1 n2 n3 n4 b1 b2 b3 b4
 k : k = (l.drop i).foldl Tq r
 len : r.hosts.length + r.ids.length + r.lens.length + r.rest.length<=i
theorem Q9 : Bx (fun _=>[]) 0 []:=⟨rfl,fun i hi=>absurd hi (by simp),by simp,fun i hi=>absurd hi (by simp)⟩
theorem GrS.nil : GrS (fun _=>[]) 0 true []:=⟨Cc.nil,rfl⟩
theorem GrH.nil : GrH (fun _=>[]) 0 true []:=⟨Q9,rfl⟩
theorem GrS.more {f f' g : Nat->List SV} {n n' : Int} {nl nl' : Bool} {l : List (List UInt8)} {x : List UInt8} (G : GrS f n nl l) (hg : g 0 = [.str x]) (h : Ht f' n' n 1 f g) (hl : l.length<=100) (hb : nl' = false) : GrS f' n' nl' (l ++ [x]):=⟨G.row.more hg h (by omega),by rw [hb]; simp⟩
theorem GrH.more {f f' g : Nat->List SV} {n n' : Int} {nl nl' : Bool} {l : List HF} {x : HF} (G : GrH f n nl l) (hg : g 0 = Ee x) (hs : x.small) (h : Ht f' n' n 1 f g) (hl : l.length<=100) (hb : nl' = false) : GrH f' n' nl' (l ++ [x]) :=
 ⟨G.row.app (Bx.one hg hs) h (by simp only [List.length_cons,List.length_nil]; omega),by rw [hb]; simp⟩
theorem Aeh {f f2 : Nat->List SV} {n n2 : Int} {b b2 : Bool} {l : List (List UInt8)} {x : BT} {y : ST} (G : GrS f n b l) (G2 : GrS f2 n2 b2 l) (hx : x.den = b:=by rfl) (hy : y.den = n:=by rfl) : LeV (.sl x y 1 f) (.sl (.a b2) (.a n2) 1 f2):=by
 refine LeV.sl (by rw [hx,G.nl,G2.nl.symm]; rfl) (by rw [hy,G.row.n,G2.row.n.symm]; rfl) fun i hi=>?_
 rw [hy] at hi
 have:=G.row.n
 rw [G.row.f i (by omega),G2.row.f i (by omega)]
theorem Aji {f f2 : Nat->List SV} {n n2 : Int} {b b2 : Bool} {l : List HF} {x : BT} {y : ST} (G : GrH f n b l) (G2 : GrH f2 n2 b2 l) (hx : x.den = b:=by rfl) (hy : y.den = n:=by rfl) : LeV (.sl x y 2 f) (.sl (.a b2) (.a n2) 2 f2):=by
 refine LeV.sl (by rw [hx,G.nl,G2.nl.symm]; rfl) (by rw [hy,G.row.n,G2.row.n.symm]; rfl) fun i hi=>?_
 rw [hy] at hi
 have:=G.row.n
 rw [G.row.f i (by omega),G2.row.f i (by omega)]
end Go.Proofs.YtdoogdbjiijifaaGreatDoor
namespace Go.Proofs.YtdoogdbjiijifaaGreatDoor
open Go Go.Sx Go.RowKit
set_option maxRecDepth 100000
set_option maxHeartbeats 4000000
def spIdxRow : FSpec:=fun _ xs ls K=>∃ (t : List UInt8) (nl : Bool) (n c : Int) (f : Nat->List SV),xs = [.sl (.a nl) (.a n) 1 f,.int .u8 (.a c)]/\ls = []/\A7 f n t/\c = 10/\∀ r,r = Lib.indexByte t 10->K (.int .i64 (.a r)) []
theorem Aa7 (t : List UInt8) : Lib.bytesOf (t.map fun c=>(c.toNat : Int)) = t:=by
 unfold Lib.bytesOf
 rw [List.map_map]
 conv=>rhs; rw [<-List.map_id t]
 refine List.map_congr_left fun c _=>?_
 simp [Function.comp]
theorem Vz : A2 Tryz.prog gl 53 spIdxRow:=by
 refine ⟨⟨Tryz.f53,_,Tryz.func53,rfl,by kernel_rfl⟩,fun xs ls K h=>?_⟩
 obtain ⟨t,nl,n,c,f,rfl,rfl,R,rfl,h⟩:=h
 refine ⟨_,_,h _ rfl,Bn fun E B w vals _ _ _ hr=>?_⟩
 obtain ⟨v,u,rfl,hv,hu⟩:=D3 hr
 rw [Ady hu]
 rcases (Rel.sl_inv hv).sl_inv with ⟨rfl,hn,_⟩ | ⟨a,m,cap,g,rfl,_,hn,hc,hcm,hs,hl,h1,hcell,hrel⟩
 ·have ht : t = []:=by
   have:=R.n
   have hn : n = 0:=hn
   exact List.length_eq_zero_iff.1 (by omega)
  subst ht
  refine (I6 10 w).mono ?_
  rintro e w' ⟨rfl,rfl⟩
  exact ⟨_,rfl,fun E=>.ro (.int rfl),Below.refl _ _⟩
 ·have hm : t.length = m:=by
   have:=R.n
   have hn : n = (m : Int):=hn
   omega
  have hh : ∀ i,i < m->w.cell? (a.add i) = some (.int .u8 ((t.map fun c=>(c.toNat : Int)).getD i 0)):=by
   intro i hi
   have e1:=(hcell i 0 hi (by omega)).1
   have e2:=hrel i 0 (.int .u8 (.a ((t.getD i 0).toNat : Int))) hi (by rw [R.f i (by omega)]; rfl)
   have e3 : g i 0 = .int .u8 ((t.getD i 0).toNat : Int):=by
    generalize g i 0 = v at e2
    cases e2 with
    | int h=>rw [<-h]; rfl
   have e4 : a.add i = ⟨a.block,a.off + (i * 1 + 0),none⟩:=by
    have:=hs (by omega)
    cases a; simp only at this; subst this; simp [Addr.add]
   rw [e4,e1,e3]
   have hi' : i < t.length:=by omega
   simp [List.getD_eq_getElem?_getD,List.getElem?_eq_getElem hi']
  refine (Any.bytes_IndexByte_at Sb a m cap _ 10 w (by simpa using hm) hh).mono ?_
  rintro e w' ⟨rfl,rfl⟩
  rw [Aa7]
  exact ⟨_,rfl,fun E=>.ro (.int rfl),Below.refl _ _⟩
end Go.Proofs.YtdoogdbjiijifaaGreatDoor
namespace Go.Proofs.YtdoogdbjiijifaaGreatDoor
open Go Go.Sx
set_option maxRecDepth 100000
set_option maxHeartbeats 16000000
def hpG (b : List UInt8) : Nat->Nat->List HF->List HF×Int×Int
 | 0,_,_=>([],0,0)
 | m + 1,p,r =>
  if (decide (Lib.indexByte (b.drop p) 10 < 0) && decide (8192 < b.length)) || decide (8192<=(p : Int) + Lib.indexByte (b.drop p) 10) then ([],0,3) else
  if Lib.indexByte (b.drop p) 10 < 0 then ([],0,10) else
  if (!Lib.hasSuffix ((b.drop p).take (Lib.indexByte (b.drop p) 10).toNat) [13]) || decide (0<=Lib.indexByte (Lib.trimSuffix ((b.drop p).take (Lib.indexByte (b.drop p) 10).toNat) [13]) 13) then ([],0,6) else
  if Lib.trimSuffix ((b.drop p).take (Lib.indexByte (b.drop p) 10).toNat) [13] = [] then (r,(p : Int) + Lib.indexByte (b.drop p) 10 + 1,0) else
  if (!(Ap 58 (Lib.trimSuffix ((b.drop p).take (Lib.indexByte (b.drop p) 10).toNat) [13])).2.2 || !Bj (Ap 58 (Lib.trimSuffix ((b.drop p).take (Lib.indexByte (b.drop p) 10).toNat) [13])).1) || !Ci (Ap 58 (Lib.trimSuffix ((b.drop p).take (Lib.indexByte (b.drop p) 10).toNat) [13])).2.1 then ([],0,6) else
  if decide (2000 < (trimF (Ap 58 (Lib.trimSuffix ((b.drop p).take (Lib.indexByte (b.drop p) 10).toNat) [13])).2.1).length) || decide (r.length = 100) then ([],0,3) else
  hpG b m (p + (Lib.indexByte (b.drop p) 10).toNat + 1) (r ++ [⟨(Ap 58 (Lib.trimSuffix ((b.drop p).take (Lib.indexByte (b.drop p) 10).toNat) [13])).1,trimF (Ap 58 (Lib.trimSuffix ((b.drop p).take (Lib.indexByte (b.drop p) 10).toNat) [13])).2.1⟩])
def Ax (b : List UInt8) : List HF×Int×Int:=hpG b (b.length + 1) 0 []
def spHParse : FSpec:=fun _ xs ls K=>∃ (b : List UInt8) (nl : Bool) (n : Int) (f : Nat->List SV),xs = [.sl (.a nl) (.a n) 1 f]/\ls = []/\A7 f n b/\b.length<=1000000/\
 ∀ l f1 n1 b1 k e,(l,k,e) = Ax b->GrH f1 n1 b1 l->K (.tup [.sl (.a b1) (.a n1) 2 f1,.int .i64 (.a k),.int .i64 (.a e)]) []
structure HpJ (b : List UInt8) (k : List HF×Int×Int) (p : Nat) (P : Int) (m : Nat) (r : List HF) (f1 : Nat->List SV) (n1 : Int) (b1 : Bool) : Prop where
 eP : P = p
 le : p<=b.length
 le2 : p<=8192
 lt : b.length - p < m
 k : k = hpG b m p r
 G : GrH f1 n1 b1 r
 len : r.length<=100
def hpJ (b : List UInt8) (k : List HF×Int×Int) (nl : Bool) (n : Int) (f : Nat->List SV) (m : Nat) (vs : List (Option SV)) (hp : List Hl) : Prop :=
 ∃ (p : Nat) (P : Int) (r : List HF) (f1 : Nat->List SV) (n1 : Int) (b1 : Bool),vs = [some (.sl (.a nl) (.a n) 1 f),some (.gsl (.a b1) (.a n1) 2 f1 0),some (.int .i64 (.a P))]/\hp = [.tail 100 (.a n1) 2]/\HpJ b k p P m r f1 n1 b1
theorem Lb {s : List UInt8} {c : UInt8} : -1<=Lib.indexByte s c/\(0<=Lib.indexByte s c->Lib.indexByte s c < (s.length : Int)):=by
 cases h : (Ap c s).2.2 with
 | false=>have:=(Rg h).2.2; rw [this]; exact ⟨by omega,fun h=>by omega⟩
 | true=>obtain ⟨h1,_,_,h4⟩:=Iy h; rw [h1]; exact ⟨by omega,fun _=>by omega⟩
theorem It : ∀ (m p : Nat) (r : List HF) (b : List UInt8),b.length<=1000000->r.length<=100->(∀ x∈r,x.small)->(hpG b m p r).1.length<=100/\∀ x∈(hpG b m p r).1,x.small
 | 0,p,r,b,_,_,_=>⟨by simp [hpG],fun x hx=>by simp [hpG] at hx⟩
 | m + 1,p,r,b,hb,hr,hs=>by
  have h0 : ([] : List HF).length<=100/\∀ x∈([] : List HF),x.small:=⟨by simp,fun x hx=>by cases hx⟩
  unfold hpG
  split
  ·exact h0
  split
  ·exact h0
  split
  ·exact h0
  split
  ·exact ⟨hr,hs⟩
  split
  ·exact h0
  split
  ·exact h0
  rename_i h
  simp only [Bool.or_eq_true,decide_eq_true_eq,not_or] at h
  obtain ⟨h1,h2⟩:=h
  refine It m _ _ b hb (by rw [List.length_append]; simp only [List.length_cons,List.length_nil]; omega) fun x hx=>?_
  rcases List.mem_append.1 hx with hx | hx
  ·exact hs x hx
  ·have hx:=List.mem_singleton.1 hx
   subst hx
   refine ⟨?_,by show (trimF _).length<=_; omega⟩
   show (Ap 58 _).1.length<=_
   refine Nat.le_trans (Pf 58 _).1 ?_
   rw [Lib.trimSuffix]
   have e : ((b.drop p).take (Lib.indexByte (b.drop p) 10).toNat).length<=1000000:=by rw [List.length_take,List.length_drop]; omega
   split
   ·rw [List.length_take]; omega
   ·omega
structure HpE (e : Int) (t : List UInt8) : Prop where
 lo : -1<=e
 hi : 0<=e->e < (t.length : Int)
structure HpS (s : List UInt8) : Prop where
 len : s.length<=8192
theorem Tv {D : Dn} (hD : D = dn) {l l' : List HF} {f f1 : Nat->List SV} {n n1 k e : Int} {b b1 : Bool} {x : BT} {y z w : ST} (h : (l,k,e) = (l',z.den,w.den)) (G : GrH f n b l') (hG : GrH f1 n1 b1 l) (hx : x.den = b) (hy : y.den = n) :
  Fin (.tup [.sl (.a (D.b x)) (.a (D.i y)) 2 f,.int .i64 (.a (D.i z)),.int .i64 (.a (D.i w))]) (.tup [.sl (.a b1) (.a n1) 2 f1,.int .i64 (.a k),.int .i64 (.a e)]) [] []:=by
 subst hD
 simp only [Prod.mk.injEq] at h
 obtain ⟨rfl,rfl,rfl⟩:=h
 exact Gg (.tup (.cons (Aji G hG hx hy) (.cons (Al rfl) (.cons (Al rfl) .nil))))
theorem O8 : A2 Tryz.prog gl 58 spHParse:=by
 refine C9 (gh:=[(1,[.attach 5 100])]) mixed Dp (Af Vz (Af Wl (Af Akj (Af cut_ok (Af Ib (Af V7 (Af K6 Av))))))) Tryz.func58 (by kernel_rfl) (by kernel_rfl) ?_
 intro xs ls K h
 unfold spHParse at h
 obtain ⟨b,nl,n,f,rfl,rfl,R,hb,h⟩:=h
 obtain ⟨k,hk⟩ : ∃ k,k = Ax b:=⟨_,rfl⟩
 have hS:=It (b.length + 1) 0 [] b hb (by simp) (fun x hx=>by cases hx)
 have hk0 : k = hpG b (b.length + 1) 0 []:=hk
 rw [<-hk0] at hS
 obtain ⟨J,hJ⟩ : ∃ J,J = hpJ b k nl n f:=⟨_,rfl⟩
 obtain ⟨kl,kk,ke⟩:=k
 have hG : ∃ f1 n1 b1,GrH f1 n1 b1 kl:=⟨_,_,_,⟨Bx.row (by have:=hS.1; simp only at this; omega) (fun i hi=>hS.2 _ (by rw [List.getD_eq_getElem?_getD,List.getElem?_eq_getElem hi]; exact List.getElem_mem hi)),rfl⟩⟩
 obtain ⟨f1,n1,b1,hG⟩:=hG
 clear hS
 refine ⟨_,_,h kl f1 n1 b1 kk ke hk hG,fun D hD=>?_⟩
 cbv
 clear h
 refine ⟨[0,5,6],J,⟨rfl,b.length + 1,?_⟩,?_⟩
 ·rw [hJ]
  subst hD
  exact ⟨0,_,[],_,_,_,rfl,rfl,⟨rfl,by omega,by omega,by omega,hk0,GrH.nil,by simp⟩⟩
 clear hk hk0
 intro m vs hp hj
 rw [hJ] at hj
 obtain ⟨p,P,r,e1,m1,c1,rfl,rfl,V⟩:=hj
 have hP:=V.eP
 have hle:=V.le
 have hk:=V.k
 obtain ⟨m0,rfl⟩ : ∃ m0,m = m0 + 1:=⟨m - 1,by have:=V.lt; omega⟩
 rw [hpG,<-hP] at hk
 obtain ⟨t,ht⟩ : ∃ t,t = b.drop p:=⟨_,rfl⟩
 rw [<-ht] at hk
 have htl : t.length = b.length - p:=by rw [ht,List.length_drop]
 have VP : VI P p:=⟨hP⟩
 clear hP
 refine ⟨by subst hD; exact ⟨by show (0 : Int)<=P; rw [VP.h]; omega,by show P<=n; rw [VP.h,R.n]; omega,Int.le_refl _⟩,fun f2 n2 hsub=>?_⟩
 cbv
 have R2 : A7 f2 n2 t:=by
  have:=R.sub (a:=p) (b:=b.length) hsub (by subst hD; exact VP.h) (by subst hD; exact R.n) hle (Nat.le_refl _)
  rw [ht]
  have e : (b.drop p).take (b.length - p) = b.drop p:=List.take_of_length_le (by rw [List.length_drop]; exact Nat.le_refl _)
  rwa [e] at this
 clear hsub
 refine ⟨t,_,_,_,f2,rfl,rfl,by subst hD; exact R2,by subst hD; rfl,fun e he=>?_⟩
 cbv
 rw [<-he] at hk
 have hb1 : HpE e t:=by rw [he]; exact ⟨Lb.1,Lb.2⟩
 have hdn : decide (8192 < n) = decide (8192 < b.length):=by rw [decide_eq_decide,R.n]; omega
 refine br hD (fun h=>?_) (fun h=>?_)<;>cbv
 ·have h : (decide (e < 0) && decide (8192 < n)) = true:=h
  rw [hdn] at h
  rw [if_pos (by rw [h]; rfl)] at hk
  exact Tv hD hk GrH.nil hG rfl rfl
 have h1 : (decide (e < 0) && decide (8192 < b.length)) = false:=by
  have h : (decide (e < 0) && decide (8192 < n)) = false:=h
  rw [hdn] at h
  exact h
 rw [h1,Bool.false_or] at hk
 clear h
 have hw1 : IntKind.i64.wrap (P + e) = P + e:=by have:=VP.h; have:=hb1.lo; have:=hb1.hi; exact Bk (by omega) (by omega)
 refine br hD (fun h=>?_) (fun h=>?_)<;>cbv
 ·have h : decide (8192<=IntKind.i64.wrap (P + e)) = true:=h
  rw [hw1] at h
  rw [if_pos h] at hk
  exact Tv hD hk GrH.nil hG rfl rfl
 have h2 : ¬ 8192<=P + e:=by
  have h : decide (8192<=IntKind.i64.wrap (P + e)) = false:=h
  rw [hw1] at h
  simpa using h
 rw [if_neg (by simpa using h2)] at hk
 clear h
 refine br hD (fun h=>?_) (fun h=>?_)<;>cbv
 ·have h : decide (e < 0) = true:=h
  rw [if_pos (by simpa using h)] at hk
  exact Tv hD hk GrH.nil hG rfl rfl
 have h3 : ¬ e < 0:=by
  have h : decide (e < 0) = false:=h
  simpa using h
 rw [if_neg h3] at hk
 clear h
 obtain ⟨q,hq⟩ : ∃ q : Nat,q = e.toNat:=⟨_,rfl⟩
 rw [<-hq] at hk
 have VE : VI e q:=⟨by omega⟩
 have hql : q < t.length:=by have:=hb1.hi (by omega); have:=VE.h; omega
 have hpq : p + q < 8192:=by have:=VP.h; have:=VE.h; omega
 clear hq h1 h2 h3
 refine ⟨by subst hD; exact ⟨by show (0 : Int)<=P; rw [VP.h]; omega,by show P<=IntKind.i64.wrap (P + e); rw [hw1,VE.h]; omega,by show IntKind.i64.wrap (P + e)<=n; rw [hw1,VP.h,VE.h,R.n]; omega⟩,fun f3 n3 hsub=>?_⟩
 cbv
 have R3 : A7 f3 n3 (t.take q):=by
  have:=R.sub (a:=p) (b:=p + q) hsub (by subst hD; exact VP.h) (by subst hD; show IntKind.i64.wrap (P + e) = _; rw [hw1,VP.h,VE.h]; omega) (by omega) (by omega)
  rw [<-ht] at this
  have e : p + q - p = q:=by omega
  rwa [e] at this
 clear hsub
 refine ⟨by subst hD; exact R3.byte,fun s hs=>?_⟩
 cbv
 have hs : s = t.take q:=by subst hD; exact R3.str hs
 rw [<-hs] at hk
 have hsl : HpS s:=⟨by rw [hs,List.length_take]; omega⟩
 clear hs R3
 refine ⟨s,[13],rfl,rfl,by have:=hsl.len; omega,fun l is hl his=>?_⟩
 cbv
 rw [<-hl,<-his] at hk
 have hll : HpS l:=⟨by
  have:=hsl.len
  rw [hl,Lib.trimSuffix]
  split
  ·rw [List.length_take]; omega
  ·exact this⟩
 clear hl his hsl
 refine ⟨l,13,rfl,rfl,fun cc hcc=>?_⟩
 cbv
 rw [<-hcc] at hk
 clear hcc
 refine br hD (fun h=>?_) (fun h=>?_)<;>cbv
 ·have h : (!is || cc) = true:=h
  rw [if_pos h] at hk
  exact Tv hD hk GrH.nil hG rfl rfl
 have h : (!is || cc) = false:=h
 rw [if_neg (by rw [h]; simp)] at hk
 clear h
 have hw2 : IntKind.i64.wrap (P + IntKind.i64.wrap (e + 1)) = P + e + 1:=by
  have:=VP.h; have:=VE.h
  rw [Bk (n:=e + 1) (by omega) (by omega),Bk (by omega) (by omega)]; omega
 refine br hD (fun h=>?_) (fun h=>?_)<;>cbv
 ·have h1 : l = []:=by
   have h : (l == []) = true:=h
   exact eq_of_beq h
  rw [if_pos h1] at hk
  exact Tv hD (by rw [hk]; rw [<-hw2]; rfl) V.G hG rfl rfl
 have h1 : ¬ l = []:=by
  have h : (l == []) = false:=h
  intro e; rw [e] at h; simp at h
 rw [if_neg h1] at hk
 clear h h1
 obtain ⟨c,hc⟩ : ∃ c,c = Ap 58 l:=⟨_,rfl⟩
 rw [<-hc] at hk
 refine ⟨l,58,rfl,rfl,by have:=hll.len; omega,fun na va ok hc2=>?_⟩
 cbv
 rw [<-hc] at hc2
 subst hc2
 have hnl : HpS na:=⟨by have h:=(Pf 58 l).1; rw [<-hc] at h; exact Nat.le_trans h hll.len⟩
 have hvl : HpS va:=⟨by have h:=(Pf 58 l).2; rw [<-hc] at h; exact Nat.le_trans h hll.len⟩
 clear hc hll
 refine ⟨na,rfl,rfl,by have:=hnl.len; omega,fun tk htk=>?_⟩
 cbv
 rw [<-htk] at hk
 clear htk
 refine ⟨va,rfl,rfl,fun pl hpl=>?_⟩
 cbv
 simp only at hk
 rw [<-hpl] at hk
 clear hpl
 refine br hD (fun h=>?_) (fun h=>?_)<;>cbv
 ·have h : ((!ok || !tk) || !pl) = true:=h
  rw [if_pos h] at hk
  exact Tv hD hk GrH.nil hG rfl rfl
 have h : ((!ok || !tk) || !pl) = false:=h
 rw [if_neg (by rw [h]; simp)] at hk
 clear h
 refine ⟨va,[32,9],rfl,rfl,by have:=hvl.len; omega,by decide,by decide,fun v hv=>?_⟩
 cbv
 have hv : v = trimF va:=by rw [hv,Rm]
 rw [<-hv] at hk
 clear hv hvl
 have hm1 : m1 = (r.length : Int):=V.G.row.n
 have hd2 : decide (m1 = 100) = decide (r.length = 100):=by rw [decide_eq_decide,hm1]; omega
 refine br hD (fun h=>?_) (fun h=>?_)<;>cbv
 ·have h : (decide (2000 < (v.length : Int)) || (m1 == 100)) = true:=h
  have h : (decide (2000 < v.length) || decide (r.length = 100)) = true:=by
   rw [<-hd2]
   rcases Bool.or_eq_true_iff.1 h with h | h
   ·rw [decide_eq_true (by have:=of_decide_eq_true h; omega)]; rfl
   ·rw [decide_eq_true (eq_of_beq h)]; simp
  rw [if_pos h] at hk
  exact Tv hD hk GrH.nil hG rfl rfl
 have h : ¬ 2000 < v.length/\¬ r.length = 100:=by
  have h : (decide (2000 < (v.length : Int)) || (m1 == 100)) = false:=h
  rw [Bool.or_eq_false_iff] at h
  refine ⟨fun e=>?_,fun e=>?_⟩
  ·have:=of_decide_eq_false h.1; omega
  ·have h2:=h.2; rw [hm1,e] at h2; simp at h2
 obtain ⟨h4,h5⟩:=h
 rw [if_neg (by simp [h4,h5])] at hk
 have hvs : HpS v:=⟨by omega⟩
 clear h4 hd2 hm1
 intro g hg
 cbv
 have hg0 : g 0 = Ee ⟨na,v⟩:=hg.h 0 _ rfl
 clear hg
 have hN : m1 = (r.length : Int):=V.G.row.n
 have hrl:=V.len
 refine ⟨by subst hD; exact ⟨rfl,by show (m1 + 1) * 32<=_; omega,by show m1 + 1<=_; omega⟩,fun f' n' hm=>?_⟩
 cbv
 have G2 : ∀ nl',nl' = false->GrH f' n' nl' (r ++ [⟨na,v⟩]):=fun nl' hb=>V.G.more hg0 ⟨by have:=hnl.len; show na.length<=_; omega,by have:=hvs.len; show v.length<=_; omega⟩ (by subst hD; exact hm) (by omega) hb
 clear hm hN
 refine ⟨m0,Nat.lt_succ_self _,?_⟩
 rw [hJ]
 unfold hpJ
 subst hD
 exact ⟨p + q + 1,_,r ++ [⟨na,v⟩],f',n',(c1 && false),rfl,rfl,⟨by show IntKind.i64.wrap (P + IntKind.i64.wrap (e + 1)) = _; rw [hw2,VP.h,VE.h]; omega,by omega,by omega,by have:=V.lt; omega,hk,G2 _ (Bool.and_false _),by rw [List.length_append]; simp only [List.length_cons,List.length_nil]; omega⟩⟩
end Go.Proofs.YtdoogdbjiijifaaGreatDoor
namespace Go.Proofs.YtdoogdbjiijifaaGreatDoor
open Go Go.Sx
set_option maxRecDepth 100000
set_option maxHeartbeats 400000
def Ajd (t : List UInt8) (z : Int) : List UInt8×List UInt8×Int×Int :=
 if Rb true (Ap 32 t).2.2 (Ap 32 t).1 (Ap 32 t).2.1 (decide (0<=Lib.indexByte (Ap 32 t).2.1 32)) then ([],[],0,6) else ((Ap 32 t).1,(Ap 32 t).2.1,z,0)
def Aje (w : List UInt8) : List UInt8×List UInt8×Int×Int :=
 if Rb (Lib.hasSuffix (w ++ [10]) rVer) (Ap 32 (Lib.trimSuffix (w ++ [10]) rVer)).2.2 (Ap 32 (Lib.trimSuffix (w ++ [10]) rVer)).1 (Ap 32 (Lib.trimSuffix (w ++ [10]) rVer)).2.1 (decide (0<=Lib.indexByte (Ap 32 (Lib.trimSuffix (w ++ [10]) rVer)).2.1 32)) then ([],[],0,6) else
 ((Ap 32 (Lib.trimSuffix (w ++ [10]) rVer)).1,(Ap 32 (Lib.trimSuffix (w ++ [10]) rVer)).2.1,(w.length : Int) + 1,0)
theorem Y9 (b : List UInt8) : Cw b = if !(Ap 10 (b.take 1024)).2.2 && decide (b.length < 1024) then ([],[],0,10) else if !(Ap 10 (b.take 1024)).2.2 then ([],[],0,3) else Aje (Ap 10 (b.take 1024)).1:=rfl
def lnK (b : List UInt8) (i : Nat) : Prop:=Ap 10 (b.take 1024) = ((b.take 1024).take i ++ (Ap 10 ((b.take 1024).drop i)).1,(Ap 10 ((b.take 1024).drop i)).2)
theorem Ahu {s : List UInt8} (h2 : s.drop (s.length - 11) = rVer) : Lib.hasSuffix s rVer = true:=by
 unfold Lib.hasSuffix
 rw [List.isSuffixOf_iff_suffix]
 exact ⟨s.take (s.length - 11),by rw [<-h2]; exact List.take_append_drop _ s⟩
theorem Agf {w s : List UInt8} (e : s = w ++ [10]) (h2 : s.drop (s.length - 11) = rVer) : Aje w = Ajd (s.take (s.length - 11)) (s.length : Int):=by
 unfold Aje Ajd
 have h3:=Ahu h2
 have h4 : Lib.trimSuffix s rVer = s.take (s.length - 11):=by unfold Lib.trimSuffix; rw [if_pos h3]; rfl
 rw [<-e,h3,h4]
 have : ((w.length : Int) + 1) = (s.length : Int):=by rw [e]; simp
 rw [this]
def spK (t : List UInt8) (k : Nat) (p : Int) : Prop :=
 (p = -1/\Ap 32 t = (t.take k ++ (Ap 32 (t.drop k)).1,(Ap 32 (t.drop k)).2))\/
 (∃ q : Nat,p = q/\q < k/\Ap 32 t = (t.take q,t.drop (q + 1),true)/\∀ j,q + 1<=j->j < k->t.getD j 0≠32)
theorem Kq {s : List UInt8} {c : UInt8} (h : ∀ j,j < s.length->s.getD j 0≠c) : Lib.indexByte s c = -1:=by
 induction s with
 | nil=>rfl
 | cons b r ih =>
  unfold Lib.indexByte
  have h0:=h 0 (by simp)
  rw [if_neg (by simpa using h0),ih (fun j hj=>by have:=h (j + 1) (by simpa using hj); simpa using this)]
  rfl
end Go.Proofs.YtdoogdbjiijifaaGreatDoor
namespace Go.Proofs.YtdoogdbjiijifaaGreatDoor
open Go Go.Sx
set_option maxRecDepth 100000
set_option maxHeartbeats 4000000
end Go.Proofs.YtdoogdbjiijifaaGreatDoor
