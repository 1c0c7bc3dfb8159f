/- Part of the proofs of the statements about responses and messages (layers 9 and 10): a symbolic executor over the code, that it is sound, and contracts of functions; it has no conditions of its own. -/
import Derived.Shelf.Strconv.ErrVarParseInt
import Derived.Shelf.Strconv.ParseIntPublic10
import Derived.Shelf.Strings.SlTrimAscii
import Derived.Shelf.Strings.Builder1
import Derived.Shelf.Strings.Builder2
import Derived.Shelf.Strings.OnBuilder
import Derived.Shelf.Strings.Trim
import Derived.Shelf.Small.Utf8
import Derived.Shelf.Small.Strs
import Derived.Shelf.Small.Wraps
import Derived.Shelf.Strings.BuilderF
import Derived.Shelf.Strings.BuilderK
import Derived.Shelf.Strings.BuilderRune
import Derived.Shelf.Strings.Builder2Cap
import Derived.Shelf.Strconv.Atoi
import Derived.Shelf.Strconv.Itoa0
import Derived.Shelf.Strconv.Itoa1
import Derived.Shelf.LaysM
import Derived.Shelf.Strconv.Itoa2
import Derived.Shelf.Strconv.Itoa3
import Derived.Shelf.Strconv.Itoa4
import Derived.Shelf.Strconv.ParseIntEmpty
import Derived.Shelf.Strconv.Clone
import Derived.Shelf.Strconv.SyntaxError
import Derived.Shelf.LaysC
import Derived.Shelf.Strconv.ToError
import Derived.Shelf.Strconv.Lower
import Derived.Shelf.Strconv.ParseUint10
import Derived.Shelf.Strconv.ParseUint10Empty
import Derived.Shelf.Strconv.ParseUint10Any
import Derived.Shelf.Strconv.ParseInt10
import Derived.Shelf.Strconv.RangeError
import Derived.Shelf.Strconv.ToErrorRange
import Derived.Shelf.Strconv.ParseUintEmpty
import Derived.Shelf.Strconv.ParseUint10b64
import Derived.Shelf.Strconv.ParseUint10b32
import Derived.Shelf.Strconv.ParseUint10b16
import Derived.Shelf.Strconv.ParseUint10b8
import Derived.Shelf.Strconv.ParseUint10At
import Derived.Shelf.Strconv.ParseInt10At64
import Derived.Shelf.Strconv.ParseInt10At32
import Derived.Shelf.Strconv.ParseInt10At16
import Derived.Shelf.Strconv.ParseInt10At8
import Derived.Shelf.Strconv.ParseInt10All
import Derived.Shelf.Strings.Search1
import Derived.Shelf.Strings.Search2
import Derived.Shelf.Strings.Search3
import Derived.Shelf.Strings.Cut
import Derived.Shelf.Strings.Shaped
import Derived.Shelf.GgClosure.StringsIndexFunc
import Derived.Ground.GgwProg
import Derived.Shelf.GgClosure.StringsIndexFuncTop
import Derived.Shelf.Strings.Prefix
import Derived.Shelf.Unicode.Latin
import Derived.Shelf.Unicode.Decode
import Derived.Shelf.Strings.Runes
import Derived.Shelf.Strings.AsciiSet
import Derived.Shelf.Unicode.DecodeSlow
import Derived.Shelf.Unicode.DecodeAny
import Derived.Shelf.Unicode.DecodeLast
import Derived.Shelf.Unicode.CaseLookup
import Derived.Shelf.Unicode.CaseConvert
import Derived.Shelf.Unicode.CaseTo
import Derived.Shelf.Unicode.CaseLaid
import Derived.Shelf.Strings.FuncGrows
import Derived.Shelf.Strings.BuilderCap
import Derived.Shelf.Bytes.SlIndexAt
import Derived.Ground.SlgnProg
import Derived.Shelf.SlicesE.Equal
import Derived.Ground.SlgfProg
import Derived.Shelf.SlicesE.IndexFunc
import Derived.Shelf.SlicesE.DeleteFunc
import Derived.Shelf.Bytes.IndexByte
import Derived.Test.YtdoogdbjiijifaaGreatDoorE4Paw
namespace Go.Proofs.YtdoogdbjiijifaaGreatDoor
open Go.Sx
set_option maxRecDepth 10000
set_option maxHeartbeats 2000000
def Cj (p : Int->Bool) (y : Int) : List UInt8->Nat->List UInt8->Option (List (List UInt8))
 | [],md,cur=>if md = 0 then some [cur] else none
 | c :: r,md,cur =>
  if !p (c.toNat : Int) then none
  else if md = 0 then
   (if (c.toNat : Int) = 34 then Cj p y r 1 (cur ++ [c])
    else if (c.toNat : Int) = y then (Cj p y r 0 []).map (cur :: ·)
    else Cj p y r 0 (cur ++ [c]))
  else if md = 1 then
   (if (c.toNat : Int) = 34 then Cj p y r 0 (cur ++ [c])
    else if (c.toNat : Int) = 92 then Cj p y r 2 (cur ++ [c])
    else Cj p y r 1 (cur ++ [c]))
  else Cj p y r 1 (cur ++ [c])
theorem Sr (p : Int->Bool) (y : Int) : ∀ (n : Nat) (r cur : List UInt8),r.length<=n->Cj p y r 1 cur = match qdF p r with
  | none=>none
  | some x=>Cj p y (r.drop x.1) 0 (cur ++ r.take x.1)
 | n,[],cur,_=>by simp [Cj,qdF]
 | 0,c :: r,cur,h=>by simp at h
 | n + 1,c :: r,cur,h=>by
  simp only [List.length_cons] at h
  rw [D5]
  simp only [Cj]
  by_cases h1 : p (c.toNat : Int) = true
  ·rw [h1]
   simp only [Bool.not_true,Bool.false_eq_true,if_false,if_true,Nat.one_ne_zero]
   by_cases h2 : (c.toNat : Int) = 34
   ·simp only [if_pos h2,List.drop_succ_cons,List.drop_zero,List.take_succ_cons,List.take_zero]
   ·simp only [if_neg h2]
    by_cases h3 : (c.toNat : Int) = 92
    ·simp only [if_pos h3]
     cases r with
     | nil=>simp [Cj]
     | cons d r' =>
      simp only [Cj]
      by_cases h4 : p (d.toNat : Int) = true
      ·rw [h4]
       simp only [Bool.not_true,Bool.false_eq_true,if_false,(by decide : ¬ (2 : Nat) = 0),(by decide : ¬ (2 : Nat) = 1)]
       rw [Sr p y n r' _ (by simp at h; omega)]
       cases qdF p r' with
       | none=>rfl
       | some x=>simp
      ·have h4 : p (d.toNat : Int) = false:=by simpa using h4
       rw [h4]; simp
    ·simp only [if_neg h3]
     rw [Sr p y n r _ (by omega)]
     cases qdF p r with
     | none=>rfl
     | some x=>simp
  ·have h1 : p (c.toNat : Int) = false:=by simpa using h1
   rw [h1]; simp
def cut (s : List UInt8) (a b : Nat) : List UInt8:=(s.drop a).take (b - a)
theorem Aay {s : List UInt8} {a i : Nat} (h : i < s.length) (ha : a<=i) : cut s a i ++ [s.getD i 0] = cut s a (i + 1):=by
 unfold cut
 rw [show i + 1 - a = (i - a) + 1 by omega,List.take_add_one]
 congr 1
 rw [List.getElem?_drop,show a + (i - a) = i by omega,List.getElem?_eq_getElem h,Lc h]; rfl
theorem cut_app {s : List UInt8} {a i n : Nat} (ha : a<=i) : cut s a i ++ (s.drop i).take n = cut s a (i + n):=by
 unfold cut
 rw [show i + n - a = (i - a) + n by omega,List.take_add,List.drop_drop,show a + (i - a) = i by omega]
theorem Aaz {s : List UInt8} {a : Nat} : cut s a a = []:=by simp [cut]
theorem cut_all {s : List UInt8} {a : Nat} : cut s a s.length = s.drop a:=by
 unfold cut; exact List.take_of_length_le (by simp)
def pAt (y : Int) (s : List UInt8) (out : List (List UInt8)) (a i : Nat) : Option (List (List UInt8)):=(Cj Cv y (s.drop i) 0 (cut s a i)).map (out ++ ·)
theorem pAt_bad {y : Int} {s : List UInt8} {out : List (List UInt8)} {a i : Nat} (h : i < s.length) (hb : Cv (charI s i) = false) : pAt y s out a i = none:=by
 unfold charI at hb
 rw [pAt,Cl h,Cj,hb]; rfl
theorem pAt_sep {y : Int} {s : List UInt8} {out : List (List UInt8)} {a i : Nat} (h : i < s.length) (hb : Cv (charI s i) = true) (h34 : charI s i≠34) (hy : charI s i = y) : pAt y s out a i = pAt y s (out ++ [cut s a i]) (i + 1) (i + 1):=by
 unfold charI at hb h34 hy
 rw [pAt,pAt,Cl h,Cj,hb,Aaz]
 simp only [Bool.not_true,Bool.false_eq_true,if_false,if_true,if_neg h34,if_pos hy]
 cases Cj Cv y (s.drop (i + 1)) 0 []<;>simp
theorem Ait {y : Int} {s : List UInt8} {out : List (List UInt8)} {a i : Nat} (h : i < s.length) (ha : a<=i) (hb : Cv (charI s i) = true) (h34 : charI s i≠34) (hy : charI s i≠y) : pAt y s out a i = pAt y s out a (i + 1):=by
 have e:=Aay h ha
 unfold charI at hb h34 hy
 rw [pAt,pAt,Cl h,Cj,hb]
 simp only [Bool.not_true,Bool.false_eq_true,if_false,if_true,if_neg h34,if_neg hy]
 rw [e]
theorem Af2 {y : Int} {s : List UInt8} {out : List (List UInt8)} {a i : Nat} (h : i < s.length) (ha : a<=i) (hb : Cv (charI s i) = true) (h34 : charI s i = 34) : pAt y s out a i = match qdF Cv (s.drop (i + 1)) with
  | none=>none
  | some x=>pAt y s out a (i + 1 + x.1):=by
 have e:=Aay h ha
 unfold charI at hb h34
 rw [pAt,Cl h,Cj,hb]
 simp only [Bool.not_true,Bool.false_eq_true,if_false,if_true,if_pos h34]
 rw [e,Sr Cv y _ _ _ (Nat.le_refl _)]
 cases qdF Cv (s.drop (i + 1)) with
 | none=>rfl
 | some x =>
  simp only [pAt]
  rw [List.drop_drop,cut_app (by omega)]
theorem pAt_end {y : Int} {s : List UInt8} {out : List (List UInt8)} {a i : Nat} (h : i = s.length) : pAt y s out a i = some (out ++ [s.drop a]):=by
 rw [pAt,h,List.drop_length,cut_all]; rfl
theorem M4 {p : Int->Bool} : ∀ (n : Nat) (r : List UInt8) (x : Nat×List UInt8),r.length<=n->qdF p r = some x->0 < x.1/\x.1<=r.length
 | n,[],x,_,h=>by simp [qdF] at h
 | 0,c :: r,x,hl,h=>by simp at hl
 | n + 1,c :: r,x,hl,h=>by
  simp only [List.length_cons] at hl ⊢
  rw [D5] at h
  split at h
  ·cases h
  split at h
  ·cases h; exact ⟨by omega,by simp⟩
  split at h
  ·cases r with
   | nil=>cases h
   | cons d r' =>
    simp only at h
    split at h
    ·cases h
    ·obtain ⟨z,hz,rfl⟩:=Option.map_eq_some_iff.1 h
     have:=M4 n r' z (by simp at hl; omega) hz
     simp only [List.length_cons]
     omega
  ·obtain ⟨z,hz,rfl⟩:=Option.map_eq_some_iff.1 h
   have:=M4 n r z (by omega) hz
   omega
theorem Cc.more {f f' g : Nat->List SV} {n n' : Int} {a : List (List UInt8)} {x : List UInt8} (R : Cc f n a) (hg : g 0 = [.str x]) (h : Ht f' n' n 1 f g) (hl : a.length < 9223372036854775807) : Cc f' n' (a ++ [x]):=by
 have h1:=R.n
 refine ⟨by rw [h.len,h1]; simp,fun i hi=>?_,by simp; omega⟩
 simp only [List.length_append,List.length_singleton] at hi
 by_cases e : i < a.length
 ·rw [h.lo i (by omega),R.f i e,List.getD_eq_getElem?_getD,List.getD_eq_getElem?_getD,List.getElem?_append_left e]
 ·have : i = a.length:=by omega
  subst this
  rw [h.hi a.length 0 (by rw [h1]; simp) (by simp),hg]
  simp
theorem Cc.nil : Cc (fun _=>[]) 0 []:=⟨rfl,by simp,by simp⟩
def Fa (l : List (List UInt8)) (i : Nat) : List SV:=[.str (l.getD i [])]
theorem Cc.row {l : List (List UInt8)} (h : l.length<=9223372036854775807) : Cc (Fa l) l.length l:=⟨rfl,fun _ _=>rfl,h⟩
structure PaI (s : List UInt8) (out : List (List UInt8)) (a i : Nat) (A I : Int) (m : Nat) : Prop where
 at_ : At s i I m
 ale : a<=i
 A : ST.den (.a A) = (a : Int)
 out : out.length<=i
 s : s.length<=100000
def L7 (y : Int) (s : List UInt8) : Option (List (List UInt8)):=Cj Cv y s 0 []
end Go.Proofs.YtdoogdbjiijifaaGreatDoor
namespace Go.Proofs.YtdoogdbjiijifaaGreatDoor
open Go.Sx
set_option maxRecDepth 10000
set_option maxHeartbeats 2000000
theorem L6 (p : Int->Bool) (y : Int) : ∀ (r : List UInt8) (md : Nat) (cur : List UInt8) (l : List (List UInt8)),Cj p y r md cur = some l->l.length<=r.length + 1/\0 < l.length/\∀ x∈l,x.length<=cur.length + r.length
 | [],md,cur,l,h=>by
  simp only [Cj] at h
  split at h
  ·cases h; simp
  ·cases h
 | c :: r,md,cur,l,h=>by
  have push : ∀ md',Cj p y r md' (cur ++ [c]) = some l->l.length<=(c :: r).length + 1/\0 < l.length/\∀ x∈l,x.length<=cur.length + (c :: r).length:=by
   intro md' h
   obtain ⟨h1,h2,h3⟩:=L6 p y r md' _ l h
   refine ⟨by simp; omega,h2,fun x hx=>?_⟩
   have:=h3 x hx
   simp at this ⊢; omega
  simp only [Cj] at h
  split at h
  ·cases h
  split at h
  ·split at h
   ·exact push _ h
   ·split at h
    ·obtain ⟨l',h',rfl⟩:=Option.map_eq_some_iff.1 h
     obtain ⟨h1,h2,h3⟩:=L6 p y r 0 [] l' h'
     refine ⟨by simp; omega,by simp,fun x hx=>?_⟩
     rcases List.mem_cons.1 hx with rfl | hx
     ·simp
     ·have:=h3 x hx; simp at this ⊢; omega
    ·exact push _ h
  ·split at h
   ·split at h
    ·exact push _ h
    ·split at h
     ·exact push _ h
     ·exact push _ h
   ·exact push _ h
theorem Ss {y : Int} {s : List UInt8} {l : List (List UInt8)} (h : L7 y s = some l) : l.length<=s.length + 1/\0 < l.length/\∀ x∈l,x.length<=s.length:=by
 have:=L6 _ _ _ _ _ _ h
 simpa using this
theorem Lu {p : UInt8->Bool} (s : List UInt8) : (s.dropWhile p).length<=s.length:=by
 induction s with
 | nil=>simp
 | cons c r ih =>
  rw [List.dropWhile_cons]
  split
  ·simp; omega
  ·simp
theorem Afj (s : List UInt8) : (trimF s).length<=s.length:=by
 unfold trimF Mv Jo
 rw [List.length_reverse]
 refine Nat.le_trans (Lu _) ?_
 rw [List.length_reverse]
 exact Lu _
def neB (x : List UInt8) : Bool:=!(x == [])
def P9 (l : List (List UInt8)) : List (List UInt8):=(l.map trimF).filter neB
def Bb (s : List UInt8) : List (List UInt8)×Int :=
 if 2000 < (s.length : Int) then ([],3) else match L7 44 s with
  | none=>([],6)
  | some l=>(P9 l,0)
theorem Fe (s : List UInt8) : (Bb s).1.length<=2001/\∀ x∈(Bb s).1,x.length<=2000:=by
 unfold Bb
 split
 ·simp
 ·rename_i h
  cases hp : L7 44 s with
  | none=>simp
  | some l =>
   obtain ⟨h1,h2,h3⟩:=Ss hp
   have h4 : (P9 l).length<=l.length:=by
    unfold P9
    refine Nat.le_trans (List.length_filter_le _ _) (by simp)
   refine ⟨by show (P9 l).length<=_; omega,fun x hx=>?_⟩
   have hx : x∈P9 l:=hx
   unfold P9 at hx
   obtain ⟨z,hz,rfl⟩:=List.mem_map.1 (List.mem_filter.1 hx).1
   have:=Afj z
   have:=h3 z hz
   omega
def Adq (F : List UInt8->List (List UInt8)×Int) (N : List UInt8->Bool) : FSpec:=fun _ xs ls K=>∃ (s : List UInt8),xs = [.str s]/\ls = []/\s.length<=9223372036854775807/\∀ l e n nb,(l,e) = F s->n = (l.length : Int)->nb = N s->K (.tup [.sl (.a nb) (.a n) 1 (Fa l),.int .i64 (.a e)]) []
theorem Aj4 {D : Dn} (hD : D = dn) {l l' : List (List UInt8)} {ke kn e' : Int} {knb : Bool} {kr f : Nat->List SV} (hk : (l,ke) = (l',e')) (hkn : kn = (l.length : Int)) (hkr : kr = Fa l)
  {n : Int} (R : Cc f n l') {x : BT} {y z : ST} (hy : y.den = n) (hx : x.den = knb) (hz : z.den = e') : Fin (.tup [.sl (.a (D.b x)) (.a (D.i y)) 1 f,.int .i64 (.a (D.i z))]) (.tup [.sl (.a knb) (.a kn) 1 kr,.int .i64 (.a ke)]) [] []:=by
 subst hD
 simp only [Prod.mk.injEq] at hk
 obtain ⟨rfl,rfl⟩:=hk
 refine Gg (.tup (.cons (.sl hx ?_ ?_) (.cons (Al hz) .nil)))
 ·rw [hkn]; show y.den = _; rw [hy]; exact R.n
 ·intro i hi
  have hi : (i : Int) < y.den:=hi
  rw [R.f i (by have:=R.n; omega),hkr]; rfl
structure ElI (l out : List (List UInt8)) (i : Nat) (I : Int) (nl : Bool) (m : Nat) : Prop where
 at_ : AtR l i I m
 ol : out.length<=i
 nl : nl = out.isEmpty
 ll : l.length<=100001
 el : ∀ x∈l,x.length<=9223372036854775807
end Go.Proofs.YtdoogdbjiijifaaGreatDoor
namespace Go.Proofs.YtdoogdbjiijifaaGreatDoor
open Go.Sx
set_option maxRecDepth 100000
set_option maxHeartbeats 2000000
theorem Ajk : ∀ n : Fin 256,Jr (n.1 : Int) = Cv (n.1 : Int)/\(Dc (n.1 : Int) == 3) = letterI (n.1 : Int):=by decide
theorem R8 (c : UInt8) : Jr (c.toNat : Int) = Cv (c.toNat : Int):=(Ajk ⟨c.toNat,c.toNat_lt⟩).1
theorem Ok {p q : Int->Bool} (h : ∀ c : UInt8,p (c.toNat : Int) = q (c.toNat : Int)) : ∀ (n : Nat) (r : List UInt8),r.length<=n->qdF p r = qdF q r
 | _,[],_=>rfl
 | 0,c :: r,hl=>by simp at hl
 | n + 1,c :: r,hl=>by
  simp only [List.length_cons] at hl
  rw [D5,D5,h c,Ok h n r (by omega)]
  cases r with
  | nil=>rfl
  | cons d r' =>
   simp only
   rw [h d,Ok h n r' (by simp at hl; omega)]
theorem Aig (r : List UInt8) : qdF Jr r = qdF Cv r:=Ok R8 _ r (Nat.le_refl _)
end Go.Proofs.YtdoogdbjiijifaaGreatDoor
namespace Go.Proofs.YtdoogdbjiijifaaGreatDoor
open Go.Sx
set_option maxRecDepth 100000
set_option maxHeartbeats 2000000
structure UqL (s : List UInt8) (i : Nat) (u : List UInt8) : Prop where
 h : qdF Cv (s.drop i) = some (s.length - i,u)
theorem UqL.lt {s u : List UInt8} {i : Nat} (h : UqL s i u) : i < s.length:=by
 have:=M4 _ _ _ (Nat.le_refl _) h.h
 rw [List.length_drop] at this
 simp only at this
 omega
theorem UqL.plain {s u : List UInt8} {i : Nat} (h : UqL s i u) : Cv (charI s i) = true:=by
 cases hb : Cv (charI s i) with
 | true=>rfl
 | false=>have:=h.h; rw [Ad3 h.lt hb] at this; cases this
theorem UqL.esc {s u : List UInt8} {i : Nat} (h : UqL s i u) (h92 : charI s i = 92) : i + 2 < s.length/\∃ u',u = s.getD (i + 1) 0 :: u'/\UqL s (i + 2) u':=by
 have h1:=h.h
 by_cases h2 : i + 1 < s.length/\Cv (charI s (i + 1)) = true
 ·rw [Ad2 h.lt h.plain h92 h2.1 h2.2] at h1
  obtain ⟨x,hx,hx2⟩:=Option.map_eq_some_iff.1 h1
  simp only [Prod.mk.injEq] at hx2
  have hl:=M4 _ _ _ (Nat.le_refl _) hx
  rw [List.length_drop] at hl
  have e : x = (s.length - (i + 2),x.2):=Prod.ext (by simp only; omega) rfl
  exact ⟨by omega,x.2,hx2.2.symm,⟨by rw [hx,<-e]⟩⟩
 ·rw [Sp h.lt h.plain h92 h2] at h1; cases h1
theorem UqL.more {s u : List UInt8} {i : Nat} (h : UqL s i u) (hi : i + 1 < s.length) (h92 : charI s i≠92) : ∃ u',u = s.getD i 0 :: u'/\UqL s (i + 1) u':=by
 have h1:=h.h
 by_cases h34 : charI s i = 34
 ·rw [Vl h.lt h.plain h34] at h1
  simp only [Option.some.injEq,Prod.mk.injEq] at h1
  omega
 ·rw [Zc h.lt h.plain h34 h92] at h1
  obtain ⟨x,hx,hx2⟩:=Option.map_eq_some_iff.1 h1
  simp only [Prod.mk.injEq] at hx2
  have e : x = (s.length - (i + 1),x.2):=Prod.ext (by simp only; omega) rfl
  exact ⟨x.2,hx2.2.symm,⟨by rw [hx,<-e]⟩⟩
end Go.Proofs.YtdoogdbjiijifaaGreatDoor
namespace Go.Proofs.YtdoogdbjiijifaaGreatDoor
open Go.Sx
set_option maxRecDepth 10000
set_option maxHeartbeats 2000000
structure QwI (s t : List UInt8) (i : Nat) (I L : Int) (m : Nat) : Prop where
 at_ : At s i I m
 L : L = s.length
 t : t.length<=2 * i + 1
 s : s.length<=500
end Go.Proofs.YtdoogdbjiijifaaGreatDoor
namespace Go.Proofs.YtdoogdbjiijifaaGreatDoor
open Go.Sx
set_option maxRecDepth 10000
set_option maxHeartbeats 2000000
structure UwI (s t u : List UInt8) (i : Nat) (I : Int) (m : Nat) : Prop where
 at_ : At s i I m
 u : UqL s i u
 t : t.length<=i
 s : s.length<=100000
end Go.Proofs.YtdoogdbjiijifaaGreatDoor
namespace Go.Proofs.YtdoogdbjiijifaaGreatDoor
open Go.Sx
set_option maxRecDepth 10000
set_option maxHeartbeats 2000000
structure IxS (l : List (List UInt8)) (i : Nat) (I L : Int) (m : Nat) : Prop where
 at_ : AtR l i I m
 L : L = l.length
end Go.Proofs.YtdoogdbjiijifaaGreatDoor
namespace Go.Proofs.YtdoogdbjiijifaaGreatDoor
open Go Go.Shelf Go.RowKit Go.Sort Go.Lib
set_option maxRecDepth 100000
set_option maxHeartbeats 4000000
def sh_lays159_ren : Go.Shelf.Ren:=⟨fun | 159=>195 | 165=>247 | 166=>142 | 167=>248 | 169=>143 | 230=>249 | 204=>250 | 240=>196 | 241=>282 | 197=>220 | 118=>283 | 168=>284 | 270=>285 | 262=>286 | 276=>251 | 277=>304 | 260=>267 | 242=>305 | 313=>306 | 278=>311 | 274=>312 | 275=>313 | n=>n,fun | 9=>9 | 4=>4 | 3=>3 | 5=>5 | 72=>180 | 0=>0 | 76=>158 | 75=>157 | 107=>258 | 70=>178 | 20=>20 | 37=>22 | 127=>225 | 21=>21 | 105=>233 | 164=>259 | 162=>313 | 203=>311 | 119=>261 | 46=>278 | 139=>301 | 138=>300 | 51=>285 | 160=>320 | 208=>326 | 206=>324 | 80=>181 | n=>n,fun | 13=>7 | 3=>5 | 4=>6 | n=>n⟩
theorem Abx : Go.Proofs.Lays.n159 Tryz.prog sh_lays159_ren:={
 mixed:=by kernel_rfl
 f118:=Tryz.func283.trans (congrArg some (by kernel_rfl))
 f159:=Tryz.func195.trans (congrArg some (by kernel_rfl))
 f165:=Tryz.func247.trans (congrArg some (by kernel_rfl))
 f166:=Tryz.func142.trans (congrArg some (by kernel_rfl))
 f167:=Tryz.func248.trans (congrArg some (by kernel_rfl))
 f168:=Tryz.func284.trans (congrArg some (by kernel_rfl))
 f169:=Tryz.func143.trans (congrArg some (by kernel_rfl))
 f197:=Tryz.func220.trans (congrArg some (by kernel_rfl))
 f204:=Tryz.func250.trans (congrArg some (by kernel_rfl))
 f230:=Tryz.func249.trans (congrArg some (by kernel_rfl))
 f240:=Tryz.func196.trans (congrArg some (by kernel_rfl))
 f241:=Tryz.func282.trans (congrArg some (by kernel_rfl))
 f242:=Tryz.func305.trans (congrArg some (by kernel_rfl))
 f260:=Tryz.func267.trans (congrArg some (by kernel_rfl))
 f262:=Tryz.func286.trans (congrArg some (by kernel_rfl))
 f270:=Tryz.func285.trans (congrArg some (by kernel_rfl))
 f274:=Tryz.func312.trans (congrArg some (by kernel_rfl))
 f275:=Tryz.func313.trans (congrArg some (by kernel_rfl))
 f276:=Tryz.func251.trans (congrArg some (by kernel_rfl))
 f277:=Tryz.func304.trans (congrArg some (by kernel_rfl))
 f278:=Tryz.func311.trans (congrArg some (by kernel_rfl))
 f313:=Tryz.func306.trans (congrArg some (by kernel_rfl))
 t0:=Tryz.underlying0
 a0:=Tryz.isAgg0
 z0:=Tryz.sizeOf0
 v0:=Tryz.zeroValue0
 t3:=Tryz.underlying3
 a3:=Tryz.isAgg3
 z3:=Tryz.sizeOf3
 v3:=Tryz.zeroValue3
 t4:=Tryz.underlying4
 a4:=Tryz.isAgg4
 z4:=Tryz.sizeOf4
 v4:=Tryz.zeroValue4
 t5:=Tryz.underlying5
 a5:=Tryz.isAgg5
 z5:=Tryz.sizeOf5
 v5:=Tryz.zeroValue5
 t9:=Tryz.underlying9
 a9:=Tryz.isAgg9
 z9:=Tryz.sizeOf9
 v9:=Tryz.zeroValue9
 t20:=Tryz.underlying20
 a20:=Tryz.isAgg20
 z20:=Tryz.sizeOf20
 v20:=Tryz.zeroValue20
 t21:=Tryz.underlying21
 a21:=Tryz.isAgg21
 z21:=Tryz.sizeOf21
 v21:=Tryz.zeroValue21
 t37:=Tryz.underlying22
 a37:=Tryz.isAgg22
 z37:=Tryz.sizeOf22
 v37:=Tryz.zeroValue22
 t46:=Tryz.underlying278
 a46:=Tryz.isAgg278
 z46:=Tryz.sizeOf278
 v46:=Tryz.zeroValue278
 t51:=Tryz.underlying285
 a51:=Tryz.isAgg285
 z51:=Tryz.sizeOf285
 v51:=Tryz.zeroValue285
 t70:=Tryz.underlying178
 a70:=Tryz.isAgg178
 z70:=Tryz.sizeOf178
 v70:=Tryz.zeroValue178
 t72:=Tryz.underlying180
 a72:=Tryz.isAgg180
 z72:=Tryz.sizeOf180
 v72:=Tryz.zeroValue180
 t75:=Tryz.underlying157
 a75:=Tryz.isAgg157
 z75:=Tryz.sizeOf157
 v75:=Tryz.zeroValue157
 t76:=Tryz.underlying158
 a76:=Tryz.isAgg158
 z76:=Tryz.sizeOf158
 v76:=Tryz.zeroValue158
 t105:=Tryz.underlying233
 a105:=Tryz.isAgg233
 z105:=Tryz.sizeOf233
 v105:=Tryz.zeroValue233
 t107:=Tryz.underlying258
 a107:=Tryz.isAgg258
 z107:=Tryz.sizeOf258
 v107:=Tryz.zeroValue258
 t119:=Tryz.underlying261
 a119:=Tryz.isAgg261
 z119:=Tryz.sizeOf261
 t127:=Tryz.underlying225
 a127:=Tryz.isAgg225
 z127:=Tryz.sizeOf225
 v127:=Tryz.zeroValue225
 t138:=Tryz.underlying300
 a138:=Tryz.isAgg300
 z138:=Tryz.sizeOf300
 v138:=Tryz.zeroValue300
 t139:=Tryz.underlying301
 a139:=Tryz.isAgg301
 z139:=Tryz.sizeOf301
 v139:=Tryz.zeroValue301
 t160:=Tryz.underlying320
 a160:=Tryz.isAgg320
 z160:=Tryz.sizeOf320
 v160:=Tryz.zeroValue320
 t162:=Tryz.underlying313
 a162:=Tryz.isAgg313
 z162:=Tryz.sizeOf313
 v162:=Tryz.zeroValue313
 t164:=Tryz.underlying259
 a164:=Tryz.isAgg259
 z164:=Tryz.sizeOf259
 v164:=Tryz.zeroValue259
 t203:=Tryz.underlying311
 a203:=Tryz.isAgg311
 z203:=Tryz.sizeOf311
 v203:=Tryz.zeroValue311
 t206:=Tryz.underlying324
 a206:=Tryz.isAgg324
 z206:=Tryz.sizeOf324
 v206:=Tryz.zeroValue324
 t208:=Tryz.underlying326
 a208:=Tryz.isAgg326
 z208:=Tryz.sizeOf326
 v208:=Tryz.zeroValue326
 g3:=by kernel_rfl
 g4:=by kernel_rfl
 g13:=by kernel_rfl }
theorem Kc : Builder.Extra Tryz.prog sh_lays159_ren:={
 sizeBuilder:=by kernel_rfl
 liesBuilder:=by kernel_rfl
 t5:=Tryz.underlying5
 a5:=Tryz.isAgg5
 z5:=Tryz.sizeOf5
 v5:=Tryz.zeroValue5
 infoByte:=by kernel_rfl
 cellsByte:=by kernel_rfl
 sizeByte:=by kernel_rfl
 neB5:=by decide }
theorem Hz (s : ByteArray) (w : World) (hs : s.size<=140737488355328) (hascii : ∀ (j : Nat) (b : UInt8),s.data.toList[j]? = some b->b.toNat < 128) :
  Calls Tryz.prog 195 #[.string s] w fun e w'=>e = .returned (.string ⟨(Lib.toLowerA s.data.toList).toArray⟩)/\Below w.heap.size w w':=Any.strings_ToLower_ascii Abx Kc s w hs hascii
def sh_lays160_ren : Go.Shelf.Ren:=⟨fun | 160=>116 | 232=>160 | 231=>159 | 227=>161 | 234=>163 | 233=>162 | 236=>165 | 235=>164 | 228=>219 | 271=>222 | 151=>221 | 197=>220 | 120=>269 | 152=>268 | 260=>267 | 137=>239 | 119=>297 | 224=>275 | 225=>274 | 217=>273 | 266=>300 | n=>n,fun | 9=>9 | 4=>4 | 3=>3 | 5=>5 | 117=>199 | 116=>198 | 0=>0 | 124=>202 | 21=>21 | 105=>233 | 46=>278 | 119=>261 | 139=>301 | 138=>300 | n=>n,fun | 3=>5 | 4=>6 | n=>n⟩
theorem Abw : Go.Proofs.Lays.n160 Tryz.prog sh_lays160_ren:={
 mixed:=by kernel_rfl
 f119:=Tryz.func297.trans (congrArg some (by kernel_rfl))
 f120:=Tryz.func269.trans (congrArg some (by kernel_rfl))
 f137:=Tryz.func239.trans (congrArg some (by kernel_rfl))
 f151:=Tryz.func221.trans (congrArg some (by kernel_rfl))
 f152:=Tryz.func268.trans (congrArg some (by kernel_rfl))
 f160:=Tryz.func116.trans (congrArg some (by kernel_rfl))
 f197:=Tryz.func220.trans (congrArg some (by kernel_rfl))
 f217:=Tryz.func273.trans (congrArg some (by kernel_rfl))
 f224:=Tryz.func275.trans (congrArg some (by kernel_rfl))
 f225:=Tryz.func274.trans (congrArg some (by kernel_rfl))
 f227:=Tryz.func161.trans (congrArg some (by kernel_rfl))
 f228:=Tryz.func219.trans (congrArg some (by kernel_rfl))
 f231:=Tryz.func159.trans (congrArg some (by kernel_rfl))
 f232:=Tryz.func160.trans (congrArg some (by kernel_rfl))
 f233:=Tryz.func162.trans (congrArg some (by kernel_rfl))
 f234:=Tryz.func163.trans (congrArg some (by kernel_rfl))
 f235:=Tryz.func164.trans (congrArg some (by kernel_rfl))
 f236:=Tryz.func165.trans (congrArg some (by kernel_rfl))
 f260:=Tryz.func267.trans (congrArg some (by kernel_rfl))
 f266:=Tryz.func300.trans (congrArg some (by kernel_rfl))
 f271:=Tryz.func222.trans (congrArg some (by kernel_rfl))
 t0:=Tryz.underlying0
 a0:=Tryz.isAgg0
 z0:=Tryz.sizeOf0
 v0:=Tryz.zeroValue0
 t3:=Tryz.underlying3
 a3:=Tryz.isAgg3
 z3:=Tryz.sizeOf3
 v3:=Tryz.zeroValue3
 t4:=Tryz.underlying4
 a4:=Tryz.isAgg4
 z4:=Tryz.sizeOf4
 v4:=Tryz.zeroValue4
 t5:=Tryz.underlying5
 a5:=Tryz.isAgg5
 z5:=Tryz.sizeOf5
 v5:=Tryz.zeroValue5
 t9:=Tryz.underlying9
 a9:=Tryz.isAgg9
 z9:=Tryz.sizeOf9
 v9:=Tryz.zeroValue9
 t21:=Tryz.underlying21
 a21:=Tryz.isAgg21
 z21:=Tryz.sizeOf21
 v21:=Tryz.zeroValue21
 t46:=Tryz.underlying278
 a46:=Tryz.isAgg278
 z46:=Tryz.sizeOf278
 v46:=Tryz.zeroValue278
 t105:=Tryz.underlying233
 a105:=Tryz.isAgg233
 z105:=Tryz.sizeOf233
 v105:=Tryz.zeroValue233
 t116:=Tryz.underlying198
 a116:=Tryz.isAgg198
 z116:=Tryz.sizeOf198
 t117:=Tryz.underlying199
 a117:=Tryz.isAgg199
 z117:=Tryz.sizeOf199
 v117:=Tryz.zeroValue199
 t119:=Tryz.underlying261
 a119:=Tryz.isAgg261
 z119:=Tryz.sizeOf261
 t124:=Tryz.underlying202
 a124:=Tryz.isAgg202
 z124:=Tryz.sizeOf202
 v124:=Tryz.zeroValue202
 t138:=Tryz.underlying300
 a138:=Tryz.isAgg300
 z138:=Tryz.sizeOf300
 v138:=Tryz.zeroValue300
 t139:=Tryz.underlying301
 a139:=Tryz.isAgg301
 z139:=Tryz.sizeOf301
 v139:=Tryz.zeroValue301
 g3:=by kernel_rfl
 g4:=by kernel_rfl }
def sh_lays137_ren : Go.Shelf.Ren:=⟨fun | 137=>239 | 217=>273 | 266=>300 | n=>n,fun | 9=>9 | 5=>5 | 3=>3 | n=>n,fun | n=>n⟩
theorem Abz : Go.Proofs.Lays.n137 Tryz.prog sh_lays137_ren:={
 mixed:=by kernel_rfl
 f137:=Tryz.func239.trans (congrArg some (by kernel_rfl))
 f217:=Tryz.func273.trans (congrArg some (by kernel_rfl))
 f266:=Tryz.func300.trans (congrArg some (by kernel_rfl))
 t3:=Tryz.underlying3
 a3:=Tryz.isAgg3
 z3:=Tryz.sizeOf3
 v3:=Tryz.zeroValue3
 t5:=Tryz.underlying5
 a5:=Tryz.isAgg5
 z5:=Tryz.sizeOf5
 v5:=Tryz.zeroValue5
 t9:=Tryz.underlying9
 a9:=Tryz.isAgg9
 z9:=Tryz.sizeOf9
 v9:=Tryz.zeroValue9 }
theorem J8 (s : ByteArray) (c : Int) (w : World) :
  Calls Tryz.prog 239 #[.string s,.int .u8 c] w fun e w'=>e = .returned (.int .i64 (Lib.indexByte s.data.toList c.toNat.toUInt8))/\w' = w:=Any.strings_IndexByte Abz s c w
def sh_lays103_ren : Go.Shelf.Ren:=⟨fun | 103=>55 | 210=>113 | 206=>157 | n=>n,fun | 9=>9 | 4=>4 | 24=>95 | 3=>3 | n=>n,fun | n=>n⟩
theorem Ab1 : Go.Proofs.Lays.n103 Tryz.prog sh_lays103_ren:={
 mixed:=by kernel_rfl
 f103:=Tryz.func55.trans (congrArg some (by kernel_rfl))
 f206:=Tryz.func157.trans (congrArg some (by kernel_rfl))
 f210:=Tryz.func113.trans (congrArg some (by kernel_rfl))
 t3:=Tryz.underlying3
 a3:=Tryz.isAgg3
 z3:=Tryz.sizeOf3
 v3:=Tryz.zeroValue3
 t4:=Tryz.underlying4
 a4:=Tryz.isAgg4
 z4:=Tryz.sizeOf4
 v4:=Tryz.zeroValue4
 t9:=Tryz.underlying9
 a9:=Tryz.isAgg9
 z9:=Tryz.sizeOf9
 v9:=Tryz.zeroValue9
 t24:=Tryz.underlying95
 a24:=Tryz.isAgg95
 z24:=Tryz.sizeOf95
 v24:=Tryz.zeroValue95 }
theorem Ka (s p : ByteArray) (w : World) :
  Calls Tryz.prog 55 #[.string s,.string p] w fun e w'=>e = .returned (.tuple #[.string ⟨(Lib.trimPrefix s.data.toList p.data.toList).toArray⟩,.bool (Lib.hasPrefix s.data.toList p.data.toList)])/\w' = w:=Any.strings_CutPrefix Ab1 s p w
def sh_lays104_ren : Go.Shelf.Ren:=⟨fun | 104=>54 | 211=>112 | 207=>156 | n=>n,fun | 9=>9 | 4=>4 | 24=>95 | 3=>3 | n=>n,fun | n=>n⟩
theorem Ab0 : Go.Proofs.Lays.n104 Tryz.prog sh_lays104_ren:={
 mixed:=by kernel_rfl
 f104:=Tryz.func54.trans (congrArg some (by kernel_rfl))
 f207:=Tryz.func156.trans (congrArg some (by kernel_rfl))
 f211:=Tryz.func112.trans (congrArg some (by kernel_rfl))
 t3:=Tryz.underlying3
 a3:=Tryz.isAgg3
 z3:=Tryz.sizeOf3
 v3:=Tryz.zeroValue3
 t4:=Tryz.underlying4
 a4:=Tryz.isAgg4
 z4:=Tryz.sizeOf4
 v4:=Tryz.zeroValue4
 t9:=Tryz.underlying9
 a9:=Tryz.isAgg9
 z9:=Tryz.sizeOf9
 v9:=Tryz.zeroValue9
 t24:=Tryz.underlying95
 a24:=Tryz.isAgg95
 z24:=Tryz.sizeOf95
 v24:=Tryz.zeroValue95 }
theorem J9 (s p : ByteArray) (w : World) (hs : s.size<=9223372036854775807) :
  Calls Tryz.prog 54 #[.string s,.string p] w fun e w'=>e = .returned (.tuple #[.string ⟨(Lib.trimSuffix s.data.toList p.data.toList).toArray⟩,.bool (Lib.hasSuffix s.data.toList p.data.toList)])/\w' = w:=Any.strings_CutSuffix Ab0 s p w hs
def sh_lays172_ren : Go.Shelf.Ren:=⟨fun | 172=>117 | 244=>166 | 245=>167 | 247=>223 | 279=>224 | 280=>225 | 281=>226 | 282=>227 | 287=>270 | 316=>271 | 171=>83 | 205=>272 | 321=>298 | 322=>299 | 243=>139 | 246=>191 | 283=>241 | 284=>242 | 285=>243 | 286=>244 | 129=>278 | 317=>277 | 318=>279 | 319=>280 | 320=>281 | 337=>302 | 338=>303 | n=>n,fun | 9=>9 | 3=>3 | 75=>157 | 76=>158 | 4=>4 | 5=>5 | 167=>236 | 37=>22 | 0=>0 | 85=>237 | 2=>2 | 168=>239 | 53=>249 | 175=>276 | 46=>278 | 210=>280 | 127=>225 | 145=>305 | 143=>303 | 21=>21 | 171=>248 | 173=>252 | 212=>284 | 51=>285 | 20=>20 | 213=>286 | 232=>318 | 233=>319 | 80=>181 | n=>n,fun | 15=>2 | 16=>3 | 17=>4 | 18=>8 | 19=>9 | n=>n⟩
theorem Abv : Go.Proofs.Lays.n172 Tryz.prog sh_lays172_ren:={
 mixed:=by kernel_rfl
 f129:=Tryz.func278.trans (congrArg some (by kernel_rfl))
 f171:=Tryz.func83.trans (congrArg some (by kernel_rfl))
 f172:=Tryz.func117.trans (congrArg some (by kernel_rfl))
 f205:=Tryz.func272.trans (congrArg some (by kernel_rfl))
 f243:=Tryz.func139.trans (congrArg some (by kernel_rfl))
 f244:=Tryz.func166.trans (congrArg some (by kernel_rfl))
 f245:=Tryz.func167.trans (congrArg some (by kernel_rfl))
 f246:=Tryz.func191.trans (congrArg some (by kernel_rfl))
 f247:=Tryz.func223.trans (congrArg some (by kernel_rfl))
 f279:=Tryz.func224.trans (congrArg some (by kernel_rfl))
 f280:=Tryz.func225.trans (congrArg some (by kernel_rfl))
 f281:=Tryz.func226.trans (congrArg some (by kernel_rfl))
 f282:=Tryz.func227.trans (congrArg some (by kernel_rfl))
 f283:=Tryz.func241.trans (congrArg some (by kernel_rfl))
 f284:=Tryz.func242.trans (congrArg some (by kernel_rfl))
 f285:=Tryz.func243.trans (congrArg some (by kernel_rfl))
 f286:=Tryz.func244.trans (congrArg some (by kernel_rfl))
 f287:=Tryz.func270.trans (congrArg some (by kernel_rfl))
 f316:=Tryz.func271.trans (congrArg some (by kernel_rfl))
 f317:=Tryz.func277.trans (congrArg some (by kernel_rfl))
 f318:=Tryz.func279.trans (congrArg some (by kernel_rfl))
 f319:=Tryz.func280.trans (congrArg some (by kernel_rfl))
 f320:=Tryz.func281.trans (congrArg some (by kernel_rfl))
 f321:=Tryz.func298.trans (congrArg some (by kernel_rfl))
 f322:=Tryz.func299.trans (congrArg some (by kernel_rfl))
 f337:=Tryz.func302.trans (congrArg some (by kernel_rfl))
 f338:=Tryz.func303.trans (congrArg some (by kernel_rfl))
 t0:=Tryz.underlying0
 a0:=Tryz.isAgg0
 z0:=Tryz.sizeOf0
 v0:=Tryz.zeroValue0
 t2:=Tryz.underlying2
 a2:=Tryz.isAgg2
 z2:=Tryz.sizeOf2
 v2:=Tryz.zeroValue2
 t3:=Tryz.underlying3
 a3:=Tryz.isAgg3
 z3:=Tryz.sizeOf3
 v3:=Tryz.zeroValue3
 t4:=Tryz.underlying4
 a4:=Tryz.isAgg4
 z4:=Tryz.sizeOf4
 v4:=Tryz.zeroValue4
 t5:=Tryz.underlying5
 a5:=Tryz.isAgg5
 z5:=Tryz.sizeOf5
 v5:=Tryz.zeroValue5
 t9:=Tryz.underlying9
 a9:=Tryz.isAgg9
 z9:=Tryz.sizeOf9
 v9:=Tryz.zeroValue9
 t20:=Tryz.underlying20
 a20:=Tryz.isAgg20
 z20:=Tryz.sizeOf20
 v20:=Tryz.zeroValue20
 t21:=Tryz.underlying21
 a21:=Tryz.isAgg21
 z21:=Tryz.sizeOf21
 v21:=Tryz.zeroValue21
 t37:=Tryz.underlying22
 a37:=Tryz.isAgg22
 z37:=Tryz.sizeOf22
 v37:=Tryz.zeroValue22
 t46:=Tryz.underlying278
 a46:=Tryz.isAgg278
 z46:=Tryz.sizeOf278
 v46:=Tryz.zeroValue278
 t51:=Tryz.underlying285
 a51:=Tryz.isAgg285
 z51:=Tryz.sizeOf285
 v51:=Tryz.zeroValue285
 t53:=Tryz.underlying249
 a53:=Tryz.isAgg249
 z53:=Tryz.sizeOf249
 v53:=Tryz.zeroValue249
 t75:=Tryz.underlying157
 a75:=Tryz.isAgg157
 z75:=Tryz.sizeOf157
 v75:=Tryz.zeroValue157
 t76:=Tryz.underlying158
 a76:=Tryz.isAgg158
 z76:=Tryz.sizeOf158
 v76:=Tryz.zeroValue158
 t85:=Tryz.underlying237
 a85:=Tryz.isAgg237
 z85:=Tryz.sizeOf237
 v85:=Tryz.zeroValue237
 t127:=Tryz.underlying225
 a127:=Tryz.isAgg225
 z127:=Tryz.sizeOf225
 v127:=Tryz.zeroValue225
 t143:=Tryz.underlying303
 a143:=Tryz.isAgg303
 z143:=Tryz.sizeOf303
 v143:=Tryz.zeroValue303
 t145:=Tryz.underlying305
 a145:=Tryz.isAgg305
 z145:=Tryz.sizeOf305
 v145:=Tryz.zeroValue305
 t167:=Tryz.underlying236
 a167:=Tryz.isAgg236
 z167:=Tryz.sizeOf236
 v167:=Tryz.zeroValue236
 t168:=Tryz.underlying239
 a168:=Tryz.isAgg239
 z168:=Tryz.sizeOf239
 v168:=Tryz.zeroValue239
 t171:=Tryz.underlying248
 a171:=Tryz.isAgg248
 z171:=Tryz.sizeOf248
 v171:=Tryz.zeroValue248
 t173:=Tryz.underlying252
 a173:=Tryz.isAgg252
 z173:=Tryz.sizeOf252
 v173:=Tryz.zeroValue252
 t175:=Tryz.underlying276
 a175:=Tryz.isAgg276
 z175:=Tryz.sizeOf276
 v175:=Tryz.zeroValue276
 t210:=Tryz.underlying280
 a210:=Tryz.isAgg280
 z210:=Tryz.sizeOf280
 v210:=Tryz.zeroValue280
 t212:=Tryz.underlying284
 a212:=Tryz.isAgg284
 z212:=Tryz.sizeOf284
 v212:=Tryz.zeroValue284
 t213:=Tryz.underlying286
 a213:=Tryz.isAgg286
 z213:=Tryz.sizeOf286
 t232:=Tryz.underlying318
 a232:=Tryz.isAgg318
 z232:=Tryz.sizeOf318
 v232:=Tryz.zeroValue318
 t233:=Tryz.underlying319
 a233:=Tryz.isAgg319
 z233:=Tryz.sizeOf319
 v233:=Tryz.zeroValue319
 g15:=by kernel_rfl
 g16:=by kernel_rfl
 g17:=by kernel_rfl
 g18:=by kernel_rfl
 g19:=by kernel_rfl }
theorem Qo (s : ByteArray) (n : Int) (hl : s.size<=18) (h : Lib.atoi s.data.toList = some n) (w : World) :
  Calls Tryz.prog 117 #[.string s] w fun e w'=>e = .returned (.tuple #[.int .i64 n,.nilIface])/\∃ t,w' = Lib.bytesWorld w 5 t:=Any.strconv_Atoi Abv s n hl h w
def sh_lays219_ren : Go.Shelf.Ren:=⟨fun | 219=>228 | 217=>273 | 225=>274 | 224=>275 | 267=>276 | 266=>300 | 314=>301 | n=>n,fun | 9=>9 | 3=>3 | 4=>4 | 5=>5 | 46=>278 | 146=>306 | 51=>285 | n=>n,fun | 1=>0 | n=>n⟩
theorem Abu : Go.Proofs.Lays.n219 Tryz.prog sh_lays219_ren:={
 mixed:=by kernel_rfl
 f217:=Tryz.func273.trans (congrArg some (by kernel_rfl))
 f219:=Tryz.func228.trans (congrArg some (by kernel_rfl))
 f224:=Tryz.func275.trans (congrArg some (by kernel_rfl))
 f225:=Tryz.func274.trans (congrArg some (by kernel_rfl))
 f266:=Tryz.func300.trans (congrArg some (by kernel_rfl))
 f267:=Tryz.func276.trans (congrArg some (by kernel_rfl))
 f314:=Tryz.func301.trans (congrArg some (by kernel_rfl))
 t3:=Tryz.underlying3
 a3:=Tryz.isAgg3
 z3:=Tryz.sizeOf3
 v3:=Tryz.zeroValue3
 t4:=Tryz.underlying4
 a4:=Tryz.isAgg4
 z4:=Tryz.sizeOf4
 v4:=Tryz.zeroValue4
 t5:=Tryz.underlying5
 a5:=Tryz.isAgg5
 z5:=Tryz.sizeOf5
 v5:=Tryz.zeroValue5
 t9:=Tryz.underlying9
 a9:=Tryz.isAgg9
 z9:=Tryz.sizeOf9
 v9:=Tryz.zeroValue9
 t46:=Tryz.underlying278
 a46:=Tryz.isAgg278
 z46:=Tryz.sizeOf278
 v46:=Tryz.zeroValue278
 t51:=Tryz.underlying285
 a51:=Tryz.isAgg285
 z51:=Tryz.sizeOf285
 v51:=Tryz.zeroValue285
 t146:=Tryz.underlying306
 a146:=Tryz.isAgg306
 z146:=Tryz.sizeOf306
 v146:=Tryz.zeroValue306
 g1:=by kernel_rfl }
theorem Hy (s : ByteArray) (c : UInt8) (w : World) :
  Calls Tryz.prog 228 #[.string s,.string ⟨#[c]⟩] w fun e w'=>e = .returned (.int .i64 (Lib.indexByte s.data.toList c))/\w' = w:=Any.stringslite_Index_one Abu s c w
def sh_lays144_ren : Go.Shelf.Ren:=⟨fun | 144=>118 | 143=>168 | 219=>228 | 217=>273 | 225=>274 | 224=>275 | 267=>276 | 266=>300 | 314=>301 | n=>n,fun | 9=>9 | 4=>4 | 3=>3 | 5=>5 | 46=>278 | 146=>306 | 51=>285 | n=>n,fun | 1=>0 | n=>n⟩
theorem Aby : Go.Proofs.Lays.n144 Tryz.prog sh_lays144_ren:={
 mixed:=by kernel_rfl
 f143:=Tryz.func168.trans (congrArg some (by kernel_rfl))
 f144:=Tryz.func118.trans (congrArg some (by kernel_rfl))
 f217:=Tryz.func273.trans (congrArg some (by kernel_rfl))
 f219:=Tryz.func228.trans (congrArg some (by kernel_rfl))
 f224:=Tryz.func275.trans (congrArg some (by kernel_rfl))
 f225:=Tryz.func274.trans (congrArg some (by kernel_rfl))
 f266:=Tryz.func300.trans (congrArg some (by kernel_rfl))
 f267:=Tryz.func276.trans (congrArg some (by kernel_rfl))
 f314:=Tryz.func301.trans (congrArg some (by kernel_rfl))
 t3:=Tryz.underlying3
 a3:=Tryz.isAgg3
 z3:=Tryz.sizeOf3
 v3:=Tryz.zeroValue3
 t4:=Tryz.underlying4
 a4:=Tryz.isAgg4
 z4:=Tryz.sizeOf4
 v4:=Tryz.zeroValue4
 t5:=Tryz.underlying5
 a5:=Tryz.isAgg5
 z5:=Tryz.sizeOf5
 v5:=Tryz.zeroValue5
 t9:=Tryz.underlying9
 a9:=Tryz.isAgg9
 z9:=Tryz.sizeOf9
 v9:=Tryz.zeroValue9
 t46:=Tryz.underlying278
 a46:=Tryz.isAgg278
 z46:=Tryz.sizeOf278
 v46:=Tryz.zeroValue278
 t51:=Tryz.underlying285
 a51:=Tryz.isAgg285
 z51:=Tryz.sizeOf285
 v51:=Tryz.zeroValue285
 t146:=Tryz.underlying306
 a146:=Tryz.isAgg306
 z146:=Tryz.sizeOf306
 v146:=Tryz.zeroValue306
 g1:=by kernel_rfl }
theorem Ie (s : ByteArray) (c : UInt8) (w : World) :
  Calls Tryz.prog 118 #[.string s,.string ⟨#[c]⟩] w fun e w'=>e = .returned (.bool (decide (0<=Lib.indexByte s.data.toList c)))/\w' = w:=Any.strings_Contains_one Aby s c w
def sh_laysGw15_ren : Go.Shelf.Ren:=⟨fun | 15=>114 | 20=>158 | n=>n,fun | 9=>9 | 23=>154 | 3=>3 | 4=>4 | 0=>0 | 21=>21 | n=>n,fun | n=>n⟩
theorem Yu : Go.Proofs.LaysGw.n15 Tryz.prog sh_laysGw15_ren:={
 mixed:=by kernel_rfl
 f15:=Tryz.func114.trans (congrArg some (by kernel_rfl))
 f20:=Tryz.func158.trans (congrArg some (by kernel_rfl))
 t0:=Tryz.underlying0
 a0:=Tryz.isAgg0
 z0:=Tryz.sizeOf0
 v0:=Tryz.zeroValue0
 i0:=by kernel_rfl
 t3:=Tryz.underlying3
 a3:=Tryz.isAgg3
 z3:=Tryz.sizeOf3
 v3:=Tryz.zeroValue3
 i3:=by kernel_rfl
 t4:=Tryz.underlying4
 a4:=Tryz.isAgg4
 z4:=Tryz.sizeOf4
 v4:=Tryz.zeroValue4
 i4:=by kernel_rfl
 t9:=Tryz.underlying9
 a9:=Tryz.isAgg9
 z9:=Tryz.sizeOf9
 v9:=Tryz.zeroValue9
 i9:=by kernel_rfl
 t21:=Tryz.underlying21
 a21:=Tryz.isAgg21
 z21:=Tryz.sizeOf21
 v21:=Tryz.zeroValue21
 i21:=by kernel_rfl
 t23:=Tryz.underlying154
 a23:=Tryz.isAgg154
 z23:=Tryz.sizeOf154
 v23:=Tryz.zeroValue154
 i23:=by kernel_rfl }
def sh_laysGw17_ren : Go.Shelf.Ren:=⟨fun | 17=>170 | 15=>114 | 20=>158 | n=>n,fun | 9=>9 | 23=>154 | 4=>4 | 3=>3 | 0=>0 | 21=>21 | n=>n,fun | n=>n⟩
theorem Yt : Go.Proofs.LaysGw.n17 Tryz.prog sh_laysGw17_ren:={
 mixed:=by kernel_rfl
 f15:=Tryz.func114.trans (congrArg some (by kernel_rfl))
 f17:=Tryz.func170.trans (congrArg some (by kernel_rfl))
 f20:=Tryz.func158.trans (congrArg some (by kernel_rfl))
 t0:=Tryz.underlying0
 a0:=Tryz.isAgg0
 z0:=Tryz.sizeOf0
 v0:=Tryz.zeroValue0
 i0:=by kernel_rfl
 t3:=Tryz.underlying3
 a3:=Tryz.isAgg3
 z3:=Tryz.sizeOf3
 v3:=Tryz.zeroValue3
 i3:=by kernel_rfl
 t4:=Tryz.underlying4
 a4:=Tryz.isAgg4
 z4:=Tryz.sizeOf4
 v4:=Tryz.zeroValue4
 i4:=by kernel_rfl
 t9:=Tryz.underlying9
 a9:=Tryz.isAgg9
 z9:=Tryz.sizeOf9
 v9:=Tryz.zeroValue9
 i9:=by kernel_rfl
 t21:=Tryz.underlying21
 a21:=Tryz.isAgg21
 z21:=Tryz.sizeOf21
 v21:=Tryz.zeroValue21
 i21:=by kernel_rfl
 t23:=Tryz.underlying154
 a23:=Tryz.isAgg154
 z23:=Tryz.sizeOf154
 v23:=Tryz.zeroValue154
 i23:=by kernel_rfl }
theorem Gv (g : Nat) (lb : Array Value) (eg : ∀ args w,(callFunc g args).run Tryz.prog w = .ok (.enter g args) w) (p : Nat->Bool) (s : ByteArray) (w : World) (hp : PredGrows Tryz.prog g lb p w) :
  Calls Tryz.prog 114 #[.string s,.func (.func g) #[] lb] w fun e w'=>e = .returned (.int .i64 (Lib.idxFunc p true s))/\Below w.heap.size w w':=Any.strings_IndexFunc_grows Yu g lb eg p s w hp
theorem Ft (g : Nat) (lb : Array Value) (eg : ∀ args w,(callFunc g args).run Tryz.prog w = .ok (.enter g args) w) (p : Nat->Bool) (s : ByteArray) (w : World) (hp : PredGrows Tryz.prog g lb p w) :
  Calls Tryz.prog 170 #[.string s,.func (.func g) #[] lb] w fun e w'=>e = .returned (.bool (decide (0<=Lib.idxFunc p true s)))/\Below w.heap.size w w':=Any.strings_ContainsFunc_grows Yt g lb eg p s w hp
def sh_lays187_ren : Go.Shelf.Ren:=⟨fun | 187=>53 | 255=>111 | n=>n,fun | 37=>22 | 5=>5 | 3=>3 | n=>n,fun | n=>n⟩
theorem Sb : Go.Proofs.Lays.n187 Tryz.prog sh_lays187_ren:={
 mixed:=by kernel_rfl
 f187:=Tryz.func53.trans (congrArg some (by kernel_rfl))
 f255:=Tryz.func111.trans (congrArg some (by kernel_rfl))
 t3:=Tryz.underlying3
 a3:=Tryz.isAgg3
 z3:=Tryz.sizeOf3
 v3:=Tryz.zeroValue3
 t5:=Tryz.underlying5
 a5:=Tryz.isAgg5
 z5:=Tryz.sizeOf5
 v5:=Tryz.zeroValue5
 t37:=Tryz.underlying22
 a37:=Tryz.isAgg22
 z37:=Tryz.sizeOf22
 v37:=Tryz.zeroValue22 }
def sh_laysSlH10_f179_ren : Go.Shelf.Ren:=⟨fun | 10=>179 | 6=>233 | n=>n,fun | 22=>111 | 23=>9 | 25=>104 | 3=>3 | 4=>4 | 0=>0 | n=>n,fun | n=>n⟩
theorem My : Go.Proofs.SlLaysH.n10 Tryz.prog sh_laysSlH10_f179_ren:={
 mixed:=by kernel_rfl
 f6:=⟨Tryz.f233.name,by decide,Tryz.func233.trans (congrArg some (by kernel_rfl))⟩
 f10:=⟨Tryz.f179.name,by decide,Tryz.func179.trans (congrArg some (by kernel_rfl))⟩
 t0:=Tryz.underlying0
 a0:=Tryz.isAgg0
 z0:=Tryz.sizeOf0
 v0:=Tryz.zeroValue0
 t3:=Tryz.underlying3
 a3:=Tryz.isAgg3
 z3:=Tryz.sizeOf3
 v3:=Tryz.zeroValue3
 t4:=Tryz.underlying4
 a4:=Tryz.isAgg4
 z4:=Tryz.sizeOf4
 v4:=Tryz.zeroValue4
 t22:=Tryz.underlying111
 a22:=Tryz.isAgg111
 z22:=Tryz.sizeOf111
 v22:=Tryz.zeroValue111
 a23:=Tryz.isAgg9
 z23:=Tryz.sizeOf9
 t25:=Tryz.underlying104
 a25:=Tryz.isAgg104
 z25:=Tryz.sizeOf104
 v25:=Tryz.zeroValue104 }
theorem Kb {α : Type} [Inhabited α] (enc : α->Value) (hO : OneCell enc) (p : α->Bool) (g : Nat) (lb : Array Value) (eg : ∀ args w,(callFunc g args).run Tryz.prog w = .ok (.enter g args) w) (zr : α) (v23 : ∀ w,(zeroValue 9).run Tryz.prog w = .ok (enc zr) w) (blk off cap : Nat) (d : Array α) (w : World) (hp : PredAt Tryz.prog g lb enc p w) (hpo : PredOver Tryz.prog g lb enc p blk off d.size w) (hH : Holds enc w blk off d) (hsz : d.size<=9223372036854775807) (hcap : d.size<=cap) :
  Calls Tryz.prog 179 #[.slice (some ⟨blk,off,none⟩) d.size cap,.func (.func g) #[] lb] w fun e w'=>e = .returned (.slice (some ⟨blk,off,none⟩) (d.toList.filter fun x=>!p x).length cap)/\∃ q,w' = putRow enc (Sort.ahead w q) blk off ((d.toList.filter fun x=>!p x) ++ List.replicate (d.size - (d.toList.filter fun x=>!p x).length) zr).toArray:=AnyE.slices_DeleteFunc My enc hO p g lb eg zr v23 blk off cap d w hp hpo hH hsz hcap
theorem I6 (cv : Int) (w : World) :
  Calls Tryz.prog 53 #[.slice none 0 0,.int .u8 cv] w fun e w'=>e = .returned (.int .i64 (-1))/\w' = w:=Any.bytes_IndexByte_nil Sb cv w
end Go.Proofs.YtdoogdbjiijifaaGreatDoor
