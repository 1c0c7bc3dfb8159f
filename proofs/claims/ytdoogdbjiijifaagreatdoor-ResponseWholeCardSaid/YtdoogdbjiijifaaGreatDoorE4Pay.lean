/- Part of the proofs of the statements about responses and messages (layers 9 and 10): a symbolic executor over the code, that it is sound, and contracts of functions; it has no conditions of its own. -/
import Derived.Lib.Walk
import Derived.WalkKit
import Derived.Test.YtdoogdbjiijifaaGreatDoorE4Pax
namespace Go.Proofs.YtdoogdbjiijifaaGreatDoor
open Go Go.Sx
set_option maxRecDepth 10000
set_option maxHeartbeats 2000000
theorem Rn (c : UInt8) (r : List UInt8) : Mv (c :: r) = if (Mv r).isEmpty then (if blankB c then [] else [c]) else c :: Mv r:=by
 unfold Mv
 rw [List.reverse_cons,List.dropWhile_append,List.isEmpty_reverse]
 split
 ·by_cases h : blankB c = true
  ·rw [if_pos h,List.dropWhile_cons_of_pos h]; rfl
  ·rw [if_neg h,List.dropWhile_cons_of_neg h]; rfl
 ·rw [List.reverse_append]; rfl
theorem Afh (s : List UInt8) : Mv (Jo s) = Jo (Mv s):=by
 induction s with
 | nil=>rfl
 | cons c r ih =>
  by_cases h : blankB c = true
  ·rw [Ly h,ih,Rn]
   split
   ·rename_i he
    rw [List.isEmpty_iff.1 he]
   ·rw [Ly h]
  ·have e : Jo (c :: r) = c :: r:=by rw [Jo,List.dropWhile_cons_of_neg h]
   rw [e,Rn]
   split
   ·rw [Jo,List.dropWhile_cons_of_neg h]
   ·rw [Jo,List.dropWhile_cons_of_neg h]
theorem Akl (c : UInt8) : [32,9].contains c = blankB c:=by
 have : ∀ n : Fin 256,[32,9].contains (UInt8.ofNat n.1) = Akm (n.1 : Int):=by decide
 have h:=this ⟨c.toNat,c.toNat_lt⟩
 simp only [UInt8.ofNat_toNat] at h
 exact h
theorem Rm (s : List UInt8) : Lib.trimS s [32,9] = trimF s:=by
 rw [trimF,Afh]
 unfold Lib.trimS Lib.trimLeftS Lib.trimRightS Jo Mv
 have e : (fun x=>[32,9].contains x) = blankB:=funext Akl
 rw [e]
def spTrim64 : FSpec:=fun _ xs ls K=>∃ (s c : List UInt8),xs = [.str s,.str c]/\ls = []/\s.length<=9223372036854775807/\c.length < 1000/\(c.all fun b=>decide (b.toNat < 128)) = true/\∀ r,r = Lib.trimS s c->K (.str r) []
theorem K6 : A2 Tryz.prog gl 116 spTrim64:=by
 refine ⟨⟨Tryz.f116,_,Tryz.func116,rfl,by kernel_rfl⟩,fun xs ls K h=>?_⟩
 obtain ⟨s,c,rfl,rfl,hs,hc,ha,h⟩:=h
 refine ⟨_,_,h _ rfl,Bn fun E B w vals _ _ _ hr=>?_⟩
 obtain ⟨v,u,rfl,hv,hu⟩:=D3 hr
 rw [Db hv,Db hu]
 refine (Any.strings_Trim_laid Abw (by kernel_rfl) ⟨s.toArray⟩ ⟨c.toArray⟩ w (by simpa [ByteArray.size] using hs) (by simp [ByteArray.size]; omega) (ascii_of_all (by simpa using ha))).mono ?_
 rintro e w' ⟨rfl,hB⟩
 exact ⟨_,rfl,fun E=>.ro (.str rfl),hB⟩
theorem trim_ok : A2 Tryz.prog gl 232 (Ahz trimF):=by
 refine C9 (gh:=[]) mixed Dp (Af K6 Av) Tryz.func232 (by kernel_rfl) (by kernel_rfl) ?_
 intro xs ls K h
 unfold Ahz at h
 obtain ⟨s,rfl,rfl,hl,h⟩:=h
 obtain ⟨k,hk⟩ : ∃ k,k = trimF s:=⟨_,rfl⟩
 refine ⟨_,_,h k hk,fun D hD=>?_⟩
 clear h
 cbv
 refine ⟨s,[32,9],rfl,rfl,hl,by decide,by decide,fun r hr=>?_⟩
 cbv
 exact finStr (by rw [hr,hk,Rm])
end Go.Proofs.YtdoogdbjiijifaaGreatDoor
namespace Go.Proofs.YtdoogdbjiijifaaGreatDoor
open Go.Sx
set_option maxRecDepth 10000
set_option maxHeartbeats 2000000
def spSplit : FSpec:=fun _ xs ls K=>∃ (s : List UInt8) (y : Int),xs = [.str s,.int .u8 (.a y)]/\ls = []/\s.length<=100000/\∀ (k : Option (List (List UInt8))) (l : List (List UInt8)) (n : Int) (b nb : Bool) (f : Nat->List SV),k = L7 y s->l = (k.getD []).map trimF->n = (l.length : Int)->b = k.isSome->nb = k.isNone->f = Fa l->K (.tup [.osl (.a nb) (.a n) 0,.bool (.a b)]) [.own 9 (.a n) 1 true f]
structure SpI (s : List UInt8) (out : List (List UInt8)) (a i : Nat) (A I : Int) (m : Nat) : Prop where
 at_ : At s i I m
 ale : a<=i
 A : ST.den (.a A) = (a : Int)
 out : out.length<=i
 s : s.length<=100000
def splJ (s : List UInt8) (y : Int) (k : Option (List (List UInt8))) (m : Nat) (vs : List (Option SV)) (hp : List Hl) : Prop :=
 ∃ (i a : Nat) (I A n : Int) (nl : Bool) (f : Nat->List SV) (out : List (List UInt8)),vs = [some (.str s),some (.int .u8 (.a y)),some (.osl (.a nl) (.a n) 0),some (.int .i64 (.a A)),some (.int .i64 (.a I))]/\hp = [.own 9 (.a n) 1 true f]/\
  SpI s out a i A I m/\Cc f n (out.map trimF)/\k = pAt y s out a i
def qOf : Option (Nat×List UInt8)->Int
 | none=>0
 | some x=>((1 + x.1 : Nat) : Int)
theorem Aii {o : Option (Nat×List UInt8)} (h : (qOf o == 0) = true) : o = none:=by
 cases o with
 | none=>rfl
 | some x=>simp only [qOf,beq_iff_eq] at h; omega
theorem Aij {o : Option (Nat×List UInt8)} (h : (qOf o == 0) = false) : ∃ x,o = some x/\qOf o = ((1 + x.1 : Nat) : Int):=by
 cases o with
 | none=>simp [qOf] at h
 | some x=>exact ⟨x,rfl,rfl⟩
theorem W7 {s : List UInt8} {i : Nat} : M3 (s.drop i) = qOf (qdF Cv (s.drop (i + 1))):=by
 rw [M3,qAt,Aig,List.drop_drop,show i + (0 + 1) = i + 1 by omega]
 cases qdF Cv (s.drop (i + 1)) with
 | none=>rfl
 | some x=>simp only [qOf]
theorem Aet {D : Dn} (hD : D = dn) {k : Option (List (List UInt8))} {kl : List (List UInt8)} {kn : Int} {kb knb : Bool} {kr g : Nat->List SV} (hk : k = none) (hkl : kl = (k.getD []).map trimF) (hkn : kn = (kl.length : Int)) (hkb : kb = k.isSome) (hknb : knb = k.isNone) :
  Fin (.tup [.osl (.a (D.b (.l true))) (.a (D.i (.l 0))) 0,.bool (.a (D.b (.l false)))]) (.tup [.osl (.a knb) (.a kn) 0,.bool (.a kb)]) [.own 9 (.a (D.i (.l 0))) 1 true g] [.own 9 (.a kn) 1 true kr]:=by
 subst hD hk
 have e : kn = 0:=by rw [hkn,hkl]; rfl
 refine Aj3 (.tup (.cons (Aeg (by rw [hknb]; rfl) (by rw [e]; rfl)) (.cons (D1 (by rw [hkb]; rfl)) .nil))) (by rw [e]; rfl) fun i hi=>?_
 have hi : (i : Int) < 0:=hi
 omega
theorem finSpl1 {D : Dn} (hD : D = dn) {k : Option (List (List UInt8))} {l kl : List (List UInt8)} {kn : Int} {kb knb : Bool} {kr f : Nat->List SV} (hk : k = some l) (hkl : kl = (k.getD []).map trimF) (hkn : kn = (kl.length : Int)) (hkb : kb = k.isSome) (hknb : knb = k.isNone) (hkr : kr = Fa kl)
  {n : Int} (R : Cc f n (l.map trimF)) {x : BT} {y : ST} (hy : y.den = n) (hx : x.den = false) : Fin (.tup [.osl (.a (D.b x)) (.a (D.i y)) 0,.bool (.a (D.b (.l true)))]) (.tup [.osl (.a knb) (.a kn) 0,.bool (.a kb)]) [.own 9 (.a (D.i y)) 1 true f] [.own 9 (.a kn) 1 true kr]:=by
 subst hD hk
 have hkl : kl = l.map trimF:=hkl
 have e : dn.i y = kn:=by show y.den = _; rw [hy,R.n,hkn,hkl]
 refine Aj3 (.tup (.cons (Aeg ?_ e) (.cons (D1 (by rw [hkb]; rfl)) .nil))) e fun i hi=>?_
 ·rw [hknb]; exact hx
 ·have hi : (i : Int) < dn.i y:=hi
  rw [R.f i (by rw [e,hkn,hkl] at hi; omega),hkr,hkl]; rfl
theorem Ahy : A2 Tryz.prog gl 178 spSplit:=by
 refine C9 (gh:=[(1,[.own 6 9]),(9,[.own 4 9]),(12,[.own 4 9])]) mixed Dp (Af Xi (Af Afz (Af trim_ok Av))) Tryz.func178 (by kernel_rfl) (by kernel_rfl) ?_
 intro xs ls K h
 unfold spSplit at h
 obtain ⟨s,y,rfl,rfl,hl,h⟩:=h
 obtain ⟨k,hk⟩ : ∃ k,k = L7 y s:=⟨_,rfl⟩
 obtain ⟨kl,hkl⟩ : ∃ kl,kl = (k.getD []).map trimF:=⟨_,rfl⟩
 obtain ⟨kn,hkn⟩ : ∃ kn : Int,kn = (kl.length : Int):=⟨_,rfl⟩
 obtain ⟨kb,hkb⟩ : ∃ kb,kb = k.isSome:=⟨_,rfl⟩
 obtain ⟨knb,hknb⟩ : ∃ knb,knb = k.isNone:=⟨_,rfl⟩
 obtain ⟨kr,hkr⟩ : ∃ kr,kr = Fa kl:=⟨_,rfl⟩
 refine ⟨_,_,h k kl kn kb knb kr hk hkl hkn hkb hknb hkr,fun D hD=>?_⟩
 clear h
 have hk : k = pAt y s [] 0 0:=by
  rw [hk,L7,pAt,Aaz]
  simp
 cbv
 obtain ⟨J,hJ⟩ : ∃ J,J = splJ s y k:=⟨_,rfl⟩
 refine ⟨[0,1,6,7,8],J,⟨rfl,s.length,?_⟩,?_⟩
 ·rw [hJ]
  subst hD
  exact ⟨0,0,_,_,_,_,_,[],rfl,rfl,⟨At.zero (by omega),by omega,rfl,by simp,hl⟩,Cc.nil,hk⟩
 clear hk
 intro m vs hp' hv
 rw [hJ] at hv
 unfold splJ at hv
 obtain ⟨i,a,I,A,n,nl,f,out,rfl,rfl,V,R,hk⟩:=hv
 cbv
 refine br hD (fun h=>?_) (fun h=>?_)<;>cbv
 ·have hlt:=V.at_.lt (of_decide_eq_true (p:=I < (s.length : Int)) h)
  clear h
  refine ⟨V.at_.inS hD hlt,fun c hc=>?_⟩
  have hc2:=Mk hD V.at_.den hc
  clear hc
  cbv
  refine br hD (fun h=>?_) (fun h=>?_)<;>cbv
  ·have h34 : charI s i = 34:=by rw [<-hc2.charI]; have h : (c == 34) = true:=h; simpa using h
   clear h
   rw [Af2 hlt V.ale (by rw [h34]; decide) h34] at hk
   refine ⟨by subst hD; exact Mw (s:=s) (j:=s.length) (b:=.len s) V.at_.den rfl (by omega) (Nat.le_refl _),fun r1 hr1=>?_⟩
   have hr1' : r1 = s.drop i:=by
    have:=Rt (j:=s.length) (b:=.len s) hD V.at_.den rfl hr1
    rw [this]; exact List.take_of_length_le (by simp)
   clear hr1
   cbv
   refine ⟨_,rfl,rfl,by have:=V.s; rw [hr1',List.length_drop]; omega,fun q hq=>?_⟩
   have hq2 : q = qOf (qdF Cv (s.drop (i + 1))):=by subst hD; rw [hq,hr1']; exact W7
   clear hq
   cbv
   refine br hD (fun h=>?_) (fun h=>?_)<;>cbv
   ·have h : (q == 0) = true:=h
    rw [hq2] at h
    rw [Aii h] at hk
    exact Aet hD hk hkl hkn hkb hknb
   ·have h : (q == 0) = false:=h
    rw [hq2] at h
    obtain ⟨x,hx,hqx⟩:=Aij h
    rw [hx] at hk
    simp only at hk
    have hlen:=M4 _ _ x (Nat.le_refl _) hx
    rw [List.length_drop] at hlen
    have hq3 : ST.den (.bin .add .i64 (.a I) (.a q)) = ((i + 1 + x.1 : Nat) : Int):=by
     have h1:=V.at_.I; have h2:=V.s
     show IntKind.i64.wrap (I + q) = _
     rw [hq2,hqx,Bk (by omega) (by omega)]; omega
    clear h
    refine ⟨s.length - (i + 1 + x.1),by have:=V.at_.m; omega,?_⟩
    rw [hJ]
    subst hD
    refine ⟨i + 1 + x.1,a,_,_,_,_,f,out,rfl,rfl,⟨⟨by omega,hq3,rfl,V.at_.len⟩,by have:=V.ale; omega,V.A,by have:=V.out; omega,V.s⟩,R,hk⟩
  have h34 : charI s i≠34:=by rw [<-hc2.charI]; have h : (c == 34) = false:=h; simpa using h
  clear h
  refine ⟨_,rfl,rfl,by subst hD; exact hc2.le,fun r hr=>?_⟩
  have hr2 : r = Dc c:=by subst hD; exact hr
  clear hr
  have hsm : Cv (charI s i) = !(Dc c == 0):=by rw [hc2.charI]; unfold charI; rw [<-R8,Jr]
  rw [<-hr2] at hsm
  cbv
  refine br hD (fun h=>?_) (fun h=>?_)<;>cbv
  ·have h : (r == 0) = true:=h
   rw [pAt_bad hlt (by rw [hsm,h]; rfl)] at hk
   exact Aet hD hk hkl hkn hkb hknb
  have hp : Cv (charI s i) = true:=by have h : (r == 0) = false:=h; rw [hsm,h]; rfl
  clear h
  refine br hD (fun h=>?_) (fun h=>?_)<;>cbv
  ·have hy : charI s i = y:=by rw [<-hc2.charI]; have h : (c == y) = true:=h; simpa using h
   clear h
   rw [pAt_sep hlt hp h34 hy] at hk
   refine ⟨by subst hD; exact Mw V.A V.at_.den V.ale (by omega),fun r1 hr1=>?_⟩
   have hr1' : r1 = cut s a i:=Rt hD V.A V.at_.den hr1
   clear hr1
   cbv
   refine ⟨_,rfl,rfl,by have:=V.s; rw [hr1',cut,List.length_take,List.length_drop]; omega,fun t ht=>?_⟩
   have ht2 : t = trimF (cut s a i):=by rw [ht,hr1']
   clear ht
   cbv
   intro g hg
   have hg0 : g 0 = [.str t]:=hg.h 0 _ rfl
   clear hg
   cbv
   refine ⟨?_,fun f' n' hf'=>?_⟩
   ·have:=V.out; have:=V.s; have h:=R.n; rw [List.length_map] at h; subst hD; exact ⟨rfl,by show (n + 1) * 16<=_; omega,by show n + 1<=_; omega⟩
   have R' : Cc f' n' ((out ++ [cut s a i]).map trimF):=by
    subst hD
    rw [List.map_append,List.map_singleton]
    exact R.more (by rw [hg0,ht2]) hf' (by have:=V.out; have:=V.s; rw [List.length_map]; omega)
   clear hf' hg0
   cbv
   refine ⟨s.length - (i + 1),(V.at_.step hD hlt).1,?_⟩
   rw [hJ]
   subst hD
   exact ⟨i + 1,i + 1,_,_,_,_,f',_,rfl,rfl,⟨(V.at_.step rfl hlt).2,Nat.le_refl _,(V.at_.step rfl hlt).2.I,by have:=V.out; simp; omega,V.s⟩,R',hk⟩
  ·have hy : charI s i≠y:=by rw [<-hc2.charI]; have h : (c == y) = false:=h; simpa using h
   clear h
   rw [Ait hlt V.ale hp h34 hy] at hk
   refine ⟨s.length - (i + 1),(V.at_.step hD hlt).1,?_⟩
   rw [hJ]
   subst hD
   exact ⟨i + 1,a,_,_,_,_,f,out,rfl,rfl,⟨(V.at_.step rfl hlt).2,by have:=V.ale; omega,V.A,by have:=V.out; omega,V.s⟩,R,hk⟩
 ·have hi:=V.at_.eq (of_decide_eq_false (p:=I < (s.length : Int)) h)
  clear h
  rw [pAt_end hi] at hk
  refine ⟨by subst hD; exact Mw (s:=s) (j:=s.length) (b:=.len s) V.A rfl (by have:=V.ale; omega) (Nat.le_refl _),fun r1 hr1=>?_⟩
  have hr1' : r1 = s.drop a:=by
   have:=Rt (j:=s.length) (b:=.len s) hD V.A rfl hr1
   rw [this]; exact List.take_of_length_le (by simp)
  clear hr1
  cbv
  refine ⟨_,rfl,rfl,by have:=V.s; rw [hr1',List.length_drop]; omega,fun t ht=>?_⟩
  have ht2 : t = trimF (s.drop a):=by rw [ht,hr1']
  clear ht
  cbv
  intro g hg
  have hg0 : g 0 = [.str t]:=hg.h 0 _ rfl
  clear hg
  cbv
  refine ⟨?_,fun f' n' hf'=>?_⟩
  ·have:=V.out; have:=V.s; have h:=R.n; rw [List.length_map] at h; subst hD; exact ⟨rfl,by show (n + 1) * 16<=_; omega,by show n + 1<=_; omega⟩
  have R' : Cc f' n' ((out ++ [s.drop a]).map trimF):=by
   subst hD
   rw [List.map_append,List.map_singleton]
   exact R.more (by rw [hg0,ht2]) hf' (by have:=V.out; have:=V.s; rw [List.length_map]; omega)
  clear hf' hg0
  cbv
  exact finSpl1 hD hk hkl hkn hkb hknb hkr R' rfl (by show (nl && false) = false; simp)
end Go.Proofs.YtdoogdbjiijifaaGreatDoor
namespace Go.Proofs.YtdoogdbjiijifaaGreatDoor
open Go Go.RowKit Go.Sx Go.Sort
set_option maxRecDepth 100000
set_option maxHeartbeats 2000000
def Pd (x : ByteArray) : Bool:=x.toList.isEmpty
theorem Aaw (x : ByteArray) (w : World) : Calls Tryz.prog 180 #[.string x] w fun e w'=>e = .returned (.bool (Pd x))/\∃ q,w' = w.drewN q:=by
 go_enter Tryz.func180,Tryz.ntmps51
 go_wp2
 go_ret
 exact ⟨rfl,0,rfl⟩
theorem X1 (x : List UInt8) : (!Pd (Sx.bytes x)) = neB x:=by
 unfold Pd neB Sx.bytes
 rw [Lib.toList_data]
 cases x<;>rfl
theorem Xv (l : List (List UInt8)) : (l.map Sx.bytes).filter (fun x=>!Pd x) = (l.filter neB).map Sx.bytes:=by
 rw [List.filter_map]
 congr 1
 refine List.filter_congr fun x _=>X1 x
theorem Akq : ∀ args w,(callFunc 180 args).run Tryz.prog w = .ok (.enter 180 args) w:=enters_of Tryz.func180 (by kernel_rfl) rfl
theorem Pu {α : Type} [Inhabited α] (enc : α->Value) (w : World) (blk off : Nat) (d : Array α) (k : Nat) : (putRow enc w blk off d).heap[k]? = if blk = k then (w.heap[k]?).map (onCells (putCells enc off d)) else w.heap[k]?:=by
 unfold putRow mapBlock
 simp only [Array.getElem?_modify]
theorem delPut {w : World} {q b : Nat} {cur : Array Value} {fr : Nat×Nat} {t : TypeId} (hg : w.heap[b]? = some (.cells cur t fr)) (N : Array ByteArray) {i : Nat} (hi : i < N.size) (hc : N.size<=cur.size) : (putRow Value.string (Go.Sort.ahead w q) b 0 N).cell? ⟨b,i,none⟩ = some (.string N[i]!):=by
 have h1 : (putRow Value.string (Go.Sort.ahead w q) b 0 N).heap[b]? = some (.cells (putCells Value.string 0 N cur) t fr):=by
  rw [Pu,if_pos rfl]
  have : (Go.Sort.ahead w q).heap[b]? = w.heap[b]?:=rfl
  rw [this,hg]; rfl
 rw [cell_of_row _ b _ _ _ _ h1]
 simp only [putCells,Array.getElem?_mapIdx]
 rw [Array.getElem?_eq_getElem (by omega),Option.map_some,if_pos ⟨Nat.zero_le _,by omega⟩]
 rfl
def spDel : FSpec:=fun _ xs ls K=>∃ (l : List (List UInt8)) (nb : Bool) (n : Int) (f : Nat->List SV),xs = [.osl (.a nb) (.a n) 0,.fn 180]/\ls = [.own 9 (.a n) 1 true f]/\Cc f n l/\0 < l.length/\∀ l' n',l' = l.filter neB->n' = (l'.length : Int)->K (.sl (.a false) (.a n') 1 (Fa l')) [.gone]
theorem Ag5 : A2 Tryz.prog gl 179 spDel:=by
 refine ⟨⟨Tryz.f179,_,Tryz.func179,rfl,by kernel_rfl⟩,fun xs ls K h=>?_⟩
 obtain ⟨l,nb,n,f,rfl,rfl,R,h0,h⟩:=h
 refine ⟨_,_,h _ _ rfl rfl,?_⟩
 intro B E w vals hw0 hI0 hdom hb hg hh hr
 obtain ⟨v,m,xs,k1,kz,k2,k3,k4,k5,k6⟩:=hh 0
 have k3' : n = (m : Int):=k3
 have hm : m = l.length:=by have:=R.n; omega
 obtain ⟨u,g,rfl,hu,hgv⟩:=D3 hr
 obtain ⟨huv,hnl⟩:=Fp hu k1 k2 k3 rfl
 subst huv
 obtain rfl : g = .func (.func 180) #[] #[]:=by
  cases hgv with
  | ro h=>cases h with
   | fn h=>exact h
 rcases k2.2 with ⟨e0,e1⟩ | ⟨b,cap,cur,fr,e0,hg2,hfr,hmc,hcm,hcs,htake⟩
 ·omega
 subst e0
 obtain rfl : fr = (0,0):=by
  rcases hfr with h | ⟨h,_⟩
  ·exact h
  ·cases h
 have hxl : xs.length = l.length:=by rw [k2.1,hm]; simp
 have hxs : xs = l.map fun x=>Value.string (Sx.bytes x):=by
  refine List.ext_getElem (by rw [hxl]; simp) fun i h1 h2=>?_
  have hi : i < l.length:=by omega
  have:=k5.2 i 0 (.str (l.getD i [])) xs[i] (by omega) (by rw [R.f i hi]; rfl) (by simp [List.getElem?_eq_getElem h1])
  cases this with
  | str h =>
   rw [h,List.getElem_map,List.getD_eq_getElem?_getD,List.getElem?_eq_getElem hi]; rfl
 obtain ⟨hO,hnI⟩:=k6 b rfl
 have hlt : b < w.heap.size:=(hb.Obd b 0 hO).1
 obtain ⟨d,hd⟩ : ∃ d,d = (l.map Sx.bytes).toArray:=⟨_,rfl⟩
 have hds : d.size = m:=by rw [hd,hm]; simp
 have hdl : d.toList = l.map Sx.bytes:=by rw [hd]
 have hH : Holds Value.string w b 0 d:=by
  intro j hj
  have hj' : j < l.length:=by omega
  refine ⟨?_,Lib.frozen_of_heap hg2 _⟩
  rw [cell_of_row w b _ cur _ _ hg2,Nat.zero_add]
  have h1 : cur.toList[j]? = some (Value.string (Sx.bytes l[j])):=by
   have : (cur.toList.take (m * 1))[j]? = xs[j]?:=by rw [htake]
   rw [List.getElem?_take,if_pos (by omega),hxs] at this
   rw [this]
   simp [List.getElem?_eq_getElem hj']
  rw [<-Array.getElem?_toList,h1,getElem!_pos d j hj]
  simp [hd]
 have hF : (d.toList.filter fun x=>!Pd x) = (l.filter neB).map Sx.bytes:=by rw [hdl]; exact Xv l
 have run:=Kb Value.string (fun _=>rfl) Pd 180 #[] Akq ⟨#[]⟩ Tryz.zeroValue9 b 0 cap d w (fun W x _=>by simpa [FnGives] using Aaw x W) (fun q os dk x _=>by simpa [FnGives] using Aaw x _) hH (by have:=R.len; omega) (by omega)
 rw [hF,hds] at run
 refine run.mono ?_
 clear run
 rintro e w' ⟨rfl,q,rfl⟩
 obtain ⟨l',hl'⟩ : ∃ l',l' = l.filter neB:=⟨_,rfl⟩
 rw [<-hl']
 have hle : l'.length<=l.length:=by rw [hl']; exact List.length_filter_le _ _
 obtain ⟨N,hN⟩ : ∃ N,N = (l'.map Sx.bytes ++ List.replicate (m - (l'.map Sx.bytes).length) (⟨#[]⟩ : ByteArray)).toArray:=⟨_,rfl⟩
 rw [<-hN]
 have hNs : N.size = m:=by rw [hN]; simp; omega
 have hNi : ∀ i,i < l'.length->N[i]! = Sx.bytes (l'.getD i []):=by
  intro i hi
  rw [getElem!_pos N i (by omega),List.getD_eq_getElem?_getD,List.getElem?_eq_getElem hi]
  simp only [hN,List.getElem_toArray]
  rw [List.getElem_append_left (by simpa using hi)]
  simp
 have hcell : ∀ i,i < l'.length->(putRow Value.string (Go.Sort.ahead w q) b 0 N).cell? ⟨b,i,none⟩ = some (.string (Sx.bytes (l'.getD i []))):=by
  intro i hi
  rw [delPut hg2 N (by omega) (by omega),hNi i hi]
 have hheap : ∀ k,k≠b->(putRow Value.string (Go.Sort.ahead w q) b 0 N).heap[k]? = w.heap[k]?:=fun k hk=>by rw [Pu,if_neg (fun e=>hk e.symm)]; rfl
 have hc2 : ∀ b2 o,b2≠b->(putRow Value.string (Go.Sort.ahead w q) b 0 N).cell? ⟨b2,o,none⟩ = w.cell? ⟨b2,o,none⟩:=fun b2 o hb2=>by simp only [World.cell?]; rw [hheap b2 hb2]
 have hsz : (putRow Value.string (Go.Sort.ahead w q) b 0 N).heap.size = w.heap.size:=by simp [putRow,mapBlock,Go.Sort.ahead]
 have hX:=(hb.Obd b 0 hO).2
 let E' : Env:=⟨E.β,E.τ,E.O,E.κ,E.ζ,fun b2 o=>E.I b2 o\/(b2 = b/\o < l'.length)⟩
 refine ⟨_,E',rfl,⟨hb.os,hb.tape,hb.output,by rw [hsz]; exact hb.size,fun b2 hlt2 hnX=>?_,fun b2 o hi=>?_,fun b2 o hi=>?_,fun b2 o hi=>?_,fun b2 j hO2=>?_,⟨hb.β0.β,hb.β0.τ,hb.β0.ζ⟩⟩,fun k hk=>?_,?_⟩
 ·rw [hheap b2 (fun e=>?_)]
  ·exact hb.old b2 hlt2 hnX
  ·subst e
   rcases hX with h | h
   ·omega
   ·exact hnX h
 ·obtain ⟨i1,i2⟩:=hb.I0 b2 o hi
  refine ⟨.inl i1,?_⟩
  rw [hc2 b2 o (fun e=>hnI o (by rw [<-e]; exact i1))]; exact i2
 ·rw [hsz]
  rcases hi with hi | ⟨rfl,_⟩
  ·exact hb.Ibd b2 o hi
  ·exact hlt
 ·rcases hi with hi | ⟨rfl,_⟩
  ·exact hb.Inew b2 o hi
  ·exact .inr hX
 ·rw [hsz]; exact hb.Obd b2 j hO2
 ·obtain rfl : k = 0:=by simpa using hk
  trivial
 ·refine .ro (.sl (fun i j=>.string (Sx.bytes (l'.getD i []))) rfl ?_ ?_ hcm (fun _=>rfl) (fun i hi=>rfl) (fun i j hi hj=>rfl) (fun i j hi hj=>?_) (fun i j s hi hs=>?_))
  ·show (l'.length : Int) = _
   simp
  ·simp; omega
  ·obtain rfl : j = 0:=by omega
   have hi : i < l'.length:=by simpa using hi
   refine ⟨?_,.inr ⟨rfl,by simpa using hi⟩⟩
   simpa using hcell i hi
  ·match j,hs with
   | 0,hs =>
    have hs : some (SV.str (l'.getD i [])) = some s:=hs
    cases hs
    exact .str rfl
   | j + 1,hs=>simp [Fa] at hs
end Go.Proofs.YtdoogdbjiijifaaGreatDoor
namespace Go.Proofs.YtdoogdbjiijifaaGreatDoor
open Go.Sx
set_option maxRecDepth 10000
set_option maxHeartbeats 2000000
def Aao (s : List UInt8) : Bool:=(Bb s).2 != 0
theorem Aap : A2 Tryz.prog gl 127 (Adq Bb Aao):=by
 refine C9 (gh:=[]) mixed Dp (Af Ahy (Af Ag5 Av)) Tryz.func127 (by kernel_rfl) (by kernel_rfl) ?_
 intro xs ls K h
 unfold Adq at h
 obtain ⟨s,rfl,rfl,hl,h⟩:=h
 obtain ⟨k,hk⟩ : ∃ k,k = Bb s:=⟨_,rfl⟩
 obtain ⟨kl,ke⟩:=k
 obtain ⟨kn,hkn⟩ : ∃ kn : Int,kn = (kl.length : Int):=⟨_,rfl⟩
 obtain ⟨knb,hknb⟩ : ∃ knb : Bool,knb = (ke != 0):=⟨_,rfl⟩
 refine ⟨_,_,h kl ke kn knb hk hkn (by rw [hknb,Aao,<-hk]),fun D hD=>?_⟩
 clear h
 obtain ⟨kr,hkr⟩ : ∃ kr,kr = Fa kl:=⟨_,rfl⟩
 rw [<-hkr]
 rw [Bb] at hk
 cbv
 refine br hD (fun h=>?_) (fun h=>?_)<;>cbv
 ·have h : decide (2000 < (s.length : Int)) = true:=h
  rw [if_pos (by simpa using h)] at hk
  exact Aj4 (f:=fun _=>[]) hD hk hkn hkr Cc.nil rfl (by simp only [Prod.mk.injEq] at hk; rw [hknb,hk.2]; rfl) rfl
 have h : decide (2000 < (s.length : Int)) = false:=h
 have h2 : ¬ (2000 < (s.length : Int)):=by simpa using h
 rw [if_neg h2] at hk
 have hs : s.length<=2000:=by omega
 clear h h2
 refine ⟨s,_,rfl,rfl,by omega,fun k l n b nb f hp0 hl' hn hb hnb hf=>?_⟩
 have hp : k = L7 44 s:=by subst hD; exact hp0
 clear hp0
 rw [<-hp] at hk
 cbv
 refine br hD (fun h=>?_) (fun h=>?_)<;>cbv
 ·have h : (!b) = true:=h
  have hn0 : k = none:=by
   cases k with
   | none=>rfl
   | some l=>rw [hb] at h; cases h
  rw [hn0] at hk
  exact Aj4 (f:=fun _=>[]) hD hk hkn hkr Cc.nil rfl (by simp only [Prod.mk.injEq] at hk; rw [hknb,hk.2]; rfl) rfl
 have h : (!b) = false:=h
 obtain ⟨l0,rfl⟩ : ∃ l,k = some l:=by
  cases k with
  | none=>rw [hb] at h; cases h
  | some l=>exact ⟨l,rfl⟩
 clear h
 obtain ⟨h1,h2,h3⟩:=Ss hp.symm
 simp only [Option.getD_some] at hl'
 have hll : l.length = l0.length:=by rw [hl',List.length_map]
 have RL : Cc f n l:=by rw [hf,hn]; exact Cc.row (by omega)
 have hl2e : l.filter neB = P9 l0:=by rw [hl',P9]
 have hk2 : l.filter neB = kl/\ke = 0:=by simp only [Prod.mk.injEq] at hk; rw [hl2e]; exact ⟨hk.1.symm,hk.2⟩
 refine ⟨l,_,_,f,rfl,rfl,by subst hD; exact RL,by omega,fun l2 n2 hl2 hn2=>?_⟩
 have hl3 : l2 = kl:=by rw [hl2,hk2.1]
 have R2 : Cc (Fa l2) n2 l2:=by
  rw [hn2]; refine Cc.row ?_
  have : (l.filter neB).length<=l.length:=List.length_filter_le _ _
  rw [hl2]; omega
 obtain ⟨g,hg⟩ : ∃ g,g = Fa l2:=⟨_,rfl⟩
 rw [<-hg] at R2 ⊢
 cbv
 exact Aj4 (f:=g) (l':=l2) (e':=0) hD (by rw [hl3,hk2.2]) hkn hkr R2 rfl (by rw [hknb,hk2.2]; rfl) rfl
end Go.Proofs.YtdoogdbjiijifaaGreatDoor
namespace Go.Proofs.YtdoogdbjiijifaaGreatDoor
open Go Go.Sx
set_option maxRecDepth 10000
set_option maxHeartbeats 2000000
def Ap (c : UInt8) : List UInt8->List UInt8×List UInt8×Bool
 | []=>([],[],false)
 | b :: r=>if b == c then ([],r,true) else (b :: (Ap c r).1,(Ap c r).2)
theorem Rg {c : UInt8} {s : List UInt8} (h : (Ap c s).2.2 = false) : (Ap c s).1 = s/\(Ap c s).2.1 = []/\Lib.indexByte s c = -1:=by
 induction s with
 | nil=>exact ⟨rfl,rfl,rfl⟩
 | cons b r ih =>
  simp only [Ap] at h ⊢
  split at h
  ·cases h
  ·rename_i hb
   obtain ⟨h1,h2,h3⟩:=ih h
   rw [if_neg hb]
   refine ⟨by rw [h1],h2,?_⟩
   rw [Lib.indexByte,if_neg hb,h3]; rfl
theorem Iy {c : UInt8} {s : List UInt8} (h : (Ap c s).2.2 = true) : Lib.indexByte s c = ((Ap c s).1.length : Int)/\(Ap c s).1 = s.take (Ap c s).1.length/\(Ap c s).2.1 = s.drop ((Ap c s).1.length + 1)/\(Ap c s).1.length < s.length:=by
 induction s with
 | nil=>cases h
 | cons b r ih =>
  simp only [Ap] at h ⊢
  by_cases hb : (b == c) = true
  ·simp only [if_pos hb]
   rw [Lib.indexByte,if_pos hb]
   simp
  ·rw [if_neg hb] at h ⊢
   obtain ⟨h1,h2,h3,h4⟩:=ih h
   rw [Lib.indexByte,if_neg hb,h1]
   refine ⟨?_,?_,?_,by simp; omega⟩
   ·rw [if_neg (by simp)]; simp
   ·simp only [List.length_cons,List.take_succ_cons]; rw [<-h2]
   ·simp only [List.length_cons,List.drop_succ_cons]; exact h3
def spIdx1 : FSpec:=fun _ xs ls K=>∃ (s : List UInt8) (c : UInt8),xs = [.str s,.str [c]]/\ls = []/\∀ r : Int,r = Lib.indexByte s c->K (.int .i64 (.a r)) []
theorem Ago : A2 Tryz.prog gl 228 spIdx1:=by
 refine ⟨⟨Tryz.f228,_,Tryz.func228,rfl,by kernel_rfl⟩,fun xs ls K h=>?_⟩
 obtain ⟨s,c,rfl,rfl,h⟩:=h
 refine ⟨_,_,h _ rfl,Bn fun E B w vals _ _ _ hr=>?_⟩
 obtain ⟨v,u,rfl,hv,hu⟩:=D3 hr
 rw [Db hv,Db hu]
 refine (Hy ⟨s.toArray⟩ c w).mono ?_
 rintro e w' ⟨rfl,rfl⟩
 exact ⟨_,rfl,fun E=>.ro (.int rfl),RowKit.Below.refl _ _⟩
def spCut : FSpec:=fun _ xs ls K=>∃ (s : List UInt8) (c : UInt8),xs = [.str s,.str [c]]/\ls = []/\s.length<=100000/\∀ a b t,(a,b,t) = Ap c s->K (.tup [.str a,.str b,.bool (.a t)]) []
theorem Acy {D : Dn} (hD : D = dn) {a b a' b' : List UInt8} {t : Bool} {x : BT} (h : (a,b,t) = (a',b',x.den)) : Fin (.tup [.str a',.str b',.bool (.a (D.b x))]) (.tup [.str a,.str b,.bool (.a t)]) [] []:=by
 subst hD
 simp only [Prod.mk.injEq] at h
 obtain ⟨rfl,rfl,rfl⟩:=h
 exact Gg (LeV.refl _)
theorem Akh : A2 Tryz.prog gl 169 spCut:=by
 refine C9 (gh:=[]) mixed Dp (Af Ago Av) Tryz.func169 (by kernel_rfl) (by kernel_rfl) ?_
 intro xs ls K h
 unfold spCut at h
 obtain ⟨s,c,rfl,rfl,hl,h⟩:=h
 obtain ⟨k,hk⟩ : ∃ k,k = Ap c s:=⟨_,rfl⟩
 obtain ⟨ka,kb,kt⟩:=k
 refine ⟨_,_,h ka kb kt hk,fun D hD=>?_⟩
 clear h
 cbv
 refine ⟨s,c,rfl,rfl,fun r hr=>?_⟩
 cbv
 refine br hD (fun h=>?_) (fun h=>?_)<;>cbv
 ·have h0 : 0<=r:=of_decide_eq_true (p:=0<=r) h
  have hy : (Ap c s).2.2 = true:=by
   cases hb : (Ap c s).2.2 with
   | true=>rfl
   | false=>rw [(Rg hb).2.2] at hr; omega
  obtain ⟨y1,y2,y3,y4⟩:=Iy hy
  rw [<-hk] at y1 y2 y3 y4 hy
  simp only at y1 y2 y3 y4 hy
  rw [<-hr] at y1
  have hk' : (ka,kb,kt) = (ka,kb,true):=by rw [hy]
  clear hk hy h h0 hr
  have yr : ST.den (.a r) = ((ka.length : Nat) : Int):=y1
  have yr2 : ST.den (.bin .add .i64 (.a r) (.len [c])) = ((ka.length + 1 : Nat) : Int):=by
   show IntKind.i64.wrap (r + (([c] : List UInt8).length : Int)) = _
   rw [y1,List.length_singleton,Bk (by omega) (by omega)]; omega
  refine ⟨by subst hD; exact Mw (s:=s) (i:=0) (a:=.l 0) rfl yr (by omega) (by omega),fun r1 hr1=>?_⟩
  have hr1' : r1 = ka:=by
   have:=Rt (i:=0) (a:=.l 0) hD rfl yr hr1
   rw [this]; exact y2.symm
  clear hr1
  cbv
  refine ⟨by subst hD; exact Mw (s:=s) (j:=s.length) (b:=.len s) yr2 rfl (by omega) (Nat.le_refl _),fun r2 hr2=>?_⟩
  have hr2' : r2 = kb:=by
   have:=Rt (j:=s.length) (b:=.len s) hD yr2 rfl hr2
   rw [this,y3]; exact List.take_of_length_le (by simp)
  clear hr2
  cbv
  refine Acy (x:=.l true) hD ?_
  rw [hk',hr1',hr2']; rfl
 ·have h0 : ¬ 0<=r:=of_decide_eq_false (p:=0<=r) h
  have hy : (Ap c s).2.2 = false:=by
   cases hb : (Ap c s).2.2 with
   | false=>rfl
   | true=>rw [(Iy hb).1] at hr; omega
  obtain ⟨y1,y2,y3⟩:=Rg hy
  refine Acy (x:=.l false) hD ?_
  rw [hk]
  exact Prod.ext y1 (Prod.ext y2 hy)
theorem cut_ok : A2 Tryz.prog gl 119 spCut:=by
 refine C9 (gh:=[]) mixed Dp (Af Akh Av) Tryz.func119 (by kernel_rfl) (by kernel_rfl) ?_
 intro xs ls K h
 unfold spCut at h
 obtain ⟨s,c,rfl,rfl,hl,h⟩:=h
 obtain ⟨k,hk⟩ : ∃ k,k = Ap c s:=⟨_,rfl⟩
 obtain ⟨ka,kb,kt⟩:=k
 refine ⟨_,_,h ka kb kt hk,fun D hD=>?_⟩
 clear h
 cbv
 refine ⟨s,c,rfl,rfl,hl,fun a b t he=>?_⟩
 cbv
 exact Acy hD (by rw [hk,<-he]; rfl)
end Go.Proofs.YtdoogdbjiijifaaGreatDoor
namespace Go.Proofs.YtdoogdbjiijifaaGreatDoor
open Go Go.Sx
set_option maxRecDepth 100000
set_option maxHeartbeats 8000000
def G3 (c : Nat) : Int :=
 if (48<=c/\c<=57)\/(65<=c/\c<=90)\/(97<=c/\c<=122)\/c = 45\/c = 46\/c = 95\/c = 126 then 1
 else if c = 33\/c = 36\/(38<=c/\c<=44)\/c = 47\/c = 58\/c = 59\/c = 61\/c = 64 then 2 else 0
def spIdxB : FSpec:=fun _ xs ls K=>∃ (s : List UInt8) (c : Int),xs = [.str s,.int .u8 (.a c)]/\ls = []/\(0<=c/\c<=255)/\∀ r,r = Lib.indexByte s (UInt8.ofNat c.toNat)->K (.int .i64 (.a r)) []
end Go.Proofs.YtdoogdbjiijifaaGreatDoor
namespace Go.Proofs.YtdoogdbjiijifaaGreatDoor
end Go.Proofs.YtdoogdbjiijifaaGreatDoor
