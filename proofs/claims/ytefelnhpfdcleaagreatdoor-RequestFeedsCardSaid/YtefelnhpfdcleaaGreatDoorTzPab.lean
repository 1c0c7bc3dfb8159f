/- Part of the proofs of the statements about requests (layer 7): a symbolic executor over the code, that it is sound, and contracts of functions; it has no conditions of its own. -/
import Derived.Test.YtefelnhpfdcleaaGreatDoorTzPaa
import Derived.Test.YtefelnhpfdcleaaGreatDoorSzPbb
import Derived.Test.YtefelnhpfdcleaaGreatDoorSzPbd
import Derived.Test.YtefelnhpfdcleaaGreatDoorSzPbe
import Derived.Test.YtefelnhpfdcleaaGreatDoorSzPbc
namespace Go.Proofs.YtefelnhpfdcleaaGreatDoor
open Go Go.Sx
set_option maxRecDepth 100000
set_option maxHeartbeats 16000000
theorem Abb (a b : List (List UInt8)) (s : List UInt8) : inF (a ++ b) s = (inF a s || inF b s):=by
 induction a with
 | nil=>rfl
 | cons x a ih=>show ((x == s) || inF (a ++ b) s) = (((x == s) || inF a s) || inF b s); rw [ih,Bool.or_assoc]
theorem Pr {F : List UInt8→Bool} {out : List (List UInt8)} {x : List UInt8} (h : ∀ s,F s = inF out s) (s : List UInt8) : Hc F x s = inF (out ++ [x]) s:=by
 rw [Abb]
 unfold Hc
 show (if s = x then true else F s) = (inF out s || ((x == s) || false))
 rw [h s,Bool.or_false]
 by_cases e : s = x
 ·subst e; simp
 ·rw [if_neg e]
  have : (x == s) = false:=by rw [beq_eq_false_iff_ne]; exact fun h=>e h.symm
  rw [this,Bool.or_false]
theorem Gx : ∀ (els : List (List UInt8)) (F : List UInt8→Bool) (out : List (List UInt8)),(∀ s,F s = inF out s)→∀ s,Gc F els s = inF (out ++ Gu els) s
 | [],F,out,h,s=>by rw [show Gu [] = [] from rfl,List.append_nil]; exact h s
 | x :: els,F,out,h,s=>by
  rw [Kk]
  show Gc (if Br x then Hc F (Ao x) else F) els s = _
  split
  ·have:=Gx els (Hc F (Ao x)) (out ++ [Ao x]) (fun s=>Pr h s) s
   rw [this,List.append_assoc]
   rfl
  ·exact Gx els F out h s
theorem Sl : Ao conn = conn:=by decide
theorem Fd : ∀ (l : List HF) (F : List UInt8→Bool) (out : List (List UInt8)),(∀ s,F s = inF out s)→match Ce (D3 l conn) out with
  | none=>(Ei conn l F).2 = false
  | some o=>(Ei conn l F).2 = true∧∀ s,(Ei conn l F).1 s = inF o s
 | [],F,out,h=>⟨rfl,h⟩
 | x :: l,F,out,h=>by
  rw [Kh,Sl,Ei]
  by_cases hx : Ao x.name = conn
  ·rw [if_pos (by rw [hx]; simp),if_pos hx,Ce]
   by_cases he : (Al x.value).2 = 0
   ·rw [if_pos he,if_neg (by simpa using he)]
    exact Fd l _ _ (Gx _ F out h)
   ·rw [if_neg he,if_pos he]
  ·rw [if_neg (by simpa using hx),if_neg hx]
   exact Fd l F out h
theorem Iq : ∀ (l : List (List UInt8)) (F : List UInt8→Bool) (out : List (List UInt8)),(∀ s,F s = inF out s)→∀ s,(l.foldl Hc F) s = inF (out ++ l) s
 | [],F,out,h,s=>by rw [List.append_nil]; exact h s
 | x :: l,F,out,h,s=>by
  have:=Iq l (Hc F x) (out ++ [x]) (fun s=>Pr h s) s
  rw [List.foldl_cons,this,List.append_assoc]
  rfl
def Hf (o : List (List UInt8)) (l : List HF) : List HF:=l.filter fun x=>!inF o (Ao x.name)
theorem Oj {l : List HF} (h : A7 l = 0) : Bm l = match Ce (D3 l conn) fixedL with
  | none=>([],6)
  | some o=>(Hf o l,0):=by
 have hb : ∀ s,Kq s = inF fixedL s:=by
  intro s
  have:=Iq fixedL (fun _=>false) [] (fun s=>rfl) s
  rw [List.nil_append] at this
  exact this
 have hn:=Fd l Kq fixedL hb
 unfold Bm F8
 rw [if_neg (by rw [h]; simp)]
 cases hk : Ce (D3 l conn) fixedL with
 | none=>rw [hk] at hn; simp only at hn; rw [if_neg (by rw [hn]; simp)]
 | some o =>
  rw [hk] at hn
  simp only at hn
  rw [if_pos hn.1]
  unfold E4 Hf
  congr 1
  congr 1
  funext x
  unfold Lr
  rw [hn.2]
def spStripR : FSpec:=fun _ xs ls K=>∃ (l : List HF) (nl : Bool) (n : Int) (f : Nat→List SV),xs = [.sl (.a nl) (.a n) 2 f]∧ls = []∧A9 f n l∧∀ r e g n' b,(r,e) = Bm l→GrH g n' b r→K (.tup [.sl (.a b) (.a n') 2 g,.int .i64 (.a e)]) []
structure StJ (l : List HF) (o : List (List UInt8)) (k out : List HF) (i : Nat) (I n : Int) (b : Bool) (f : Nat→List SV) (m : Nat) : Prop where
 lie : AtR l i I m
 row : GrH f n b out
 ol : out.length≤i
 k : k = out ++ Hf o (l.drop i)
def stJ (l : List HF) (o : List (List UInt8)) (k : List HF) (nl : Bool) (N : Int) (F : Nat→List SV) (bo : Bool) (no : Int) (go : Nat→List SV) (m : Nat) (vs : List (Option SV)) (hp : List Hl) : Prop :=
 ∃ (out : List HF) (i : Nat) (I n : Int) (b : Bool) (f : Nat→List SV),vs = [some (.sl (.a nl) (.a N) 2 F),some (.sl (.a bo) (.a no) 1 go),some (.gsl (.a b) (.a n) 2 f 0),some (.int .i64 (.a I))]∧hp = [.tail 69 (.a n) 2]∧StJ l o k out i I n b f m
theorem O1 (o : List (List UInt8)) (x : HF) (l : List HF) : Hf o (x :: l) = if !inF o (Ao x.name) then x :: Hf o l else Hf o l:=by
 unfold Hf
 rw [List.filter_cons]
theorem Jb : Ar Tryz.prog gl 25 spStripR:=by
 refine A4 (gh:=[(7,[.attach 6 69])]) mixed A0 (Aa Jc (Aa Vz (Aa D1 (Aa Af5 Ae)))) Tryz.func25 (by kernel_rfl) (by kernel_rfl) ?_
 intro xs ls K h
 unfold spStripR at h
 obtain ⟨l,nl,N,F,rfl,rfl,R,h⟩:=h
 obtain ⟨k,hk⟩ : ∃ k,k = Bm l:=⟨_,rfl⟩
 obtain ⟨kr,ke⟩:=k
 have hkb : kr.length≤1000000∧∀ x∈kr,x.small:=by
  unfold Bm at hk
  split at hk
  ·obtain ⟨rfl,_⟩:=Prod.mk.inj hk; exact ⟨by simp,fun x hx=>by cases hx⟩
  ·rename_i h1
   have:=Di (l:=l) (by simpa using h1)
   split at hk
   ·obtain ⟨rfl,_⟩:=Prod.mk.inj hk
    refine ⟨Nat.le_trans (List.length_filter_le ..) (by omega),fun x hx=>R.smallM x (List.mem_filter.1 hx).1⟩
   ·obtain ⟨rfl,_⟩:=Prod.mk.inj hk; exact ⟨by simp,fun x hx=>by cases hx⟩
 obtain ⟨f1,n1,b1,hG⟩ : ∃ f1 n1 b1,GrH f1 n1 b1 kr:=⟨_,_,_,⟨A9.row (by omega) (fun i hi=>hkb.2 _ (by rw [List.getD_eq_getElem?_getD,List.getElem?_eq_getElem hi]; exact List.getElem_mem hi)),rfl⟩⟩
 clear hkb
 refine ⟨_,_,h kr ke f1 n1 b1 hk hG,fun D hD=>?_⟩
 cbv
 clear h
 refine ⟨l,nl,N,F,by subst hD; rfl,rfl,R,fun c hc=>?_⟩
 cbv
 refine br hD (fun h=>?_) (fun h=>?_)<;>cbv
 ·have h : (c != 0) = true:=h
  have h1 : c≠0:=by simpa using h
  unfold Bm at hk
  rw [←hc,if_pos h1] at hk
  obtain ⟨rfl,rfl⟩:=Prod.mk.inj hk
  subst hD
  exact D6 (.tup (.cons (Oa GrH.nil hG rfl rfl) (.cons (E7 rfl) .nil)))
 have h : (c != 0) = false:=h
 have h1 : A7 l = 0:=by rw [←hc]; simpa using h
 have hlen:=Di h1
 rw [Oj h1] at hk
 clear h hc
 refine ⟨l,nl,N,F,by subst hD; rfl,rfl,R,h1,fun q o e go no bo hq ho he Go=>?_⟩
 cbv
 rw [←hq] at hk
 clear hq h1
 refine br hD (fun h=>?_) (fun h=>?_)<;>cbv
 ·have h : (e != 0) = true:=h
  have hqn : q = none:=by
   cases q with
   | none=>rfl
   | some _=>rw [he] at h; cases h
  subst hqn
  have he : e = 6:=he
  obtain ⟨rfl,rfl⟩:=Prod.mk.inj hk
  subst he
  subst hD
  exact D6 (.tup (.cons (Oa GrH.nil hG rfl rfl) (.cons (E7 rfl) .nil)))
 have h : (e != 0) = false:=h
 have hqs : ∃ o',q = some o':=by
  cases q with
  | none=>rw [he] at h; cases h
  | some o'=>exact ⟨o',rfl⟩
 obtain ⟨o',rfl⟩:=hqs
 have ho : o = o':=ho
 subst ho
 obtain ⟨hkr,hke⟩:=Prod.mk.inj hk
 clear hk he h
 obtain ⟨J,hJ⟩ : ∃ J,J = stJ l o kr nl N F bo no go:=⟨_,rfl⟩
 refine ⟨[0,5,6,7],J,⟨rfl,l.length,?_⟩,?_⟩
 ·rw [hJ]
  subst hD
  exact ⟨[],0,_,_,_,_,rfl,rfl,⟨AtR.zero R.len,GrH.nil,Nat.le_refl _,hkr⟩⟩
 clear hkr
 intro m vs hp hj
 rw [hJ] at hj
 obtain ⟨out,i,I,n,b,f,rfl,rfl,V⟩:=hj
 cbv
 refine br hD (fun h=>?_) (fun h=>?_)<;>cbv
 ·have hlt:=V.lie.lt R.n (of_decide_eq_true (p:=I < N) h)
  clear h
  have inA:=V.lie.inB hD R.n hlt
  have hx:=R.f i hlt
  have hsm:=R.small i hlt
  have hst:=V.lie.step hD hlt
  have hk:=V.k
  rw [M7 hlt,O1] at hk
  obtain ⟨x,hxx⟩ : ∃ x,x = l.getD i default:=⟨_,rfl⟩
  rw [←hxx] at hx hk hsm
  clear hxx
  obtain ⟨xn,xv⟩:=x
  refine ⟨inA,fun j hj=>?_⟩
  have hj:=V.lie.j hD hj
  cbv
  rw [hj,hx]
  cbv
  refine ⟨xn,rfl,rfl,hsm.1,fun w hw=>?_⟩
  cbv
  refine ⟨o,w,bo,no,go,by subst hD; rfl,rfl,Go.row,fun r hr=>?_⟩
  cbv
  simp only at hk
  rw [←hw,←hr] at hk
  clear hr hj hw
  refine br hD (fun h=>?_) (fun h=>?_)<;>cbv
  ·have h : (!r) = true:=h
   rw [if_pos h] at hk
   clear h
   refine ⟨inA,fun j hj=>?_⟩
   have hj:=V.lie.j hD hj
   cbv
   rw [hj,hx]
   cbv
   clear hj
   intro g hg
   cbv
   have hg0 : g 0 = B6 ⟨xn,xv⟩:=hg.h 0 _ rfl
   clear hg
   refine ⟨by subst hD; exact ⟨rfl,by have:=V.row.row.n; have:=V.ol; show (n + 1) * 32≤_; omega,by have:=V.row.row.n; have:=V.ol; show n + 1≤_; omega⟩,fun f' n' hm=>?_⟩
   cbv
   have G2 : ∀ nl',nl' = false→GrH f' n' nl' (out ++ [⟨xn,xv⟩]):=fun nl' hb=>V.row.more hg0 hsm (by subst hD; exact hm) (by have:=V.ol; omega) hb
   clear hm
   refine ⟨_,hst.1,?_⟩
   rw [hJ]
   unfold stJ
   subst hD
   refine ⟨out ++ [⟨xn,xv⟩],i + 1,_,n',(b && false),f',rfl,rfl,⟨hst.2,G2 _ (Bool.and_false _),by have:=V.ol; simp; omega,by rw [hk]; simp⟩⟩
  ·have h : (!r) = false:=h
   rw [if_neg (by rw [h]; simp)] at hk
   refine ⟨_,hst.1,?_⟩
   rw [hJ]
   unfold stJ
   subst hD
   exact ⟨out,i + 1,_,n,b,f,rfl,rfl,⟨hst.2,V.row,by have:=V.ol; omega,hk⟩⟩
 have hi:=V.lie.eq R.n (of_decide_eq_false (p:=I < N) h)
 have hdn : l.drop i = []:=List.drop_eq_nil_of_le (by omega)
 have hk:=V.k
 rw [hdn] at hk
 have hk : kr = out:=by rw [hk]; simp [Hf]
 subst hk
 subst hke
 subst hD
 exact D6 (.tup (.cons (Oa V.row hG rfl rfl) (.cons (E7 rfl) .nil)))
end Go.Proofs.YtefelnhpfdcleaaGreatDoor
namespace Go.Proofs.YtefelnhpfdcleaaGreatDoor
open Go Go.Sx
set_option maxRecDepth 100000
set_option maxHeartbeats 8000000
theorem val_09 {c : Int} (h : 48≤c∧c≤57) : Bx c = c - 48:=by unfold Bx; rw [if_pos h]
theorem val_AF {c : Int} (h : 65≤c∧c≤70) : Bx c = c - 55:=by unfold Bx; rw [if_neg (by omega),if_pos h]
theorem val_af {c : Int} (h : 97≤c∧c≤102) : Bx c = c - 87:=by unfold Bx; rw [if_neg (by omega),if_neg (by omega),if_pos h]
theorem val_no {c : Int} (h1 : ¬ (48≤c∧c≤57)) (h2 : ¬ (65≤c∧c≤70)) (h3 : ¬ (97≤c∧c≤102)) : Bx c = -1:=by unfold Bx; rw [if_neg h1,if_neg h2,if_neg h3]
theorem hex_ok : Ar Tryz.prog gl 82 spValue:=by
 refine A4 (gh:=[]) mixed A0 Ae Tryz.func82 (by kernel_rfl) (by kernel_rfl) ?_
 intro xs ls K h
 unfold spValue at h
 obtain ⟨c,rfl,rfl,hc,h⟩:=h
 obtain ⟨k,hk⟩ : ∃ k,k = Bx c:=⟨_,rfl⟩
 refine ⟨_,_,h k hk,fun D hD=>?_⟩
 cbv
 clear h
 have w : ∀ n : Int,-1000≤n→n≤1000→IntKind.i64.wrap n = n:=fun n a b=>Am (by omega) (by omega)
 refine br hD (fun h=>?_) (fun h=>?_)<;>cbv
 ·have h2 : 48≤c∧c≤57:=by simpa using h
  refine Bq hD ?_
  rw [hk,val_09 h2]
  show IntKind.i64.wrap (IntKind.u8.wrap (c - 48)) = _
  rw [Pn (by omega) (by omega),w _ (by omega) (by omega)]
 have h2 : ¬ (48≤c∧c≤57):=by simpa using h
 clear h
 refine br hD (fun h=>?_) (fun h=>?_)<;>cbv
 ·have h3 : 97≤c∧c≤102:=by simpa using h
  refine Bq hD ?_
  rw [hk,val_af h3]
  show IntKind.i64.wrap (IntKind.i64.wrap (IntKind.u8.wrap (c - 97)) + 10) = _
  rw [Pn (by omega) (by omega),w (c - 97) (by omega) (by omega),w _ (by omega) (by omega)]
  omega
 have h3 : ¬ (97≤c∧c≤102):=by simpa using h
 clear h
 refine br hD (fun h=>?_) (fun h=>?_)<;>cbv
 ·have h4 : 65≤c∧c≤70:=by simpa using h
  refine Bq hD ?_
  rw [hk,val_AF h4]
  show IntKind.i64.wrap (IntKind.i64.wrap (IntKind.u8.wrap (c - 65)) + 10) = _
  rw [Pn (by omega) (by omega),w (c - 65) (by omega) (by omega),w _ (by omega) (by omega)]
  omega
 have h4 : ¬ (65≤c∧c≤70):=by simpa using h
 refine Bq hD ?_
 rw [hk,val_no h2 h4 h3]; rfl
def Oq (c : Int) : Bool:=decide (Cb c.toNat = 1)
def spPlainR : FSpec:=fun _ xs ls K=>∃ (c : Int),xs = [.int .u8 (.a c)]∧ls = []∧(0≤c∧c≤255)∧∀ r,r = Oq c→K (.bool (.a r)) []
theorem Afh {c : Int} (hc : 0≤c∧c≤255) : Oq c = true↔((((((97≤c∧c≤122)∨(65≤c∧c≤90))∨(48≤c∧c≤57))∨c = 45)∨c = 46)∨c = 95)∨c = 126:=by
 unfold Oq Cb
 rw [decide_eq_true_eq]
 split
 ·constructor
  ·intro _; omega
  ·intro _; rfl
 ·split
  ·constructor
   ·intro h; cases h
   ·intro _; omega
  ·constructor
   ·intro h; cases h
   ·intro _; omega
theorem Aiy : Ar Tryz.prog gl 76 spPlainR:=by
 refine A4 (gh:=[]) mixed A0 Ae Tryz.func76 (by kernel_rfl) (by kernel_rfl) ?_
 intro xs ls K h
 unfold spPlainR at h
 obtain ⟨c,rfl,rfl,hc,h⟩:=h
 obtain ⟨k,hk⟩ : ∃ k,k = Oq c:=⟨_,rfl⟩
 refine ⟨_,_,h k hk,fun D hD=>?_⟩
 cbv
 clear h
 refine Aj hD ?_
 rw [hk,Bool.eq_iff_iff,Afh hc]
 show (((((((decide (97≤c) && decide (c≤122)) || (decide (65≤c) && decide (c≤90))) || (decide (48≤c) && decide (c≤57))) || (c == 45)) || (c == 46)) || (c == 95)) || (c == 126)) = true↔_
 simp only [Bool.or_eq_true,Bool.and_eq_true,decide_eq_true_eq,beq_iff_eq]
def Ep (c : Int) (s : List UInt8) : Bool:=s.any fun b=>((b.toNat : Int) == c)
def spAmong : FSpec:=fun _ xs ls K=>∃ (c : Int) (s : List UInt8),xs = [.int .u8 (.a c),.str s]∧ls = []∧s.length≤9223372036854775807∧∀ r,r = Ep c s→K (.bool (.a r)) []
def amJ (c : Int) (s : List UInt8) (k : Bool) (m : Nat) (vs : List (Option SV)) (hp : List Hl) : Prop :=
 ∃ (i : Nat) (I : Int),vs = [some (.int .u8 (.a c)),some (.str s),some (.int .i64 (.a I))]∧hp = []∧At s i I m∧k = Ep c (s.drop i)
theorem Aef : Ar Tryz.prog gl 77 spAmong:=by
 refine A4 (gh:=[]) mixed A0 Ae Tryz.func77 (by kernel_rfl) (by kernel_rfl) ?_
 intro xs ls K h
 unfold spAmong at h
 obtain ⟨c,s,rfl,rfl,hs,h⟩:=h
 obtain ⟨k,hk⟩ : ∃ k,k = Ep c s:=⟨_,rfl⟩
 refine ⟨_,_,h k hk,fun D hD=>?_⟩
 cbv
 clear h
 obtain ⟨J,hJ⟩ : ∃ J,J = amJ c s k:=⟨_,rfl⟩
 refine ⟨[0,1,5],J,⟨rfl,s.length,?_⟩,?_⟩
 ·rw [hJ]
  subst hD
  exact ⟨0,0,rfl,rfl,At.zero hs,hk⟩
 intro m vs hp hv
 rw [hJ] at hv
 unfold amJ at hv
 obtain ⟨i,I,rfl,rfl,V,hk2⟩:=hv
 clear hk
 cbv
 refine br hD (fun h=>?_) (fun h=>?_)<;>cbv
 ·have hlt:=V.lt (of_decide_eq_true (p:=I < (s.length : Int)) h)
  clear h
  rw [Bf hlt] at hk2
  refine ⟨V.inS hD hlt,fun b hb=>?_⟩
  cbv
  have hb2:=Cl hD V.I hb
  have hst:=V.step hD hlt
  refine br hD (fun h=>?_) (fun h=>?_)<;>cbv
  ·have h : (b == c) = true:=h
   refine Aj hD ?_
   rw [hk2]
   show true = (((s.getD i 0).toNat : Int) == c || Ep c _)
   have h3:=hb2.charI
   unfold charI at h3
   rw [←h3,h]; rfl
  ·have h : (b == c) = false:=h
   refine ⟨_,hst.1,?_⟩
   rw [hJ]
   unfold amJ
   subst hD
   refine ⟨i + 1,_,rfl,rfl,hst.2,?_⟩
   rw [hk2]
   show (((s.getD i 0).toNat : Int) == c || Ep c _) = _
   have h3:=hb2.charI
   unfold charI at h3
   rw [←h3,h,Bool.false_or]
 have he:=V.eq (of_decide_eq_false (p:=I < (s.length : Int)) h)
 refine Aj hD ?_
 rw [hk2,List.drop_eq_nil_of_le (by omega)]; rfl
def spEncd : FSpec:=fun _ xs ls K=>∃ (s : List UInt8) (i : Nat) (I : Int),xs = [.str s,.int .i64 (.a I)]∧ls = []∧I = i∧s.length≤1000000∧i≤s.length∧∀ r,r = Ct s i→K (.bool (.a r)) []
structure EnV (s : List UInt8) (i : Nat) (I : Int) : Prop where
 I : I = i
 len : s.length≤1000000
 le : i≤s.length
theorem Agf : Ar Tryz.prog gl 75 spEncd:=by
 refine A4 (gh:=[]) mixed A0 (Aa hex_ok Ae) Tryz.func75 (by kernel_rfl) (by kernel_rfl) ?_
 intro xs ls K h
 unfold spEncd at h
 obtain ⟨s,i,I,rfl,rfl,hI,hs,hi,h⟩:=h
 obtain ⟨k,hk⟩ : ∃ k,k = Ct s i:=⟨_,rfl⟩
 have V : EnV s i I:=⟨hI,hs,hi⟩
 clear hI hs hi
 refine ⟨_,_,h k hk,fun D hD=>?_⟩
 cbv
 clear h
 have w1 : IntKind.i64.wrap (I + 1) = I + 1:=by have:=V.I; have:=V.len; have:=V.le; exact Am (by omega) (by omega)
 have w2 : IntKind.i64.wrap (I + 2) = I + 2:=by have:=V.I; have:=V.len; have:=V.le; exact Am (by omega) (by omega)
 have hlt : decide (IntKind.i64.wrap (I + 2) < (s.length : Int)) = true→i + 2 < s.length:=fun hg=>by
  have h:=of_decide_eq_true hg
  rw [w2] at h
  have:=V.I; omega
 refine ⟨fun hg=>?_,fun c hc=>?_⟩
 ·subst hD
  have:=hlt hg
  exact ⟨by show 0≤I; have:=V.I; omega,by show I < _; have:=V.I; omega⟩
 cbv
 have hc2 : C4 c s i:=Cl hD V.I hc
 clear hc
 refine ⟨fun hg=>?_,fun x hx=>?_⟩
 ·subst hD
  have hg : (decide (IntKind.i64.wrap (I + 2) < (s.length : Int)) && (c == 37)) = true:=hg
  have:=hlt (Bool.and_eq_true_iff.1 hg).1
  exact ⟨by show 0≤IntKind.i64.wrap (I + 1); rw [w1]; have:=V.I; omega,by show IntKind.i64.wrap (I + 1) < _; rw [w1]; have:=V.I; omega⟩
 cbv
 have hx2 : C4 x s (i + 1):=Co hD (e:=.bin .add .i64 (.a I) (.l 1)) (by show IntKind.i64.wrap (I + 1) = _; rw [w1,V.I]; rfl) hx
 clear hx
 refine ⟨_,rfl,rfl,by subst hD; exact hx2.le,fun a ha=>?_⟩
 cbv
 have ha : a = Bx x:=by subst hD; exact ha
 refine ⟨fun hg=>?_,fun y hy=>?_⟩
 ·subst hD
  have hg : ((decide (IntKind.i64.wrap (I + 2) < (s.length : Int)) && (c == 37)) && decide (0≤a)) = true:=hg
  have:=hlt (Bool.and_eq_true_iff.1 (Bool.and_eq_true_iff.1 hg).1).1
  exact ⟨by show 0≤IntKind.i64.wrap (I + 2); rw [w2]; have:=V.I; omega,by show IntKind.i64.wrap (I + 2) < _; rw [w2]; have:=V.I; omega⟩
 cbv
 have hy2 : C4 y s (i + 2):=Co hD (e:=.bin .add .i64 (.a I) (.l 2)) (by show IntKind.i64.wrap (I + 2) = _; rw [w2,V.I]; rfl) hy
 clear hy
 refine ⟨_,rfl,rfl,by subst hD; exact hy2.le,fun b hb=>?_⟩
 cbv
 have hb : b = Bx y:=by subst hD; exact hb
 refine Aj hD ?_
 rw [hk]
 show (((decide (IntKind.i64.wrap (I + 2) < (s.length : Int)) && (c == 37)) && decide (0≤a)) && decide (0≤b)) = _
 have hP : Qj s i↔(i + 2 < s.length∧c = 37∧0≤a∧0≤b):=by
  unfold Qj
  rw [←hc2.charI,←hx2.charI,←hy2.charI,←ha,←hb]
 unfold Ct
 rw [w2,Bool.eq_iff_iff]
 simp only [Bool.and_eq_true,decide_eq_true_eq,beq_iff_eq]
 rw [hP]
 have:=V.I
 constructor
 ·rintro ⟨⟨⟨h1,h2⟩,h3⟩,h4⟩; exact ⟨by omega,h2,h3,h4⟩
 ·rintro ⟨h1,h2,h3,h4⟩; exact ⟨⟨⟨by omega,h2⟩,h3⟩,h4⟩
end Go.Proofs.YtefelnhpfdcleaaGreatDoor
namespace Go.Proofs.YtefelnhpfdcleaaGreatDoor
open Go Go.Sx
set_option maxRecDepth 100000
set_option maxHeartbeats 8000000
def spDig (k : Nat) : FSpec:=fun _ xs ls K=>∃ (n : Int),xs = [.int .i64 (.a n)]∧ls = []∧0≤n∧n < k∧n≤9223372036854775807∧∀ r,r = Lib.decDigits n.toNat→K (.str r) []
theorem dig_len {n : Int} (h : 0≤n) (h2 : n≤9223372036854775807) : (Lib.decDigits n.toNat).length≤20:=by
 rw [Lib.decDigits_length]
 exact Lib.nDigits_le20 _ (by omega)
structure DgV (n : Int) (k : Nat) : Prop where
 lo : 0≤n
 lt : n < (k + 1 : Nat)
 hi : n≤9223372036854775807
structure HpE2 (n : Int) (k : Nat) : Prop where
 h : n < k
theorem O9 : ∀ k,Ar Tryz.prog gl 86 (spDig k)
 | 0=>by
  refine ⟨⟨Tryz.f86,_,Tryz.func86,rfl,by kernel_rfl⟩,fun xs ls K h=>?_⟩
  obtain ⟨n,_,_,h0,h1,_⟩:=h
  omega
 | k + 1=>by
  refine A4 (gh:=[]) mixed A0 (Aa (O9 k) Ae) Tryz.func86 (by kernel_rfl) (by kernel_rfl) ?_
  intro xs ls K h
  unfold spDig at h
  obtain ⟨n,rfl,rfl,h0,hnk,h2,h⟩:=h
  obtain ⟨q,hq⟩ : ∃ q,q = Lib.decDigits n.toNat:=⟨_,rfl⟩
  have V : DgV n k:=⟨h0,hnk,h2⟩
  clear h0 hnk h2
  refine ⟨_,_,h q hq,fun D hD=>?_⟩
  cbv
  clear h
  refine br hD (fun h=>?_) (fun h=>?_)<;>cbv
  ·have h9 : 9 < n:=by
    have h : (decide (9 < n) || decide (n < -9)) = true:=h
    simp only [Bool.or_eq_true,decide_eq_true_eq] at h
    have:=V.lo
    omega
   clear h
   have hrem : Bg .rem .i64 n 10 = n % 10:=by
    show n.tmod 10 = _
    exact Int.tmod_eq_emod_of_nonneg V.lo
   have hquo : Bg .quo .i64 n 10 = n / 10:=by
    show IntKind.i64.wrap (n.tdiv 10) = _
    rw [Int.tdiv_eq_ediv_of_nonneg V.lo]
    have:=V.lo; have:=V.hi
    exact Am (by omega) (by omega)
   have W : DgV (n / 10) k:=⟨by have:=V.lo; omega,by have:=V.lo; have:=V.lt; omega,by have:=V.lo; have:=V.hi; omega⟩
   have hlt : n / 10 < k:=by have:=V.lo; have:=V.lt; omega
   have hw : IntKind.u8.wrap (IntKind.i64.wrap (48 + Bg .rem .i64 n 10)) = 48 + n % 10:=by
    rw [hrem,Am (by omega) (by omega)]
    exact Pn (by omega) (by omega)
   have hdd : Lib.decDigits n.toNat = Lib.decDigits (n / 10).toNat ++ [UInt8.ofNat (48 + n.toNat % 10)]:=by
    rw [Lib.decDigits,dif_neg (by have:=V.lo; omega)]
    congr 3
    have:=V.lo; omega
   rw [hdd] at hq
   have hu8 : ((UInt8.ofNat (48 + n.toNat % 10)).toNat : Int) = 48 + n % 10:=by
    rw [UInt8.toNat_ofNat']
    have:=V.lo; omega
   have HU : VI (IntKind.u8.wrap (IntKind.i64.wrap (48 + Bg .rem .i64 n 10))) (UInt8.ofNat (48 + n.toNat % 10)).toNat:=⟨by rw [hw,hu8]⟩
   clear hw hu8
   have HV : HpE2 (n / 10) k:=⟨hlt⟩
   clear hlt hdd
   refine ⟨⟨by subst hD; decide⟩,?_⟩
   refine br hD (fun h=>?_) (fun h=>?_)<;>cbv
   ·exfalso
    have h : decide (Bg .rem .i64 n 10 < 0) = true:=h
    rw [hrem] at h
    have:=of_decide_eq_true h
    have:=V.lo; omega
   clear h
   refine ⟨⟨by subst hD; decide⟩,_,rfl,rfl,by subst hD; show 0≤Bg .quo .i64 n 10; rw [hquo]; exact W.lo,by subst hD; show Bg .quo .i64 n 10 < _; rw [hquo]; exact HV.h,by subst hD; show Bg .quo .i64 n 10≤_; rw [hquo]; exact W.hi,fun r hr=>?_⟩
   cbv
   have hr : r = Lib.decDigits (n / 10).toNat:=by
    subst hD
    have hr : r = Lib.decDigits (Bg .quo .i64 n 10).toNat:=hr
    rw [hquo] at hr
    exact hr
   have hrl : r.length≤20:=by rw [hr]; exact dig_len W.lo W.hi
   rw [←hr] at hq
   clear hr
   obtain ⟨c8,hc8⟩ : ∃ c8,c8 = UInt8.ofNat (48 + n.toNat % 10):=⟨_,rfl⟩
   rw [←hc8] at hq HU
   intro g hg
   cbv
   have R : Bn g 1 [c8]:=by
    refine ⟨rfl,fun i hi=>?_⟩
    have hi : i < 1:=hi
    obtain rfl : i = 0:=by omega
    subst hD
    have h5 : g 0 = [.int .u8 (.a (IntKind.u8.wrap (IntKind.i64.wrap (48 + Bg .rem .i64 n 10))))]:=hg.h 0 _ rfl
    rw [h5,HU.h]
    rfl
   clear hg
   refine ⟨by subst hD; exact R.byte,fun w hw2=>?_⟩
   cbv
   have hw2 : w = [c8]:=by subst hD; exact R.str hw2
   refine ⟨⟨by rw [hw2]; simp only [List.length_cons,List.length_nil]; omega⟩,fun t ht=>?_⟩
   cbv
   have ht:=ht.h
   exact Is (by rw [ht,hw2,hq])
  have h9 : n≤9:=by
   have h : (decide (9 < n) || decide (n < -9)) = false:=h
   simp only [Bool.or_eq_false_iff,decide_eq_false_iff_not] at h
   omega
  clear h
  have hdd : Lib.decDigits n.toNat = [UInt8.ofNat (48 + n.toNat)]:=by
   rw [Lib.decDigits,dif_pos (by have:=V.lo; omega)]
  rw [hdd] at hq
  have hw : IntKind.u8.wrap (IntKind.i64.wrap (48 + n)) = 48 + n:=by
   have:=V.lo
   rw [Am (by omega) (by omega)]
   exact Pn (by omega) (by omega)
  have hu8 : ((UInt8.ofNat (48 + n.toNat)).toNat : Int) = 48 + n:=by
   rw [UInt8.toNat_ofNat']
   have:=V.lo; omega
  have HU : VI (IntKind.u8.wrap (IntKind.i64.wrap (48 + n))) (UInt8.ofNat (48 + n.toNat)).toNat:=⟨by rw [hw,hu8]⟩
  clear hw hu8 hdd
  obtain ⟨c8,hc8⟩ : ∃ c8,c8 = UInt8.ofNat (48 + n.toNat):=⟨_,rfl⟩
  rw [←hc8] at hq HU
  refine br hD (fun h=>?_) (fun h=>?_)<;>cbv
  ·exfalso
   have h : decide (n < 0) = true:=h
   have:=of_decide_eq_true h
   have:=V.lo; omega
  clear h
  intro g hg
  cbv
  have R : Bn g 1 [c8]:=by
   refine ⟨rfl,fun i hi=>?_⟩
   have hi : i < 1:=hi
   obtain rfl : i = 0:=by omega
   subst hD
   have h5 : g 0 = [.int .u8 (.a (IntKind.u8.wrap (IntKind.i64.wrap (48 + n))))]:=hg.h 0 _ rfl
   rw [h5,HU.h]
   rfl
  clear hg
  refine ⟨by subst hD; exact R.byte,fun w hw2=>?_⟩
  cbv
  have hw2 : w = [c8]:=by subst hD; exact R.str hw2
  exact Is (by rw [hw2,hq])
def spDigits : FSpec:=fun _ xs ls K=>∃ (n : Int),xs = [.int .i64 (.a n)]∧ls = []∧0≤n∧n≤9223372036854775807∧∀ r,r = Lib.itoa n→K (.str r) []
theorem Ady : Ar Tryz.prog gl 86 spDigits:=by
 refine ⟨(O9 0).1,fun xs ls K h=>?_⟩
 obtain ⟨n,rfl,rfl,h0,h2,h⟩:=h
 refine (O9 (n.toNat + 1)).2 _ _ _ ⟨n,rfl,rfl,h0,by omega,h2,fun r hr=>h r ?_⟩
 rw [hr,Lib.itoa,if_neg (by omega)]
end Go.Proofs.YtefelnhpfdcleaaGreatDoor
namespace Go.Proofs.YtefelnhpfdcleaaGreatDoor
open Go Go.Sx
set_option maxRecDepth 100000
set_option maxHeartbeats 8000000
def Adj (c : Int) : Bool:=((decide (97≤c) && decide (c≤122)) || (decide (48≤c) && decide (c≤57))) || Ep c [45,46,58]
theorem Ajq : ∀ c : Fin 256,Adj (c.1 : Int) = No.contains (UInt8.ofNat c.1):=by decide +kernel
theorem Adi (b : UInt8) : No.contains b = Adj (b.toNat : Int):=by
 have:=Ajq ⟨b.toNat,b.toNat_lt⟩
 simp only [UInt8.ofNat_toNat] at this
 exact this.symm
def Ul (s : List UInt8) : Bool:=s.all fun b=>Adj (b.toNat : Int)
theorem Ajp (s : List UInt8) : Oc s = (s != [] && (decide (s.length≤100) && Ul s)):=by
 unfold Oc Ul
 congr 2
 rw [Bool.eq_iff_iff,beq_iff_eq,List.all_eq_true]
 constructor
 ·intro h c hc
  rw [←Adi]
  exact Ng h c hc
 ·intro h
  show ((s.reverse.dropWhile (fun x=>No.contains x)).reverse).dropWhile (fun x=>No.contains x) = []
  rw [Dh]
  intro x hx
  have hx:=List.mem_reverse.1 hx
  have hx : x∈s.reverse:=(List.dropWhile_suffix _).subset hx
  rw [Adi]
  exact h x (List.mem_reverse.1 hx)
def hoJ (s : List UInt8) (k : Bool) (m : Nat) (vs : List (Option SV)) (hp : List Hl) : Prop :=
 ∃ (i : Nat) (I : Int),vs = [some (.str s),some (.int .i64 (.a I))]∧hp = []∧At s i I m∧k = Ul (s.drop i)
theorem Afb : Ar Tryz.prog gl 68 (C5 Oc):=by
 refine A4 (gh:=[]) mixed A0 (Aa Aef Ae) Tryz.func68 (by kernel_rfl) (by kernel_rfl) ?_
 intro xs ls K h
 unfold C5 at h
 obtain ⟨s,rfl,rfl,hs,h⟩:=h
 obtain ⟨k,hk⟩ : ∃ k,k = Oc s:=⟨_,rfl⟩
 refine ⟨_,_,h k hk,fun D hD=>?_⟩
 cbv
 clear h
 rw [Ajp] at hk
 refine br hD (fun h=>?_) (fun h=>?_)<;>cbv
 ·have h : (decide ((s.length : Int) < 1) || decide (100 < (s.length : Int))) = true:=h
  simp only [Bool.or_eq_true,decide_eq_true_eq] at h
  refine Aj hD ?_
  rw [hk]
  symm
  show _ = false
  rcases h with h | h
  ·have : s = []:=List.eq_nil_of_length_eq_zero (by omega)
   rw [this]; rfl
  ·rw [decide_eq_false (show ¬ s.length≤100 by omega)]
   simp
 have h : (decide ((s.length : Int) < 1) || decide (100 < (s.length : Int))) = false:=h
 simp only [Bool.or_eq_false_iff,decide_eq_false_iff_not] at h
 have hne : s≠[]:=by rintro rfl; simp at h
 rw [decide_eq_true (show s.length≤100 by omega),Bool.true_and] at hk
 have hne2 : (s != []) = true:=by simpa using hne
 rw [hne2,Bool.true_and] at hk
 clear h hne hne2
 obtain ⟨J,hJ⟩ : ∃ J,J = hoJ s k:=⟨_,rfl⟩
 refine ⟨[0,3],J,⟨rfl,s.length,?_⟩,?_⟩
 ·rw [hJ]
  subst hD
  exact ⟨0,0,rfl,rfl,At.zero hs,hk⟩
 intro m vs hp hv
 rw [hJ] at hv
 unfold hoJ at hv
 obtain ⟨i,I,rfl,rfl,V,hk2⟩:=hv
 clear hk
 cbv
 refine br hD (fun h=>?_) (fun h=>?_)<;>cbv
 ·have hlt:=V.lt (of_decide_eq_true (p:=I < (s.length : Int)) h)
  clear h
  rw [Bf hlt] at hk2
  have hk2 : k = (Adj ((s.getD i 0).toNat : Int) && Ul (s.drop (i + 1))):=hk2
  have hst:=V.step hD hlt
  have inS:=V.inS hD hlt
  refine ⟨inS,fun b hb=>?_⟩
  cbv
  have hb2:=Cl hD V.I hb
  clear hb
  refine ⟨fun _=>inS,fun b1 hb=>?_⟩
  cbv
  have e1 : b1 = b:=by rw [(Cl hD V.I hb).h,hb2.h]
  subst e1
  clear hb
  refine ⟨fun _=>inS,fun b3 hb=>?_⟩
  cbv
  have e1 : b3 = b1:=by rw [(Cl hD V.I hb).h,hb2.h]
  subst e1
  clear hb
  refine ⟨fun _ _=>inS,fun b4 hb=>?_⟩
  cbv
  have e1 : b4 = b3:=by rw [(Cl hD V.I hb).h,hb2.h]
  subst e1
  clear hb
  refine ⟨fun _=>inS,fun b5 hb=>?_⟩
  cbv
  have e1 : b5 = b4:=by rw [(Cl hD V.I hb).h,hb2.h]
  subst e1
  clear hb
  refine ⟨_,[45,46,58],rfl,rfl,by decide,fun q hq=>?_⟩
  cbv
  have hq : q = Ep b5 [45,46,58]:=by subst hD; exact hq
  have hkk : Adj ((s.getD i 0).toNat : Int) = (((decide (97≤b5) && decide (b5≤122)) || (decide (48≤b5) && decide (b5≤57))) || q):=by
   rw [←hb2.h,hq]; rfl
  rw [hkk] at hk2
  clear hkk hq
  refine br hD (fun h=>?_) (fun h=>?_)<;>cbv
  ·have h : (!(((decide (97≤b5) && decide (b5≤122)) || (decide (48≤b5) && decide (b5≤57))) || q)) = true:=h
   simp only [Bool.not_eq_true'] at h
   rw [h,Bool.false_and] at hk2
   exact Aj hD hk2.symm
  ·have h : (!(((decide (97≤b5) && decide (b5≤122)) || (decide (48≤b5) && decide (b5≤57))) || q)) = false:=h
   simp only [Bool.not_eq_false'] at h
   rw [h,Bool.true_and] at hk2
   refine ⟨_,hst.1,?_⟩
   rw [hJ]
   unfold hoJ
   subst hD
   exact ⟨i + 1,_,rfl,rfl,hst.2,hk2⟩
 have he:=V.eq (of_decide_eq_false (p:=I < (s.length : Int)) h)
 have hdn : s.drop i = []:=List.drop_eq_nil_of_le (by omega)
 rw [hdn] at hk2
 exact Aj hD hk2.symm
theorem X2 : Ar Tryz.prog gl 67 (C5 C8):=by
 refine A4 (gh:=[]) mixed A0 (Aa Fi Ae) Tryz.func67 (by kernel_rfl) (by kernel_rfl) ?_
 intro xs ls K h
 unfold C5 at h
 obtain ⟨s,rfl,rfl,hs,h⟩:=h
 obtain ⟨k,hk⟩ : ∃ k,k = C8 s:=⟨_,rfl⟩
 refine ⟨_,_,h k hk,fun D hD=>?_⟩
 cbv
 clear h
 refine ⟨s,rfl,rfl,hs,fun b hb=>?_⟩
 cbv
 rw [←Js] at hb
 refine Aj hD ?_
 rw [hk,C8,←hb]
 show (decide ((s.length : Int)≤16) && b) = _
 congr 1
 rw [decide_eq_decide]; omega
theorem Amz (s : List UInt8) : I3 s = inF [[71,69,84],[72,69,65,68],[84,82,65,67,69]] s:=by
 rw [Bool.eq_iff_iff,inF_iff]
 simp only [List.mem_cons,List.not_mem_nil,or_false]
 unfold I3
 split
 ·simp [*]
 ·split
  ·simp [*]
  ·split
   ·rename_i h; subst h; simp
   ·split
    ·simp [*]
    ·split
     ·rename_i h; subst h; simp
     ·split<;>simp [*]
theorem Vl : Ar Tryz.prog gl 62 (C5 I3):=by
 refine A4 (gh:=[]) mixed A0 (Aa Abc Ae) Tryz.func62 (by kernel_rfl) (by kernel_rfl) ?_
 intro xs ls K h
 unfold C5 at h
 obtain ⟨s,rfl,rfl,hs,h⟩:=h
 obtain ⟨k,hk⟩ : ∃ k,k = I3 s:=⟨_,rfl⟩
 refine ⟨_,_,h k hk,fun D hD=>?_⟩
 cbv
 clear h
 intro g hg
 cbv
 have R : A8 g 3 [[71,69,84],[72,69,65,68],[84,82,65,67,69]]:=Ju (l:=[[71,69,84],[72,69,65,68],[84,82,65,67,69]]) hg (by decide)
 refine ⟨[[71,69,84],[72,69,65,68],[84,82,65,67,69]],s,false,3,g,by subst hD; rfl,rfl,R,fun r hr=>?_⟩
 cbv
 refine Aj hD ?_
 rw [hk,Amz,←hr]
 rfl
end Go.Proofs.YtefelnhpfdcleaaGreatDoor
namespace Go.Proofs.YtefelnhpfdcleaaGreatDoor
open Go Go.Sx
set_option maxRecDepth 100000
set_option maxHeartbeats 8000000
theorem Ws (r : Rq) : Bu r = ((r.body != []) || inF [Ve,Ae4,Om] r.method):=by
 unfold Bu
 have e : ∀ (a b : List UInt8),(a == b) = (b == a):=fun a b=>by rw [Bool.eq_iff_iff,beq_iff_eq,beq_iff_eq]; exact eq_comm
 show _ = ((r.body != []) || ((Ve == r.method) || ((Ae4 == r.method) || ((Om == r.method) || false))))
 rw [e Ve,e Ae4,e Om,Bool.or_false,Bool.or_assoc,Bool.or_assoc]
def spWritR : FSpec:=fun _ xs ls K=>∃ (r : Rq) (nl : Bool) (n : Int) (f : Nat→List SV),xs = [.agg [.int .i64 (.a r.id),.str r.method,.str r.target,.str r.host,.sl (.a nl) (.a n) 2 f,.str r.body]]∧ls = []∧Gd r nl n f∧0≤r.id∧
 ∀ l e nb n' g,(l,e) = Ai r→A9 g n' l→nb = (e != 0)→K (.tup [.sl (.a nb) (.a n') 2 g,.int .i64 (.a e)]) []
theorem X1 : Ar Tryz.prog gl 45 spWritR:=by
 refine A4 (gh:=[]) mixed A0 (Aa Jb (Aa Ady (Aa Abc Ae))) Tryz.func45 (by kernel_rfl) (by kernel_rfl) ?_
 intro xs ls K h
 unfold spWritR at h
 obtain ⟨r,nl,n,f,rfl,rfl,R,hid,h⟩:=h
 obtain ⟨k,hk⟩ : ∃ k,k = Ai r:=⟨_,rfl⟩
 obtain ⟨kl,ke⟩:=k
 have hs0 : ∀ x : HF,∀ (a b : List UInt8),x = ⟨a,b⟩→a.length≤100→b.length≤9223372036854775807→x.small:=fun x a b e h1 h2=>by subst e; exact ⟨by show a.length≤_; omega,h2⟩
 have hxs : HF.small ⟨Fh,r.host⟩:=hs0 _ _ _ rfl (by decide) R.host
 have hys : HF.small ⟨Ky,Lib.itoa r.id⟩:=hs0 _ _ _ rfl (by decide) (Mx R.id1 R.id2)
 have hzs : HF.small ⟨sCL,Lib.itoa r.body.length⟩:=hs0 _ _ _ rfl (by decide) (Mx (by omega) (by have:=R.body; omega))
 have hg : ∃ g n',A9 g n' kl:=by
  unfold Ai at hk
  split at hk
  ·simp only [Prod.mk.injEq] at hk
   rw [hk.1]; exact Hr [] (by simp) (fun i hi=>absurd hi (by simp))
  ·rename_i h1
   have h1 : (Bm r.fields).2 = 0:=by simpa using h1
   have h2:=Ig _ h1
   simp only [Prod.mk.injEq] at hk
   rw [hk.1]
   refine Hr _ ?_ (Es (Es (fun i hi=>?_) (Kv R.row.small)) ?_)
   ·simp only [List.length_append]
    split<;>simp<;>omega
   ·match i,hi with
    | 0,_=>exact hxs
    | 1,_=>exact hys
   ·split
    ·intro i hi
     have : i = 0:=by simpa using hi
     subst this; exact hzs
    ·intro i hi; simp at hi
 obtain ⟨g,n2,R2⟩:=hg
 obtain ⟨nb,hnb⟩ : ∃ nb,nb = (ke != 0):=⟨_,rfl⟩
 refine ⟨_,_,h kl ke nb n2 g hk R2 hnb,fun D hD=>?_⟩
 clear h
 obtain ⟨id,me,ta,ho,fs,bo⟩:=r
 simp only at R hxs hys hzs hid
 unfold Ai at hk
 simp only at hk
 cbv
 refine ⟨fs,_,_,f,rfl,rfl,by subst hD; exact R.row,fun l e g3 n3 nb2 hl RR=>?_⟩
 have hl2:=Ig fs
 rw [←hl] at hl2 hk
 simp only at hl2 hk
 have R3:=RR.row
 clear RR hl
 cbv
 refine br hD (fun h=>?_) (fun h=>?_)<;>cbv
 ·have h1 : e≠0:=by simpa using h
  rw [if_pos h1] at hk
  simp only [Prod.mk.injEq] at hk
  obtain ⟨rfl,rfl⟩:=hk
  exact Ls hD (by rw [hnb]; simp [h1]) (l:=[]) ⟨rfl,fun i hi=>absurd hi (by simp),by simp,fun i hi=>absurd hi (by simp)⟩ rfl rfl R2
 have h1 : e = 0:=by simpa using h
 rw [if_neg (by simp [h1])] at hk
 have hl3:=hl2 h1
 clear h hl2
 refine ⟨_,rfl,rfl,by subst hD; exact hid,by subst hD; exact R.id2,fun ids hids=>?_⟩
 cbv
 have hids : ids = Lib.itoa id:=by subst hD; exact hids
 rw [←hids] at hk hys
 clear hids
 intro f2 hf2
 cbv
 have hR2 : A9 f2 2 [⟨Fh,ho⟩,⟨Ky,ids⟩]:=A9.two (hf2.h 0 _ rfl) (hf2.h 1 _ rfl) hxs hys
 clear hf2
 have hn3:=R3.n
 refine ⟨?_,fun f4 n4 hm=>?_⟩
 ·subst hD
  refine ⟨rfl,?_,?_⟩
  ·show ((2 : Int) + n3) * 32≤140737488355328
   omega
  ·show (2 : Int) + n3≤9223372036854775807
   omega
 cbv
 have R4 : A9 f4 n4 ([⟨Fh,ho⟩,⟨Ky,ids⟩] ++ l):=hR2.app R3 (by subst hD; exact hm) (by simp only [List.length_cons,List.length_nil]; omega)
 clear hm hR2 hn3
 have hl4 : (([⟨Fh,ho⟩,⟨Ky,ids⟩] : List HF) ++ l).length≤102:=by simp; omega
 obtain ⟨l4,hl4e⟩ : ∃ l4,l4 = ([⟨Fh,ho⟩,⟨Ky,ids⟩] : List HF) ++ l:=⟨_,rfl⟩
 rw [←hl4e] at hk R4 hl4
 clear hl4e
 refine br hD (fun hgd=>?_) (fun hgd=>?_)<;>cbv
 ·intro f7 hf7
  cbv
  have R7 : A8 f7 3 [Ve,Ae4,Om]:=Ju (l:=[Ve,Ae4,Om]) hf7 (by decide)
  clear hf7
  refine ⟨[Ve,Ae4,Om],me,false,3,f7,by subst hD; rfl,rfl,R7,fun q hq=>?_⟩
  cbv
  have hhb : Bu ⟨id,me,ta,ho,fs,bo⟩ = ((bo != []) || q):=by rw [hq,Ws]
  clear hq
  refine br hD (fun h=>?_) (fun h=>?_)<;>cbv
  ·have hb : Bu ⟨id,me,ta,ho,fs,bo⟩ = true:=by rw [hhb]; exact h
   rw [if_pos hb] at hk
   clear h hb
   refine ⟨_,rfl,rfl,by subst hD; show 0≤(bo.length : Int); omega,by subst hD; show (bo.length : Int)≤_; have:=R.body; simp only at this; omega,fun bs hbs=>?_⟩
   cbv
   have hbs : bs = Lib.itoa (bo.length : Int):=by subst hD; exact hbs
   rw [←hbs] at hk hzs
   clear hbs
   intro f5 hf5
   cbv
   have hR5 : A9 f5 1 [⟨sCL,bs⟩]:=A9.one (hf5.h 0 _ rfl) hzs
   clear hf5
   refine ⟨by subst hD; exact ⟨rfl,by have:=R4.n; show (n4 + 1) * 32≤_; omega,by have:=R4.n; show n4 + 1≤_; omega⟩,fun f6 n6 hm=>?_⟩
   cbv
   have R6 : A9 f6 n6 (l4 ++ [⟨sCL,bs⟩]):=R4.app hR5 (by subst hD; exact hm) (by simp only [List.length_cons,List.length_nil]; omega)
   clear hm
   simp only [Prod.mk.injEq] at hk
   obtain ⟨hq1,hq2⟩:=hk
   subst hq1 hq2
   exact Ls hD (by rw [hnb]; rfl) R6 rfl rfl R2
  ·have hb : Bu ⟨id,me,ta,ho,fs,bo⟩ = false:=by rw [hhb]; exact h
   rw [if_neg (by rw [hb]; simp),List.append_nil] at hk
   simp only [Prod.mk.injEq] at hk
   obtain ⟨hq1,hq2⟩:=hk
   subst hq1 hq2
   exact Ls hD (by rw [hnb]; rfl) R4 rfl rfl R2
 ·have hgd : (!(bo != [])) = false:=hgd
  have hgd : (bo != []) = true:=by simpa only [Bool.not_eq_false'] using hgd
  refine ⟨[],me,true,0,fun _=>[],by subst hD; rfl,rfl,A8.nil,fun q hq=>?_⟩
  cbv
  have hhb : Bu ⟨id,me,ta,ho,fs,bo⟩ = ((bo != []) || q):=by rw [Ws]; simp only; rw [hgd,Bool.true_or,Bool.true_or]
  clear hq hgd
  refine br hD (fun h=>?_) (fun h=>?_)<;>cbv
  ·have hb : Bu ⟨id,me,ta,ho,fs,bo⟩ = true:=by rw [hhb]; exact h
   rw [if_pos hb] at hk
   clear h hb
   refine ⟨_,rfl,rfl,by subst hD; show 0≤(bo.length : Int); omega,by subst hD; show (bo.length : Int)≤_; have:=R.body; simp only at this; omega,fun bs hbs=>?_⟩
   cbv
   have hbs : bs = Lib.itoa (bo.length : Int):=by subst hD; exact hbs
   rw [←hbs] at hk hzs
   clear hbs
   intro f5 hf5
   cbv
   have hR5 : A9 f5 1 [⟨sCL,bs⟩]:=A9.one (hf5.h 0 _ rfl) hzs
   clear hf5
   refine ⟨by subst hD; exact ⟨rfl,by have:=R4.n; show (n4 + 1) * 32≤_; omega,by have:=R4.n; show n4 + 1≤_; omega⟩,fun f6 n6 hm=>?_⟩
   cbv
   have R6 : A9 f6 n6 (l4 ++ [⟨sCL,bs⟩]):=R4.app hR5 (by subst hD; exact hm) (by simp only [List.length_cons,List.length_nil]; omega)
   clear hm
   simp only [Prod.mk.injEq] at hk
   obtain ⟨hq1,hq2⟩:=hk
   subst hq1 hq2
   exact Ls hD (by rw [hnb]; rfl) R6 rfl rfl R2
  ·have hb : Bu ⟨id,me,ta,ho,fs,bo⟩ = false:=by rw [hhb]; exact h
   rw [if_neg (by rw [hb]; simp),List.append_nil] at hk
   simp only [Prod.mk.injEq] at hk
   obtain ⟨hq1,hq2⟩:=hk
   subst hq1 hq2
   exact Ls hD (by rw [hnb]; rfl) R4 rfl rfl R2
end Go.Proofs.YtefelnhpfdcleaaGreatDoor
namespace Go.Proofs.YtefelnhpfdcleaaGreatDoor
open Go Go.Sx
set_option maxRecDepth 100000
set_option maxHeartbeats 16000000
def amS : List UInt8:=[33,36,38,39,40,41,42,43,44,59,61,58,64,47]
theorem kind_am : ∀ c : Fin 256,(!Oq (c.1 : Int) && !Ep (c.1 : Int) amS) = decide (Cb c.1 = 0):=by decide +kernel
theorem Alw {c : Int} (h : 0≤c∧c≤255) : (!Oq c && !Ep c amS) = decide (Cb c.toNat = 0):=by
 have:=kind_am ⟨c.toNat,by omega⟩
 have e : ((c.toNat : Nat) : Int) = c:=by omega
 simp only [e] at this
 exact this
theorem plus3 {s : List UInt8} {i : Nat} {I : Int} {m : Nat} (V : At s i I m) (h : i < s.length) (hl : s.length≤1000000) : IntKind.i64.wrap (IntKind.i64.wrap (I + 2) + 1) = ((i + 3 : Nat) : Int):=by
 have:=V.I; rw [Am (n:=I + 2) (by omega) (by omega),Am (by omega) (by omega)]; omega
def tgJ (s : List UInt8) (k : Option Nat) (m : Nat) (vs : List (Option SV)) (hp : List Hl) : Prop :=
 ∃ (i e : Nat) (I E : Int),vs = [some (.str s),some (.int .i64 (.a E)),some (.int .i64 (.a I))]∧hp = []∧OrgJ s k i e I E m
theorem Ald (s : List UInt8) : Lib.hasPrefix s [47] = decide (s≠[]∧charI s 0 = 47):=by
 cases s with
 | nil=>rfl
 | cons b r =>
  rw [Bool.eq_iff_iff]
  simp only [Lib.hasPrefix,List.isPrefixOf,Bool.and_true,beq_iff_eq,decide_eq_true_eq,ne_eq,reduceCtorEq,not_false_eq_true,true_and]
  unfold charI
  simp only [List.getD_cons_zero]
  constructor
  ·intro h; rw [←h]; rfl
  ·intro h
   have : b.toNat = 47:=by omega
   exact (UInt8.toNat_inj.1 this).symm
theorem Aar : Ar Tryz.prog gl 37 spOrg:=by
 refine A4 (gh:=[]) mixed A0 (Aa Agf (Aa Aiy (Aa Aef Ae))) Tryz.func37 (by kernel_rfl) (by kernel_rfl) ?_
 intro xs ls K h
 unfold spOrg at h
 obtain ⟨s,rfl,rfl,hs,h⟩:=h
 obtain ⟨k,hk⟩ : ∃ k,k = Lx s:=⟨_,rfl⟩
 obtain ⟨ke,kr⟩:=k
 refine ⟨_,_,h ke kr hk,fun D hD=>?_⟩
 cbv
 clear h
 unfold Lx at hk
 refine br hD (fun h=>?_) (fun h=>?_)<;>cbv
 ·have h2 : 500 < s.length:=by have h : decide ((500 : Int) < (s.length : Int)) = true:=h; simp only [decide_eq_true_eq] at h; omega
  rw [if_pos h2] at hk
  simp only [Prod.mk.injEq] at hk
  exact Ti hD hk.1.symm hk.2.symm
 have hlen : s.length≤500:=by have h : decide ((500 : Int) < (s.length : Int)) = false:=h; simp only [decide_eq_false_iff_not] at h; omega
 rw [if_neg (by omega),Ald] at hk
 clear h
 refine ⟨fun hg=>?_,fun c hc=>?_⟩
 ·subst hD
  have hg : (!(s == [])) = true:=hg
  have hg : (s == []) = false:=by simpa only [Bool.not_eq_true'] using hg
  have hne : s≠[]:=fun e=>by rw [e] at hg; cases hg
  exact ⟨by decide,by show (0 : Int) < _; have:=List.length_pos_iff.2 hne; omega⟩
 cbv
 have hc2 : C4 c s 0:=by subst hD; exact ⟨hc.h⟩
 rw [←hc2.charI] at hk
 clear hc
 refine br hD (fun h=>?_) (fun h=>?_)<;>cbv
 ·have h2 : ((s == []) || (c != 47)) = true:=h
  rw [if_pos (by
   simp only [Bool.or_eq_true,beq_iff_eq,bne_iff_ne,ne_eq] at h2
   simp only [Bool.not_eq_true',decide_eq_false_iff_not,not_and]
   rintro h3 h4
   rcases h2 with h2 | h2
   ·exact h3 h2
   ·exact h2 h4)] at hk
  simp only [Prod.mk.injEq] at hk
  exact Ti hD hk.1.symm hk.2.symm
 have h2 : ((s == []) || (c != 47)) = false:=h
 rw [if_neg (by
   simp only [Bool.or_eq_false_iff,beq_eq_false_iff_ne,bne_eq_false_iff_eq,ne_eq] at h2
   simp only [Bool.not_eq_true',decide_eq_false_iff_not]
   exact fun h=>h h2)] at hk
 clear h h2 hc2
 obtain ⟨kk,hkk⟩ : ∃ kk,kk = I5 s 0 s.length:=⟨_,rfl⟩
 rw [←hkk] at hk
 obtain ⟨J,hJ⟩ : ∃ J,J = tgJ s kk:=⟨_,rfl⟩
 refine ⟨[0,4,5],J,⟨rfl,s.length,?_⟩,?_⟩
 ·rw [hJ]
  subst hD
  exact ⟨0,s.length,_,_,rfl,rfl,At.zero hs,rfl,hkk,hlen⟩
 clear hkk
 intro m vs hp hj
 rw [hJ] at hj
 obtain ⟨i,e,I,E,rfl,rfl,V⟩:=hj
 cbv
 refine br hD (fun h=>?_) (fun h=>?_)<;>cbv
 ·have hlt:=V.lie.lt (of_decide_eq_true (p:=I < (s.length : Int)) h)
  clear h
  refine ⟨V.lie.inS hD hlt,fun c hc=>?_⟩
  cbv
  have hc2 : C4 c s i:=Cl hD V.lie.I hc
  clear hc
  refine br hD (fun h=>?_) (fun h=>?_)<;>cbv
  ·have h2 : c = 63:=by have h : (c == 63) = true:=h; exact eq_of_beq h
   have he : Ct s i = false:=by
    unfold Ct; rw [decide_eq_false]
    rintro ⟨_,h3,_⟩
    rw [←hc2.charI,h2] at h3
    cases h3
   have hmin:=Rg (e:=e) hlt he (by rw [←hc2.charI]; exact h2)
   intro mn hmn
   cbv
   have hmn2 : mn = min E I:=by subst hD; exact hmn.h
   clear hmn
   refine ⟨s.length - (i + 1),by have:=V.lie.m; omega,?_⟩
   rw [hJ]
   unfold tgJ
   subst hD
   refine ⟨i + 1,min e i,_,_,rfl,rfl,(V.lie.step rfl hlt).2,?_,by rw [V.k,hmin],hlen⟩
   have:=V.lie.I; have:=V.E
   show mn = _
   rw [hmn2]; omega
  have h2 : c≠63:=by have h : (c == 63) = false:=h; simpa using h
  clear h
  refine ⟨s,i,I,by subst hD; rfl,rfl,V.lie.I,by omega,by omega,fun b hb=>?_⟩
  cbv
  refine br hD (fun h=>?_) (fun h=>?_)<;>cbv
  ·have h3 : Ct s i = true:=by rw [←hb]; exact h
   have h4:=Np h3
   refine ⟨s.length - (i + 3),by have:=V.lie.m; omega,?_⟩
   rw [hJ]
   unfold tgJ
   subst hD
   exact ⟨i + 3,e,_,_,rfl,rfl,⟨by omega,plus3 V.lie hlt (by omega),rfl,V.lie.len⟩,V.E,by rw [V.k,Vv hlt h3],hlen⟩
  have he : Ct s i = false:=by rw [←hb]; exact h
  clear h hb
  refine ⟨V.lie.inS hD hlt,fun d hd=>?_⟩
  cbv
  have hdc : d = c:=by rw [(Cl hD V.lie.I hd).h,hc2.h]
  subst hdc
  clear hd
  refine ⟨_,rfl,rfl,by subst hD; exact hc2.le,fun p hp=>?_⟩
  cbv
  have hp : p = Oq d:=by subst hD; exact hp
  refine ⟨fun _=>V.lie.inS hD hlt,fun d2 hd2=>?_⟩
  cbv
  have hdc : d2 = d:=by rw [(Cl hD V.lie.I hd2).h,hc2.h]
  subst hdc
  clear hd2
  refine ⟨_,[33,36,38,39,40,41,42,43,44,59,61,58,64,47],rfl,rfl,by decide,fun q hq=>?_⟩
  cbv
  have hq : q = Ep d2 amS:=by subst hD; exact hq
  have hkn:=Alw hc2.le
  rw [←hp,←hq] at hkn
  clear hp hq
  have hcc:=hc2.charI
  refine br hD (fun h=>?_) (fun h=>?_)<;>cbv
  ·have h : (!p && !q) = true:=h
   rw [hkn] at h
   rw [V.k,Vw hlt he (by rw [←hcc]; exact h2) (by rw [←hcc]; exact of_decide_eq_true h)] at hk
   simp only [Prod.mk.injEq] at hk
   exact Ti hD hk.1.symm hk.2.symm
  ·have h : (!p && !q) = false:=h
   rw [hkn] at h
   refine ⟨s.length - (i + 1),by have:=V.lie.m; omega,?_⟩
   rw [hJ]
   unfold tgJ
   subst hD
   exact ⟨i + 1,e,_,_,rfl,rfl,(V.lie.step rfl hlt).2,V.E,by rw [V.k,Rf hlt he (by rw [←hcc]; exact h2) (by rw [←hcc]; exact of_decide_eq_false h)],hlen⟩
 have hi:=V.lie.eq (of_decide_eq_false (p:=I < (s.length : Int)) h)
 clear h
 rw [V.k,Acv hi] at hk
 simp only [Prod.mk.injEq] at hk
 exact Ti hD (by rw [hk.1]; exact V.E) hk.2.symm
end Go.Proofs.YtefelnhpfdcleaaGreatDoor
