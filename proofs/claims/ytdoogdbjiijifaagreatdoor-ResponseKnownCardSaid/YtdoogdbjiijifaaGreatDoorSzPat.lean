/- Part of the proofs of the statements about responses and messages (layers 9 and 10): a symbolic executor over the code, that it is sound, and contracts of functions; it has no conditions of its own. -/
import Derived.Test.YtdoogdbjiijifaaGreatDoorSzPas
namespace Go.Sx
open Go
abbrev Rec:=Option (Sy×List Nat×Out)
abbrev X:=(Nat→SG)×(Nat→Hl)
def F7 (N : Nat) (f : Nat→SG) (d : Option Nat) (g : SG) : Nat→SG:=fun s=>if d = some s∧s < N then g else f s
def Em (h : Nat) : Ef→Hl→Hl
 | .set h' off vs,x=>if h' = h then (match x with | .blk ty cs=>.blk ty (Cu cs off vs) | x=>x) else x
 | .put h' hl,x=>if h' = h then hl else x
def Da (h : Nat) : List Ef→Hl→Hl
 | [],x=>x
 | e :: es,x=>Da h es (Em h e x)
theorem efF_at (hf : Nat→Hl) (e : Ef) (h : Nat) : efF hf e h = Em h e (hf h):=by
 cases e with
 | set h' off vs =>
  simp only [efF,Em]
  by_cases e : h' = h
  ·subst e
   rw [if_pos rfl]
   cases hx : hf h'<;>simp [upd,hx]
  ·rw [if_neg e]
   cases hx : hf h'<;>simp [upd,Ne.symm e]
 | put h' hl =>
  simp only [efF,Em,upd]
  by_cases e : h' = h
  ·subst e; simp
  ·rw [if_neg e,if_neg (fun h=>e h.symm)]
theorem Ad3 (h : Nat) : ∀ (es : List Ef) (hf : Nat→Hl),G9 hf es h = Da h es (hf h)
 | [],_=>rfl
 | e :: es,hf=>by
  show G9 (efF hf e) es h = Da h es (Em h e (hf h))
  rw [Ad3 h es,efF_at]
def Dk (N : Nat) (gm : List BT) (o : Oper) (rec : Rec) (x : X) : X :=
 match rec with
 | none=>(F7 N x.1 o.dst none,x.2)
 | some (_,T,r)=>(F7 N x.1 o.dst (some (Ab gm T,r.v)),G9 x.2 r.efs)
def Du (N : Nat) (gm : List BT) (S : Nat→Bool) : List (Oper×Rec)→Nat→X→X
 | [],_,x=>x
 | p :: l,i,x=>Du N gm S l (i + 1) (if S i then Dk N gm p.1 p.2 x else x)
def Cc (N : Nat) (gm : List BT) : List (Oper×Rec)→X→X
 | [],x=>x
 | p :: l,x=>Cc N gm l (Dk N gm p.1 p.2 x)
theorem Vf {N : Nat} {gm : List BT} {S : Nat→Bool} : ∀ (L : List (Oper×Rec)) (k : Nat) (x : X),(∀ j,j < L.length→S (k + j) = true)→Du N gm S L k x = Cc N gm L x
 | [],_,_,_=>rfl
 | p :: L,k,x,h=>by
  have h0:=h 0 (by simp)
  simp only [Nat.add_zero] at h0
  simp only [Du,Cc,h0,if_true]
  exact Vf L (k + 1) _ fun j hj=>by have:=h (j + 1) (by simpa using hj); rwa [show k + 1 + j = k + (j + 1) by omega]
theorem Je {N : Nat} {gm : List BT} {S : Nat→Bool} : ∀ (L : List (Oper×Rec)) (k : Nat) (x : X),(∀ j,j < L.length→S (k + j) = false)→Du N gm S L k x = x
 | [],_,_,_=>rfl
 | p :: L,k,x,h=>by
  have h0:=h 0 (by simp)
  simp only [Nat.add_zero] at h0
  simp only [Du,h0,Bool.false_eq_true,if_false]
  exact Je L (k + 1) _ fun j hj=>by have:=h (j + 1) (by simpa using hj); rwa [show k + 1 + j = k + (j + 1) by omega]
theorem L7 {N : Nat} {gm : List BT} : ∀ (L : List (Oper×Rec)) (i k : Nat) (x : X),Du N gm (fun j=>decide (j < k + i)) L k x = Cc N gm (L.take i) x
 | [],i,k,x=>by simp [Du,Cc]
 | p :: L,0,k,x=>by
  simp only [List.take_zero,Cc]
  exact Je _ _ _ fun j _=>by simp
 | p :: L,i + 1,k,x=>by
  simp only [Du,List.take_succ_cons,Cc]
  rw [if_pos (by simp)]
  have:=L7 (N:=N) (gm:=gm) L i (k + 1) (Dk N gm p.1 p.2 x)
  rw [←this]
  congr 1
  funext j
  congr 1
  exact propext (by omega)
def Ajy (P : Program) (gl : List (Nat×SV)) (all : List Oper) (o : Oper) (gm : List BT) (σ : Sy) : Rec→Prop
 | none=>Ge all σ o.guard = some none
 | some (σ1,T,r)=>Ge all σ o.guard = some (some (σ1,T))∧Tu P gl σ1 T o r∧Ik σ1.hp r.efs = true∧((T = []∨r.efs = []∨Bb (Ab σ1.gm T))∧∀ c,o.op≠.defer c)∧Ab gm T = Ab σ1.gm T
theorem P6 {gm y : List BT} : ∀ {T : List Nat},(∀ i∈T,i < gm.length)→Ab (gm ++ y) T = Ab gm T
 | [],_=>rfl
 | i :: T,h=>by
  have h1:=P6 (gm:=gm) (y:=y) (T:=T) fun j hj=>h j (List.mem_cons_of_mem _ hj)
  have h2 : nth (gm ++ y) i = nth gm i:=by rw [Ag,Ag,List.getElem?_append_left (h i (List.mem_cons_self ..))]
  simp only [Ab,List.filterMap_cons,h2] at *
  rw [h1]
theorem Vl (σ : Sy) (d : Option Nat) (g : Option G) (hp : List Hl) : A5 ⟨setD σ.fr d g,hp,σ.gm⟩ = F7 σ.fr.length (A5 σ) d (g.map fun g=>(Ab σ.gm g.tg,g.v)):=by
 funext s
 cases d with
 | none=>simp [setD,F7,A5]
 | some k =>
  simp only [setD,F7,A5,Bq]
  by_cases e : s = k∧k < σ.fr.length
  ·obtain ⟨rfl,h⟩:=e; simp [h]
  ·rw [if_neg e,if_neg (fun h=>e ⟨(Option.some.inj h.1).symm,by rw [Option.some.inj h.1]; exact h.2⟩)]
theorem Ahc {P : Program} {gl : List (Nat×SV)} {ops : Array Oper} {os : List Oper} {σ σ' : Sy} {rs : List Rec} (h : Xn P gl ops.toList os σ rs σ') : WfG σ→∀ N,σ.fr.length = N→
  rs.length = os.length∧WfG σ'∧σ'.fr.length = N∧σ.hp.length≤σ'.hp.length∧(∃ y,σ'.gm = σ.gm ++ y)∧(A5 σ',Ao σ'.hp) = Cc N σ'.gm (os.zip rs) (A5 σ,Ao σ.hp)∧
  ∀ (i : Nat) (o : Oper) (rec : Rec),os[i]? = some o→rs[i]? = some rec→∃ σi,WfG σi∧σi.fr.length = N∧(A5 σi,Ao σi.hp) = Cc N σ'.gm ((os.zip rs).take i) (A5 σ,Ao σ.hp)∧Ajy P gl ops.toList o σ'.gm σi rec:=by
 induction h with
 | nil σ=>intro wf N hN; exact ⟨rfl,wf,hN,Nat.le_refl _,⟨[],by simp⟩,rfl,by simp⟩
 | @skip o os σ σ' rs hg h ih =>
  intro wf N hN
  obtain ⟨h1,h2,h3,h4,⟨y,h5⟩,h6,h7⟩:=ih (wf.setD o.dst none (by simp) σ.hp) N (by rw [Kk]; exact hN)
  have hx : Dk N σ'.gm o none (A5 σ,Ao σ.hp) = (A5 ⟨setD σ.fr o.dst none,σ.hp,σ.gm⟩,Ao σ.hp):=by
   simp only [Dk]
   rw [Vl,hN]
   rfl
  refine ⟨by simp [h1],h2,h3,h4,⟨y,h5⟩,?_,fun i o' rec hi hr=>?_⟩
  ·simp only [List.zip_cons_cons,Cc]
   rw [hx]; exact h6
  ·cases i with
   | zero =>
    simp at hi hr
    subst hi hr
    exact ⟨σ,wf,hN,rfl,hg⟩
   | succ i =>
    simp at hi hr
    obtain ⟨σi,w1,w2,w3,w4⟩:=h7 i o' rec hi hr
    refine ⟨σi,w1,w2,?_,w4⟩
    simp only [List.zip_cons_cons,List.take_succ_cons,Cc]
    rw [hx]; exact w3
 | @step o os σ σ1 σ' T r rs hg hl he hte h ih =>
  intro wf N hN
  obtain ⟨w1,w2,w3,w4,w5,⟨z,w6⟩,_,_⟩:=Gd (ops:=ops) rfl hg wf
  obtain ⟨h1,h2,h3,h4,⟨y,h5⟩,h6,h7⟩:=ih (w1.setD o.dst (some ⟨T,none,none,r.v⟩) (by rintro g' ⟨⟩; exact ⟨w5,rfl,rfl⟩) _) N (by rw [Kk,w4]; exact hN)
  have hT : Ab σ'.gm T = Ab σ1.gm T:=by rw [h5]; exact P6 w5
  have hx : Dk N σ'.gm o (some (σ1,T,r)) (A5 σ,Ao σ.hp) = (A5 ⟨setD σ1.fr o.dst (some ⟨T,none,none,r.v⟩),Kp σ1.hp r.efs,σ1.gm⟩,Ao (Kp σ1.hp r.efs)):=by
   simp only [Dk]
   rw [Vl,Ir _ _ he,w4,hN,w2,w3,hT]
   rfl
  refine ⟨by simp [h1],h2,h3,Nat.le_trans (by rw [←w3]; exact Nd _ _) h4,⟨z ++ y,by rw [h5,w6,List.append_assoc]⟩,?_,fun i o' rec hi hr=>?_⟩
  ·simp only [List.zip_cons_cons,Cc]
   rw [hx]; exact h6
  ·cases i with
   | zero =>
    simp at hi hr
    subst hi hr
    exact ⟨σ,wf,hN,rfl,hg,hl,he,hte,hT⟩
   | succ i =>
    simp at hi hr
    obtain ⟨σi,q1,q2,q3,q4⟩:=h7 i o' rec hi hr
    refine ⟨σi,q1,q2,?_,q4⟩
    simp only [List.zip_cons_cons,List.take_succ_cons,Cc]
    rw [hx]; exact q3
theorem Vt {N : Nat} {gm : List BT} {o : Oper} {rec : Rec} {x : X} {s : Nat} (h : o.dst≠some s) : (Dk N gm o rec x).1 s = x.1 s:=by
 cases rec with
 | none=>simp [Dk,F7,h]
 | some p=>obtain ⟨σ,T,r⟩:=p; simp [Dk,F7,h]
theorem Nx {N : Nat} {gm : List BT} {o : Oper} {rec : Rec} {x y : X} {s : Nat} (h : x.1 s = y.1 s) : (Dk N gm o rec x).1 s = (Dk N gm o rec y).1 s:=by
 cases rec with
 | none=>simp only [Dk,F7]; split<;>simp [h]
 | some p=>obtain ⟨σ,T,r⟩:=p; simp only [Dk,F7]; split<;>simp [h]
theorem Jd {N : Nat} {gm : List BT} {S S' : Nat→Bool} {s : Nat} : ∀ (L : List (Oper×Rec)) (k : Nat) (x y : X),x.1 s = y.1 s→(∀ (j : Nat) (p : Oper×Rec),L[j]? = some p→p.1.dst = some s→S (k + j) = S' (k + j))→
  (Du N gm S L k x).1 s = (Du N gm S' L k y).1 s
 | [],_,_,_,h,_=>h
 | p :: L,k,x,y,h,hS=>by
  simp only [Du]
  refine Jd L (k + 1) _ _ ?_ fun j q hq hd=>by have:=hS (j + 1) q (by simpa using hq) hd; rwa [show k + (j + 1) = k + 1 + j by omega] at this
  by_cases hd : p.1.dst = some s
  ·have:=hS 0 p rfl hd
   simp only [Nat.add_zero] at this
   rw [this]
   split
   ·exact Nx h
   ·exact h
  ·have a1 : (if S k then Dk N gm p.1 p.2 x else x).1 s = x.1 s:=by split; exact Vt hd; rfl
   have a2 : (if S' k then Dk N gm p.1 p.2 y else y).1 s = y.1 s:=by split; exact Vt hd; rfl
   rw [a1,a2,h]
def Ko : Rec→List Ef
 | none=>[]
 | some (_,_,r)=>r.efs
theorem Vu {N : Nat} {gm : List BT} {o : Oper} {rec : Rec} {x : X} {h : Nat} : (Dk N gm o rec x).2 h = Da h (Ko rec) (x.2 h):=by
 cases rec with
 | none=>rfl
 | some p=>obtain ⟨σ,T,r⟩:=p; exact Ad3 h r.efs x.2
def Ej (h : Nat) (S : Nat→Bool) : List (Oper×Rec)→Nat→Hl→Hl
 | [],_,x=>x
 | p :: l,i,x=>Ej h S l (i + 1) (if S i then Da h (Ko p.2) x else x)
theorem G8 {N : Nat} {gm : List BT} {S : Nat→Bool} {h : Nat} : ∀ (L : List (Oper×Rec)) (k : Nat) (x : X),(Du N gm S L k x).2 h = Ej h S L k (x.2 h)
 | [],_,_=>rfl
 | p :: L,k,x=>by
  simp only [Du,Ej]
  rw [G8 L]
  congr 1
  split
  ·exact Vu
  ·rfl
theorem To {x : Nat×Option (Nat×Nat)} : ∀ {l : List (Nat×Option (Nat×Nat))},anyR x l = false→∀ y∈l,Co x y = false
 | [],_,y,hy=>by cases hy
 | z :: l,h,y,hy=>by
  simp only [anyR,Bool.or_eq_false_iff] at h
  rcases List.mem_cons.1 hy with rfl | hy
  ·exact h.1
  ·exact To h.2 y hy
theorem Et {t : List (Nat×Option (Nat×Nat))} : ∀ {l : List (Nat×Option (Nat×Nat))},Oi l t = false→∀ x∈l,∀ y∈t,Co x y = false
 | [],_,x,hx,_,_=>by cases hx
 | z :: l,h,x,hx,y,hy=>by
  simp only [Oi,Bool.or_eq_false_iff] at h
  rcases List.mem_cons.1 hx with rfl | hx
  ·exact To h.1 y hy
  ·exact Et h.2 x hx y hy
theorem Pp (x y : Nat×Option (Nat×Nat)) : Co x y = Co y x:=by
 obtain ⟨h,a⟩:=x
 obtain ⟨k,b⟩:=y
 simp only [Co]
 have e : (h == k) = (k == h):=BEq.comm
 rw [e]
 congr 1
 cases a with
 | none=>cases b<;>rfl
 | some a=>cases b with
  | none=>rfl
  | some b=>simp [Bool.and_comm]
def same (x y : Hl) (U : Nat→Prop) : Prop:=x = y∨∃ ty cs cs',x = .blk ty cs∧y = .blk ty cs'∧cs'.length = cs.length∧∀ j,U j→cs'[j]? = cs[j]?
theorem Nj {α : Type} : ∀ (vs l : List α) (off i : Nat),(i < off∨off + vs.length≤i)→(Cu l off vs)[i]? = l[i]?
 | [],_,_,_,_=>rfl
 | v :: vs,l,off,i,h=>by
  simp only [List.length_cons] at h
  rw [Cu,Nj vs _ (off + 1) i (by omega),Ar,List.getElem?_set_ne (by omega)]
theorem Ll {α : Type} : ∀ (vs l l' : List α) (off i : Nat),l'.length = l.length→l'[i]? = l[i]?→(Cu l' off vs)[i]? = (Cu l off vs)[i]?
 | [],_,_,_,_,_,h=>h
 | v :: vs,l,l',off,i,hl,h=>by
  rw [Cu,Cu]
  refine Ll vs _ _ (off + 1) i (by simp [Ar,hl]) ?_
  rw [Ar,Ar,List.getElem?_set,List.getElem?_set,hl,h]
theorem Ut {h : Nat} {U : Nat→Prop} : ∀ (es : List Ef) {x y : Hl},same x y U→same (Da h es x) (Da h es y) U
 | [],_,_,hs=>hs
 | e :: es,x,y,hs=>by
  refine Ut es ?_
  rcases hs with rfl | ⟨ty,cs,cs',rfl,rfl,hl,hU⟩
  ·exact .inl rfl
  ·cases e with
   | set h' off vs =>
    simp only [Em]
    split
    ·exact .inr ⟨ty,_,_,rfl,rfl,by rw [Cz,Cz,hl],fun j hj=>Ll vs _ _ off j hl (hU j hj)⟩
    ·exact .inr ⟨ty,cs,cs',rfl,rfl,hl,hU⟩
   | put h' hl' =>
    simp only [Em]
    split
    ·exact .inl rfl
    ·exact .inr ⟨ty,cs,cs',rfl,rfl,hl,hU⟩
theorem Lw {x y z : Hl} {U : Nat→Prop} (h1 : same x y U) (h2 : same y z U) : same x z U:=by
 rcases h1 with rfl | ⟨ty,cs,cs',rfl,rfl,hl,hU⟩
 ·exact h2
 ·rcases h2 with rfl | ⟨ty2,cs2,cs3,e,rfl,hl2,hU2⟩
  ·exact .inr ⟨ty,cs,cs',rfl,rfl,hl,hU⟩
  ·cases e
   exact .inr ⟨ty,cs,cs3,rfl,rfl,by rw [hl2,hl],fun j hj=>by rw [hU2 j hj,hU j hj]⟩
theorem Aex {x y : Hl} {U : Nat→Prop} (h1 : same x y U) : same y x U:=by
 rcases h1 with rfl | ⟨ty,cs,cs',rfl,rfl,hl,hU⟩
 ·exact .inl rfl
 ·exact .inr ⟨ty,cs',cs,rfl,rfl,hl.symm,fun j hj=>(hU j hj).symm⟩
def inR (ρ : Nat×Option (Nat×Nat)) (j : Nat) : Prop:=match ρ.2 with
 | none=>True
 | some (off,n)=>off≤j∧j < off + n
theorem Lx {ρ : Nat×Option (Nat×Nat)} : ∀ (es : List Ef) (x : Hl),(∀ y∈efW es,Co y ρ = false)→same x (Da ρ.1 es x) (inR ρ)∧(ρ.2 = none→Da ρ.1 es x = x)
 | [],x,_=>⟨.inl rfl,fun _=>rfl⟩
 | e :: es,x,h=>by
  have head : same x (Em ρ.1 e x) (inR ρ)∧(ρ.2 = none→Em ρ.1 e x = x):=by
   obtain ⟨hh,a⟩:=ρ
   cases e with
   | set h' off vs =>
    have hm:=h (h',some (off,Ae vs)) (by simp [efW])
    simp only [Em]
    by_cases e : h' = hh
    ·subst e
     rw [if_pos rfl]
     cases x<;>try exact ⟨.inl rfl,fun _=>rfl⟩
     rename_i ty cs
     cases a with
     | none=>simp [Co] at hm
     | some a =>
      obtain ⟨o2,n2⟩:=a
      simp only [Co,beq_self_eq_true,Bool.true_and,Ad,Bool.and_eq_false_iff] at hm
      refine ⟨.inr ⟨ty,cs,_,rfl,rfl,Cz _ _ _,fun j hj=>Nj _ _ _ _ ?_⟩,fun h=>by cases h⟩
      simp only [inR] at hj
      rcases hm with hm | hm
      ·have : ¬ off < o2 + n2:=by intro hlt; rw [(Nat.blt_eq ▸ hlt : Nat.blt _ _ = true)] at hm; cases hm
       omega
      ·have : ¬ o2 < off + vs.length:=by intro hlt; rw [(Nat.blt_eq ▸ hlt : Nat.blt _ _ = true)] at hm; cases hm
       omega
    ·rw [if_neg e]; exact ⟨.inl rfl,fun _=>rfl⟩
   | put h' hl =>
    have hm:=h (h',none) (by simp [efW])
    simp only [Em]
    by_cases e : h' = hh
    ·subst e; simp [Co] at hm
    ·rw [if_neg e]; exact ⟨.inl rfl,fun _=>rfl⟩
  have htl : ∀ y∈efW es,Co y ρ = false:=fun y hy=>h y (by cases e<;>simp [efW,hy])
  obtain ⟨t1,t2⟩:=Lx es (Em ρ.1 e x) htl
  exact ⟨Lw head.1 t1,fun hn=>by show Da ρ.1 es (Em ρ.1 e x) = x; rw [t2 hn,head.2 hn]⟩
theorem P0 {ρ : Nat×Option (Nat×Nat)} {S S' : Nat→Bool} : ∀ (L : List (Oper×Rec)) (k : Nat) (x y : Hl),same x y (inR ρ)→(ρ.2 = none→x = y)→(∀ (j : Nat) (p : Oper×Rec),L[j]? = some p→S (k + j)≠S' (k + j)→∀ z∈efW (Ko p.2),Co z ρ = false)→
  same (Ej ρ.1 S L k x) (Ej ρ.1 S' L k y) (inR ρ)∧(ρ.2 = none→Ej ρ.1 S L k x = Ej ρ.1 S' L k y)
 | [],_,_,_,h,hn,_=>⟨h,hn⟩
 | p :: L,k,x,y,h,hn,hS=>by
  simp only [Ej]
  have hrec:=fun (x' y' : Hl) (hs : same x' y' (inR ρ)) (he : ρ.2 = none→x' = y')=>P0 (ρ:=ρ) (S:=S) (S':=S') L (k + 1) x' y' hs he fun j q hq hd=>hS (j + 1) q (by simpa using hq) (by rwa [show k + (j + 1) = k + 1 + j by omega])
  have h0:=hS 0 p rfl
  simp only [Nat.add_zero] at h0
  cases hSk : S k<;>cases hSk' : S' k
  ·exact hrec x y h hn
  ·obtain ⟨a1,a2⟩:=Lx (ρ:=ρ) (Ko p.2) y (h0 (by rw [hSk,hSk']; decide))
   exact hrec x _ (Lw h a1) (fun e=>by rw [if_pos rfl,a2 e]; exact hn e)
  ·obtain ⟨a1,a2⟩:=Lx (ρ:=ρ) (Ko p.2) x (h0 (by rw [hSk,hSk']; decide))
   exact hrec _ y (Lw (Aex a1) h) (fun e=>by rw [if_pos rfl,a2 e]; exact hn e)
  ·exact hrec _ _ (Ut _ h) (fun e=>by rw [hn e])
theorem Ux {α : Type} : ∀ (vs l : List α) (off i : Nat) (v : α),(i < off∨off + vs.length≤i)→Cu (Av l i v) off vs = Av (Cu l off vs) i v
 | [],_,_,_,_,_=>rfl
 | u :: vs,l,off,i,v,h=>by
  simp only [List.length_cons] at h
  rw [Cu,Cu,←Ux vs _ (off + 1) i v (by omega)]
  congr 1
  rw [Ar,Ar,Ar,Ar,List.set_comm _ _ (by omega)]
theorem Uy {α : Type} : ∀ (us vs l : List α) (o1 o2 : Nat),(o1 + us.length≤o2∨o2 + vs.length≤o1∨us = []∨vs = [])→Cu (Cu l o1 us) o2 vs = Cu (Cu l o2 vs) o1 us
 | [],vs,l,o1,o2,_=>rfl
 | u :: us,[],l,o1,o2,_=>rfl
 | u :: us,v :: vs,l,o1,o2,h=>by
  have h : o1 + (us.length + 1)≤o2∨o2 + (vs.length + 1)≤o1:=by
   rcases h with h | h | h | h
   ·exact .inl h
   ·exact .inr h
   ·cases h
   ·cases h
  rw [show Cu l o1 (u :: us) = Cu (Av l o1 u) (o1 + 1) us from rfl,Uy us (v :: vs) (Av l o1 u) (o1 + 1) o2 (by simp only [List.length_cons]; omega)]
  rw [Ux (v :: vs) l o2 o1 u (by simp only [List.length_cons]; omega)]
  rfl
theorem Af8 {h : Nat} {e e' : Ef} {y y' : Nat×Option (Nat×Nat)} (hy : efW [e] = [y]) (hy' : efW [e'] = [y']) (hm : Co y y' = false) (x : Hl) : Em h e (Em h e' x) = Em h e' (Em h e x):=by
 cases e with
 | set h1 o1 us =>
  cases e' with
  | set h2 o2 vs =>
   simp only [Em]
   by_cases e1 : h1 = h<;>by_cases e2 : h2 = h<;>simp only [e1,e2,if_true,if_false]
   subst e1
   cases x<;>try rfl
   simp only [efW,List.cons.injEq,and_true] at hy hy'
   subst hy hy'
   subst e2
   simp only [Co,beq_self_eq_true,Bool.true_and,Bool.and_eq_false_iff,Ad] at hm
   refine congrArg (Hl.blk _) (Uy us vs _ o1 o2 ?_).symm
   rcases hm with hm | hm
   ·have : ¬ o1 < o2 + vs.length:=by intro hlt; rw [(Nat.blt_eq ▸ hlt : Nat.blt _ _ = true)] at hm; cases hm
    exact .inr (.inl (by omega))
   ·have : ¬ o2 < o1 + us.length:=by intro hlt; rw [(Nat.blt_eq ▸ hlt : Nat.blt _ _ = true)] at hm; cases hm
    exact .inl (by omega)
  | put h2 hl =>
   simp only [Em]
   by_cases e1 : h1 = h<;>by_cases e2 : h2 = h<;>simp only [e1,e2,if_true,if_false]
   simp only [efW,List.cons.injEq,and_true] at hy hy'
   subst hy hy'
   simp [Co,e1,e2] at hm
 | put h1 hl =>
  cases e' with
  | set h2 o2 vs =>
   simp only [Em]
   by_cases e1 : h1 = h<;>by_cases e2 : h2 = h<;>simp only [e1,e2,if_true,if_false]
   simp only [efW,List.cons.injEq,and_true] at hy hy'
   subst hy hy'
   simp [Co,e1,e2] at hm
  | put h2 hl2 =>
   simp only [Em]
   by_cases e1 : h1 = h<;>by_cases e2 : h2 = h<;>simp only [e1,e2,if_true,if_false]
   simp only [efW,List.cons.injEq,and_true] at hy hy'
   subst hy hy'
   simp [Co,e1,e2] at hm
theorem Ad4 (e : Ef) : ∃ y,efW [e] = [y]:=by cases e<;>exact ⟨_,rfl⟩
theorem Zw (e : Ef) (es : List Ef) {y : Nat×Option (Nat×Nat)} (hy : efW [e] = [y]) : efW (e :: es) = y :: efW es:=by
 cases e<;>simp only [efW,List.cons.injEq,and_true] at hy ⊢<;>exact hy
theorem Zv {h : Nat} {e : Ef} {y : Nat×Option (Nat×Nat)} (hy : efW [e] = [y]) : ∀ (es : List Ef) (x : Hl),(∀ z∈efW es,Co y z = false)→Da h es (Em h e x) = Em h e (Da h es x)
 | [],_,_=>rfl
 | e' :: es,x,hm=>by
  obtain ⟨y',hy'⟩:=Ad4 e'
  rw [Zw e' es hy'] at hm
  show Da h es (Em h e' (Em h e x)) = Em h e (Da h es (Em h e' x))
  rw [←Zv hy es (Em h e' x) fun z hz=>hm z (List.mem_cons_of_mem _ hz)]
  rw [Af8 hy hy' (hm y' (List.mem_cons_self ..))]
theorem Te {h : Nat} : ∀ (es es' : List Ef) (x : Hl),(∀ y∈efW es,∀ z∈efW es',Co y z = false)→Da h es' (Da h es x) = Da h es (Da h es' x)
 | [],_,_,_=>rfl
 | e :: es,es',x,hm=>by
  obtain ⟨y,hy⟩:=Ad4 e
  rw [Zw e es hy] at hm
  show Da h es' (Da h es (Em h e x)) = Da h es (Em h e (Da h es' x))
  rw [Te es es' _ fun y hy=>hm y (List.mem_cons_of_mem _ hy)]
  rw [Zv hy es' x (hm y (List.mem_cons_self ..))]
theorem S4 {h : Nat} {S : Nat→Bool} {es : List Ef} : ∀ (L : List (Oper×Rec)) (k : Nat) (x : Hl),(∀ (j : Nat) (p : Oper×Rec),L[j]? = some p→S (k + j) = true→∀ y∈efW es,∀ z∈efW (Ko p.2),Co y z = false)→
  Ej h S L k (Da h es x) = Da h es (Ej h S L k x)
 | [],_,_,_=>rfl
 | p :: L,k,x,hm=>by
  simp only [Ej]
  have hrec:=fun x=>S4 (h:=h) (S:=S) (es:=es) L (k + 1) x fun j q hq hd=>hm (j + 1) q (by simpa using hq) (by rwa [show k + (j + 1) = k + 1 + j by omega])
  cases hSk : S k with
  | false=>exact hrec x
  | true =>
   simp only [if_true]
   rw [Te es (Ko p.2) x (hm 0 p rfl (by simpa using hSk)),hrec]
theorem No {h : Nat} {S S' : Nat→Bool} : ∀ (L : List (Oper×Rec)) (i k : Nat) (x : Hl) (p : Oper×Rec),L[i]? = some p→S (k + i) = false→S' (k + i) = true→(∀ j,j≠k + i→S' j = S j)→
  (∀ (j : Nat) (q : Oper×Rec),i < j→L[j]? = some q→S (k + j) = true→∀ y∈efW (Ko p.2),∀ z∈efW (Ko q.2),Co y z = false)→
  Ej h S' L k x = Da h (Ko p.2) (Ej h S L k x)
 | [],i,_,_,_,h,_,_,_,_=>by simp at h
 | q :: L,0,k,x,p,hp,h1,h2,hS,hm=>by
  simp at hp
  subst hp
  simp only [Nat.add_zero] at h1 h2
  simp only [Ej,h1,h2,if_true,Bool.false_eq_true,if_false]
  have e : Ej h S' L (k + 1) (Da h (Ko q.2) x) = Ej h S L (k + 1) (Da h (Ko q.2) x):=by
   have : ∀ (L : List (Oper×Rec)) (m : Nat) (x : Hl),k < m→Ej h S' L m x = Ej h S L m x:=by
    intro L
    induction L with
    | nil=>intro m x _; rfl
    | cons r L ih=>intro m x hlt; simp only [Ej]; rw [hS m (by omega)]; exact ih _ _ (by omega)
   exact this L (k + 1) _ (by omega)
  rw [e]
  exact S4 L (k + 1) x fun j r hr hd=>hm (j + 1) r (by omega) (by simpa using hr) (by rwa [show k + (j + 1) = k + 1 + j by omega])
 | q :: L,i + 1,k,x,p,hp,h1,h2,hS,hm=>by
  simp only [Ej]
  rw [hS k (by omega)]
  exact No L i (k + 1) _ p (by simpa using hp) (by rwa [show k + 1 + i = k + (i + 1) by omega]) (by rwa [show k + 1 + i = k + (i + 1) by omega]) (fun j hj=>hS j (by omega))
   fun j r hj hr hd=>hm (j + 1) r (by omega) (by simpa using hr) (by rwa [show k + (j + 1) = k + 1 + j by omega])
end Go.Sx
namespace Go.Sx
open Go
theorem Sd {n : Nat} : ∀ {es : List Edge},n∈C4 es→∃ e∈es,Region.binds .any e = true∧e.on = n
 | [],h=>by simp [C4] at h
 | e :: es,h=>by
  simp only [C4,List.mem_append] at h
  rcases h with h | h
  ·refine ⟨e,List.mem_cons_self ..,?_⟩
   cases hg : e.ground<;>simp only [hg,List.mem_singleton,List.not_mem_nil] at h<;>exact ⟨by simp [Region.binds,hg],h.symm⟩
  ·obtain ⟨e',h1,h2⟩:=Sd h
   exact ⟨e',List.mem_cons_of_mem _ h1,h2⟩
theorem Tf {e : Edge} : ∀ {es : List Edge},e∈es→Region.binds .any e = true→e.on∈C4 es
 | [],h,_=>by cases h
 | e' :: es,h,hb=>by
  simp only [C4,List.mem_append]
  rcases List.mem_cons.1 h with rfl | h
  ·left
   cases hg : e.ground<;>simp [Region.binds,hg] at hb ⊢
  ·exact .inr (Tf h hb)
theorem Sb {x : Nat} : ∀ {l t : List Nat},x∈Aao l t→x∈l∨x∈t
 | [],_,h=>.inr h
 | y :: l,t,h=>by
  rcases Sb (l:=l) h with h | h
  ·exact .inl (List.mem_cons_of_mem _ h)
  ·unfold Ajv at h
   split at h
   ·exact .inr h
   ·rcases List.mem_cons.1 h with rfl | h
    ·exact .inl (List.mem_cons_self ..)
    ·exact .inr h
theorem Aid {x y : Nat} {l : List Nat} (h : x∈Ajv y l) : x = y∨x∈l:=by
 unfold Ajv at h
 split at h
 ·exact .inr h
 ·exact List.mem_cons.1 h
theorem Se {acc : List (List Nat)} {x : Nat} : ∀ {l : List Nat},x∈Pe acc l→∃ i∈l,x = i∨x∈(nth acc i).getD []
 | [],h=>by simp [Pe] at h
 | i :: l,h=>by
  simp only [Pe] at h
  rcases Sb h with h | h
  ·exact ⟨i,List.mem_cons_self ..,Aid h⟩
  ·obtain ⟨j,h1,h2⟩:=Se h
   exact ⟨j,List.mem_cons_of_mem _ h1,h2⟩
theorem Sg {n : Nat} : ∀ {l : List Nat},Wk n l = true→∀ x∈l,x < n
 | [],_,x,h=>by cases h
 | y :: l,h,x,hx=>by
  simp only [Wk,Bool.and_eq_true,Nat.blt_eq] at h
  rcases List.mem_cons.1 hx with rfl | hx
  ·exact h.1
  ·exact Sg h.2 x hx
theorem Kr : ∀ {os : List Oper} {k : Nat},Gi os k = true→∀ {j : Nat} {o : Oper},os[j]? = some o→∀ x∈C4 o.after.toList,x < k + j
 | [],_,_,j,o,h=>by simp at h
 | o0 :: os,k,hk,j,o,h=>by
  simp only [Gi,Bool.and_eq_true] at hk
  cases j with
  | zero=>simp at h; subst h; exact Sg hk.1
  | succ j =>
   simp at h
   intro x hx
   have:=Kr hk.2 h x hx
   omega
theorem Tk {S : Nat→Prop} {all : List Oper} (hdown : ∀ (k : Nat) (o : Oper),all[k]? = some o→S k→∀ x∈C4 o.after.toList,S x) (hok : Gi all 0 = true) :
  ∀ (os : List Oper) (acc : List (List Nat)),(∀ (j : Nat) (o : Oper),os[j]? = some o→all[acc.length + j]? = some o)→
   (∀ (j : Nat) (o : Oper) (l : List Nat),all[j]? = some o→acc[j]? = some l→(∀ x∈C4 o.after.toList,S x)→∀ x∈l,S x)→
   ∀ (j : Nat) (o : Oper) (l : List Nat),all[j]? = some o→(Hn os acc)[j]? = some l→(∀ x∈C4 o.after.toList,S x)→∀ x∈l,S x
 | [],acc,_,hacc=>fun j o l ho hl=>hacc j o l ho hl
 | o0 :: os,acc,hal,hacc=>by
  have h0:=hal 0 o0 rfl
  simp only [Nat.add_zero] at h0
  refine Tk hdown hok os (acc ++ [Pe acc (C4 o0.after.toList)]) (fun j o h=>?_) (fun j o l ho hl he x hx=>?_)
  ·have:=hal (j + 1) o (by simpa using h)
   simp only [List.length_append,List.length_singleton]
   rwa [show acc.length + 1 + j = acc.length + (j + 1) by omega]
  ·by_cases hj : j < acc.length
   ·rw [List.getElem?_append_left hj] at hl
    exact hacc j o l ho hl he x hx
   ·have hje : j = acc.length:=by
     have:=(List.getElem?_eq_some_iff.1 hl).1
     simp at this
     omega
    subst hje
    rw [h0] at ho
    cases ho
    simp at hl
    subst hl
    obtain ⟨i,hi,hx⟩:=Se hx
    have hSi:=he i hi
    rcases hx with rfl | hx
    ·exact hSi
    ·have hlt : i < acc.length:=by have:=Kr hok h0 i hi; omega
     have hai : all[i]? = some (all[i]'(by have:=(List.getElem?_eq_some_iff.1 h0).1; omega)):=List.getElem?_eq_getElem _
     rw [Ag,List.getElem?_eq_getElem hlt] at hx
     exact hacc i _ _ hai (List.getElem?_eq_getElem hlt) (hdown i _ hai hSi) x hx
theorem Lp {all : List Oper} {bs : List (List Nat)} {i : Nat} {o : Oper} {f : FP} : ∀ {os : List Oper} {fs : List FP} {j : Nat},Lb all bs i o f os fs j = true→∀ {m : Nat} {o' : Oper} {f' : FP},os[m]? = some o'→fs[m]? = some f'→
  Z5 all o f o' f' = false∨i∈(nth bs (j + m)).getD []
 | [],_,_,_,m,o',f',h,_=>by simp at h
 | _ :: _,[],_,_,m,o',f',_,h=>by simp at h
 | o1 :: os,f1 :: fs,j,h,m,o',f',h1,h2=>by
  simp only [Lb,Bool.and_eq_true,Bool.or_eq_true,Bool.not_eq_true',Di] at h
  cases m with
  | zero=>simp at h1 h2; subst h1 h2; exact h.1
  | succ m =>
   simp at h1 h2
   have:=Lp h.2 h1 h2
   rwa [show j + 1 + m = j + (m + 1) by omega] at this
theorem Ox {all : List Oper} {bs : List (List Nat)} : ∀ {os : List Oper} {fs : List FP} {k : Nat},Sv all bs os fs k = true→∀ {i j : Nat} {o o' : Oper} {f f' : FP},i < j→os[i]? = some o→os[j]? = some o'→fs[i]? = some f→fs[j]? = some f'→
  Z5 all o f o' f' = false∨(k + i)∈(nth bs (k + j)).getD []
 | [],_,_,_,i,j,o,o',f,f',_,h,_,_,_=>by simp at h
 | _ :: _,[],_,_,i,j,o,o',f,f',_,_,_,h,_=>by simp at h
 | o1 :: os,f1 :: fs,k,h,i,j,o,o',f,f',hij,h1,h2,h3,h4=>by
  simp only [Sv,Bool.and_eq_true] at h
  obtain ⟨m,rfl⟩ : ∃ m,j = m + 1:=⟨j - 1,by omega⟩
  simp at h2 h4
  cases i with
  | zero =>
   simp at h1 h3
   subst h1 h3
   have:=Lp h.1 h2 h4
   simpa [show k + 1 + m = k + (m + 1) by omega] using this
  | succ i =>
   simp at h1 h3
   have:=Ox h.2 (i:=i) (j:=m) (by omega) h1 h2 h3 h4
   rwa [show k + 1 + i = k + (i + 1) by omega,show k + 1 + m = k + (m + 1) by omega] at this
theorem Sc {s : Nat} : ∀ {xs : List Operand},s∈xs.flatMap Ck→s∈Wb xs
 | [],h=>by simp at h
 | x :: xs,h=>by
  simp only [List.flatMap_cons,List.mem_append] at h
  simp only [Wb,List.mem_append]
  rcases h with h | h
  ·left
   cases x with
   | tmp _=>simpa [Ck,Ah1] using h
   | _=>simp [Ck] at h
  ·exact .inr (Sc h)
theorem Eu {t : List Nat} : ∀ {l : List Nat},Oj l t = false→∀ x∈l,x ∉ t
 | [],_,x,h=>by cases h
 | y :: l,h,x,hx=>by
  simp only [Oj,Bool.or_eq_false_iff] at h
  rcases List.mem_cons.1 hx with rfl | hx
  ·intro hm; rw [(Di _ _).2 hm] at h; cases h.1
  ·exact Eu h.2 x hx
theorem Uh {all : List Oper} {o : Oper} {j : Nat} {want : Bool} {s : Nat} (hg : o.guard = some (j,want)) (h : (nth all j).bind (·.dst) = some s) : s∈O1 all o.guard:=by
 rw [hg]
 simp only [O1]
 cases hj : nth all j with
 | none=>rw [hj] at h; cases h
 | some oj =>
  rw [hj] at h
  simp only [Option.bind_some] at h
  simp [h]
section
variable {P : Program} {ops : Array Oper} {gl : List (Nat×SV)} {B : Bs} {N : Nat} {σ σ' : Sy} {rs : List Rec}
structure Ctx (P : Program) (ops : Array Oper) (gl : List (Nat×SV)) (N : Nat) (σ σ' : Sy) (rs : List Rec) : Prop where
 len : rs.length = ops.size
 step : ∀ (i : Nat) (o : Oper) (rec : Rec),ops[i]? = some o→rs[i]? = some rec→∃ σi,WfG σi∧σi.fr.length = N∧(A5 σi,Ao σi.hp) = Cc N σ'.gm ((ops.toList.zip rs).take i) (A5 σ,Ao σ.hp)∧Ajy P gl ops.toList o σ'.gm σi rec
 edges : Gi ops.toList 0 = true
 ind : Sv ops.toList (Hn ops.toList []) ops.toList (rs.map fpR) 0 = true
def xS (N : Nat) (ops : Array Oper) (σ σ' : Sy) (rs : List Rec) (S : Nat→Bool) : X:=Du N σ'.gm S (ops.toList.zip rs) 0 (A5 σ,Ao σ.hp)
structure Acl (ops : Array Oper) (S : Nat→Bool) : Prop where
 down : ∀ (k : Nat) (o : Oper),ops[k]? = some o→S k = true→∀ x∈C4 o.after.toList,S x = true
theorem Aaf (h : Ctx P ops gl N σ σ' rs) {S : Nat→Bool} (hd : Acl ops S) {j : Nat} {o : Oper} (ho : ops[j]? = some o) (he : ∀ x∈C4 o.after.toList,S x = true) {i : Nat} (hi : i∈(nth (Hn ops.toList []) j).getD []) : S i = true:=by
 rw [Ag] at hi
 cases hl : (Hn ops.toList [])[j]? with
 | none=>rw [hl] at hi; simp at hi
 | some l =>
  rw [hl] at hi
  refine Tk (S:=fun i=>S i = true) (all:=ops.toList) (fun k o ho hs=>hd.down k o (by rw [←Array.getElem?_toList]; exact ho) hs) h.edges ops.toList [] (by simp) (by simp) j o l (by rw [Array.getElem?_toList]; exact ho) hl he i hi
theorem Wz (rec : Rec) : (fpR rec).wr = efW (Ko rec):=by
 cases rec with
 | none=>rfl
 | some p=>obtain ⟨a,b,c⟩:=p; rfl
theorem Ny (h : Ctx P ops gl N σ σ' rs) {S : Nat→Bool} (hd : Acl ops S) {i : Nat} {o : Oper} {rec : Rec} (ho : ops[i]? = some o) (hr : rs[i]? = some rec) (hi : S i = false) (he : ∀ x∈C4 o.after.toList,S x = true)
  {k : Nat} {p : Oper×Rec} (hk : (ops.toList.zip rs)[k]? = some p) (hdiff : S k≠decide (k < i)) :
  (∀ s,p.1.dst = some s→s ∉ looks ops.toList o)∧(∀ z∈efW (Ko p.2),∀ y∈rdR (fpR rec),Co z y = false)∧(∀ z∈efW (Ko p.2),∀ y∈efW (Ko rec),Co z y = false)∧(k≠i→∀ s,p.1.dst = some s→o.dst≠some s)∧k≠i:=by
 have hki : k≠i:=by rintro rfl; apply hdiff; rw [hi]; simp
 rw [List.getElem?_zip_eq_some] at hk
 obtain ⟨hk1,hk2⟩:=hk
 have hk1' : ops[k]? = some p.1:=by rw [←Array.getElem?_toList]; exact hk1
 by_cases hlt : k < i
 ·have hSk : S k = false:=by
   cases hs : S k with
   | false=>rfl
   | true=>exact absurd (by rw [hs]; simp [hlt]) hdiff
  rcases Ox h.ind hlt hk1 (by rw [Array.getElem?_toList]; exact ho) (by rw [List.getElem?_map,hk2]; rfl) (by rw [List.getElem?_map,hr]; rfl) with hc | hc
  ·simp only [Z5,Bool.or_eq_false_iff] at hc
   obtain ⟨⟨⟨⟨⟨c1,c2⟩,c3⟩,c4⟩,c5⟩,c6⟩:=hc
   rw [Wz] at c4 c5
   rw [Wz] at c5
   exact ⟨fun s hs=>Eu c1 s (by simp [hs,T5]),fun z hz y hy=>Et c4 z hz y hy,fun z hz y hy=>Et c5 z hz y hy,fun _ s hs e=>Eu c2 s (by simp [hs,T5]) (by simp [e,T5]),hki⟩
  ·simp only [Nat.zero_add] at hc
   rw [Aaf h hd ho he hc] at hSk
   cases hSk
 ·have hgt : i < k:=by omega
  have hSk : S k = true:=by
   cases hs : S k with
   | true=>rfl
   | false=>exact absurd (by rw [hs]; simp [hlt]) hdiff
  rcases Ox h.ind hgt (by rw [Array.getElem?_toList]; exact ho) hk1 (by rw [List.getElem?_map,hr]; rfl) (by rw [List.getElem?_map,hk2]; rfl) with hc | hc
  ·simp only [Z5,Bool.or_eq_false_iff] at hc
   obtain ⟨⟨⟨⟨⟨c1,c2⟩,c3⟩,c4⟩,c5⟩,c6⟩:=hc
   rw [Wz] at c4 c5
   rw [Wz] at c5 c6
   refine ⟨fun s hs=>Eu c3 s (by simp [hs,T5]),fun z hz y hy=>Et c6 z hz y hy,fun z hz y hy=>by rw [Pp]; exact Et c5 y hy z hz,fun _ s hs e=>Eu c2 s (by simp [e,T5]) (by simp [hs,T5]),hki⟩
  ·simp only [Nat.zero_add] at hc
   have:=Aaf h hd hk1' (hd.down k _ hk1' hSk) hc
   rw [this] at hi
   cases hi
theorem xS_slot (h : Ctx P ops gl N σ σ' rs) {S : Nat→Bool} (hd : Acl ops S) {i : Nat} {o : Oper} {rec : Rec} (ho : ops[i]? = some o) (hr : rs[i]? = some rec) (hi : S i = false) (he : ∀ x∈C4 o.after.toList,S x = true) {s : Nat} (hs : s∈looks ops.toList o) :
  (xS N ops σ σ' rs S).1 s = (Cc N σ'.gm ((ops.toList.zip rs).take i) (A5 σ,Ao σ.hp)).1 s:=by
 rw [←L7 (ops.toList.zip rs) i 0]
 refine Jd _ 0 _ _ rfl fun k p hk hdst=>?_
 simp only [Nat.zero_add]
 by_cases e : S k = decide (k < i)
 ·exact e
 ·exact absurd hs ((Ny h hd ho hr hi he hk e).1 s hdst)
theorem Qq (h : Ctx P ops gl N σ σ' rs) {S : Nat→Bool} (hd : Acl ops S) {i : Nat} {o : Oper} {rec : Rec} (ho : ops[i]? = some o) (hr : rs[i]? = some rec) (hi : S i = false) (he : ∀ x∈C4 o.after.toList,S x = true) {ρ : Nat×Option (Nat×Nat)}
  (hρ : ρ∈rdR (fpR rec)∨ρ∈efW (Ko rec)) : same ((xS N ops σ σ' rs S).2 ρ.1) ((Cc N σ'.gm ((ops.toList.zip rs).take i) (A5 σ,Ao σ.hp)).2 ρ.1) (inR ρ)∧
   (ρ.2 = none→(xS N ops σ σ' rs S).2 ρ.1 = (Cc N σ'.gm ((ops.toList.zip rs).take i) (A5 σ,Ao σ.hp)).2 ρ.1):=by
 rw [←L7 (ops.toList.zip rs) i 0,xS,G8,G8]
 refine P0 _ 0 _ _ (.inl rfl) (fun _=>rfl) fun k p hk hdiff z hz=>?_
 simp only [Nat.zero_add] at hdiff
 obtain ⟨_,a2,a3,_⟩:=Ny h hd ho hr hi he hk hdiff
 rcases hρ with hρ | hρ
 ·exact a2 z hz ρ hρ
 ·exact a3 z hz ρ hρ
theorem Ael (h : Ctx P ops gl N σ σ' rs) {S S' : Nat→Bool} (hd : Acl ops S) {i : Nat} {o : Oper} {rec : Rec} (ho : ops[i]? = some o) (hr : rs[i]? = some rec) (hi : S i = false) (he : ∀ x∈C4 o.after.toList,S x = true) (hi' : S' i = true) (hS : ∀ j,j≠i→S' j = S j) :
  xS N ops σ σ' rs S' = Dk N σ'.gm o rec (xS N ops σ σ' rs S):=by
 have hlt : i < rs.length:=(List.getElem?_eq_some_iff.1 hr).1
 have hp : (ops.toList.zip rs)[i]? = some (o,rec):=by rw [List.getElem?_zip_eq_some]; exact ⟨by rw [Array.getElem?_toList]; exact ho,hr⟩
 apply Prod.ext
 ·funext s
  by_cases hds : o.dst = some s∧s < N
  ·-- the slot that it writes
   have key : ∀ (L : List (Oper×Rec)) (i k : Nat) (x : X),L[i]? = some (o,rec)→S' (k + i) = true→(∀ (j : Nat) (q : Oper×Rec),i < j→L[j]? = some q→q.1.dst = some s→S' (k + j) = false)→(Du N σ'.gm S' L k x).1 s = (Dk N σ'.gm o rec x).1 s:=by
    intro L
    induction L with
    | nil=>intro i k x h; simp at h
    | cons q L ih =>
     intro i k x hL h1 h2
     cases i with
     | zero =>
      simp at hL
      subst hL
      simp only [Nat.add_zero] at h1
      simp only [Du,h1,if_true]
      have : (Du N σ'.gm S' L (k + 1) (Dk N σ'.gm o rec x)).1 s = (Du N σ'.gm (fun _=>false) L (k + 1) (Dk N σ'.gm o rec x)).1 s :=
       Jd L (k + 1) _ _ rfl fun j q hq hdq=>by have:=h2 (j + 1) q (by omega) (by simpa using hq) hdq; rwa [show k + (j + 1) = k + 1 + j by omega] at this
      rw [this,Je L (k + 1) _ fun _ _=>rfl]
     | succ i =>
      simp only [Du]
      rw [ih i (k + 1) _ (by simpa using hL) (by rwa [show k + 1 + i = k + (i + 1) by omega]) fun j q hj hq hdq=>by have:=h2 (j + 1) q (by omega) (by simpa using hq) hdq; rwa [show k + (j + 1) = k + 1 + j by omega] at this]
      cases rec with
      | none=>simp [Dk,F7,hds.1,hds.2]
      | some p=>obtain ⟨a,b,c⟩:=p; simp [Dk,F7,hds.1,hds.2]
   have:=key (ops.toList.zip rs) i 0 (A5 σ,Ao σ.hp) hp (by simpa using hi') fun j q hj hq hdq=>by
    simp only [Nat.zero_add]
    rw [hS j (by omega)]
    cases hs : S j with
    | false=>rfl
    | true =>
     obtain ⟨_,_,_,a4,_⟩:=Ny h hd ho hr hi he hq (by rw [hs]; simp; omega)
     exact absurd hds.1 (a4 (by omega) s hdq)
   rw [xS,this]
   cases rec with
   | none=>simp [Dk,F7,hds.1,hds.2]
   | some p=>obtain ⟨a,b,c⟩:=p; simp [Dk,F7,hds.1,hds.2]
  ·have e1 : (Dk N σ'.gm o rec (xS N ops σ σ' rs S)).1 s = (xS N ops σ σ' rs S).1 s:=by
    cases rec with
    | none=>simp only [Dk,F7,if_neg hds]
    | some p=>obtain ⟨a,b,c⟩:=p; simp only [Dk,F7,if_neg hds]
   rw [e1]
   -- a slot that it does not write
   have key : ∀ (L : List (Oper×Rec)) (i k : Nat) (x y : X),x.1 s = y.1 s→L[i]? = some (o,rec)→(∀ j,j≠k + i→S' j = S j)→(Du N σ'.gm S' L k x).1 s = (Du N σ'.gm S L k y).1 s:=by
    intro L
    induction L with
    | nil=>intro i k x y _ h; simp at h
    | cons q L ih =>
     intro i k x y hxy hL h2
     have happ : ∀ z : X,q = (o,rec)→(Dk N σ'.gm q.1 q.2 z).1 s = z.1 s:=by
      rintro z rfl
      cases rec with
      | none=>simp only [Dk,F7,if_neg hds]
      | some p=>obtain ⟨a,b,c⟩:=p; simp only [Dk,F7,if_neg hds]
     cases i with
     | zero =>
      simp at hL
      simp only [Du]
      refine Jd L (k + 1) _ _ ?_ fun j q' _ _=>h2 _ (by omega)
      have a1 : (if S' k then Dk N σ'.gm q.1 q.2 x else x).1 s = x.1 s:=by split; exact happ x hL; rfl
      have a2 : (if S k then Dk N σ'.gm q.1 q.2 y else y).1 s = y.1 s:=by split; exact happ y hL; rfl
      rw [a1,a2,hxy]
     | succ i =>
      simp only [Du]
      rw [h2 k (by omega)]
      refine ih i (k + 1) _ _ ?_ (by simpa using hL) fun j hj=>h2 j (by omega)
      split
      ·exact Nx hxy
      ·exact hxy
   exact key _ i 0 _ _ rfl hp (by simpa using hS)
 ·funext k
  rw [Vu,xS,xS,G8,G8]
  refine No _ i 0 _ (o,rec) hp (by simpa using hi) (by simpa using hi') (by simpa using hS) fun j q hj hq hs y hy z hz=>?_
  simp only [Nat.zero_add] at hs
  obtain ⟨_,_,a3,_⟩:=Ny h hd ho hr hi he hq (by rw [hs]; simp; omega)
  rw [Pp]
  exact a3 z hz y hy
end
end Go.Sx
