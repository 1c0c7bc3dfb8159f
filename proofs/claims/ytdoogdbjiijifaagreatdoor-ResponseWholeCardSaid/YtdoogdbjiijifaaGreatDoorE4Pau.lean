/- Part of the proofs of the statements about responses and messages (layers 9 and 10): a symbolic executor over the code, that it is sound, and contracts of functions; it has no conditions of its own. -/
import Derived.Test.YtdoogdbjiijifaaGreatDoorE4Pat
namespace Go.Sx
open Go
abbrev Rec:=Option (Sy×List Nat×Out)
abbrev X:=(Nat->SG)×(Nat->Hl)
def F9 (N : Nat) (f : Nat->SG) (d : Option Nat) (g : SG) : Nat->SG:=fun s=>if d = some s/\s < N then g else f s
def En (h : Nat) : Ef->Hl->Hl
 | .set h' off vs,x=>if h' = h then (match x with | .blk ty cs=>.blk ty (Cu cs off vs) | x=>x) else x
 | .put h' hl,x=>if h' = h then hl else x
def Dd (h : Nat) : List Ef->Hl->Hl
 | [],x=>x
 | e :: es,x=>Dd h es (En h e x)
theorem efF_at (hf : Nat->Hl) (e : Ef) (h : Nat) : efF hf e h = En h e (hf h):=by
 cases e with
 | set h' off vs =>
  simp only [efF,En]
  by_cases e : h' = h
  ·subst e
   rw [if_pos rfl]
   cases hx : hf h'<;>simp [upd,hx]
  ·rw [if_neg e]
   cases hx : hf h'<;>simp [upd,Ne.symm e]
 | put h' hl =>
  simp only [efF,En,upd]
  by_cases e : h' = h
  ·subst e; simp
  ·rw [if_neg e,if_neg (fun h=>e h.symm)]
theorem Aew (h : Nat) : ∀ (es : List Ef) (hf : Nat->Hl),Ha hf es h = Dd h es (hf h)
 | [],_=>rfl
 | e :: es,hf=>by
  show Ha (efF hf e) es h = Dd h es (En h e (hf h))
  rw [Aew h es,efF_at]
def Dl (N : Nat) (gm : List BT) (o : Oper) (rec : Rec) (x : X) : X :=
 match rec with
 | none=>(F9 N x.1 o.dst none,x.2)
 | some (_,T,r)=>(F9 N x.1 o.dst (some (Ab gm T,r.v)),Ha x.2 r.efs)
def Du (N : Nat) (gm : List BT) (S : Nat->Bool) : List (Oper×Rec)->Nat->X->X
 | [],_,x=>x
 | p :: l,i,x=>Du N gm S l (i + 1) (if S i then Dl N gm p.1 p.2 x else x)
def Cd (N : Nat) (gm : List BT) : List (Oper×Rec)->X->X
 | [],x=>x
 | p :: l,x=>Cd N gm l (Dl N gm p.1 p.2 x)
theorem Wd {N : Nat} {gm : List BT} {S : Nat->Bool} : ∀ (L : List (Oper×Rec)) (k : Nat) (x : X),(∀ j,j < L.length->S (k + j) = true)->Du N gm S L k x = Cd N gm L x
 | [],_,_,_=>rfl
 | p :: L,k,x,h=>by
  have h0:=h 0 (by simp)
  simp only [Nat.add_zero] at h0
  simp only [Du,Cd,h0,if_true]
  exact Wd L (k + 1) _ fun j hj=>by have:=h (j + 1) (by simpa using hj); rwa [show k + 1 + j = k + (j + 1) by omega]
theorem Jh {N : Nat} {gm : List BT} {S : Nat->Bool} : ∀ (L : List (Oper×Rec)) (k : Nat) (x : X),(∀ j,j < L.length->S (k + j) = false)->Du N gm S L k x = x
 | [],_,_,_=>rfl
 | p :: L,k,x,h=>by
  have h0:=h 0 (by simp)
  simp only [Nat.add_zero] at h0
  simp only [Du,h0,Bool.false_eq_true,if_false]
  exact Jh L (k + 1) _ fun j hj=>by have:=h (j + 1) (by simpa using hj); rwa [show k + 1 + j = k + (j + 1) by omega]
theorem Mf {N : Nat} {gm : List BT} : ∀ (L : List (Oper×Rec)) (i k : Nat) (x : X),Du N gm (fun j=>decide (j < k + i)) L k x = Cd N gm (L.take i) x
 | [],i,k,x=>by simp [Du,Cd]
 | p :: L,0,k,x=>by
  simp only [List.take_zero,Cd]
  exact Jh _ _ _ fun j _=>by simp
 | p :: L,i + 1,k,x=>by
  simp only [Du,List.take_succ_cons,Cd]
  rw [if_pos (by simp)]
  have:=Mf (N:=N) (gm:=gm) L i (k + 1) (Dl N gm p.1 p.2 x)
  rw [<-this]
  congr 1
  funext j
  congr 1
  exact propext (by omega)
def Aky (P : Program) (gl : List (Nat×SV)) (all : List Oper) (o : Oper) (gm : List BT) (σ : Sy) : Rec->Prop
 | none=>Gf all σ o.guard = some none
 | some (σ1,T,r)=>Gf all σ o.guard = some (some (σ1,T))/\Ui P gl σ1 T o r/\In σ1.hp r.efs = true/\((T = []\/r.efs = []\/Bd (Ab σ1.gm T))/\∀ c,o.op≠.defer c)/\Ab gm T = Ab σ1.gm T
theorem Ql {gm y : List BT} : ∀ {T : List Nat},(∀ i∈T,i < gm.length)->Ab (gm ++ y) T = Ab gm T
 | [],_=>rfl
 | i :: T,h=>by
  have h1:=Ql (gm:=gm) (y:=y) (T:=T) fun j hj=>h j (List.mem_cons_of_mem _ hj)
  have h2 : nth (gm ++ y) i = nth gm i:=by rw [Ah,Ah,List.getElem?_append_left (h i (List.mem_cons_self ..))]
  simp only [Ab,List.filterMap_cons,h2] at *
  rw [h1]
theorem Wj (σ : Sy) (d : Option Nat) (g : Option G) (hp : List Hl) : A6 ⟨setD σ.fr d g,hp,σ.gm⟩ = F9 σ.fr.length (A6 σ) d (g.map fun g=>(Ab σ.gm g.tg,g.v)):=by
 funext s
 cases d with
 | none=>simp [setD,F9,A6]
 | some k =>
  simp only [setD,F9,A6,Bq]
  by_cases e : s = k/\k < σ.fr.length
  ·obtain ⟨rfl,h⟩:=e; simp [h]
  ·rw [if_neg e,if_neg (fun h=>e ⟨(Option.some.inj h.1).symm,by rw [Option.some.inj h.1]; exact h.2⟩)]
theorem Aia {P : Program} {gl : List (Nat×SV)} {ops : Array Oper} {os : List Oper} {σ σ' : Sy} {rs : List Rec} (h : Yd P gl ops.toList os σ rs σ') : WfG σ->∀ N,σ.fr.length = N->
  rs.length = os.length/\WfG σ'/\σ'.fr.length = N/\σ.hp.length<=σ'.hp.length/\(∃ y,σ'.gm = σ.gm ++ y)/\(A6 σ',Ao σ'.hp) = Cd N σ'.gm (os.zip rs) (A6 σ,Ao σ.hp)/\
  ∀ (i : Nat) (o : Oper) (rec : Rec),os[i]? = some o->rs[i]? = some rec->∃ σi,WfG σi/\σi.fr.length = N/\(A6 σi,Ao σi.hp) = Cd N σ'.gm ((os.zip rs).take i) (A6 σ,Ao σ.hp)/\Aky P gl ops.toList o σ'.gm σi rec:=by
 induction h with
 | nil σ=>intro wf N hN; exact ⟨rfl,wf,hN,Nat.le_refl _,⟨[],by simp⟩,rfl,by simp⟩
 | @skip o os σ σ' rs hg h ih =>
  intro wf N hN
  obtain ⟨h1,h2,h3,h4,⟨y,h5⟩,h6,h7⟩:=ih (wf.setD o.dst none (by simp) σ.hp) N (by rw [Ko]; exact hN)
  have hx : Dl N σ'.gm o none (A6 σ,Ao σ.hp) = (A6 ⟨setD σ.fr o.dst none,σ.hp,σ.gm⟩,Ao σ.hp):=by
   simp only [Dl]
   rw [Wj,hN]
   rfl
  refine ⟨by simp [h1],h2,h3,h4,⟨y,h5⟩,?_,fun i o' rec hi hr=>?_⟩
  ·simp only [List.zip_cons_cons,Cd]
   rw [hx]; exact h6
  ·cases i with
   | zero =>
    simp at hi hr
    subst hi hr
    exact ⟨σ,wf,hN,rfl,hg⟩
   | succ i =>
    simp at hi hr
    obtain ⟨σi,w1,w2,w3,w4⟩:=h7 i o' rec hi hr
    refine ⟨σi,w1,w2,?_,w4⟩
    simp only [List.zip_cons_cons,List.take_succ_cons,Cd]
    rw [hx]; exact w3
 | @step o os σ σ1 σ' T r rs hg hl he hte h ih =>
  intro wf N hN
  obtain ⟨w1,w2,w3,w4,w5,⟨z,w6⟩,_,_⟩:=Ge (ops:=ops) rfl hg wf
  obtain ⟨h1,h2,h3,h4,⟨y,h5⟩,h6,h7⟩:=ih (w1.setD o.dst (some ⟨T,none,none,r.v⟩) (by rintro g' ⟨⟩; exact ⟨w5,rfl,rfl⟩) _) N (by rw [Ko,w4]; exact hN)
  have hT : Ab σ'.gm T = Ab σ1.gm T:=by rw [h5]; exact Ql w5
  have hx : Dl N σ'.gm o (some (σ1,T,r)) (A6 σ,Ao σ.hp) = (A6 ⟨setD σ1.fr o.dst (some ⟨T,none,none,r.v⟩),Kt σ1.hp r.efs,σ1.gm⟩,Ao (Kt σ1.hp r.efs)):=by
   simp only [Dl]
   rw [Wj,Iu _ _ he,w4,hN,w2,w3,hT]
   rfl
  refine ⟨by simp [h1],h2,h3,Nat.le_trans (by rw [<-w3]; exact Nk _ _) h4,⟨z ++ y,by rw [h5,w6,List.append_assoc]⟩,?_,fun i o' rec hi hr=>?_⟩
  ·simp only [List.zip_cons_cons,Cd]
   rw [hx]; exact h6
  ·cases i with
   | zero =>
    simp at hi hr
    subst hi hr
    exact ⟨σ,wf,hN,rfl,hg,hl,he,hte,hT⟩
   | succ i =>
    simp at hi hr
    obtain ⟨σi,q1,q2,q3,q4⟩:=h7 i o' rec hi hr
    refine ⟨σi,q1,q2,?_,q4⟩
    simp only [List.zip_cons_cons,List.take_succ_cons,Cd]
    rw [hx]; exact q3
theorem Ws {N : Nat} {gm : List BT} {o : Oper} {rec : Rec} {x : X} {s : Nat} (h : o.dst≠some s) : (Dl N gm o rec x).1 s = x.1 s:=by
 cases rec with
 | none=>simp [Dl,F9,h]
 | some p=>obtain ⟨σ,T,r⟩:=p; simp [Dl,F9,h]
theorem N9 {N : Nat} {gm : List BT} {o : Oper} {rec : Rec} {x y : X} {s : Nat} (h : x.1 s = y.1 s) : (Dl N gm o rec x).1 s = (Dl N gm o rec y).1 s:=by
 cases rec with
 | none=>simp only [Dl,F9]; split<;>simp [h]
 | some p=>obtain ⟨σ,T,r⟩:=p; simp only [Dl,F9]; split<;>simp [h]
theorem Jg {N : Nat} {gm : List BT} {S S' : Nat->Bool} {s : Nat} : ∀ (L : List (Oper×Rec)) (k : Nat) (x y : X),x.1 s = y.1 s->(∀ (j : Nat) (p : Oper×Rec),L[j]? = some p->p.1.dst = some s->S (k + j) = S' (k + j))->
  (Du N gm S L k x).1 s = (Du N gm S' L k y).1 s
 | [],_,_,_,h,_=>h
 | p :: L,k,x,y,h,hS=>by
  simp only [Du]
  refine Jg L (k + 1) _ _ ?_ fun j q hq hd=>by have:=hS (j + 1) q (by simpa using hq) hd; rwa [show k + (j + 1) = k + 1 + j by omega] at this
  by_cases hd : p.1.dst = some s
  ·have:=hS 0 p rfl hd
   simp only [Nat.add_zero] at this
   rw [this]
   split
   ·exact N9 h
   ·exact h
  ·have a1 : (if S k then Dl N gm p.1 p.2 x else x).1 s = x.1 s:=by split; exact Ws hd; rfl
   have a2 : (if S' k then Dl N gm p.1 p.2 y else y).1 s = y.1 s:=by split; exact Ws hd; rfl
   rw [a1,a2,h]
def Ks : Rec->List Ef
 | none=>[]
 | some (_,_,r)=>r.efs
theorem Wt {N : Nat} {gm : List BT} {o : Oper} {rec : Rec} {x : X} {h : Nat} : (Dl N gm o rec x).2 h = Dd h (Ks rec) (x.2 h):=by
 cases rec with
 | none=>rfl
 | some p=>obtain ⟨σ,T,r⟩:=p; exact Aew h r.efs x.2
def Ek (h : Nat) (S : Nat->Bool) : List (Oper×Rec)->Nat->Hl->Hl
 | [],_,x=>x
 | p :: l,i,x=>Ek h S l (i + 1) (if S i then Dd h (Ks p.2) x else x)
theorem G9 {N : Nat} {gm : List BT} {S : Nat->Bool} {h : Nat} : ∀ (L : List (Oper×Rec)) (k : Nat) (x : X),(Du N gm S L k x).2 h = Ek h S L k (x.2 h)
 | [],_,_=>rfl
 | p :: L,k,x=>by
  simp only [Du,Ek]
  rw [G9 L]
  congr 1
  split
  ·exact Wt
  ·rfl
theorem Ub {x : Nat×Option (Nat×Nat)} : ∀ {l : List (Nat×Option (Nat×Nat))},anyR x l = false->∀ y∈l,Co x y = false
 | [],_,y,hy=>by cases hy
 | z :: l,h,y,hy=>by
  simp only [anyR,Bool.or_eq_false_iff] at h
  rcases List.mem_cons.1 hy with rfl | hy
  ·exact h.1
  ·exact Ub h.2 y hy
theorem Eu {t : List (Nat×Option (Nat×Nat))} : ∀ {l : List (Nat×Option (Nat×Nat))},Oq l t = false->∀ x∈l,∀ y∈t,Co x y = false
 | [],_,x,hx,_,_=>by cases hx
 | z :: l,h,x,hx,y,hy=>by
  simp only [Oq,Bool.or_eq_false_iff] at h
  rcases List.mem_cons.1 hx with rfl | hx
  ·exact Ub h.1 y hy
  ·exact Eu h.2 x hx y hy
theorem Py (x y : Nat×Option (Nat×Nat)) : Co x y = Co y x:=by
 obtain ⟨h,a⟩:=x
 obtain ⟨k,b⟩:=y
 simp only [Co]
 have e : (h == k) = (k == h):=BEq.comm
 rw [e]
 congr 1
 cases a with
 | none=>cases b<;>rfl
 | some a=>cases b with
  | none=>rfl
  | some b=>simp [Bool.and_comm]
def same (x y : Hl) (U : Nat->Prop) : Prop:=x = y\/∃ ty cs cs',x = .blk ty cs/\y = .blk ty cs'/\cs'.length = cs.length/\∀ j,U j->cs'[j]? = cs[j]?
theorem Np {α : Type} : ∀ (vs l : List α) (off i : Nat),(i < off\/off + vs.length<=i)->(Cu l off vs)[i]? = l[i]?
 | [],_,_,_,_=>rfl
 | v :: vs,l,off,i,h=>by
  simp only [List.length_cons] at h
  rw [Cu,Np vs _ (off + 1) i (by omega),Ar,List.getElem?_set_ne (by omega)]
theorem Lr {α : Type} : ∀ (vs l l' : List α) (off i : Nat),l'.length = l.length->l'[i]? = l[i]?->(Cu l' off vs)[i]? = (Cu l off vs)[i]?
 | [],_,_,_,_,_,h=>h
 | v :: vs,l,l',off,i,hl,h=>by
  rw [Cu,Cu]
  refine Lr vs _ _ (off + 1) i (by simp [Ar,hl]) ?_
  rw [Ar,Ar,List.getElem?_set,List.getElem?_set,hl,h]
theorem Vi {h : Nat} {U : Nat->Prop} : ∀ (es : List Ef) {x y : Hl},same x y U->same (Dd h es x) (Dd h es y) U
 | [],_,_,hs=>hs
 | e :: es,x,y,hs=>by
  refine Vi es ?_
  rcases hs with rfl | ⟨ty,cs,cs',rfl,rfl,hl,hU⟩
  ·exact .inl rfl
  ·cases e with
   | set h' off vs =>
    simp only [En]
    split
    ·exact .inr ⟨ty,_,_,rfl,rfl,by rw [C2,C2,hl],fun j hj=>Lr vs _ _ off j hl (hU j hj)⟩
    ·exact .inr ⟨ty,cs,cs',rfl,rfl,hl,hU⟩
   | put h' hl' =>
    simp only [En]
    split
    ·exact .inl rfl
    ·exact .inr ⟨ty,cs,cs',rfl,rfl,hl,hU⟩
theorem L2 {x y z : Hl} {U : Nat->Prop} (h1 : same x y U) (h2 : same y z U) : same x z U:=by
 rcases h1 with rfl | ⟨ty,cs,cs',rfl,rfl,hl,hU⟩
 ·exact h2
 ·rcases h2 with rfl | ⟨ty2,cs2,cs3,e,rfl,hl2,hU2⟩
  ·exact .inr ⟨ty,cs,cs',rfl,rfl,hl,hU⟩
  ·cases e
   exact .inr ⟨ty,cs,cs3,rfl,rfl,by rw [hl2,hl],fun j hj=>by rw [hU2 j hj,hU j hj]⟩
theorem Afq {x y : Hl} {U : Nat->Prop} (h1 : same x y U) : same y x U:=by
 rcases h1 with rfl | ⟨ty,cs,cs',rfl,rfl,hl,hU⟩
 ·exact .inl rfl
 ·exact .inr ⟨ty,cs',cs,rfl,rfl,hl.symm,fun j hj=>(hU j hj).symm⟩
def inR (ρ : Nat×Option (Nat×Nat)) (j : Nat) : Prop:=match ρ.2 with
 | none=>True
 | some (off,n)=>off<=j/\j < off + n
theorem L3 {ρ : Nat×Option (Nat×Nat)} : ∀ (es : List Ef) (x : Hl),(∀ y∈efW es,Co y ρ = false)->same x (Dd ρ.1 es x) (inR ρ)/\(ρ.2 = none->Dd ρ.1 es x = x)
 | [],x,_=>⟨.inl rfl,fun _=>rfl⟩
 | e :: es,x,h=>by
  have head : same x (En ρ.1 e x) (inR ρ)/\(ρ.2 = none->En ρ.1 e x = x):=by
   obtain ⟨hh,a⟩:=ρ
   cases e with
   | set h' off vs =>
    have hm:=h (h',some (off,Ae vs)) (by simp [efW])
    simp only [En]
    by_cases e : h' = hh
    ·subst e
     rw [if_pos rfl]
     cases x<;>try exact ⟨.inl rfl,fun _=>rfl⟩
     rename_i ty cs
     cases a with
     | none=>simp [Co] at hm
     | some a =>
      obtain ⟨o2,n2⟩:=a
      simp only [Co,beq_self_eq_true,Bool.true_and,Ad,Bool.and_eq_false_iff] at hm
      refine ⟨.inr ⟨ty,cs,_,rfl,rfl,C2 _ _ _,fun j hj=>Np _ _ _ _ ?_⟩,fun h=>by cases h⟩
      simp only [inR] at hj
      rcases hm with hm | hm
      ·have : ¬ off < o2 + n2:=by intro hlt; rw [(Nat.blt_eq ▸ hlt : Nat.blt _ _ = true)] at hm; cases hm
       omega
      ·have : ¬ o2 < off + vs.length:=by intro hlt; rw [(Nat.blt_eq ▸ hlt : Nat.blt _ _ = true)] at hm; cases hm
       omega
    ·rw [if_neg e]; exact ⟨.inl rfl,fun _=>rfl⟩
   | put h' hl =>
    have hm:=h (h',none) (by simp [efW])
    simp only [En]
    by_cases e : h' = hh
    ·subst e; simp [Co] at hm
    ·rw [if_neg e]; exact ⟨.inl rfl,fun _=>rfl⟩
  have htl : ∀ y∈efW es,Co y ρ = false:=fun y hy=>h y (by cases e<;>simp [efW,hy])
  obtain ⟨t1,t2⟩:=L3 es (En ρ.1 e x) htl
  exact ⟨L2 head.1 t1,fun hn=>by show Dd ρ.1 es (En ρ.1 e x) = x; rw [t2 hn,head.2 hn]⟩
theorem Qe {ρ : Nat×Option (Nat×Nat)} {S S' : Nat->Bool} : ∀ (L : List (Oper×Rec)) (k : Nat) (x y : Hl),same x y (inR ρ)->(ρ.2 = none->x = y)->(∀ (j : Nat) (p : Oper×Rec),L[j]? = some p->S (k + j)≠S' (k + j)->∀ z∈efW (Ks p.2),Co z ρ = false)->
  same (Ek ρ.1 S L k x) (Ek ρ.1 S' L k y) (inR ρ)/\(ρ.2 = none->Ek ρ.1 S L k x = Ek ρ.1 S' L k y)
 | [],_,_,_,h,hn,_=>⟨h,hn⟩
 | p :: L,k,x,y,h,hn,hS=>by
  simp only [Ek]
  have hrec:=fun (x' y' : Hl) (hs : same x' y' (inR ρ)) (he : ρ.2 = none->x' = y')=>Qe (ρ:=ρ) (S:=S) (S':=S') L (k + 1) x' y' hs he fun j q hq hd=>hS (j + 1) q (by simpa using hq) (by rwa [show k + (j + 1) = k + 1 + j by omega])
  have h0:=hS 0 p rfl
  simp only [Nat.add_zero] at h0
  cases hSk : S k<;>cases hSk' : S' k
  ·exact hrec x y h hn
  ·obtain ⟨a1,a2⟩:=L3 (ρ:=ρ) (Ks p.2) y (h0 (by rw [hSk,hSk']; decide))
   exact hrec x _ (L2 h a1) (fun e=>by rw [if_pos rfl,a2 e]; exact hn e)
  ·obtain ⟨a1,a2⟩:=L3 (ρ:=ρ) (Ks p.2) x (h0 (by rw [hSk,hSk']; decide))
   exact hrec _ y (L2 (Afq a1) h) (fun e=>by rw [if_pos rfl,a2 e]; exact hn e)
  ·exact hrec _ _ (Vi _ h) (fun e=>by rw [hn e])
theorem Vn {α : Type} : ∀ (vs l : List α) (off i : Nat) (v : α),(i < off\/off + vs.length<=i)->Cu (Aw l i v) off vs = Aw (Cu l off vs) i v
 | [],_,_,_,_,_=>rfl
 | u :: vs,l,off,i,v,h=>by
  simp only [List.length_cons] at h
  rw [Cu,Cu,<-Vn vs _ (off + 1) i v (by omega)]
  congr 1
  rw [Ar,Ar,Ar,Ar,List.set_comm _ _ (by omega)]
theorem Vo {α : Type} : ∀ (us vs l : List α) (o1 o2 : Nat),(o1 + us.length<=o2\/o2 + vs.length<=o1\/us = []\/vs = [])->Cu (Cu l o1 us) o2 vs = Cu (Cu l o2 vs) o1 us
 | [],vs,l,o1,o2,_=>rfl
 | u :: us,[],l,o1,o2,_=>rfl
 | u :: us,v :: vs,l,o1,o2,h=>by
  have h : o1 + (us.length + 1)<=o2\/o2 + (vs.length + 1)<=o1:=by
   rcases h with h | h | h | h
   ·exact .inl h
   ·exact .inr h
   ·cases h
   ·cases h
  rw [show Cu l o1 (u :: us) = Cu (Aw l o1 u) (o1 + 1) us from rfl,Vo us (v :: vs) (Aw l o1 u) (o1 + 1) o2 (by simp only [List.length_cons]; omega)]
  rw [Vn (v :: vs) l o2 o1 u (by simp only [List.length_cons]; omega)]
  rfl
theorem Ag2 {h : Nat} {e e' : Ef} {y y' : Nat×Option (Nat×Nat)} (hy : efW [e] = [y]) (hy' : efW [e'] = [y']) (hm : Co y y' = false) (x : Hl) : En h e (En h e' x) = En h e' (En h e x):=by
 cases e with
 | set h1 o1 us =>
  cases e' with
  | set h2 o2 vs =>
   simp only [En]
   by_cases e1 : h1 = h<;>by_cases e2 : h2 = h<;>simp only [e1,e2,if_true,if_false]
   subst e1
   cases x<;>try rfl
   simp only [efW,List.cons.injEq,and_true] at hy hy'
   subst hy hy'
   subst e2
   simp only [Co,beq_self_eq_true,Bool.true_and,Bool.and_eq_false_iff,Ad] at hm
   refine congrArg (Hl.blk _) (Vo us vs _ o1 o2 ?_).symm
   rcases hm with hm | hm
   ·have : ¬ o1 < o2 + vs.length:=by intro hlt; rw [(Nat.blt_eq ▸ hlt : Nat.blt _ _ = true)] at hm; cases hm
    exact .inr (.inl (by omega))
   ·have : ¬ o2 < o1 + us.length:=by intro hlt; rw [(Nat.blt_eq ▸ hlt : Nat.blt _ _ = true)] at hm; cases hm
    exact .inl (by omega)
  | put h2 hl =>
   simp only [En]
   by_cases e1 : h1 = h<;>by_cases e2 : h2 = h<;>simp only [e1,e2,if_true,if_false]
   simp only [efW,List.cons.injEq,and_true] at hy hy'
   subst hy hy'
   simp [Co,e1,e2] at hm
 | put h1 hl =>
  cases e' with
  | set h2 o2 vs =>
   simp only [En]
   by_cases e1 : h1 = h<;>by_cases e2 : h2 = h<;>simp only [e1,e2,if_true,if_false]
   simp only [efW,List.cons.injEq,and_true] at hy hy'
   subst hy hy'
   simp [Co,e1,e2] at hm
  | put h2 hl2 =>
   simp only [En]
   by_cases e1 : h1 = h<;>by_cases e2 : h2 = h<;>simp only [e1,e2,if_true,if_false]
   simp only [efW,List.cons.injEq,and_true] at hy hy'
   subst hy hy'
   simp [Co,e1,e2] at hm
theorem Aex (e : Ef) : ∃ y,efW [e] = [y]:=by cases e<;>exact ⟨_,rfl⟩
theorem Aar (e : Ef) (es : List Ef) {y : Nat×Option (Nat×Nat)} (hy : efW [e] = [y]) : efW (e :: es) = y :: efW es:=by
 cases e<;>simp only [efW,List.cons.injEq,and_true] at hy ⊢<;>exact hy
theorem Aaq {h : Nat} {e : Ef} {y : Nat×Option (Nat×Nat)} (hy : efW [e] = [y]) : ∀ (es : List Ef) (x : Hl),(∀ z∈efW es,Co y z = false)->Dd h es (En h e x) = En h e (Dd h es x)
 | [],_,_=>rfl
 | e' :: es,x,hm=>by
  obtain ⟨y',hy'⟩:=Aex e'
  rw [Aar e' es hy'] at hm
  show Dd h es (En h e' (En h e x)) = En h e (Dd h es (En h e' x))
  rw [<-Aaq hy es (En h e' x) fun z hz=>hm z (List.mem_cons_of_mem _ hz)]
  rw [Ag2 hy hy' (hm y' (List.mem_cons_self ..))]
theorem T1 {h : Nat} : ∀ (es es' : List Ef) (x : Hl),(∀ y∈efW es,∀ z∈efW es',Co y z = false)->Dd h es' (Dd h es x) = Dd h es (Dd h es' x)
 | [],_,_,_=>rfl
 | e :: es,es',x,hm=>by
  obtain ⟨y,hy⟩:=Aex e
  rw [Aar e es hy] at hm
  show Dd h es' (Dd h es (En h e x)) = Dd h es (En h e (Dd h es' x))
  rw [T1 es es' _ fun y hy=>hm y (List.mem_cons_of_mem _ hy)]
  rw [Aaq hy es' x (hm y (List.mem_cons_self ..))]
theorem Tr {h : Nat} {S : Nat->Bool} {es : List Ef} : ∀ (L : List (Oper×Rec)) (k : Nat) (x : Hl),(∀ (j : Nat) (p : Oper×Rec),L[j]? = some p->S (k + j) = true->∀ y∈efW es,∀ z∈efW (Ks p.2),Co y z = false)->
  Ek h S L k (Dd h es x) = Dd h es (Ek h S L k x)
 | [],_,_,_=>rfl
 | p :: L,k,x,hm=>by
  simp only [Ek]
  have hrec:=fun x=>Tr (h:=h) (S:=S) (es:=es) L (k + 1) x fun j q hq hd=>hm (j + 1) q (by simpa using hq) (by rwa [show k + (j + 1) = k + 1 + j by omega])
  cases hSk : S k with
  | false=>exact hrec x
  | true =>
   simp only [if_true]
   rw [T1 es (Ks p.2) x (hm 0 p rfl (by simpa using hSk)),hrec]
theorem Nv {h : Nat} {S S' : Nat->Bool} : ∀ (L : List (Oper×Rec)) (i k : Nat) (x : Hl) (p : Oper×Rec),L[i]? = some p->S (k + i) = false->S' (k + i) = true->(∀ j,j≠k + i->S' j = S j)->
  (∀ (j : Nat) (q : Oper×Rec),i < j->L[j]? = some q->S (k + j) = true->∀ y∈efW (Ks p.2),∀ z∈efW (Ks q.2),Co y z = false)->
  Ek h S' L k x = Dd h (Ks p.2) (Ek h S L k x)
 | [],i,_,_,_,h,_,_,_,_=>by simp at h
 | q :: L,0,k,x,p,hp,h1,h2,hS,hm=>by
  simp at hp
  subst hp
  simp only [Nat.add_zero] at h1 h2
  simp only [Ek,h1,h2,if_true,Bool.false_eq_true,if_false]
  have e : Ek h S' L (k + 1) (Dd h (Ks q.2) x) = Ek h S L (k + 1) (Dd h (Ks q.2) x):=by
   have : ∀ (L : List (Oper×Rec)) (m : Nat) (x : Hl),k < m->Ek h S' L m x = Ek h S L m x:=by
    intro L
    induction L with
    | nil=>intro m x _; rfl
    | cons r L ih=>intro m x hlt; simp only [Ek]; rw [hS m (by omega)]; exact ih _ _ (by omega)
   exact this L (k + 1) _ (by omega)
  rw [e]
  exact Tr L (k + 1) x fun j r hr hd=>hm (j + 1) r (by omega) (by simpa using hr) (by rwa [show k + (j + 1) = k + 1 + j by omega])
 | q :: L,i + 1,k,x,p,hp,h1,h2,hS,hm=>by
  simp only [Ek]
  rw [hS k (by omega)]
  exact Nv L i (k + 1) _ p (by simpa using hp) (by rwa [show k + 1 + i = k + (i + 1) by omega]) (by rwa [show k + 1 + i = k + (i + 1) by omega]) (fun j hj=>hS j (by omega))
   fun j r hj hr hd=>hm (j + 1) r (by omega) (by simpa using hr) (by rwa [show k + (j + 1) = k + 1 + j by omega])
end Go.Sx
namespace Go.Sx
open Go
theorem S3 {n : Nat} : ∀ {es : List Edge},n∈C6 es->∃ e∈es,Region.binds .any e = true/\e.on = n
 | [],h=>by simp [C6] at h
 | e :: es,h=>by
  simp only [C6,List.mem_append] at h
  rcases h with h | h
  ·refine ⟨e,List.mem_cons_self ..,?_⟩
   cases hg : e.ground<;>simp only [hg,List.mem_singleton,List.not_mem_nil] at h<;>exact ⟨by simp [Region.binds,hg],h.symm⟩
  ·obtain ⟨e',h1,h2⟩:=S3 h
   exact ⟨e',List.mem_cons_of_mem _ h1,h2⟩
theorem T2 {e : Edge} : ∀ {es : List Edge},e∈es->Region.binds .any e = true->e.on∈C6 es
 | [],h,_=>by cases h
 | e' :: es,h,hb=>by
  simp only [C6,List.mem_append]
  rcases List.mem_cons.1 h with rfl | h
  ·left
   cases hg : e.ground<;>simp [Region.binds,hg] at hb ⊢
  ·exact .inr (T2 h hb)
theorem S1 {x : Nat} : ∀ {l t : List Nat},x∈Abk l t->x∈l\/x∈t
 | [],_,h=>.inr h
 | y :: l,t,h=>by
  rcases S1 (l:=l) h with h | h
  ·exact .inl (List.mem_cons_of_mem _ h)
  ·unfold Aku at h
   split at h
   ·exact .inr h
   ·rcases List.mem_cons.1 h with rfl | h
    ·exact .inl (List.mem_cons_self ..)
    ·exact .inr h
theorem Ajb {x y : Nat} {l : List Nat} (h : x∈Aku y l) : x = y\/x∈l:=by
 unfold Aku at h
 split at h
 ·exact .inr h
 ·exact List.mem_cons.1 h
theorem S4 {acc : List (List Nat)} {x : Nat} : ∀ {l : List Nat},x∈Pm acc l->∃ i∈l,x = i\/x∈(nth acc i).getD []
 | [],h=>by simp [Pm] at h
 | i :: l,h=>by
  simp only [Pm] at h
  rcases S1 h with h | h
  ·exact ⟨i,List.mem_cons_self ..,Ajb h⟩
  ·obtain ⟨j,h1,h2⟩:=S4 h
   exact ⟨j,List.mem_cons_of_mem _ h1,h2⟩
theorem S6 {n : Nat} : ∀ {l : List Nat},Xc n l = true->∀ x∈l,x < n
 | [],_,x,h=>by cases h
 | y :: l,h,x,hx=>by
  simp only [Xc,Bool.and_eq_true,Nat.blt_eq] at h
  rcases List.mem_cons.1 hx with rfl | hx
  ·exact h.1
  ·exact S6 h.2 x hx
theorem Kv : ∀ {os : List Oper} {k : Nat},Gj os k = true->∀ {j : Nat} {o : Oper},os[j]? = some o->∀ x∈C6 o.after.toList,x < k + j
 | [],_,_,j,o,h=>by simp at h
 | o0 :: os,k,hk,j,o,h=>by
  simp only [Gj,Bool.and_eq_true] at hk
  cases j with
  | zero=>simp at h; subst h; exact S6 hk.1
  | succ j =>
   simp at h
   intro x hx
   have:=Kv hk.2 h x hx
   omega
theorem T7 {S : Nat->Prop} {all : List Oper} (hdown : ∀ (k : Nat) (o : Oper),all[k]? = some o->S k->∀ x∈C6 o.after.toList,S x) (hok : Gj all 0 = true) :
  ∀ (os : List Oper) (acc : List (List Nat)),(∀ (j : Nat) (o : Oper),os[j]? = some o->all[acc.length + j]? = some o)->
   (∀ (j : Nat) (o : Oper) (l : List Nat),all[j]? = some o->acc[j]? = some l->(∀ x∈C6 o.after.toList,S x)->∀ x∈l,S x)->
   ∀ (j : Nat) (o : Oper) (l : List Nat),all[j]? = some o->(Hq os acc)[j]? = some l->(∀ x∈C6 o.after.toList,S x)->∀ x∈l,S x
 | [],acc,_,hacc=>fun j o l ho hl=>hacc j o l ho hl
 | o0 :: os,acc,hal,hacc=>by
  have h0:=hal 0 o0 rfl
  simp only [Nat.add_zero] at h0
  refine T7 hdown hok os (acc ++ [Pm acc (C6 o0.after.toList)]) (fun j o h=>?_) (fun j o l ho hl he x hx=>?_)
  ·have:=hal (j + 1) o (by simpa using h)
   simp only [List.length_append,List.length_singleton]
   rwa [show acc.length + 1 + j = acc.length + (j + 1) by omega]
  ·by_cases hj : j < acc.length
   ·rw [List.getElem?_append_left hj] at hl
    exact hacc j o l ho hl he x hx
   ·have hje : j = acc.length:=by
     have:=(List.getElem?_eq_some_iff.1 hl).1
     simp at this
     omega
    subst hje
    rw [h0] at ho
    cases ho
    simp at hl
    subst hl
    obtain ⟨i,hi,hx⟩:=S4 hx
    have hSi:=he i hi
    rcases hx with rfl | hx
    ·exact hSi
    ·have hlt : i < acc.length:=by have:=Kv hok h0 i hi; omega
     have hai : all[i]? = some (all[i]'(by have:=(List.getElem?_eq_some_iff.1 h0).1; omega)):=List.getElem?_eq_getElem _
     rw [Ah,List.getElem?_eq_getElem hlt] at hx
     exact hacc i _ _ hai (List.getElem?_eq_getElem hlt) (hdown i _ hai hSi) x hx
theorem Lv {all : List Oper} {bs : List (List Nat)} {i : Nat} {o : Oper} {f : FP} : ∀ {os : List Oper} {fs : List FP} {j : Nat},Lg all bs i o f os fs j = true->∀ {m : Nat} {o' : Oper} {f' : FP},os[m]? = some o'->fs[m]? = some f'->
  Aa0 all o f o' f' = false\/i∈(nth bs (j + m)).getD []
 | [],_,_,_,m,o',f',h,_=>by simp at h
 | _ :: _,[],_,_,m,o',f',_,h=>by simp at h
 | o1 :: os,f1 :: fs,j,h,m,o',f',h1,h2=>by
  simp only [Lg,Bool.and_eq_true,Bool.or_eq_true,Bool.not_eq_true',Dj] at h
  cases m with
  | zero=>simp at h1 h2; subst h1 h2; exact h.1
  | succ m =>
   simp at h1 h2
   have:=Lv h.2 h1 h2
   rwa [show j + 1 + m = j + (m + 1) by omega] at this
theorem O6 {all : List Oper} {bs : List (List Nat)} : ∀ {os : List Oper} {fs : List FP} {k : Nat},Tk all bs os fs k = true->∀ {i j : Nat} {o o' : Oper} {f f' : FP},i < j->os[i]? = some o->os[j]? = some o'->fs[i]? = some f->fs[j]? = some f'->
  Aa0 all o f o' f' = false\/(k + i)∈(nth bs (k + j)).getD []
 | [],_,_,_,i,j,o,o',f,f',_,h,_,_,_=>by simp at h
 | _ :: _,[],_,_,i,j,o,o',f,f',_,_,_,h,_=>by simp at h
 | o1 :: os,f1 :: fs,k,h,i,j,o,o',f,f',hij,h1,h2,h3,h4=>by
  simp only [Tk,Bool.and_eq_true] at h
  obtain ⟨m,rfl⟩ : ∃ m,j = m + 1:=⟨j - 1,by omega⟩
  simp at h2 h4
  cases i with
  | zero =>
   simp at h1 h3
   subst h1 h3
   have:=Lv h.1 h2 h4
   simpa [show k + 1 + m = k + (m + 1) by omega] using this
  | succ i =>
   simp at h1 h3
   have:=O6 h.2 (i:=i) (j:=m) (by omega) h1 h2 h3 h4
   rwa [show k + 1 + i = k + (i + 1) by omega,show k + 1 + m = k + (m + 1) by omega] at this
theorem S2 {s : Nat} : ∀ {xs : List Operand},s∈xs.flatMap Ck->s∈W3 xs
 | [],h=>by simp at h
 | x :: xs,h=>by
  simp only [List.flatMap_cons,List.mem_append] at h
  simp only [W3,List.mem_append]
  rcases h with h | h
  ·left
   cases x with
   | tmp _=>simpa [Ck,Aiz] using h
   | _=>simp [Ck] at h
  ·exact .inr (S2 h)
theorem Ev {t : List Nat} : ∀ {l : List Nat},Ot l t = false->∀ x∈l,x ∉ t
 | [],_,x,h=>by cases h
 | y :: l,h,x,hx=>by
  simp only [Ot,Bool.or_eq_false_iff] at h
  rcases List.mem_cons.1 hx with rfl | hx
  ·intro hm; rw [(Dj _ _).2 hm] at h; cases h.1
  ·exact Ev h.2 x hx
theorem U6 {all : List Oper} {o : Oper} {j : Nat} {want : Bool} {s : Nat} (hg : o.guard = some (j,want)) (h : (nth all j).bind (·.dst) = some s) : s∈Pa all o.guard:=by
 rw [hg]
 simp only [Pa]
 cases hj : nth all j with
 | none=>rw [hj] at h; cases h
 | some oj =>
  rw [hj] at h
  simp only [Option.bind_some] at h
  simp [h]
section
variable {P : Program} {ops : Array Oper} {gl : List (Nat×SV)} {B : Bs} {N : Nat} {σ σ' : Sy} {rs : List Rec}
structure Ctx (P : Program) (ops : Array Oper) (gl : List (Nat×SV)) (N : Nat) (σ σ' : Sy) (rs : List Rec) : Prop where
 len : rs.length = ops.size
 step : ∀ (i : Nat) (o : Oper) (rec : Rec),ops[i]? = some o->rs[i]? = some rec->∃ σi,WfG σi/\σi.fr.length = N/\(A6 σi,Ao σi.hp) = Cd N σ'.gm ((ops.toList.zip rs).take i) (A6 σ,Ao σ.hp)/\Aky P gl ops.toList o σ'.gm σi rec
 edges : Gj ops.toList 0 = true
 ind : Tk ops.toList (Hq ops.toList []) ops.toList (rs.map fpR) 0 = true
def xS (N : Nat) (ops : Array Oper) (σ σ' : Sy) (rs : List Rec) (S : Nat->Bool) : X:=Du N σ'.gm S (ops.toList.zip rs) 0 (A6 σ,Ao σ.hp)
structure Adi (ops : Array Oper) (S : Nat->Bool) : Prop where
 down : ∀ (k : Nat) (o : Oper),ops[k]? = some o->S k = true->∀ x∈C6 o.after.toList,S x = true
theorem Aba (h : Ctx P ops gl N σ σ' rs) {S : Nat->Bool} (hd : Adi ops S) {j : Nat} {o : Oper} (ho : ops[j]? = some o) (he : ∀ x∈C6 o.after.toList,S x = true) {i : Nat} (hi : i∈(nth (Hq ops.toList []) j).getD []) : S i = true:=by
 rw [Ah] at hi
 cases hl : (Hq ops.toList [])[j]? with
 | none=>rw [hl] at hi; simp at hi
 | some l =>
  rw [hl] at hi
  refine T7 (S:=fun i=>S i = true) (all:=ops.toList) (fun k o ho hs=>hd.down k o (by rw [<-Array.getElem?_toList]; exact ho) hs) h.edges ops.toList [] (by simp) (by simp) j o l (by rw [Array.getElem?_toList]; exact ho) hl he i hi
theorem Xr (rec : Rec) : (fpR rec).wr = efW (Ks rec):=by
 cases rec with
 | none=>rfl
 | some p=>obtain ⟨a,b,c⟩:=p; rfl
theorem Oa (h : Ctx P ops gl N σ σ' rs) {S : Nat->Bool} (hd : Adi ops S) {i : Nat} {o : Oper} {rec : Rec} (ho : ops[i]? = some o) (hr : rs[i]? = some rec) (hi : S i = false) (he : ∀ x∈C6 o.after.toList,S x = true)
  {k : Nat} {p : Oper×Rec} (hk : (ops.toList.zip rs)[k]? = some p) (hdiff : S k≠decide (k < i)) :
  (∀ s,p.1.dst = some s->s ∉ looks ops.toList o)/\(∀ z∈efW (Ks p.2),∀ y∈rdR (fpR rec),Co z y = false)/\(∀ z∈efW (Ks p.2),∀ y∈efW (Ks rec),Co z y = false)/\(k≠i->∀ s,p.1.dst = some s->o.dst≠some s)/\k≠i:=by
 have hki : k≠i:=by rintro rfl; apply hdiff; rw [hi]; simp
 rw [List.getElem?_zip_eq_some] at hk
 obtain ⟨hk1,hk2⟩:=hk
 have hk1' : ops[k]? = some p.1:=by rw [<-Array.getElem?_toList]; exact hk1
 by_cases hlt : k < i
 ·have hSk : S k = false:=by
   cases hs : S k with
   | false=>rfl
   | true=>exact absurd (by rw [hs]; simp [hlt]) hdiff
  rcases O6 h.ind hlt hk1 (by rw [Array.getElem?_toList]; exact ho) (by rw [List.getElem?_map,hk2]; rfl) (by rw [List.getElem?_map,hr]; rfl) with hc | hc
  ·simp only [Aa0,Bool.or_eq_false_iff] at hc
   obtain ⟨⟨⟨⟨⟨c1,c2⟩,c3⟩,c4⟩,c5⟩,c6⟩:=hc
   rw [Xr] at c4 c5
   rw [Xr] at c5
   exact ⟨fun s hs=>Ev c1 s (by simp [hs,Uu]),fun z hz y hy=>Eu c4 z hz y hy,fun z hz y hy=>Eu c5 z hz y hy,fun _ s hs e=>Ev c2 s (by simp [hs,Uu]) (by simp [e,Uu]),hki⟩
  ·simp only [Nat.zero_add] at hc
   rw [Aba h hd ho he hc] at hSk
   cases hSk
 ·have hgt : i < k:=by omega
  have hSk : S k = true:=by
   cases hs : S k with
   | true=>rfl
   | false=>exact absurd (by rw [hs]; simp [hlt]) hdiff
  rcases O6 h.ind hgt (by rw [Array.getElem?_toList]; exact ho) hk1 (by rw [List.getElem?_map,hr]; rfl) (by rw [List.getElem?_map,hk2]; rfl) with hc | hc
  ·simp only [Aa0,Bool.or_eq_false_iff] at hc
   obtain ⟨⟨⟨⟨⟨c1,c2⟩,c3⟩,c4⟩,c5⟩,c6⟩:=hc
   rw [Xr] at c4 c5
   rw [Xr] at c5 c6
   refine ⟨fun s hs=>Ev c3 s (by simp [hs,Uu]),fun z hz y hy=>Eu c6 z hz y hy,fun z hz y hy=>by rw [Py]; exact Eu c5 y hy z hz,fun _ s hs e=>Ev c2 s (by simp [e,Uu]) (by simp [hs,Uu]),hki⟩
  ·simp only [Nat.zero_add] at hc
   have:=Aba h hd hk1' (hd.down k _ hk1' hSk) hc
   rw [this] at hi
   cases hi
theorem xS_slot (h : Ctx P ops gl N σ σ' rs) {S : Nat->Bool} (hd : Adi ops S) {i : Nat} {o : Oper} {rec : Rec} (ho : ops[i]? = some o) (hr : rs[i]? = some rec) (hi : S i = false) (he : ∀ x∈C6 o.after.toList,S x = true) {s : Nat} (hs : s∈looks ops.toList o) :
  (xS N ops σ σ' rs S).1 s = (Cd N σ'.gm ((ops.toList.zip rs).take i) (A6 σ,Ao σ.hp)).1 s:=by
 rw [<-Mf (ops.toList.zip rs) i 0]
 refine Jg _ 0 _ _ rfl fun k p hk hdst=>?_
 simp only [Nat.zero_add]
 by_cases e : S k = decide (k < i)
 ·exact e
 ·exact absurd hs ((Oa h hd ho hr hi he hk e).1 s hdst)
theorem Q5 (h : Ctx P ops gl N σ σ' rs) {S : Nat->Bool} (hd : Adi ops S) {i : Nat} {o : Oper} {rec : Rec} (ho : ops[i]? = some o) (hr : rs[i]? = some rec) (hi : S i = false) (he : ∀ x∈C6 o.after.toList,S x = true) {ρ : Nat×Option (Nat×Nat)}
  (hρ : ρ∈rdR (fpR rec)\/ρ∈efW (Ks rec)) : same ((xS N ops σ σ' rs S).2 ρ.1) ((Cd N σ'.gm ((ops.toList.zip rs).take i) (A6 σ,Ao σ.hp)).2 ρ.1) (inR ρ)/\
   (ρ.2 = none->(xS N ops σ σ' rs S).2 ρ.1 = (Cd N σ'.gm ((ops.toList.zip rs).take i) (A6 σ,Ao σ.hp)).2 ρ.1):=by
 rw [<-Mf (ops.toList.zip rs) i 0,xS,G9,G9]
 refine Qe _ 0 _ _ (.inl rfl) (fun _=>rfl) fun k p hk hdiff z hz=>?_
 simp only [Nat.zero_add] at hdiff
 obtain ⟨_,a2,a3,_⟩:=Oa h hd ho hr hi he hk hdiff
 rcases hρ with hρ | hρ
 ·exact a2 z hz ρ hρ
 ·exact a3 z hz ρ hρ
theorem Afd (h : Ctx P ops gl N σ σ' rs) {S S' : Nat->Bool} (hd : Adi ops S) {i : Nat} {o : Oper} {rec : Rec} (ho : ops[i]? = some o) (hr : rs[i]? = some rec) (hi : S i = false) (he : ∀ x∈C6 o.after.toList,S x = true) (hi' : S' i = true) (hS : ∀ j,j≠i->S' j = S j) :
  xS N ops σ σ' rs S' = Dl N σ'.gm o rec (xS N ops σ σ' rs S):=by
 have hlt : i < rs.length:=(List.getElem?_eq_some_iff.1 hr).1
 have hp : (ops.toList.zip rs)[i]? = some (o,rec):=by rw [List.getElem?_zip_eq_some]; exact ⟨by rw [Array.getElem?_toList]; exact ho,hr⟩
 apply Prod.ext
 ·funext s
  by_cases hds : o.dst = some s/\s < N
  ·-- the slot that it writes
   have key : ∀ (L : List (Oper×Rec)) (i k : Nat) (x : X),L[i]? = some (o,rec)->S' (k + i) = true->(∀ (j : Nat) (q : Oper×Rec),i < j->L[j]? = some q->q.1.dst = some s->S' (k + j) = false)->(Du N σ'.gm S' L k x).1 s = (Dl N σ'.gm o rec x).1 s:=by
    intro L
    induction L with
    | nil=>intro i k x h; simp at h
    | cons q L ih =>
     intro i k x hL h1 h2
     cases i with
     | zero =>
      simp at hL
      subst hL
      simp only [Nat.add_zero] at h1
      simp only [Du,h1,if_true]
      have : (Du N σ'.gm S' L (k + 1) (Dl N σ'.gm o rec x)).1 s = (Du N σ'.gm (fun _=>false) L (k + 1) (Dl N σ'.gm o rec x)).1 s :=
       Jg L (k + 1) _ _ rfl fun j q hq hdq=>by have:=h2 (j + 1) q (by omega) (by simpa using hq) hdq; rwa [show k + (j + 1) = k + 1 + j by omega] at this
      rw [this,Jh L (k + 1) _ fun _ _=>rfl]
     | succ i =>
      simp only [Du]
      rw [ih i (k + 1) _ (by simpa using hL) (by rwa [show k + 1 + i = k + (i + 1) by omega]) fun j q hj hq hdq=>by have:=h2 (j + 1) q (by omega) (by simpa using hq) hdq; rwa [show k + (j + 1) = k + 1 + j by omega] at this]
      cases rec with
      | none=>simp [Dl,F9,hds.1,hds.2]
      | some p=>obtain ⟨a,b,c⟩:=p; simp [Dl,F9,hds.1,hds.2]
   have:=key (ops.toList.zip rs) i 0 (A6 σ,Ao σ.hp) hp (by simpa using hi') fun j q hj hq hdq=>by
    simp only [Nat.zero_add]
    rw [hS j (by omega)]
    cases hs : S j with
    | false=>rfl
    | true =>
     obtain ⟨_,_,_,a4,_⟩:=Oa h hd ho hr hi he hq (by rw [hs]; simp; omega)
     exact absurd hds.1 (a4 (by omega) s hdq)
   rw [xS,this]
   cases rec with
   | none=>simp [Dl,F9,hds.1,hds.2]
   | some p=>obtain ⟨a,b,c⟩:=p; simp [Dl,F9,hds.1,hds.2]
  ·have e1 : (Dl N σ'.gm o rec (xS N ops σ σ' rs S)).1 s = (xS N ops σ σ' rs S).1 s:=by
    cases rec with
    | none=>simp only [Dl,F9,if_neg hds]
    | some p=>obtain ⟨a,b,c⟩:=p; simp only [Dl,F9,if_neg hds]
   rw [e1]
   -- a slot that it does not write
   have key : ∀ (L : List (Oper×Rec)) (i k : Nat) (x y : X),x.1 s = y.1 s->L[i]? = some (o,rec)->(∀ j,j≠k + i->S' j = S j)->(Du N σ'.gm S' L k x).1 s = (Du N σ'.gm S L k y).1 s:=by
    intro L
    induction L with
    | nil=>intro i k x y _ h; simp at h
    | cons q L ih =>
     intro i k x y hxy hL h2
     have happ : ∀ z : X,q = (o,rec)->(Dl N σ'.gm q.1 q.2 z).1 s = z.1 s:=by
      rintro z rfl
      cases rec with
      | none=>simp only [Dl,F9,if_neg hds]
      | some p=>obtain ⟨a,b,c⟩:=p; simp only [Dl,F9,if_neg hds]
     cases i with
     | zero =>
      simp at hL
      simp only [Du]
      refine Jg L (k + 1) _ _ ?_ fun j q' _ _=>h2 _ (by omega)
      have a1 : (if S' k then Dl N σ'.gm q.1 q.2 x else x).1 s = x.1 s:=by split; exact happ x hL; rfl
      have a2 : (if S k then Dl N σ'.gm q.1 q.2 y else y).1 s = y.1 s:=by split; exact happ y hL; rfl
      rw [a1,a2,hxy]
     | succ i =>
      simp only [Du]
      rw [h2 k (by omega)]
      refine ih i (k + 1) _ _ ?_ (by simpa using hL) fun j hj=>h2 j (by omega)
      split
      ·exact N9 hxy
      ·exact hxy
   exact key _ i 0 _ _ rfl hp (by simpa using hS)
 ·funext k
  rw [Wt,xS,xS,G9,G9]
  refine Nv _ i 0 _ (o,rec) hp (by simpa using hi) (by simpa using hi') (by simpa using hS) fun j q hj hq hs y hy z hz=>?_
  simp only [Nat.zero_add] at hs
  obtain ⟨_,_,a3,_⟩:=Oa h hd ho hr hi he hq (by rw [hs]; simp; omega)
  rw [Py]
  exact a3 z hz y hy
end
end Go.Sx
