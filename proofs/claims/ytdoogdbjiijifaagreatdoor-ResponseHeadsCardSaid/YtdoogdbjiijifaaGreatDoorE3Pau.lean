/- Part of the proofs of the statements about responses and messages (layers 9 and 10): a symbolic executor over the code, that it is sound, and contracts of functions; it has no conditions of its own. -/
import Derived.Test.YtdoogdbjiijifaaGreatDoorE3Pat
namespace Go.Sx
open Go
abbrev Rec:=Option (Sy×List Nat×Out)
abbrev X:=(Nat->SG)×(Nat->Hl)
def Gs(N:Nat)(f:Nat->SG)(d:Option Nat)(g:SG):Nat->SG:=λs=>if d=some s/\s<N then g else f s
def E7(h:Nat):Ef->Hl->Hl
 |.set h' off vs,x=>if h'=h then (match x with|.blk ty cs=>.blk ty (C7 cs off vs)|x=>x) else x
 |.put h' hl,x=>if h'=h then hl else x
def Dm(h:Nat):List Ef->Hl->Hl
 | [],x=>x
 |e :: es,x=>Dm h es (E7 h e x)
theorem efF_at(hf:Nat->Hl)(e:Ef)(h:Nat):efF hf e h=E7 h e (hf h):=by
 cases e with
 |set h' off vs =>
  simp only[efF,E7]
  by_cases e:h'=h
  ·subst e
   rw[if_pos rfl];cases hx:hf h'<;>simp[upd,hx]
  ·rw[if_neg e]
   cases hx:hf h'<;>simp[upd,Ne.symm e]
 |put h' hl =>
  simp only[efF,E7,upd]
  by_cases e:h'=h
  ·subst e;simp
  ·rw[if_neg e,if_neg (λh=>e h.symm)]
theorem Ago(h:Nat):∀(es:List Ef) (hf:Nat->Hl),Hw hf es h=Dm h es (hf h)
 | [],_=>rfl
 |e :: es,hf=>by
  show Hw (efF hf e) es h=Dm h es (E7 h e (hf h));rw[Ago h es,efF_at]
def Dy(N:Nat)(gm:List BT)(o:Oper)(rec:Rec)(x:X):X :=
 match rec with
 |none=>(Gs N x.1 o.dst none,x.2)
 |some (_,T,r)=>(Gs N x.1 o.dst (some (Ac gm T,r.v)),Hw x.2 r.efs)
def D5(N:Nat)(gm:List BT)(S:Nat->Bool):List (Oper×Rec)->Nat->X->X
 | [],_,x=>x
 |p :: l,i,x=>D5 N gm S l (i+1) (if S i then Dy N gm p.1 p.2 x else x)
def Co(N:Nat)(gm:List BT):List (Oper×Rec)->X->X
 | [],x=>x
 |p :: l,x=>Co N gm l (Dy N gm p.1 p.2 x)
theorem Xg{N:Nat}{gm:List BT}{S:Nat->Bool}:∀(L:List (Oper×Rec)) (k:Nat) (x:X),(∀j,j<L.length->S (k+j)=true)->D5 N gm S L k x=Co N gm L x
 | [],_,_,_=>rfl
 |p :: L,k,x,h=>by
  have h0:=h 0 (by simp);simp only[Nat.add_zero]at h0;simp only[D5,Co,h0,if_true];exact Xg L (k+1) _ λj hj=>by have:=h (j+1) (by simpa using hj);rwa [show k+1+j=k+(j+1) by omega]
theorem J9{N:Nat}{gm:List BT}{S:Nat->Bool}:∀(L:List (Oper×Rec)) (k:Nat) (x:X),(∀j,j<L.length->S (k+j)=false)->D5 N gm S L k x=x
 | [],_,_,_=>rfl
 |p :: L,k,x,h=>by
  have h0:=h 0 (by simp);simp only[Nat.add_zero]at h0;simp only[D5,h0,Bool.false_eq_true,if_false];exact J9 L (k+1) _ λj hj=>by have:=h (j+1) (by simpa using hj);rwa [show k+1+j=k+(j+1) by omega]
theorem M7{N:Nat}{gm:List BT}:∀(L:List (Oper×Rec)) (i k:Nat) (x:X),D5 N gm (λj=>decide (j<k+i)) L k x=Co N gm (L.take i) x
 | [],i,k,x=>by simp[D5,Co]
 |p :: L,0,k,x=>by
  simp only[List.take_zero,Co];exact J9 _ _ _ λj _=>by simp
 |p :: L,i+1,k,x=>by
  simp only[D5,List.take_succ_cons,Co];rw[if_pos (by simp)];have:=M7 (N:=N) (gm:=gm) L i (k+1) (Dy N gm p.1 p.2 x);rw[<-this];congr 1
  funext j;congr 1;exact propext (by omega)
def Am8(P:Program)(gl:List (Nat×SV))(all:List Oper)(o:Oper)(gm:List BT)(σ:Sy):Rec->Prop
 |none=>Gy all σ o.guard=some none
 |some (σ1,T,r)=>Gy all σ o.guard=some (some (σ1,T))/\Vf P gl σ1 T o r/\Jf σ1.hp r.efs=true/\((T=[]\/r.efs=[]\/Bh (Ac σ1.gm T))/\∀c,o.op≠.defer c)/\Ac gm T=Ac σ1.gm T
theorem Rg{gm y:List BT}:∀ {T:List Nat},(∀i∈T,i<gm.length)->Ac (gm++y) T=Ac gm T
 | [],_=>rfl
 |i :: T,h=>by
  have h1:=Rg (gm:=gm) (y:=y) (T:=T) λj hj=>h j (List.mem_cons_of_mem _ hj);have h2:nth (gm++y) i=nth gm i:=by rw[Ag,Ag,List.getElem?_append_left (h i (List.mem_cons_self ..))]
  simp only[Ac,List.filterMap_cons,h2]at *;rw[h1]
theorem Xo(σ:Sy)(d:Option Nat)(g:Option G)(hp:List Hl):Ba ⟨setD σ.fr d g,hp,σ.gm⟩=Gs σ.fr.length (Ba σ) d (g.map λg=>(Ac σ.gm g.tg,g.v)):=by
 funext s;cases d with
 |none=>simp[setD,Gs,Ba]
 |some k =>
  simp only[setD,Gs,Ba,B7]
  by_cases e:s=k/\k<σ.fr.length
  ·obtain⟨rfl,h⟩:=e;simp[h]
  ·rw[if_neg e,if_neg (λh=>e ⟨(Option.some.inj h.1).symm,by rw[Option.some.inj h.1];exact h.2⟩)]
theorem Aj9{P:Program}{gl:List (Nat×SV)}{ops:Array Oper}{os:List Oper}{σ σ':Sy}{rs:List Rec}(h:Zm P gl ops.toList os σ rs σ'):WfG σ->∀N,σ.fr.length=N->
  rs.length=os.length/\WfG σ'/\σ'.fr.length=N/\σ.hp.length<=σ'.hp.length/\(∃y,σ'.gm=σ.gm++y)/\(Ba σ',Aq σ'.hp)=Co N σ'.gm (os.zip rs) (Ba σ,Aq σ.hp)/\
  ∀(i:Nat) (o:Oper) (rec:Rec),os[i]?=some o->rs[i]?=some rec->∃σi,WfG σi/\σi.fr.length=N/\(Ba σi,Aq σi.hp)=Co N σ'.gm ((os.zip rs).take i) (Ba σ,Aq σ.hp)/\Am8 P gl ops.toList o σ'.gm σi rec:=by
 induction h with
 |nil σ=>intro wf N hN;exact⟨rfl,wf,hN,Nat.le_refl _,⟨[],by simp⟩,rfl,by simp⟩
 | @skip o os σ σ' rs hg h ih =>
  intro wf N hN;obtain⟨h1,h2,h3,h4,⟨y,h5⟩,h6,h7⟩:=ih (wf.setD o.dst none (by simp) σ.hp) N (by rw[Lf];exact hN);have hx:Dy N σ'.gm o none (Ba σ,Aq σ.hp)=(Ba ⟨setD σ.fr o.dst none,σ.hp,σ.gm⟩,Aq σ.hp):=by
   simp only[Dy];rw[Xo,hN];rfl
  refine⟨by simp[h1],h2,h3,h4,⟨y,h5⟩,?_,λi o' rec hi hr=>?_⟩
  ·simp only[List.zip_cons_cons,Co]
   rw[hx];exact h6
  ·cases i with
   |zero =>
    simp at hi hr;subst hi hr;exact⟨σ,wf,hN,rfl,hg⟩
   |succ i =>
    simp at hi hr;obtain⟨σi,w1,w2,w3,w4⟩:=h7 i o' rec hi hr;refine⟨σi,w1,w2,?_,w4⟩;simp only[List.zip_cons_cons,List.take_succ_cons,Co];rw[hx];exact w3
 | @step o os σ σ1 σ' T r rs hg hl he hte h ih =>
  intro wf N hN;obtain⟨w1,w2,w3,w4,w5,⟨z,w6⟩,_,_⟩:=Gx (ops:=ops) rfl hg wf;obtain⟨h1,h2,h3,h4,⟨y,h5⟩,h6,h7⟩:=ih (w1.setD o.dst (some ⟨T,none,none,r.v⟩) (by rintro g' ⟨⟩;exact⟨w5,rfl,rfl⟩) _) N (by rw[Lf,w4];exact hN);have hT:Ac σ'.gm T=Ac σ1.gm T:=by rw[h5];exact Rg w5
  have hx:Dy N σ'.gm o (some (σ1,T,r)) (Ba σ,Aq σ.hp)=(Ba ⟨setD σ1.fr o.dst (some ⟨T,none,none,r.v⟩),Ll σ1.hp r.efs,σ1.gm⟩,Aq (Ll σ1.hp r.efs)):=by
   simp only[Dy];rw[Xo,Jm _ _ he,w4,hN,w2,w3,hT];rfl
  refine⟨by simp[h1],h2,h3,Nat.le_trans (by rw[<-w3];exact Ok _ _) h4,⟨z++y,by rw[h5,w6,List.append_assoc]⟩,?_,λi o' rec hi hr=>?_⟩
  ·simp only[List.zip_cons_cons,Co]
   rw[hx];exact h6
  ·cases i with
   |zero =>
    simp at hi hr;subst hi hr;exact⟨σ,wf,hN,rfl,hg,hl,he,hte,hT⟩
   |succ i =>
    simp at hi hr;obtain⟨σi,q1,q2,q3,q4⟩:=h7 i o' rec hi hr;refine⟨σi,q1,q2,?_,q4⟩;simp only[List.zip_cons_cons,List.take_succ_cons,Co];rw[hx];exact q3
theorem Xx{N:Nat}{gm:List BT}{o:Oper}{rec:Rec}{x:X}{s:Nat}(h:o.dst≠some s):(Dy N gm o rec x).1 s=x.1 s:=by
 cases rec with
 |none=>simp[Dy,Gs,h]
 |some p=>obtain⟨σ,T,r⟩:=p;simp[Dy,Gs,h]
theorem O9{N:Nat}{gm:List BT}{o:Oper}{rec:Rec}{x y:X}{s:Nat}(h:x.1 s=y.1 s):(Dy N gm o rec x).1 s=(Dy N gm o rec y).1 s:=by
 cases rec with
 |none=>simp only[Dy,Gs];split<;>simp[h]
 |some p=>obtain⟨σ,T,r⟩:=p;simp only[Dy,Gs];split<;>simp[h]
theorem J8{N:Nat}{gm:List BT}{S S':Nat->Bool}{s:Nat}:∀(L:List (Oper×Rec)) (k:Nat) (x y:X),x.1 s=y.1 s->(∀(j:Nat) (p:Oper×Rec),L[j]?=some p->p.1.dst=some s->S (k+j)=S' (k+j))->
  (D5 N gm S L k x).1 s=(D5 N gm S' L k y).1 s
 | [],_,_,_,h,_=>h
 |p :: L,k,x,y,h,hS=>by
  simp only[D5];refine J8 L (k+1) _ _ ?_ λj q hq hd=>by have:=hS (j+1) q (by simpa using hq) hd;rwa [show k+(j+1)=k+1+j by omega]at this
  by_cases hd:p.1.dst=some s
  ·have:=hS 0 p rfl hd
   simp only[Nat.add_zero]at this;rw[this]
   split
   ·exact O9 h
   ·exact h
  ·have a1:(if S k then Dy N gm p.1 p.2 x else x).1 s=x.1 s:=by split;exact Xx hd;rfl
   have a2:(if S' k then Dy N gm p.1 p.2 y else y).1 s=y.1 s:=by split;exact Xx hd;rfl
   rw[a1,a2,h]
def Lk:Rec->List Ef
 |none=>[]
 |some (_,_,r)=>r.efs
theorem Xy{N:Nat}{gm:List BT}{o:Oper}{rec:Rec}{x:X}{h:Nat}:(Dy N gm o rec x).2 h=Dm h (Lk rec) (x.2 h):=by
 cases rec with
 |none=>rfl
 |some p=>obtain⟨σ,T,r⟩:=p;exact Ago h r.efs x.2
def Ey(h:Nat)(S:Nat->Bool):List (Oper×Rec)->Nat->Hl->Hl
 | [],_,x=>x
 |p :: l,i,x=>Ey h S l (i+1) (if S i then Dm h (Lk p.2) x else x)
theorem Hu{N:Nat}{gm:List BT}{S:Nat->Bool}{h:Nat}:∀(L:List (Oper×Rec)) (k:Nat) (x:X),(D5 N gm S L k x).2 h=Ey h S L k (x.2 h)
 | [],_,_=>rfl
 |p :: L,k,x=>by
  simp only[D5,Ey];rw[Hu L];congr 1
  split
  ·exact Xy
  ·rfl
theorem U7{x:Nat×Option (Nat×Nat)}:∀ {l:List (Nat×Option (Nat×Nat))},anyR x l=false->∀y∈l,Cy x y=false
 | [],_,y,hy=>by cases hy
 |z :: l,h,y,hy=>by
  simp only[anyR,Bool.or_eq_false_iff]at h;rcases List.mem_cons.1 hy with rfl|hy
  ·exact h.1
  ·exact U7 h.2 y hy
theorem Fc{t:List (Nat×Option (Nat×Nat))}:∀ {l:List (Nat×Option (Nat×Nat))},Ps l t=false->∀x∈l,∀y∈t,Cy x y=false
 | [],_,x,hx,_,_=>by cases hx
 |z :: l,h,x,hx,y,hy=>by
  simp only[Ps,Bool.or_eq_false_iff]at h;rcases List.mem_cons.1 hx with rfl|hx
  ·exact U7 h.1 y hy
  ·exact Fc h.2 x hx y hy
theorem Q0(x y:Nat×Option (Nat×Nat)):Cy x y=Cy y x:=by
 obtain⟨h,a⟩:=x;obtain⟨k,b⟩:=y;simp only[Cy];have e:(h==k)=(k==h):=BEq.comm;rw[e];congr 1;cases a with
 |none=>cases b<;>rfl
 |some a=>cases b with
  |none=>rfl
  |some b=>simp[Bool.and_comm]
def same(x y:Hl)(U:Nat->Prop):Prop:=x=y\/∃ty cs cs',x=.blk ty cs/\y=.blk ty cs'/\cs'.length=cs.length/\∀j,U j->cs'[j]?=cs[j]?
theorem Ot{α:Type}:∀(vs l:List α) (off i:Nat),(i<off\/off+vs.length<=i)->(C7 l off vs)[i]?=l[i]?
 | [],_,_,_,_=>rfl
 |v :: vs,l,off,i,h=>by
  simp only[List.length_cons]at h;rw[C7,Ot vs _ (off+1) i (by omega),As,List.getElem?_set_ne (by omega)]
theorem Mm{α:Type}:∀(vs l l':List α) (off i:Nat),l'.length=l.length->l'[i]?=l[i]?->(C7 l' off vs)[i]?=(C7 l off vs)[i]?
 | [],_,_,_,_,_,h=>h
 |v :: vs,l,l',off,i,hl,h=>by
  rw[C7,C7];refine Mm vs _ _ (off+1) i (by simp[As,hl]) ?_;rw[As,As,List.getElem?_set,List.getElem?_set,hl,h]
theorem Wo{h:Nat}{U:Nat->Prop}:∀(es:List Ef) {x y:Hl},same x y U->same (Dm h es x) (Dm h es y) U
 | [],_,_,hs=>hs
 |e :: es,x,y,hs=>by
  refine Wo es ?_;rcases hs with rfl|⟨ty,cs,cs',rfl,rfl,hl,hU⟩
  ·exact .inl rfl
  ·cases e with
   |set h' off vs =>
    simp only[E7]
    split
    ·exact .inr ⟨ty,_,_,rfl,rfl,by rw[Db,Db,hl],λj hj=>Mm vs _ _ off j hl (hU j hj)⟩
    ·exact .inr ⟨ty,cs,cs',rfl,rfl,hl,hU⟩
   |put h' hl' =>
    simp only[E7]
    split
    ·exact .inl rfl
    ·exact .inr ⟨ty,cs,cs',rfl,rfl,hl,hU⟩
theorem Mw{x y z:Hl}{U:Nat->Prop}(h1:same x y U)(h2:same y z U):same x z U:=by
 rcases h1 with rfl|⟨ty,cs,cs',rfl,rfl,hl,hU⟩
 ·exact h2
 ·rcases h2 with rfl|⟨ty2,cs2,cs3,e,rfl,hl2,hU2⟩
  ·exact .inr ⟨ty,cs,cs',rfl,rfl,hl,hU⟩
  ·cases e
   exact .inr ⟨ty,cs,cs3,rfl,rfl,by rw[hl2,hl],λj hj=>by rw[hU2 j hj,hU j hj]⟩
theorem Ahi{x y:Hl}{U:Nat->Prop}(h1:same x y U):same y x U:=by
 rcases h1 with rfl|⟨ty,cs,cs',rfl,rfl,hl,hU⟩
 ·exact .inl rfl
 ·exact .inr ⟨ty,cs',cs,rfl,rfl,hl.symm,λj hj=>(hU j hj).symm⟩
def inR(ρ:Nat×Option (Nat×Nat))(j:Nat):Prop:=match ρ.2 with
 |none=>True
 |some (off,n)=>off<=j/\j<off+n
theorem Mx{ρ:Nat×Option (Nat×Nat)}:∀(es:List Ef) (x:Hl),(∀y∈efW es,Cy y ρ=false)->same x (Dm ρ.1 es x) (inR ρ)/\(ρ.2=none->Dm ρ.1 es x=x)
 | [],x,_=>⟨.inl rfl,λ_=>rfl⟩
 |e :: es,x,h=>by
  have head:same x (E7 ρ.1 e x) (inR ρ)/\(ρ.2=none->E7 ρ.1 e x=x):=by
   obtain⟨hh,a⟩:=ρ;cases e with
   |set h' off vs =>
    have hm:=h (h',some (off,Af vs)) (by simp[efW]);simp only[E7]
    by_cases e:h'=hh
    ·subst e
     rw[if_pos rfl];cases x<;>try exact⟨.inl rfl,λ_=>rfl⟩
     rename_i ty cs;cases a with
     |none=>simp[Cy]at hm
     |some a =>
      obtain⟨o2,n2⟩:=a;simp only[Cy,beq_self_eq_true,Bool.true_and,Ae,Bool.and_eq_false_iff]at hm;refine⟨.inr ⟨ty,cs,_,rfl,rfl,Db _ _ _,λj hj=>Ot _ _ _ _ ?_⟩,λh=>by cases h⟩;simp only[inR]at hj;rcases hm with hm|hm
      ·have:¬off<o2+n2:=by intro hlt;rw[(Nat.blt_eq ▸ hlt:Nat.blt _ _=true)]at hm;cases hm
       omega
      ·have:¬o2<off+vs.length:=by intro hlt;rw[(Nat.blt_eq ▸ hlt:Nat.blt _ _=true)]at hm;cases hm
       omega
    ·rw[if_neg e];exact⟨.inl rfl,λ_=>rfl⟩
   |put h' hl =>
    have hm:=h (h',none) (by simp[efW]);simp only[E7]
    by_cases e:h'=hh
    ·subst e;simp[Cy]at hm
    ·rw[if_neg e];exact⟨.inl rfl,λ_=>rfl⟩
  have htl:∀y∈efW es,Cy y ρ=false:=λy hy=>h y (by cases e<;>simp[efW,hy]);obtain⟨t1,t2⟩:=Mx es (E7 ρ.1 e x) htl;exact⟨Mw head.1 t1,λhn=>by show Dm ρ.1 es (E7 ρ.1 e x)=x;rw[t2 hn,head.2 hn]⟩
theorem Ra{ρ:Nat×Option (Nat×Nat)}{S S':Nat->Bool}:∀(L:List (Oper×Rec)) (k:Nat) (x y:Hl),same x y (inR ρ)->(ρ.2=none->x=y)->(∀(j:Nat) (p:Oper×Rec),L[j]?=some p->S (k+j)≠S' (k+j)->∀z∈efW (Lk p.2),Cy z ρ=false)->
  same (Ey ρ.1 S L k x) (Ey ρ.1 S' L k y) (inR ρ)/\(ρ.2=none->Ey ρ.1 S L k x=Ey ρ.1 S' L k y)
 | [],_,_,_,h,hn,_=>⟨h,hn⟩
 |p :: L,k,x,y,h,hn,hS=>by
  simp only[Ey];have hrec:=λ(x' y':Hl) (hs:same x' y' (inR ρ)) (he:ρ.2=none->x'=y')=>Ra (ρ:=ρ) (S:=S) (S':=S') L (k+1) x' y' hs he λj q hq hd=>hS (j+1) q (by simpa using hq) (by rwa [show k+(j+1)=k+1+j by omega]);have h0:=hS 0 p rfl;simp only[Nat.add_zero]at h0;cases hSk:S k<;>cases hSk':S' k
  ·exact hrec x y h hn
  ·obtain⟨a1,a2⟩:=Mx (ρ:=ρ) (Lk p.2) y (h0 (by rw[hSk,hSk'];decide))
   exact hrec x _ (Mw h a1) (λe=>by rw[if_pos rfl,a2 e];exact hn e)
  ·obtain⟨a1,a2⟩:=Mx (ρ:=ρ) (Lk p.2) x (h0 (by rw[hSk,hSk'];decide))
   exact hrec _ y (Mw (Ahi a1) h) (λe=>by rw[if_pos rfl,a2 e];exact hn e)
  ·exact hrec _ _ (Wo _ h) (λe=>by rw[hn e])
theorem Ws{α:Type}:∀(vs l:List α) (off i:Nat) (v:α),(i<off\/off+vs.length<=i)->C7 (Ax l i v) off vs=Ax (C7 l off vs) i v
 | [],_,_,_,_,_=>rfl
 |u :: vs,l,off,i,v,h=>by
  simp only[List.length_cons]at h;rw[C7,C7,<-Ws vs _ (off+1) i v (by omega)];congr 1;rw[As,As,As,As,List.set_comm _ _ (by omega)]
theorem Wt{α:Type}:∀(us vs l:List α) (o1 o2:Nat),(o1+us.length<=o2\/o2+vs.length<=o1\/us=[]\/vs=[])->C7 (C7 l o1 us) o2 vs=C7 (C7 l o2 vs) o1 us
 | [],vs,l,o1,o2,_=>rfl
 |u :: us,[],l,o1,o2,_=>rfl
 |u :: us,v :: vs,l,o1,o2,h=>by
  have h:o1+(us.length+1)<=o2\/o2+(vs.length+1)<=o1:=by
   rcases h with h|h|h|h
   ·exact .inl h
   ·exact .inr h
   ·cases h
   ·cases h
  rw[show C7 l o1 (u :: us)=C7 (Ax l o1 u) (o1+1) us from rfl,Wt us (v :: vs) (Ax l o1 u) (o1+1) o2 (by simp only[List.length_cons];omega)];rw[Ws (v :: vs) l o2 o1 u (by simp only[List.length_cons];omega)];rfl
theorem Aix{h:Nat}{e e':Ef}{y y':Nat×Option (Nat×Nat)}(hy:efW [e]=[y])(hy':efW [e']=[y'])(hm:Cy y y'=false)(x:Hl):E7 h e (E7 h e' x)=E7 h e' (E7 h e x):=by
 cases e with
 |set h1 o1 us =>
  cases e' with
  |set h2 o2 vs =>
   simp only[E7]
   by_cases e1:h1=h<;>by_cases e2:h2=h<;>simp only[e1,e2,if_true,if_false]
   subst e1;cases x<;>try rfl
   simp only[efW,List.cons.injEq,and_true]at hy hy';subst hy hy';subst e2;simp only[Cy,beq_self_eq_true,Bool.true_and,Bool.and_eq_false_iff,Ae]at hm;refine congrArg (Hl.blk _) (Wt us vs _ o1 o2 ?_).symm;rcases hm with hm|hm
   ·have:¬o1<o2+vs.length:=by intro hlt;rw[(Nat.blt_eq ▸ hlt:Nat.blt _ _=true)]at hm;cases hm
    exact .inr (.inl (by omega))
   ·have:¬o2<o1+us.length:=by intro hlt;rw[(Nat.blt_eq ▸ hlt:Nat.blt _ _=true)]at hm;cases hm
    exact .inl (by omega)
  |put h2 hl =>
   simp only[E7]
   by_cases e1:h1=h<;>by_cases e2:h2=h<;>simp only[e1,e2,if_true,if_false]
   simp only[efW,List.cons.injEq,and_true]at hy hy';subst hy hy';simp[Cy,e1,e2]at hm
 |put h1 hl =>
  cases e' with
  |set h2 o2 vs =>
   simp only[E7]
   by_cases e1:h1=h<;>by_cases e2:h2=h<;>simp only[e1,e2,if_true,if_false]
   simp only[efW,List.cons.injEq,and_true]at hy hy';subst hy hy';simp[Cy,e1,e2]at hm
  |put h2 hl2 =>
   simp only[E7]
   by_cases e1:h1=h<;>by_cases e2:h2=h<;>simp only[e1,e2,if_true,if_false]
   simp only[efW,List.cons.injEq,and_true]at hy hy';subst hy hy';simp[Cy,e1,e2]at hm
theorem Agp(e:Ef):∃y,efW [e]=[y]:=by cases e<;>exact⟨_,rfl⟩
theorem Ab1(e:Ef)(es:List Ef){y:Nat×Option (Nat×Nat)}(hy:efW [e]=[y]):efW (e :: es)=y :: efW es:=by
 cases e<;>simp only[efW,List.cons.injEq,and_true]at hy ⊢<;>exact hy
theorem Ab0{h:Nat}{e:Ef}{y:Nat×Option (Nat×Nat)}(hy:efW [e]=[y]):∀(es:List Ef) (x:Hl),(∀z∈efW es,Cy y z=false)->Dm h es (E7 h e x)=E7 h e (Dm h es x)
 | [],_,_=>rfl
 |e' :: es,x,hm=>by
  obtain⟨y',hy'⟩:=Agp e';rw[Ab1 e' es hy']at hm;show Dm h es (E7 h e' (E7 h e x))=E7 h e (Dm h es (E7 h e' x));rw[<-Ab0 hy es (E7 h e' x) λz hz=>hm z (List.mem_cons_of_mem _ hz)];rw[Aix hy hy' (hm y' (List.mem_cons_self ..))]
theorem Uy{h:Nat}:∀(es es':List Ef) (x:Hl),(∀y∈efW es,∀z∈efW es',Cy y z=false)->Dm h es' (Dm h es x)=Dm h es (Dm h es' x)
 | [],_,_,_=>rfl
 |e :: es,es',x,hm=>by
  obtain⟨y,hy⟩:=Agp e;rw[Ab1 e es hy]at hm;show Dm h es' (Dm h es (E7 h e x))=Dm h es (E7 h e (Dm h es' x));rw[Uy es es' _ λy hy=>hm y (List.mem_cons_of_mem _ hy)];rw[Ab0 hy es' x (hm y (List.mem_cons_self ..))]
theorem Up{h:Nat}{S:Nat->Bool}{es:List Ef}:∀(L:List (Oper×Rec)) (k:Nat) (x:Hl),(∀(j:Nat) (p:Oper×Rec),L[j]?=some p->S (k+j)=true->∀y∈efW es,∀z∈efW (Lk p.2),Cy y z=false)->
  Ey h S L k (Dm h es x)=Dm h es (Ey h S L k x)
 | [],_,_,_=>rfl
 |p :: L,k,x,hm=>by
  simp only[Ey];have hrec:=λx=>Up (h:=h) (S:=S) (es:=es) L (k+1) x λj q hq hd=>hm (j+1) q (by simpa using hq) (by rwa [show k+(j+1)=k+1+j by omega]);cases hSk:S k with
  |false=>exact hrec x
  |true =>
   simp only[if_true];rw[Uy es (Lk p.2) x (hm 0 p rfl (by simpa using hSk)),hrec]
theorem Oy{h:Nat}{S S':Nat->Bool}:∀(L:List (Oper×Rec)) (i k:Nat) (x:Hl) (p:Oper×Rec),L[i]?=some p->S (k+i)=false->S' (k+i)=true->(∀j,j≠k+i->S' j=S j)->
  (∀(j:Nat) (q:Oper×Rec),i<j->L[j]?=some q->S (k+j)=true->∀y∈efW (Lk p.2),∀z∈efW (Lk q.2),Cy y z=false)->
  Ey h S' L k x=Dm h (Lk p.2) (Ey h S L k x)
 | [],i,_,_,_,h,_,_,_,_=>by simp at h
 |q :: L,0,k,x,p,hp,h1,h2,hS,hm=>by
  simp at hp;subst hp;simp only[Nat.add_zero]at h1 h2;simp only[Ey,h1,h2,if_true,Bool.false_eq_true,if_false];have e:Ey h S' L (k+1) (Dm h (Lk q.2) x)=Ey h S L (k+1) (Dm h (Lk q.2) x):=by
   have:∀(L:List (Oper×Rec)) (m:Nat) (x:Hl),k<m->Ey h S' L m x=Ey h S L m x:=by
    intro L
    induction L with
    |nil=>intro m x _;rfl
    |cons r L ih=>intro m x hlt;simp only[Ey];rw[hS m (by omega)];exact ih _ _ (by omega)
   exact this L (k+1) _ (by omega)
  rw[e];exact Up L (k+1) x λj r hr hd=>hm (j+1) r (by omega) (by simpa using hr) (by rwa [show k+(j+1)=k+1+j by omega])
 |q :: L,i+1,k,x,p,hp,h1,h2,hS,hm=>by
  simp only[Ey];rw[hS k (by omega)];exact Oy L i (k+1) _ p (by simpa using hp) (by rwa [show k+1+i=k+(i+1) by omega]) (by rwa [show k+1+i=k+(i+1) by omega]) (λj hj=>hS j (by omega))
   λj r hj hr hd=>hm (j+1) r (by omega) (by simpa using hr) (by rwa [show k+(j+1)=k+1+j by omega])
theorem Tw{n:Nat}:∀ {es:List Edge},n∈Df es->∃e∈es,Region.binds .any e=true/\e.on=n
 | [],h=>by simp[Df]at h
 |e :: es,h=>by
  simp only[Df,List.mem_append]at h;rcases h with h|h
  ·refine⟨e,List.mem_cons_self ..,?_⟩
   cases hg:e.ground<;>simp only[hg,List.mem_singleton,List.not_mem_nil]at h<;>exact⟨by simp[Region.binds,hg],h.symm⟩
  ·obtain⟨e',h1,h2⟩:=Tw h
   exact⟨e',List.mem_cons_of_mem _ h1,h2⟩
theorem Uz{e:Edge}:∀ {es:List Edge},e∈es->Region.binds .any e=true->e.on∈Df es
 | [],h,_=>by cases h
 |e' :: es,h,hb=>by
  simp only[Df,List.mem_append];rcases List.mem_cons.1 h with rfl|h
  ·left
   cases hg:e.ground<;>simp[Region.binds,hg]at hb ⊢
  ·exact .inr (Uz h hb)
theorem Tu{x:Nat}:∀ {l t:List Nat},x∈Acv l t->x∈l\/x∈t
 | [],_,h=>.inr h
 |y :: l,t,h=>by
  rcases Tu (l:=l) h with h|h
  ·exact .inl (List.mem_cons_of_mem _ h)
  ·unfold Am5 at h
   split at h
   ·exact .inr h
   ·rcases List.mem_cons.1 h with rfl|h
    ·exact .inl (List.mem_cons_self ..)
    ·exact .inr h
theorem Alf{x y:Nat}{l:List Nat}(h:x∈Am5 y l):x=y\/x∈l:=by
 unfold Am5 at h
 split at h
 ·exact .inr h
 ·exact List.mem_cons.1 h
theorem Tx{acc:List (List Nat)}{x:Nat}:∀ {l:List Nat},x∈Qm acc l->∃i∈l,x=i\/x∈(nth acc i).getD []
 | [],h=>by simp[Qm]at h
 |i :: l,h=>by
  simp only[Qm]at h;rcases Tu h with h|h
  ·exact⟨i,List.mem_cons_self ..,Alf h⟩
  ·obtain⟨j,h1,h2⟩:=Tx h
   exact⟨j,List.mem_cons_of_mem _ h1,h2⟩
theorem Tz{n:Nat}:∀ {l:List Nat},Yj n l=true->∀x∈l,x<n
 | [],_,x,h=>by cases h
 |y :: l,h,x,hx=>by
  simp only[Yj,Bool.and_eq_true,Nat.blt_eq]at h;rcases List.mem_cons.1 hx with rfl|hx
  ·exact h.1
  ·exact Tz h.2 x hx
theorem Ln:∀ {os:List Oper} {k:Nat},G3 os k=true->∀ {j:Nat} {o:Oper},os[j]?=some o->∀x∈Df o.after.toList,x<k+j
 | [],_,_,j,o,h=>by simp at h
 |o0 :: os,k,hk,j,o,h=>by
  simp only[G3,Bool.and_eq_true]at hk;cases j with
  |zero=>simp at h;subst h;exact Tz hk.1
  |succ j =>
   simp at h;intro x hx;have:=Ln hk.2 h x hx;omega
theorem U4{S:Nat->Prop}{all:List Oper}(hdown:∀(k:Nat) (o:Oper),all[k]?=some o->S k->∀x∈Df o.after.toList,S x)(hok:G3 all 0=true):
  ∀(os:List Oper) (acc:List (List Nat)),(∀(j:Nat) (o:Oper),os[j]?=some o->all[acc.length+j]?=some o)->
   (∀(j:Nat) (o:Oper) (l:List Nat),all[j]?=some o->acc[j]?=some l->(∀x∈Df o.after.toList,S x)->∀x∈l,S x)->
   ∀(j:Nat) (o:Oper) (l:List Nat),all[j]?=some o->(Ie os acc)[j]?=some l->(∀x∈Df o.after.toList,S x)->∀x∈l,S x
 | [],acc,_,hacc=>λj o l ho hl=>hacc j o l ho hl
 |o0 :: os,acc,hal,hacc=>by
  have h0:=hal 0 o0 rfl;simp only[Nat.add_zero]at h0;refine U4 hdown hok os (acc++[Qm acc (Df o0.after.toList)]) (λj o h=>?_) (λj o l ho hl he x hx=>?_)
  ·have:=hal (j+1) o (by simpa using h)
   simp only[List.length_append,List.length_singleton]
   rwa [show acc.length+1+j=acc.length+(j+1) by omega]
  ·by_cases hj:j<acc.length
   ·rw[List.getElem?_append_left hj]at hl
    exact hacc j o l ho hl he x hx
   ·have hje:j=acc.length:=by
     have:=(List.getElem?_eq_some_iff.1 hl).1;simp at this;omega
    subst hje;rw[h0]at ho;cases ho;simp at hl;subst hl;obtain⟨i,hi,hx⟩:=Tx hx;have hSi:=he i hi;rcases hx with rfl|hx
    ·exact hSi
    ·have hlt:i<acc.length:=by have:=Ln hok h0 i hi;omega
     have hai:all[i]?=some (all[i]'(by have:=(List.getElem?_eq_some_iff.1 h0).1;omega)):=List.getElem?_eq_getElem _;rw[Ag,List.getElem?_eq_getElem hlt]at hx;exact hacc i _ _ hai (List.getElem?_eq_getElem hlt) (hdown i _ hai hSi) x hx
theorem Mp{all:List Oper}{bs:List (List Nat)}{i:Nat}{o:Oper}{f:FP}:∀ {os:List Oper} {fs:List FP} {j:Nat},L8 all bs i o f os fs j=true->∀ {m:Nat} {o':Oper} {f':FP},os[m]?=some o'->fs[m]?=some f'->
  Ab9 all o f o' f'=false\/i∈(nth bs (j+m)).getD []
 | [],_,_,_,m,o',f',h,_=>by simp at h
 |_ :: _,[],_,_,m,o',f',_,h=>by simp at h
 |o1 :: os,f1 :: fs,j,h,m,o',f',h1,h2=>by
  simp only[L8,Bool.and_eq_true,Bool.or_eq_true,Bool.not_eq_true',Dv]at h;cases m with
  |zero=>simp at h1 h2;subst h1 h2;exact h.1
  |succ m =>
   simp at h1 h2;have:=Mp h.2 h1 h2
   rwa [show j+1+m=j+(m+1) by omega]at this
theorem P5{all:List Oper}{bs:List (List Nat)}:∀ {os:List Oper} {fs:List FP} {k:Nat},Ue all bs os fs k=true->∀ {i j:Nat} {o o':Oper} {f f':FP},i<j->os[i]?=some o->os[j]?=some o'->fs[i]?=some f->fs[j]?=some f'->
  Ab9 all o f o' f'=false\/(k+i)∈(nth bs (k+j)).getD []
 | [],_,_,_,i,j,o,o',f,f',_,h,_,_,_=>by simp at h
 |_ :: _,[],_,_,i,j,o,o',f,f',_,_,_,h,_=>by simp at h
 |o1 :: os,f1 :: fs,k,h,i,j,o,o',f,f',hij,h1,h2,h3,h4=>by
  simp only[Ue,Bool.and_eq_true]at h;obtain⟨m,rfl⟩:∃m,j=m+1:=⟨j-1,by omega⟩;simp at h2 h4;cases i with
  |zero =>
   simp at h1 h3;subst h1 h3;have:=Mp h.1 h2 h4;simpa[show k+1+m=k+(m+1) by omega] using this
  |succ i =>
   simp at h1 h3;have:=P5 h.2 (i:=i) (j:=m) (by omega) h1 h2 h3 h4
   rwa [show k+1+i=k+(i+1) by omega,show k+1+m=k+(m+1) by omega]at this
theorem Tv{s:Nat}:∀ {xs:List Operand},s∈xs.flatMap Cu->s∈X7 xs
 | [],h=>by simp at h
 |x :: xs,h=>by
  simp only[List.flatMap_cons,List.mem_append]at h;simp only[X7,List.mem_append];rcases h with h|h
  ·left
   cases x with
   |tmp _=>simpa[Cu,Ak2] using h
   |_=>simp[Cu]at h
  ·exact .inr (Tv h)
theorem Fd{t:List Nat}:∀ {l:List Nat},Pt l t=false->∀x∈l,x ∉ t
 | [],_,x,h=>by cases h
 |y :: l,h,x,hx=>by
  simp only[Pt,Bool.or_eq_false_iff]at h;rcases List.mem_cons.1 hx with rfl|hx
  ·intro hm;rw[(Dv _ _).2 hm]at h;cases h.1
  ·exact Fd h.2 x hx
theorem V9{all:List Oper}{o:Oper}{j:Nat}{want:Bool}{s:Nat}(hg:o.guard=some (j,want))(h:(nth all j).bind (·.dst)=some s):s∈P8 all o.guard:=by
 rw[hg];simp only[P8];cases hj:nth all j with
 |none=>rw[hj]at h;cases h
 |some oj =>
  rw[hj]at h;simp only[Option.bind_some]at h;simp[h]
section
variable {P:Program} {ops:Array Oper} {gl:List (Nat×SV)} {B:Bs} {N:Nat} {σ σ':Sy} {rs:List Rec}
structure Ctx(P:Program)(ops:Array Oper)(gl:List (Nat×SV))(N:Nat)(σ σ':Sy)(rs:List Rec):Prop where
 len:rs.length=ops.size
 step:∀(i:Nat) (o:Oper) (rec:Rec),ops[i]?=some o->rs[i]?=some rec->∃σi,WfG σi/\σi.fr.length=N/\(Ba σi,Aq σi.hp)=Co N σ'.gm ((ops.toList.zip rs).take i) (Ba σ,Aq σ.hp)/\Am8 P gl ops.toList o σ'.gm σi rec
 edges:G3 ops.toList 0=true
 ind:Ue ops.toList (Ie ops.toList []) ops.toList (rs.map fpR) 0=true
def xS(N:Nat)(ops:Array Oper)(σ σ':Sy)(rs:List Rec)(S:Nat->Bool):X:=D5 N σ'.gm S (ops.toList.zip rs) 0 (Ba σ,Aq σ.hp)
structure Ae3(ops:Array Oper)(S:Nat->Bool):Prop where
 down:∀(k:Nat) (o:Oper),ops[k]?=some o->S k=true->∀x∈Df o.after.toList,S x=true
theorem Ack(h:Ctx P ops gl N σ σ' rs){S:Nat->Bool}(hd:Ae3 ops S){j:Nat}{o:Oper}(ho:ops[j]?=some o)(he:∀x∈Df o.after.toList,S x=true){i:Nat}(hi:i∈(nth (Ie ops.toList []) j).getD []):S i=true:=by
 rw[Ag]at hi;cases hl:(Ie ops.toList [])[j]? with
 |none=>rw[hl]at hi;simp at hi
 |some l =>
  rw[hl]at hi;refine U4 (S:=λi=>S i=true) (all:=ops.toList) (λk o ho hs=>hd.down k o (by rw[<-Array.getElem?_toList];exact ho) hs) h.edges ops.toList [] (by simp) (by simp) j o l (by rw[Array.getElem?_toList];exact ho) hl he i hi
theorem Yz(rec:Rec):(fpR rec).wr=efW (Lk rec):=by
 cases rec with
 |none=>rfl
 |some p=>obtain⟨a,b,c⟩:=p;rfl
theorem Pa(h:Ctx P ops gl N σ σ' rs){S:Nat->Bool}(hd:Ae3 ops S){i:Nat}{o:Oper}{rec:Rec}(ho:ops[i]?=some o)(hr:rs[i]?=some rec)(hi:S i=false)(he:∀x∈Df o.after.toList,S x=true)
  {k:Nat} {p:Oper×Rec} (hk:(ops.toList.zip rs)[k]?=some p) (hdiff:S k≠decide (k<i)):
  (∀s,p.1.dst=some s->s ∉ looks ops.toList o)/\(∀z∈efW (Lk p.2),∀y∈rdR (fpR rec),Cy z y=false)/\(∀z∈efW (Lk p.2),∀y∈efW (Lk rec),Cy z y=false)/\(k≠i->∀s,p.1.dst=some s->o.dst≠some s)/\k≠i:=by
 have hki:k≠i:=by rintro rfl;apply hdiff;rw[hi];simp
 rw[List.getElem?_zip_eq_some]at hk;obtain⟨hk1,hk2⟩:=hk;have hk1':ops[k]?=some p.1:=by rw[<-Array.getElem?_toList];exact hk1
 by_cases hlt:k<i
 ·have hSk:S k=false:=by
   cases hs:S k with
   |false=>rfl
   |true=>exact absurd (by rw[hs];simp[hlt]) hdiff
  rcases P5 h.ind hlt hk1 (by rw[Array.getElem?_toList];exact ho) (by rw[List.getElem?_map,hk2];rfl) (by rw[List.getElem?_map,hr];rfl) with hc|hc
  ·simp only[Ab9,Bool.or_eq_false_iff]at hc
   obtain⟨⟨⟨⟨⟨c1,c2⟩,c3⟩,c4⟩,c5⟩,c6⟩:=hc;rw[Yz]at c4 c5;rw[Yz]at c5;exact⟨λs hs=>Fd c1 s (by simp[hs,Vq]),λz hz y hy=>Fc c4 z hz y hy,λz hz y hy=>Fc c5 z hz y hy,λ_ s hs e=>Fd c2 s (by simp[hs,Vq]) (by simp[e,Vq]),hki⟩
  ·simp only[Nat.zero_add]at hc
   rw[Ack h hd ho he hc]at hSk;cases hSk
 ·have hgt:i<k:=by omega
  have hSk:S k=true:=by
   cases hs:S k with
   |true=>rfl
   |false=>exact absurd (by rw[hs];simp[hlt]) hdiff
  rcases P5 h.ind hgt (by rw[Array.getElem?_toList];exact ho) hk1 (by rw[List.getElem?_map,hr];rfl) (by rw[List.getElem?_map,hk2];rfl) with hc|hc
  ·simp only[Ab9,Bool.or_eq_false_iff]at hc
   obtain⟨⟨⟨⟨⟨c1,c2⟩,c3⟩,c4⟩,c5⟩,c6⟩:=hc;rw[Yz]at c4 c5;rw[Yz]at c5 c6;refine⟨λs hs=>Fd c3 s (by simp[hs,Vq]),λz hz y hy=>Fc c6 z hz y hy,λz hz y hy=>by rw[Q0];exact Fc c5 y hy z hz,λ_ s hs e=>Fd c2 s (by simp[e,Vq]) (by simp[hs,Vq]),hki⟩
  ·simp only[Nat.zero_add]at hc
   have:=Ack h hd hk1' (hd.down k _ hk1' hSk) hc;rw[this]at hi;cases hi
theorem xS_slot(h:Ctx P ops gl N σ σ' rs){S:Nat->Bool}(hd:Ae3 ops S){i:Nat}{o:Oper}{rec:Rec}(ho:ops[i]?=some o)(hr:rs[i]?=some rec)(hi:S i=false)(he:∀x∈Df o.after.toList,S x=true){s:Nat}(hs:s∈looks ops.toList o):
  (xS N ops σ σ' rs S).1 s=(Co N σ'.gm ((ops.toList.zip rs).take i) (Ba σ,Aq σ.hp)).1 s:=by
 rw[<-M7 (ops.toList.zip rs) i 0];refine J8 _ 0 _ _ rfl λk p hk hdst=>?_;simp only[Nat.zero_add]
 by_cases e:S k=decide (k<i)
 ·exact e
 ·exact absurd hs ((Pa h hd ho hr hi he hk e).1 s hdst)
theorem R8(h:Ctx P ops gl N σ σ' rs){S:Nat->Bool}(hd:Ae3 ops S){i:Nat}{o:Oper}{rec:Rec}(ho:ops[i]?=some o)(hr:rs[i]?=some rec)(hi:S i=false)(he:∀x∈Df o.after.toList,S x=true){ρ:Nat×Option (Nat×Nat)}
  (hρ:ρ∈rdR (fpR rec)\/ρ∈efW (Lk rec)):same ((xS N ops σ σ' rs S).2 ρ.1) ((Co N σ'.gm ((ops.toList.zip rs).take i) (Ba σ,Aq σ.hp)).2 ρ.1) (inR ρ)/\
   (ρ.2=none->(xS N ops σ σ' rs S).2 ρ.1=(Co N σ'.gm ((ops.toList.zip rs).take i) (Ba σ,Aq σ.hp)).2 ρ.1):=by
 rw[<-M7 (ops.toList.zip rs) i 0,xS,Hu,Hu];refine Ra _ 0 _ _ (.inl rfl) (λ_=>rfl) λk p hk hdiff z hz=>?_;simp only[Nat.zero_add]at hdiff;obtain⟨_,a2,a3,_⟩:=Pa h hd ho hr hi he hk hdiff;rcases hρ with hρ|hρ
 ·exact a2 z hz ρ hρ
 ·exact a3 z hz ρ hρ
theorem Ag5(h:Ctx P ops gl N σ σ' rs){S S':Nat->Bool}(hd:Ae3 ops S){i:Nat}{o:Oper}{rec:Rec}(ho:ops[i]?=some o)(hr:rs[i]?=some rec)(hi:S i=false)(he:∀x∈Df o.after.toList,S x=true)(hi':S' i=true)(hS:∀j,j≠i->S' j=S j):
  xS N ops σ σ' rs S'=Dy N σ'.gm o rec (xS N ops σ σ' rs S):=by
 have hlt:i<rs.length:=(List.getElem?_eq_some_iff.1 hr).1;have hp:(ops.toList.zip rs)[i]?=some (o,rec):=by rw[List.getElem?_zip_eq_some];exact⟨by rw[Array.getElem?_toList];exact ho,hr⟩
 apply Prod.ext
 ·funext s
  by_cases hds:o.dst=some s/\s<N
  ·-- the slot that it writes
   have key:∀(L:List (Oper×Rec)) (i k:Nat) (x:X),L[i]?=some (o,rec)->S' (k+i)=true->(∀(j:Nat) (q:Oper×Rec),i<j->L[j]?=some q->q.1.dst=some s->S' (k+j)=false)->(D5 N σ'.gm S' L k x).1 s=(Dy N σ'.gm o rec x).1 s:=by
    intro L
    induction L with
    |nil=>intro i k x h;simp at h
    |cons q L ih =>
     intro i k x hL h1 h2;cases i with
     |zero =>
      simp at hL;subst hL;simp only[Nat.add_zero]at h1;simp only[D5,h1,if_true];have:(D5 N σ'.gm S' L (k+1) (Dy N σ'.gm o rec x)).1 s=(D5 N σ'.gm (λ_=>false) L (k+1) (Dy N σ'.gm o rec x)).1 s :=
       J8 L (k+1) _ _ rfl λj q hq hdq=>by have:=h2 (j+1) q (by omega) (by simpa using hq) hdq;rwa [show k+(j+1)=k+1+j by omega]at this
      rw[this,J9 L (k+1) _ λ_ _=>rfl]
     |succ i =>
      simp only[D5];rw[ih i (k+1) _ (by simpa using hL) (by rwa [show k+1+i=k+(i+1) by omega]) λj q hj hq hdq=>by have:=h2 (j+1) q (by omega) (by simpa using hq) hdq;rwa [show k+(j+1)=k+1+j by omega]at this];cases rec with
      |none=>simp[Dy,Gs,hds.1,hds.2]
      |some p=>obtain⟨a,b,c⟩:=p;simp[Dy,Gs,hds.1,hds.2]
   have:=key (ops.toList.zip rs) i 0 (Ba σ,Aq σ.hp) hp (by simpa using hi') λj q hj hq hdq=>by
    simp only[Nat.zero_add];rw[hS j (by omega)];cases hs:S j with
    |false=>rfl
    |true =>
     obtain⟨_,_,_,a4,_⟩:=Pa h hd ho hr hi he hq (by rw[hs];simp;omega);exact absurd hds.1 (a4 (by omega) s hdq)
   rw[xS,this];cases rec with
   |none=>simp[Dy,Gs,hds.1,hds.2]
   |some p=>obtain⟨a,b,c⟩:=p;simp[Dy,Gs,hds.1,hds.2]
  ·have e1:(Dy N σ'.gm o rec (xS N ops σ σ' rs S)).1 s=(xS N ops σ σ' rs S).1 s:=by
    cases rec with
    |none=>simp only[Dy,Gs,if_neg hds]
    |some p=>obtain⟨a,b,c⟩:=p;simp only[Dy,Gs,if_neg hds]
   rw[e1]
   -- a slot that it does not write
   have key:∀(L:List (Oper×Rec)) (i k:Nat) (x y:X),x.1 s=y.1 s->L[i]?=some (o,rec)->(∀j,j≠k+i->S' j=S j)->(D5 N σ'.gm S' L k x).1 s=(D5 N σ'.gm S L k y).1 s:=by
    intro L
    induction L with
    |nil=>intro i k x y _ h;simp at h
    |cons q L ih =>
     intro i k x y hxy hL h2;have happ:∀z:X,q=(o,rec)->(Dy N σ'.gm q.1 q.2 z).1 s=z.1 s:=by
      rintro z rfl;cases rec with
      |none=>simp only[Dy,Gs,if_neg hds]
      |some p=>obtain⟨a,b,c⟩:=p;simp only[Dy,Gs,if_neg hds]
     cases i with
     |zero =>
      simp at hL;simp only[D5];refine J8 L (k+1) _ _ ?_ λj q' _ _=>h2 _ (by omega);have a1:(if S' k then Dy N σ'.gm q.1 q.2 x else x).1 s=x.1 s:=by split;exact happ x hL;rfl
      have a2:(if S k then Dy N σ'.gm q.1 q.2 y else y).1 s=y.1 s:=by split;exact happ y hL;rfl
      rw[a1,a2,hxy]
     |succ i =>
      simp only[D5];rw[h2 k (by omega)];refine ih i (k+1) _ _ ?_ (by simpa using hL) λj hj=>h2 j (by omega)
      split
      ·exact O9 hxy
      ·exact hxy
   exact key _ i 0 _ _ rfl hp (by simpa using hS)
 ·funext k
  rw[Xy,xS,xS,Hu,Hu];refine Oy _ i 0 _ (o,rec) hp (by simpa using hi) (by simpa using hi') (by simpa using hS) λj q hj hq hs y hy z hz=>?_;simp only[Nat.zero_add]at hs;obtain⟨_,_,a3,_⟩:=Pa h hd ho hr hi he hq (by rw[hs];simp;omega);rw[Q0];exact a3 z hz y hy
end
end Go.Sx
