/- Part of the proofs of the statements about responses and messages (layers 9 and 10): a symbolic executor over the code, that it is sound, and contracts of functions; it has no conditions of its own. -/
import Derived.CallsIn
import Derived.RangeFuncRecord
import Derived.TacticsIn
import Derived.OrdersIn
import Derived.ControlIn
import Derived.Test.YtdoogdbjiijifaaGreatDoorE3Pao
namespace Go.Sx
open Go
structure WfG(σ:Sy):Prop where
 tg:∀s g,Au σ.fr s=some g->∀i∈g.tg,i<σ.gm.length
 gt:∀s g i,Au σ.fr s=some g->g.gt=some i->∃c,g.v=.bool c/\nth σ.gm i=some c
 gf:∀s g i,Au σ.fr s=some g->g.gf=some i->∃c,g.v=.bool c/\nth σ.gm i=some (.not c)
theorem G6{gm:List BT}{c:BT}:∀ {T:List Nat},(∀i∈T,i<gm.length)->Ac (gm++[c]) T=Ac gm T
 | [],_=>rfl
 |i :: T,h=>by
  have h1:=G6 (gm:=gm) (c:=c) (T:=T) λj hj=>h j (List.mem_cons_of_mem _ hj);have h2:nth (gm++[c]) i=nth gm i:=by rw[Ag,Ag,List.getElem?_append_left (h i (List.mem_cons_self ..))]
  simp only[Ac,List.filterMap_cons,h2]at *;rw[h1]
theorem B7{α:Type}(fr:List (Option α))(d s:Nat)(g:Option α):Au (Ax fr d g) s=if s=d/\d<fr.length then g else Au fr s:=by
 rw[Dz,Dz,As,List.getElem?_set]
 by_cases e:d=s
 ·subst e
  by_cases h:d<fr.length<;>simp[h]
 ·rw[if_neg e,if_neg (λh=>e h.1.symm)]
section
variable {P:Program} {cx:Cx}
theorem Afu{a:Act}{d:Nat}{v:Value}(h:a.tmps.size<=d):a.put (some d) v=a:=by
 obtain⟨t,ds⟩:=a;simp only[Act.put]at *;congr 1;exact Array.setIfInBounds_eq_of_size_le h
theorem St.setD{B:Bs}{N:Nat}{E:Env}{a:Act}{w:World}{σ:Sy}{hf:Nat->Hl}(st:St B N E a w (Ba σ) hf)(hN:σ.fr.length=N)(d:Option Nat)(v:Value)(g:Option G)
  (hg:∀g',g=some g'->(Bh (Ac σ.gm g'.tg)->Rel E w g'.v v)/\(¬Bh (Ac σ.gm g'.tg)->v=undef)) (hp':List Hl):St B N E (a.put d v) w (Ba ⟨setD σ.fr d g,hp',σ.gm⟩) hf:=by
 have key:∀k,d=some k->k<N->St B N E (a.put d v) w (Ba ⟨Sx.setD σ.fr d g,hp',σ.gm⟩) hf:=by
  intro k hk hlt;have:=st.put d v (g.map λg=>(Ac σ.gm g.tg,g.v)) (λcs s e=>by
   cases g with
   |none=>cases e
   |some g'=>simp only[Option.map_some,Option.some.injEq,Prod.mk.injEq]at e;obtain⟨rfl,rfl⟩:=e;exact hg g' rfl) (λj hj=>by rw[hk]at hj;cases hj;exact hlt)
  have e:Acs (Ba σ) d (g.map λg=>(Ac σ.gm g.tg,g.v))=Ba ⟨Sx.setD σ.fr d g,hp',σ.gm⟩:=by
   subst hk
   funext s;simp only[Acs,upd,Ba,Sx.setD,B7]
   by_cases e:s=k
   ·subst e;simp[hN,hlt]
   ·simp[e]
  rw[e]at this;exact this
 cases d with
 |none=>exact st
 |some k =>
  by_cases hlt:k<N
  ·exact key k rfl hlt
  ·rw[Afu (by rw[st.size];omega)]
   have e:Ba ⟨Sx.setD σ.fr (some k) g,hp',σ.gm⟩=Ba σ:=by
    funext s;simp only[Ba,Sx.setD,B7];rw[if_neg (λh=>hlt (by rw[<-hN];exact h.2))]
   rw[e];exact st
theorem P7{hp:List Hl}{h:Nat}{hl:Hl}(hle:h<=hp.length):Aq (Ahs hp h hl)=upd (Aq hp) h hl:=by
 funext k;unfold Ahs;rw[Ae]
 by_cases e:h=hp.length
 ·subst e
  simp only[beq_self_eq_true,if_true,Aq,Ag,upd]
  by_cases e2:k=hp.length
  ·subst e2;simp
  ·rw[if_neg e2]
   by_cases e3:k<hp.length
   ·rw[List.getElem?_append_left e3]
   ·rw[List.getElem?_eq_none (by simp;omega),List.getElem?_eq_none (by omega)]
 ·have:(h==hp.length)=false:=by simpa using e
  simp only[this,Bool.false_eq_true,if_false,Aq,Ag,As,upd,List.getElem?_set]
  by_cases e2:h=k
  ·subst e2;rw[if_pos rfl,if_pos rfl,if_pos (by omega)];rfl
  ·rw[if_neg e2,if_neg (λh=>e2 h.symm)]
theorem Jm:∀(es:List Ef) (hp:List Hl),Jf hp es=true->Aq (Ll hp es)=Hw (Aq hp) es
 | [],hp,_=>rfl
 |.set h off vs :: es,hp,ho=>by
  simp only[Jf]at ho;show Aq (Ll (efH hp (.set h off vs)) es)=Hw (efF (Aq hp) (.set h off vs)) es;rw[Jm es _ ho];congr 1;simp only[efH,efF];cases hn:nth hp h with
  |none=>simp[Aq,hn]
  |some hl =>
   rw[Bv hn];cases hl<;>try rfl
   rename_i ty cs
   funext k;have hlt:h<hp.length:=by rw[Ag]at hn;exact (List.getElem?_eq_some_iff.1 hn).1
   simp only[Aq,Ag,As,upd,List.getElem?_set]
   by_cases e2:h=k
   ·subst e2;rw[if_pos rfl,if_pos rfl,if_pos hlt];rfl
   ·rw[if_neg e2,if_neg (λh=>e2 h.symm)]
 |.put h hl :: es,hp,ho=>by
  simp only[Jf,Bool.and_eq_true,Ae]at ho;show Aq (Ll (efH hp (.put h hl)) es)=Hw (efF (Aq hp) (.put h hl)) es;rw[Jm es _ ho.2];congr 1;exact P7 (Nat.le_of_ble_eq_true ho.1)
theorem Gx{all:List Oper}{ops:Array Oper}(hops:ops.toList=all){σ σ':Sy}{T:List Nat}{o:Oper}(h:Gy all σ o.guard=some (some (σ',T)))(wf:WfG σ):
  WfG σ'/\Ba σ'=Ba σ/\σ'.hp=σ.hp/\σ'.fr.length=σ.fr.length/\(∀i∈T,i<σ'.gm.length)/\(∃x,σ'.gm=σ.gm++x)/\
  (∀(i:Nat),Au σ'.fr i=none↔Au σ.fr i=none)/\
  ∀(B:Bs) (N:Nat) (E:Env) (a:Act) (w:World) (ff:Nat->SG) (hf:Nat->Hl),St B N E a w ff hf->(∀j want s,o.guard=some (j,want)->(nth all j).bind (·.dst)=some s->ff s=Ba σ s)->(Region.wanted o (yielded ops a.tmps)=true↔Bh (Ac σ'.gm T)):=by
 unfold Gy at h
 split at h
 ·rename_i hg
  simp only[Option.some.injEq,Prod.mk.injEq]at h;obtain⟨rfl,rfl⟩:=h;exact⟨wf,rfl,rfl,rfl,by simp,⟨[],by simp⟩,λ_=>Iff.rfl,λB N E a w ff hf _ _=>by simp[Region.wanted,hg,Ac,Bh]⟩
 ·rename_i j want hg
  split at h
  ·rename_i oj hj
   split at h
   ·rename_i s hs
    have hsl:∀(B:Bs) (N:Nat) (E:Env) (a:Act) (w:World) (ff:Nat->SG) (hf:Nat->Hl) (tg:List Nat) (gt gf:Option Nat) (c:BT),Au σ.fr s=some ⟨tg,gt,gf,.bool c⟩->St B N E a w ff hf->(∀j want s,o.guard=some (j,want)->(nth all j).bind (·.dst)=some s->ff s=Ba σ s)->
      (Region.wanted o (yielded ops a.tmps)=true↔(Bh (Ac σ.gm tg)/\c.den=want)):=by
     intro B N E a w ff hf tg gt gf c hgo st hag;have hag:=hag j want s hg (by rw[hj];exact hs);have hsk:=st.slot s;rw[hag,Ba,hgo]at hsk;simp only[Option.map_some,Bk]at hsk;obtain⟨h1,h2,h3⟩:=hsk;have hops':ops[j]?=some oj:=by rw[<-Array.getElem?_toList,hops,<-Ag];exact hj
     have hv:a.tmps[s]?=some (a.tmps.getD s undef):=by simp[Array.getD,h1]
     simp only[Region.wanted,hg,yielded,hops',Option.bind_some,hs];rw[hv]
     by_cases hT:Bh (Ac σ.gm tg)
     ·rw[(h2 hT).bool_inv]
      simp[hT]
     ·rw[h3 hT]
      simp[undef,hT]
    split at h
    ·rename_i tg gt gf b hgo
     split at h
     ·rename_i hb
      simp only[Option.some.injEq,Prod.mk.injEq]at h;obtain⟨rfl,rfl⟩:=h;refine⟨wf,rfl,rfl,rfl,wf.tg s _ hgo,⟨[],by simp⟩,λ_=>Iff.rfl,λB N E a w ff hf st hag=>?_⟩;rw[hsl B N E a w ff hf _ _ _ _ hgo st hag];have:b=want:=by simpa using hb
      simp[BT.den,this]
     ·cases h
    ·rename_i tg gt gf c _ hgo
     have old:∀(i:Nat) (c':BT),nth σ.gm i=some c'->(c'.den=true↔c.den=want)->σ=σ'->T=i :: tg->(WfG σ'/\Ba σ'=Ba σ/\σ'.hp=σ.hp/\σ'.fr.length=σ.fr.length/\(∀i∈T,i<σ'.gm.length)/\(∃x,σ'.gm=σ.gm++x)/\(∀(i:Nat),Au σ'.fr i=none↔Au σ.fr i=none)/\
       ∀(B:Bs) (N:Nat) (E:Env) (a:Act) (w:World) (ff:Nat->SG) (hf:Nat->Hl),St B N E a w ff hf->(∀j want s,o.guard=some (j,want)->(nth all j).bind (·.dst)=some s->ff s=Ba σ s)->(Region.wanted o (yielded ops a.tmps)=true↔Bh (Ac σ'.gm T))):=by
      intro i c' hi hc e1 e2;subst e1 e2;refine⟨wf,rfl,rfl,rfl,λk hk=>?_,⟨[],by simp⟩,λ_=>Iff.rfl,λB N E a w ff hf st hag=>?_⟩
      ·rcases List.mem_cons.1 hk with rfl|hk
       ·rw[Ag]at hi;exact (List.getElem?_eq_some_iff.1 hi).1
       ·exact wf.tg s _ hgo k hk
      ·rw[hsl B N E a w ff hf _ _ _ _ hgo st hag]
       simp only[Ac,List.filterMap_cons,hi,Bh];rw[hc];exact And.comm
     have new:∀(c':BT) (g':G),(c'.den=true↔c.den=want)->g'.tg=tg->g'.v=.bool c->(∀i,g'.gt=some i->(gt=some i)\/(i=σ.gm.length/\c'=c))->(∀i,g'.gf=some i->(gf=some i)\/(i=σ.gm.length/\c'=.not c))->σ'=⟨Ax σ.fr s (some g'),σ.hp,σ.gm++[c']⟩->T=Af σ.gm :: tg->
       (WfG σ'/\Ba σ'=Ba σ/\σ'.hp=σ.hp/\σ'.fr.length=σ.fr.length/\(∀i∈T,i<σ'.gm.length)/\(∃x,σ'.gm=σ.gm++x)/\(∀(i:Nat),Au σ'.fr i=none↔Au σ.fr i=none)/\
       ∀(B:Bs) (N:Nat) (E:Env) (a:Act) (w:World) (ff:Nat->SG) (hf:Nat->Hl),St B N E a w ff hf->(∀j want s,o.guard=some (j,want)->(nth all j).bind (·.dst)=some s->ff s=Ba σ s)->(Region.wanted o (yielded ops a.tmps)=true↔Bh (Ac σ'.gm T))):=by
      intro c' g' hc e1 e2 e3 e4 e5 e6;subst e5 e6;have hgrow:∀i b,nth σ.gm i=some b->nth (σ.gm++[c']) i=some b:=λi b hb=>by
       rw[Ag]at hb ⊢;rw[List.getElem?_append_left (List.getElem?_eq_some_iff.1 hb).1];exact hb
      have hlast:nth (σ.gm++[c']) σ.gm.length=some c':=by rw[Ag];simp
      refine⟨⟨λk g hk i hi=>?_,λk g i hk hi=>?_,λk g i hk hi=>?_⟩,?_,rfl,by simp[As],λk hk=>?_,⟨[c'],rfl⟩,λk=>?_,λB N E a w ff hf st hag=>?_⟩
      ·rw[B7]at hk
       split at hk
       ·cases hk;rw[e1]at hi;have:=wf.tg s _ hgo i hi;simp;omega
       ·have:=wf.tg k g hk i hi;simp;omega
      ·rw[B7]at hk
       split at hk
       ·cases hk
        rcases e3 i hi with h|⟨rfl,rfl⟩
        ·obtain⟨c2,q1,q2⟩:=wf.gt s _ i hgo h
         exact⟨c2,by rw[e2];exact q1,hgrow _ _ q2⟩
        ·exact⟨_,e2,hlast⟩
       ·obtain⟨c2,q1,q2⟩:=wf.gt k g i hk hi
        exact⟨c2,q1,hgrow _ _ q2⟩
      ·rw[B7]at hk
       split at hk
       ·cases hk
        rcases e4 i hi with h|⟨rfl,rfl⟩
        ·obtain⟨c2,q1,q2⟩:=wf.gf s _ i hgo h
         exact⟨c2,by rw[e2];exact q1,hgrow _ _ q2⟩
        ·exact⟨_,e2,hlast⟩
       ·obtain⟨c2,q1,q2⟩:=wf.gf k g i hk hi
        exact⟨c2,q1,hgrow _ _ q2⟩
      ·funext k
       simp only[Ba,B7]
       split
       ·rename_i e
        rw[e.1,hgo];simp only[Option.map_some,e1,e2,G6 (wf.tg s _ hgo)]
       ·cases hk:Au σ.fr k with
        |none=>rfl
        |some g=>simp only[Option.map_some,G6 (wf.tg k g hk)]
      ·rw[Ae]at hk
       rcases List.mem_cons.1 hk with rfl|hk
       ·simp
       ·have:=wf.tg s _ hgo k hk;simp;omega
      ·simp only[B7]
       split
       ·rename_i e;rw[e.1,hgo];simp
       ·rfl
      ·rw[hsl B N E a w ff hf _ _ _ _ hgo st hag]
       simp only[Ac,List.filterMap_cons,Ae,hlast,Bh];have:=G6 (c:=c') (wf.tg s _ hgo);simp only[Ac]at this;rw[this,hc];exact And.comm
     split at h
     ·rename_i hw
      subst hw
      split at h
      ·rename_i _ i
       simp only[Option.some.injEq,Prod.mk.injEq]at h;obtain⟨c2,q1,q2⟩:=wf.gt s _ i hgo rfl;cases q1;exact old i c q2 Iff.rfl h.1 h.2.symm
      ·simp only[Option.some.injEq,Prod.mk.injEq]at h
       refine new c _ Iff.rfl rfl rfl (λi h=>?_) (λi h=>.inl h) h.1.symm h.2.symm;simp only[Option.some.injEq]at h;exact .inr ⟨by rw[<-h,Ae],rfl⟩
     ·rename_i hw
      have hw:want=false:=by simpa using hw
      subst hw
      split at h
      ·rename_i _ i
       simp only[Option.some.injEq,Prod.mk.injEq]at h;obtain⟨c2,q1,q2⟩:=wf.gf s _ i hgo rfl;cases q1;exact old i (.not c) q2 (by simp[BT.den]) h.1 h.2.symm
      ·simp only[Option.some.injEq,Prod.mk.injEq]at h
       refine new (.not c) _ (by simp[BT.den]) rfl rfl (λi h=>.inl h) (λi h=>?_) h.1.symm h.2.symm;simp only[Option.some.injEq]at h;exact .inr ⟨by rw[<-h,Ae],rfl⟩
    ·cases h
   ·cases h
  ·cases h
theorem Oo{all:List Oper}{ops:Array Oper}(hops:ops.toList=all){σ:Sy}{o:Oper}(h:Gy all σ o.guard=some none){B:Bs}{N:Nat}{E:Env}{a:Act}{w:World}{ff:Nat->SG}{hf:Nat->Hl}(st:St B N E a w ff hf)
  (hag:∀j want s,o.guard=some (j,want)->(nth all j).bind (·.dst)=some s->ff s=Ba σ s):Region.wanted o (yielded ops a.tmps)=false:=by
 unfold Gy at h
 split at h
 ·cases h
 ·rename_i j want hg
  split at h
  ·rename_i oj hj
   split at h
   ·rename_i s hs
    split at h
    ·rename_i tg gt gf b hgo
     split at h
     ·cases h
     ·rename_i hb
      have hag:=hag j want s hg (by rw[hj];exact hs);have hsk:=st.slot s;rw[hag,Ba,hgo]at hsk;simp only[Option.map_some,Bk]at hsk;obtain⟨h1,h2,h3⟩:=hsk;have hops':ops[j]?=some oj:=by rw[<-Array.getElem?_toList,hops,<-Ag];exact hj
      have hv:a.tmps[s]?=some (a.tmps.getD s undef):=by simp[Array.getD,h1]
      simp only[Region.wanted,hg,yielded,hops',Option.bind_some,hs];rw[hv]
      by_cases hT:Bh (Ac σ.gm tg)
      ·rw[(h2 hT).bool_inv]
       simpa[BT.den] using hb
      ·rw[h3 hT]
       simp[undef]
    ·split at h<;>split at h<;>simp at h
    ·cases h
   ·cases h
  ·cases h
end
section
variable {P:Program} {cx:Cx} {σ:Sy} {T:List Nat} {o:Oper} {K:Out->Prop}
theorem Pb{gm:List BT}{g:Option Nat}{T:List Nat}(h:∀i,g=some i->∃c,nth gm i=some c/\c.den=true)(hT:Bh (Ac gm T)):Bh (Ac gm (g.toList++T)):=by
 cases g with
 |none=>simpa using hT
 |some i =>
  obtain⟨c,h1,h2⟩:=h i rfl;simp only[Option.toList_some,List.singleton_append,Ac,List.filterMap_cons,h1,Bh];exact⟨h2,hT⟩
theorem Sz(wf:WfG σ){c x y:Operand}(ho:o.op=.pick c x y)(h:S0 cx σ T c x y K):∃r,K r/\Ap P cx.gl σ T o r:=by
 unfold S0 at h
 split at h
 ·rename_i s
  have mc:(Operand.tmp s)∈o.op.operands.toList:=by simp[ho,Op.operands]
  have mx:x∈o.op.operands.toList:=by simp[ho,Op.operands]
  have my:y∈o.op.operands.toList:=by simp[ho,Op.operands]
  have cval:∀ {B:Bs} {N:Nat} {E:Env} {a:Act} {w:World} {ff:Nat->SG} {hf:Nat->Hl} {tg:List Nat} {gt gf:Option Nat} {ct:BT},Au σ.fr s=some ⟨tg,gt,gf,.bool ct⟩->Vj tg T=true->St B N E a w ff hf->AgS σ ff o->Bh (Ac σ.gm T)->a.eval (.tmp s)=.bool ct.den:=by
   intro B N E a w ff hf tg gt gf ct hgo hs st ag hT;have h1:=st.slot s;rw[Ah ag mc s (by simp[Cu]),Ba,hgo]at h1;simp only[Option.map_some,Bk]at h1;exact (h1.2.1 (Acm hs hT)).bool_inv
  split at h
  ·rename_i tg gt gf hgo
   split at h
   ·rename_i hs
    obtain⟨v,hv,h⟩:=Fv h;refine⟨_,h,λB N E a w ff hf hg st ag agh hT=>?_⟩;refine Ad st (v:=a.eval x) ?_ rfl (Aa hv hg st (Ah ag mx) hT);simp[execOp,ho,cval hgo hs st ag hT,asBool,BT.den]
   ·exact h.elim
  ·rename_i tg gt gf hgo
   split at h
   ·rename_i hs
    obtain⟨v,hv,h⟩:=Fv h;refine⟨_,h,λB N E a w ff hf hg st ag agh hT=>?_⟩;refine Ad st (v:=a.eval y) ?_ rfl (Aa hv hg st (Ah ag my) hT);simp[execOp,ho,cval hgo hs st ag hT,asBool,BT.den]
   ·exact h.elim
  ·rename_i tg gt gf ct _ _ hgo
   split at h
   ·rename_i hs
    have ht:∀i,gt=some i->ct.den=true->∃c,nth σ.gm i=some c/\c.den=true:=λi hi hd=>by
     obtain⟨c,q1,q2⟩:=wf.gt s _ i hgo hi;cases q1;exact⟨_,q2,hd⟩
    have hf':∀i,gf=some i->ct.den=false->∃c,nth σ.gm i=some c/\c.den=true:=λi hi hd=>by
     obtain⟨c,q1,q2⟩:=wf.gf s _ i hgo hi;cases q1;exact⟨_,q2,by simp[BT.den,hd]⟩
    split at h
    ·rename_i bx h1 h2
     refine⟨_,h,λB N E a w ff hf hg st ag agh hT=>?_⟩;refine Ad st (v:=.bool (ct.den&&bx.den)) ?_ rfl (.bool rfl);have hc:=cval hgo hs st ag hT;cases hd:ct.den with
     |true =>
      have:=(Aa h1 hg st (Ah ag mx) (Pb (λi hi=>ht i hi hd) hT)).bool_inv;simp[execOp,ho,hc,asBool,hd,this]
     |false =>
      have:=(Aa h2 hg st (Ah ag my) (Pb (λi hi=>hf' i hi hd) hT)).bool_inv;simp[execOp,ho,hc,asBool,hd,this,BT.den]
    ·rename_i y' _ h1 h2
     refine⟨_,h,λB N E a w ff hf hg st ag agh hT=>?_⟩;refine Ad st (v:=.bool (ct.den||y'.den)) ?_ rfl (.bool rfl);have hc:=cval hgo hs st ag hT;cases hd:ct.den with
     |true =>
      have:=(Aa h1 hg st (Ah ag mx) (Pb (λi hi=>ht i hi hd) hT)).bool_inv;simp[execOp,ho,hc,asBool,hd,this,BT.den]
     |false =>
      have:=(Aa h2 hg st (Ah ag my) (Pb (λi hi=>hf' i hi hd) hT)).bool_inv;simp[execOp,ho,hc,asBool,hd,this]
    ·exact h.elim
   ·exact h.elim
  ·exact h.elim
 ·exact h.elim
theorem opIn{ro:Option Nat}{n:Nat}{o:Oper}{a:Act}{w:World}{K:Act->World->Prop}{Q:Exit->Act->World->Prop}(h:o.wp P a w K Q)(hd:∀c,o.op≠.defer c):o.wpIn (Fr ro) n P a w K Q:=by
 refine⟨λ_ _=>trivial,?_⟩;rw[show (Fr ro).round=ro from rfl,Oper.semAt_eq _ _ _ hd];unfold Oper.wp at h
 generalize (execOp a.eval o).run P w=r at *
 cases r with
 |ok nx w' =>
  cases nx with
  |value v=>exact h
  |skip=>exact h
  |defer d=>exact h
  |enter f args=>exact⟨by simp[Fr,Fence.wide],(callsIn_wide (n:=n-1)).2 h⟩
  |row row args=>exact⟨by simp[Fr,Fence.wide],λc cs _=>let ⟨v,w1,r,s⟩:=h c cs;⟨v,w1,r,stepsIn_wide.2 s⟩⟩
  |_=>exact h.elim
 |halt st w' =>
  cases st with
  |panic v=>exact h
  |_=>exact h.elim
def Vf(P:Program)(gl:List (Nat×SV))(σ:Sy)(T:List Nat)(o:Oper)(r:Out):Prop :=
 ∀(B:Bs) (N:Nat) (E:Env) (a:Act) (w:World) (ff:Nat->SG) (hf:Nat->Hl),E6 B gl->St B N E a w ff hf->AgS σ ff o->AgH σ.hp hf r->Bh (Ac σ.gm T)->
  ∀(ro:Option Nat) (nn:Nat) (K':Act->World->Prop) (Q:Exit->Act->World->Prop),
  (∀v w' E',Ext E w E' w'->Ci B E' w'->(∀h,HOk E' w' h (Hw hf r.efs h))->Rel E' w' r.v v->K' (a.put o.dst v) w')->o.wpIn (Fr ro) nn P a w K' Q
theorem Ap.toY{r:Out}(h:Ap P cx.gl σ T o r)(hd:∀c,o.op≠.defer c):Vf P cx.gl σ T o r :=
 λB N E a w ff hf g st ag agh hT _ _ K' Q hK=>opIn (h B N E a w ff hf g st ag agh hT K' Q hK) hd
theorem Nm{op:Op}{h:Nat}{c:Call}(hy:Nn cx σ T op=some (h,c)):op=.call c/\∃s,c.callee=.value (.tmp s)/\rd cx σ T (.tmp s)=some (.yv h):=by
 unfold Nn at hy
 split at hy
 ·split at hy
  ·split at hy
   ·rename_i c0 _ s hs _ h0 hr
    simp only[Option.some.injEq,Prod.mk.injEq]at hy;obtain⟨rfl,rfl⟩:=hy;exact⟨rfl,s,hs,hr⟩
   ·cases hy
  ·cases hy
 ·cases hy
theorem Rel.yv_inv{E:Env}{w:World}{h:Nat}{v:Value}(hr:Rel E w (.yv h) v):∃b,E.β h=some b/\v=.func (.yield b) #[] #[]:=by
 cases hr with
 |ro h=>cases h
 |yv hb hv=>exact⟨_,hb,hv⟩
theorem Kf(hc:A1 P cx)(hrg:Ve P cx){h:Nat}{c:Call}(hy:Nn cx σ T o.op=some (h,c))(hs:Lx cx σ T h c K):∃r,K r/\Vf P cx.gl σ T o r:=by
 obtain⟨ho,s,hcal,hrd⟩:=Nm hy;unfold Lx at hs
 split at hs
 ·rename_i vs Y hv hyl
  have hY:=hrg.yl Y (by rw[hyl];exact List.mem_cons_self ..);unfold Fp at hs;rw[hc.D]at hs;obtain⟨vs1,hvs1⟩:∃x,x=loose.looseL (norm.normL dn (.yv h :: vs)):=⟨_,rfl⟩;simp only[<-hvs1]at hs;obtain⟨hs1,hhs1⟩:∃x,x=Tk σ.hp σ.hp (Lt [] (hsV.hsL vs1)):=⟨_,rfl⟩;simp only[<-hhs1]at hs;obtain⟨ls1,hls1⟩:∃x,x=Uj dn σ.hp hs1:=⟨_,rfl⟩;simp only[<-hls1]at hs
  split at hs
  ·rename_i h3
   simp only[Bool.and_eq_true]at h3;obtain⟨⟨⟨⟨⟨c1,c2⟩,c3⟩,c4⟩,c5⟩,c6⟩:=h3;obtain⟨r,ls',⟨k1,k2⟩,hct⟩:=hY _ _ _ hs;simp only[Bool.and_eq_true]at k1;obtain⟨⟨⟨k3,k4⟩,k5⟩,k6⟩:=k1;have k3:=Nat.le_of_ble_eq_true k3;simp only[Ae hs1,Ae ls',Ae σ.hp,A9,Bo,J4]at k3 k5 k6 k2 hct;rw[Ae]at c4;refine⟨_,k2,λB N E a w ff hf g st ag agh hT ro nn K' Q hK=>?_⟩;have hag:∀t∈Cu (.tmp s),ff t=Ba σ t:=Ah ag (by simp[ho,Op.operands,Call.operands,hcal]);have hus:=D2 trivial g st hT c.args.toList c.argTypes.toList vs (λx hx=>Ah ag (by simp only[ho,Op.operands,Call.operands];simp;exact .inr (by simpa using hx))) hv;have hfv:=Aa hrd g st hag hT;obtain⟨b,hb,hev⟩:=hfv.yv_inv;have hG:=Nd (cx:=cx) (G:=YG P) (hp:=σ.hp) (λus w R R' h hc=>by
    obtain⟨l,args,r,q1,q2,q3,q4⟩:=hc;exact⟨l,args,r,q1,q2,q3,λro nn=>(q4 ro nn).mono h⟩) hvs1 hls1 ((Ho _).1 c1) ((Hd _ _).1 c2) c3 ((F9 _ _).1 c4) ((Gd _ _).1 c5) hct k3 k4 ((F9 _ _).1 k5) ((N9 _ _).1 k6) g st.base st.heap agh (.cons hfv hus)
   obtain⟨l,args,rr,q1,q2,q3,q4⟩:=hG;rw[hev]at q1;simp only[List.cons.injEq,Value.func.injEq,Fn.yield.injEq,and_true]at q1;obtain⟨rfl,rfl⟩:=q1;have hrun:(execOp a.eval o).run P w=.ok (.round b rr.fn ((rr.params.zip (⟨c.args.toList.map a.eval⟩:Array Value)).foldl (λtmps (t,a)=>tmps.setIfInBounds t a) rr.tmps) rr.assign rr.body) w:=by
    have hargsE:(⟨c.args.toList.map a.eval⟩:Array Value)=c.args.map a.eval:=by apply Array.ext';simp
    rw[hargsE];have:=run_yield (P:=P) (args:=c.args.map a.eval) q2 (by rw[<-q3];simp);refine Eq.trans ?_ this;simp[execOp,ho,resolve,hcal,hev,Deferred.ofValue,invoke]
   refine⟨λ_ _=>trivial,?_⟩;rw[show (Fr ro).round=ro from rfl,Oper.semAt_eq _ _ _ (λc' e=>by rw[ho]at e;cases e),hrun,Oper.uponIn_round];refine⟨by simp[Fr,Fence.wide],(q4 ro (nn-1)).mono ?_⟩;rintro e w' ⟨v,E',rfl,h1,h2,h3,h4⟩;exact hK v w' E' h1 h2 h3 h4
  ·exact hs.elim
 ·exact hs.elim
theorem Ik(hc:A1 P cx)(htab:Em P cx.gl cx.tab)(hrg:Ve P cx)(wf:WfG σ)(h:Ns cx σ T o K):∃r,K r/\((∀c,o.op≠.defer c)->Vf P cx.gl σ T o r):=by
 unfold Ns at h
 split at h
 ·rename_i c x y ho
  obtain⟨r,k,l⟩:=Sz wf ho h;exact⟨r,k,λhnd=>l.toY hnd⟩
 ·split at h
  ·rename_i hy
   obtain⟨r,k,l⟩:=Kf hc hrg hy h;exact⟨r,k,λ_=>l⟩
  ·obtain⟨r,k,l⟩:=X3 hc htab h
   exact⟨r,k,λhnd=>l.toY hnd⟩
inductive Zm(P:Program)(gl:List (Nat×SV))(all:List Oper):List Oper->Sy->List (Option (Sy×List Nat×Out))->Sy->Prop where
 |nil (σ:Sy):Zm P gl all [] σ [] σ
 |skip {o:Oper} {os:List Oper} {σ σ':Sy} {rs:List (Option (Sy×List Nat×Out))} (hg:Gy all σ o.guard=some none) (h:Zm P gl all os ⟨setD σ.fr o.dst none,σ.hp,σ.gm⟩ rs σ'):Zm P gl all (o :: os) σ (none :: rs) σ'
 |step {o:Oper} {os:List Oper} {σ σ1 σ':Sy} {T:List Nat} {r:Out} {rs:List (Option (Sy×List Nat×Out))} (hg:Gy all σ o.guard=some (some (σ1,T))) (hl:Vf P gl σ1 T o r) (he:Jf σ1.hp r.efs=true) (hte:(T=[]\/r.efs=[]\/Bh (Ac σ1.gm T))/\∀c,o.op≠.defer c)
   (h:Zm P gl all os ⟨setD σ1.fr o.dst (some ⟨T,none,none,r.v⟩),Ll σ1.hp r.efs,σ1.gm⟩ rs σ'):Zm P gl all (o :: os) σ (some (σ1,T,r) :: rs) σ'
theorem WfG.setD{σ:Sy}(wf:WfG σ)(d:Option Nat)(g:Option G)(hg:∀g',g=some g'->(∀i∈g'.tg,i<σ.gm.length)/\g'.gt=none/\g'.gf=none)(hp:List Hl):WfG ⟨setD σ.fr d g,hp,σ.gm⟩:=by
 have key:∀s g',Au (Sx.setD σ.fr d g) s=some g'->g=some g'\/Au σ.fr s=some g':=by
  intro s g' h;cases d with
  |none=>exact .inr h
  |some k =>
   simp only[Sx.setD,B7]at h
   split at h
   ·exact .inl h
   ·exact .inr h
 refine⟨λs g' h i hi=>?_,λs g' i h hi=>?_,λs g' i h hi=>?_⟩
 ·rcases key s g' h with h|h
  ·exact (hg g' h).1 i hi
  ·exact wf.tg s g' h i hi
 ·rcases key s g' h with h|h
  ·rw[(hg g' h).2.1]at hi;cases hi
  ·exact wf.gt s g' i h hi
 ·rcases key s g' h with h|h
  ·rw[(hg g' h).2.2]at hi;cases hi
  ·exact wf.gf s g' i h hi
def fpR:Option (Sy×List Nat×Out)->FP
 |none=>⟨[],[],[]⟩
 |some (_,_,r)=>Wa r
theorem Cr(hc:A1 P cx)(htab:Em P cx.gl cx.tab)(hrg:Ve P cx){all:List Oper}{ops:Array Oper}(hops:ops.toList=all):∀(os:List Oper) (fs:List FP) (σ:Sy) (K:List FP->Sy->Prop),WfG σ->Eo cx all os fs σ K->∃rs σ',Zm P cx.gl all os σ rs σ'/\WfG σ'/\K (fs++rs.map fpR) σ'
 | [],fs,σ,K,wf,h=>⟨[],σ,.nil σ,wf,by simpa[Eo] using h⟩
 |o :: os,fs,σ,K,wf,h=>by
  unfold Eo at h
  split at h
  ·exact h.elim
  ·rename_i hg
   obtain⟨rs,σ',h1,h2,h3⟩:=Cr hc htab hrg hops os _ _ K (wf.setD o.dst none (by simp) σ.hp) h;exact⟨_,σ',.skip hg h1,h2,by simpa[fpR] using h3⟩
  ·rename_i σ1 T hg
   obtain⟨w1,w2,w3,w4,w5,w6⟩:=Gx hops hg wf
   split at h
   ·rename_i hh c i hy
    have hnd:∀c,o.op≠.defer c:=λc' e=>by rw[(Nm hy).1]at e;cases e
    split at h
    ·rename_i b hb
     rw[hc.D]at h;have hcond:Ac σ1.gm [i]=[b]:=by simp only[Ac,List.filterMap_cons,hb,List.filterMap_nil]
     by_cases hbd:b.den=true
     ·obtain⟨r,hk,hl⟩:=Kf hc hrg hy (h.1 hbd)
      split at hk
      ·rename_i he
       obtain⟨rs,σ',h1,h2,h3⟩:=Cr hc htab hrg hops os _ _ K (w1.setD o.dst (some ⟨[i],none,none,r.v⟩) (by rintro g' ⟨⟩;exact⟨w5,rfl,rfl⟩) _) hk;exact⟨_,σ',.step hg hl he ⟨.inr (.inr (by rw[hcond];exact⟨hbd,trivial⟩)),hnd⟩ h1,h2,by simpa[fpR] using h3⟩
      ·exact hk.elim
     ·have hk:=h.2 (by show b.den=false;simpa using hbd)
      obtain⟨rs,σ',h1,h2,h3⟩:=Cr hc htab hrg hops os _ _ K (w1.setD o.dst (some ⟨[i],none,none,.bool (.l true)⟩) (by rintro g' ⟨⟩;exact⟨w5,rfl,rfl⟩) _) hk;exact⟨_,σ',.step (r:=⟨.bool (.l true),[],[],[]⟩) hg (λ_ _ _ _ _ _ _ _ _ _ _ hT=>by rw[hcond]at hT;exact absurd hT.1 hbd) rfl ⟨.inr (.inl rfl),hnd⟩ h1,h2,by simpa[fpR] using h3⟩
    ·exact h.elim
   split at h
   ·rename_i d i hbo _
    have hnd:∀c,o.op≠.defer c:=λc' e=>by unfold Ze at hbo;rw[e]at hbo;cases hbo
    split at h
    ·rename_i b hb
     rw[hc.D]at h;have hcond:Ac σ1.gm [i]=[b]:=by simp only[Ac,List.filterMap_cons,hb,List.filterMap_nil]
     by_cases hbd:b.den=true
     ·obtain⟨r,hk,hl⟩:=Ik hc htab hrg w1 (h.1 hbd)
      split at hk
      ·rename_i he
       obtain⟨rs,σ',h1,h2,h3⟩:=Cr hc htab hrg hops os _ _ K (w1.setD o.dst (some ⟨[i],none,none,r.v⟩) (by rintro g' ⟨⟩;exact⟨w5,rfl,rfl⟩) _) hk;exact⟨_,σ',.step hg (hl hnd) he ⟨.inr (.inr (by rw[hcond];exact⟨hbd,trivial⟩)),hnd⟩ h1,h2,by simpa[fpR] using h3⟩
      ·exact hk.elim
     ·have hk:=h.2 (by show b.den=false;simpa using hbd)
      obtain⟨rs,σ',h1,h2,h3⟩:=Cr hc htab hrg hops os _ _ K (w1.setD o.dst (some ⟨[i],none,none,d⟩) (by rintro g' ⟨⟩;exact⟨w5,rfl,rfl⟩) _) hk;exact⟨_,σ',.step (r:=⟨d,[],[],[]⟩) hg (λ_ _ _ _ _ _ _ _ _ _ _ hT=>by rw[hcond]at hT;exact absurd hT.1 hbd) rfl ⟨.inr (.inl rfl),hnd⟩ h1,h2,by simpa[fpR] using h3⟩
    ·exact h.elim
   ·rename_i d i j hbo _
    have hnd:∀c,o.op≠.defer c:=λc' e=>by unfold Ze at hbo;rw[e]at hbo;cases hbo
    split at h
    ·rename_i b c hb hcb
     rw[hc.D]at h;have hcond:Ac σ1.gm [i,j]=[b,c]:=by simp only[Ac,List.filterMap_cons,hb,hcb,List.filterMap_nil]
     by_cases hbd:(b.den&&c.den)=true
     ·obtain⟨r,hk,hl⟩:=Ik hc htab hrg w1 (h.1 hbd)
      have hbd2:=Bool.and_eq_true_iff.1 hbd
      split at hk
      ·rename_i he
       obtain⟨rs,σ',h1,h2,h3⟩:=Cr hc htab hrg hops os _ _ K (w1.setD o.dst (some ⟨[i,j],none,none,r.v⟩) (by rintro g' ⟨⟩;exact⟨w5,rfl,rfl⟩) _) hk;exact⟨_,σ',.step hg (hl hnd) he ⟨.inr (.inr (by rw[hcond];exact⟨hbd2.1,hbd2.2,trivial⟩)),hnd⟩ h1,h2,by simpa[fpR] using h3⟩
      ·exact hk.elim
     ·have hk:=h.2 (by show (b.den&&c.den)=false;simpa using hbd)
      obtain⟨rs,σ',h1,h2,h3⟩:=Cr hc htab hrg hops os _ _ K (w1.setD o.dst (some ⟨[i,j],none,none,d⟩) (by rintro g' ⟨⟩;exact⟨w5,rfl,rfl⟩) _) hk;exact⟨_,σ',.step (r:=⟨d,[],[],[]⟩) hg (λ_ _ _ _ _ _ _ _ _ _ _ hT=>by rw[hcond]at hT;exact absurd (Bool.and_eq_true_iff.2 ⟨hT.1,hT.2.1⟩) hbd) rfl ⟨.inr (.inl rfl),hnd⟩ h1,h2,by simpa[fpR] using h3⟩
    ·exact h.elim
   obtain⟨r,hk,hl⟩:=Ik hc htab hrg w1 h
   split at hk
   ·rename_i he
    simp only[Bool.and_eq_true,Bool.or_eq_true,List.isEmpty_iff]at he;obtain⟨⟨he,hte⟩,hnd⟩:=he;have hnd:∀c,o.op≠.defer c:=λc e=>by unfold Aap at hnd;rw[e]at hnd;cases hnd
    obtain⟨rs,σ',h1,h2,h3⟩:=Cr hc htab hrg hops os _ _ K (w1.setD o.dst (some ⟨_,none,none,r.v⟩) (by rintro g' ⟨⟩;exact⟨w5,rfl,rfl⟩) _) hk;exact⟨_,σ',.step hg (hl hnd) he ⟨hte.elim .inl λh=>.inr (.inl h),hnd⟩ h1,h2,by simpa[fpR] using h3⟩
   ·exact hk.elim
theorem Acp(hp:List Hl)(r:Out):AgH hp (Aq hp) r :=
 ⟨λ_ _=>rfl,λ_ _ _ cs h=>⟨cs,h,rfl,λ_ _ _=>rfl⟩,λe _=>by cases e with
  |set h off vs=>exact λty cs h=>⟨cs,h,rfl⟩
  |put h hl=>rfl⟩
structure StY(B:Bs)(N:Nat)(E:Env)(a:Act)(w:World)(σ:Sy):Prop where
 st:St B N E a w (Ba σ) (Aq σ.hp)
 len:σ.fr.length=N
 wf:WfG σ
 ge:∀h,B.β0 h≠none\/B.τ0 h≠none\/B.ζ0 h≠none->h<σ.hp.length
theorem Lf(fr:List (Option G))(d:Option Nat)(g:Option G):(setD fr d g).length=fr.length:=by
 cases d with
 |none=>rfl
 |some k=>simp[setD,As]
theorem len_efH(hp:List Hl)(e:Ef):hp.length<=(efH hp e).length:=by
 cases e with
 |set h off vs =>
  simp only[efH]
  split
  ·rw[As];simp
  ·exact Nat.le_refl _
 |put h hl =>
  simp only[efH,Ahs]
  split
  ·simp
  ·rw[As];simp
theorem Ok:∀(es:List Ef) (hp:List Hl),hp.length<=(Ll hp es).length
 | [],_=>Nat.le_refl _
 |e :: es,hp=>Nat.le_trans (len_efH hp e) (Ok es (efH hp e))
theorem Z5{ro:Option Nat}{n:Nat}{gl:List (Nat×SV)}{all:List Oper}{ops:Array Oper}(hops:ops.toList=all){B:Bs}{N:Nat}(hg:E6 B gl){Q:Exit->Act->World->Prop}{os:List Oper}{σ σ':Sy}{rs:List (Option (Sy×List Nat×Out))}(h:Zm P gl all os σ rs σ'):
  ∀(E:Env) (a:Act) (w:World),StY B N E a w σ->(∀E' a' w',StY B N E' a' w' σ'->Q .normal a' w')->wpListIn (Fr ro) n P ops Q os a w:=by
 induction h with
 |nil σ=>intro E a w hs hQ;exact hQ E a w hs
 |skip hgd h ih =>
  intro E a w hs hQ;have hw:=Oo hops hgd hs.st (λ_ _ _ _ _=>rfl);unfold wpListIn;rw[if_neg (by simp[hw])];exact⟨λ_ _=>trivial,ih E _ w ⟨hs.st.setD hs.len _ _ none (by simp) _,by rw[Lf];exact hs.len,hs.wf.setD _ none (by simp) _,hs.ge⟩ hQ⟩
 | @step o os σ σ1 σ' T r rs hgd hl he hte h ih =>
  intro E a w hs hQ;obtain⟨w1,w2,w3,w4,w5,_,_,w6⟩:=Gx hops hgd hs.wf;have hst:St B N E a w (Ba σ1) (Aq σ1.hp):=by rw[w2,w3];exact hs.st
  have hwant:=w6 B N E a w _ _ hs.st (λ_ _ _ _ _=>rfl);have hlen:σ1.fr.length=N:=by rw[w4];exact hs.len
  have hge:∀h,B.β0 h≠none\/B.τ0 h≠none\/B.ζ0 h≠none->h<(Ll σ1.hp r.efs).length:=λh hb=>Nat.lt_of_lt_of_le (hs.ge h hb) (by rw[<-w3];exact Ok _ _);unfold wpListIn
  by_cases hT:Bh (Ac σ1.gm T)
  ·rw[if_pos (hwant.2 hT)]
   refine hl B N E a w _ _ hg hst (λ_ _=>rfl) (Acp _ _) hT _ _ _ _ λv w' E' x1 x2 x3 x4=>?_;refine ih E' _ w' ⟨?_,by rw[Lf];exact hlen,w1.setD _ _ (by rintro g' ⟨⟩;exact⟨w5,rfl,rfl⟩) _,hge⟩ hQ;have:=hst.step x1 x2 x3;rw[<-Jm _ _ he]at this;exact this.setD hlen _ _ _ (by rintro g' ⟨⟩;exact⟨λ_=>x4,λh=>absurd hT h⟩) _
  ·rw[if_neg (λh=>hT (hwant.1 h))]
   refine⟨λ_ _=>trivial,ih E _ w ⟨?_,by rw[Lf];exact hlen,w1.setD _ _ (by rintro g' ⟨⟩;exact⟨w5,rfl,rfl⟩) _,hge⟩ hQ⟩;have hef:r.efs=[]:=by
    rcases hte.1 with h|h|h
    ·subst h;exact absurd trivial hT
    ·exact h
    ·exact absurd h hT
   have:=hst.setD hlen o.dst undef (some ⟨T,none,none,r.v⟩) (by rintro g' ⟨⟩;exact⟨λh=>absurd h hT,λ_=>rfl⟩) (Ll σ1.hp r.efs);rw[hef]at this ⊢;exact this
theorem Vi{ro:Option Nat}{n:Nat}{id:Nat}{ops:Array Oper}{Q:Exit->Act->World->Prop}{a:Act}{w:World}(h:wpListIn (Fr ro) n P ops Q ops.toList a w):(Code.region id ops false).wpIn (Fr ro) n P Q a w:=wpIn_region_list h
theorem P9:∀(fr:List (Option G)) (s:Nat),Au (tidy fr) s=match Au fr s with
  |some ⟨[],_,_,v⟩=>some ⟨[],none,none,v⟩
  |_=>none
 | [],s=>by simp[tidy,Au]
 |g :: fr,s=>by
  have ih:=P9 fr;cases s with
  |zero =>
   cases g with
   |none=>rfl
   |some g =>
    obtain⟨tg,gt,gf,v⟩:=g;cases tg<;>rfl
  |succ s =>
   cases g with
   |none=>exact ih s
   |some g =>
    obtain⟨tg,gt,gf,v⟩:=g;cases tg<;>exact ih s
theorem Ub:∀(fr:List (Option G)),(tidy fr).length=fr.length
 | []=>rfl
 |g :: fr=>by
  cases g with
  |none=>simp[tidy,Ub fr]
  |some g =>
   obtain⟨tg,gt,gf,v⟩:=g;cases tg<;>simp[tidy,Ub fr]
theorem StY.tidy{B:Bs}{N:Nat}{E:Env}{a:Act}{w:World}{σ:Sy}(h:StY B N E a w σ):StY B N E a w ⟨Sx.tidy σ.fr,σ.hp,[]⟩:=by
 refine⟨⟨h.st.base,h.st.heap,λs=>?_,h.st.size,h.st.defers⟩,by rw[Ub];exact h.len,⟨λs g hs=>?_,λs g i hs hi=>?_,λs g i hs hi=>?_⟩,h.ge⟩
 ·have h1:=h.st.slot s
  simp only[Ba,P9]at h1 ⊢;cases hs:Au σ.fr s with
  |none=>trivial
  |some g =>
   obtain⟨tg,gt,gf,v⟩:=g;rw[hs]at h1;cases tg with
   |nil=>exact h1
   |cons i tg=>trivial
 all_goals
  simp only[P9]at hs
  split at hs
  ·cases hs;simp at *
  ·cases hs
end
end Go.Sx
