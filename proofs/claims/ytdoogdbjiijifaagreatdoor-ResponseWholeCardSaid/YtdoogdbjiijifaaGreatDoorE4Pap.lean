/- Part of the proofs of the statements about responses and messages (layers 9 and 10): a symbolic executor over the code, that it is sound, and contracts of functions; it has no conditions of its own. -/
import Derived.CallsIn
import Derived.RangeFuncRecord
import Derived.TacticsIn
import Derived.OrdersIn
import Derived.ControlIn
import Derived.Test.YtdoogdbjiijifaaGreatDoorE4Pao
namespace Go.Sx
open Go
structure WfG (σ : Sy) : Prop where
 tg : ∀ s g,As σ.fr s = some g->∀ i∈g.tg,i < σ.gm.length
 gt : ∀ s g i,As σ.fr s = some g->g.gt = some i->∃ c,g.v = .bool c/\nth σ.gm i = some c
 gf : ∀ s g i,As σ.fr s = some g->g.gf = some i->∃ c,g.v = .bool c/\nth σ.gm i = some (.not c)
theorem Gk {gm : List BT} {c : BT} : ∀ {T : List Nat},(∀ i∈T,i < gm.length)->Ab (gm ++ [c]) T = Ab gm T
 | [],_=>rfl
 | i :: T,h=>by
  have h1:=Gk (gm:=gm) (c:=c) (T:=T) fun j hj=>h j (List.mem_cons_of_mem _ hj)
  have h2 : nth (gm ++ [c]) i = nth gm i:=by rw [Ah,Ah,List.getElem?_append_left (h i (List.mem_cons_self ..))]
  simp only [Ab,List.filterMap_cons,h2] at *
  rw [h1]
theorem Bq {α : Type} (fr : List (Option α)) (d s : Nat) (g : Option α) : As (Aw fr d g) s = if s = d/\d < fr.length then g else As fr s:=by
 rw [Dm,Dm,Ar,List.getElem?_set]
 by_cases e : d = s
 ·subst e
  by_cases h : d < fr.length<;>simp [h]
 ·rw [if_neg e,if_neg (fun h=>e h.1.symm)]
section
variable {P : Program} {cx : Cx}
theorem Ad6 {a : Act} {d : Nat} {v : Value} (h : a.tmps.size<=d) : a.put (some d) v = a:=by
 obtain ⟨t,ds⟩:=a
 simp only [Act.put] at *
 congr 1
 exact Array.setIfInBounds_eq_of_size_le h
theorem St.setD {B : Bs} {N : Nat} {E : Env} {a : Act} {w : World} {σ : Sy} {hf : Nat->Hl} (st : St B N E a w (A6 σ) hf) (hN : σ.fr.length = N) (d : Option Nat) (v : Value) (g : Option G)
  (hg : ∀ g',g = some g'->(Bd (Ab σ.gm g'.tg)->Rel E w g'.v v)/\(¬ Bd (Ab σ.gm g'.tg)->v = undef)) (hp' : List Hl) : St B N E (a.put d v) w (A6 ⟨setD σ.fr d g,hp',σ.gm⟩) hf:=by
 have key : ∀ k,d = some k->k < N->St B N E (a.put d v) w (A6 ⟨Sx.setD σ.fr d g,hp',σ.gm⟩) hf:=by
  intro k hk hlt
  have:=st.put d v (g.map fun g=>(Ab σ.gm g.tg,g.v)) (fun cs s e=>by
   cases g with
   | none=>cases e
   | some g'=>simp only [Option.map_some,Option.some.injEq,Prod.mk.injEq] at e; obtain ⟨rfl,rfl⟩:=e; exact hg g' rfl) (fun j hj=>by rw [hk] at hj; cases hj; exact hlt)
  have e : Abi (A6 σ) d (g.map fun g=>(Ab σ.gm g.tg,g.v)) = A6 ⟨Sx.setD σ.fr d g,hp',σ.gm⟩:=by
   subst hk
   funext s
   simp only [Abi,upd,A6,Sx.setD,Bq]
   by_cases e : s = k
   ·subst e; simp [hN,hlt]
   ·simp [e]
  rw [e] at this
  exact this
 cases d with
 | none=>exact st
 | some k =>
  by_cases hlt : k < N
  ·exact key k rfl hlt
  ·rw [Ad6 (by rw [st.size]; omega)]
   have e : A6 ⟨Sx.setD σ.fr (some k) g,hp',σ.gm⟩ = A6 σ:=by
    funext s
    simp only [A6,Sx.setD,Bq]
    rw [if_neg (fun h=>hlt (by rw [<-hN]; exact h.2))]
   rw [e]
   exact st
theorem O9 {hp : List Hl} {h : Nat} {hl : Hl} (hle : h<=hp.length) : Ao (Af0 hp h hl) = upd (Ao hp) h hl:=by
 funext k
 unfold Af0
 rw [Ad]
 by_cases e : h = hp.length
 ·subst e
  simp only [beq_self_eq_true,if_true,Ao,Ah,upd]
  by_cases e2 : k = hp.length
  ·subst e2; simp
  ·rw [if_neg e2]
   by_cases e3 : k < hp.length
   ·rw [List.getElem?_append_left e3]
   ·rw [List.getElem?_eq_none (by simp; omega),List.getElem?_eq_none (by omega)]
 ·have : (h == hp.length) = false:=by simpa using e
  simp only [this,Bool.false_eq_true,if_false,Ao,Ah,Ar,upd,List.getElem?_set]
  by_cases e2 : h = k
  ·subst e2; rw [if_pos rfl,if_pos rfl,if_pos (by omega)]; rfl
  ·rw [if_neg e2,if_neg (fun h=>e2 h.symm)]
theorem Iu : ∀ (es : List Ef) (hp : List Hl),In hp es = true->Ao (Kt hp es) = Ha (Ao hp) es
 | [],hp,_=>rfl
 | .set h off vs :: es,hp,ho=>by
  simp only [In] at ho
  show Ao (Kt (efH hp (.set h off vs)) es) = Ha (efF (Ao hp) (.set h off vs)) es
  rw [Iu es _ ho]
  congr 1
  simp only [efH,efF]
  cases hn : nth hp h with
  | none=>simp [Ao,hn]
  | some hl =>
   rw [Bl hn]
   cases hl<;>try rfl
   rename_i ty cs
   funext k
   have hlt : h < hp.length:=by rw [Ah] at hn; exact (List.getElem?_eq_some_iff.1 hn).1
   simp only [Ao,Ah,Ar,upd,List.getElem?_set]
   by_cases e2 : h = k
   ·subst e2; rw [if_pos rfl,if_pos rfl,if_pos hlt]; rfl
   ·rw [if_neg e2,if_neg (fun h=>e2 h.symm)]
 | .put h hl :: es,hp,ho=>by
  simp only [In,Bool.and_eq_true,Ad] at ho
  show Ao (Kt (efH hp (.put h hl)) es) = Ha (efF (Ao hp) (.put h hl)) es
  rw [Iu es _ ho.2]
  congr 1
  exact O9 (Nat.le_of_ble_eq_true ho.1)
theorem Ge {all : List Oper} {ops : Array Oper} (hops : ops.toList = all) {σ σ' : Sy} {T : List Nat} {o : Oper} (h : Gf all σ o.guard = some (some (σ',T))) (wf : WfG σ) :
  WfG σ'/\A6 σ' = A6 σ/\σ'.hp = σ.hp/\σ'.fr.length = σ.fr.length/\(∀ i∈T,i < σ'.gm.length)/\(∃ x,σ'.gm = σ.gm ++ x)/\
  (∀ (i : Nat),As σ'.fr i = none↔As σ.fr i = none)/\
  ∀ (B : Bs) (N : Nat) (E : Env) (a : Act) (w : World) (ff : Nat->SG) (hf : Nat->Hl),St B N E a w ff hf->(∀ j want s,o.guard = some (j,want)->(nth all j).bind (·.dst) = some s->ff s = A6 σ s)->(Region.wanted o (yielded ops a.tmps) = true↔Bd (Ab σ'.gm T)):=by
 unfold Gf at h
 split at h
 ·rename_i hg
  simp only [Option.some.injEq,Prod.mk.injEq] at h
  obtain ⟨rfl,rfl⟩:=h
  exact ⟨wf,rfl,rfl,rfl,by simp,⟨[],by simp⟩,fun _=>Iff.rfl,fun B N E a w ff hf _ _=>by simp [Region.wanted,hg,Ab,Bd]⟩
 ·rename_i j want hg
  split at h
  ·rename_i oj hj
   split at h
   ·rename_i s hs
    have hsl : ∀ (B : Bs) (N : Nat) (E : Env) (a : Act) (w : World) (ff : Nat->SG) (hf : Nat->Hl) (tg : List Nat) (gt gf : Option Nat) (c : BT),As σ.fr s = some ⟨tg,gt,gf,.bool c⟩->St B N E a w ff hf->(∀ j want s,o.guard = some (j,want)->(nth all j).bind (·.dst) = some s->ff s = A6 σ s)->
      (Region.wanted o (yielded ops a.tmps) = true↔(Bd (Ab σ.gm tg)/\c.den = want)):=by
     intro B N E a w ff hf tg gt gf c hgo st hag
     have hag:=hag j want s hg (by rw [hj]; exact hs)
     have hsk:=st.slot s
     rw [hag,A6,hgo] at hsk
     simp only [Option.map_some,Bg] at hsk
     obtain ⟨h1,h2,h3⟩:=hsk
     have hops' : ops[j]? = some oj:=by rw [<-Array.getElem?_toList,hops,<-Ah]; exact hj
     have hv : a.tmps[s]? = some (a.tmps.getD s undef):=by simp [Array.getD,h1]
     simp only [Region.wanted,hg,yielded,hops',Option.bind_some,hs]
     rw [hv]
     by_cases hT : Bd (Ab σ.gm tg)
     ·rw [(h2 hT).bool_inv]
      simp [hT]
     ·rw [h3 hT]
      simp [undef,hT]
    split at h
    ·rename_i tg gt gf b hgo
     split at h
     ·rename_i hb
      simp only [Option.some.injEq,Prod.mk.injEq] at h
      obtain ⟨rfl,rfl⟩:=h
      refine ⟨wf,rfl,rfl,rfl,wf.tg s _ hgo,⟨[],by simp⟩,fun _=>Iff.rfl,fun B N E a w ff hf st hag=>?_⟩
      rw [hsl B N E a w ff hf _ _ _ _ hgo st hag]
      have : b = want:=by simpa using hb
      simp [BT.den,this]
     ·cases h
    ·rename_i tg gt gf c _ hgo
     have old : ∀ (i : Nat) (c' : BT),nth σ.gm i = some c'->(c'.den = true↔c.den = want)->σ = σ'->T = i :: tg->(WfG σ'/\A6 σ' = A6 σ/\σ'.hp = σ.hp/\σ'.fr.length = σ.fr.length/\(∀ i∈T,i < σ'.gm.length)/\(∃ x,σ'.gm = σ.gm ++ x)/\(∀ (i : Nat),As σ'.fr i = none↔As σ.fr i = none)/\
       ∀ (B : Bs) (N : Nat) (E : Env) (a : Act) (w : World) (ff : Nat->SG) (hf : Nat->Hl),St B N E a w ff hf->(∀ j want s,o.guard = some (j,want)->(nth all j).bind (·.dst) = some s->ff s = A6 σ s)->(Region.wanted o (yielded ops a.tmps) = true↔Bd (Ab σ'.gm T))):=by
      intro i c' hi hc e1 e2
      subst e1 e2
      refine ⟨wf,rfl,rfl,rfl,fun k hk=>?_,⟨[],by simp⟩,fun _=>Iff.rfl,fun B N E a w ff hf st hag=>?_⟩
      ·rcases List.mem_cons.1 hk with rfl | hk
       ·rw [Ah] at hi; exact (List.getElem?_eq_some_iff.1 hi).1
       ·exact wf.tg s _ hgo k hk
      ·rw [hsl B N E a w ff hf _ _ _ _ hgo st hag]
       simp only [Ab,List.filterMap_cons,hi,Bd]
       rw [hc]
       exact And.comm
     have new : ∀ (c' : BT) (g' : G),(c'.den = true↔c.den = want)->g'.tg = tg->g'.v = .bool c->(∀ i,g'.gt = some i->(gt = some i)\/(i = σ.gm.length/\c' = c))->(∀ i,g'.gf = some i->(gf = some i)\/(i = σ.gm.length/\c' = .not c))->σ' = ⟨Aw σ.fr s (some g'),σ.hp,σ.gm ++ [c']⟩->T = Ae σ.gm :: tg->
       (WfG σ'/\A6 σ' = A6 σ/\σ'.hp = σ.hp/\σ'.fr.length = σ.fr.length/\(∀ i∈T,i < σ'.gm.length)/\(∃ x,σ'.gm = σ.gm ++ x)/\(∀ (i : Nat),As σ'.fr i = none↔As σ.fr i = none)/\
       ∀ (B : Bs) (N : Nat) (E : Env) (a : Act) (w : World) (ff : Nat->SG) (hf : Nat->Hl),St B N E a w ff hf->(∀ j want s,o.guard = some (j,want)->(nth all j).bind (·.dst) = some s->ff s = A6 σ s)->(Region.wanted o (yielded ops a.tmps) = true↔Bd (Ab σ'.gm T))):=by
      intro c' g' hc e1 e2 e3 e4 e5 e6
      subst e5 e6
      have hgrow : ∀ i b,nth σ.gm i = some b->nth (σ.gm ++ [c']) i = some b:=fun i b hb=>by
       rw [Ah] at hb ⊢
       rw [List.getElem?_append_left (List.getElem?_eq_some_iff.1 hb).1]; exact hb
      have hlast : nth (σ.gm ++ [c']) σ.gm.length = some c':=by rw [Ah]; simp
      refine ⟨⟨fun k g hk i hi=>?_,fun k g i hk hi=>?_,fun k g i hk hi=>?_⟩,?_,rfl,by simp [Ar],fun k hk=>?_,⟨[c'],rfl⟩,fun k=>?_,fun B N E a w ff hf st hag=>?_⟩
      ·rw [Bq] at hk
       split at hk
       ·cases hk; rw [e1] at hi; have:=wf.tg s _ hgo i hi; simp; omega
       ·have:=wf.tg k g hk i hi; simp; omega
      ·rw [Bq] at hk
       split at hk
       ·cases hk
        rcases e3 i hi with h | ⟨rfl,rfl⟩
        ·obtain ⟨c2,q1,q2⟩:=wf.gt s _ i hgo h
         exact ⟨c2,by rw [e2]; exact q1,hgrow _ _ q2⟩
        ·exact ⟨_,e2,hlast⟩
       ·obtain ⟨c2,q1,q2⟩:=wf.gt k g i hk hi
        exact ⟨c2,q1,hgrow _ _ q2⟩
      ·rw [Bq] at hk
       split at hk
       ·cases hk
        rcases e4 i hi with h | ⟨rfl,rfl⟩
        ·obtain ⟨c2,q1,q2⟩:=wf.gf s _ i hgo h
         exact ⟨c2,by rw [e2]; exact q1,hgrow _ _ q2⟩
        ·exact ⟨_,e2,hlast⟩
       ·obtain ⟨c2,q1,q2⟩:=wf.gf k g i hk hi
        exact ⟨c2,q1,hgrow _ _ q2⟩
      ·funext k
       simp only [A6,Bq]
       split
       ·rename_i e
        rw [e.1,hgo]
        simp only [Option.map_some,e1,e2,Gk (wf.tg s _ hgo)]
       ·cases hk : As σ.fr k with
        | none=>rfl
        | some g=>simp only [Option.map_some,Gk (wf.tg k g hk)]
      ·rw [Ad] at hk
       rcases List.mem_cons.1 hk with rfl | hk
       ·simp
       ·have:=wf.tg s _ hgo k hk; simp; omega
      ·simp only [Bq]
       split
       ·rename_i e; rw [e.1,hgo]; simp
       ·rfl
      ·rw [hsl B N E a w ff hf _ _ _ _ hgo st hag]
       simp only [Ab,List.filterMap_cons,Ad,hlast,Bd]
       have:=Gk (c:=c') (wf.tg s _ hgo)
       simp only [Ab] at this
       rw [this,hc]
       exact And.comm
     split at h
     ·rename_i hw
      subst hw
      split at h
      ·rename_i _ i
       simp only [Option.some.injEq,Prod.mk.injEq] at h
       obtain ⟨c2,q1,q2⟩:=wf.gt s _ i hgo rfl
       cases q1
       exact old i c q2 Iff.rfl h.1 h.2.symm
      ·simp only [Option.some.injEq,Prod.mk.injEq] at h
       refine new c _ Iff.rfl rfl rfl (fun i h=>?_) (fun i h=>.inl h) h.1.symm h.2.symm
       simp only [Option.some.injEq] at h
       exact .inr ⟨by rw [<-h,Ad],rfl⟩
     ·rename_i hw
      have hw : want = false:=by simpa using hw
      subst hw
      split at h
      ·rename_i _ i
       simp only [Option.some.injEq,Prod.mk.injEq] at h
       obtain ⟨c2,q1,q2⟩:=wf.gf s _ i hgo rfl
       cases q1
       exact old i (.not c) q2 (by simp [BT.den]) h.1 h.2.symm
      ·simp only [Option.some.injEq,Prod.mk.injEq] at h
       refine new (.not c) _ (by simp [BT.den]) rfl rfl (fun i h=>.inl h) (fun i h=>?_) h.1.symm h.2.symm
       simp only [Option.some.injEq] at h
       exact .inr ⟨by rw [<-h,Ad],rfl⟩
    ·cases h
   ·cases h
  ·cases h
theorem Nn {all : List Oper} {ops : Array Oper} (hops : ops.toList = all) {σ : Sy} {o : Oper} (h : Gf all σ o.guard = some none) {B : Bs} {N : Nat} {E : Env} {a : Act} {w : World} {ff : Nat->SG} {hf : Nat->Hl} (st : St B N E a w ff hf)
  (hag : ∀ j want s,o.guard = some (j,want)->(nth all j).bind (·.dst) = some s->ff s = A6 σ s) : Region.wanted o (yielded ops a.tmps) = false:=by
 unfold Gf at h
 split at h
 ·cases h
 ·rename_i j want hg
  split at h
  ·rename_i oj hj
   split at h
   ·rename_i s hs
    split at h
    ·rename_i tg gt gf b hgo
     split at h
     ·cases h
     ·rename_i hb
      have hag:=hag j want s hg (by rw [hj]; exact hs)
      have hsk:=st.slot s
      rw [hag,A6,hgo] at hsk
      simp only [Option.map_some,Bg] at hsk
      obtain ⟨h1,h2,h3⟩:=hsk
      have hops' : ops[j]? = some oj:=by rw [<-Array.getElem?_toList,hops,<-Ah]; exact hj
      have hv : a.tmps[s]? = some (a.tmps.getD s undef):=by simp [Array.getD,h1]
      simp only [Region.wanted,hg,yielded,hops',Option.bind_some,hs]
      rw [hv]
      by_cases hT : Bd (Ab σ.gm tg)
      ·rw [(h2 hT).bool_inv]
       simpa [BT.den] using hb
      ·rw [h3 hT]
       simp [undef]
    ·split at h<;>split at h<;>simp at h
    ·cases h
   ·cases h
  ·cases h
end
end Go.Sx
namespace Go.Sx
open Go
section
variable {P : Program} {cx : Cx} {σ : Sy} {T : List Nat} {o : Oper} {K : Out->Prop}
theorem Oc {gm : List BT} {g : Option Nat} {T : List Nat} (h : ∀ i,g = some i->∃ c,nth gm i = some c/\c.den = true) (hT : Bd (Ab gm T)) : Bd (Ab gm (g.toList ++ T)):=by
 cases g with
 | none=>simpa using hT
 | some i =>
  obtain ⟨c,h1,h2⟩:=h i rfl
  simp only [Option.toList_some,List.singleton_append,Ab,List.filterMap_cons,h1,Bd]
  exact ⟨h2,hT⟩
theorem Rv (wf : WfG σ) {c x y : Operand} (ho : o.op = .pick c x y) (h : Rw cx σ T c x y K) : ∃ r,K r/\An P cx.gl σ T o r:=by
 unfold Rw at h
 split at h
 ·rename_i s
  have mc : (Operand.tmp s)∈o.op.operands.toList:=by simp [ho,Op.operands]
  have mx : x∈o.op.operands.toList:=by simp [ho,Op.operands]
  have my : y∈o.op.operands.toList:=by simp [ho,Op.operands]
  have cval : ∀ {B : Bs} {N : Nat} {E : Env} {a : Act} {w : World} {ff : Nat->SG} {hf : Nat->Hl} {tg : List Nat} {gt gf : Option Nat} {ct : BT},As σ.fr s = some ⟨tg,gt,gf,.bool ct⟩->Um tg T = true->St B N E a w ff hf->AgS σ ff o->Bd (Ab σ.gm T)->a.eval (.tmp s) = .bool ct.den:=by
   intro B N E a w ff hf tg gt gf ct hgo hs st ag hT
   have h1:=st.slot s
   rw [Ai ag mc s (by simp [Ck]),A6,hgo] at h1
   simp only [Option.map_some,Bg] at h1
   exact (h1.2.1 (Abc hs hT)).bool_inv
  split at h
  ·rename_i tg gt gf hgo
   split at h
   ·rename_i hs
    obtain ⟨v,hv,h⟩:=Fg h
    refine ⟨_,h,fun B N E a w ff hf hg st ag agh hT=>?_⟩
    refine Ac st (v:=a.eval x) ?_ rfl (Aa hv hg st (Ai ag mx) hT)
    simp [execOp,ho,cval hgo hs st ag hT,asBool,BT.den]
   ·exact h.elim
  ·rename_i tg gt gf hgo
   split at h
   ·rename_i hs
    obtain ⟨v,hv,h⟩:=Fg h
    refine ⟨_,h,fun B N E a w ff hf hg st ag agh hT=>?_⟩
    refine Ac st (v:=a.eval y) ?_ rfl (Aa hv hg st (Ai ag my) hT)
    simp [execOp,ho,cval hgo hs st ag hT,asBool,BT.den]
   ·exact h.elim
  ·rename_i tg gt gf ct _ _ hgo
   split at h
   ·rename_i hs
    have ht : ∀ i,gt = some i->ct.den = true->∃ c,nth σ.gm i = some c/\c.den = true:=fun i hi hd=>by
     obtain ⟨c,q1,q2⟩:=wf.gt s _ i hgo hi
     cases q1
     exact ⟨_,q2,hd⟩
    have hf' : ∀ i,gf = some i->ct.den = false->∃ c,nth σ.gm i = some c/\c.den = true:=fun i hi hd=>by
     obtain ⟨c,q1,q2⟩:=wf.gf s _ i hgo hi
     cases q1
     exact ⟨_,q2,by simp [BT.den,hd]⟩
    split at h
    ·rename_i bx h1 h2
     refine ⟨_,h,fun B N E a w ff hf hg st ag agh hT=>?_⟩
     refine Ac st (v:=.bool (ct.den && bx.den)) ?_ rfl (.bool rfl)
     have hc:=cval hgo hs st ag hT
     cases hd : ct.den with
     | true =>
      have:=(Aa h1 hg st (Ai ag mx) (Oc (fun i hi=>ht i hi hd) hT)).bool_inv
      simp [execOp,ho,hc,asBool,hd,this]
     | false =>
      have:=(Aa h2 hg st (Ai ag my) (Oc (fun i hi=>hf' i hi hd) hT)).bool_inv
      simp [execOp,ho,hc,asBool,hd,this,BT.den]
    ·rename_i y' _ h1 h2
     refine ⟨_,h,fun B N E a w ff hf hg st ag agh hT=>?_⟩
     refine Ac st (v:=.bool (ct.den || y'.den)) ?_ rfl (.bool rfl)
     have hc:=cval hgo hs st ag hT
     cases hd : ct.den with
     | true =>
      have:=(Aa h1 hg st (Ai ag mx) (Oc (fun i hi=>ht i hi hd) hT)).bool_inv
      simp [execOp,ho,hc,asBool,hd,this,BT.den]
     | false =>
      have:=(Aa h2 hg st (Ai ag my) (Oc (fun i hi=>hf' i hi hd) hT)).bool_inv
      simp [execOp,ho,hc,asBool,hd,this]
    ·exact h.elim
   ·exact h.elim
  ·exact h.elim
 ·exact h.elim
theorem opIn {ro : Option Nat} {n : Nat} {o : Oper} {a : Act} {w : World} {K : Act->World->Prop} {Q : Exit->Act->World->Prop} (h : o.wp P a w K Q) (hd : ∀ c,o.op≠.defer c) : o.wpIn (Fr ro) n P a w K Q:=by
 refine ⟨fun _ _=>trivial,?_⟩
 rw [show (Fr ro).round = ro from rfl,Oper.semAt_eq _ _ _ hd]
 unfold Oper.wp at h
 generalize (execOp a.eval o).run P w = r at *
 cases r with
 | ok nx w' =>
  cases nx with
  | value v=>exact h
  | skip=>exact h
  | defer d=>exact h
  | enter f args=>exact ⟨by simp [Fr,Fence.wide],(callsIn_wide (n:=n - 1)).2 h⟩
  | row row args=>exact ⟨by simp [Fr,Fence.wide],fun c cs _=>let ⟨v,w1,r,s⟩:=h c cs; ⟨v,w1,r,stepsIn_wide.2 s⟩⟩
  | _=>exact h.elim
 | halt st w' =>
  cases st with
  | panic v=>exact h
  | _=>exact h.elim
def Ui (P : Program) (gl : List (Nat×SV)) (σ : Sy) (T : List Nat) (o : Oper) (r : Out) : Prop :=
 ∀ (B : Bs) (N : Nat) (E : Env) (a : Act) (w : World) (ff : Nat->SG) (hf : Nat->Hl),Em B gl->St B N E a w ff hf->AgS σ ff o->AgH σ.hp hf r->Bd (Ab σ.gm T)->
  ∀ (ro : Option Nat) (nn : Nat) (K' : Act->World->Prop) (Q : Exit->Act->World->Prop),
  (∀ v w' E',Ext E w E' w'->B8 B E' w'->(∀ h,HOk E' w' h (Ha hf r.efs h))->Rel E' w' r.v v->K' (a.put o.dst v) w')->o.wpIn (Fr ro) nn P a w K' Q
theorem An.toY {r : Out} (h : An P cx.gl σ T o r) (hd : ∀ c,o.op≠.defer c) : Ui P cx.gl σ T o r :=
 fun B N E a w ff hf g st ag agh hT _ _ K' Q hK=>opIn (h B N E a w ff hf g st ag agh hT K' Q hK) hd
theorem Mr {op : Op} {h : Nat} {c : Call} (hy : Mt cx σ T op = some (h,c)) : op = .call c/\∃ s,c.callee = .value (.tmp s)/\rd cx σ T (.tmp s) = some (.yv h):=by
 unfold Mt at hy
 split at hy
 ·split at hy
  ·split at hy
   ·rename_i c0 _ s hs _ h0 hr
    simp only [Option.some.injEq,Prod.mk.injEq] at hy
    obtain ⟨rfl,rfl⟩:=hy
    exact ⟨rfl,s,hs,hr⟩
   ·cases hy
  ·cases hy
 ·cases hy
theorem Rel.yv_inv {E : Env} {w : World} {h : Nat} {v : Value} (hr : Rel E w (.yv h) v) : ∃ b,E.β h = some b/\v = .func (.yield b) #[] #[]:=by
 cases hr with
 | ro h=>cases h
 | yv hb hv=>exact ⟨_,hb,hv⟩
theorem Jq (hc : Ay P cx) (hrg : Uh P cx) {h : Nat} {c : Call} (hy : Mt cx σ T o.op = some (h,c)) (hs : K7 cx σ T h c K) : ∃ r,K r/\Ui P cx.gl σ T o r:=by
 obtain ⟨ho,s,hcal,hrd⟩:=Mr hy
 unfold K7 at hs
 split at hs
 ·rename_i vs Y hv hyl
  have hY:=hrg.yl Y (by rw [hyl]; exact List.mem_cons_self ..)
  unfold Fb at hs
  rw [hc.D] at hs
  obtain ⟨vs1,hvs1⟩ : ∃ x,x = loose.looseL (norm.normL dn (.yv h :: vs)):=⟨_,rfl⟩
  simp only [<-hvs1] at hs
  obtain ⟨hs1,hhs1⟩ : ∃ x,x = So σ.hp σ.hp (K3 [] (hsV.hsL vs1)):=⟨_,rfl⟩
  simp only [<-hhs1] at hs
  obtain ⟨ls1,hls1⟩ : ∃ x,x = To dn σ.hp hs1:=⟨_,rfl⟩
  simp only [<-hls1] at hs
  split at hs
  ·rename_i h3
   simp only [Bool.and_eq_true] at h3
   obtain ⟨⟨⟨⟨⟨c1,c2⟩,c3⟩,c4⟩,c5⟩,c6⟩:=h3
   obtain ⟨r,ls',⟨k1,k2⟩,hct⟩:=hY _ _ _ hs
   simp only [Bool.and_eq_true] at k1
   obtain ⟨⟨⟨k3,k4⟩,k5⟩,k6⟩:=k1
   have k3:=Nat.le_of_ble_eq_true k3
   simp only [Ad hs1,Ad ls',Ad σ.hp,A4,Bh,Jd] at k3 k5 k6 k2 hct
   rw [Ad] at c4
   refine ⟨_,k2,fun B N E a w ff hf g st ag agh hT ro nn K' Q hK=>?_⟩
   have hag : ∀ t∈Ck (.tmp s),ff t = A6 σ t:=Ai ag (by simp [ho,Op.operands,Call.operands,hcal])
   have hus:=Dr trivial g st hT c.args.toList c.argTypes.toList vs (fun x hx=>Ai ag (by simp only [ho,Op.operands,Call.operands]; simp; exact .inr (by simpa using hx))) hv
   have hfv:=Aa hrd g st hag hT
   obtain ⟨b,hb,hev⟩:=hfv.yv_inv
   have hG:=Mj (cx:=cx) (G:=YG P) (hp:=σ.hp) (fun us w R R' h hc=>by
    obtain ⟨l,args,r,q1,q2,q3,q4⟩:=hc
    exact ⟨l,args,r,q1,q2,q3,fun ro nn=>(q4 ro nn).mono h⟩) hvs1 hls1 ((Gz _).1 c1) ((Gs _ _).1 c2) c3 ((Fx _ _).1 c4) ((F2 _ _).1 c5) hct k3 k4 ((Fx _ _).1 k5) ((M9 _ _).1 k6) g st.base st.heap agh (.cons hfv hus)
   obtain ⟨l,args,rr,q1,q2,q3,q4⟩:=hG
   rw [hev] at q1
   simp only [List.cons.injEq,Value.func.injEq,Fn.yield.injEq,and_true] at q1
   obtain ⟨rfl,rfl⟩:=q1
   have hrun : (execOp a.eval o).run P w = .ok (.round b rr.fn ((rr.params.zip (⟨c.args.toList.map a.eval⟩ : Array Value)).foldl (fun tmps (t,a)=>tmps.setIfInBounds t a) rr.tmps) rr.assign rr.body) w:=by
    have hargsE : (⟨c.args.toList.map a.eval⟩ : Array Value) = c.args.map a.eval:=by apply Array.ext'; simp
    rw [hargsE]
    have:=run_yield (P:=P) (args:=c.args.map a.eval) q2 (by rw [<-q3]; simp)
    refine Eq.trans ?_ this
    simp [execOp,ho,resolve,hcal,hev,Deferred.ofValue,invoke]
   refine ⟨fun _ _=>trivial,?_⟩
   rw [show (Fr ro).round = ro from rfl,Oper.semAt_eq _ _ _ (fun c' e=>by rw [ho] at e; cases e),hrun,Oper.uponIn_round]
   refine ⟨by simp [Fr,Fence.wide],(q4 ro (nn - 1)).mono ?_⟩
   rintro e w' ⟨v,E',rfl,h1,h2,h3,h4⟩
   exact hK v w' E' h1 h2 h3 h4
  ·exact hs.elim
 ·exact hs.elim
theorem Hx (hc : Ay P cx) (htab : D9 P cx.gl cx.tab) (hrg : Uh P cx) (wf : WfG σ) (h : Mx cx σ T o K) : ∃ r,K r/\((∀ c,o.op≠.defer c)->Ui P cx.gl σ T o r):=by
 unfold Mx at h
 split at h
 ·rename_i c x y ho
  obtain ⟨r,k,l⟩:=Rv wf ho h
  exact ⟨r,k,fun hnd=>l.toY hnd⟩
 ·split at h
  ·rename_i hy
   obtain ⟨r,k,l⟩:=Jq hc hrg hy h
   exact ⟨r,k,fun _=>l⟩
  ·obtain ⟨r,k,l⟩:=Wy hc htab h
   exact ⟨r,k,fun hnd=>l.toY hnd⟩
inductive Yd (P : Program) (gl : List (Nat×SV)) (all : List Oper) : List Oper->Sy->List (Option (Sy×List Nat×Out))->Sy->Prop where
 | nil (σ : Sy) : Yd P gl all [] σ [] σ
 | skip {o : Oper} {os : List Oper} {σ σ' : Sy} {rs : List (Option (Sy×List Nat×Out))} (hg : Gf all σ o.guard = some none) (h : Yd P gl all os ⟨setD σ.fr o.dst none,σ.hp,σ.gm⟩ rs σ') : Yd P gl all (o :: os) σ (none :: rs) σ'
 | step {o : Oper} {os : List Oper} {σ σ1 σ' : Sy} {T : List Nat} {r : Out} {rs : List (Option (Sy×List Nat×Out))} (hg : Gf all σ o.guard = some (some (σ1,T))) (hl : Ui P gl σ1 T o r) (he : In σ1.hp r.efs = true) (hte : (T = []\/r.efs = []\/Bd (Ab σ1.gm T))/\∀ c,o.op≠.defer c)
   (h : Yd P gl all os ⟨setD σ1.fr o.dst (some ⟨T,none,none,r.v⟩),Kt σ1.hp r.efs,σ1.gm⟩ rs σ') : Yd P gl all (o :: os) σ (some (σ1,T,r) :: rs) σ'
theorem WfG.setD {σ : Sy} (wf : WfG σ) (d : Option Nat) (g : Option G) (hg : ∀ g',g = some g'->(∀ i∈g'.tg,i < σ.gm.length)/\g'.gt = none/\g'.gf = none) (hp : List Hl) : WfG ⟨setD σ.fr d g,hp,σ.gm⟩:=by
 have key : ∀ s g',As (Sx.setD σ.fr d g) s = some g'->g = some g'\/As σ.fr s = some g':=by
  intro s g' h
  cases d with
  | none=>exact .inr h
  | some k =>
   simp only [Sx.setD,Bq] at h
   split at h
   ·exact .inl h
   ·exact .inr h
 refine ⟨fun s g' h i hi=>?_,fun s g' i h hi=>?_,fun s g' i h hi=>?_⟩
 ·rcases key s g' h with h | h
  ·exact (hg g' h).1 i hi
  ·exact wf.tg s g' h i hi
 ·rcases key s g' h with h | h
  ·rw [(hg g' h).2.1] at hi; cases hi
  ·exact wf.gt s g' i h hi
 ·rcases key s g' h with h | h
  ·rw [(hg g' h).2.2] at hi; cases hi
  ·exact wf.gf s g' i h hi
def fpR : Option (Sy×List Nat×Out)->FP
 | none=>⟨[],[],[]⟩
 | some (_,_,r)=>U7 r
theorem Cg (hc : Ay P cx) (htab : D9 P cx.gl cx.tab) (hrg : Uh P cx) {all : List Oper} {ops : Array Oper} (hops : ops.toList = all) : ∀ (os : List Oper) (fs : List FP) (σ : Sy) (K : List FP->Sy->Prop),WfG σ->Eb cx all os fs σ K->∃ rs σ',Yd P cx.gl all os σ rs σ'/\WfG σ'/\K (fs ++ rs.map fpR) σ'
 | [],fs,σ,K,wf,h=>⟨[],σ,.nil σ,wf,by simpa [Eb] using h⟩
 | o :: os,fs,σ,K,wf,h=>by
  unfold Eb at h
  split at h
  ·exact h.elim
  ·rename_i hg
   obtain ⟨rs,σ',h1,h2,h3⟩:=Cg hc htab hrg hops os _ _ K (wf.setD o.dst none (by simp) σ.hp) h
   exact ⟨_,σ',.skip hg h1,h2,by simpa [fpR] using h3⟩
  ·rename_i σ1 T hg
   obtain ⟨w1,w2,w3,w4,w5,w6⟩:=Ge hops hg wf
   split at h
   ·rename_i hh c i hy
    have hnd : ∀ c,o.op≠.defer c:=fun c' e=>by rw [(Mr hy).1] at e; cases e
    split at h
    ·rename_i b hb
     rw [hc.D] at h
     have hcond : Ab σ1.gm [i] = [b]:=by simp only [Ab,List.filterMap_cons,hb,List.filterMap_nil]
     by_cases hbd : b.den = true
     ·obtain ⟨r,hk,hl⟩:=Jq hc hrg hy (h.1 hbd)
      split at hk
      ·rename_i he
       obtain ⟨rs,σ',h1,h2,h3⟩:=Cg hc htab hrg hops os _ _ K (w1.setD o.dst (some ⟨[i],none,none,r.v⟩) (by rintro g' ⟨⟩; exact ⟨w5,rfl,rfl⟩) _) hk
       exact ⟨_,σ',.step hg hl he ⟨.inr (.inr (by rw [hcond]; exact ⟨hbd,trivial⟩)),hnd⟩ h1,h2,by simpa [fpR] using h3⟩
      ·exact hk.elim
     ·have hk:=h.2 (by show b.den = false; simpa using hbd)
      obtain ⟨rs,σ',h1,h2,h3⟩:=Cg hc htab hrg hops os _ _ K (w1.setD o.dst (some ⟨[i],none,none,.bool (.l true)⟩) (by rintro g' ⟨⟩; exact ⟨w5,rfl,rfl⟩) _) hk
      exact ⟨_,σ',.step (r:=⟨.bool (.l true),[],[],[]⟩) hg (fun _ _ _ _ _ _ _ _ _ _ _ hT=>by rw [hcond] at hT; exact absurd hT.1 hbd) rfl ⟨.inr (.inl rfl),hnd⟩ h1,h2,by simpa [fpR] using h3⟩
    ·exact h.elim
   split at h
   ·rename_i d i hbo _
    have hnd : ∀ c,o.op≠.defer c:=fun c' e=>by unfold X5 at hbo; rw [e] at hbo; cases hbo
    split at h
    ·rename_i b hb
     rw [hc.D] at h
     have hcond : Ab σ1.gm [i] = [b]:=by simp only [Ab,List.filterMap_cons,hb,List.filterMap_nil]
     by_cases hbd : b.den = true
     ·obtain ⟨r,hk,hl⟩:=Hx hc htab hrg w1 (h.1 hbd)
      split at hk
      ·rename_i he
       obtain ⟨rs,σ',h1,h2,h3⟩:=Cg hc htab hrg hops os _ _ K (w1.setD o.dst (some ⟨[i],none,none,r.v⟩) (by rintro g' ⟨⟩; exact ⟨w5,rfl,rfl⟩) _) hk
       exact ⟨_,σ',.step hg (hl hnd) he ⟨.inr (.inr (by rw [hcond]; exact ⟨hbd,trivial⟩)),hnd⟩ h1,h2,by simpa [fpR] using h3⟩
      ·exact hk.elim
     ·have hk:=h.2 (by show b.den = false; simpa using hbd)
      obtain ⟨rs,σ',h1,h2,h3⟩:=Cg hc htab hrg hops os _ _ K (w1.setD o.dst (some ⟨[i],none,none,d⟩) (by rintro g' ⟨⟩; exact ⟨w5,rfl,rfl⟩) _) hk
      exact ⟨_,σ',.step (r:=⟨d,[],[],[]⟩) hg (fun _ _ _ _ _ _ _ _ _ _ _ hT=>by rw [hcond] at hT; exact absurd hT.1 hbd) rfl ⟨.inr (.inl rfl),hnd⟩ h1,h2,by simpa [fpR] using h3⟩
    ·exact h.elim
   ·rename_i d i j hbo _
    have hnd : ∀ c,o.op≠.defer c:=fun c' e=>by unfold X5 at hbo; rw [e] at hbo; cases hbo
    split at h
    ·rename_i b c hb hcb
     rw [hc.D] at h
     have hcond : Ab σ1.gm [i,j] = [b,c]:=by simp only [Ab,List.filterMap_cons,hb,hcb,List.filterMap_nil]
     by_cases hbd : (b.den && c.den) = true
     ·obtain ⟨r,hk,hl⟩:=Hx hc htab hrg w1 (h.1 hbd)
      have hbd2:=Bool.and_eq_true_iff.1 hbd
      split at hk
      ·rename_i he
       obtain ⟨rs,σ',h1,h2,h3⟩:=Cg hc htab hrg hops os _ _ K (w1.setD o.dst (some ⟨[i,j],none,none,r.v⟩) (by rintro g' ⟨⟩; exact ⟨w5,rfl,rfl⟩) _) hk
       exact ⟨_,σ',.step hg (hl hnd) he ⟨.inr (.inr (by rw [hcond]; exact ⟨hbd2.1,hbd2.2,trivial⟩)),hnd⟩ h1,h2,by simpa [fpR] using h3⟩
      ·exact hk.elim
     ·have hk:=h.2 (by show (b.den && c.den) = false; simpa using hbd)
      obtain ⟨rs,σ',h1,h2,h3⟩:=Cg hc htab hrg hops os _ _ K (w1.setD o.dst (some ⟨[i,j],none,none,d⟩) (by rintro g' ⟨⟩; exact ⟨w5,rfl,rfl⟩) _) hk
      exact ⟨_,σ',.step (r:=⟨d,[],[],[]⟩) hg (fun _ _ _ _ _ _ _ _ _ _ _ hT=>by rw [hcond] at hT; exact absurd (Bool.and_eq_true_iff.2 ⟨hT.1,hT.2.1⟩) hbd) rfl ⟨.inr (.inl rfl),hnd⟩ h1,h2,by simpa [fpR] using h3⟩
    ·exact h.elim
   obtain ⟨r,hk,hl⟩:=Hx hc htab hrg w1 h
   split at hk
   ·rename_i he
    simp only [Bool.and_eq_true,Bool.or_eq_true,List.isEmpty_iff] at he
    obtain ⟨⟨he,hte⟩,hnd⟩:=he
    have hnd : ∀ c,o.op≠.defer c:=fun c e=>by unfold Zk at hnd; rw [e] at hnd; cases hnd
    obtain ⟨rs,σ',h1,h2,h3⟩:=Cg hc htab hrg hops os _ _ K (w1.setD o.dst (some ⟨_,none,none,r.v⟩) (by rintro g' ⟨⟩; exact ⟨w5,rfl,rfl⟩) _) hk
    exact ⟨_,σ',.step hg (hl hnd) he ⟨hte.elim .inl fun h=>.inr (.inl h),hnd⟩ h1,h2,by simpa [fpR] using h3⟩
   ·exact hk.elim
theorem Abf (hp : List Hl) (r : Out) : AgH hp (Ao hp) r :=
 ⟨fun _ _=>rfl,fun _ _ _ cs h=>⟨cs,h,rfl,fun _ _ _=>rfl⟩,fun e _=>by cases e with
  | set h off vs=>exact fun ty cs h=>⟨cs,h,rfl⟩
  | put h hl=>rfl⟩
structure StY (B : Bs) (N : Nat) (E : Env) (a : Act) (w : World) (σ : Sy) : Prop where
 st : St B N E a w (A6 σ) (Ao σ.hp)
 len : σ.fr.length = N
 wf : WfG σ
 ge : ∀ h,B.β0 h≠none\/B.τ0 h≠none\/B.ζ0 h≠none->h < σ.hp.length
theorem Ko (fr : List (Option G)) (d : Option Nat) (g : Option G) : (setD fr d g).length = fr.length:=by
 cases d with
 | none=>rfl
 | some k=>simp [setD,Ar]
theorem len_efH (hp : List Hl) (e : Ef) : hp.length<=(efH hp e).length:=by
 cases e with
 | set h off vs =>
  simp only [efH]
  split
  ·rw [Ar]; simp
  ·exact Nat.le_refl _
 | put h hl =>
  simp only [efH,Af0]
  split
  ·simp
  ·rw [Ar]; simp
theorem Nk : ∀ (es : List Ef) (hp : List Hl),hp.length<=(Kt hp es).length
 | [],_=>Nat.le_refl _
 | e :: es,hp=>Nat.le_trans (len_efH hp e) (Nk es (efH hp e))
theorem Y0 {ro : Option Nat} {n : Nat} {gl : List (Nat×SV)} {all : List Oper} {ops : Array Oper} (hops : ops.toList = all) {B : Bs} {N : Nat} (hg : Em B gl) {Q : Exit->Act->World->Prop} {os : List Oper} {σ σ' : Sy} {rs : List (Option (Sy×List Nat×Out))} (h : Yd P gl all os σ rs σ') :
  ∀ (E : Env) (a : Act) (w : World),StY B N E a w σ->(∀ E' a' w',StY B N E' a' w' σ'->Q .normal a' w')->wpListIn (Fr ro) n P ops Q os a w:=by
 induction h with
 | nil σ=>intro E a w hs hQ; exact hQ E a w hs
 | skip hgd h ih =>
  intro E a w hs hQ
  have hw:=Nn hops hgd hs.st (fun _ _ _ _ _=>rfl)
  unfold wpListIn
  rw [if_neg (by simp [hw])]
  exact ⟨fun _ _=>trivial,ih E _ w ⟨hs.st.setD hs.len _ _ none (by simp) _,by rw [Ko]; exact hs.len,hs.wf.setD _ none (by simp) _,hs.ge⟩ hQ⟩
 | @step o os σ σ1 σ' T r rs hgd hl he hte h ih =>
  intro E a w hs hQ
  obtain ⟨w1,w2,w3,w4,w5,_,_,w6⟩:=Ge hops hgd hs.wf
  have hst : St B N E a w (A6 σ1) (Ao σ1.hp):=by rw [w2,w3]; exact hs.st
  have hwant:=w6 B N E a w _ _ hs.st (fun _ _ _ _ _=>rfl)
  have hlen : σ1.fr.length = N:=by rw [w4]; exact hs.len
  have hge : ∀ h,B.β0 h≠none\/B.τ0 h≠none\/B.ζ0 h≠none->h < (Kt σ1.hp r.efs).length:=fun h hb=>Nat.lt_of_lt_of_le (hs.ge h hb) (by rw [<-w3]; exact Nk _ _)
  unfold wpListIn
  by_cases hT : Bd (Ab σ1.gm T)
  ·rw [if_pos (hwant.2 hT)]
   refine hl B N E a w _ _ hg hst (fun _ _=>rfl) (Abf _ _) hT _ _ _ _ fun v w' E' x1 x2 x3 x4=>?_
   refine ih E' _ w' ⟨?_,by rw [Ko]; exact hlen,w1.setD _ _ (by rintro g' ⟨⟩; exact ⟨w5,rfl,rfl⟩) _,hge⟩ hQ
   have:=hst.step x1 x2 x3
   rw [<-Iu _ _ he] at this
   exact this.setD hlen _ _ _ (by rintro g' ⟨⟩; exact ⟨fun _=>x4,fun h=>absurd hT h⟩) _
  ·rw [if_neg (fun h=>hT (hwant.1 h))]
   refine ⟨fun _ _=>trivial,ih E _ w ⟨?_,by rw [Ko]; exact hlen,w1.setD _ _ (by rintro g' ⟨⟩; exact ⟨w5,rfl,rfl⟩) _,hge⟩ hQ⟩
   have hef : r.efs = []:=by
    rcases hte.1 with h | h | h
    ·subst h; exact absurd trivial hT
    ·exact h
    ·exact absurd h hT
   have:=hst.setD hlen o.dst undef (some ⟨T,none,none,r.v⟩) (by rintro g' ⟨⟩; exact ⟨fun h=>absurd h hT,fun _=>rfl⟩) (Kt σ1.hp r.efs)
   rw [hef] at this ⊢
   exact this
theorem Ul {ro : Option Nat} {n : Nat} {id : Nat} {ops : Array Oper} {Q : Exit->Act->World->Prop} {a : Act} {w : World} (h : wpListIn (Fr ro) n P ops Q ops.toList a w) : (Code.region id ops false).wpIn (Fr ro) n P Q a w:=wpIn_region_list h
theorem Pb : ∀ (fr : List (Option G)) (s : Nat),As (tidy fr) s = match As fr s with
  | some ⟨[],_,_,v⟩=>some ⟨[],none,none,v⟩
  | _=>none
 | [],s=>by simp [tidy,As]
 | g :: fr,s=>by
  have ih:=Pb fr
  cases s with
  | zero =>
   cases g with
   | none=>rfl
   | some g =>
    obtain ⟨tg,gt,gf,v⟩:=g
    cases tg<;>rfl
  | succ s =>
   cases g with
   | none=>exact ih s
   | some g =>
    obtain ⟨tg,gt,gf,v⟩:=g
    cases tg<;>exact ih s
theorem Th : ∀ (fr : List (Option G)),(tidy fr).length = fr.length
 | []=>rfl
 | g :: fr=>by
  cases g with
  | none=>simp [tidy,Th fr]
  | some g =>
   obtain ⟨tg,gt,gf,v⟩:=g
   cases tg<;>simp [tidy,Th fr]
theorem StY.tidy {B : Bs} {N : Nat} {E : Env} {a : Act} {w : World} {σ : Sy} (h : StY B N E a w σ) : StY B N E a w ⟨Sx.tidy σ.fr,σ.hp,[]⟩:=by
 refine ⟨⟨h.st.base,h.st.heap,fun s=>?_,h.st.size,h.st.defers⟩,by rw [Th]; exact h.len,⟨fun s g hs=>?_,fun s g i hs hi=>?_,fun s g i hs hi=>?_⟩,h.ge⟩
 ·have h1:=h.st.slot s
  simp only [A6,Pb] at h1 ⊢
  cases hs : As σ.fr s with
  | none=>trivial
  | some g =>
   obtain ⟨tg,gt,gf,v⟩:=g
   rw [hs] at h1
   cases tg with
   | nil=>exact h1
   | cons i tg=>trivial
 all_goals
  simp only [Pb] at hs
  split at hs
  ·cases hs; simp at *
  ·cases hs
end
end Go.Sx
