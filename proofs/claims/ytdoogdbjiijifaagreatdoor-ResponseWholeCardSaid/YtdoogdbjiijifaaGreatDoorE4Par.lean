/- Part of the proofs of the statements about responses and messages (layers 9 and 10): a symbolic executor over the code, that it is sound, and contracts of functions; it has no conditions of its own. -/
import Derived.Test.YtdoogdbjiijifaaGreatDoorE4Paq
namespace Go.Sx
open Go
section
variable {P : Program} {cx : Cx}
def exK (K : Ex->Sy->Prop) (σ : Sy) : Exit->Prop
 | .normal=>K .normal σ
 | .exit i=>K (.exit i) σ
 | .goto l=>K (.goto l) σ
 | .ret=>K .ret σ
 | _=>False
def Pq (P : Program) : Prop:=∀ (ro : Option Nat) (nn : Nat) (gl : List (Nat×SV)) (id : Nat) (ops : Array Oper) (B : Bs) (N : Nat) (σ σ' : Sy) (rs : List (Option (Sy×List Nat×Out))),Em B gl->Yd P gl ops.toList ops.toList σ rs σ'->Gj ops.toList 0 = true->
 Tk ops.toList (Hq ops.toList []) ops.toList (rs.map fpR) 0 = true->∀ (Q : Exit->Act->World->Prop) (E : Env) (a : Act) (w : World),StY B N E a w σ->(∀ E' a' w',StY B N E' a' w' σ'->Q .normal a' w')->(Code.region id ops true).wpIn (Fr ro) nn P Q a w
theorem Fh {p : Nat->Prop} (h : ∃ n,p n) : ∃ n,p n/\∀ m,p m->n<=m:=by
 obtain ⟨n,hn⟩:=h
 induction n using Nat.strongRecOn with
 | _ n ih =>
  by_cases hm : ∃ m,m < n/\p m
  ·obtain ⟨m,h1,h2⟩:=hm; exact ih m h1 h2
  ·exact ⟨n,hn,fun m h=>Nat.le_of_not_lt fun hlt=>hm ⟨m,hlt,h⟩⟩
theorem Yg {ro : Option Nat} {nn : Nat} {c : Code} {Q : Exit->Act->World->Prop} {a : Act} {w : World} (R : Nat->Act->World->Prop) (h0 : ∃ n,R n a w)
  (round : ∀ n a w,R n a w->c.wpIn (Fr ro) nn P (Exit.then (fun a' w'=>∃ n',n' < n/\R n' a' w') Q) a w) : (Code.loop c).wpIn (Fr ro) nn P Q a w:=by
 classical
 let μ : Act->World->Nat:=fun a w=>if h : ∃ n,R n a w then Classical.choose (Fh h) else 0
 have hμ : ∀ a w,(∃ n,R n a w)->R (μ a w) a w/\∀ m,R m a w->μ a w<=m:=by
  intro a w h
  have : μ a w = Classical.choose (Fh h):=by simp only [μ]; rw [dif_pos h]
  rw [this]
  exact Classical.choose_spec (Fh h)
 refine wpIn_loop (fun a w=>∃ n,R n a w) μ h0 fun a w hI=>?_
 obtain ⟨h1,h2⟩:=hμ a w hI
 refine wpIn_mono (round _ a w h1) fun e a' w' hq=>?_
 cases e with
 | normal =>
  obtain ⟨n',hlt,hr⟩:=hq
  exact ⟨⟨n',hr⟩,Nat.lt_of_le_of_lt ((hμ a' w' ⟨n',hr⟩).2 n' hr) hlt⟩
 | _=>exact hq
def Cm (n : Nat) (E : Env) : Env:=⟨fun h=>if h < n then E.β h else none,fun h=>if h < n then E.τ h else none,fun b=>(E.O b).bind fun h=>if h < n then some h else none,fun h=>if h < n then E.κ h else none,fun h=>if h < n then E.ζ h else none,E.I⟩
theorem Fj (n : Nat) : ∀ (cs : List SV),Bo.belowL n cs = true↔∀ c∈cs,Bo n c = true
 | []=>by simp [Bo.belowL]
 | c :: cs=>by simp [Bo.belowL,Fj n cs]
theorem Rel.cut {E : Env} {w : World} {n : Nat} {s : SV} {v : Value} (h : Rel E w s v) (hb : Bo n s = true) : Rel (Cm n E) w s v:=by
 induction h with
 | ro h=>exact .ro h
 | @ptr h off b v hb' hv =>
  simp only [Bo,Nat.blt_eq] at hb
  exact .ptr (by simp [Cm,hb]; exact hb') hv
 | @gsl nl m sz f h v hr ht =>
  simp only [Bo,Nat.blt_eq] at hb
  obtain ⟨a,k,c,t1,t2⟩:=ht
  exact .gsl hr ⟨a,k,c,by simp [Cm,hb]; exact t1,t2⟩
 | mrow hb' hm hv =>
  simp only [Bo,Nat.blt_eq] at hb
  exact .mrow (by simp [Cm,hb]; exact hb') (by simp [Cm,hb]; exact hm) hv
 | mptr hb' hz hv =>
  simp only [Bo,Nat.blt_eq] at hb
  exact .mptr (by simp [Cm,hb]; exact hb') (by simp [Cm,hb]; exact hz) hv
 | osl ht hk =>
  simp only [Bo,Nat.blt_eq] at hb
  obtain ⟨a,k,c,t1,t2⟩:=hk
  exact .osl ht ⟨a,k,c,by simp [Cm,hb]; exact t1,t2⟩
 | optr hv ho =>
  simp only [Bo,Nat.blt_eq] at hb
  obtain ⟨a,k,c,sz,t1,t2,t3⟩:=ho
  exact .optr hv ⟨a,k,c,sz,by simp [Cm,hb]; exact t1,by simp [Cm,hb]; exact t2,t3⟩
 | tsl ht hk =>
  simp only [Bo,Nat.blt_eq] at hb
  obtain ⟨a,k,c,sz,t1,t2,t3⟩:=hk
  exact .tsl ht ⟨a,k,c,sz,by simp [Cm,hb]; exact t1,by simp [Cm,hb]; exact t2,t3⟩
 | mapv hb' hv =>
  simp only [Bo,Nat.blt_eq] at hb
  exact .mapv (by simp [Cm,hb]; exact hb') hv
 | bsl hb' hn hv =>
  simp only [Bo,Nat.blt_eq] at hb
  exact .bsl (by simp [Cm,hb]; exact hb') hn hv
 | vsl ht hk =>
  simp only [Bo,Nat.blt_eq] at hb
  obtain ⟨a,k,c,t1,t2⟩:=hk
  exact .vsl ht ⟨a,k,c,by simp [Cm,hb]; exact t1,t2⟩
 | yv hb' hv =>
  simp only [Bo,Nat.blt_eq] at hb
  exact .yv (by simp [Cm,hb]; exact hb') hv
 | agg hl _ ih =>
  simp only [Bo] at hb
  exact .agg hl fun i s v h1 h2=>ih i s v h1 h2 ((Fj n _).1 hb s (List.mem_of_getElem? h1))
 | tup hl _ ih =>
  simp only [Bo] at hb
  exact .tup hl fun i s v h1 h2=>ih i s v h1 h2 ((Fj n _).1 hb s (List.mem_of_getElem? h1))
 | clo hl _ ih =>
  simp only [Bo] at hb
  exact .clo hl fun i s v h1 h2=>ih i s v h1 h2 ((Fj n _).1 hb s (List.mem_of_getElem? h1))
 | bnd hl _ ih =>
  simp only [Bo] at hb
  exact .bnd hl fun i s v h1 h2=>ih i s v h1 h2 ((Fj n _).1 hb s (List.mem_of_getElem? h1))
theorem Mn {n : Nat} : ∀ {ls : List Hl},Dk n ls = true->∀ {i : Nat} {ty : TypeId} {cs : List SV},ls[i]? = some (.blk ty cs)->∀ c∈cs,Bo n c = true
 | [],_,i,ty,cs,h=>by simp at h
 | l :: ls,hp,i,ty,cs,h=>by
  cases i with
  | zero =>
   simp at h
   subst h
   simp only [Dk,Bool.and_eq_true,Bo] at hp
   exact (Fj n cs).1 hp.1
  | succ i =>
   simp at h
   cases l<;>simp only [Dk,Bool.and_eq_true] at hp<;>first | exact Mn hp h | exact Mn hp.2 h
theorem Mo {n s : Nat} {v : SV} : ∀ {fr : List (Nat×Option SV)},Mp n fr = true->(s,some v)∈fr->Bo n v = true
 | [],_,h=>by simp at h
 | (_,some u) :: l,hr,h=>by
  simp only [Mp,Bool.and_eq_true] at hr
  simp only [List.mem_cons,Prod.mk.injEq,Option.some.injEq] at h
  rcases h with ⟨_,rfl⟩ | h
  ·exact hr.1
  ·exact Mo hr.2 h
 | (_,none) :: l,hr,h=>by
  simp only [Mp] at hr
  simp only [List.mem_cons,Prod.mk.injEq,reduceCtorEq,and_false,false_or] at h
  exact Mo hr h
theorem T6 {n : Nat} : ∀ {es : List (Int×SV)},X6 n es = true->∀ p∈es,Bo n p.2 = true
 | [],_,p,h=>by simp at h
 | (k,v) :: es,hb,p,h=>by
  simp only [X6,Bool.and_eq_true] at hb
  rw [List.mem_cons] at h
  rcases h with rfl | h
  ·exact hb.1
  ·exact T6 hb.2 p h
theorem Mm {n : Nat} : ∀ {ls : List Hl},Dk n ls = true->∀ {i : Nat} {es : List (Int×SV)},ls[i]? = some (.mint es)->∀ p∈es,Bo n p.2 = true
 | [],_,i,es,h=>by simp at h
 | l :: ls,hp,i,es,h=>by
  cases i with
  | zero =>
   simp at h
   subst h
   simp only [Dk,Bool.and_eq_true] at hp
   exact T6 hp.1
  | succ i =>
   simp at h
   cases l<;>simp only [Dk,Bool.and_eq_true] at hp<;>first | exact Mm hp h | exact Mm hp.2 h
theorem Ml {n : Nat} : ∀ {ls : List Hl},Dk n ls = true->∀ {i : Nat} {c : LC} {fr : List (Nat×Option SV)} {st : Nat} {pd : Option Jp},ls[i]? = some (.lrec c fr st pd)->Mp n fr = true
 | [],_,i,c,fr,st,pd,h=>by simp at h
 | l :: ls,hp,i,c,fr,st,pd,h=>by
  cases i with
  | zero =>
   simp at h
   subst h
   simp only [Dk,Bool.and_eq_true] at hp
   exact hp.1
  | succ i =>
   simp at h
   cases l<;>simp only [Dk,Bool.and_eq_true] at hp<;>first | exact Ml hp h | exact Ml hp.2 h
theorem Wb (D : Dn) : ∀ (ls : List Hl) (i : Nat),(Fz D ls)[i]? = (ls[i]?).map fun l=>match l with
  | .blk ty cs=>.blk ty (norm.normL D cs)
  | .tail ty n sz=>.tail ty (.a (D.i n)) sz
  | .row ty n sz f=>.row ty (.a (D.i n)) sz f
  | .own ty n sz gr f=>.own ty (.a (D.i n)) sz gr f
  | .vec ty n g sz f=>.vec ty (.a (D.i n)) (.a (D.i g)) sz f
  | l=>l
 | [],i=>by simp [Fz]
 | l :: ls,i=>by
  cases i with
  | zero=>cases l<;>simp [Fz]
  | succ i=>cases l<;>simp [Fz,Wb D ls i]
theorem Vu (D : Dn) : ∀ (ls : List Hl),(Fz D ls).length = ls.length
 | []=>rfl
 | l :: ls=>by cases l<;>simp [Fz,Vu D ls]
theorem Iv : ∀ (l : List (Nat×Option SV)) (fr : List (Option G)) (s : Nat) (g : G),(∀ s,As fr s = none)->As (Nb l fr) s = some g->g.tg = []/\g.gt = none/\g.gf = none/\∃ v,(s,some v)∈l/\g.v = v:=by
 have key : ∀ (l : List (Nat×Option SV)) (fr : List (Option G)) (s : Nat) (g : G),As (Nb l fr) s = some g->As fr s = some g\/(g.tg = []/\g.gt = none/\g.gf = none/\∃ v,(s,some v)∈l/\g.v = v):=by
  intro l
  induction l with
  | nil=>intro fr s g h; exact .inl h
  | cons p l ih =>
   obtain ⟨i,v⟩:=p
   intro fr s g h
   rcases ih _ s g h with h | ⟨h1,h2,h3,v',h4,h5⟩
   ·rw [Bq] at h
    split at h
    ·rename_i e
     cases v with
     | none=>cases h
     | some v=>cases h; exact .inr ⟨rfl,rfl,rfl,v,by rw [e.1]; exact List.mem_cons_self ..,rfl⟩
    ·exact .inl h
   ·exact .inr ⟨h1,h2,h3,v',List.mem_cons_of_mem _ h4,h5⟩
 intro l fr s g hfr h
 rcases key l fr s g h with h | h
 ·rw [hfr] at h; cases h
 ·exact h
theorem G8 {α : Type} : ∀ (l : List α) (s : Nat),As (Kz l) s = none
 | [],s=>by simp [Kz,As]
 | _ :: l,0=>rfl
 | _ :: l,s + 1=>G8 l s
theorem Vv {α : Type} : ∀ (l : List α),(Kz l).length = l.length
 | []=>rfl
 | _ :: l=>by simp [Kz,Vv l]
theorem Ti : ∀ (l : List (Nat×Option SV)) (fr : List (Option G)),(Nb l fr).length = fr.length
 | [],_=>rfl
 | (i,v) :: l,fr=>by simp [Nb,Ti l,Ar]
theorem Jc {D : Dn} {n : Nat} {fr : List (Option G)} {s : Nat} {v : SV} : ∀ (keep : List Nat),(s,some v)∈Jz keep (Fy D n fr keep)->∃ g,As fr s = some g/\g.tg = []/\Bo n g.v = true/\v = norm D g.v
 | [],h=>by simp [Jz] at h
 | i :: keep,h=>by
  simp only [Fy,Jz,List.mem_cons] at h
  rcases h with h | h
  ·simp only [Prod.mk.injEq] at h
   obtain ⟨rfl,h⟩:=h
   split at h
   ·rename_i gt gf v' hg
    split at h
    ·rename_i hb
     cases h
     exact ⟨_,hg,rfl,hb,rfl⟩
    ·cases h
   ·cases h
  ·exact Jc keep h
theorem StY.head {B : Bs} {N : Nat} {E : Env} {a : Act} {w : World} {σ : Sy} (h : StY B N E a w σ) {n : Nat} {keep : List Nat} {fr0 : List (Option G)} (hfr : fr0.length = N) (hb : Dk n (Ba n σ.hp) = true) (hn : ∀ h,B.β0 h≠none\/B.τ0 h≠none\/B.ζ0 h≠none->h < n) :
  StY B N (Cm n E) a w ⟨Nb (Jz keep (Fy dn n σ.fr keep)) (Kz fr0),Fz dn (Ba n σ.hp),[]⟩:=by
 have hbase:=h.st.base
 refine ⟨⟨⟨hbase.os,hbase.tape,hbase.output,hbase.size,hbase.old,hbase.I0,hbase.Ibd,hbase.Inew,fun b k hO=>?_,⟨fun k b hk=>by simp only [Cm,if_pos (hn k (.inl (by rw [hk]; simp)))]; exact hbase.β0.β k b hk,fun k v hk=>by simp only [Cm,if_pos (hn k (.inr (.inl (by rw [hk]; simp))))]; exact hbase.β0.τ k v hk,fun k z hk=>by simp only [Cm,if_pos (hn k (.inr (.inr (by rw [hk]; simp))))]; exact hbase.β0.ζ k z hk⟩⟩,fun k=>?_,fun s=>?_,h.st.size,h.st.defers⟩,by rw [Ti,Vv]; exact hfr,⟨fun s g hs=>?_,fun s g i hs hi=>?_,fun s g i hs hi=>?_⟩,fun k hk=>?_⟩
 ·have hO : (E.O b).bind (fun h=>if h < n then some h else none) = some k:=hO
  cases hEO : E.O b with
  | none=>rw [hEO] at hO; cases hO
  | some k' =>
   rw [hEO] at hO
   simp only [Option.bind_some] at hO
   split at hO
   ·cases hO; exact hbase.Obd b k hEO
   ·cases hO
 ·rw [A4] at hb ⊢
  simp only [Ao,Ah,Wb]
  by_cases hk : k < n
  ·have hkk:=h.st.heap k
   simp only [Ao,Ah] at hkk
   rw [List.getElem?_take,if_pos hk]
   have hO : ∀ b,E.O b = some k->(Cm n E).O b = some k:=fun b hb=>by simp [Cm,hb,hk]
   cases hl : σ.hp[k]? with
   | none =>
    rw [hl] at hkk
    simp only [Option.map_none,Option.getD_none]
    obtain ⟨q1,q2,q3,q4⟩:=hkk
    exact ⟨by simp only [Cm,if_pos hk]; exact q1,by simp only [Cm,if_pos hk]; exact q2,by simp only [Cm,if_pos hk]; exact q3,by simp only [Cm,if_pos hk]; exact q4⟩
   | some l =>
    rw [hl] at hkk
    simp only [Option.map_some,Option.getD_some] at hkk ⊢
    cases l with
    | fresh =>
     obtain ⟨q1,q2,q3,q4⟩:=hkk
     exact ⟨by simp only [Cm,if_pos hk]; exact q1,by simp only [Cm,if_pos hk]; exact q2,by simp only [Cm,if_pos hk]; exact q3,by simp only [Cm,if_pos hk]; exact q4⟩
    | gone=>trivial
    | blk ty cs =>
     obtain ⟨b,C,k1,k2,k3,k4,k5,k6⟩:=hkk.blk_inv
     have hbl : ∀ c∈cs,Bo n c = true:=Mn hb (i:=k) (by rw [List.getElem?_take,if_pos hk]; exact hl)
     have hn : Az (Cm n E) w (norm.normL dn cs) C.toList:=by
      rw [Ca]
      exact k4.map _ fun s v hs h=>(h.cut (hbl s hs)).norm
     exact ⟨b,C,by simp only [Cm,if_pos hk]; exact k1,hO b k2,k3,by have:=hn.1; simpa using this.symm,fun i s v p q=>hn.2 i s v p (by simpa using q),fun v hv=>k5 v (by simpa using hv),k6⟩
    | tail ty m sz =>
     obtain ⟨v,m',xs,k1,k2,k3,k4,k5⟩:=hkk
     exact ⟨v,m',xs,by simp only [Cm,if_pos hk]; exact k1,k2,k3,k4,fun b hb=>⟨hO b (k5 b hb).1,(k5 b hb).2⟩⟩
    | row ty m sz f =>
     obtain ⟨b,C,m',k1,k2,kz,k3,k4,k5,k6,k7,k8⟩:=hkk
     exact ⟨b,C,m',by simp only [Cm,if_pos hk]; exact k1,by simp only [Cm,if_pos hk]; exact k2,by simp only [Cm,if_pos hk]; exact kz,hO b k3,k4,k5,k6,k7,k8⟩
    | own ty m sz gr f =>
     obtain ⟨v,m',xs,k1,kz,k2,k3,k4,k5,k6⟩:=hkk
     exact ⟨v,m',xs,by simp only [Cm,if_pos hk]; exact k1,by simp only [Cm,if_pos hk]; exact kz,k2,k3,k4,k5,fun b hb=>⟨hO b (k6 b hb).1,(k6 b hb).2⟩⟩
    | bld T e s =>
     obtain ⟨b,p,v,k1,k2,k3,k4,k5,k6,k7,k8⟩:=hkk
     exact ⟨b,p,v,by simp only [Cm,if_pos hk]; exact k1,hO b k2,k3,k4,k5,k6,k7,fun g hg=>⟨hO g (k8 g hg).1,(k8 g hg).2⟩⟩
    | vec ty m g sz f =>
     obtain ⟨a,c,m',G,xs,k1,k2,k3,k4,k5,k6,k7⟩:=hkk
     exact ⟨a,c,m',G,xs,by simp only [Cm,if_pos hk]; exact k1,k2,k3,k4,k5,k6,fun b hb=>⟨hO b (k7 b hb).1,(k7 b hb).2⟩⟩
    | mset F =>
     obtain ⟨b,es,clock,k1,k2,k3,k4,k5,k6⟩:=hkk
     exact ⟨b,es,clock,by simp only [Cm,if_pos hk]; exact k1,hO b k2,k3,k4,k5,k6⟩
    | mint es =>
     obtain ⟨b,ms,clock,k1,k2,k3,k4,k5,k6⟩:=hkk
     have hbl:=Mm hb (i:=k) (by rw [List.getElem?_take,if_pos hk]; exact hl)
     exact ⟨b,ms,clock,by simp only [Cm,if_pos hk]; exact k1,hO b k2,k3,k4,fun i p e hp he=>⟨(k5 i p e hp he).1,(k5 i p e hp he).2.cut (hbl p (List.mem_of_getElem? hp))⟩,k6⟩
    | lrec c fr st pd =>
     obtain ⟨b,rr,k1,k2,k3,k4,k5,k6⟩:=hkk
     have hbl:=Ml hb (i:=k) (by rw [List.getElem?_take,if_pos hk]; exact hl)
     exact ⟨b,rr,by simp only [Cm,if_pos hk]; exact k1,hO b k2,k3,k4,fun s v hm=>⟨(k5 s v hm).1,(k5 s v hm).2.cut (Mo hbl hm)⟩,k6⟩
  ·rw [List.getElem?_take,if_neg hk]
   simp only [Option.map_none,Option.getD_none]
   exact ⟨by simp [Cm,hk],by simp [Cm,hk],by simp [Cm,hk],by simp [Cm,hk]⟩
 ·simp only [A6]
  cases hs : As (Nb (Jz keep (Fy dn n σ.fr keep)) (Kz fr0)) s with
  | none=>trivial
  | some g =>
   obtain ⟨g1,_,_,v,g4,g5⟩:=Iv _ _ s g (G8 fr0) hs
   obtain ⟨g',q1,q2,q3,q4⟩:=Jc keep g4
   have hsl:=h.st.slot s
   simp only [A6,q1,Option.map_some,Bg,q2,Ab,List.filterMap_nil,Bd] at hsl
   obtain ⟨s1,s2,_⟩:=hsl
   simp only [Option.map_some,Bg,g1,Ab,List.filterMap_nil,Bd]
   refine ⟨s1,fun _=>?_,fun h=>absurd trivial h⟩
   rw [g5,q4]
   exact ((s2 trivial).cut q3).norm
 ·obtain ⟨g1,_⟩:=Iv _ _ s g (G8 fr0) hs
  rw [g1]; simp
 ·obtain ⟨_,g2,_⟩:=Iv _ _ s g (G8 fr0) hs
  rw [g2] at hi; cases hi
 ·obtain ⟨_,_,g3,_⟩:=Iv _ _ s g (G8 fr0) hs
  rw [g3] at hi; cases hi
 ·rw [Vu,A4,List.length_take]
  have h1:=hn k hk
  have h2:=h.ge k hk
  omega
theorem Ve {α : Type} (l : List α) : Ba (Ae l) l = l:=by rw [A4,Ad,List.take_length]
theorem StY.know {B : Bs} {N : Nat} {E : Env} {a : Act} {w : World} {σ : Sy} (h : StY B N E a w σ) {c : Operand} {bt : BT} {b : Bool} (hr : rd cx σ [] c = some (.bool bt)) (hv : a.eval c = .bool bt.den) (hb : bt.den = b) : StY B N E a w (know σ c b):=by
 cases c with
 | tmp s =>
  simp only [rd] at hr
  split at hr
  ·rename_i g hg
   have hlt : s < σ.fr.length:=by
    rcases Nat.lt_or_ge s σ.fr.length with h | h
    ·exact h
    ·rw [Dm,List.getElem?_eq_none h] at hg; cases hg
   have hget : ∀ k,As (Aw σ.fr s (some ⟨[],none,none,.bool (.l b)⟩)) k = if k = s then some ⟨[],none,none,.bool (.l b)⟩ else As σ.fr k:=fun k=>by
    rw [Bq]
    by_cases e : k = s
    ·rw [if_pos ⟨e,hlt⟩,if_pos e]
    ·rw [if_neg (fun h=>e h.1),if_neg e]
   refine ⟨⟨h.st.base,h.st.heap,fun k=>?_,h.st.size,h.st.defers⟩,by show (Aw σ.fr s _).length = N; rw [Ar,List.length_set]; exact h.len,⟨fun k g' hk i hi=>?_,fun k g' i hk hi=>?_,fun k g' i hk hi=>?_⟩,h.ge⟩
   ·simp only [A6,Sx.know,hget]
    by_cases e : k = s
    ·subst e
     rw [if_pos rfl]
     have hv : a.tmps.getD k undef = .bool bt.den:=hv
     refine ⟨by rw [h.st.size,<-h.len]; exact hlt,fun _=>?_,fun hn=>absurd trivial hn⟩
     rw [hv]
     exact .bool hb.symm
    ·rw [if_neg e]
     exact h.st.slot k
   ·have hk : As (Aw σ.fr s (some ⟨[],none,none,.bool (.l b)⟩)) k = some g':=hk
    rw [hget] at hk
    split at hk
    ·cases hk; cases hi
    ·exact h.wf.tg k g' hk i hi
   ·have hk : As (Aw σ.fr s (some ⟨[],none,none,.bool (.l b)⟩)) k = some g':=hk
    rw [hget] at hk
    split at hk
    ·cases hk; cases hi
    ·exact h.wf.gt k g' i hk hi
   ·have hk : As (Aw σ.fr s (some ⟨[],none,none,.bool (.l b)⟩)) k = some g':=hk
    rw [hget] at hk
    split at hk
    ·cases hk; cases hi
    ·exact h.wf.gf k g' i hk hi
  ·cases hr
 | const _=>exact h
 | global _=>exact h
 | func _=>exact h
theorem Ei {b : Frame} {a : Act} {k : List Item} {cs : List Frame} {w : World} {c : Code} : step P (lone (b.atR a (.code (.scope c) :: k)) cs w) = .next (lone (b.atR a (.code c :: .inScope c :: k)) cs w) :=
 step_lone_go (by simp [stepG,stepG.exec,Frame.atR])
theorem Uo {b : Frame} {a : Act} {k : List Item} {cs : List Frame} {w : World} {c : Code} : step P (lone (b.atR a (.inScope c :: k)) cs w) = .next (lone (b.atR a k) cs w) :=
 step_lone_go (by simp [stepG,stepG.exec,Frame.atR])
theorem Lh {F : Fence} {n : Nat} {Q : Exit->Act->World->Prop} {a : Act} {w : World} {c : Code} (h : c.wpIn F n P (Exit.noGoto Q) a w) : (Code.scope c).wpIn F n P Q a w:=by
 intro b k cs hro hb hr
 have h0 : (lone (b.atR a (.code (.scope c) :: k)) cs w).fenced P F:=fenced_calm hb hr rfl
 obtain ⟨e,a₁,w₁,hq,harr⟩:=h b (.inScope c :: k) cs hro hb hr
 cases e with
 | normal=>exact ⟨.normal,a₁,w₁,hq,.head h0 Ei (StepsIn.trans harr (.one (fenced_calm hb hr rfl) Uo))⟩
 | exit id =>
  have hx : exitTo id (.inScope c :: k) = exitTo id k:=by simp [exitTo]
  exact ⟨.exit id,a₁,w₁,hq,fun k' hk=>.head h0 Ei (harr.1 k' (by rw [hx]; exact hk)),fun hr' hk=>let ⟨k₁,h1,h2⟩:=harr.2 hr' (by rw [hx]; exact hk); ⟨k₁,h1,.head h0 Ei h2⟩⟩
 | goto l=>exact hq.elim
 | ret=>exact ⟨_,a₁,w₁,hq,.of_steps (.one h0 Ei) harr⟩
 | panic ch=>exact ⟨_,a₁,w₁,hq,.of_steps (.one h0 Ei) harr⟩
 | outgrown=>exact ⟨_,a₁,w₁,hq,.of_steps (.one h0 Ei) harr⟩
end
end Go.Sx
