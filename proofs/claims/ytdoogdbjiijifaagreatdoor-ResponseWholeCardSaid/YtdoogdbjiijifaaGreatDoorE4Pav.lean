/- Part of the proofs of the statements about responses and messages (layers 9 and 10): a symbolic executor over the code, that it is sound, and contracts of functions; it has no conditions of its own. -/
import Derived.Below
import Derived.Test.YtdoogdbjiijifaaGreatDoorE4Pau
import Derived.Test.YtdoogdbjiijifaaGreatDoorE4Paq
namespace Go.Sx
open Go
section
variable {P : Program} {ops : Array Oper} {gl : List (Nat×SV)} {B : Bs} {N : Nat} {σ σ' : Sy} {rs : List Rec}
theorem Oo {listed : Array Bool} {i : Nat} : i∈Region.ready .any ops listed↔∃ o,ops[i]? = some o/\listed.getD i true = false/\∀ x∈C6 o.after.toList,listed.getD x false = true:=by
 unfold Region.ready
 simp only [List.mem_filter,List.mem_range,Bool.and_eq_true,Bool.not_eq_true']
 constructor
 ·rintro ⟨h1,h2,h3⟩
  have ho : ops[i]? = some ops[i]:=by simp [h1]
  rw [ho] at h3
  refine ⟨_,ho,h2,fun x hx=>?_⟩
  obtain ⟨e,he,hb,rfl⟩:=S3 hx
  simp only [Option.map_some,Option.getD_some,Array.all_eq_true_iff_forall_mem] at h3
  have:=h3 e (by simpa using he)
  simpa [hb] using this
 ·rintro ⟨o,ho,h2,h3⟩
  refine ⟨(Array.getElem?_eq_some_iff.1 ho).1,h2,?_⟩
  rw [ho]
  simp only [Option.map_some,Option.getD_some,Array.all_eq_true_iff_forall_mem]
  intro e he
  cases hb : Region.binds .any e with
  | false=>simp
  | true=>simp only [Bool.not_true,Bool.false_or]; exact h3 _ (T2 (by simpa using he) hb)
def left (n : Nat) (listed : Array Bool) : Nat:=((List.range n).filter fun i=>!listed.getD i true).length
theorem Ajg {n i : Nat} {listed : Array Bool} (hi : i < n) (hs : listed.size = n) (h : listed.getD i true = false) : left n (listed.setIfInBounds i true) + 1 = left n listed:=by
 have hget : ∀ j,(listed.setIfInBounds i true).getD j true = if j = i then true else listed.getD j true:=by
  intro j
  simp only [Array.getD_eq_getD_getElem?]
  by_cases e : i = j
  ·subst e; rw [if_pos rfl,Array.getElem?_setIfInBounds_self_of_lt (by omega)]; rfl
  ·rw [if_neg (fun h=>e h.symm),Array.getElem?_setIfInBounds_ne e]
 unfold left
 have key : ∀ (l : List Nat),l.Nodup->i∈l->(l.filter fun j=>!(listed.setIfInBounds i true).getD j true).length + 1 = (l.filter fun j=>!listed.getD j true).length:=by
  intro l
  induction l with
  | nil=>intro _ h; cases h
  | cons j l ih =>
   intro hn hm
   rw [List.nodup_cons] at hn
   simp only [List.filter_cons,hget j]
   by_cases e : j = i
   ·subst e
    rw [if_pos rfl]
    simp only [Bool.not_true,Bool.false_eq_true,if_false,h,Bool.not_false,if_true,List.length_cons]
    congr 2
    refine List.filter_congr fun k hk=>?_
    rw [hget k,if_neg (fun e=>hn.1 (by rw [<-e]; exact hk))]
   ·rw [if_neg e]
    have:=ih hn.2 (by rcases List.mem_cons.1 hm with h | h; exact absurd h.symm e; exact h)
    split
    ·simp only [List.length_cons]; omega
    ·exact this
 exact key _ List.nodup_range (by simpa using hi)
theorem Agl {n : Nat} {listed : Array Bool} (h : left n listed = 0) : ∀ i,i < n->listed.getD i true = true:=by
 intro i hi
 unfold left at h
 have:=List.eq_nil_of_length_eq_zero h
 rw [List.filter_eq_nil_iff] at this
 have:=this i (by simpa using hi)
 simpa using this
theorem Adc (hok : Gj ops.toList 0 = true) {listed : Array Bool} (hs : listed.size = ops.size) (h : Region.ready .any ops listed = []) : ∀ i,i < ops.size->listed.getD i true = true:=by
 intro i
 induction i using Nat.strongRecOn with
 | _ i ih =>
  intro hi
  cases hl : listed.getD i true with
  | true=>rfl
  | false =>
   have hm : i∈Region.ready .any ops listed:=by
    refine Oo.2 ⟨ops[i],by simp [hi],hl,fun x hx=>?_⟩
    have hlt:=Kv hok (j:=i) (o:=ops[i]) (by simp [hi]) x hx
    have:=ih x (by omega) (by omega)
    rw [Array.getD_eq_getD_getElem?] at this ⊢
    rw [Array.getElem?_eq_getElem (by omega)] at this ⊢
    simpa using this
   rw [h] at hm
   cases hm
def sOf (listed : Array Bool) : Nat->Bool:=fun i=>listed.getD i false
theorem Ah8 {n : Nat} {listed : Array Bool} (hs : listed.size = n) {i : Nat} (hi : i < n) : sOf listed i = listed.getD i true:=by
 simp [sOf,Array.getD_eq_getD_getElem?,Array.getElem?_eq_getElem (show i < listed.size by omega)]
theorem Aj6 {f g : Nat->SG} {a b : Nat->Hl} (h : (f,a) = (g,b)) : f = g/\a = b:=by
 simp only [Prod.mk.injEq] at h; exact h
theorem Aik {B : Bs} {E : Env} {a : Act} {w : World} {ff : Nat->SG} {hf : Nat->Hl} (st : St B N E a w ff hf) (d : Option Nat) (v : Value) (g : SG)
  (hg : ∀ cs s,g = some (cs,s)->(Bd cs->Rel E w s v)/\(¬ Bd cs->v = undef)) : St B N E (a.put d v) w (F9 N ff d g) hf:=by
 cases d with
 | none =>
  have : F9 N ff none g = ff:=by funext s; simp [F9]
  rw [this]; exact st
 | some k =>
  by_cases hk : k < N
  ·have:=st.put (some k) v g hg (fun j hj=>by cases hj; exact hk)
   have e : Abi ff (some k) g = F9 N ff (some k) g:=by
    funext s
    simp only [Abi,upd,F9,Option.some.injEq]
    by_cases e : s = k
    ·subst e; simp [hk]
    ·rw [if_neg e,if_neg (fun h=>e h.1.symm)]
   rw [<-e]; exact this
  ·rw [Ad6 (by rw [st.size]; omega)]
   have e : F9 N ff (some k) g = ff:=by
    funext s
    simp only [F9,Option.some.injEq]
    rw [if_neg (fun h=>hk (by rw [h.1]; exact h.2))]
   rw [e]; exact st
theorem Ahj {ro : Option Nat} {nn : Nat} (h : Ctx P ops gl N σ σ' rs) (hg : Em B gl) {Q : Exit->Act->World->Prop} (hfin : ∀ E a w,St B N E a w (Cd N σ'.gm (ops.toList.zip rs) (A6 σ,Ao σ.hp)).1 (Cd N σ'.gm (ops.toList.zip rs) (A6 σ,Ao σ.hp)).2->Q .normal a w) :
  ∀ (fuel : Nat) (listed : Array Bool) (E : Env) (a : Act) (w : World),listed.size = ops.size->left ops.size listed = fuel->Adi ops (sOf listed)->St B N E a w (xS N ops σ σ' rs (sOf listed)).1 (xS N ops σ σ' rs (sOf listed)).2->wpAnyIn (Fr ro) nn P .any ops Q fuel listed a w:=by
 have done : ∀ (listed : Array Bool) (E : Env) (a : Act) (w : World),listed.size = ops.size->(∀ i,i < ops.size->listed.getD i true = true)->St B N E a w (xS N ops σ σ' rs (sOf listed)).1 (xS N ops σ σ' rs (sOf listed)).2->Q .normal a w:=by
  intro listed E a w hs hall st
  refine hfin E a w ?_
  have : xS N ops σ σ' rs (sOf listed) = Cd N σ'.gm (ops.toList.zip rs) (A6 σ,Ao σ.hp):=by
   refine Wd _ _ _ fun j hj=>?_
   simp only [Nat.zero_add]
   have hj : j < ops.size:=by simp at hj; omega
   rw [Ah8 hs hj]; exact hall j hj
  rw [<-this]; exact st
 intro fuel
 induction fuel with
 | zero =>
  intro listed E a w hs hl hd st
  have hall:=Agl hl
  refine ⟨?_,done listed E a w hs hall st⟩
  rw [List.eq_nil_iff_forall_not_mem]
  intro i hi
  obtain ⟨o,ho,h1,_⟩:=Oo.1 hi
  rw [hall i (Array.getElem?_eq_some_iff.1 ho).1] at h1
  cases h1
 | succ fuel ih =>
  intro listed E a w hs hl hd st
  refine ⟨fun h0=>done listed E a w hs (Adc h.edges hs h0) st,fun i hi=>?_⟩
  obtain ⟨o,ho,h1,h2⟩:=Oo.1 hi
  have hin : i < ops.size:=(Array.getElem?_eq_some_iff.1 ho).1
  have hSi : sOf listed i = false:=by rw [Ah8 hs hin]; exact h1
  have he : ∀ x∈C6 o.after.toList,sOf listed x = true:=h2
  have hr : rs[i]? = some (rs[i]'(by rw [h.len]; exact hin)):=List.getElem?_eq_getElem _
  generalize rs[i]'(by rw [h.len]; exact hin) = rec at hr
  obtain ⟨σi,w1,w2,w3,w4⟩:=h.step i o rec ho hr
  obtain ⟨f1,f2⟩:=Aj6 w3
  have hagS : ∀ s∈looks ops.toList o,(xS N ops σ σ' rs (sOf listed)).1 s = A6 σi s:=fun s hs'=>by
   rw [xS_slot h hd ho hr hSi he hs',f1]
  have hguard : ∀ j want s,o.guard = some (j,want)->(nth ops.toList j).bind (·.dst) = some s->(xS N ops σ σ' rs (sOf listed)).1 s = A6 σi s:=fun j want s hgd hb =>
   hagS s (by unfold looks; exact List.mem_append.2 (.inr (U6 hgd hb)))
  -- what has come behind it
  have hsz : (listed.setIfInBounds i true).size = ops.size:=by simp [hs]
  have hset : ∀ j,sOf (listed.setIfInBounds i true) j = if j = i then true else sOf listed j:=by
   intro j
   simp only [sOf,Array.getD_eq_getD_getElem?]
   by_cases e : i = j
   ·subst e; rw [if_pos rfl,Array.getElem?_setIfInBounds_self_of_lt (by omega)]; rfl
   ·rw [if_neg (fun h=>e h.symm),Array.getElem?_setIfInBounds_ne e]
  have hd' : Adi ops (sOf (listed.setIfInBounds i true)):=by
   refine ⟨fun k ok hok hk x hx=>?_⟩
   rw [hset]
   split
   ·rfl
   ·rw [hset] at hk
    split at hk
    ·rename_i e
     subst e
     rw [ho] at hok
     cases hok
     exact he x hx
    ·exact hd.down k ok hok hk x hx
  have hx:=Afd h hd ho hr hSi he (S':=sOf (listed.setIfInBounds i true)) (by rw [hset,if_pos rfl]) (fun j hj=>by rw [hset,if_neg hj])
  have hleft : left ops.size (listed.setIfInBounds i true) = fuel:=by have:=Ajg hin hs h1; omega
  have next : ∀ (E' : Env) (a' : Act) (w' : World),St B N E' a' w' (Dl N σ'.gm o rec (xS N ops σ σ' rs (sOf listed))).1 (Dl N σ'.gm o rec (xS N ops σ σ' rs (sOf listed))).2->wpAnyIn (Fr ro) nn P .any ops Q fuel (listed.setIfInBounds i true) a' w':=by
   intro E' a' w' st'
   refine ih _ E' a' w' hsz hleft hd' ?_
   rw [hx]; exact st'
  unfold wpOpIn
  rw [ho]
  simp only
  cases rec with
  | none =>
   have hw:=Nn (ops:=ops) rfl w4 st hguard
   rw [if_neg (by simp [hw])]
   exact ⟨fun _ _=>trivial,next E _ w (Aik st _ _ none (by simp))⟩
  | some p =>
   obtain ⟨σ1,T,r⟩:=p
   obtain ⟨q1,q2,q3,q4,q5⟩:=w4
   obtain ⟨g1,g2,g3,g4,g5,_,_,g8⟩:=Ge (ops:=ops) rfl q1 w1
   have hwant:=g8 B N E a w _ _ st hguard
   by_cases hT : Bd (Ab σ1.gm T)
   ·rw [if_pos (hwant.2 hT)]
    have hag : AgS σ1 (xS N ops σ σ' rs (sOf listed)).1 o:=fun s hs'=>by
     rw [g2]
     exact hagS s (by unfold looks; exact List.mem_append.2 (.inl (S2 hs')))
    have hagH : AgH σ1.hp (xS N ops σ σ' rs (sOf listed)).2 r:=by
     rw [g3]
     refine ⟨fun k hk=>?_,fun x hx=>?_,fun e he'=>?_⟩
     ·have:=(Q5 h hd ho hr hSi he (ρ:=(k,none)) (.inl (by simp [rdR,fpR,U7]; exact hk))).2 rfl
      rw [this,<-f2]
     ·obtain ⟨hh,off,n⟩:=x
      have:=(Q5 h hd ho hr hSi he (ρ:=(hh,some (off,n))) (.inl (by simp [rdR,fpR,U7]; exact ⟨hh,off,n,hx,rfl,rfl,rfl⟩))).1
      rw [<-f2] at this
      intro ty cs hcs
      simp only at hcs this ⊢
      rcases this with e | ⟨ty',c1,c2,e1,e2,e3,e4⟩
      ·exact ⟨cs,by rw [e,hcs],rfl,fun _ _ _=>rfl⟩
      ·rw [hcs] at e2
       cases e2
       exact ⟨c1,e1,e3.symm,fun j j1 j2=>(e4 j ⟨j1,j2⟩).symm⟩
     ·have hmem : ∀ (es : List Ef),e∈es->match e with | .set k off vs=>(k,some (off,Ae vs))∈efW es | .put k _=>(k,none)∈efW es:=by
       intro es
       induction es with
       | nil=>intro h; cases h
       | cons e' es ih =>
        intro hm
        rcases List.mem_cons.1 hm with rfl | hm
        ·cases e<;>simp [efW]
        ·have:=ih hm
         cases e<;>cases e'<;>simp only [efW,List.mem_cons] at this ⊢<;>exact Or.inr this
      have hm:=hmem r.efs he'
      cases e with
      | set k off vs =>
       simp only at hm
       have:=(Q5 h hd ho hr hSi he (ρ:=(k,some (off,Ae vs))) (.inr hm)).1
       rw [<-f2] at this
       intro ty cs hcs
       rcases this with e | ⟨ty',c1,c2,e1,e2,e3,e4⟩
       ·exact ⟨cs,by rw [e,hcs],rfl⟩
       ·rw [hcs] at e2
        cases e2
        exact ⟨c1,e1,e3.symm⟩
      | put k hl =>
       simp only at hm
       have:=(Q5 h hd ho hr hSi he (ρ:=(k,none)) (.inr hm)).2 rfl
       show (xS N ops σ σ' rs (sOf listed)).2 k = Ao σi.hp k
       rw [this,<-f2]
    refine q2 B N E a w _ _ hg st hag hagH hT _ _ _ _ fun v w' E' x1 x2 x3 x4=>?_
    refine next E' _ w' ?_
    simp only [Dl,q5]
    exact Aik (st.step x1 x2 x3) _ _ _ (by rintro cs s ⟨⟩; exact ⟨fun _=>x4,fun h=>absurd hT h⟩)
   ·rw [if_neg (fun h=>hT (hwant.1 h))]
    refine ⟨fun _ _=>trivial,next E _ w ?_⟩
    have hef : r.efs = []:=by
     rcases q4.1 with h | h | h
     ·subst h; exact absurd trivial hT
     ·exact h
     ·exact absurd h hT
    simp only [Dl,q5,hef,Ha]
    exact Aik st _ _ _ (by rintro cs s ⟨⟩; exact ⟨fun h=>absurd h hT,fun _=>rfl⟩)
theorem X2 (hm : P.follows .mixedOrders = true) : Pq P:=by
 intro ro nn gl id ops B N σ σ' rs hg hruns hedges hind Q E a w hs hQ
 obtain ⟨r1,r2,r3,r4,r5,r6,r7⟩:=Aia hruns hs.wf N hs.len
 have hctx : Ctx P ops gl N σ σ' rs:=⟨by rw [r1]; simp,fun i o rec ho hr=>r7 i o rec (by rw [Array.getElem?_toList]; exact ho) hr,hedges,hind⟩
 obtain ⟨e1,e2⟩:=Aj6 r6
 refine wpIn_region_any hm ?_
 have hbase:=hs.st.base
 have hst : St B N E a { w with drawn:=w.drawn + 1 } (A6 σ) (Ao σ.hp) :=
  hs.st.step (E':=E) (w':={ w with drawn:=w.drawn + 1 }) ⟨fun _ _ h=>h,fun _ _ h=>.inl h,fun _ _ h=>h,fun _ _ h=>h,fun _ _ h=>h,fun _ _ _=>rfl⟩ ⟨hbase.os,hbase.tape,hbase.output,hbase.size,hbase.old,hbase.I0,hbase.Ibd,hbase.Inew,hbase.Obd,hbase.β0⟩
   fun k=>HOk.keep (E:=E) (w:=w) (E':=E) (w':={ w with drawn:=w.drawn + 1 }) ⟨fun _ _ h=>h,fun _ _ h=>.inl h,fun _ _ h=>h,fun _ _ h=>h,fun _ _ h=>h,fun _ _ _=>rfl⟩ (hs.st.heap k) rfl rfl rfl rfl fun b hO=>⟨hO,rfl,fun _ h=>h⟩
 refine Ahj (B:=B) hctx hg (fun E' a' w' st'=>?_) ops.size _ E a _ (by simp) ?_ ⟨fun k o _ hk=>?_⟩ ?_
 ·refine hQ E' a' w' ⟨?_,r3,r2,fun k hk=>Nat.lt_of_lt_of_le (hs.ge k hk) r4⟩
  rw [e1,e2]; exact st'
 ·unfold left
  rw [List.filter_eq_self.2]
  ·simp
  ·intro i hi; simp at hi; simp [Array.getD_eq_getD_getElem?,hi]
 ·exfalso
  simp only [sOf,Array.getD_eq_getD_getElem?,Array.getElem?_replicate] at hk
  split at hk<;>simp at hk
 ·have : xS N ops σ σ' rs (sOf (Array.replicate ops.size false)) = (A6 σ,Ao σ.hp):=by
   refine Jh _ _ _ fun j _=>?_
   simp only [sOf,Array.getD_eq_getD_getElem?,Array.getElem?_replicate]
   split<;>rfl
  rw [this]; exact hst
end
end Go.Sx
namespace Go.Sx
open Go
theorem Aie {P : Program} {D : Dn} {tt : List (Nat×TI)} {tab : List (Nat×FSpec)} {gl : List (Nat×SV)} {eqs : List TypeId} {gh : List (Nat×List Gh)} : Uh P ⟨D,tt,tab,gl,eqs,gh,[],[]⟩:=⟨fun _ h=>(by cases h),fun _ h=>(by cases h)⟩
theorem C9 {P : Program} (hm : P.follows .mixedOrders = true) {tt : List (Nat×TI)} {tab : List (Nat×FSpec)} {gl : List (Nat×SV)} {eqs : List TypeId} {gh : List (Nat×List Gh)} (hc : Ay P ⟨dn,tt,tab,gl,eqs,gh,[],[]⟩) (htab : D9 P gl tab) {f : FuncId} {fn : Func} (hf : P.funcs[f]? = some fn) (hgood : (fn.name == "runtime.NumGoroutine") = false) (hb : fn.body.isSome = true) {sp : FSpec}
  (h : ∀ (as : List SV) (ls : List Hl) (K : SV->List Hl->Prop),sp dn as ls K->∃ r ls',K r ls'/\∀ D,D = dn->body ⟨D,tt,tab,gl,eqs,gh,[],[]⟩ fn as ls fun r' ls''=>Fin r' r ls'' ls') : A2 P gl f sp:=by
 refine ⟨?_,fun as ls K hs=>?_⟩
 ·obtain ⟨c,hc⟩:=Option.isSome_iff_exists.1 hb
  exact ⟨fn,c,hf,hc,hgood⟩
 ·obtain ⟨r,ls',hK,hbody⟩:=h as ls K hs
  exact ⟨r,ls',hK,Q3 (X2 hm) hc htab Aie hf (hbody dn rfl)⟩
theorem El {P : Program} (hm : P.follows .mixedOrders = true) {tt : List (Nat×TI)} {tab : List (Nat×FSpec)} {gl : List (Nat×SV)} {eqs : List TypeId} {gh : List (Nat×List Gh)} (hc : Ay P ⟨dn,tt,tab,gl,eqs,gh,[],[]⟩) (htab : D9 P gl tab) {f : FuncId} {fn : Func} (hf : P.funcs[f]? = some fn) (hgood : (fn.name == "runtime.NumGoroutine") = false) (hb : fn.body.isSome = true) {sp : FSpec}
  (h : ∀ (as : List SV) (ls : List Hl) (K : SV->List Hl->Prop),sp dn as ls K->∃ r ls',K r ls'/\∀ D,D = dn->Ae3 ⟨D,tt,tab,gl,eqs,gh,[],[]⟩ fn as ls fun r' ls''=>Fin r' r ls'' ls') : A2 P gl f sp:=by
 refine ⟨?_,fun as ls K hs=>?_⟩
 ·obtain ⟨c,hc⟩:=Option.isSome_iff_exists.1 hb
  exact ⟨fn,c,hf,hc,hgood⟩
 ·obtain ⟨r,ls',hK,hbody⟩:=h as ls K hs
  exact ⟨r,ls',hK,Iz (X2 hm) hc htab Aie hf (hbody dn rfl)⟩
theorem fnOkI {P : Program} (hm : P.follows .mixedOrders = true) {tt : List (Nat×TI)} {tab : List (Nat×FSpec)} {gl : List (Nat×SV)} {eqs : List TypeId} {gh : List (Nat×List Gh)} {its : List (Nat×(FSpec->FSpec))} {yl : List FSpec} (hc : Ay P ⟨dn,tt,tab,gl,eqs,gh,its,yl⟩) (htab : D9 P gl tab) (hrg : Uh P ⟨dn,tt,tab,gl,eqs,gh,its,yl⟩) {f : FuncId} {fn : Func} (hf : P.funcs[f]? = some fn) (hgood : (fn.name == "runtime.NumGoroutine") = false) (hb : fn.body.isSome = true) {sp : FSpec}
  (h : ∀ (as : List SV) (ls : List Hl) (K : SV->List Hl->Prop),sp dn as ls K->∃ r ls',K r ls'/\∀ D,D = dn->Ae3 ⟨D,tt,tab,gl,eqs,gh,its,yl⟩ fn as ls fun r' ls''=>Fin r' r ls'' ls') : A2 P gl f sp:=by
 refine ⟨?_,fun as ls K hs=>?_⟩
 ·obtain ⟨c,hc⟩:=Option.isSome_iff_exists.1 hb
  exact ⟨fn,c,hf,hc,hgood⟩
 ·obtain ⟨r,ls',hK,hbody⟩:=h as ls K hs
  exact ⟨r,ls',hK,Iz (X2 hm) hc htab hrg hf (hbody dn rfl)⟩
theorem fnOkJ {P : Program} (hm : P.follows .mixedOrders = true) {tt : List (Nat×TI)} {tab : List (Nat×FSpec)} {gl : List (Nat×SV)} {eqs : List TypeId} {gh : List (Nat×List Gh)} (hc : Ay P ⟨dn,tt,tab,gl,eqs,gh,[],[]⟩) (htab : D9 P gl tab) {f : FuncId} {fn : Func} (hf : P.funcs[f]? = some fn) (hgood : (fn.name == "runtime.NumGoroutine") = false) {l : Nat} {pre c rest : Code} (hb : fn.body = some (.seq pre (.scope c))) (hl : findLabel c l = some rest) {sp : FSpec}
  (h : ∀ (as : List SV) (ls : List Hl) (K : SV->List Hl->Prop),sp dn as ls K->∃ r ls',K r ls'/\∀ D,D = dn->bodyJ ⟨D,tt,tab,gl,eqs,gh,[],[]⟩ fn pre c l rest as ls fun r' ls''=>Fin r' r ls'' ls') : A2 P gl f sp:=by
 refine ⟨⟨fn,_,hf,hb,hgood⟩,fun as ls K hs=>?_⟩
 obtain ⟨r,ls',hK,hbody⟩:=h as ls K hs
 exact ⟨r,ls',hK,Pj (X2 hm) hc htab Aie hf hb hl (hbody dn rfl)⟩
theorem Av {P : Program} {gl : List (Nat×SV)} : D9 P gl []:=by intro x h; cases h
theorem Af {P : Program} {gl : List (Nat×SV)} {tab : List (Nat×FSpec)} {f : Nat} {sp : FSpec} (h : A2 P gl f sp) (ht : D9 P gl tab) (hf : Nat.blt f 1000000 = true:=by decide) : D9 P gl ((f,sp) :: tab):=by
 intro x hx
 rcases List.mem_cons.1 hx with rfl | hx
 ·show A2 P gl (Ts f) sp
  rw [Ts,if_pos hf]; exact h
 ·exact ht x hx
theorem Be {P : Program} {gl : List (Nat×SV)} {tab : List (Nat×FSpec)} {f : Nat} {sp : FSpec} (h : A2 P gl f sp) (ht : D9 P gl tab) : D9 P gl ((f + 1000000,sp) :: tab):=by
 intro x hx
 rcases List.mem_cons.1 hx with rfl | hx
 ·show A2 P gl (Ts (f + 1000000)) sp
  have e : Ts (f + 1000000) = f:=by
   unfold Ts
   rw [if_neg (by rw [Nat.blt_eq]; omega),Nat.add_sub_cancel]
  rw [e]; exact h
 ·exact ht x hx
theorem br {D : Dn} (hD : D = dn) {b : BT} {A B : Prop} (ht : b.den = true->A) (hf : b.den = false->B) : (D.b b = true->A)/\(D.b b = false->B):=by subst hD; exact ⟨ht,hf⟩
theorem Acv {s s' : SV} {ls ls' : List Hl} (h : s = s') (hl : ls = ls') : Fin s s' ls ls':=by subst h hl; exact ⟨LeV.refl s,LeH.refl ls,Nat.le_refl _⟩
theorem int_eq {D : Dn} (hD : D = dn) {k : IntKind} {t : ST} {n : Int} (h : t.den = n) : SV.int k (.a (D.i t)) = .int k (.a n):=by subst hD h; rfl
theorem bool_eq {D : Dn} (hD : D = dn) {t : BT} {b : Bool} (h : t.den = b) : SV.bool (.a (D.b t)) = .bool (.a b):=by subst hD h; rfl
theorem Bv {D : Dn} (hD : D = dn) {k : IntKind} {t : ST} {n : Int} {ls : List Hl} (h : t.den = n) : Fin (.int k (.a (D.i t))) (.int k (.a n)) ls ls:=Acv (int_eq hD h) rfl
theorem A5 {D : Dn} (hD : D = dn) {t : BT} {b : Bool} {ls : List Hl} (h : t.den = b) : Fin (.bool (.a (D.b t))) (.bool (.a b)) ls ls:=Acv (bool_eq hD h) rfl
@[simp] theorem den_a (n : Int) : (ST.a n).den = n:=rfl
@[simp] theorem den_l (n : Int) : (ST.l n).den = n:=rfl
@[simp] theorem den_len (s : List UInt8) : (ST.len s).den = s.length:=rfl
@[simp] theorem den_add (k : IntKind) (x y : ST) : (ST.bin .add k x y).den = k.wrap (x.den + y.den):=rfl
@[simp] theorem den_sub (k : IntKind) (x y : ST) : (ST.bin .sub k x y).den = k.wrap (x.den - y.den):=rfl
@[simp] theorem den_mul (k : IntKind) (x y : ST) : (ST.bin .mul k x y).den = k.wrap (x.den * y.den):=rfl
@[simp] theorem den_quo (k : IntKind) (x y : ST) : (ST.bin .quo k x y).den = k.wrap (x.den.tdiv y.den):=rfl
@[simp] theorem den_rem (k : IntKind) (x y : ST) : (ST.bin .rem k x y).den = x.den.tmod y.den:=rfl
@[simp] theorem den_cv (k : IntKind) (x : ST) : (ST.cv k x).den = k.wrap x.den:=rfl
@[simp] theorem bden_a (b : Bool) : (BT.a b).den = b:=rfl
@[simp] theorem bden_l (b : Bool) : (BT.l b).den = b:=rfl
@[simp] theorem bden_lss (x y : ST) : (BT.cmp .lss x y).den = true↔x.den < y.den:=by simp [BT.den,Bw]
@[simp] theorem bden_lss' (x y : ST) : (BT.cmp .lss x y).den = false↔y.den<=x.den:=by simp [BT.den,Bw]
@[simp] theorem bden_leq (x y : ST) : (BT.cmp .leq x y).den = true↔x.den<=y.den:=by simp [BT.den,Bw]
@[simp] theorem bden_leq' (x y : ST) : (BT.cmp .leq x y).den = false↔y.den < x.den:=by simp [BT.den,Bw]
@[simp] theorem bden_gtr (x y : ST) : (BT.cmp .gtr x y).den = true↔y.den < x.den:=by simp [BT.den,Bw]
@[simp] theorem bden_gtr' (x y : ST) : (BT.cmp .gtr x y).den = false↔x.den<=y.den:=by simp [BT.den,Bw]
@[simp] theorem bden_geq (x y : ST) : (BT.cmp .geq x y).den = true↔y.den<=x.den:=by simp [BT.den,Bw]
@[simp] theorem bden_geq' (x y : ST) : (BT.cmp .geq x y).den = false↔x.den < y.den:=by simp [BT.den,Bw]
@[simp] theorem bden_eql (x y : ST) : (BT.cmp .eql x y).den = true↔x.den = y.den:=by simp [BT.den,Bw]
@[simp] theorem bden_eql' (x y : ST) : (BT.cmp .eql x y).den = false↔x.den≠y.den:=by simp [BT.den,Bw]
@[simp] theorem bden_neq (x y : ST) : (BT.cmp .neq x y).den = true↔x.den≠y.den:=by simp [BT.den,Bw]
@[simp] theorem bden_neq' (x y : ST) : (BT.cmp .neq x y).den = false↔x.den = y.den:=by simp [BT.den,Bw]
@[simp] theorem bden_not (x : BT) : (BT.not x).den = true↔x.den = false:=by simp [BT.den]
@[simp] theorem bden_not' (x : BT) : (BT.not x).den = false↔x.den = true:=by simp [BT.den]
@[simp] theorem bden_and (x y : BT) : (BT.and x y).den = true↔x.den = true/\y.den = true:=by simp [BT.den]
@[simp] theorem bden_and' (x y : BT) : (BT.and x y).den = false↔(x.den = true->y.den = false):=by simp only [BT.den]; cases x.den<;>simp
@[simp] theorem bden_or (x y : BT) : (BT.or x y).den = true↔(x.den = false->y.den = true):=by simp only [BT.den]; cases x.den<;>simp
@[simp] theorem bden_or' (x y : BT) : (BT.or x y).den = false↔x.den = false/\y.den = false:=by simp [BT.den]
@[simp] theorem bden_beq (x y : BT) : (BT.beq x y).den = true↔x.den = y.den:=by simp [BT.den]
@[simp] theorem bden_beq' (x y : BT) : (BT.beq x y).den = false↔x.den = !y.den:=by simp only [BT.den]; cases x.den<;>cases y.den<;>simp
@[simp] theorem bden_seq (s t : List UInt8) : (BT.seq s t).den = true↔s = t:=by simp [BT.den]
@[simp] theorem bden_seq' (s t : List UInt8) : (BT.seq s t).den = false↔s≠t:=by simp [BT.den]
theorem Bk {n : Int} (h1 : -9223372036854775808<=n) (h2 : n<=9223372036854775807) : IntKind.i64.wrap n = n:=IntWalk.i64_in _ ⟨by omega,by omega⟩
end Go.Sx
namespace Go.Sx
open Go Go.RowKit
theorem Bn {P : Program} {gl : List (Nat×SV)} {f : FuncId} {as : List SV} {r : SV}
  (h : ∀ (E : Env) (B : Bs) (w : World) (vals : List Value),Em B gl->B8 B E w->B.w0 = w->Az E w as vals->Calls P f ⟨vals⟩ w fun e w'=>∃ v,e = .returned v/\(∀ E,Rel E w' r v)/\Below w.heap.size w w') : Gp P gl f as [] r []:=by
 intro B E w vals hw0 hI hdom hb hg hh hr
 refine (h E B w vals hg hb hw0 hr).mono fun e w' hq=>?_
 obtain ⟨v,rfl,hv,hB⟩:=hq
 refine ⟨v,E,rfl,?_,fun h hlt=>absurd hlt (by simp),hv E⟩
 refine ⟨hB.os.trans hb.os,hB.tape.trans hb.tape,hB.output.trans hb.output,Nat.le_trans hb.size hB.size,fun b hlt hx=>?_,fun b o h0=>?_,fun b o hi=>Nat.lt_of_lt_of_le (hb.Ibd b o hi) hB.size,hb.Inew,fun b h ho=>⟨Nat.lt_of_lt_of_le (hb.Obd b h ho).1 hB.size,(hb.Obd b h ho).2⟩,hb.β0⟩
 ·rw [hB.block b (by rw [<-hw0]; exact hlt)]; exact hb.old b hlt hx
 ·have h1:=hb.I0 b o h0
  refine ⟨h1.1,?_⟩
  rw [hB.cell (p:=⟨b,o,none⟩) (hb.Ibd b o h1.1)]
  exact h1.2
theorem Db {E : Env} {w : World} {s : List UInt8} {v : Value} (h : Rel E w (.str s) v) : v = .string (bytes s):=by
 cases h with
 | ro h=>cases h with
  | str h=>exact h
theorem Ady {E : Env} {w : World} {k : IntKind} {t : ST} {v : Value} (h : Rel E w (.int k t) v) : v = .int k t.den:=by
 cases h with
 | ro h=>cases h with
  | int h=>rw [h]
theorem Y8 {E : Env} {w : World} {a : SV} {vals : List Value} (h : Az E w [a] vals) : ∃ v,vals = [v]/\Rel E w a v:=by
 match vals,h with
 | [v],h=>exact ⟨v,rfl,h.2 0 a v rfl rfl⟩
 | [],h=>exact absurd h.1 (by simp)
 | _ :: _ :: _,h=>exact absurd h.1 (by simp)
theorem D3 {E : Env} {w : World} {a b : SV} {vals : List Value} (h : Az E w [a,b] vals) : ∃ v u,vals = [v,u]/\Rel E w a v/\Rel E w b u:=by
 match vals,h with
 | [v,u],h=>exact ⟨v,u,rfl,h.2 0 a v rfl rfl,h.2 1 b u rfl rfl⟩
 | [],h=>exact absurd h.1 (by simp)
 | [_],h=>exact absurd h.1 (by simp)
 | _ :: _ :: _ :: _,h=>exact absurd h.1 (by simp)
end Go.Sx
namespace Go.Sx
open Go
def LeL (cs cs' : List SV) : Prop:=∀ (E : Env) (w : World) (vs : List Value),Az E w cs vs->Az E w cs' vs
theorem LeL.nil : LeL [] []:=fun _ _ _ h=>h
theorem LeL.refl (cs : List SV) : LeL cs cs:=fun _ _ _ h=>h
theorem LeL.cons {c c' : SV} {cs cs' : List SV} (h : LeV c c') (hs : LeL cs cs') : LeL (c :: cs) (c' :: cs'):=by
 intro E w vs hr
 match vs,hr with
 | v :: vs,hr =>
  exact .cons (h E w v (hr.2 0 c v rfl rfl)) (hs E w vs ⟨by have:=hr.1; simpa using this,fun i s v a b=>hr.2 (i + 1) s v (by simpa using a) (by simpa using b)⟩)
 | [],hr=>exact absurd hr.1 (by simp)
theorem LeV.agg {cs cs' : List SV} (h : LeL cs cs') : LeV (.agg cs) (.agg cs'):=by
 intro E w v hr
 obtain ⟨vs,rfl,hl⟩:=hr.agg_inv
 exact (h E w vs hl).agg
theorem LeV.tup {cs cs' : List SV} (h : LeL cs cs') : LeV (.tup cs) (.tup cs'):=by
 intro E w v hr
 obtain ⟨vs,rfl,hl⟩:=hr.tup_inv
 have:=h E w vs hl
 exact .tup this.1 this.2
theorem LeV.sl {nl nl' : BT} {n n' : ST} {sz : Nat} {f f' : Nat->List SV} (h1 : nl.den = nl'.den) (h2 : n.den = n'.den) (h : ∀ i : Nat,(i : Int) < n.den->f i = f' i) : LeV (.sl nl n sz f) (.sl nl' n' sz f'):=by
 intro E w v hr
 have hr:=hr.sl_inv
 rcases hr.sl_inv with ⟨rfl,e0,e1⟩ | ⟨a,m,cap,g,rfl,e1,e2,e3,e3',e4,e5,e5',e6,e7⟩
 ·exact .ro (.slnil (by rw [<-h1]; exact e1) (by rw [<-h2]; exact e0))
 ·have hf : ∀ i,i < m->f' i = f i:=fun i hi=>(h i (by omega)).symm
  exact .ro (.sl g (by rw [<-h1]; exact e1) (by rw [<-h2]; exact e2) e3 e3' e4 (fun i hi=>by rw [hf i hi]; exact e5 i hi) e5' e6 (fun i j s hi hs=>by rw [hf i hi] at hs; exact e7 i j s hi hs))
theorem LeH.nil : LeH [] []:=LeH.refl []
theorem LeH.cons {l l' : Hl} {ls ls' : List Hl} (h : ∀ (k : Nat) (E : Env) (w : World),HOk E w k l->HOk E w k l') (hs : ∀ (k i : Nat) (E : Env) (w : World),HOk E w k (Ao ls i)->HOk E w k (Ao ls' i)) : ∀ (k i : Nat) (E : Env) (w : World),HOk E w k (Ao (l :: ls) i)->HOk E w k (Ao (l' :: ls') i)
 | k,0,E,w,hk=>h k E w hk
 | k,i + 1,E,w,hk=>hs k i E w hk
theorem Cp {ls ls' : List Hl} (hs : ∀ (k i : Nat) (E : Env) (w : World),HOk E w k (Ao ls i)->HOk E w k (Ao ls' i)) : LeH ls ls':=fun h E w hk=>hs h h E w hk
theorem Am {ty : TypeId} {cs cs' : List SV} (h : LeL cs cs') (k : Nat) (E : Env) (w : World) (hk : HOk E w k (.blk ty cs)) : HOk E w k (.blk ty cs'):=by
 obtain ⟨b,C,k1,k2,k3,k4,k5,k6⟩:=hk.blk_inv
 have hn:=h E w _ k4
 exact ⟨b,C,k1,k2,k3,by have:=hn.1; simpa using this.symm,fun i s v p q=>hn.2 i s v p (by simpa using q),fun v hv=>k5 v (by simpa using hv),k6⟩
theorem Gg {s s' : SV} (h : LeV s s') : Fin s s' [] []:=⟨h,LeH.refl [],Nat.le_refl _⟩
theorem Aeg {nl nl' : BT} {n n' : ST} {h : Nat} (h1 : nl.den = nl'.den) (h2 : n.den = n'.den) : LeV (.osl nl n h) (.osl nl' n' h):=by
 intro E w v hr
 obtain ⟨⟨a,m,c,t1,t2,t3⟩,a0,m0,c0,q1,q2,q3⟩:=hr.osl_inv
 exact .osl ⟨a,m,c,t1,by rw [<-h2]; exact t2,by rw [<-h1]; exact t3⟩ ⟨a0,m0,c0,q1,by rw [<-h2]; exact q2,by rw [<-h2]; exact q3⟩
theorem Xh {ty : TypeId} {n n' : ST} {sz : Nat} {gr : Bool} {f f' : Nat->List SV} (h2 : n.den = n'.den) (h : ∀ i : Nat,(i : Int) < n.den->f i = f' i) (k : Nat) (E : Env) (w : World) (hk : HOk E w k (.own ty n sz gr f)) : HOk E w k (.own ty n' sz gr f'):=by
 obtain ⟨v,m,xs,k1,kz,k2,k3,k4,k5,k6⟩:=hk
 have hf : ∀ i,i < m->f' i = f i:=fun i hi=>(h i (by omega)).symm
 exact ⟨v,m,xs,k1,kz,k2,by rw [<-h2]; exact k3,k4,⟨fun i hi=>by rw [hf i hi]; exact k5.1 i hi,fun i j s u hi hs=>by rw [hf i hi] at hs; exact k5.2 i j s u hi hs⟩,k6⟩
theorem Aef {nl nl' : BT} {n n' g g' : ST} {h : Nat} (h1 : nl.den = nl'.den) (h2 : n.den = n'.den) (h3 : g.den = g'.den) : LeV (.vsl nl n g h) (.vsl nl' n' g' h):=by
 intro E w v hr
 obtain ⟨⟨a,m,c,t1,t2,t3⟩,a0,m0,c0,q1,q2,q3⟩:=hr.vsl_inv
 exact .vsl ⟨a,m,c,t1,by rw [<-h2]; exact t2,by rw [<-h1]; exact t3⟩ ⟨a0,m0,c0,q1,by rw [<-h3]; exact q2,by rw [<-h3,<-h2]; exact q3⟩
theorem Hn {ty : TypeId} {n n' g g' : ST} {sz : Nat} {f f' : Nat->List SV} (h2 : n.den = n'.den) (h3 : g.den = g'.den) (h : ∀ i : Nat,(i : Int) < n.den->f i = f' i) (k : Nat) (E : Env) (w : World) (hk : HOk E w k (.vec ty n g sz f)) : HOk E w k (.vec ty n' g' sz f'):=by
 obtain ⟨a,c,m,G,xs,k1,k2,k3,kg,k4,k5,k6⟩:=hk
 have hf : ∀ i,i < m->f' i = f i:=fun i hi=>(h i (by omega)).symm
 exact ⟨a,c,m,G,xs,k1,k2,by rw [<-h2]; exact k3,by rw [<-h3]; exact kg,k4,⟨fun i hi=>by rw [hf i hi]; exact k5.1 i hi,fun i j s u hi hs=>by rw [hf i hi] at hs; exact k5.2 i j s u hi hs⟩,k6⟩
theorem Aj3 {s s' : SV} {ty : TypeId} {n n' : ST} {sz : Nat} {gr : Bool} {f f' : Nat->List SV} (h : LeV s s') (h2 : n.den = n'.den) (hf : ∀ i : Nat,(i : Int) < n.den->f i = f' i) : Fin s s' [.own ty n sz gr f] [.own ty n' sz gr f'] :=
 ⟨h,Cp (LeH.cons (Xh h2 hf) fun _ _ _ _ h=>h),Nat.le_refl _⟩
theorem Al {k : IntKind} {t t' : ST} (h : t.den = t'.den) : LeV (.int k t) (.int k t'):=by
 intro E w v hr
 rw [hr.int_inv]
 exact .int h.symm
theorem D1 {t t' : BT} (h : t.den = t'.den) : LeV (.bool t) (.bool t'):=by
 intro E w v hr
 rw [hr.bool_inv]
 exact .bool h.symm
end Go.Sx
namespace Go.Sx
set_option maxRecDepth 10000
open Go
structure Lx (r : SV) : Prop where
 h : ∀ (E E' : Env) (w : World) (v : Value),Rel E w r v->Rel E' w r v
def readSp (sp : FSpec) : FSpec:=fun D xs ls K=>∃ (nl : BT) (n g n0 g0 : ST) (sz : Nat) (ty : TypeId) (f : Nat->List SV),xs = [.vsl nl n g 0]/\ls = [.vec ty n0 g0 sz f]/\n.den = n0.den/\g.den = g0.den/\
 sp D [.sl nl n sz f] [] fun r _ls'=>(Lx r/\K r [.vec ty n0 g0 sz f])\/(Ak r = true/\∀ g',Ae8 g' g0.den->K r [.vec ty (.l 0) (.a g') sz f])
theorem We {P : Program} {gl : List (Nat×SV)} {f : FuncId} {sp : FSpec} (h : A2 P gl f sp) : A2 P gl f (readSp sp):=by
 refine ⟨h.1,fun as ls K hs=>?_⟩
 obtain ⟨nl,n,g,n0,g0,sz,ty,fr,rfl,rfl,hn,hgg,hs⟩:=hs
 obtain ⟨r,ls',hk,hc⟩:=h.2 _ _ _ hs
 -- the call itself
 have core : ∀ (B : Bs) (E : Env) (w : World) (vals : List Value),B.w0 = w->(∀ b o,E.I b o->B.I0 b o)->B8 B E w->Em B gl->HOk E w 0 (.vec ty n0 g0 sz fr)->Az E w [.vsl nl n g 0] vals->
   ∃ (a : Option Addr) (c m G : Nat) (xs : List Value),E.τ 0 = some (.slice a G c)/\B9 w false ty sz (.slice a m c) m xs/\n0.den = (m : Int)/\g0.den = (G : Int)/\(∀ u,u∈xs->u.oneCell' = true)/\E7 E w fr m sz xs/\(∀ b,(Value.slice a m c).ownBlock = some b->E.O b = some 0/\∀ o,¬ E.I b o)/\
   Calls P f ⟨vals⟩ w fun e w'=>∃ (v1 : Value) (E' : Env),e = .returned v1/\Rel E' w' r v1/\w'.os = B.w0.os/\w'.tape = B.w0.tape/\w'.output = B.w0.output/\B.w0.heap.size<=w'.heap.size/\
    (∀ b,b < B.w0.heap.size->(¬ B.X b\/(Value.slice a m c).ownBlock = some b)->w'.heap[b]? = B.w0.heap[b]?)/\(∀ b o,E.I b o\/((Value.slice a m c).ownBlock = some b/\o < m * sz)->E'.I b o/\w'.cell? ⟨b,o,none⟩ = B.w0.cell? ⟨b,o,none⟩)/\(∀ b o,E'.I b o->b < w'.heap.size)/\
    (∀ b o,E'.I b o->(E.I b o\/((Value.slice a m c).ownBlock = some b/\o < m * sz))\/B.w0.heap.size<=b\/(B.X b/\(Value.slice a m c).ownBlock≠some b)):=by
  intro B E w vals hw0 hI hb hg hk0 hr
  obtain ⟨a,c,m,G,xs,k1,k2,k3,kg,k4,k5,k6⟩:=hk0
  refine ⟨a,c,m,G,xs,k1,k2,k3,kg,k4,k5,k6,?_⟩
  obtain ⟨v,hv⟩ : ∃ v,v = Value.slice a m c:=⟨_,rfl⟩
  rw [<-hv] at k2 k6 ⊢
  let I1 : Nat->Nat->Prop:=fun b o=>E.I b o\/(v.ownBlock = some b/\o < m * sz)
  let E1 : Env:=⟨fun _=>none,fun _=>none,fun _=>none,fun _=>none,fun _=>none,I1⟩
  let B1 : Bs:=⟨B.w0,fun b=>B.X b/\v.ownBlock≠some b,I1,fun _=>none,fun _=>none,fun _=>none,B.dl⟩
  have hb1 : B8 B1 E1 w:=by
   refine ⟨hb.os,hb.tape,hb.output,hb.size,fun b hlt hnX=>by rw [hw0],fun b o hi=>⟨hi,by show w.cell? _ = B.w0.cell? _; rw [hw0]⟩,fun b o hi=>?_,fun b o hi=>.inl hi,fun b h ho=>(nomatch ho),⟨fun _ _ h=>(nomatch h),fun _ _ h=>(nomatch h),fun _ _ h=>(nomatch h)⟩⟩
   rcases hi with hi | ⟨hi,_⟩
   ·exact hb.Ibd b o hi
   ·exact A1 hb (k6 b hi).1
  have hg1 : Em B1 gl:=by
   intro q s hq
   obtain ⟨g1,g2,g3,g4⟩:=hg q s hq
   exact ⟨g1.mono (fun b o hi=>.inl (hb.I0 b o hi).1) (fun _ _ _=>rfl),g2,fun h=>g3 h.1,g4⟩
  obtain ⟨u,hu⟩ : ∃ u,vals = [u]:=by
   have:=hr.1
   match vals,this with
   | [u],_=>exact ⟨u,rfl⟩
  subst hu
  have hr1 : Az E1 w [.sl nl n sz fr] [u]:=by
   refine Az.cons (.ro ?_) Az.nil
   obtain ⟨hu,hnl⟩:=K4 (hr.2 0 _ _ rfl rfl) k1 (by rw [<-hv]; exact k2) (by rw [hn,k3]) kg hgg
   rw [<-hv] at hu hnl
   exact W6 hu hnl k2 (by rw [hn,k3]) k4 k5
  refine (hc B1 E1 w [u] hw0 (fun _ _ h=>h) (fun h hq=>by rcases hq with hq | hq | hq<;>exact absurd rfl hq) hb1 hg1 (fun h=>⟨rfl,rfl,rfl,rfl⟩) hr1).mono fun e w' hq=>?_
  obtain ⟨v1,E',e1,e2,_,e4⟩:=hq
  refine ⟨v1,E',e1,e4,e2.os,e2.tape,e2.output,e2.size,fun b hlt hX=>e2.old b hlt ?_,fun b o hi=>e2.I0 b o hi,e2.Ibd,fun b o hi=>?_⟩
  ·rintro ⟨h1,h2⟩
   rcases hX with hX | hX
   ·exact hX h1
   ·exact h2 hX
  ·exact e2.Inew b o hi
 rcases hk with ⟨hnr,hk⟩ | ⟨hp,hk⟩
 ·refine ⟨r,[.vec ty n0 g0 sz fr],hk,?_⟩
  intro B E w vals hw0 hI hdom hb hg hh hr
  obtain ⟨a,c,m,G,xs,k1,k2,k3,kg,k4,k5,k6,hcall⟩:=core B E w vals hw0 hI hb hg (hh 0) hr
  refine hcall.mono fun e w' hq=>?_
  obtain ⟨v1,E',e1,e4,f1,f2,f3,f4,f5,f6,f7,f8⟩:=hq
  have hsz : w.heap.size<=w'.heap.size:=by rw [<-hw0]; exact f4
  have hown : ∀ b,(Value.slice a m c).ownBlock = some b->w'.heap[b]? = w.heap[b]?:=fun b hbb=>by
   rw [<-hw0]
   refine f5 b ?_ (.inr hbb)
   rw [hw0]
   exact A1 hb (k6 b hbb).1
  let E2 : Env:=⟨E.β,E.τ,E.O,E.κ,E.ζ,fun b o=>E'.I b o/\(Value.slice a m c).ownBlock≠some b⟩
  have hIE : ∀ b o,E.I b o->E'.I b o/\(Value.slice a m c).ownBlock≠some b:=fun b o hi=>⟨(f6 b o (.inl hi)).1,fun hbb=>(k6 b hbb).2 o hi⟩
  have hx : Ext E w E2 w':=⟨fun _ _ h=>h,fun _ _ h=>.inl h,fun _ _ h=>h,fun _ _ h=>h,hIE,fun b o hi=>by rw [<-hw0]; exact (f6 b o (.inl hi)).2⟩
  refine ⟨v1,E2,e1,⟨f1,f2,f3,f4,fun b hlt hX=>f5 b hlt (.inl hX),fun b o hi=>?_,fun b o hi=>f7 b o hi.1,fun b o hi=>?_,fun b h ho=>⟨Nat.lt_of_lt_of_le (hb.Obd b h ho).1 hsz,(hb.Obd b h ho).2⟩,hb.β0.ext hx⟩,fun h hlt=>?_,hnr.h _ _ _ _ e4⟩
  ·have hi1:=(hb.I0 b o hi).1
   exact ⟨hIE b o hi1,(f6 b o (.inl hi1)).2⟩
  ·rcases f8 b o hi.1 with (hi1 | ⟨hi1,_⟩) | hi1 | ⟨hi1,_⟩
   ·exact hb.Inew b o hi1
   ·exact absurd hi1 hi.2
   ·exact .inr (.inl hi1)
   ·exact .inr (.inr hi1)
  ·match h,hlt with
   | 0,_=>exact ⟨a,c,m,G,xs,k1,k2.keep hown,k3,kg,k4,k5.mono hx,fun b hbb=>⟨(k6 b hbb).1,fun o hi=>hi.2 hbb⟩⟩
 ·have hgen:=hk (g0.den + 1) ⟨rfl⟩
  refine ⟨r,_,hgen,?_⟩
  intro B E w vals hw0 hI hdom hb hg hh hr
  obtain ⟨a,c,m,G,xs,k1,k2,k3,kg,k4,k5,k6,hcall⟩:=core B E w vals hw0 hI hb hg (hh 0) hr
  refine hcall.mono fun e w' hq=>?_
  obtain ⟨v1,E',e1,e4,f1,f2,f3,f4,f5,f6,f7,f8⟩:=hq
  have hsz : w.heap.size<=w'.heap.size:=by rw [<-hw0]; exact f4
  let E2 : Env:=⟨E.β,upd E.τ 0 (some (.slice none (G + 1) 0)),E.O,E.κ,E.ζ,E'.I⟩
  have hx : Ext E w E2 w':=by
   refine ⟨fun _ _ h=>h,fun k v hk=>?_,fun _ _ h=>h,fun _ _ h=>h,fun b o hi=>(f6 b o (.inl hi)).1,fun b o hi=>by rw [<-hw0]; exact (f6 b o (.inl hi)).2⟩
   show upd E.τ 0 (some (.slice none (G + 1) 0)) k = some v\/∃ a m' c a' m'' c',v = .slice a m' c/\upd E.τ 0 (some (.slice none (G + 1) 0)) k = some (.slice a' m'' c')/\m' < m''
   unfold upd
   by_cases e : k = 0
   ·subst e
    rw [if_pos rfl]
    rw [k1] at hk
    cases hk
    exact .inr ⟨_,G,_,none,G + 1,0,rfl,rfl,Nat.lt_succ_self _⟩
   ·rw [if_neg e]; exact .inl hk
  refine ⟨v1,E2,e1,⟨f1,f2,f3,f4,fun b hlt hX=>f5 b hlt (.inl hX),fun b o hi=>?_,fun b o hi=>f7 b o hi,fun b o hi=>?_,fun b h ho=>⟨Nat.lt_of_lt_of_le (hb.Obd b h ho).1 hsz,(hb.Obd b h ho).2⟩,hb.β0.ext hx⟩,fun h hlt=>?_,e4.plain rfl hp⟩
  ·have hi1:=(hb.I0 b o hi).1
   exact ⟨(f6 b o (.inl hi1)).1,(f6 b o (.inl hi1)).2⟩
  ·rcases f8 b o hi with (hi1 | ⟨hi1,_⟩) | hi1 | ⟨hi1,_⟩
   ·exact hb.Inew b o hi1
   ·exact .inr (hb.Obd b 0 (k6 b hi1).1).2
   ·exact .inr (.inl hi1)
   ·exact .inr (.inr hi1)
  ·match h,hlt with
   | 0,_=>exact ⟨none,0,0,G + 1,[],by simp [E2,upd],⟨by simp,.inl ⟨rfl,rfl⟩⟩,rfl,by simp only [ST.den]; omega,by simp,⟨by intro i hi; omega,by intro i j s u hi; omega⟩,fun b hb=>by simp [Value.ownBlock] at hb⟩
theorem noRow3 {nl : BT} {n : ST} {sz : Nat} {f : Nat->List SV} {k1 k2 : IntKind} {a b : ST} (h : nl.den = true) : Lx (.tup [.sl nl n sz f,.int k1 a,.int k2 b]):=by
 refine ⟨fun E E' w v hr=>?_⟩
 obtain ⟨vs,hv,hl,hq⟩ : ∃ vs : List Value,v = .tuple ⟨vs⟩/\[SV.sl nl n sz f,.int k1 a,.int k2 b].length = vs.length/\∀ (i : Nat) (s : SV) (u : Value),[SV.sl nl n sz f,.int k1 a,.int k2 b][i]? = some s->vs[i]? = some u->Rel E w s u:=by
  cases hr with
  | ro h=>cases h
  | tup hl hq=>exact ⟨_,rfl,hl,hq⟩
 subst hv
 refine .tup hl fun i s u h1 h2=>?_
 have h3:=hq i s u h1 h2
 match i,h1 with
 | 0,h1 =>
  cases h1
  rcases h3.sl_inv.sl_inv with ⟨e1,e2,_⟩ | ⟨_,_,_,_,_,e1,_⟩
  ·rw [e1]; exact .ro (.slnil h (by simpa using e2))
  ·rw [h] at e1; cases e1
 | 1,h1=>cases h1; rw [h3.int_inv]; exact .ro (.int rfl)
 | 2,h1=>cases h1; rw [h3.int_inv]; exact .ro (.int rfl)
end Go.Sx
namespace Go.Sx
set_option maxRecDepth 10000
open Go
end Go.Sx
namespace Go.Sx
set_option maxRecDepth 10000
open Go
def Ah4 (sp : FSpec) : FSpec:=fun D xs ls K=>∃ (s1 : SV) (nl : BT) (n n0 : ST) (sz : Nat) (gr : Bool) (ty : TypeId) (f : Nat->List SV),xs = [s1,.osl nl n 0]/\Ak s1 = true/\ls = [.own ty n0 sz gr f]/\n.den = n0.den/\sp D [s1,.sl nl n sz f] [] fun r _ls'=>Ak r = true/\K r [.gone]
theorem Qf {P : Program} {gl : List (Nat×SV)} {f : FuncId} {sp : FSpec} (h : A2 P gl f sp) : A2 P gl f (Ah4 sp):=by
 refine ⟨h.1,fun as ls K hs=>?_⟩
 obtain ⟨s1,nl,n,n0,sz,gr,ty,g,rfl,hp1,rfl,hn,hs⟩:=hs
 obtain ⟨r,ls',⟨hp,hk⟩,hc⟩:=h.2 _ _ _ hs
 refine ⟨r,[.gone],hk,?_⟩
 intro B E w vals hw0 hI hdom hb hg hh hr
 have hk0:=hh 0
 simp only [Ao,nth] at hk0
 obtain ⟨v,m,xs,k1,kz,k2,k3,k4,k5,k6⟩:=hk0
 let I1 : Nat->Nat->Prop:=fun b o=>E.I b o\/(v.ownBlock = some b/\o < m * sz)
 let E1 : Env:=⟨fun _=>none,fun _=>none,fun _=>none,fun _=>none,fun _=>none,I1⟩
 let B1 : Bs:=⟨B.w0,B.X,I1,fun _=>none,fun _=>none,fun _=>none,B.dl⟩
 have hb1 : B8 B1 E1 w:=by
  refine ⟨hb.os,hb.tape,hb.output,hb.size,hb.old,fun b o hi=>⟨hi,by show w.cell? _ = B.w0.cell? _; rw [hw0]⟩,fun b o hi=>?_,fun b o hi=>.inl hi,fun b h ho=>(nomatch ho),⟨fun _ _ h=>(nomatch h),fun _ _ h=>(nomatch h),fun _ _ h=>(nomatch h)⟩⟩
  rcases hi with hi | ⟨hi,_⟩
  ·exact hb.Ibd b o hi
  ·exact A1 hb (k6 b hi).1
 have hg1 : Em B1 gl:=by
  intro q s hq
  obtain ⟨g1,g2,g3,g4⟩:=hg q s hq
  exact ⟨g1.mono (fun b o hi=>.inl (hb.I0 b o hi).1) (fun _ _ _=>rfl),g2,g3,g4⟩
 obtain ⟨u0,u,hu⟩ : ∃ u0 u,vals = [u0,u]:=by
  have:=hr.1
  match vals,this with
  | [u0,u],_=>exact ⟨u0,u,rfl⟩
 subst hu
 let E0 : Env:=⟨fun _=>none,fun _=>none,fun _=>none,fun _=>none,fun _=>none,E.I⟩
 have hx0 : Ext E0 w E1 w:=⟨fun _ _ h=>(nomatch h),fun _ _ h=>(nomatch h),fun _ _ h=>(nomatch h),fun _ _ h=>(nomatch h),fun _ _ h=>.inl h,fun _ _ _=>rfl⟩
 have hr0 : Rel E0 w s1 u0:=(hr.2 0 _ _ rfl rfl).plain rfl hp1
 have hr1 : Az E1 w [s1,.sl nl n sz g] [u0,u]:=by
  refine Az.cons (hr0.mono hx0) (Az.cons (.ro ?_) Az.nil)
  exact Aiu (hr.2 1 _ _ rfl rfl) k1 k2 k3 hn k4 k5
 refine (hc B1 E1 w [u0,u] hw0 (fun _ _ h=>h) (fun h hq=>by rcases hq with hq | hq | hq<;>exact absurd rfl hq) hb1 hg1 (fun h=>⟨rfl,rfl,rfl,rfl⟩) hr1).mono fun e w' hq=>?_
 obtain ⟨v1,E',e1,e2,_,e4⟩:=hq
 refine ⟨v1,⟨E.β,E.τ,E.O,E.κ,E.ζ,E'.I⟩,e1,⟨e2.os,e2.tape,e2.output,e2.size,e2.old,fun b o hi=>e2.I0 b o (.inl (hb.I0 b o hi).1),e2.Ibd,fun b o hi=>?_,fun b h ho=>⟨Nat.lt_of_lt_of_le (hb.Obd b h ho).1 (by rw [<-hw0]; exact e2.size),(hb.Obd b h ho).2⟩,⟨hb.β0.β,hb.β0.τ,hb.β0.ζ⟩⟩,fun h hlt=>?_,e4.plain rfl hp⟩
 ·rcases e2.Inew b o hi with (hi | ⟨hi,_⟩) | hi
  ·exact hb.Inew b o hi
  ·exact .inr (hb.Obd b 0 (k6 b hi).1).2
  ·exact .inr hi
 ·match h,hlt with
  | 0,_=>trivial
def orSp (a b : FSpec) : FSpec:=fun D xs ls K=>a D xs ls K\/b D xs ls K
theorem Aes {P : Program} {gl : List (Nat×SV)} {f : FuncId} {a b : FSpec} (h : A2 P gl f a) (k : A2 P gl f b) : A2 P gl f (orSp a b) :=
 ⟨h.1,fun xs ls K hs=>hs.elim (h.2 xs ls K) (k.2 xs ls K)⟩
end Go.Sx
