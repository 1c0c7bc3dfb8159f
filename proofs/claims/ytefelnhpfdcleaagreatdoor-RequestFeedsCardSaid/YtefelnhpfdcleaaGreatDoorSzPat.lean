/- Part of the proofs of the statements about requests (layer 7): a symbolic executor over the code, that it is sound, and contracts of functions; it has no conditions of its own. -/
import Derived.Below
import Derived.Test.YtefelnhpfdcleaaGreatDoorSzPas
namespace Go.Sx
open Go
section
variable {P : Program} {ops : Array Oper} {gl : List (Nat×SV)} {B : Bs} {N : Nat} {σ σ' : Sy} {rs : List Rec}
theorem Rk {listed : Array Bool} {i : Nat} : i∈Region.ready .any ops listed↔∃ o,ops[i]? = some o∧listed.getD i true = false∧∀ x∈Dg o.after.toList,listed.getD x false = true:=by
 unfold Region.ready
 simp only [List.mem_filter,List.mem_range,Bool.and_eq_true,Bool.not_eq_true']
 constructor
 ·rintro ⟨h1,h2,h3⟩
  have ho : ops[i]? = some ops[i]:=by simp [h1]
  rw [ho] at h3
  refine ⟨_,ho,h2,fun x hx=>?_⟩
  obtain ⟨e,he,hb,rfl⟩:=V6 hx
  simp only [Option.map_some,Option.getD_some,Array.all_eq_true_iff_forall_mem] at h3
  have:=h3 e (by simpa using he)
  simpa [hb] using this
 ·rintro ⟨o,ho,h2,h3⟩
  refine ⟨(Array.getElem?_eq_some_iff.1 ho).1,h2,?_⟩
  rw [ho]
  simp only [Option.map_some,Option.getD_some,Array.all_eq_true_iff_forall_mem]
  intro e he
  cases hb : Region.binds .any e with
  | false=>simp
  | true=>simp only [Bool.not_true,Bool.false_or]; exact h3 _ (W8 (by simpa using he) hb)
def left (n : Nat) (listed : Array Bool) : Nat:=((List.range n).filter fun i=>!listed.getD i true).length
theorem Alv {n i : Nat} {listed : Array Bool} (hi : i < n) (hs : listed.size = n) (h : listed.getD i true = false) : left n (listed.setIfInBounds i true) + 1 = left n listed:=by
 have hget : ∀ j,(listed.setIfInBounds i true).getD j true = if j = i then true else listed.getD j true:=by
  intro j
  simp only [Array.getD_eq_getD_getElem?]
  by_cases e : i = j
  ·subst e; rw [if_pos rfl,Array.getElem?_setIfInBounds_self_of_lt (by omega)]; rfl
  ·rw [if_neg (fun h=>e h.symm),Array.getElem?_setIfInBounds_ne e]
 unfold left
 have key : ∀ (l : List Nat),l.Nodup→i∈l→(l.filter fun j=>!(listed.setIfInBounds i true).getD j true).length + 1 = (l.filter fun j=>!listed.getD j true).length:=by
  intro l
  induction l with
  | nil=>intro _ h; cases h
  | cons j l ih =>
   intro hn hm
   rw [List.nodup_cons] at hn
   simp only [List.filter_cons,hget j]
   by_cases e : j = i
   ·subst e
    rw [if_pos rfl]
    simp only [Bool.not_true,Bool.false_eq_true,if_false,h,Bool.not_false,if_true,List.length_cons]
    congr 2
    refine List.filter_congr fun k hk=>?_
    rw [hget k,if_neg (fun e=>hn.1 (by rw [←e]; exact hk))]
   ·rw [if_neg e]
    have:=ih hn.2 (by rcases List.mem_cons.1 hm with h | h; exact absurd h.symm e; exact h)
    split
    ·simp only [List.length_cons]; omega
    ·exact this
 exact key _ List.nodup_range (by simpa using hi)
theorem Aji {n : Nat} {listed : Array Bool} (h : left n listed = 0) : ∀ i,i < n→listed.getD i true = true:=by
 intro i hi
 unfold left at h
 have:=List.eq_nil_of_length_eq_zero h
 rw [List.filter_eq_nil_iff] at this
 have:=this i (by simpa using hi)
 simpa using this
theorem Agm (hok : H0 ops.toList 0 = true) {listed : Array Bool} (hs : listed.size = ops.size) (h : Region.ready .any ops listed = []) : ∀ i,i < ops.size→listed.getD i true = true:=by
 intro i
 induction i using Nat.strongRecOn with
 | _ i ih =>
  intro hi
  cases hl : listed.getD i true with
  | true=>rfl
  | false =>
   have hm : i∈Region.ready .any ops listed:=by
    refine Rk.2 ⟨ops[i],by simp [hi],hl,fun x hx=>?_⟩
    have hlt:=M6 hok (j:=i) (o:=ops[i]) (by simp [hi]) x hx
    have:=ih x (by omega) (by omega)
    rw [Array.getD_eq_getD_getElem?] at this ⊢
    rw [Array.getElem?_eq_getElem (by omega)] at this ⊢
    simpa using this
   rw [h] at hm
   cases hm
def sOf (listed : Array Bool) : Nat→Bool:=fun i=>listed.getD i false
theorem Aky {n : Nat} {listed : Array Bool} (hs : listed.size = n) {i : Nat} (hi : i < n) : sOf listed i = listed.getD i true:=by
 simp [sOf,Array.getD_eq_getD_getElem?,Array.getElem?_eq_getElem (show i < listed.size by omega)]
theorem Amg {f g : Nat→SG} {a b : Nat→Hl} (h : (f,a) = (g,b)) : f = g∧a = b:=by
 simp only [Prod.mk.injEq] at h; exact h
theorem Ala {B : Bs} {E : Env} {a : Act} {w : World} {ff : Nat→SG} {hf : Nat→Hl} (st : St B N E a w ff hf) (d : Option Nat) (v : Value) (g : SG)
  (hg : ∀ cs s,g = some (cs,s)→(Bk cs→Rel E w s v)∧(¬ Bk cs→v = undef)) : St B N E (a.put d v) w (Hv N ff d g) hf:=by
 cases d with
 | none =>
  have : Hv N ff none g = ff:=by funext s; simp [Hv]
  rw [this]; exact st
 | some k =>
  by_cases hk : k < N
  ·have:=st.put (some k) v g hg (fun j hj=>by cases hj; exact hk)
   have e : Aeo ff (some k) g = Hv N ff (some k) g:=by
    funext s
    simp only [Aeo,upd,Hv,Option.some.injEq]
    by_cases e : s = k
    ·subst e; simp [hk]
    ·rw [if_neg e,if_neg (fun h=>e h.1.symm)]
   rw [←e]; exact this
  ·rw [Ag7 (by rw [st.size]; omega)]
   have e : Hv N ff (some k) g = ff:=by
    funext s
    simp only [Hv,Option.some.injEq]
    rw [if_neg (fun h=>hk (by rw [h.1]; exact h.2))]
   rw [e]; exact st
theorem Aka {ro : Option Nat} {nn : Nat} (h : Ctx P ops gl N σ σ' rs) (hg : Fp B gl) {Q : Exit→Act→World→Prop} (hfin : ∀ E a w,St B N E a w (Cn N σ'.gm (ops.toList.zip rs) (Be σ,Aq σ.hp)).1 (Cn N σ'.gm (ops.toList.zip rs) (Be σ,Aq σ.hp)).2→Q .normal a w) :
  ∀ (fuel : Nat) (listed : Array Bool) (E : Env) (a : Act) (w : World),listed.size = ops.size→left ops.size listed = fuel→Agr ops (sOf listed)→St B N E a w (xS N ops σ σ' rs (sOf listed)).1 (xS N ops σ σ' rs (sOf listed)).2→wpAnyIn (Fr ro) nn P .any ops Q fuel listed a w:=by
 have done : ∀ (listed : Array Bool) (E : Env) (a : Act) (w : World),listed.size = ops.size→(∀ i,i < ops.size→listed.getD i true = true)→St B N E a w (xS N ops σ σ' rs (sOf listed)).1 (xS N ops σ σ' rs (sOf listed)).2→Q .normal a w:=by
  intro listed E a w hs hall st
  refine hfin E a w ?_
  have : xS N ops σ σ' rs (sOf listed) = Cn N σ'.gm (ops.toList.zip rs) (Be σ,Aq σ.hp):=by
   refine Zr _ _ _ fun j hj=>?_
   simp only [Nat.zero_add]
   have hj : j < ops.size:=by simp at hj; omega
   rw [Aky hs hj]; exact hall j hj
  rw [←this]; exact st
 intro fuel
 induction fuel with
 | zero =>
  intro listed E a w hs hl hd st
  have hall:=Aji hl
  refine ⟨?_,done listed E a w hs hall st⟩
  rw [List.eq_nil_iff_forall_not_mem]
  intro i hi
  obtain ⟨o,ho,h1,_⟩:=Rk.1 hi
  rw [hall i (Array.getElem?_eq_some_iff.1 ho).1] at h1
  cases h1
 | succ fuel ih =>
  intro listed E a w hs hl hd st
  refine ⟨fun h0=>done listed E a w hs (Agm h.edges hs h0) st,fun i hi=>?_⟩
  obtain ⟨o,ho,h1,h2⟩:=Rk.1 hi
  have hin : i < ops.size:=(Array.getElem?_eq_some_iff.1 ho).1
  have hSi : sOf listed i = false:=by rw [Aky hs hin]; exact h1
  have he : ∀ x∈Dg o.after.toList,sOf listed x = true:=h2
  have hr : rs[i]? = some (rs[i]'(by rw [h.len]; exact hin)):=List.getElem?_eq_getElem _
  generalize rs[i]'(by rw [h.len]; exact hin) = rec at hr
  obtain ⟨σi,w1,w2,w3,w4⟩:=h.step i o rec ho hr
  obtain ⟨f1,f2⟩:=Amg w3
  have hagS : ∀ s∈Wa ops.toList o,(xS N ops σ σ' rs (sOf listed)).1 s = Be σi s:=fun s hs'=>by
   rw [xS_slot h hd ho hr hSi he hs',f1]
  have hguard : ∀ j want s,o.guard = some (j,want)→(nth ops.toList j).bind (·.dst) = some s→(xS N ops σ σ' rs (sOf listed)).1 s = Be σi s:=fun j want s hgd hb =>
   hagS s (by unfold Wa; exact List.mem_append.2 (.inr (Yg hgd hb)))
  -- what has come behind it
  have hsz : (listed.setIfInBounds i true).size = ops.size:=by simp [hs]
  have hset : ∀ j,sOf (listed.setIfInBounds i true) j = if j = i then true else sOf listed j:=by
   intro j
   simp only [sOf,Array.getD_eq_getD_getElem?]
   by_cases e : i = j
   ·subst e; rw [if_pos rfl,Array.getElem?_setIfInBounds_self_of_lt (by omega)]; rfl
   ·rw [if_neg (fun h=>e h.symm),Array.getElem?_setIfInBounds_ne e]
  have hd' : Agr ops (sOf (listed.setIfInBounds i true)):=by
   refine ⟨fun k ok hok hk x hx=>?_⟩
   rw [hset]
   split
   ·rfl
   ·rw [hset] at hk
    split at hk
    ·rename_i e
     subst e
     rw [ho] at hok
     cases hok
     exact he x hx
    ·exact hd.down k ok hok hk x hx
  have hx:=Ah7 h hd ho hr hSi he (S':=sOf (listed.setIfInBounds i true)) (by rw [hset,if_pos rfl]) (fun j hj=>by rw [hset,if_neg hj])
  have hleft : left ops.size (listed.setIfInBounds i true) = fuel:=by have:=Alv hin hs h1; omega
  have next : ∀ (E' : Env) (a' : Act) (w' : World),St B N E' a' w' (Eb N σ'.gm o rec (xS N ops σ σ' rs (sOf listed))).1 (Eb N σ'.gm o rec (xS N ops σ σ' rs (sOf listed))).2→wpAnyIn (Fr ro) nn P .any ops Q fuel (listed.setIfInBounds i true) a' w':=by
   intro E' a' w' st'
   refine ih _ E' a' w' hsz hleft hd' ?_
   rw [hx]; exact st'
  unfold wpOpIn
  rw [ho]
  simp only
  cases rec with
  | none =>
   have hw:=Qk (ops:=ops) rfl w4 st hguard
   rw [if_neg (by simp [hw])]
   exact ⟨fun _ _=>trivial,next E _ w (Ala st _ _ none (by simp))⟩
  | some p =>
   obtain ⟨σ1,T,r⟩:=p
   obtain ⟨q1,q2,q3,q4,q5⟩:=w4
   obtain ⟨g1,g2,g3,g4,g5,_,_,g8⟩:=Hy (ops:=ops) rfl q1 w1
   have hwant:=g8 B N E a w _ _ st hguard
   by_cases hT : Bk (Ac σ1.gm T)
   ·rw [if_pos (hwant.2 hT)]
    have hag : AgS σ1 (xS N ops σ σ' rs (sOf listed)).1 o:=fun s hs'=>by
     rw [g2]
     exact hagS s (by unfold Wa; exact List.mem_append.2 (.inl (V5 hs')))
    have hagH : AgH σ1.hp (xS N ops σ σ' rs (sOf listed)).2 r:=by
     rw [g3]
     refine ⟨fun k hk=>?_,fun x hx=>?_,fun e he'=>?_⟩
     ·have:=(Uc h hd ho hr hSi he (ρ:=(k,none)) (.inl (by simp [rdR,fpR,Adm]; exact hk))).2 rfl
      rw [this,←f2]
     ·obtain ⟨hh,off,n⟩:=x
      have:=(Uc h hd ho hr hSi he (ρ:=(hh,some (off,n))) (.inl (by simp [rdR,fpR,Adm]; exact ⟨hh,off,n,hx,rfl,rfl,rfl⟩))).1
      rw [←f2] at this
      intro ty cs hcs
      simp only at hcs this ⊢
      rcases this with e | ⟨ty',c1,c2,e1,e2,e3,e4⟩
      ·exact ⟨cs,by rw [e,hcs],rfl,fun _ _ _=>rfl⟩
      ·rw [hcs] at e2
       cases e2
       exact ⟨c1,e1,e3.symm,fun j j1 j2=>(e4 j ⟨j1,j2⟩).symm⟩
     ·have hmem : ∀ (es : List Ef),e∈es→match e with | .set k off vs=>(k,some (off,Ag vs))∈efW es | .put k _=>(k,none)∈efW es:=by
       intro es
       induction es with
       | nil=>intro h; cases h
       | cons e' es ih =>
        intro hm
        rcases List.mem_cons.1 hm with rfl | hm
        ·cases e<;>simp [efW]
        ·have:=ih hm
         cases e<;>cases e'<;>simp only [efW,List.mem_cons] at this ⊢<;>exact Or.inr this
      have hm:=hmem r.efs he'
      cases e with
      | set k off vs =>
       simp only at hm
       have:=(Uc h hd ho hr hSi he (ρ:=(k,some (off,Ag vs))) (.inr hm)).1
       rw [←f2] at this
       intro ty cs hcs
       rcases this with e | ⟨ty',c1,c2,e1,e2,e3,e4⟩
       ·exact ⟨cs,by rw [e,hcs],rfl⟩
       ·rw [hcs] at e2
        cases e2
        exact ⟨c1,e1,e3.symm⟩
      | put k hl =>
       simp only at hm
       have:=(Uc h hd ho hr hSi he (ρ:=(k,none)) (.inr hm)).2 rfl
       show (xS N ops σ σ' rs (sOf listed)).2 k = Aq σi.hp k
       rw [this,←f2]
    refine q2 B N E a w _ _ hg st hag hagH hT _ _ _ _ fun v w' E' x1 x2 x3 x4=>?_
    refine next E' _ w' ?_
    simp only [Eb,q5]
    exact Ala (st.step x1 x2 x3) _ _ _ (by rintro cs s ⟨⟩; exact ⟨fun _=>x4,fun h=>absurd hT h⟩)
   ·rw [if_neg (fun h=>hT (hwant.1 h))]
    refine ⟨fun _ _=>trivial,next E _ w ?_⟩
    have hef : r.efs = []:=by
     rcases q4.1 with h | h | h
     ·subst h; exact absurd trivial hT
     ·exact h
     ·exact absurd h hT
    simp only [Eb,q5,hef,Iw]
    exact Ala st _ _ _ (by rintro cs s ⟨⟩; exact ⟨fun h=>absurd h hT,fun _=>rfl⟩)
theorem Abk (hm : P.follows .mixedOrders = true) : Su P:=by
 intro ro nn gl id ops B N σ σ' rs hg hruns hedges hind Q E a w hs hQ
 obtain ⟨r1,r2,r3,r4,r5,r6,r7⟩:=Akz hruns hs.wf N hs.len
 have hctx : Ctx P ops gl N σ σ' rs:=⟨by rw [r1]; simp,fun i o rec ho hr=>r7 i o rec (by rw [Array.getElem?_toList]; exact ho) hr,hedges,hind⟩
 obtain ⟨e1,e2⟩:=Amg r6
 refine wpIn_region_any hm ?_
 have hbase:=hs.st.base
 have hst : St B N E a { w with drawn:=w.drawn + 1 } (Be σ) (Aq σ.hp) :=
  hs.st.step (E':=E) (w':={ w with drawn:=w.drawn + 1 }) ⟨fun _ _ h=>h,fun _ _ h=>.inl h,fun _ _ h=>h,fun _ _ h=>h,fun _ _ h=>h,fun _ _ _=>rfl⟩ ⟨hbase.os,hbase.tape,hbase.output,hbase.size,hbase.old,hbase.I0,hbase.Ibd,hbase.Inew,hbase.Obd,hbase.β0⟩
   fun k=>HOk.keep (E:=E) (w:=w) (E':=E) (w':={ w with drawn:=w.drawn + 1 }) ⟨fun _ _ h=>h,fun _ _ h=>.inl h,fun _ _ h=>h,fun _ _ h=>h,fun _ _ h=>h,fun _ _ _=>rfl⟩ (hs.st.heap k) rfl rfl rfl rfl fun b hO=>⟨hO,rfl,fun _ h=>h⟩
 refine Aka (B:=B) hctx hg (fun E' a' w' st'=>?_) ops.size _ E a _ (by simp) ?_ ⟨fun k o _ hk=>?_⟩ ?_
 ·refine hQ E' a' w' ⟨?_,r3,r2,fun k hk=>Nat.lt_of_lt_of_le (hs.ge k hk) r4⟩
  rw [e1,e2]; exact st'
 ·unfold left
  rw [List.filter_eq_self.2]
  ·simp
  ·intro i hi; simp at hi; simp [Array.getD_eq_getD_getElem?,hi]
 ·exfalso
  simp only [sOf,Array.getD_eq_getD_getElem?,Array.getElem?_replicate] at hk
  split at hk<;>simp at hk
 ·have : xS N ops σ σ' rs (sOf (Array.replicate ops.size false)) = (Be σ,Aq σ.hp):=by
   refine Lb _ _ _ fun j _=>?_
   simp only [sOf,Array.getD_eq_getD_getElem?,Array.getElem?_replicate]
   split<;>rfl
  rw [this]; exact hst
end
end Go.Sx
namespace Go.Sx
open Go
theorem Ak1 {P : Program} {D : Dn} {tt : List (Nat×TI)} {tab : List (Nat×FSpec)} {gl : List (Nat×SV)} {eqs : List TypeId} {gh : List (Nat×List Gh)} : Xp P ⟨D,tt,tab,gl,eqs,gh,[],[]⟩:=⟨fun _ h=>(by cases h),fun _ h=>(by cases h)⟩
theorem A4 {P : Program} (hm : P.follows .mixedOrders = true) {tt : List (Nat×TI)} {tab : List (Nat×FSpec)} {gl : List (Nat×SV)} {eqs : List TypeId} {gh : List (Nat×List Gh)} (hc : A5 P ⟨dn,tt,tab,gl,eqs,gh,[],[]⟩) (htab : E9 P gl tab) {f : FuncId} {fn : Func} (hf : P.funcs[f]? = some fn) (hgood : (fn.name == "runtime.NumGoroutine") = false) (hb : fn.body.isSome = true) {sp : FSpec}
  (h : ∀ (as : List SV) (ls : List Hl) (K : SV→List Hl→Prop),sp dn as ls K→∃ r ls',K r ls'∧∀ D,D = dn→body ⟨D,tt,tab,gl,eqs,gh,[],[]⟩ fn as ls fun r' ls''=>Fin r' r ls'' ls') : Ar P gl f sp:=by
 refine ⟨?_,fun as ls K hs=>?_⟩
 ·obtain ⟨c,hc⟩:=Option.isSome_iff_exists.1 hb
  exact ⟨fn,c,hf,hc,hgood⟩
 ·obtain ⟨r,ls',hK,hbody⟩:=h as ls K hs
  exact ⟨r,ls',hK,Ub (Abk hm) hc htab Ak1 hf (hbody dn rfl)⟩
theorem Wz {P : Program} (hm : P.follows .mixedOrders = true) {tt : List (Nat×TI)} {tab : List (Nat×FSpec)} {gl : List (Nat×SV)} {eqs : List TypeId} {gh : List (Nat×List Gh)} (hc : A5 P ⟨dn,tt,tab,gl,eqs,gh,[],[]⟩) (htab : E9 P gl tab) {f : FuncId} {fn : Func} (hf : P.funcs[f]? = some fn) (hgood : (fn.name == "runtime.NumGoroutine") = false) (hb : fn.body.isSome = true) {sp : FSpec}
  (h : ∀ (as : List SV) (ls : List Hl) (K : SV→List Hl→Prop),sp dn as ls K→∃ r ls',K r ls'∧∀ D,D = dn→Ah2 ⟨D,tt,tab,gl,eqs,gh,[],[]⟩ fn as ls fun r' ls''=>Fin r' r ls'' ls') : Ar P gl f sp:=by
 refine ⟨?_,fun as ls K hs=>?_⟩
 ·obtain ⟨c,hc⟩:=Option.isSome_iff_exists.1 hb
  exact ⟨fn,c,hf,hc,hgood⟩
 ·obtain ⟨r,ls',hK,hbody⟩:=h as ls K hs
  exact ⟨r,ls',hK,Kp (Abk hm) hc htab Ak1 hf (hbody dn rfl)⟩
theorem Ahr {P : Program} (hm : P.follows .mixedOrders = true) {tt : List (Nat×TI)} {tab : List (Nat×FSpec)} {gl : List (Nat×SV)} {eqs : List TypeId} {gh : List (Nat×List Gh)} {its : List (Nat×(FSpec→FSpec))} {yl : List FSpec} (hc : A5 P ⟨dn,tt,tab,gl,eqs,gh,its,yl⟩) (htab : E9 P gl tab) (hrg : Xp P ⟨dn,tt,tab,gl,eqs,gh,its,yl⟩) {f : FuncId} {fn : Func} (hf : P.funcs[f]? = some fn) (hgood : (fn.name == "runtime.NumGoroutine") = false) (hb : fn.body.isSome = true) {sp : FSpec}
  (h : ∀ (as : List SV) (ls : List Hl) (K : SV→List Hl→Prop),sp dn as ls K→∃ r ls',K r ls'∧∀ D,D = dn→Ah2 ⟨D,tt,tab,gl,eqs,gh,its,yl⟩ fn as ls fun r' ls''=>Fin r' r ls'' ls') : Ar P gl f sp:=by
 refine ⟨?_,fun as ls K hs=>?_⟩
 ·obtain ⟨c,hc⟩:=Option.isSome_iff_exists.1 hb
  exact ⟨fn,c,hf,hc,hgood⟩
 ·obtain ⟨r,ls',hK,hbody⟩:=h as ls K hs
  exact ⟨r,ls',hK,Kp (Abk hm) hc htab hrg hf (hbody dn rfl)⟩
theorem fnOkJ {P : Program} (hm : P.follows .mixedOrders = true) {tt : List (Nat×TI)} {tab : List (Nat×FSpec)} {gl : List (Nat×SV)} {eqs : List TypeId} {gh : List (Nat×List Gh)} (hc : A5 P ⟨dn,tt,tab,gl,eqs,gh,[],[]⟩) (htab : E9 P gl tab) {f : FuncId} {fn : Func} (hf : P.funcs[f]? = some fn) (hgood : (fn.name == "runtime.NumGoroutine") = false) {l : Nat} {pre c rest : Code} (hb : fn.body = some (.seq pre (.scope c))) (hl : findLabel c l = some rest) {sp : FSpec}
  (h : ∀ (as : List SV) (ls : List Hl) (K : SV→List Hl→Prop),sp dn as ls K→∃ r ls',K r ls'∧∀ D,D = dn→bodyJ ⟨D,tt,tab,gl,eqs,gh,[],[]⟩ fn pre c l rest as ls fun r' ls''=>Fin r' r ls'' ls') : Ar P gl f sp:=by
 refine ⟨⟨fn,_,hf,hb,hgood⟩,fun as ls K hs=>?_⟩
 obtain ⟨r,ls',hK,hbody⟩:=h as ls K hs
 exact ⟨r,ls',hK,Sn (Abk hm) hc htab Ak1 hf hb hl (hbody dn rfl)⟩
theorem Ae {P : Program} {gl : List (Nat×SV)} : E9 P gl []:=by intro x h; cases h
theorem Aa {P : Program} {gl : List (Nat×SV)} {tab : List (Nat×FSpec)} {f : Nat} {sp : FSpec} (h : Ar P gl f sp) (ht : E9 P gl tab) (hf : Nat.blt f 1000000 = true:=by decide) : E9 P gl ((f,sp) :: tab):=by
 intro x hx
 rcases List.mem_cons.1 hx with rfl | hx
 ·show Ar P gl (W0 f) sp
  rw [W0,if_pos hf]; exact h
 ·exact ht x hx
theorem Fu {P : Program} {gl : List (Nat×SV)} {tab : List (Nat×FSpec)} {f : Nat} {sp : FSpec} (h : Ar P gl f sp) (ht : E9 P gl tab) : E9 P gl ((f + 1000000,sp) :: tab):=by
 intro x hx
 rcases List.mem_cons.1 hx with rfl | hx
 ·show Ar P gl (W0 (f + 1000000)) sp
  have e : W0 (f + 1000000) = f:=by
   unfold W0
   rw [if_neg (by rw [Nat.blt_eq]; omega),Nat.add_sub_cancel]
  rw [e]; exact h
 ·exact ht x hx
theorem br {D : Dn} (hD : D = dn) {b : BT} {A B : Prop} (ht : b.den = true→A) (hf : b.den = false→B) : (D.b b = true→A)∧(D.b b = false→B):=by subst hD; exact ⟨ht,hf⟩
theorem B7 {s s' : SV} {ls ls' : List Hl} (h : s = s') (hl : ls = ls') : Fin s s' ls ls':=by subst h hl; exact ⟨LeV.refl s,LeH.refl ls,Nat.le_refl _⟩
theorem int_eq {D : Dn} (hD : D = dn) {k : IntKind} {t : ST} {n : Int} (h : t.den = n) : SV.int k (.a (D.i t)) = .int k (.a n):=by subst hD h; rfl
theorem bool_eq {D : Dn} (hD : D = dn) {t : BT} {b : Bool} (h : t.den = b) : SV.bool (.a (D.b t)) = .bool (.a b):=by subst hD h; rfl
theorem Bq {D : Dn} (hD : D = dn) {k : IntKind} {t : ST} {n : Int} {ls : List Hl} (h : t.den = n) : Fin (.int k (.a (D.i t))) (.int k (.a n)) ls ls:=B7 (int_eq hD h) rfl
theorem Aj {D : Dn} (hD : D = dn) {t : BT} {b : Bool} {ls : List Hl} (h : t.den = b) : Fin (.bool (.a (D.b t))) (.bool (.a b)) ls ls:=B7 (bool_eq hD h) rfl
@[simp] theorem den_a (n : Int) : (ST.a n).den = n:=rfl
@[simp] theorem den_l (n : Int) : (ST.l n).den = n:=rfl
@[simp] theorem den_len (s : List UInt8) : (ST.len s).den = s.length:=rfl
@[simp] theorem den_add (k : IntKind) (x y : ST) : (ST.bin .add k x y).den = k.wrap (x.den + y.den):=rfl
@[simp] theorem den_sub (k : IntKind) (x y : ST) : (ST.bin .sub k x y).den = k.wrap (x.den - y.den):=rfl
@[simp] theorem den_mul (k : IntKind) (x y : ST) : (ST.bin .mul k x y).den = k.wrap (x.den * y.den):=rfl
@[simp] theorem den_quo (k : IntKind) (x y : ST) : (ST.bin .quo k x y).den = k.wrap (x.den.tdiv y.den):=rfl
@[simp] theorem den_rem (k : IntKind) (x y : ST) : (ST.bin .rem k x y).den = x.den.tmod y.den:=rfl
@[simp] theorem den_cv (k : IntKind) (x : ST) : (ST.cv k x).den = k.wrap x.den:=rfl
@[simp] theorem bden_a (b : Bool) : (BT.a b).den = b:=rfl
@[simp] theorem bden_l (b : Bool) : (BT.l b).den = b:=rfl
@[simp] theorem bden_lss (x y : ST) : (BT.cmp .lss x y).den = true↔x.den < y.den:=by simp [BT.den,B8]
@[simp] theorem bden_lss' (x y : ST) : (BT.cmp .lss x y).den = false↔y.den≤x.den:=by simp [BT.den,B8]
@[simp] theorem bden_leq (x y : ST) : (BT.cmp .leq x y).den = true↔x.den≤y.den:=by simp [BT.den,B8]
@[simp] theorem bden_leq' (x y : ST) : (BT.cmp .leq x y).den = false↔y.den < x.den:=by simp [BT.den,B8]
@[simp] theorem bden_gtr (x y : ST) : (BT.cmp .gtr x y).den = true↔y.den < x.den:=by simp [BT.den,B8]
@[simp] theorem bden_gtr' (x y : ST) : (BT.cmp .gtr x y).den = false↔x.den≤y.den:=by simp [BT.den,B8]
@[simp] theorem bden_geq (x y : ST) : (BT.cmp .geq x y).den = true↔y.den≤x.den:=by simp [BT.den,B8]
@[simp] theorem bden_geq' (x y : ST) : (BT.cmp .geq x y).den = false↔x.den < y.den:=by simp [BT.den,B8]
@[simp] theorem bden_eql (x y : ST) : (BT.cmp .eql x y).den = true↔x.den = y.den:=by simp [BT.den,B8]
@[simp] theorem bden_eql' (x y : ST) : (BT.cmp .eql x y).den = false↔x.den≠y.den:=by simp [BT.den,B8]
@[simp] theorem bden_neq (x y : ST) : (BT.cmp .neq x y).den = true↔x.den≠y.den:=by simp [BT.den,B8]
@[simp] theorem bden_neq' (x y : ST) : (BT.cmp .neq x y).den = false↔x.den = y.den:=by simp [BT.den,B8]
@[simp] theorem bden_not (x : BT) : (BT.not x).den = true↔x.den = false:=by simp [BT.den]
@[simp] theorem bden_not' (x : BT) : (BT.not x).den = false↔x.den = true:=by simp [BT.den]
@[simp] theorem bden_and (x y : BT) : (BT.and x y).den = true↔x.den = true∧y.den = true:=by simp [BT.den]
@[simp] theorem bden_and' (x y : BT) : (BT.and x y).den = false↔(x.den = true→y.den = false):=by simp only [BT.den]; cases x.den<;>simp
@[simp] theorem bden_or (x y : BT) : (BT.or x y).den = true↔(x.den = false→y.den = true):=by simp only [BT.den]; cases x.den<;>simp
@[simp] theorem bden_or' (x y : BT) : (BT.or x y).den = false↔x.den = false∧y.den = false:=by simp [BT.den]
@[simp] theorem bden_beq (x y : BT) : (BT.beq x y).den = true↔x.den = y.den:=by simp [BT.den]
@[simp] theorem bden_beq' (x y : BT) : (BT.beq x y).den = false↔x.den = !y.den:=by simp only [BT.den]; cases x.den<;>cases y.den<;>simp
@[simp] theorem bden_seq (s t : List UInt8) : (BT.seq s t).den = true↔s = t:=by simp [BT.den]
@[simp] theorem bden_seq' (s t : List UInt8) : (BT.seq s t).den = false↔s≠t:=by simp [BT.den]
theorem Am {n : Int} (h1 : -9223372036854775808≤n) (h2 : n≤9223372036854775807) : IntKind.i64.wrap n = n:=IntWalk.i64_in _ ⟨by omega,by omega⟩
end Go.Sx
namespace Go.Sx
open Go Go.RowKit
theorem Bt {P : Program} {gl : List (Nat×SV)} {f : FuncId} {as : List SV} {r : SV}
  (h : ∀ (E : Env) (B : Bs) (w : World) (vals : List Value),Fp B gl→Cm B E w→B.w0 = w→A2 E w as vals→Calls P f ⟨vals⟩ w fun e w'=>∃ v,e = .returned v∧(∀ E,Rel E w' r v)∧Below w.heap.size w w') : Dk P gl f as [] r []:=by
 intro B E w vals hw0 hI hdom hb hg hh hr
 refine (h E B w vals hg hb hw0 hr).mono fun e w' hq=>?_
 obtain ⟨v,rfl,hv,hB⟩:=hq
 refine ⟨v,E,rfl,?_,fun h hlt=>absurd hlt (by simp),hv E⟩
 refine ⟨hB.os.trans hb.os,hB.tape.trans hb.tape,hB.output.trans hb.output,Nat.le_trans hb.size hB.size,fun b hlt hx=>?_,fun b o h0=>?_,fun b o hi=>Nat.lt_of_lt_of_le (hb.Ibd b o hi) hB.size,hb.Inew,fun b h ho=>⟨Nat.lt_of_lt_of_le (hb.Obd b h ho).1 hB.size,(hb.Obd b h ho).2⟩,hb.β0⟩
 ·rw [hB.block b (by rw [←hw0]; exact hlt)]; exact hb.old b hlt hx
 ·have h1:=hb.I0 b o h0
  refine ⟨h1.1,?_⟩
  rw [hB.cell (p:=⟨b,o,none⟩) (hb.Ibd b o h1.1)]
  exact h1.2
theorem D0 {E : Env} {w : World} {s : List UInt8} {v : Value} (h : Rel E w (.str s) v) : v = .string (bytes s):=by
 cases h with
 | ro h=>cases h with
  | str h=>exact h
theorem K1 {E : Env} {w : World} {k : IntKind} {t : ST} {v : Value} (h : Rel E w (.int k t) v) : v = .int k t.den:=by
 cases h with
 | ro h=>cases h with
  | int h=>rw [h]
theorem Aci {E : Env} {w : World} {a : SV} {vals : List Value} (h : A2 E w [a] vals) : ∃ v,vals = [v]∧Rel E w a v:=by
 match vals,h with
 | [v],h=>exact ⟨v,rfl,h.2 0 a v rfl rfl⟩
 | [],h=>exact absurd h.1 (by simp)
 | _ :: _ :: _,h=>exact absurd h.1 (by simp)
theorem Ek {E : Env} {w : World} {a b : SV} {vals : List Value} (h : A2 E w [a,b] vals) : ∃ v u,vals = [v,u]∧Rel E w a v∧Rel E w b u:=by
 match vals,h with
 | [v,u],h=>exact ⟨v,u,rfl,h.2 0 a v rfl rfl,h.2 1 b u rfl rfl⟩
 | [],h=>exact absurd h.1 (by simp)
 | [_],h=>exact absurd h.1 (by simp)
 | _ :: _ :: _ :: _,h=>exact absurd h.1 (by simp)
end Go.Sx
namespace Go.Sx
open Go
def LeL (cs cs' : List SV) : Prop:=∀ (E : Env) (w : World) (vs : List Value),A2 E w cs vs→A2 E w cs' vs
theorem LeL.nil : LeL [] []:=fun _ _ _ h=>h
theorem LeL.refl (cs : List SV) : LeL cs cs:=fun _ _ _ h=>h
theorem LeL.cons {c c' : SV} {cs cs' : List SV} (h : LeV c c') (hs : LeL cs cs') : LeL (c :: cs) (c' :: cs'):=by
 intro E w vs hr
 match vs,hr with
 | v :: vs,hr =>
  exact .cons (h E w v (hr.2 0 c v rfl rfl)) (hs E w vs ⟨by have:=hr.1; simpa using this,fun i s v a b=>hr.2 (i + 1) s v (by simpa using a) (by simpa using b)⟩)
 | [],hr=>exact absurd hr.1 (by simp)
theorem LeV.agg {cs cs' : List SV} (h : LeL cs cs') : LeV (.agg cs) (.agg cs'):=by
 intro E w v hr
 obtain ⟨vs,rfl,hl⟩:=hr.agg_inv
 exact (h E w vs hl).agg
theorem LeV.tup {cs cs' : List SV} (h : LeL cs cs') : LeV (.tup cs) (.tup cs'):=by
 intro E w v hr
 obtain ⟨vs,rfl,hl⟩:=hr.tup_inv
 have:=h E w vs hl
 exact .tup this.1 this.2
theorem LeV.sl {nl nl' : BT} {n n' : ST} {sz : Nat} {f f' : Nat→List SV} (h1 : nl.den = nl'.den) (h2 : n.den = n'.den) (h : ∀ i : Nat,(i : Int) < n.den→f i = f' i) : LeV (.sl nl n sz f) (.sl nl' n' sz f'):=by
 intro E w v hr
 have hr:=hr.sl_inv
 rcases hr.sl_inv with ⟨rfl,e0,e1⟩ | ⟨a,m,cap,g,rfl,e1,e2,e3,e3',e4,e5,e5',e6,e7⟩
 ·exact .ro (.slnil (by rw [←h1]; exact e1) (by rw [←h2]; exact e0))
 ·have hf : ∀ i,i < m→f' i = f i:=fun i hi=>(h i (by omega)).symm
  exact .ro (.sl g (by rw [←h1]; exact e1) (by rw [←h2]; exact e2) e3 e3' e4 (fun i hi=>by rw [hf i hi]; exact e5 i hi) e5' e6 (fun i j s hi hs=>by rw [hf i hi] at hs; exact e7 i j s hi hs))
theorem LeH.nil : LeH [] []:=LeH.refl []
theorem LeH.cons {l l' : Hl} {ls ls' : List Hl} (h : ∀ (k : Nat) (E : Env) (w : World),HOk E w k l→HOk E w k l') (hs : ∀ (k i : Nat) (E : Env) (w : World),HOk E w k (Aq ls i)→HOk E w k (Aq ls' i)) : ∀ (k i : Nat) (E : Env) (w : World),HOk E w k (Aq (l :: ls) i)→HOk E w k (Aq (l' :: ls') i)
 | k,0,E,w,hk=>h k E w hk
 | k,i + 1,E,w,hk=>hs k i E w hk
theorem Af1 {ls ls' : List Hl} (hs : ∀ (k i : Nat) (E : Env) (w : World),HOk E w k (Aq ls i)→HOk E w k (Aq ls' i)) : LeH ls ls':=fun h E w hk=>hs h h E w hk
theorem leH_blk {ty : TypeId} {cs cs' : List SV} (h : LeL cs cs') (k : Nat) (E : Env) (w : World) (hk : HOk E w k (.blk ty cs)) : HOk E w k (.blk ty cs'):=by
 obtain ⟨b,C,k1,k2,k3,k4,k5,k6⟩:=hk.blk_inv
 have hn:=h E w _ k4
 exact ⟨b,C,k1,k2,k3,by have:=hn.1; simpa using this.symm,fun i s v p q=>hn.2 i s v p (by simpa using q),fun v hv=>k5 v (by simpa using hv),k6⟩
theorem D6 {s s' : SV} (h : LeV s s') : Fin s s' [] []:=⟨h,LeH.refl [],Nat.le_refl _⟩
theorem Ze {nl nl' : BT} {n n' : ST} {h : Nat} (h1 : nl.den = nl'.den) (h2 : n.den = n'.den) : LeV (.osl nl n h) (.osl nl' n' h):=by
 intro E w v hr
 obtain ⟨⟨a,m,c,t1,t2,t3⟩,a0,m0,c0,q1,q2,q3⟩:=hr.osl_inv
 exact .osl ⟨a,m,c,t1,by rw [←h2]; exact t2,by rw [←h1]; exact t3⟩ ⟨a0,m0,c0,q1,by rw [←h2]; exact q2,by rw [←h2]; exact q3⟩
theorem leH_own {ty : TypeId} {n n' : ST} {sz : Nat} {gr : Bool} {f f' : Nat→List SV} (h2 : n.den = n'.den) (h : ∀ i : Nat,(i : Int) < n.den→f i = f' i) (k : Nat) (E : Env) (w : World) (hk : HOk E w k (.own ty n sz gr f)) : HOk E w k (.own ty n' sz gr f'):=by
 obtain ⟨v,m,xs,k1,kz,k2,k3,k4,k5,k6⟩:=hk
 have hf : ∀ i,i < m→f' i = f i:=fun i hi=>(h i (by omega)).symm
 exact ⟨v,m,xs,k1,kz,k2,by rw [←h2]; exact k3,k4,⟨fun i hi=>by rw [hf i hi]; exact k5.1 i hi,fun i j s u hi hs=>by rw [hf i hi] at hs; exact k5.2 i j s u hi hs⟩,k6⟩
theorem leVsl {nl nl' : BT} {n n' g g' : ST} {h : Nat} (h1 : nl.den = nl'.den) (h2 : n.den = n'.den) (h3 : g.den = g'.den) : LeV (.vsl nl n g h) (.vsl nl' n' g' h):=by
 intro E w v hr
 obtain ⟨⟨a,m,c,t1,t2,t3⟩,a0,m0,c0,q1,q2,q3⟩:=hr.vsl_inv
 exact .vsl ⟨a,m,c,t1,by rw [←h2]; exact t2,by rw [←h1]; exact t3⟩ ⟨a0,m0,c0,q1,by rw [←h3]; exact q2,by rw [←h3,←h2]; exact q3⟩
theorem Ahj {ty : TypeId} {n n' g g' : ST} {sz : Nat} {f f' : Nat→List SV} (h2 : n.den = n'.den) (h3 : g.den = g'.den) (h : ∀ i : Nat,(i : Int) < n.den→f i = f' i) (k : Nat) (E : Env) (w : World) (hk : HOk E w k (.vec ty n g sz f)) : HOk E w k (.vec ty n' g' sz f'):=by
 obtain ⟨a,c,m,G,xs,k1,k2,k3,kg,k4,k5,k6⟩:=hk
 have hf : ∀ i,i < m→f' i = f i:=fun i hi=>(h i (by omega)).symm
 exact ⟨a,c,m,G,xs,k1,k2,by rw [←h2]; exact k3,by rw [←h3]; exact kg,k4,⟨fun i hi=>by rw [hf i hi]; exact k5.1 i hi,fun i j s u hi hs=>by rw [hf i hi] at hs; exact k5.2 i j s u hi hs⟩,k6⟩
theorem Se {s s' : SV} {ty : TypeId} {n n' : ST} {sz : Nat} {gr : Bool} {f f' : Nat→List SV} (h : LeV s s') (h2 : n.den = n'.den) (hf : ∀ i : Nat,(i : Int) < n.den→f i = f' i) : Fin s s' [.own ty n sz gr f] [.own ty n' sz gr f'] :=
 ⟨h,Af1 (LeH.cons (leH_own h2 hf) fun _ _ _ _ h=>h),Nat.le_refl _⟩
theorem E7 {k : IntKind} {t t' : ST} (h : t.den = t'.den) : LeV (.int k t) (.int k t'):=by
 intro E w v hr
 rw [hr.int_inv]
 exact .int h.symm
theorem Ry {t t' : BT} (h : t.den = t'.den) : LeV (.bool t) (.bool t'):=by
 intro E w v hr
 rw [hr.bool_inv]
 exact .bool h.symm
end Go.Sx
