/- Part of the proofs of the statements about requests (layer 7): a symbolic executor over the code, that it is sound, and contracts of functions; it has no conditions of its own. -/
import Derived.Below
import Derived.Laws.IdiomStrings
import Derived.Laws.AppendOwn
import Derived.Test.YtefelnhpfdcleaaGreatDoorE7Pa
namespace Go.Sx
open Go
section
variable {P : Program} {cx : Cx} {σ : Sy} {T : List Nat} {o : Oper} {K : Out→Prop}
theorem normH_get (D : Dn) : ∀ (ls : List Hl) (i : Nat),(normH D ls)[i]? = (ls[i]?).map fun l=>match l with
  | .blk ty cs=>.blk ty (loose.looseL (norm.normL D cs))
  | .own ty n sz gr f=>.own ty (.a (D.i n)) sz gr f
  | l=>l
 | [],i=>by simp [normH]
 | l :: ls,i=>by
  cases i with
  | zero=>cases l<;>simp [normH,normH.looseL]
  | succ i=>cases l<;>simp [normH,normH_get D ls i]
theorem len_normH (D : Dn) : ∀ (ls : List Hl),(normH D ls).length = ls.length
 | []=>rfl
 | l :: ls=>by cases l<;>simp [normH,len_normH D ls]
def okP : Hl→Prop
 | .blk _ cs=>∀ c∈cs,plainV c = true
 | .own ..=>True
 | .bld ..=>True
 | .gone=>True
 | _=>False
theorem plainH_get : ∀ {ls : List Hl},plainH ls = true→∀ {i : Nat} {l : Hl},ls[i]? = some l→okP l
 | [],_,i,l,h=>by simp at h
 | l0 :: ls,hp,i,l,h=>by
  cases i with
  | zero =>
   simp at h; subst h
   cases l0<;>simp only [plainH,Bool.false_eq_true,Bool.and_eq_true] at hp<;>first | trivial | skip
   exact fun c hc=>(plainL_iff _).1 (by simpa [plainV] using hp.1) c hc
  | succ i =>
   simp at h
   cases l0<;>simp only [plainH,Bool.false_eq_true,Bool.and_eq_true] at hp<;>first | exact plainH_get hp h | exact plainH_get hp.2 h
theorem HOk.move {E E' : Env} {w : World} {i k : Nat} {l : Hl} (h : HOk E w i l) (ho : okP l) (hI : E'.I = E.I) (hβ : E'.β k = E.β i) (hτ : E'.τ k = E.τ i) (hζ : E'.ζ k = E.ζ i) (hO : ∀ b,E.O b = some i→E'.O b = some k) : HOk E' w k l:=by
 cases l with
 | fresh=>exact ho.elim
 | gone=>trivial
 | blk ty cs =>
  obtain ⟨b,C,k1,k2,k3,k4,k5,k6,k7⟩:=h
  exact ⟨b,C,by rw [hβ]; exact k1,hO b k2,k3,k4,fun j s v p q=>(k5 j s v p q).plain hI (ho s (List.mem_of_getElem? p)),k6,by rw [hI]; exact k7⟩
 | tail ty n sz=>exact ho.elim
 | row ty n sz f=>exact ho.elim
 | own ty n sz gr f =>
  obtain ⟨v,m,xs,k1,k2,k3,k4,k5,k6,k7⟩:=h
  exact ⟨v,m,xs,by rw [hτ]; exact k1,by rw [hζ]; exact k2,k3,k4,k5,⟨k6.1,by rw [hI]; exact k6.2⟩,fun b hb=>⟨hO b (k7 b hb).1,by rw [hI]; exact (k7 b hb).2⟩⟩
 | bld T e s =>
  obtain ⟨b,p,v,k1,k2,k3,k4,k5,k6,k7,k8⟩:=h
  exact ⟨b,p,v,by rw [hβ]; exact k1,hO b k2,k3,k4,k5,k6,by rw [hI]; exact k7,fun g hg=>⟨hO g (k8 g hg).1,by rw [hI]; exact (k8 g hg).2⟩⟩
 | mset F=>exact ho.elim
 | vec ty n g sz f=>exact ho.elim
 | lrec c fr s pd=>exact ho.elim
theorem resL_iff (m m' : Nat) : ∀ (cs : List SV),resV.resL m m' cs = true↔∀ c∈cs,resV m m' c = true
 | []=>by simp [resV.resL]
 | c :: cs=>by simp [resV.resL,resL_iff m m' cs]
theorem reL_eq (m a : Nat) : ∀ (cs : List SV),reV.reL m a cs = cs.map (reV m a)
 | []=>rfl
 | c :: cs=>by simp [reV.reL,reL_eq m a cs]
theorem reV_plain {m a : Nat} {s : SV} (h1 : ∀ nl n h,s≠.osl nl n h) (h2 : ∀ vs,s≠.tup vs) : reV m a s = s:=by
 cases s<;>first | rfl | exact absurd rfl (h1 _ _ _) | exact absurd rfl (h2 _)
theorem Rel.res {E E' : Env} {w : World} {m m' a : Nat} {s : SV} {v : Value} (h : Rel E w s v) (hI : E'.I = E.I) (hτ : ∀ k u,m≤k→k < m'→E.τ k = some u→E'.τ (k - m + a) = some u) (hp : resV m m' s = true) : Rel E' w (reV m a s) v:=by
 induction h with
 | ro h =>
  rename_i s v
  have:=reV_plain (m:=m) (a:=a) (s:=s) (fun _ _ _ e=>by subst e; cases h) (fun _ e=>by subst e; cases h)
  rw [this]; exact .ro (by rw [hI]; exact h)
 | osl ht hk =>
  obtain ⟨a0,m0,c0,t1,t2⟩:=hk
  simp only [resV,Bool.and_eq_true,Nat.blt_eq] at hp
  exact .osl ht ⟨a0,m0,c0,hτ _ _ (Nat.le_of_ble_eq_true hp.1) hp.2 t1,t2⟩
 | tup hl _ ih =>
  simp only [reV,reL_eq]
  refine .tup (by simp [hl]) fun i s v h1 h2=>?_
  rw [List.getElem?_map] at h1
  cases e : (‹List SV›)[i]? with
  | none=>rw [e] at h1; cases h1
  | some s' =>
   rw [e] at h1; cases h1
   simp only [resV] at hp
   exact ih i s' v e h2 ((resL_iff m m' _).1 hp s' (List.mem_of_getElem? e))
 | agg hl hh _=>exact (Rel.agg hl hh).plain hI hp
 | ptr hb hv=>simp [resV,plainV] at hp
 | gsl hr ht=>simp [resV,plainV] at hp
 | mrow hb hm hv=>simp [resV,plainV] at hp
 | mptr hb hz hv=>simp [resV,plainV] at hp
 | optr hv ho=>simp [resV,plainV] at hp
 | mapv hb hv=>simp [resV,plainV] at hp
 | yv hb hv=>simp [resV,plainV] at hp
 | vsl ht hk=>simp [resV,plainV] at hp
 | tsl ht hk=>simp [resV,plainV] at hp
 | clo hl _=>simp [resV,plainV] at hp
theorem efsF_append (hf : Nat→Hl) : ∀ (a b : List Ef),efsF hf (a ++ b) = efsF (efsF hf a) b
 | [],b=>rfl
 | e :: a,b=>by show efsF (efF hf e) (a ++ b) = _; rw [efsF_append]; rfl
theorem efsF_new : ∀ (ls : List Hl) (a : Nat) (hf : Nat→Hl) (k : Nat),efsF hf (newEfs a ls) k = if a≤k∧k < a + ls.length then (ls[k - a]?).getD .gone else hf k
 | [],a,hf,k=>by
  rw [if_neg (fun h=>by have:=h.1; have h2 : k < a + 0:=h.2; omega)]
  rfl
 | l :: ls,a,hf,k=>by
  show efsF (upd hf a l) (newEfs (a + 1) ls) k = _
  rw [efsF_new ls (a + 1) (upd hf a l) k]
  by_cases e : k = a
  ·subst e
   rw [if_neg (by omega),if_pos (by simp)]
   simp [upd]
  ·by_cases e2 : a + 1≤k∧k < a + 1 + ls.length
   ·rw [if_pos e2,if_pos (by simp; omega)]
    obtain ⟨q,hq⟩ : ∃ q,k - a = q + 1:=⟨k - a - 1,by omega⟩
    rw [hq,show k - (a + 1) = q by omega]
    simp
   ·rw [if_neg e2,if_neg (by simp; omega)]
    simp [upd,e]
theorem newEfs_mem : ∀ (ls : List Hl) (a i : Nat) (l : Hl),ls[i]? = some l→Ef.put (a + i) l∈newEfs a ls
 | [],a,i,l,h=>by simp at h
 | l0 :: ls,a,i,l,h=>by
  cases i with
  | zero=>simp at h; subst h; exact List.mem_cons_self ..
  | succ i=>simp at h; rw [show a + (i + 1) = a + 1 + i by omega]; exact List.mem_cons_of_mem _ (newEfs_mem ls (a + 1) i l h)
theorem efsF_back {hf : Nat→Hl} : ∀ (hs : List Nat) (ls : List Hl),ls.length = hs.length→hs.Nodup→
  (∀ k,k ∉ hs→efsF hf (backEfs hs ls) k = hf k)∧∀ (i k : Nat) (l : Hl),hs[i]? = some k→ls[i]? = some l→efsF hf (backEfs hs ls) k = l
 | [],ls,hl,_=>by
  have : ls = []:=List.eq_nil_of_length_eq_zero (by simpa using hl)
  subst this
  exact ⟨fun k _=>rfl,by simp⟩
 | h :: hs,[],hl,_=>by simp at hl
 | h :: hs,l :: ls,hl,hn=>by
  rw [List.nodup_cons] at hn
  obtain ⟨a,b⟩:=efsF_back (hf:=upd hf h l) hs ls (by simpa using hl) hn.2
  refine ⟨fun k hk=>?_,fun i k l' h1 h2=>?_⟩
  ·rw [List.mem_cons,not_or] at hk
   show efsF (upd hf h l) (backEfs hs ls) k = hf k
   rw [a k hk.2]
   simp [upd,hk.1]
  ·show efsF (upd hf h l) (backEfs hs ls) k = l'
   cases i with
   | zero =>
    simp at h1 h2
    subst h1 h2
    rw [a h hn.1]
    simp [upd]
   | succ i=>simp at h1 h2; exact b i k l' h1 h2
theorem rdAll_sound (hg : True) {B : Bs} {N : Nat} {E : Env} {a : Act} {w : World} {ff : Nat→SG} {hf : Nat→Hl} (hgl : glOk B cx.gl) (st : St B N E a w ff hf) (hT : allT (condsOf σ.gm T)) :
  ∀ (xs : List Operand) (ts : List TypeId) (vs : List SV),(∀ x∈xs,∀ s∈opSlots x,ff s = ffOf σ s)→rdAll cx σ T xs ts = some vs→RelL E w vs (xs.map a.eval):=by
 intro xs
 induction xs with
 | nil=>intro ts vs _ h; simp [rdAll] at h; subst h; exact .nil
 | cons x xs ih =>
  intro ts vs hag h
  cases ts with
  | nil =>
   simp only [rdAll] at h
   split at h
   ·rename_i v us h1 h2
    cases h
    exact .cons (rd_sound h1 hgl st (hag x (List.mem_cons_self ..)) hT) (ih [] us (fun y hy=>hag y (List.mem_cons_of_mem _ hy)) h2)
   ·cases h
  | cons t ts =>
   simp only [rdAll] at h
   split at h
   ·rename_i v us h1 h2
    cases h
    exact .cons (rdT_sound h1 hgl st (hag x (List.mem_cons_self ..)) hT) (ih ts us (fun y hy=>hag y (List.mem_cons_of_mem _ hy)) h2)
   ·cases h
def Enters (P : Program) (gl : List (Nat×SV)) (σ : Sy) (T : List Nat) (o : Oper) (f : FuncId) (vs : List SV) : Prop :=
 ∀ (B : Bs) (N : Nat) (E : Env) (a : Act) (w : World) (ff : Nat→SG) (hf : Nat→Hl),glOk B gl→St B N E a w ff hf→AgS σ ff o→allT (condsOf σ.gm T)→∃ us : List Value,RelL E w vs us∧(execOp a.eval o).run P w = .ok (.enter f ⟨us⟩) w
def pickE {α : Type} (hs : List Nat) (M m m' : Nat) (F G : Nat→Option α) (k : Nat) : Option α :=
 match hs.idxOf? k with
 | some i=>F i
 | none=>if M≤k∧k < M + (m' - m) then F (m + (k - M)) else G k
open Classical in
noncomputable def backO (hs : List Nat) (M m : Nat) (F G : Nat→Option Nat) (b : Nat) : Option Nat :=
 match F b with
 | some i=>if i < m then hs[i]? else some (M + (i - m))
 | none=>if ∃ k∈hs,G b = some k then none else G b
theorem local_call {f : FuncId} {vs : List SV} (hen : Enters P cx.gl σ T o f vs)
  {as : List SV} {hs : List Nat} {ls : List Hl} (hargs : argsOf σ.hp (loose.looseL (norm.normL dn vs)) 0 = some (as,hs,ls)) (hpl : plainH (normH dn ls) = true)
  {r : SV} {ls' : List Hl} (hct : CallsTo P cx.gl f as (normH dn ls) r ls') (hr : resV ls.length ls'.length r = true) (hls : plainH ls' = true) (hlen : ls.length≤ls'.length) :
  Local P cx.gl σ T o ⟨reV ls.length (lenN σ.hp) r,backEfs hs (takeN ls.length ls') ++ newEfs (lenN σ.hp) (dropN ls.length ls'),hs,[]⟩:=by
 rw [takeN_eq,dropN_eq,lenN_eq]
 intro B N E a w ff hf hg st ag agh hT K' Q hK
 have hb:=st.base
 obtain ⟨n1,n2,n3,n4⟩:=argsOf_spec σ.hp _ 0 as hs ls hargs
 obtain ⟨us,hvs,hrun⟩:=hen B N E a w ff hf hg st ag hT
 have hvs' : RelL E w (loose.looseL (norm.normL dn vs)) us:=by
  rw [looseL_eq,normL_eq]
  exact (hvs.map _ fun s v _ h=>h.norm).map _ fun s v _ h=>h.loose
 -- the callee's state
 let Ec : Env:=⟨fun i=>(hs[i]?).bind E.β,fun i=>(hs[i]?).bind E.τ,fun b=>(E.O b).bind fun h=>hs.idxOf? h,fun _=>none,fun i=>(hs[i]?).bind E.ζ,E.I⟩
 let Bc : Bs:=⟨w,fun b=>∃ h∈hs,E.O b = some h,E.I,Ec.β,Ec.τ,Ec.ζ,[]⟩
 have hbc : Base Bc Ec w:=by
  refine ⟨rfl,rfl,rfl,Nat.le_refl _,fun _ _ _=>rfl,fun b o h=>⟨h,rfl⟩,hb.Ibd,fun b o h=>.inl h,fun b i h=>?_,⟨fun _ _ h=>h,fun _ _ h=>.inl h,fun _ _ h=>h⟩⟩
  have h : (E.O b).bind (fun h=>hs.idxOf? h) = some i:=h
  cases hO : E.O b with
  | none=>rw [hO] at h; cases h
  | some k =>
   rw [hO] at h
   simp only [Option.bind_some] at h
   have hk : k∈hs:=by
    rw [List.idxOf?_eq_some_iff] at h
    obtain ⟨hlt,he,_⟩:=h
    rw [←he]; exact List.getElem_mem hlt
   exact ⟨(hb.Obd b k hO).1,.inr ⟨k,hk,hO⟩⟩
 have hgc : glOk Bc cx.gl:=fun g s h=>⟨(hg g s h).1.mono (fun b o h=>(hb.I0 b o h).1) (fun b o h=>(hb.I0 b o h).2),Nat.lt_of_lt_of_le (hg g s h).2.1 hb.size,
  fun ⟨k,_,hO⟩=>by
   rcases (hb.Obd g k hO).2 with h1 | h1
   ·exact absurd (hg g s h).2.1 (Nat.not_lt.2 h1)
   ·exact (hg g s h).2.2.1 h1,
  (hg g s h).2.2.2.same (hb.old g (hg g s h).2.1 (hg g s h).2.2.1)⟩
 have hIc : Ec.I = E.I:=rfl
 have hidx : ∀ (i k : Nat),hs[i]? = some k→hs.idxOf? k = some i:=by
  intro i k hk
  rw [List.idxOf?_eq_some_iff]
  obtain ⟨hlt,he⟩:=List.getElem?_eq_some_iff.1 hk
  refine ⟨hlt,by simp [he],fun j hj=>?_⟩
  have hne : hs[j]≠hs[i]:=List.pairwise_iff_getElem.1 n1 j i (by omega) hlt hj
  rw [←he]; simpa using hne
 have hidx' : ∀ (i k : Nat),hs.idxOf? k = some i→hs[i]? = some k:=by
  intro i k hk
  rw [List.idxOf?_eq_some_iff] at hk
  obtain ⟨hlt,he,_⟩:=hk
  rw [List.getElem?_eq_getElem hlt,he]
 have hidxn : ∀ k,k ∉ hs→hs.idxOf? k = none:=by
  intro k hk
  cases h : hs.idxOf? k with
  | none=>rfl
  | some i=>exact absurd (List.mem_of_getElem? (hidx' i k h)) hk
 have hltM : ∀ k∈hs,k < σ.hp.length:=by
  intro k hk
  obtain ⟨i,hi⟩:=List.mem_iff_getElem?.1 hk
  obtain ⟨l,m1,_⟩:=n3 i k hi
  rw [nth_eq] at m1
  exact (List.getElem?_eq_some_iff.1 m1).1
 have hheap : ∀ h,HOk Ec w h (hfOf (normH dn ls) h):=by
  intro h
  simp only [hfOf,nth_eq,normH_get]
  cases hl : ls[h]? with
  | none =>
   have : hs[h]? = none:=by rw [List.getElem?_eq_none_iff] at hl ⊢; omega
   simp only [Option.map_none,Option.getD_none]
   exact ⟨by show (hs[h]?).bind E.β = none; rw [this]; rfl,by show (hs[h]?).bind E.τ = none; rw [this]; rfl,rfl,by show (hs[h]?).bind E.ζ = none; rw [this]; rfl⟩
  | some l =>
   have hlt : h < hs.length:=by rw [←n2]; exact (List.getElem?_eq_some_iff.1 hl).1
   obtain ⟨l',m1,m2,m3⟩:=n3 h hs[h] (List.getElem?_eq_getElem hlt)
   rw [hl] at m2
   cases m2
   have hk:=st.heap hs[h]
   rw [agh.rds _ (List.getElem_mem hlt),nth_hf m1] at hk
   have hok : okP ((fun l=>match l with | .blk ty cs=>Hl.blk ty (loose.looseL (norm.normL dn cs)) | .own ty n sz gr f=>.own ty (.a (dn.i n)) sz gr f | l=>l) l):=plainH_get hpl (i:=h) (by rw [normH_get,hl]; rfl)
   have hnorm : HOk E w hs[h] ((fun l=>match l with | .blk ty cs=>Hl.blk ty (loose.looseL (norm.normL dn cs)) | .own ty n sz gr f=>.own ty (.a (dn.i n)) sz gr f | l=>l) l):=by
    cases l with
    | blk ty cs =>
     obtain ⟨b,C,k1,k2,k3,k4,k5,k6⟩:=hk.blk_inv
     have hcells : RelL E w (loose.looseL (norm.normL dn cs)) C.toList:=by
      rw [looseL_eq,normL_eq]
      exact (k4.map _ fun s v _ h=>h.norm).map _ fun s v _ h=>h.loose
     exact ⟨b,C,k1,k2,k3,by have:=hcells.1; simpa using this.symm,fun i s v p q=>hcells.2 i s v p (by simpa using q),fun v hv=>k5 v (by simpa using hv),k6⟩
    | _=>exact hk
   simp only [Option.map_some,Option.getD_some]
   refine hnorm.move hok hIc ?_ ?_ ?_ fun b hb=>?_
   ·show (hs[h]?).bind E.β = _; rw [List.getElem?_eq_getElem hlt]; rfl
   ·show (hs[h]?).bind E.τ = _; rw [List.getElem?_eq_getElem hlt]; rfl
   ·show (hs[h]?).bind E.ζ = _; rw [List.getElem?_eq_getElem hlt]; rfl
   ·show (E.O b).bind (fun h=>hs.idxOf? h) = some h
    rw [hb]
    exact hidx h _ (List.getElem?_eq_getElem hlt)
 have hrel : RelL Ec w as us:=n4 E Ec w _ hIc (fun i h hi=>by
  refine ⟨?_,?_⟩
  ·show (hs[0 + i]?).bind E.β = E.β h
   rw [Nat.zero_add,hi]; rfl
  ·show (hs[0 + i]?).bind E.τ = E.τ h
   rw [Nat.zero_add,hi]; rfl) hvs'
 have hcall:=hct Bc Ec w us rfl (fun b o h=>h) (fun h hb=>by
  have hb : (hs[h]?).bind E.β≠none∨(hs[h]?).bind E.τ≠none∨(hs[h]?).bind E.ζ≠none:=hb
  cases hh : hs[h]? with
  | none=>rw [hh] at hb; simp at hb
  | some k=>rw [len_normH,n2]; exact (List.getElem?_eq_some_iff.1 hh).1) hbc hgc hheap hrel
 -- the operation
 unfold Oper.wp
 rw [hrun]
 simp only [Oper.upon]
 refine hcall.mono ?_
 rintro e w' ⟨v,Ec',rfl,x2,x3,x4⟩
 -- back in the caller's state
 obtain ⟨M,hM⟩ : ∃ M,M = σ.hp.length:=⟨_,rfl⟩
 obtain ⟨m,hm⟩ : ∃ m,m = ls.length:=⟨_,rfl⟩
 rw [←hM,←hm] at hK
 rw [←hm] at hlen hr
 let E' : Env:=⟨pickE hs M m ls'.length Ec'.β E.β,pickE hs M m ls'.length Ec'.τ E.τ,backO hs M m Ec'.O E.O,E.κ,pickE hs M m ls'.length Ec'.ζ E.ζ,Ec'.I⟩
 have hfreshM : ∀ k,M≤k→k < M + (ls'.length - m)→hf k = .fresh:=by
  intro k h1 h2
  have hl : ∃ l,(ls'.drop m)[k - M]? = some l:=⟨_,List.getElem?_eq_getElem (by simp; omega)⟩
  obtain ⟨l,hl⟩:=hl
  have hmem:=newEfs_mem (ls'.drop m) M (k - M) l hl
  rw [show M + (k - M) = k by omega] at hmem
  have hmem' : Ef.put k l∈newEfs σ.hp.length (List.drop ls.length ls'):=by rw [←hM,←hm]; exact hmem
  have:=agh.efs _ (List.mem_append.2 (.inr hmem'))
  simp only [AgE,hfOf,nth_eq] at this
  rw [this,List.getElem?_eq_none (by omega)]; rfl
 have hfreshE : ∀ k,M≤k→k < M + (ls'.length - m)→E.β k = none∧E.τ k = none∧E.ζ k = none:=by
  intro k h1 h2
  have:=st.heap k
  rw [hfreshM k h1 h2] at this
  exact ⟨this.1,this.2.1,this.2.2.2⟩
 have pick_hs : ∀ {α : Type} (F G : Nat→Option α) (i k : Nat),hs[i]? = some k→pickE hs M m ls'.length F G k = F i:=by
  intro α F G i k hk; simp only [pickE,hidx i k hk]
 have pick_new : ∀ {α : Type} (F G : Nat→Option α) (i : Nat),m + i < ls'.length→pickE hs M m ls'.length F G (M + i) = F (m + i):=by
  intro α F G i hi
  have : (M + i) ∉ hs:=fun h=>by have:=hltM _ h; omega
  simp only [pickE,hidxn _ this]
  rw [if_pos (by omega),Nat.add_sub_cancel_left]
 have pick_oth : ∀ {α : Type} (F G : Nat→Option α) (k : Nat),k ∉ hs→¬ (M≤k∧k < M + (ls'.length - m))→pickE hs M m ls'.length F G k = G k:=by
  intro α F G k h1 h2
  simp only [pickE,hidxn _ h1]
  rw [if_neg h2]
 have cases3 : ∀ k : Nat,(∃ i : Nat,hs[i]? = some k)∨(∃ i,m + i < ls'.length∧k = M + i)∨(k ∉ hs∧¬ (M≤k∧k < M + (ls'.length - m))):=by
  intro k
  by_cases h1 : k∈hs
  ·obtain ⟨i,hi⟩:=List.mem_iff_getElem?.1 h1; exact .inl ⟨i,hi⟩
  ·by_cases h2 : M≤k∧k < M + (ls'.length - m)
   ·exact .inr (.inl ⟨k - M,by omega,by omega⟩)
   ·exact .inr (.inr ⟨h1,h2⟩)
 have hext : Ext E w E' w':=by
  refine ⟨fun k b hk=>?_,fun k u hk=>?_,fun _ _ h=>h,fun k n hk=>?_,fun b o h=>(x2.I0 b o h).1,fun b o h=>(x2.I0 b o h).2⟩
  ·show pickE hs M m ls'.length Ec'.β E.β k = some b
   rcases cases3 k with ⟨i,hi⟩ | ⟨i,hi,rfl⟩ | ⟨h1,h2⟩
   ·rw [pick_hs _ _ i k hi]; exact x2.β0.β i b (by show (hs[i]?).bind E.β = some b; rw [hi]; exact hk)
   ·rw [(hfreshE _ (by omega) (by omega)).1] at hk; cases hk
   ·rw [pick_oth _ _ k h1 h2]; exact hk
  ·show TauLe u (pickE hs M m ls'.length Ec'.τ E.τ k)
   rcases cases3 k with ⟨i,hi⟩ | ⟨i,hi,rfl⟩ | ⟨h1,h2⟩
   ·rw [pick_hs _ _ i k hi]; exact x2.β0.τ i u (by show (hs[i]?).bind E.τ = some u; rw [hi]; exact hk)
   ·rw [(hfreshE _ (by omega) (by omega)).2.1] at hk; cases hk
   ·rw [pick_oth _ _ k h1 h2]; exact .inl hk
  ·show pickE hs M m ls'.length Ec'.ζ E.ζ k = some n
   rcases cases3 k with ⟨i,hi⟩ | ⟨i,hi,rfl⟩ | ⟨h1,h2⟩
   ·rw [pick_hs _ _ i k hi]; exact x2.β0.ζ i n (by show (hs[i]?).bind E.ζ = some n; rw [hi]; exact hk)
   ·rw [(hfreshE _ (by omega) (by omega)).2.2] at hk; cases hk
   ·rw [pick_oth _ _ k h1 h2]; exact hk
 have hInew : ∀ b o,b < w.heap.size→(¬ ∃ h∈hs,E.O b = some h)→Ec'.I b o→E.I b o:=fun b o hlt hnX hi=>by
  rcases x2.Inew b o hi with h | h | h
  ·exact h
  ·have : w.heap.size≤b:=h
   omega
  ·exact absurd h hnX
 have hbase : Base B E' w':=by
  refine ⟨x2.os.trans hb.os,x2.tape.trans hb.tape,x2.output.trans hb.output,Nat.le_trans hb.size x2.size,fun b hlt hX=>?_,fun b o hi=>?_,x2.Ibd,fun b o hi=>?_,fun b h hO=>?_,hb.β0.ext hext⟩
  ·rw [x2.old b (by have:=hb.size; show b < w.heap.size; omega) ?_]
   ·exact hb.old b hlt hX
   ·rintro ⟨k,_,hO⟩
    rcases (hb.Obd b k hO).2 with h | h
    ·omega
    ·exact hX h
  ·obtain ⟨i1,i2⟩:=hb.I0 b o hi
   exact ⟨(x2.I0 b o i1).1,by rw [(x2.I0 b o i1).2]; exact i2⟩
  ·rcases x2.Inew b o hi with h | h | ⟨k,_,hO⟩
   ·exact hb.Inew b o h
   ·have : w.heap.size≤b:=h
    have:=hb.size
    exact .inr (.inl (by omega))
   ·exact .inr (hb.Obd b k hO).2
  ·have hO : backO hs M m Ec'.O E.O b = some h:=hO
   unfold backO at hO
   split at hO
   ·rename_i i hi
    obtain ⟨o1,o2⟩:=x2.Obd b i hi
    refine ⟨o1,?_⟩
    rcases o2 with o2 | ⟨k,_,hk⟩
    ·have : w.heap.size≤b:=o2
     have:=hb.size
     exact .inl (by omega)
    ·exact (hb.Obd b k hk).2
   ·split at hO
    ·cases hO
    ·obtain ⟨o1,o2⟩:=hb.Obd b h hO
     exact ⟨Nat.lt_of_lt_of_le o1 x2.size,o2⟩
 have hOback : ∀ b i : Nat,Ec'.O b = some i→∀ k : Nat,(hs[i]? = some k∧i < m∨m≤i∧k = M + (i - m))→E'.O b = some k:=by
  intro b i hi k hk
  show backO hs M m Ec'.O E.O b = some k
  simp only [backO,hi]
  rcases hk with ⟨h1,h2⟩ | ⟨h1,rfl⟩
  ·rw [if_pos h2]; exact h1
  ·rw [if_neg (by omega)]
 have n2m : hs.length = m:=by rw [hm,n2]
 obtain ⟨f1,f2⟩:=efsF_back (hf:=hf) hs (ls'.take m) (by simp; omega) n1
 refine hK v w' E' hext hbase (fun k=>?_) (x4.res rfl (fun k u h1 hk h2=>?_) hr)
 ·show HOk E' w' k (efsF hf (backEfs hs (ls'.take m) ++ newEfs M (ls'.drop m)) k)
  rw [efsF_append,efsF_new]
  rcases cases3 k with ⟨i,hi⟩ | ⟨i,hi,rfl⟩ | ⟨h1,h2⟩
  ·have hkM:=hltM k (List.mem_of_getElem? hi)
   have hilt : i < hs.length:=(List.getElem?_eq_some_iff.1 hi).1
   rw [if_neg (by omega)]
   obtain ⟨l,hl⟩ : ∃ l,ls'[i]? = some l:=⟨_,List.getElem?_eq_getElem (by omega)⟩
   rw [f2 i k l hi (by rw [List.getElem?_take,if_pos (by omega)]; exact hl)]
   have h3:=x3 i (by omega)
   have : hfOf ls' i = l:=by simp [hfOf,nth_eq,hl]
   rw [this] at h3
   exact h3.move (plainH_get hls hl) rfl (pick_hs _ _ i k hi) (pick_hs _ _ i k hi) (pick_hs _ _ i k hi) fun b hb=>hOback b i hb k (.inl ⟨hi,by omega⟩)
  ·rw [if_pos (by simp; omega)]
   obtain ⟨l,hl⟩ : ∃ l,ls'[m + i]? = some l:=⟨_,List.getElem?_eq_getElem hi⟩
   rw [Nat.add_sub_cancel_left,List.getElem?_drop,hl]
   simp only [Option.getD_some]
   have h3:=x3 (m + i) hi
   have : hfOf ls' (m + i) = l:=by simp [hfOf,nth_eq,hl]
   rw [this] at h3
   exact h3.move (plainH_get hls hl) rfl (pick_new _ _ i hi) (pick_new _ _ i hi) (pick_new _ _ i hi) fun b hb=>hOback b (m + i) hb _ (.inr ⟨by omega,by congr 1; omega⟩)
  ·rw [if_neg (by simp; omega),f1 k h1]
   refine HOk.keep hext (st.heap k) (pick_oth _ _ k h1 h2) (pick_oth _ _ k h1 h2) rfl (pick_oth _ _ k h1 h2) fun b hO=>?_
   have hnX : ¬ ∃ h∈hs,E.O b = some h:=by
    rintro ⟨k2,hk2,hO2⟩
    rw [hO] at hO2
    cases hO2
    exact h1 hk2
   refine ⟨?_,x2.old b (owned_lt hb hO) hnX,fun o hi=>hInew b o (owned_lt hb hO) hnX hi⟩
   show backO hs M m Ec'.O E.O b = some k
   have hnone : Ec'.O b = none:=by
    cases hi : Ec'.O b with
    | none=>rfl
    | some i =>
     rcases (x2.Obd b i hi).2 with h | h
     ·have h : w.heap.size≤b:=h
      have:=owned_lt hb hO
      omega
     ·exact absurd h hnX
   simp only [backO,hnone]
   rw [if_neg hnX]; exact hO
 ·show pickE hs M m ls'.length Ec'.τ E.τ (k - m + M) = some u
  have:=pick_new Ec'.τ E.τ (k - m) (by omega)
  rw [show k - m + M = M + (k - m) by omega,this,show m + (k - m) = k by omega]; exact h2
theorem hsL_eq : ∀ (cs : List SV),hsV.hsL cs = cs.flatMap hsV
 | []=>rfl
 | c :: cs=>by simp [hsV.hsL,hsL_eq cs]
theorem rnL_eq (ρ : Nat→Nat) : ∀ (cs : List SV),rnV.rnL ρ cs = cs.map (rnV ρ)
 | []=>rfl
 | c :: cs=>by simp [rnV.rnL,rnL_eq ρ cs]
theorem rowlessL_iff : ∀ (cs : List SV),rowless.rowlessL cs = true↔∀ c∈cs,rowless c = true
 | []=>by simp [rowless.rowlessL]
 | c :: cs=>by simp [rowless.rowlessL,rowlessL_iff cs]
theorem mapH_eq (g : Hl→Hl) : ∀ (ls : List Hl),mapH g ls = ls.map g
 | []=>rfl
 | l :: ls=>by simp [mapH,mapH_eq g ls]
theorem getG_eq (D : Dn) (hp : List Hl) : ∀ (hs : List Nat),getG D hp hs = hs.map fun h=>match nth hp h with | some l=>normG D l | none=>.gone
 | []=>rfl
 | h :: hs=>by simp only [getG,getG_eq D hp hs,List.map_cons]; cases nth hp h<;>rfl
theorem allIn_iff (t : List Nat) : ∀ (l : List Nat),allIn t l = true↔∀ x∈l,x∈t
 | []=>by simp [allIn]
 | x :: l=>by simp [allIn,allIn_iff t l,hasN_iff]
theorem nodupN_iff : ∀ (l : List Nat),nodupN l = true↔l.Nodup
 | []=>by simp [nodupN]
 | x :: l=>by
  simp only [nodupN,Bool.and_eq_true,Bool.not_eq_true',List.nodup_cons,nodupN_iff l]
  rw [←Bool.not_eq_true,hasN_iff]
theorem lowN_iff (n : Nat) : ∀ (l : List Nat),lowN n l = true↔∀ x∈l,x < n
 | []=>by simp [lowN]
 | x :: l=>by simp [lowN,lowN_iff n l,Nat.blt_eq]
theorem closedG_iff (hs : List Nat) : ∀ (ls : List Hl),closedG hs ls = true↔∀ l∈ls,rowlessH l = true∧∀ j∈hsH l,j∈hs
 | []=>by simp [closedG]
 | l :: ls=>by simp [closedG,closedG_iff hs ls,allIn_iff]
theorem okGL_iff (n : Nat) : ∀ (ls : List Hl),okGL n ls = true↔∀ l∈ls,rowlessH l = true∧∀ j∈hsH l,j < n
 | []=>by simp [okGL]
 | l :: ls=>by simp [okGL,okGL_iff n ls,lowN_iff]
theorem ixOf_get {hs : List Nat} (hn : hs.Nodup) {i k : Nat} (h : hs[i]? = some k) : ixOf hs k = i:=by
 induction hs generalizing i with
 | nil=>simp at h
 | cons x l ih =>
  rw [List.nodup_cons] at hn
  cases i with
  | zero=>simp at h; subst h; simp [ixOf]
  | succ i =>
   simp at h
   have hne : x≠k:=fun e=>hn.1 (by rw [e]; exact List.mem_of_getElem? h)
   have hne : (x == k) = false:=by simpa using hne
   simp [ixOf,hne,ih hn.2 h]
structure Same1 (E : Env) (i : Nat) (E' : Env) (k : Nat) : Prop where
 β : E'.β k = E.β i
 τ : E'.τ k = E.τ i
 ζ : E'.ζ k = E.ζ i
theorem RO.rn {I : Nat→Nat→Prop} {w : World} {s : SV} {v : Value} (ρ : Nat→Nat) (h : RO I w s v) : rnV ρ s = s:=by
 induction h with
 | @agg cs vs hl _ ih =>
  simp only [rnV,rnL_eq,SV.agg.injEq]
  refine List.ext_getElem? fun i=>?_
  rw [List.getElem?_map]
  cases e : cs[i]? with
  | none=>rfl
  | some s =>
   have hi : i < cs.length:=(List.getElem?_eq_some_iff.1 e).1
   simp only [Option.map_some,Option.some.injEq]
   exact ih i s _ e (List.getElem?_eq_getElem (by omega))
 | _=>rfl
theorem Rel.rn {E E' : Env} {w : World} {s : SV} {v : Value} (ρ : Nat→Nat) (h : Rel E w s v) (hI : E'.I = E.I) (hr : rowless s = true) (he : ∀ k∈hsV s,Same1 E k E' (ρ k)) : Rel E' w (rnV ρ s) v:=by
 induction h with
 | ro h=>rw [h.rn]; exact .ro (by rw [hI]; exact h)
 | ptr hb hv=>exact .ptr (by rw [(he _ (by simp [hsV])).β]; exact hb) hv
 | gsl hr1 ht =>
  obtain ⟨a,m,c,t1,t2⟩:=ht
  exact .gsl (by rw [hI]; exact hr1) ⟨a,m,c,by rw [(he _ (by simp [hsV])).τ]; exact t1,t2⟩
 | osl ht hk =>
  obtain ⟨a,m,c,t1,t2⟩:=hk
  exact .osl ht ⟨a,m,c,by rw [(he _ (by simp [hsV])).τ]; exact t1,t2⟩
 | optr hv ho =>
  obtain ⟨a,m,c,sz,t1,t2,t3⟩:=ho
  exact .optr hv ⟨a,m,c,sz,by rw [(he _ (by simp [hsV])).τ]; exact t1,by rw [(he _ (by simp [hsV])).ζ]; exact t2,t3⟩
 | mapv hb hv=>exact .mapv (by rw [(he _ (by simp [hsV])).β]; exact hb) hv
 | yv hb hv=>exact .yv (by rw [(he _ (by simp [hsV])).β]; exact hb) hv
 | vsl ht hk =>
  obtain ⟨a,m,c,t1,t2⟩:=hk
  exact .vsl ht ⟨a,m,c,by rw [(he _ (by simp [hsV])).τ]; exact t1,t2⟩
 | tsl ht hk =>
  obtain ⟨a,m,c,sz,t1,t2,t3⟩:=hk
  exact .tsl ht ⟨a,m,c,sz,by rw [(he _ (by simp [hsV])).τ]; exact t1,by rw [(he _ (by simp [hsV])).ζ]; exact t2,t3⟩
 | mrow hb hm hv=>simp [rowless] at hr
 | mptr hb hz hv=>simp [rowless] at hr
 | agg hl _ ih =>
  simp only [rnV,rnL_eq]
  refine .agg (by simp [hl]) fun i s v h1 h2=>?_
  rw [List.getElem?_map] at h1
  obtain ⟨s',e,rfl⟩:=Option.map_eq_some_iff.1 h1
  have hm:=List.mem_of_getElem? e
  exact ih i s' v e h2 ((rowlessL_iff _).1 (by simpa [rowless] using hr) s' hm) fun k hk=>he k (by simp only [hsV,hsL_eq,List.mem_flatMap]; exact ⟨s',hm,hk⟩)
 | tup hl _ ih =>
  simp only [rnV,rnL_eq]
  refine .tup (by simp [hl]) fun i s v h1 h2=>?_
  rw [List.getElem?_map] at h1
  obtain ⟨s',e,rfl⟩:=Option.map_eq_some_iff.1 h1
  have hm:=List.mem_of_getElem? e
  exact ih i s' v e h2 ((rowlessL_iff _).1 (by simpa [rowless] using hr) s' hm) fun k hk=>he k (by simp only [hsV,hsL_eq,List.mem_flatMap]; exact ⟨s',hm,hk⟩)
 | clo hl _ ih =>
  simp only [rnV,rnL_eq]
  refine .clo (by simp [hl]) fun i s v h1 h2=>?_
  rw [List.getElem?_map] at h1
  obtain ⟨s',e,rfl⟩:=Option.map_eq_some_iff.1 h1
  have hm:=List.mem_of_getElem? e
  exact ih i s' v e h2 ((rowlessL_iff _).1 (by simpa [rowless] using hr) s' hm) fun k hk=>he k (by simp only [hsV,hsL_eq,List.mem_flatMap]; exact ⟨s',hm,hk⟩)
theorem mem_rnF {ρ : Nat→Nat} {s : Nat} {v : SV} : ∀ {fr : List (Nat×Option SV)},(s,some v)∈rnF ρ fr→∃ v',v = rnV ρ v'∧(s,some v')∈fr
 | [],h=>by simp [rnF] at h
 | (_,some u) :: l,h=>by
  simp only [rnF,List.mem_cons,Prod.mk.injEq,Option.some.injEq] at h
  rcases h with ⟨rfl,rfl⟩ | h
  ·exact ⟨u,rfl,List.mem_cons_self ..⟩
  ·obtain ⟨v',e,h⟩:=mem_rnF h
   exact ⟨v',e,List.mem_cons_of_mem _ h⟩
 | (_,none) :: l,h=>by
  simp only [rnF,List.mem_cons,Prod.mk.injEq,reduceCtorEq,and_false,false_or] at h
  obtain ⟨v',e,h⟩:=mem_rnF h
  exact ⟨v',e,List.mem_cons_of_mem _ h⟩
theorem rowlessF_get {s : Nat} {v : SV} : ∀ {fr : List (Nat×Option SV)},rowlessF fr = true→(s,some v)∈fr→rowless v = true
 | [],_,h=>by simp at h
 | (_,some u) :: l,hr,h=>by
  simp only [rowlessF,Bool.and_eq_true] at hr
  simp only [List.mem_cons,Prod.mk.injEq,Option.some.injEq] at h
  rcases h with ⟨_,rfl⟩ | h
  ·exact hr.1
  ·exact rowlessF_get hr.2 h
 | (_,none) :: l,hr,h=>by
  simp only [rowlessF] at hr
  simp only [List.mem_cons,Prod.mk.injEq,reduceCtorEq,and_false,false_or] at h
  exact rowlessF_get hr h
theorem hsF_mem {s j : Nat} {v : SV} : ∀ {fr : List (Nat×Option SV)},(s,some v)∈fr→j∈hsV v→j∈hsF fr
 | [],h,_=>by simp at h
 | (_,some u) :: l,h,hj=>by
  simp only [List.mem_cons,Prod.mk.injEq,Option.some.injEq] at h
  simp only [hsF,List.mem_append]
  rcases h with ⟨_,rfl⟩ | h
  ·exact .inl hj
  ·exact .inr (hsF_mem h hj)
 | (_,none) :: l,h,hj=>by
  simp only [List.mem_cons,Prod.mk.injEq,reduceCtorEq,and_false,false_or] at h
  simp only [hsF]
  exact hsF_mem h hj
theorem HOk.rn {E E' : Env} {w : World} {i k : Nat} {l : Hl} (ρ : Nat→Nat) (h : HOk E w i l) (hr : rowlessH l = true) (hI : E'.I = E.I) (hs : Same1 E i E' k) (hO : ∀ b,E.O b = some i→E'.O b = some k) (he : ∀ j∈hsH l,Same1 E j E' (ρ j)) : HOk E' w k (rnH ρ l):=by
 cases l with
 | fresh=>simp [rowlessH] at hr
 | gone=>trivial
 | row ty n sz f=>simp [rowlessH] at hr
 | blk ty cs =>
  obtain ⟨b,C,k1,k2,k3,k4,k5,k6,k7⟩:=h
  refine ⟨b,C,by rw [hs.β]; exact k1,hO b k2,k3,by rw [rnL_eq,List.length_map]; exact k4,fun j s v p q=>?_,k6,by rw [hI]; exact k7⟩
  rw [rnL_eq,List.getElem?_map] at p
  obtain ⟨s',e,rfl⟩:=Option.map_eq_some_iff.1 p
  have hm:=List.mem_of_getElem? e
  exact (k5 j s' v e q).rn ρ hI ((rowlessL_iff _).1 (by simpa [rowlessH] using hr) s' hm) fun j hj=>he j (by simp only [hsH,hsL_eq,List.mem_flatMap]; exact ⟨s',hm,hj⟩)
 | tail ty n sz =>
  obtain ⟨v,m,xs,k1,k2,k3,k4,k5⟩:=h
  exact ⟨v,m,xs,by rw [hs.τ]; exact k1,k2,k3,k4,fun b hb=>⟨hO b (k5 b hb).1,by rw [hI]; exact (k5 b hb).2⟩⟩
 | own ty n sz gr f =>
  obtain ⟨v,m,xs,k1,k2,k3,k4,k5,k6,k7⟩:=h
  exact ⟨v,m,xs,by rw [hs.τ]; exact k1,by rw [hs.ζ]; exact k2,k3,k4,k5,⟨k6.1,by rw [hI]; exact k6.2⟩,fun b hb=>⟨hO b (k7 b hb).1,by rw [hI]; exact (k7 b hb).2⟩⟩
 | bld T e s =>
  obtain ⟨b,p,v,k1,k2,k3,k4,k5,k6,k7,k8⟩:=h
  exact ⟨b,p,v,by rw [hs.β]; exact k1,hO b k2,k3,k4,k5,k6,by rw [hI]; exact k7,fun g hg=>⟨hO g (k8 g hg).1,by rw [hI]; exact (k8 g hg).2⟩⟩
 | mset F =>
  obtain ⟨b,es,clock,k1,k2,k3,k4,k5,k6⟩:=h
  exact ⟨b,es,clock,by rw [hs.β]; exact k1,hO b k2,k3,k4,k5,by rw [hI]; exact k6⟩
 | vec ty n g sz f =>
  obtain ⟨a,c,m,G,xs,k1,k2,k3,k4,k5,k6,k7⟩:=h
  exact ⟨a,c,m,G,xs,by rw [hs.τ]; exact k1,k2,k3,k4,k5,⟨k6.1,by rw [hI]; exact k6.2⟩,fun b hb=>⟨hO b (k7 b hb).1,by rw [hI]; exact (k7 b hb).2⟩⟩
 | lrec c fr st pd =>
  obtain ⟨b,rr,k1,k2,k3,k4,k5,k6⟩:=h
  refine ⟨b,rr,by rw [hs.β]; exact k1,hO b k2,k3,k4,fun s v hm=>?_,by rw [hI]; exact k6⟩
  obtain ⟨v',rfl,hm'⟩:=mem_rnF hm
  exact ⟨(k5 s v' hm').1,(k5 s v' hm').2.rn ρ hI (rowlessF_get (by simpa [rowlessH] using hr) hm') fun j hj=>he j (hsF_mem hm' hj)⟩
theorem HOk.normG {E : Env} {w : World} {h : Nat} {l : Hl} (hk : HOk E w h l) : HOk E w h (normG dn l):=by
 cases l with
 | blk ty cs =>
  obtain ⟨b,C,k1,k2,k3,k4,k5,k6⟩:=hk.blk_inv
  have hn : RelL E w (norm.normL dn cs) C.toList:=by
   rw [normL_eq]
   exact k4.map _ fun s v _ h=>h.norm
  exact ⟨b,C,k1,k2,k3,by have:=hn.1; simpa using this.symm,fun i s v p q=>hn.2 i s v p (by simpa using q),fun v hv=>k5 v (by simpa using hv),k6⟩
 | _=>exact hk
theorem callG_core {G : List Value→World→(Ending→World→Prop)→Prop} (Gm : ∀ us w (R R' : Ending→World→Prop),(∀ e w',R e w'→R' e w')→G us w R→G us w R') {hp : List Hl} {vs0 vs : List SV} (hvs0 : vs = loose.looseL (norm.normL dn vs0))
  {hs : List Nat} {ls : List Hl} (hls0 : ls = getG dn hp hs) (n1 : hs.Nodup) (hin : ∀ k∈hsV.hsL vs,k∈hs) (hrow : rowless.rowlessL vs = true) (hltM : ∀ k∈hs,k < hp.length) (hcl : ∀ l∈ls,rowlessH l = true∧∀ j∈hsH l,j∈hs)
  {r : SV} {ls' : List Hl} (hct : GoesTo G cx.gl (rnV.rnL (ixOf hs) vs) (ls.map (rnH (ixOf hs))) r ls') (hlen : hs.length≤ls'.length) (hrr : rowless r = true) (hrl : ∀ k∈hsV r,k < ls'.length) (hok : ∀ l∈ls',rowlessH l = true∧∀ j∈hsH l,j < ls'.length)
  {B : Bs} {E : Env} {w : World} {hf : Nat→Hl} (hg : glOk B cx.gl) (hb : Base B E w) (hst : ∀ h,HOk E w h (hf h)) (agh : AgH hp hf ⟨rnV (backR hs hs.length hp.length) r,backEfs hs ((ls'.take hs.length).map (rnH (backR hs hs.length hp.length))) ++ newEfs hp.length ((ls'.drop hs.length).map (rnH (backR hs hs.length hp.length))),hs,[]⟩) {us : List Value} (hvs : RelL E w vs0 us) :
  G us w fun e w'=>∃ v E',e = .returned v∧Ext E w E' w'∧Base B E' w'∧(∀ h,HOk E' w' h (efsF hf (backEfs hs ((ls'.take hs.length).map (rnH (backR hs hs.length hp.length))) ++ newEfs hp.length ((ls'.drop hs.length).map (rnH (backR hs hs.length hp.length)))) h))∧Rel E' w' (rnV (backR hs hs.length hp.length) r) v:=by
 have hvs' : RelL E w vs us:=by
  rw [hvs0,looseL_eq,normL_eq]
  exact (hvs.map _ fun s v _ h=>h.norm).map _ fun s v _ h=>h.loose
 have n2 : ls.length = hs.length:=by rw [hls0,getG_eq,List.length_map]
 -- the callee's state
 let Ec : Env:=⟨fun i=>(hs[i]?).bind E.β,fun i=>(hs[i]?).bind E.τ,fun b=>(E.O b).bind fun h=>hs.idxOf? h,fun _=>none,fun i=>(hs[i]?).bind E.ζ,E.I⟩
 let Bc : Bs:=⟨w,fun b=>∃ h∈hs,E.O b = some h,E.I,Ec.β,Ec.τ,Ec.ζ,[]⟩
 have hbc : Base Bc Ec w:=by
  refine ⟨rfl,rfl,rfl,Nat.le_refl _,fun _ _ _=>rfl,fun b o h=>⟨h,rfl⟩,hb.Ibd,fun b o h=>.inl h,fun b i h=>?_,⟨fun _ _ h=>h,fun _ _ h=>.inl h,fun _ _ h=>h⟩⟩
  have h : (E.O b).bind (fun h=>hs.idxOf? h) = some i:=h
  cases hO : E.O b with
  | none=>rw [hO] at h; cases h
  | some k =>
   rw [hO] at h
   simp only [Option.bind_some] at h
   have hk : k∈hs:=by
    rw [List.idxOf?_eq_some_iff] at h
    obtain ⟨hlt,he,_⟩:=h
    rw [←he]; exact List.getElem_mem hlt
   exact ⟨(hb.Obd b k hO).1,.inr ⟨k,hk,hO⟩⟩
 have hgc : glOk Bc cx.gl:=fun g s h=>⟨(hg g s h).1.mono (fun b o h=>(hb.I0 b o h).1) (fun b o h=>(hb.I0 b o h).2),Nat.lt_of_lt_of_le (hg g s h).2.1 hb.size,
  fun ⟨k,_,hO⟩=>by
   rcases (hb.Obd g k hO).2 with h1 | h1
   ·exact absurd (hg g s h).2.1 (Nat.not_lt.2 h1)
   ·exact (hg g s h).2.2.1 h1,
  (hg g s h).2.2.2.same (hb.old g (hg g s h).2.1 (hg g s h).2.2.1)⟩
 have hIc : Ec.I = E.I:=rfl
 have hidx : ∀ (i k : Nat),hs[i]? = some k→hs.idxOf? k = some i:=by
  intro i k hk
  rw [List.idxOf?_eq_some_iff]
  obtain ⟨hlt,he⟩:=List.getElem?_eq_some_iff.1 hk
  refine ⟨hlt,by simp [he],fun j hj=>?_⟩
  have hne : hs[j]≠hs[i]:=List.pairwise_iff_getElem.1 n1 j i (by omega) hlt hj
  rw [←he]; simpa using hne
 have hidx' : ∀ (i k : Nat),hs.idxOf? k = some i→hs[i]? = some k:=by
  intro i k hk
  rw [List.idxOf?_eq_some_iff] at hk
  obtain ⟨hlt,he,_⟩:=hk
  rw [List.getElem?_eq_getElem hlt,he]
 have hidxn : ∀ k,k ∉ hs→hs.idxOf? k = none:=by
  intro k hk
  cases h : hs.idxOf? k with
  | none=>rfl
  | some i=>exact absurd (List.mem_of_getElem? (hidx' i k h)) hk
 have hsame : ∀ k∈hs,Same1 E k Ec (ixOf hs k):=by
  intro k hk
  obtain ⟨i,hi⟩:=List.mem_iff_getElem?.1 hk
  rw [ixOf_get n1 hi]
  exact ⟨by show (hs[i]?).bind E.β = _; rw [hi]; rfl,by show (hs[i]?).bind E.τ = _; rw [hi]; rfl,by show (hs[i]?).bind E.ζ = _; rw [hi]; rfl⟩
 have hheap : ∀ h,HOk Ec w h (hfOf (ls.map (rnH (ixOf hs))) h):=by
  intro h
  simp only [hfOf,nth_eq]
  rw [List.getElem?_map]
  cases hl : ls[h]? with
  | none =>
   have : hs[h]? = none:=by rw [List.getElem?_eq_none_iff] at hl ⊢; omega
   simp only [Option.map_none,Option.getD_none]
   exact ⟨by show (hs[h]?).bind E.β = none; rw [this]; rfl,by show (hs[h]?).bind E.τ = none; rw [this]; rfl,rfl,by show (hs[h]?).bind E.ζ = none; rw [this]; rfl⟩
  | some l =>
   have hlt : h < hs.length:=by rw [←n2]; exact (List.getElem?_eq_some_iff.1 hl).1
   have hmem : hs[h]∈hs:=List.getElem_mem hlt
   obtain ⟨c1,c2⟩:=hcl l (List.mem_of_getElem? hl)
   have hk:=hst hs[h]
   rw [agh.rds _ hmem] at hk
   have hnl : HOk E w hs[h] l:=by
    rw [hls0,getG_eq,List.getElem?_map,List.getElem?_eq_getElem hlt] at hl
    simp only [Option.map_some,Option.some.injEq] at hl
    rw [←hl]
    cases hn : nth hp hs[h] with
    | none=>trivial
    | some l0=>rw [nth_hf hn] at hk; exact hk.normG
   simp only [Option.map_some,Option.getD_some]
   have hs1:=hsame _ hmem
   rw [ixOf_get n1 (List.getElem?_eq_getElem hlt)] at hs1
   refine hnl.rn (ixOf hs) c1 hIc hs1 (fun b hb=>?_) fun j hj=>hsame j (c2 j hj)
   show (E.O b).bind (fun h=>hs.idxOf? h) = some h
   rw [hb]
   exact hidx h _ (List.getElem?_eq_getElem hlt)
 have hrel : RelL Ec w (rnV.rnL (ixOf hs) vs) us:=by
  rw [rnL_eq]
  exact hvs'.map _ fun s v hm h=>h.rn (ixOf hs) hIc ((rowlessL_iff _).1 hrow s hm) fun k hk=>hsame k (hin k (by rw [hsL_eq,List.mem_flatMap]; exact ⟨s,hm,hk⟩))
 have hcall:=hct Bc Ec w us rfl (fun b o h=>h) (fun h hb=>by
  have hb : (hs[h]?).bind E.β≠none∨(hs[h]?).bind E.τ≠none∨(hs[h]?).bind E.ζ≠none:=hb
  cases hh : hs[h]? with
  | none=>rw [hh] at hb; simp at hb
  | some k=>rw [List.length_map,n2]; exact (List.getElem?_eq_some_iff.1 hh).1) hbc hgc hheap hrel
 refine Gm _ _ _ _ ?_ hcall
 rintro e w' ⟨v,Ec',rfl,x2,x3,x4⟩
 -- back in the caller's state
 obtain ⟨M,hM⟩ : ∃ M,M = hp.length:=⟨_,rfl⟩
 obtain ⟨m,hm⟩ : ∃ m,m = hs.length:=⟨_,rfl⟩
 rw [←hM,←hm]
 rw [←hm] at hlen
 let E' : Env:=⟨pickE hs M m ls'.length Ec'.β E.β,pickE hs M m ls'.length Ec'.τ E.τ,backO hs M m Ec'.O E.O,E.κ,pickE hs M m ls'.length Ec'.ζ E.ζ,Ec'.I⟩
 have hfreshM : ∀ k,M≤k→k < M + (ls'.length - m)→hf k = .fresh:=by
  intro k h1 h2
  have hl : ∃ l,((ls'.drop m).map (rnH (backR hs m M)))[k - M]? = some l:=⟨_,List.getElem?_eq_getElem (by simp; omega)⟩
  obtain ⟨l,hl⟩:=hl
  have hmem:=newEfs_mem ((ls'.drop m).map (rnH (backR hs m M))) M (k - M) l hl
  rw [show M + (k - M) = k by omega] at hmem
  have hmem' : Ef.put k l∈newEfs hp.length (List.map (rnH (backR hs hs.length hp.length)) (List.drop hs.length ls')):=by rw [←hM,←hm]; exact hmem
  have:=agh.efs _ (List.mem_append.2 (.inr hmem'))
  simp only [AgE,hfOf,nth_eq] at this
  rw [this,List.getElem?_eq_none (by omega)]; rfl
 have hfreshE : ∀ k,M≤k→k < M + (ls'.length - m)→E.β k = none∧E.τ k = none∧E.ζ k = none:=by
  intro k h1 h2
  have:=hst k
  rw [hfreshM k h1 h2] at this
  exact ⟨this.1,this.2.1,this.2.2.2⟩
 have pick_hs : ∀ {α : Type} (F G : Nat→Option α) (i k : Nat),hs[i]? = some k→pickE hs M m ls'.length F G k = F i:=by
  intro α F G i k hk; simp only [pickE,hidx i k hk]
 have pick_new : ∀ {α : Type} (F G : Nat→Option α) (i : Nat),m + i < ls'.length→pickE hs M m ls'.length F G (M + i) = F (m + i):=by
  intro α F G i hi
  have : (M + i) ∉ hs:=fun h=>by have:=hltM _ h; omega
  simp only [pickE,hidxn _ this]
  rw [if_pos (by omega),Nat.add_sub_cancel_left]
 have pick_oth : ∀ {α : Type} (F G : Nat→Option α) (k : Nat),k ∉ hs→¬ (M≤k∧k < M + (ls'.length - m))→pickE hs M m ls'.length F G k = G k:=by
  intro α F G k h1 h2
  simp only [pickE,hidxn _ h1]
  rw [if_neg h2]
 have cases3 : ∀ k : Nat,(∃ i : Nat,hs[i]? = some k)∨(∃ i,m + i < ls'.length∧k = M + i)∨(k ∉ hs∧¬ (M≤k∧k < M + (ls'.length - m))):=by
  intro k
  by_cases h1 : k∈hs
  ·obtain ⟨i,hi⟩:=List.mem_iff_getElem?.1 h1; exact .inl ⟨i,hi⟩
  ·by_cases h2 : M≤k∧k < M + (ls'.length - m)
   ·exact .inr (.inl ⟨k - M,by omega,by omega⟩)
   ·exact .inr (.inr ⟨h1,h2⟩)
 have hext : Ext E w E' w':=by
  refine ⟨fun k b hk=>?_,fun k u hk=>?_,fun _ _ h=>h,fun k n hk=>?_,fun b o h=>(x2.I0 b o h).1,fun b o h=>(x2.I0 b o h).2⟩
  ·show pickE hs M m ls'.length Ec'.β E.β k = some b
   rcases cases3 k with ⟨i,hi⟩ | ⟨i,hi,rfl⟩ | ⟨h1,h2⟩
   ·rw [pick_hs _ _ i k hi]; exact x2.β0.β i b (by show (hs[i]?).bind E.β = some b; rw [hi]; exact hk)
   ·rw [(hfreshE _ (by omega) (by omega)).1] at hk; cases hk
   ·rw [pick_oth _ _ k h1 h2]; exact hk
  ·show TauLe u (pickE hs M m ls'.length Ec'.τ E.τ k)
   rcases cases3 k with ⟨i,hi⟩ | ⟨i,hi,rfl⟩ | ⟨h1,h2⟩
   ·rw [pick_hs _ _ i k hi]; exact x2.β0.τ i u (by show (hs[i]?).bind E.τ = some u; rw [hi]; exact hk)
   ·rw [(hfreshE _ (by omega) (by omega)).2.1] at hk; cases hk
   ·rw [pick_oth _ _ k h1 h2]; exact .inl hk
  ·show pickE hs M m ls'.length Ec'.ζ E.ζ k = some n
   rcases cases3 k with ⟨i,hi⟩ | ⟨i,hi,rfl⟩ | ⟨h1,h2⟩
   ·rw [pick_hs _ _ i k hi]; exact x2.β0.ζ i n (by show (hs[i]?).bind E.ζ = some n; rw [hi]; exact hk)
   ·rw [(hfreshE _ (by omega) (by omega)).2.2] at hk; cases hk
   ·rw [pick_oth _ _ k h1 h2]; exact hk
 have hInew : ∀ b o,b < w.heap.size→(¬ ∃ h∈hs,E.O b = some h)→Ec'.I b o→E.I b o:=fun b o hlt hnX hi=>by
  rcases x2.Inew b o hi with h | h | h
  ·exact h
  ·have : w.heap.size≤b:=h
   omega
  ·exact absurd h hnX
 have hbase : Base B E' w':=by
  refine ⟨x2.os.trans hb.os,x2.tape.trans hb.tape,x2.output.trans hb.output,Nat.le_trans hb.size x2.size,fun b hlt hX=>?_,fun b o hi=>?_,x2.Ibd,fun b o hi=>?_,fun b h hO=>?_,hb.β0.ext hext⟩
  ·rw [x2.old b (by have:=hb.size; show b < w.heap.size; omega) ?_]
   ·exact hb.old b hlt hX
   ·rintro ⟨k,_,hO⟩
    rcases (hb.Obd b k hO).2 with h | h
    ·omega
    ·exact hX h
  ·obtain ⟨i1,i2⟩:=hb.I0 b o hi
   exact ⟨(x2.I0 b o i1).1,by rw [(x2.I0 b o i1).2]; exact i2⟩
  ·rcases x2.Inew b o hi with h | h | ⟨k,_,hO⟩
   ·exact hb.Inew b o h
   ·have : w.heap.size≤b:=h
    have:=hb.size
    exact .inr (.inl (by omega))
   ·exact .inr (hb.Obd b k hO).2
  ·have hO : backO hs M m Ec'.O E.O b = some h:=hO
   unfold backO at hO
   split at hO
   ·rename_i i hi
    obtain ⟨o1,o2⟩:=x2.Obd b i hi
    refine ⟨o1,?_⟩
    rcases o2 with o2 | ⟨k,_,hk⟩
    ·have : w.heap.size≤b:=o2
     have:=hb.size
     exact .inl (by omega)
    ·exact (hb.Obd b k hk).2
   ·split at hO
    ·cases hO
    ·obtain ⟨o1,o2⟩:=hb.Obd b h hO
     exact ⟨Nat.lt_of_lt_of_le o1 x2.size,o2⟩
 have hOback : ∀ b i : Nat,Ec'.O b = some i→∀ k : Nat,(hs[i]? = some k∧i < m∨m≤i∧k = M + (i - m))→E'.O b = some k:=by
  intro b i hi k hk
  show backO hs M m Ec'.O E.O b = some k
  simp only [backO,hi]
  rcases hk with ⟨h1,h2⟩ | ⟨h1,rfl⟩
  ·rw [if_pos h2]; exact h1
  ·rw [if_neg (by omega)]
 have hback : ∀ j,j < ls'.length→Same1 Ec' j E' (backR hs m M j):=by
  intro j hj
  by_cases hjm : j < m
  ·have hk : hs[j]? = some hs[j]:=List.getElem?_eq_getElem (by omega)
   have e : backR hs m M j = hs[j]:=by
    unfold backR
    rw [if_pos (by rw [Nat.blt_eq]; exact hjm),nth_eq,hk]
   rw [e]
   exact ⟨pick_hs _ _ j _ hk,pick_hs _ _ j _ hk,pick_hs _ _ j _ hk⟩
  ·have e : backR hs m M j = M + (j - m):=by
    unfold backR
    rw [if_neg (by rw [Nat.blt_eq]; exact hjm)]
   have h1 : ∀ {α : Type} (F G : Nat→Option α),pickE hs M m ls'.length F G (M + (j - m)) = F j:=by
    intro α F G
    have:=pick_new F G (j - m) (by omega)
    rwa [show m + (j - m) = j by omega] at this
   rw [e]
   exact ⟨h1 _ _,h1 _ _,h1 _ _⟩
 obtain ⟨f1,f2⟩:=efsF_back (hf:=hf) hs ((ls'.take m).map (rnH (backR hs m M))) (by simp; omega) n1
 refine ⟨v,E',rfl,hext,hbase,fun k=>?_,x4.rn (backR hs m M) rfl hrr fun k hk=>hback k (hrl k hk)⟩
 show HOk E' w' k (efsF hf (backEfs hs ((ls'.take m).map (rnH (backR hs m M))) ++ newEfs M ((ls'.drop m).map (rnH (backR hs m M)))) k)
 rw [efsF_append,efsF_new]
 rcases cases3 k with ⟨i,hi⟩ | ⟨i,hi,rfl⟩ | ⟨h1,h2⟩
 ·have hkM:=hltM k (List.mem_of_getElem? hi)
  have hilt : i < hs.length:=(List.getElem?_eq_some_iff.1 hi).1
  rw [if_neg (by omega)]
  obtain ⟨l,hl⟩ : ∃ l,ls'[i]? = some l:=⟨_,List.getElem?_eq_getElem (by omega)⟩
  rw [f2 i k (rnH (backR hs m M) l) hi (by rw [List.getElem?_map,List.getElem?_take,if_pos (by omega),hl]; rfl)]
  have h3:=x3 i (by omega)
  have : hfOf ls' i = l:=by simp [hfOf,nth_eq,hl]
  rw [this] at h3
  obtain ⟨o1,o2⟩:=hok l (List.mem_of_getElem? hl)
  have hs1:=hback i (by omega)
  have e : backR hs m M i = k:=by
   unfold backR
   rw [if_pos (by rw [Nat.blt_eq]; omega),nth_eq,hi]
  rw [e] at hs1
  exact h3.rn (backR hs m M) o1 rfl hs1 (fun b hb=>hOback b i hb k (.inl ⟨hi,by omega⟩)) fun j hj=>hback j (o2 j hj)
 ·rw [if_pos (by simp; omega)]
  obtain ⟨l,hl⟩ : ∃ l,ls'[m + i]? = some l:=⟨_,List.getElem?_eq_getElem hi⟩
  rw [Nat.add_sub_cancel_left,List.getElem?_map,List.getElem?_drop,hl]
  simp only [Option.map_some,Option.getD_some]
  have h3:=x3 (m + i) hi
  have : hfOf ls' (m + i) = l:=by simp [hfOf,nth_eq,hl]
  rw [this] at h3
  obtain ⟨o1,o2⟩:=hok l (List.mem_of_getElem? hl)
  have hs1:=hback (m + i) hi
  have e : backR hs m M (m + i) = M + i:=by
   unfold backR
   rw [if_neg (by rw [Nat.blt_eq]; omega),Nat.add_sub_cancel_left]
  rw [e] at hs1
  exact h3.rn (backR hs m M) o1 rfl hs1 (fun b hb=>hOback b (m + i) hb _ (.inr ⟨by omega,by congr 1; omega⟩)) fun j hj=>hback j (o2 j hj)
 ·rw [if_neg (by simp; omega),f1 k h1]
  refine HOk.keep hext (hst k) (pick_oth _ _ k h1 h2) (pick_oth _ _ k h1 h2) rfl (pick_oth _ _ k h1 h2) fun b hO=>?_
  have hnX : ¬ ∃ h∈hs,E.O b = some h:=by
   rintro ⟨k2,hk2,hO2⟩
   rw [hO] at hO2
   cases hO2
   exact h1 hk2
  refine ⟨?_,x2.old b (owned_lt hb hO) hnX,fun o hi=>hInew b o (owned_lt hb hO) hnX hi⟩
  show backO hs M m Ec'.O E.O b = some k
  have hnone : Ec'.O b = none:=by
   cases hi : Ec'.O b with
   | none=>rfl
   | some i =>
    rcases (x2.Obd b i hi).2 with h | h
    ·have h : w.heap.size≤b:=h
     have:=owned_lt hb hO
     omega
    ·exact absurd h hnX
  simp only [backO,hnone]
  rw [if_neg hnX]; exact hO
theorem local_callG {f : FuncId} {vs0 vs : List SV} (hen : Enters P cx.gl σ T o f vs0) (hvs0 : vs = loose.looseL (norm.normL dn vs0))
  {hs : List Nat} {ls : List Hl} (hls0 : ls = getG dn σ.hp hs) (n1 : hs.Nodup) (hin : ∀ k∈hsV.hsL vs,k∈hs) (hrow : rowless.rowlessL vs = true) (hltM : ∀ k∈hs,k < σ.hp.length) (hcl : ∀ l∈ls,rowlessH l = true∧∀ j∈hsH l,j∈hs)
  {r : SV} {ls' : List Hl} (hct : CallsTo P cx.gl f (rnV.rnL (ixOf hs) vs) (mapH (rnH (ixOf hs)) ls) r ls') (hlen : hs.length≤ls'.length) (hrr : rowless r = true) (hrl : ∀ k∈hsV r,k < ls'.length) (hok : ∀ l∈ls',rowlessH l = true∧∀ j∈hsH l,j < ls'.length) :
  Local P cx.gl σ T o ⟨rnV (backR hs hs.length (lenN σ.hp)) r,backEfs hs (mapH (rnH (backR hs hs.length (lenN σ.hp))) (takeN hs.length ls')) ++ newEfs (lenN σ.hp) (mapH (rnH (backR hs hs.length (lenN σ.hp))) (dropN hs.length ls')),hs,[]⟩:=by
 rw [takeN_eq,dropN_eq,lenN_eq,mapH_eq,mapH_eq]
 rw [mapH_eq] at hct
 intro B N E a w ff hf hg st ag agh hT K' Q hK
 obtain ⟨us,hvs,hrun⟩:=hen B N E a w ff hf hg st ag hT
 have:=callG_core (cx:=cx) (G:=fun us w R=>Calls P f ⟨us⟩ w R) (fun us w R R' h hc=>hc.mono h) hvs0 hls0 n1 hin hrow hltM hcl hct hlen hrr hrl hok hg st.base st.heap agh hvs
 unfold Oper.wp
 rw [hrun]
 simp only [Oper.upon]
 refine Calls.mono this ?_
 rintro e w' ⟨v,E',rfl,h1,h2,h3,h4⟩
 exact hK v w' E' h1 h2 h3 h4
theorem enters_func {f : FuncId} {vs : List SV} {c : Call} (ho : o.op = .call c) (hcal : c.callee = .value (.func f)) (hv : rdAll cx σ T c.args.toList c.argTypes.toList = some vs) (hgood : FnGood P f) : Enters P cx.gl σ T o f vs:=by
 intro B N E a w ff hf hg st ag hT
 refine ⟨c.args.toList.map a.eval,rdAll_sound trivial hg st hT c.args.toList c.argTypes.toList vs (fun x hx=>ag_of ag (by simp only [ho,Op.operands,Call.operands]; simp; exact .inr (by simpa using hx))) hv,?_⟩
 obtain ⟨fn,body,g1,g2,g3⟩:=hgood
 have hargsE : (⟨c.args.toList.map a.eval⟩ : Array Value) = c.args.map a.eval:=by apply Array.ext'; simp
 have g4 : ¬ fn.name = "runtime.NumGoroutine":=by simpa using g3
 rw [hargsE]
 simp [execOp,ho,resolve,hcal,Act.eval,Deferred.ofValue,invoke,callFunc,g1,g2,g4]
theorem enters_slot {f : FuncId} {vs cs : List SV} {c : Call} {s : Nat} (ho : o.op = .call c) (hcal : c.callee = .value (.tmp s)) (hv : rdAll cx σ T c.args.toList c.argTypes.toList = some vs)
  (hs : rd cx σ T (.tmp s) = some (.clo f cs)∨cs = []∧rd cx σ T (.tmp s) = some (.fn f)) (hgood : FnGood P f) : Enters P cx.gl σ T o f (vs ++ cs):=by
 intro B N E a w ff hf hg st ag hT
 have hvs:=rdAll_sound trivial hg st hT c.args.toList c.argTypes.toList vs (fun x hx=>ag_of ag (by simp only [ho,Op.operands,Call.operands]; simp; exact .inr (by simpa using hx))) hv
 have hag : ∀ t∈opSlots (.tmp s),ff t = ffOf σ t:=ag_of ag (by simp [ho,Op.operands,Call.operands,hcal])
 have hval : ∃ cv : List Value,a.eval (.tmp s) = .func (.func f) #[] ⟨cv⟩∧RelL E w cs cv:=by
  rcases hs with hs | ⟨rfl,hs⟩
  ·exact (rd_sound hs hg st hag hT).clo_inv
  ·exact ⟨[],(rd_sound hs hg st hag hT).fn_inv,rfl,by simp⟩
 obtain ⟨cv,he,hcv⟩:=hval
 refine ⟨c.args.toList.map a.eval ++ cv,?_,?_⟩
 ·refine ⟨by simp [hvs.1,hcv.1],fun i s' v h1 h2=>?_⟩
  have hl:=hvs.1
  by_cases hlt : i < vs.length
  ·rw [List.getElem?_append_left hlt] at h1
   rw [List.getElem?_append_left (by omega)] at h2
   exact hvs.2 i s' v h1 h2
  ·rw [List.getElem?_append_right (by omega)] at h1
   rw [List.getElem?_append_right (by omega),←hl] at h2
   exact hcv.2 _ s' v h1 h2
 obtain ⟨fn,body,g1,g2,g3⟩:=hgood
 have hargsE : (⟨c.args.toList.map a.eval ++ cv⟩ : Array Value) = c.args.map a.eval ++ (⟨cv⟩ : Array Value):=by apply Array.ext'; simp
 have g4 : ¬ fn.name = "runtime.NumGoroutine":=by simpa using g3
 rw [hargsE]
 simp [execOp,ho,resolve,hcal,he,Deferred.ofValue,invoke,callFunc,g1,g2,g4]
theorem local_makeFunc {f : FuncId} {fi cs : Array Operand} (ho : o.op = .makeFunc (.func f) fi cs) (hfi : fi.toList = []) {vs : List SV} (hv : rdAll cx σ T cs.toList [] = some vs) : Local P cx.gl σ T o ⟨.clo f vs,[],[],[]⟩:=by
 have hfi : fi = #[]:=by apply Array.ext'; simpa using hfi
 subst hfi
 intro B N E a w ff hf hg st ag _ hT
 have hr:=rdAll_sound trivial hg st hT cs.toList [] vs (fun x hx=>ag_of ag (by simp [ho,Op.operands]; simpa using hx)) hv
 refine yields_value st (v:=.func (.func f) #[] (cs.map a.eval)) ?_ rfl ?_
 ·simp [execOp,ho,Instr.makeFunc]
 ·have : cs.map a.eval = ⟨cs.toList.map a.eval⟩:=by apply Array.ext'; simp
  rw [this]; exact .clo hr.1 hr.2
theorem stepCall_sound (hc : CxOk P cx) (htab : TabOk P cx.gl cx.tab) {f : FuncId} {vs : List SV} (hen : FnGood P f→Enters P cx.gl σ T o f vs) (h : stepCall cx σ T f vs K) :
  ∃ r,K r∧Local P cx.gl σ T o r:=by
 unfold stepCall at h
 split at h
 ·rename_i sp h1
  have hlook:=htab.look h1
  have e : fnOf (f + 1000000) = f:=by
   unfold fnOf
   rw [if_neg (by rw [Nat.blt_eq]; omega),Nat.add_sub_cancel]
  rw [e] at hlook
  unfold stepCallG at h
  rw [hc.D] at h
  obtain ⟨vs1,hvs1⟩ : ∃ x,x = loose.looseL (norm.normL dn vs):=⟨_,rfl⟩
  simp only [←hvs1] at h
  obtain ⟨hs1,hhs1⟩ : ∃ x,x = reach σ.hp σ.hp (addNew [] (hsV.hsL vs1)):=⟨_,rfl⟩
  simp only [←hhs1] at h
  obtain ⟨ls1,hls1⟩ : ∃ x,x = getG dn σ.hp hs1:=⟨_,rfl⟩
  simp only [←hls1] at h
  split at h
  ·rename_i h3
   simp only [Bool.and_eq_true] at h3
   obtain ⟨⟨⟨⟨⟨c1,c2⟩,c3⟩,c4⟩,c5⟩,c6⟩:=h3
   obtain ⟨hgood,hfn⟩:=hlook
   obtain ⟨r,ls',⟨k1,k2⟩,hct⟩:=hfn _ _ _ h
   simp only [Bool.and_eq_true] at k1
   obtain ⟨⟨⟨k3,k4⟩,k5⟩,k6⟩:=k1
   have k3:=Nat.le_of_ble_eq_true k3
   simp only [lenN_eq hs1,lenN_eq ls'] at k3 k5 k6 k2
   rw [lenN_eq] at c4
   have:=local_callG (o:=o) (T:=T) (σ:=σ) (cx:=cx) (hen hgood) hvs1 hls1 ((nodupN_iff _).1 c1) ((allIn_iff _ _).1 c2) c3 ((lowN_iff _ _).1 c4) ((closedG_iff _ _).1 c5) hct k3 k4 ((lowN_iff _ _).1 k5) ((okGL_iff _ _).1 k6)
   exact ⟨_,k2,this⟩
  ·exact h.elim
 ·rw [hc.D] at h
  split at h
  ·rename_i sp as hs ls h1 h2
   split at h
   ·rename_i h3
    simp only [Bool.and_eq_true] at h3
    obtain ⟨⟨h3,_⟩,h4⟩:=h3
    have hlook:=htab.look h1
    have e : fnOf f = f:=by unfold fnOf; rw [if_pos h4]
    rw [e] at hlook
    obtain ⟨hgood,hfn⟩:=hlook
    obtain ⟨r,ls',⟨k1,k2,k3,k4⟩,hct⟩:=hfn _ _ _ h
    have k3:=Nat.le_of_ble_eq_true k3
    simp only [lenN_eq ls,lenN_eq ls'] at k1 k3 k4
    exact ⟨_,k4,local_call (hen hgood) h2 h3 hct k1 k2 k3⟩
   ·exact h.elim
  ·exact h.elim
end
end Go.Sx
namespace Go.Sx
open Go
section
variable {P : Program} {cx : Cx} {σ : Sy} {T : List Nat} {o : Oper} {K : Out→Prop}
def srcIs (w : World) (src : Value) (m sz : Nat) (news : List Value) : Prop :=
 news.length = m * sz∧(∀ v∈news,v.oneCell' = true)∧((src = .slice none 0 0∧m = 0)∨∃ (a : Addr) (c : Nat),src = .slice (some a) m c∧∀ (j : Nat) (u : Value),news[j]? = some u→w.cell? (a.add j) = some u)
theorem append_law {t e ty : TypeId} {ti : TI} (hu : P.underlying t = some (.slice e)) (he : TIok P e ti) {sz : Nat} (hsz : ti.size = sz) (hz0 : 0 < sz) {w : World} {v : Value} {n : Nat} {xs : List Value} (hown : w.ownsRow 0 e sz v n xs) {src : Value} {m : Nat} {news : List Value} (hs : srcIs w src m sz news)
  (h63 : n + m≤maxLen) (hb : (n + m) * ti.bytes≤140737488355328) :
  ∃ v' w',(Builtin.append_ #[t,t] ty #[v,src]).run P w = .ok v' w'∧w'.ownsRow 0 e sz v' (n + m) (xs ++ news)∧(v' = .slice none 0 0↔v = .slice none 0 0∧m = 0)∧
   ((v'.ownBlock = v.ownBlock∧w.grownBy w' v.ownBlock)∨(v'.ownBlock = some w.heap.size∧w.grownBy w' none))∧(∃ a c,v' = .slice a (n + m) c)∧(m = 0→v' = v):=by
 obtain ⟨i,z,hi,hsize,hby,hz,hzs,_⟩:=he.info
 obtain ⟨hl,h1,hsrc⟩:=hs
 have hown0:=hown
 have shape : ∀ (v' : Value) (w' : World) (xs' : List Value),w'.ownsRow 0 e sz v' (n + m) xs'→∃ a c,v' = .slice a (n + m) c:=by
  intro v' w' xs' h
  rcases h.2 with ⟨rfl,e0⟩ | ⟨g,cap,cur,rfl,_⟩
  ·exact ⟨none,0,by rw [e0]⟩
  ·exact ⟨_,_,rfl⟩
 rcases hsrc with ⟨rfl,rfl⟩ | ⟨a,c,rfl,hnews⟩
 ·have hn : news = []:=List.eq_nil_of_length_eq_zero (by simpa using hl)
  subst hn
  refine ⟨v,w,?_,by simpa using hown,by simp,.inl ⟨rfl,⟨rfl,rfl,rfl,Nat.le_refl _,fun _ _ _=>rfl⟩⟩,shape v w xs (by simpa using hown),fun _=>rfl⟩
  rcases hown.2 with ⟨rfl,rfl⟩ | ⟨g,cap,cur,rfl,hbg,hg,hnc,hcm,hcs,htake⟩
  ·simp [Builtin.append_,run_underlying hu,sizeOf,typeInfo,hi,Builtin.lenOf,Builtin.firstCells]
  ·simp [Builtin.append_,run_underlying hu,sizeOf,typeInfo,hi,Builtin.lenOf,Builtin.firstCells,hnc,storeCells]
 ·have hzsz : z.cells.size = sz:=by
   have:=(zsB_get (I:=fun _ _=>False) (w:=w) hzs).1
   have h2 : ti.zero.length = sz:=by
    rw [he.zlen,hsz]
   simpa [h2] using this.symm
  obtain ⟨v',w',hr,r1,r2,r3⟩:=run_append_own (P:=P) w 0 t ty e i z sz ti.bytes hu hi hz (by rw [hsize,hsz]) hby hzsz hz0 v n xs hown a m c news hl hnews h1 h63 hb (Nat.zero_le _)
  refine ⟨v',w',hr,r1,r3,?_,shape v' w' _ r1,?_⟩
  case refine_2 =>
   rintro rfl
   rcases hown.2 with ⟨rfl,rfl⟩ | ⟨g,cap,cur,rfl,hbg,hg,hnc,hcm,hcs,htake⟩
   ·exact r3.2 ⟨rfl,rfl⟩
   ·have hr2:=run_append_room (P:=P) w t ty e i hu hi g n cap cur hg a 0 c news (by rw [hsize,hsz]; exact hl) hnews h1 (by omega) (by rw [hl,hsize,hsz,hcs]; simp only [Nat.zero_mul,Nat.add_zero]; exact Nat.mul_le_mul_right _ hnc)
    rw [hr] at hr2
    simp only [Result.ok.injEq] at hr2
    rw [hr2.1]; rfl
  have hmax : n + m≤9223372036854775807:=by simpa [maxLen] using h63
  rcases hown.2 with ⟨rfl,rfl⟩ | ⟨g,cap,cur,rfl,hbg,hg,hnc,hcm,hcs,htake⟩
  ·by_cases hm : m = 0
   ·subst hm
    left
    exact ⟨by rw [r3.2 ⟨rfl,rfl⟩],r2⟩
   ·right
    have hr2:=run_append_nil (P:=P) w t ty e i z hu hi hz a m c news (by rw [hsize,hsz]; exact hl) hnews (by omega) (by omega) (by rw [hby]; simp only [Nat.zero_add] at hb; omega)
    rw [hr] at hr2
    simp only [Result.ok.injEq] at hr2
    rw [hr2.1,hr2.2]
    exact ⟨rfl,⟨rfl,rfl,rfl,by simp,fun k hk _=>heap_alloc_old w.drew _ hk⟩⟩
  ·by_cases hroom : n + m≤cap
   ·left
    refine ⟨?_,r2⟩
    have hr2:=run_append_room (P:=P) w t ty e i hu hi g n cap cur hg a m c news (by rw [hsize,hsz]; exact hl) hnews h1 hroom (by rw [hl,hsize,hsz,hcs,←Nat.add_mul]; exact Nat.mul_le_mul_right _ hroom)
    rw [hr] at hr2
    simp only [Result.ok.injEq] at hr2
    rw [hr2.1]; rfl
   ·right
    have holds : ∀ j u,xs[j]? = some u→w.cell? ((⟨g,0,none⟩ : Addr).add j) = some u:=hown0.cells (g:=g) rfl
    have hr2:=run_append_grow (P:=P) w t ty e i z hu hi hz ⟨g,0,none⟩ n cap xs (by rw [hsize,hsz]; exact hown0.1) holds a m c news (by rw [hsize,hsz]; exact hl) hnews (by omega) (by omega) (by rw [hby]; exact growslice_fits (by omega) hb)
    rw [hr] at hr2
    simp only [Result.ok.injEq] at hr2
    rw [hr2.1,hr2.2]
    exact ⟨rfl,⟨rfl,rfl,rfl,by simp,fun k hk _=>heap_alloc_old w.drew _ hk⟩⟩
theorem rowOf_src {E : Env} {w : World} {sz : Nat} {s : SV} {m : ST} {g : Nat→List SV} {v : Value} (h : rowOf sz s = some (m,g)) (hr : Rel E w s v) :
  ∃ (k : Nat) (news : List Value),m.den = (k : Int)∧k≤maxLen∧srcIs w v k sz news∧(∀ i,i < k→(g i).length = sz)∧∀ (i j : Nat) (s : SV) (u : Value),i < k→(g i)[j]? = some s→news[i * sz + j]? = some u→RO E.I w s u:=by
 have key : ∀ (nl : BT),RO E.I w (.sl nl m sz g) v→∃ (k : Nat) (news : List Value),m.den = (k : Int)∧k≤maxLen∧srcIs w v k sz news∧(∀ i,i < k→(g i).length = sz)∧∀ (i j : Nat) (s : SV) (u : Value),i < k→(g i)[j]? = some s→news[i * sz + j]? = some u→RO E.I w s u:=by
  intro nl hro
  rcases hro.sl_inv with ⟨rfl,e0,_⟩ | ⟨a,k,cap,f,rfl,_,e2,e3,e3',e4,e5,e5',e6,e7⟩
  ·exact ⟨0,[],by simpa using e0,Nat.zero_le _,⟨by simp,by simp,.inl ⟨rfl,rfl⟩⟩,by simp,by simp⟩
  ·refine ⟨k,(List.range (k * sz)).map fun q=>f (q / sz) (q % sz),e2,Nat.le_trans e3 e3',⟨by simp,fun u hu=>?_,.inr ⟨a,cap,rfl,fun j u hj=>?_⟩⟩,e5,fun i j s u hi hs hu=>?_⟩
   ·rw [List.mem_map] at hu
    obtain ⟨q,hq,rfl⟩:=hu
    have hq : q < k * sz:=by simpa using hq
    have hsz : 0 < sz:=by rcases Nat.eq_zero_or_pos sz with h | h; subst h; omega; exact h
    exact e5' _ _ ((Nat.div_lt_iff_lt_mul hsz).2 hq) (Nat.mod_lt _ hsz)
   ·rw [List.getElem?_map] at hj
    have hjlt : j < k * sz:=by
     rcases Nat.lt_or_ge j (k * sz) with h | h
     ·exact h
     ·rw [List.getElem?_eq_none (by simpa using h)] at hj; cases hj
    have hsz : 0 < sz:=by rcases Nat.eq_zero_or_pos sz with h | h; subst h; omega; exact h
    have hd:=(Nat.div_lt_iff_lt_mul hsz).2 hjlt
    have:=(e6 (j / sz) (j % sz) hd (Nat.mod_lt _ hsz)).1
    rw [Nat.mul_comm,Nat.div_add_mod] at this
    simp [hjlt] at hj
    subst hj
    have hspot:=e4 (by rcases Nat.eq_zero_or_pos k with h | h; subst h; omega; exact h)
    have : a.add j = ⟨a.block,a.off + j,none⟩:=by
     obtain ⟨b,o,sp⟩:=a
     simp only at hspot
     subst hspot
     exact add_lit b o j
    rw [this]
    assumption
   ·have hsj : j < sz:=by rw [←e5 i hi]; exact (List.getElem?_eq_some_iff.1 hs).1
    have hlt : i * sz + j < k * sz:=by
     have : (i + 1) * sz≤k * sz:=Nat.mul_le_mul_right _ hi
     rw [Nat.add_mul] at this
     omega
    rw [List.getElem?_map] at hu
    simp [hlt] at hu
    have h1 : (i * sz + j) / sz = i:=by rw [Nat.mul_comm,Nat.mul_add_div (by omega),Nat.div_eq_of_lt hsj]; omega
    rw [h1,Nat.mod_eq_of_lt hsj] at hu
    subst hu
    exact e7 i j s hi hs
 unfold rowOf at h
 split at h
 ·rename_i nl m' sz' g'
  split at h
  ·rename_i e
   simp only [Option.some.injEq,Prod.mk.injEq] at h
   obtain ⟨rfl,rfl⟩:=h
   have e : sz' = sz:=by simpa using e
   subst e
   exact key nl hr.sl_inv
  ·cases h
 ·rename_i nl m' sz' g' h0
  split at h
  ·rename_i e
   simp only [Option.some.injEq,Prod.mk.injEq] at h
   obtain ⟨rfl,rfl⟩:=h
   have e : sz' = sz:=by simpa using e
   subst e
   exact key nl hr.gsl_inv.1
  ·cases h
 ·cases h
theorem put_tail {B : Bs} {N : Nat} {E : Env} {a : Act} {w : World} {ff : Nat→SG} {hf : Nat→Hl} (st : St B N E a w ff hf) {h : Nat} {e : TypeId} {sz : Nat} {v v' : Value} {n m : Nat} {xs news : List Value} {w' : World}
  (hold : (hf h = .fresh∧v = .slice none 0 0)∨∃ nt,hf h = .tail e nt sz∧E.τ h = some v∧(∀ b,v.ownBlock = some b→E.O b = some h∧∀ o,n * sz≤o→¬ E.I b o))
  (h1 : ∀ u∈xs ++ news,u.oneCell' = true)
  (hown : w.ownsRow 0 e sz v n xs) (hown' : w'.ownsRow 0 e sz v' (n + m) (xs ++ news)) (hblk : (v'.ownBlock = v.ownBlock∧w.grownBy w' v.ownBlock)∨(v'.ownBlock = some w.heap.size∧w.grownBy w' none)) (hshape : ∃ a c,v' = .slice a (n + m) c) (hkeep : hf h≠.fresh→m = 0→v' = v) (nt' : ST) (hnt : nt'.den = ((n + m : Nat) : Int)) :
  ∃ E',Ext E w E' w'∧Base B E' w'∧(∀ k,HOk E' w' k (upd hf h (.tail e nt' sz) k))∧E'.τ h = some v'∧(∀ b o,v'.ownBlock = some b→o < (n + m) * sz→E'.I b o)∧(∀ b o,v'.ownBlock = some b→o < (n + m) * sz→w'.cell? ⟨b,o,none⟩ = (xs ++ news)[o]?):=by
 have hb:=st.base
 have hbold : ∀ b,v.ownBlock = some b→E.O b = some h∧(∀ o,n * sz≤o→¬ E.I b o)∧b < w.heap.size:=by
  intro b hbb
  rcases hold with ⟨_,rfl⟩ | ⟨_,_,_,h3⟩
  ·simp [Value.ownBlock] at hbb
  ·exact ⟨(h3 b hbb).1,(h3 b hbb).2,owned_lt hb (h3 b hbb).1⟩
 let E' : Env:=⟨E.β,upd E.τ h (some v'),fun b=>if v'.ownBlock = some b then some h else E.O b,E.κ,E.ζ,fun b o=>E.I b o∨(v'.ownBlock = some b∧o < (n + m) * sz)⟩
 have hcellv : ∀ b o,v.ownBlock = some b→o < n * sz→w.cell? ⟨b,o,none⟩ = xs[o]?:=by
  intro b o hbb ho
  rcases hown.2 with ⟨rfl,_⟩ | ⟨g,cap,cur,rfl,_,hgg,hnc,_,hcs,htake⟩
  ·simp [Value.ownBlock] at hbb
  ·simp [Value.ownBlock] at hbb
   subst hbb
   rw [cell_of_row w g o cur e (0,0) hgg,←htake,List.getElem?_take,if_pos ho]
   simp
 have hcellv' : ∀ b o,v'.ownBlock = some b→o < (n + m) * sz→w'.cell? ⟨b,o,none⟩ = (xs ++ news)[o]?:=by
  intro b o hbb ho
  rcases hown'.2 with ⟨rfl,_⟩ | ⟨g,cap,cur,rfl,_,hgg,hnc,_,hcs,htake⟩
  ·simp [Value.ownBlock] at hbb
  ·simp [Value.ownBlock] at hbb
   subst hbb
   rw [cell_of_row w' g o cur e (0,0) hgg,←htake,List.getElem?_take,if_pos ho]
   simp
 have hgos : w'.os = w.os∧w'.tape = w.tape∧w'.output = w.output∧w.heap.size≤w'.heap.size:=by
  rcases hblk with ⟨_,hg⟩ | ⟨_,hg⟩<;>exact ⟨hg.os,hg.tape,hg.output,hg.size⟩
 have hother : ∀ b,b < w.heap.size→v.ownBlock≠some b→w'.heap[b]? = w.heap[b]?:=by
  intro b hlt hne
  rcases hblk with ⟨_,hg⟩ | ⟨_,hg⟩
  ·exact hg.block b hlt (fun e=>hne e.symm)
  ·exact hg.block b hlt (by simp)
 have hI : ∀ b o,E.I b o→w'.cell? ⟨b,o,none⟩ = w.cell? ⟨b,o,none⟩:=by
  intro b o hi
  have hlt:=hb.Ibd b o hi
  by_cases hbv : v.ownBlock = some b
  ·have ho : o < n * sz:=by
    rcases Nat.lt_or_ge o (n * sz) with h | h
    ·exact h
    ·exact absurd hi ((hbold b hbv).2.1 o h)
   rcases hblk with ⟨hs,_⟩ | ⟨_,hg⟩
   ·rw [hcellv' b o (by rw [hs]; exact hbv) (by rw [Nat.add_mul]; omega),hcellv b o hbv ho,List.getElem?_append_left (by rw [hown.1]; exact ho)]
   ·simp only [World.cell?]
    rw [hg.block b hlt (by simp)]
  ·simp only [World.cell?]
   rw [hother b hlt hbv]
 have hx : Ext E w E' w':=by
  refine ⟨fun _ _ h=>h,fun k u hk=>?_,fun _ _ h=>h,fun _ _ h=>h,fun b o h=>.inl h,hI⟩
  show upd E.τ h (some v') k = some u∨∃ a m' c a' m'' c',u = .slice a m' c∧upd E.τ h (some v') k = some (.slice a' m'' c')∧m' < m''
  unfold upd
  by_cases e : k = h
  ·subst e
   rw [if_pos rfl]
   rcases hold with ⟨hfr,_⟩ | ⟨nt,hne,h2,_⟩
   ·have:=st.heap k
    rw [hfr] at this
    rw [this.2.1] at hk
    cases hk
   ·rw [h2] at hk
    cases hk
    by_cases hm : m = 0
    ·left; rw [hkeep (by rw [hne]; simp) hm]
    ·right
     obtain ⟨a',c',rfl⟩:=hshape
     have : ∃ a c,v = .slice a n c:=by
      rcases hown.2 with ⟨rfl,e0⟩ | ⟨g,cap,cur,rfl,_⟩
      ·exact ⟨none,0,by rw [e0]⟩
      ·exact ⟨_,_,rfl⟩
     obtain ⟨a,c,rfl⟩:=this
     exact ⟨a,n,c,a',n + m,c',rfl,rfl,by omega⟩
  ·rw [if_neg e]; exact .inl hk
 have hownlt : ∀ b,v'.ownBlock = some b→b < w'.heap.size:=fun b hbb=>(hown'.lt b hbb).2
 have hnew : ∀ b,v'.ownBlock = some b→B.w0.heap.size≤b∨B.X b:=by
  intro b hbb
  rcases hblk with ⟨hs,_⟩ | ⟨hs,_⟩
  ·exact (hb.Obd b h (hbold b (by rw [←hs]; exact hbb)).1).2
  ·rw [hs] at hbb; cases hbb; exact .inl hb.size
 refine ⟨E',hx,⟨hgos.1.trans hb.os,hgos.2.1.trans hb.tape,hgos.2.2.1.trans hb.output,Nat.le_trans hb.size hgos.2.2.2,fun b hlt hX=>?_,fun b o hi=>?_,fun b o hi=>?_,fun b o hi=>?_,fun b k hO=>?_,hb.β0.ext hx⟩,fun k=>?_,by simp [E',upd],fun b o hbb ho=>.inr ⟨hbb,ho⟩,hcellv'⟩
 ·have hsz:=hb.size
  rw [hother b (by omega) ?_]
  ·exact hb.old b hlt hX
  ·intro hbv
   rcases (hb.Obd b h (hbold b hbv).1).2 with h | h
   ·omega
   ·exact hX h
 ·obtain ⟨i1,i2⟩:=hb.I0 b o hi
  exact ⟨.inl i1,by rw [hI b o i1]; exact i2⟩
 ·rcases hi with hi | ⟨hbb,_⟩
  ·exact Nat.lt_of_lt_of_le (hb.Ibd b o hi) hgos.2.2.2
  ·exact hownlt b hbb
 ·rcases hi with hi | ⟨hbb,ho⟩
  ·exact hb.Inew b o hi
  ·exact .inr (hnew b hbb)
 ·have hO : (if v'.ownBlock = some b then some h else E.O b) = some k:=hO
  split at hO
  ·rename_i hbb
   exact ⟨hownlt b hbb,hnew b hbb⟩
  ·obtain ⟨o1,o2⟩:=hb.Obd b k hO
   exact ⟨Nat.lt_of_lt_of_le o1 hgos.2.2.2,o2⟩
 ·by_cases e : k = h
  ·subst e
   simp only [upd,if_pos]
   refine ⟨v',n + m,xs ++ news,by simp [E',upd],hown',hnt,h1,fun b hbb=>⟨by show (if v'.ownBlock = some b then some k else E.O b) = some k; rw [if_pos hbb],fun o ho hi=>?_⟩⟩
   rcases hi with hi | ⟨_,ho2⟩
   ·rcases hblk with ⟨hs,_⟩ | ⟨hs,_⟩
    ·exact (hbold b (by rw [←hs]; exact hbb)).2.1 o (by rw [Nat.add_mul] at ho; omega) hi
    ·rw [hs] at hbb; cases hbb
     have:=hb.Ibd _ _ hi
     omega
   ·omega
  ·simp only [upd,if_neg e]
   refine HOk.keep hx (st.heap k) rfl (by simp [E',upd,e]) rfl rfl fun b hO=>?_
   have hlt:=owned_lt hb hO
   have hne : v'.ownBlock≠some b:=by
    intro hbb
    rcases hblk with ⟨hs,_⟩ | ⟨hs,_⟩
    ·have:=(hbold b (by rw [←hs]; exact hbb)).1
     rw [hO] at this
     exact e (Option.some.inj this)
    ·rw [hs] at hbb; cases hbb; omega
   have hnv : v.ownBlock≠some b:=by
    intro hbb
    have:=(hbold b hbb).1
    rw [hO] at this
    exact e (Option.some.inj this)
   refine ⟨by show (if v'.ownBlock = some b then some h else E.O b) = some k; rw [if_neg hne]; exact hO,hother b hlt hnv,fun o hi=>?_⟩
   rcases hi with hi | ⟨hbb,_⟩
   ·exact hi
   ·exact absurd hbb hne
end
end Go.Sx
namespace Go.Sx
open Go
section
variable {P : Program} {cx : Cx} {σ : Sy} {T : List Nat} {o : Oper} {K : Out→Prop}
theorem grown_RO {I' : Nat→Nat→Prop} {w' : World} {e : TypeId} {sz n m : Nat} {v' : Value} {xs news : List Value} {f' : Nat→List SV} {nl' : BT} {nt' : ST} (hown' : w'.ownsRow 0 e sz v' (n + m) (xs ++ news)) (hxl : xs.length = n * sz)
  (hnl : nl'.den = true↔v' = .slice none 0 0) (hnt : nt'.den = ((n + m : Nat) : Int)) (h1 : ∀ u∈xs ++ news,u.oneCell' = true)
  (hI : ∀ b o,v'.ownBlock = some b→o < (n + m) * sz→I' b o) (hcell : ∀ b o,v'.ownBlock = some b→o < (n + m) * sz→w'.cell? ⟨b,o,none⟩ = (xs ++ news)[o]?)
  (hl1 : ∀ i,i < n→(f' i).length = sz) (hl2 : ∀ j,j < m→(f' (n + j)).length = sz)
  (hr1 : ∀ (i j : Nat) (s : SV) (u : Value),i < n→(f' i)[j]? = some s→xs[i * sz + j]? = some u→RO I' w' s u) (hr2 : ∀ (i j : Nat) (s : SV) (u : Value),i < m→(f' (n + i))[j]? = some s→news[i * sz + j]? = some u→RO I' w' s u) :
  RO I' w' (.sl nl' nt' sz f') v':=by
 have hlen : (xs ++ news).length = (n + m) * sz:=hown'.1
 have hnlen : news.length = m * sz:=by rw [List.length_append,hxl,Nat.add_mul] at hlen; omega
 rcases hown'.2 with ⟨rfl,e0⟩ | ⟨g,cap,cur,rfl,_,hgg,hnc,hcm,hcs,htake⟩
 ·exact .slnil (hnl.2 rfl) (by rw [hnt,e0]; rfl)
 ·have hidx : ∀ i j,i < n + m→j < sz→i * sz + j < (n + m) * sz:=by
   intro i j hi hj
   have : (i + 1) * sz≤(n + m) * sz:=Nat.mul_le_mul_right _ hi
   rw [Nat.add_mul] at this
   omega
  have hlf : ∀ i,i < n + m→(f' i).length = sz:=by
   intro i hi
   by_cases hin : i < n
   ·exact hl1 i hin
   ·have:=hl2 (i - n) (by omega)
    rwa [show n + (i - n) = i by omega] at this
  refine .sl (fun i j=>(xs ++ news).getD (i * sz + j) undef) ?_ hnt hnc hcm (fun _=>rfl) hlf (fun i j hi hj=>?_) (fun i j hi hj=>⟨?_,?_⟩) (fun i j s hi hs=>?_)
  ·cases hb : nl'.den with
   | false=>rfl
   | true=>exact absurd (hnl.1 hb) (by simp)
  ·refine h1 _ ?_
   have:=hidx i j hi hj
   rw [List.getD_eq_getElem?_getD,List.getElem?_eq_getElem (by rw [hlen]; exact this)]
   exact List.getElem_mem _
  ·have hlt:=hidx i j hi hj
   simp only [Nat.zero_add]
   rw [hcell g _ rfl hlt,List.getD_eq_getElem?_getD,List.getElem?_eq_getElem (by rw [hlen]; exact hlt)]
   rfl
  ·simp only [Nat.zero_add]
   exact hI g _ rfl (hidx i j hi hj)
  ·have hj : j < sz:=by rw [←hlf i hi]; exact (List.getElem?_eq_some_iff.1 hs).1
   have hlt:=hidx i j hi hj
   by_cases hin : i < n
   ·have hxi : i * sz + j < xs.length:=by
     rw [hxl]
     have : (i + 1) * sz≤n * sz:=Nat.mul_le_mul_right _ hin
     rw [Nat.add_mul] at this
     omega
    refine hr1 i j s _ hin hs ?_
    rw [List.getD_eq_getElem?_getD,List.getElem?_append_left hxi,List.getElem?_eq_getElem hxi]
    rfl
   ·have e1 : i * sz + j = n * sz + ((i - n) * sz + j):=by
     have : i * sz = n * sz + (i - n) * sz:=by rw [←Nat.add_mul]; congr 1; omega
     omega
    have hni : (i - n) * sz + j < news.length:=by
     rw [hnlen]
     have : (i - n + 1) * sz≤m * sz:=Nat.mul_le_mul_right _ (by omega)
     rw [Nat.add_mul] at this
     omega
    refine hr2 (i - n) j s _ (by omega) (by rw [show n + (i - n) = i by omega]; exact hs) ?_
    rw [List.getD_eq_getElem?_getD,e1,List.getElem?_append_right (by omega),hxl,Nat.add_sub_cancel_left,List.getElem?_eq_getElem hni]
    rfl
theorem run_builtin_append {c : Call} (ho : o.op = .call c) (hcal : c.callee = .builtin .append) {x y : Operand} {t : TypeId} (hx : c.args.toList = [x,y]) (ht : c.argTypes.toList = [t,t]) {a : Act} {w w' : World} {v' : Value} (hr : (Builtin.append_ #[t,t] o.type #[a.eval x,a.eval y]).run P w = .ok v' w') :
  (execOp a.eval o).run P w = .ok (.value v') w':=by
 have e1 : c.args = #[x,y]:=Array.ext' (by simpa using hx)
 have e2 : c.argTypes = #[t,t]:=Array.ext' (by simpa using ht)
 simp [execOp,ho,resolve,hcal,e1,e2,invoke,builtin,hr]
theorem local_append_new (hc : CxOk P cx) {c : Call} (ho : o.op = .call c) (hcal : c.callee = .builtin .append) {x y : Operand} {t e sz : Nat} {te ti : TI} (hx : c.args.toList = [x,y]) (ht : c.argTypes.toList = [t,t]) (hlt : look t cx.tt = some ti) (hk : ti.k = .slice e) (hle : look e cx.tt = some te) (hsz : te.size = sz) (hz : 0 < sz)
  {sz0 : Nat} {f0 : Nat→List SV} (hvx : rd cx σ T x = some (.sl (.l true) (.l 0) sz0 f0)) {s : SV} (hvy : rd cx σ T y = some s) {m : ST} {g : Nat→List SV} (hrow : rowOf sz s = some (m,g)) (hb : m.den * te.bytes≤140737488355328∧m.den≤9223372036854775807)
  {f' : Nat→List SV} {n' : Int} (hn' : n' = m.den) (hf' : ∀ j : Nat,(j : Int) < m.den→f' j = g j) : Local P cx.gl σ T o ⟨.gsl (cmpT .eql m (.l 0)) (.a n') sz f' (lenN σ.hp),[.put (lenN σ.hp) (.tail e (.a n') sz)],[],[]⟩:=by
 intro B N E a w ff hf hg st ag agh hT K' Q hK
 have mx : x∈o.op.operands.toList:=by simp [ho,Op.operands,Call.operands,hcal,hx]
 have my : y∈o.op.operands.toList:=by simp [ho,Op.operands,Call.operands,hcal,hx]
 have hrx:=(rd_sound hvx hg st (ag_of ag mx) hT).sl_inv
 have hry:=rd_sound hvy hg st (ag_of ag my) hT
 have hvx' : a.eval x = .slice none 0 0:=by
  rcases hrx.sl_inv with ⟨h,_⟩ | ⟨_,_,_,_,_,h,_⟩
  ·exact h
  ·simp [BT.den] at h
 obtain ⟨k,news,r1,r2,r3,r4,r5⟩:=rowOf_src hrow hry
 have hfresh : hf (lenN σ.hp) = .fresh:=by
  have:=agh.efs _ (List.mem_singleton.2 rfl)
  simp only [AgE,hfOf,nth_eq,lenN_eq] at this
  rw [lenN_eq,this]; simp
 have hbk : k * te.bytes≤140737488355328:=by
  have:=hb.1
  rw [r1] at this
  have h : ((k * te.bytes : Nat) : Int)≤140737488355328:=by rw [Int.natCast_mul]; exact this
  omega
 have hown:=World.ownsRow_nil w 0 e sz
 obtain ⟨v',w',l1,l2,l3,l4,l5,l6⟩:=append_law (P:=P) (ty:=o.type) ((hc.ti hlt).slice hk) (hc.ti hle) hsz hz hown r3 (by simpa using r2) (by simpa using hbk)
 obtain ⟨E',x1,x2,x3,x4,x5,x6⟩:=put_tail (h:=lenN σ.hp) (e:=e) (sz:=sz) st (.inl ⟨hfresh,rfl⟩) (by simpa using r3.2.1) hown l2 l4 l5 (fun _=>l6) (.a n') (by rw [hn',r1]; simp [ST.den])
 unfold Oper.wp
 rw [run_builtin_append ho hcal hx ht (a:=a) (w:=w) (w':=w') (v':=v') (by rw [hvx']; exact l1)]
 refine hK v' w' E' x1 x2 x3 (.gsl ?_ ?_)
 ·refine grown_RO l2 hown.1 ?_ (by rw [hn',r1]; simp [ST.den]) (by simpa using r3.2.1) x5 x6 (by intro i hi; omega) (fun j hj=>?_) (by intro i j s u hi; omega) (fun i j s u hi hs hu=>?_)
  ·rw [cmpT_den,l3]
   simp only [cmpDen,ST.den,r1,beq_iff_eq,true_and]
   omega
  ·rw [Nat.zero_add,hf' j (by rw [r1]; omega)]; exact r4 j hj
  ·rw [Nat.zero_add,hf' i (by rw [r1]; omega)] at hs
   exact (r5 i j s u hi hs hu).mono x1.I x1.cell
 ·obtain ⟨a0,c0,rfl⟩:=l5
  refine ⟨a0,0 + k,c0,x4,?_,fun _=>rfl⟩
  simp only [ST.den,hn',r1]; omega
theorem local_append_more (hc : CxOk P cx) {c : Call} (ho : o.op = .call c) (hcal : c.callee = .builtin .append) {x y : Operand} {t e sz : Nat} {te ti : TI} (hx : c.args.toList = [x,y]) (ht : c.argTypes.toList = [t,t]) (hlt : look t cx.tt = some ti) (hk : ti.k = .slice e) (hle : look e cx.tt = some te) (hsz : te.size = sz) (hz : 0 < sz)
  {nl : BT} {n n0 : ST} {f : Nat→List SV} {h : Nat} (hvx : rd cx σ T x = some (.gsl nl n sz f h)) (hh : nth σ.hp h = some (.tail e n0 sz)) {s : SV} (hvy : rd cx σ T y = some s) {m : ST} {g : Nat→List SV} (hrow : rowOf sz s = some (m,g))
  (hb : n.den = n0.den∧(n.den + m.den) * te.bytes≤140737488355328∧n.den + m.den≤9223372036854775807)
  {f' : Nat→List SV} {n' : Int} (hn' : n' = n.den + m.den) (hf1 : ∀ i : Nat,(i : Int) < n.den→f' i = f i) (hf' : ∀ i j : Nat,(i : Int) = n.den + j→(j : Int) < m.den→f' i = g j) :
  Local P cx.gl σ T o ⟨.gsl (andT nl (cmpT .eql m (.l 0))) (.a n') sz f' h,[.put h (.tail e (.a n') sz)],[h],[]⟩:=by
 intro B N E a w ff hf hg st ag agh hT K' Q hK
 have mx : x∈o.op.operands.toList:=by simp [ho,Op.operands,Call.operands,hcal,hx]
 have my : y∈o.op.operands.toList:=by simp [ho,Op.operands,Call.operands,hcal,hx]
 obtain ⟨hrx,htok⟩:=(rd_sound hvx hg st (ag_of ag mx) hT).gsl_inv
 have hry:=rd_sound hvy hg st (ag_of ag my) hT
 obtain ⟨k,news,r1,r2,r3,r4,r5⟩:=rowOf_src hrow hry
 have hkk:=st.heap h
 rw [agh.rds h (List.mem_singleton.2 rfl),nth_hf hh] at hkk
 obtain ⟨v,nn,xs,k1,k2,k3,k4,k5⟩:=hkk
 have hv : a.eval x = v:=by
  obtain ⟨a0,m0,c0,q1,_,q3⟩:=htok
  rw [k1] at q1
  cases q1
  have : m0 = nn:=by
   rcases k2.2 with ⟨e1,e2⟩ | ⟨g0,cap,cur,e1,_⟩
   ·cases e1; exact e2.symm
   ·cases e1; rfl
  subst this
  exact q3 (by rw [hb.1,k3])
 rw [hv] at hrx
 have hnn : n.den = (nn : Int):=by rw [hb.1,k3]
 have hbk : (nn + k) * te.bytes≤140737488355328:=by
  have:=hb.2.1
  rw [hnn,r1] at this
  have h : (((nn + k) * te.bytes : Nat) : Int)≤140737488355328:=by rw [Int.natCast_mul,Int.natCast_add]; exact this
  omega
 obtain ⟨v',w',l1,l2,l3,l4,l5,l6⟩:=append_law (P:=P) (ty:=o.type) ((hc.ti hlt).slice hk) (hc.ti hle) hsz hz k2 r3 (by have:=hb.2.2; rw [hnn,r1] at this; simp only [maxLen]; omega) hbk
 have h1all : ∀ u∈xs ++ news,u.oneCell' = true:=fun u hu=>by
  rcases List.mem_append.1 hu with hu | hu
  ·exact k4 u hu
  ·exact r3.2.1 u hu
 have hnt : (ST.a n').den = ((nn + k : Nat) : Int):=by simp only [ST.den,hn',hnn,r1]; omega
 obtain ⟨E',x1,x2,x3,x4,x5,x6⟩:=put_tail (h:=h) (e:=e) (sz:=sz) st (.inr ⟨n0,by rw [agh.rds h (List.mem_singleton.2 rfl),nth_hf hh],k1,k5⟩) h1all k2 l2 l4 l5 (fun _=>l6) (.a n') hnt
 unfold Oper.wp
 rw [run_builtin_append ho hcal hx ht (a:=a) (w:=w) (w':=w') (v':=v') (by rw [hv]; exact l1)]
 refine hK v' w' E' x1 x2 x3 (.gsl ?_ ?_)
 ·have hold : (v = .slice none 0 0↔nl.den = true)∧(∀ i,i < nn→(f i).length = sz)∧∀ (i j : Nat) (s : SV) (u : Value),i < nn→(f i)[j]? = some s→xs[i * sz + j]? = some u→RO E.I w s u:=by
   rcases hrx.sl_inv with ⟨e1,e2,e3⟩ | ⟨ad,m0,cap0,g0,e1,e2,e3,_,_,q4,q5,_,q6,q7⟩
   ·have : nn = 0:=by omega
    subst this
    exact ⟨⟨fun _=>e3,fun _=>e1⟩,by intro i hi; omega,by intro i j s u hi; omega⟩
   ·have hm : m0 = nn:=by omega
    subst hm
    refine ⟨⟨fun e=>by rw [e1] at e; simp at e,fun e=>by rw [e2] at e; cases e⟩,q5,fun i j s u hi hs hu=>?_⟩
    rcases k2.2 with ⟨e4,_⟩ | ⟨g1,cap,cur,e4,_,hgg,hnc,_,hcs,htake⟩
    ·rw [e1] at e4; simp at e4
    ·rw [e1] at e4
     simp only [Value.slice.injEq,Option.some.injEq] at e4
     obtain ⟨rfl,_,rfl⟩:=e4
     have hj : j < sz:=by rw [←q5 i hi]; exact (List.getElem?_eq_some_iff.1 hs).1
     have hc:=(q6 i j hi hj).1
     simp only [Nat.zero_add] at hc
     have hlt : i * sz + j < m0 * sz:=by
      have : (i + 1) * sz≤m0 * sz:=Nat.mul_le_mul_right _ hi
      rw [Nat.add_mul] at this
      omega
     rw [cell_of_row w g1 (i * sz + j) cur e (0,0) hgg] at hc
     rw [←htake,List.getElem?_take,if_pos hlt] at hu
     simp only [Array.getElem?_toList] at hu
     rw [hu] at hc
     rw [Option.some.inj hc]
     exact q7 i j s hi hs
  obtain ⟨o1,o2,o3⟩:=hold
  refine grown_RO l2 k2.1 ?_ hnt h1all x5 x6 (fun i hi=>by rw [hf1 i (by omega)]; exact o2 i hi) (fun j hj=>?_) (fun i j s u hi hs hu=>?_) (fun i j s u hi hs hu=>?_)
  ·rw [andT_den,cmpT_den,l3]
   simp only [cmpDen,ST.den,r1,Bool.and_eq_true,beq_iff_eq]
   rw [o1]
   constructor
   ·rintro ⟨h1,h2⟩; exact ⟨h1,by omega⟩
   ·rintro ⟨h1,h2⟩; exact ⟨h1,by omega⟩
  ·rw [hf' (nn + j) j (by omega) (by omega)]; exact r4 j hj
  ·rw [hf1 i (by omega)] at hs
   exact (o3 i j s u hi hs hu).mono x1.I x1.cell
  ·rw [hf' (nn + i) i (by omega) (by omega)] at hs
   exact (r5 i j s u hi hs hu).mono x1.I x1.cell
 ·obtain ⟨a0,c0,rfl⟩:=l5
  exact ⟨a0,nn + k,c0,x4,by rw [hnt]; exact Int.le_refl _,fun _=>rfl⟩
end
end Go.Sx
namespace Go.Sx
open Go
theorem Rel.plainOne {E : Env} {w : World} {s : SV} {v : Value} (h : Rel E w s v) (hp : plainV s = true) (h1 : v.oneCell' = true) : RO E.I w s v:=by
 cases h with
 | ro h=>exact h
 | ptr hb hv=>simp [plainV] at hp
 | gsl hr ht=>simp [plainV] at hp
 | mrow hb hm hv=>simp [plainV] at hp
 | mptr hb hz hv=>simp [plainV] at hp
 | osl ht hk=>simp [plainV] at hp
 | optr hv ho=>simp [plainV] at hp
 | mapv hb hv=>simp [plainV] at hp
 | yv hb hv=>simp [plainV] at hp
 | vsl ht hk=>simp [plainV] at hp
 | tsl ht hk=>simp [plainV] at hp
 | agg hl _=>simp [Value.oneCell'] at h1
 | tup hl _=>simp [Value.oneCell'] at h1
 | clo hl _=>simp [plainV] at hp
section
variable {P : Program} {cx : Cx} {σ : Sy} {T : List Nat} {o : Oper} {K : Out→Prop}
theorem chunks_at {sz : Nat} : ∀ (n i : Nat) (cs : List SV),i < n→(chunks sz n cs)[i]? = some (takeN sz (dropN (i * sz) cs))
 | n + 1,0,cs,_=>by simp [chunks,dropN_eq]
 | n + 1,i + 1,cs,h=>by
  simp only [chunks,List.getElem?_cons_succ]
  rw [chunks_at n i _ (by omega)]
  simp only [dropN_eq,List.drop_drop]
  congr 3
  rw [Nat.add_mul,Nat.one_mul,Nat.add_comm]
theorem chunks_get {sz : Nat} : ∀ (n i : Nat) (cs r : List SV),(chunks sz n cs)[i]? = some r→r = takeN sz (dropN (i * sz) cs)
 | 0,i,cs,r,h=>by simp [chunks] at h
 | n + 1,0,cs,r,h=>by simp [chunks] at h; rw [←h]; simp [dropN_eq]
 | n + 1,i + 1,cs,r,h=>by
  simp only [chunks,List.getElem?_cons_succ] at h
  rw [chunks_get n i _ r h]
  simp only [dropN_eq,List.drop_drop,Nat.add_mul,Nat.one_mul]
  congr 2; omega
theorem repN_get {z : List SV} : ∀ (n q : Nat),q < n * z.length→(stepBuildSlice.repN n z)[q]? = z[q % z.length]?
 | 0,q,h=>by omega
 | n + 1,q,h=>by
  simp only [stepBuildSlice.repN]
  by_cases hq : q < z.length
  ·rw [List.getElem?_append_left hq,Nat.mod_eq_of_lt hq]
  ·have h' : q < n * z.length + z.length:=by rw [←Nat.succ_mul]; exact h
   rw [List.getElem?_append_right (by omega),repN_get n (q - z.length) (by omega),(Nat.mod_eq_sub_mod (show q≥z.length by omega))]
theorem repN_len {z : List SV} : ∀ (n : Nat),(stepBuildSlice.repN n z).length = n * z.length
 | 0=>by simp [stepBuildSlice.repN]
 | n + 1=>by simp [stepBuildSlice.repN,repN_len n,Nat.add_mul]; omega
theorem fillS_sound {E : Env} {w : World} {sz : Nat} : ∀ (vs : List (Nat×SV)) (us : List (Nat×Value)) (cs cs' : List SV) (C : List Value),vs.length = us.length→(∀ (i : Nat) (p : Nat×SV) (q : Nat×Value),vs[i]? = some p→us[i]? = some q→p.1 = q.1∧Rel E w p.2 q.2)→(∀ p∈vs,onesB p.2.cells = true)→RelL E w cs C→(∀ u∈C,u.oneCell' = true)→
   stepBuildSlice.fillS sz cs vs = some cs'→∃ C',Instr.fill (fun i=>some (i * sz,sz)) ⟨C⟩ us = some ⟨C'⟩∧RelL E w cs' C'∧∀ u∈C',u.oneCell' = true
 | [],us,cs,cs',C,hlen,_,_,hr,h1,h=>by
  have : us = []:=List.eq_nil_of_length_eq_zero (by simpa using hlen.symm)
  subst this
  simp [stepBuildSlice.fillS] at h
  subst h
  exact ⟨C,rfl,hr,h1⟩
 | (i,v) :: vs,us,cs,cs',C,hlen,hrel,h1,hr,hone,h=>by
  match us,hlen,hrel with
  | (i',u) :: us,hlen,hrel =>
   obtain ⟨e0,hvu⟩:=hrel 0 (i,v) (i',u) rfl rfl
   simp only at e0
   subst e0
   have hcells:=cells_of (h1 _ (List.mem_cons_self ..)) hvu
   simp only [stepBuildSlice.fillS] at h
   split at h
   ·rename_i hb
    simp only [Bool.and_eq_true,beq_iff_eq,lenN_eq] at hb
    obtain ⟨b1,b2⟩:=hb
    have b2:=Nat.le_of_ble_eq_true b2
    have hsz : u.cells.size = sz:=by rw [←b1,hcells.1]; simp
    rw [fill_step rfl hsz (by rw [←hr.1]; exact b2)]
    refine fillS_sound vs us _ cs' _ (by simpa using hlen) (fun j p q a b=>hrel (j + 1) p q (by simpa using a) (by simpa using b)) (fun p hp=>h1 p (List.mem_cons_of_mem _ hp)) (putRel hr hcells _ (by show i * sz + v.cells.length≤cs.length; omega)) ?_ h
    intro x hx
    obtain ⟨q,hq⟩:=List.mem_iff_getElem?.1 hx
    rw [get_putN _ _ _ _ (by rw [←hcells.1,←hr.1]; show i * sz + v.cells.length≤cs.length; omega)] at hq
    split at hq
    ·exact ones_of (h1 _ (List.mem_cons_self ..)) hcells x (List.mem_of_getElem? hq)
    ·exact hone x (List.mem_of_getElem? hq)
   ·cases h
theorem local_buildSlice (hc : CxOk P cx) {t len e : Nat} {ps : Array (Nat×Operand)} (ho : o.op = .buildSlice t len ps) {ti te : TI} (hlt : look t cx.tt = some ti) (hk : ti.k = .slice e) (hle : look e cx.tt = some te) {vs : List (Nat×SV)} (hv : rdParts cx σ T ps.toList = some vs) (h1 : onesP vs = true)
  {cs : List SV} (hf : stepBuildSlice.fillS te.size (stepBuildSlice.repN len te.zero) vs = some cs) (hpl : plainV (.agg (loose.looseL (norm.normL dn cs))) = true) (hz : 0 < te.size) (hbig : len * te.size≤16777216) :
  Local P cx.gl σ T o ⟨.gsl (.l false) (.l len) te.size (fun k=>takeN te.size (dropN (k * te.size) (loose.looseL (norm.normL dn cs)))) (lenN σ.hp),[.put (lenN σ.hp) (.tail e (.l len) te.size)],[],[]⟩:=by
 intro B N E a w ff hf' hg st ag agh hT K' Q hK
 have hag : ∀ p∈ps.toList,∀ s∈opSlots p.2,ff s = ffOf σ s:=fun p hp=>ag_of ag (by simp only [ho,Op.operands]; simp; exact ⟨p.1,by simpa using hp⟩)
 obtain ⟨h2,h3⟩:=rdParts_sound hg st hT ps.toList vs hag hv
 obtain ⟨z,hzr,hzrel,hz1⟩:=(hc.ti hle).zero E w
 have hzl:=(hc.ti hle).zlen
 have hzsz : z.cells.size = te.size:=by have:=hzrel.1; rw [hzl] at this; simpa using this.symm
 have hus : ∀ (j : Nat) (p : Nat×SV) (q : Nat×Value),vs[j]? = some p→((ps.map fun (x : Nat×Operand)=>(x.1,a.eval x.2)).toList)[j]? = some q→p.1 = q.1∧Rel E w p.2 q.2:=by
  intro j p q hp hq
  rw [Array.toList_map,List.getElem?_map] at hq
  cases hpj : ps.toList[j]? with
  | none=>rw [hpj] at hq; cases hq
  | some x =>
   rw [hpj] at hq
   simp only [Option.map_some,Option.some.injEq] at hq
   subst hq
   exact h3 j p x hp hpj
 -- the zero cells
 let C0 : List Value:=(List.range (len * te.size)).map fun q=>z.cells.toList.getD (q % te.size) undef
 have hC0 : RelL E w (stepBuildSlice.repN len te.zero) C0:=by
  refine ⟨by rw [repN_len,hzl]; simp [C0],fun i s v hs hv=>?_⟩
  have hlt : i < len * te.size:=by
   have:=(List.getElem?_eq_some_iff.1 hs).1
   rwa [repN_len,hzl] at this
  rw [repN_get _ _ (by rw [hzl]; exact hlt),hzl] at hs
  simp [C0,hlt] at hv
  have hm : i % te.size < z.cells.size:=by rw [hzsz]; exact Nat.mod_lt _ hz
  refine hzrel.2 (i % te.size) s v hs ?_
  rw [←hv]
  simp [hm]
 have hC01 : ∀ u∈C0,u.oneCell' = true:=by
  intro u hu
  simp only [C0,List.mem_map,List.mem_range] at hu
  obtain ⟨q,_,rfl⟩:=hu
  have hm : q % te.size < z.cells.toList.length:=by simp [hzsz]; exact Nat.mod_lt _ hz
  rw [List.getD_eq_getElem?_getD,List.getElem?_eq_getElem hm]
  exact hz1 _ (List.getElem_mem hm)
 obtain ⟨C',c1,c2,c3⟩:=fillS_sound vs (ps.map fun (x : Nat×Operand)=>(x.1,a.eval x.2)).toList _ cs C0 (by simp [h2]) hus (onesP_get h1) hC0 hC01 hf
 have hlen' : C'.length = len * te.size:=by
  rw [←c2.1]
  have : ∀ (vs : List (Nat×SV)) (cs cs' : List SV),stepBuildSlice.fillS te.size cs vs = some cs'→cs'.length = cs.length:=by
   intro vs
   induction vs with
   | nil=>intro cs cs' h; simp [stepBuildSlice.fillS] at h; rw [h]
   | cons p vs ih =>
    intro cs cs' h
    obtain ⟨i,v⟩:=p
    simp only [stepBuildSlice.fillS] at h
    split at h
    ·rw [ih _ _ h,len_putN]
    ·cases h
  rw [this vs _ cs hf,repN_len,hzl]
 have hrun : (Instr.buildSlice t len (ps.map fun (x : Nat×Operand)=>(x.1,a.eval x.2))).run P w = .ok (.slice (some ⟨w.heap.size,0,none⟩) len len) (w.alloc (.cells ⟨C'⟩ e)):=by
  have hu:=(hc.ti hlt).slice hk
  have hS:=(hc.ti hle).sizeOf w
  have harr : ((Array.range (len * te.size)).map (fun q=>z.cells[q % z.cells.size]!)) = (⟨C0⟩ : Array Value):=by
   apply Array.ext'
   simp only [Array.toList_map,Array.toList_range,C0]
   refine List.map_congr_left fun q _=>?_
   rw [hzsz,List.getD_eq_getElem?_getD,Array.getElem!_eq_getD,Array.getD_eq_getD_getElem?,Array.getElem?_toList]
   have hm : q % te.size < z.cells.size:=by rw [hzsz]; exact Nat.mod_lt _ hz
   simp [hm]
  have hbig' : ¬ (16777216 < len * te.size):=by omega
  simp only [Instr.buildSlice,Sem.run_bind,run_underlying hu,Result.andThen_ok,hS,gt_iff_lt]
  by_cases h0 : len * te.size = 0
  ·have hC0n : C0 = []:=by simp [C0,h0]
   rw [hC0n] at c1
   rw [Array.toList_map] at c1
   have hemp : Array.map (fun _=>(default : Value)) (Array.range 0) = ⟨[]⟩:=by simp
   simp [h0,newRow,newObj]
   first | rw [hemp,c1] | (simp at c1 ⊢; rw [c1])
   simp [Sem.run]
  ·rw [Array.toList_map] at c1
   simp [h0,hbig',hzr,harr,newRow,newObj]
   rw [c1]
   simp [Sem.run]
 have hfresh : hf' (lenN σ.hp) = .fresh:=by
  have:=agh.efs _ (List.mem_singleton.2 rfl)
  simp only [AgE,hfOf,nth_eq,lenN_eq] at this
  rw [lenN_eq,this]; simp
 have hmax : len≤maxLen:=by
  simp only [maxLen]
  have : len≤len * te.size:=Nat.le_mul_of_pos_right _ hz
  omega
 have hown':=World.ownsRow_lit w (base:=0) (e:=e) (size:=te.size) ⟨C'⟩ len (Nat.zero_le _) hmax (by simpa using hlen')
 obtain ⟨E',x1,x2,x3,x4,x5,x6⟩:=put_tail (h:=lenN σ.hp) (e:=e) (sz:=te.size) (n:=0) (m:=len) (xs:=[]) (news:=C') st (.inl ⟨hfresh,rfl⟩) (by simpa using c3) (World.ownsRow_nil w 0 e te.size) (by simpa using hown') (.inr ⟨rfl,World.grownBy_alloc w _ none⟩) ⟨_,_,by simp; exact ⟨rfl,rfl⟩⟩ (fun h=>absurd hfresh h) (.l len) (by simp [ST.den])
 unfold Oper.wp
 have : (execOp a.eval o).run P w = .ok (.value (.slice (some ⟨w.heap.size,0,none⟩) len len)) (w.alloc (.cells ⟨C'⟩ e)):=by
  simp only [execOp,ho,Sem.run_bind]
  rw [hrun]
  rfl
 rw [this]
 -- what it reads as
 have hpc : ∀ c∈loose.looseL (norm.normL dn cs),plainV c = true:=by
  simp only [plainV] at hpl
  exact (plainL_iff _).1 hpl
 have hcells : RelL E w (loose.looseL (norm.normL dn cs)) C':=by
  rw [looseL_eq,normL_eq]
  exact (c2.map _ fun s v _ h=>h.norm).map _ fun s v _ h=>h.loose
 have hget : ∀ (i j : Nat) (s : SV),(takeN te.size (dropN (i * te.size) (loose.looseL (norm.normL dn cs))))[j]? = some s→(loose.looseL (norm.normL dn cs))[i * te.size + j]? = some s:=by
  intro i j s hs
  rw [takeN_eq,dropN_eq,List.getElem?_take] at hs
  split at hs
  ·rwa [List.getElem?_drop] at hs
  ·cases hs
 refine hK _ _ E' x1 x2 x3 (.gsl ?_ ⟨_,len,_,x4,by simp [ST.den],fun _=>rfl⟩)
 refine grown_RO (n:=0) (m:=len) (xs:=[]) (news:=C') (by simpa using hown') (by simp) (by simp [BT.den]) (by simp [ST.den]) (by simpa using c3) x5 x6 (by intro i hi; omega) (fun j hj=>?_) (by intro i j s u hi; omega) (fun i j s u hi hs hu=>?_)
 ·rw [takeN_eq,dropN_eq,List.length_take,List.length_drop,hcells.1,hlen',Nat.zero_add]
  have : (j + 1) * te.size≤len * te.size:=Nat.mul_le_mul_right _ hj
  rw [Nat.add_mul] at this
  omega
 ·rw [Nat.zero_add] at hs
  have hs':=hget i j s hs
  exact (((hcells.2 _ s u hs' hu).plainOne (hpc s (List.mem_of_getElem? hs')) (c3 u (List.mem_of_getElem? hu)))).mono x1.I x1.cell
end
end Go.Sx
namespace Go.Sx
open Go
theorem Rel.mrow_inv {E : Env} {w : World} {h : Nat} {v : Value} (hr : Rel E w (.mrow h) v) : ∃ b m,E.β h = some b∧E.κ h = some m∧v = .slice (some ⟨b,0,none⟩) m m:=by
 cases hr with
 | ro h=>cases h
 | mrow hb hm hv=>exact ⟨_,_,hb,hm,hv⟩
theorem Rel.mptr_inv {E : Env} {w : World} {h j off : Nat} {v : Value} (hr : Rel E w (.mptr h j off) v) : ∃ b sz,E.β h = some b∧E.ζ h = some sz∧v = .pointer (some ⟨b,j * sz + off,none⟩):=by
 cases hr with
 | ro h=>cases h
 | mptr hb hz hv=>exact ⟨_,_,hb,hz,hv⟩
theorem new_row {B : Bs} {N : Nat} {E : Env} {a : Act} {w w' : World} {ff : Nat→SG} {hf : Nat→Hl} (st : St B N E a w ff hf) {h : Nat} (hfresh : hf h = .fresh) {ty : TypeId} {n : ST} {sz m : Nat} {f : Nat→List SV} {C : Array Value}
  (hg : w.grownBy w' none) (hC : w'.heap[w.heap.size]? = some (.cells C ty (0,0))) (hn : n.den = (m : Int)) (hm : m≤maxLen) (hrow : rowIs E w f m sz C) :
  ∃ E',Ext E w E' w'∧Base B E' w'∧(∀ k,HOk E' w' k (upd hf h (.row ty n sz f) k))∧E'.β h = some w.heap.size∧E'.κ h = some m∧E'.ζ h = some sz:=by
 have hb:=st.base
 have hfr:=st.heap h
 rw [hfresh] at hfr
 obtain ⟨f1,f2,f3,f4⟩:=hfr
 let E' : Env:=⟨upd E.β h (some w.heap.size),E.τ,upd E.O w.heap.size (some h),upd E.κ h (some m),upd E.ζ h (some sz),E.I⟩
 have hold : ∀ b,b < w.heap.size→w'.heap[b]? = w.heap[b]?:=fun b hlt=>hg.block b hlt (by simp)
 have hltnew : w.heap.size < w'.heap.size:=(Array.getElem?_eq_some_iff.1 hC).1
 have updNone : ∀ {α : Type} (F : Nat→Option α) (x : α) (k : Nat) (y : α),F h = none→F k = some y→upd F h (some x) k = some y:=by
  intro α F x k y h0 hk
  unfold upd
  by_cases e : k = h
  ·subst e; rw [h0] at hk; cases hk
  ·rw [if_neg e]; exact hk
 have hx : Ext E w E' w':=by
  refine ⟨fun k b hk=>updNone _ _ k b f1 hk,fun _ _ h=>.inl h,fun k b hk=>updNone _ _ k b f3 hk,fun k b hk=>updNone _ _ k b f4 hk,fun _ _ h=>h,fun b o hi=>?_⟩
  simp only [World.cell?]
  rw [hold b (hb.Ibd b o hi)]
 refine ⟨E',hx,⟨hg.os.trans hb.os,hg.tape.trans hb.tape,hg.output.trans hb.output,?_,?_,?_,?_,?_,?_,hb.β0.ext hx⟩,fun k=>?_,by simp [E',upd],by simp [E',upd],by simp [E',upd]⟩
 ·have:=hb.size; omega
 ·intro b hlt hX; rw [hold b (by have:=hb.size; omega)]; exact hb.old b hlt hX
 ·intro b o hi
  obtain ⟨i1,i2⟩:=hb.I0 b o hi
  exact ⟨i1,by rw [hx.cell b o i1]; exact i2⟩
 ·intro b o hi; have:=hb.Ibd b o hi; omega
 ·exact hb.Inew
 ·intro b k hO
  have hO : upd E.O w.heap.size (some h) b = some k:=hO
  unfold upd at hO
  split at hO
  ·rename_i e; subst e; have:=hb.size; exact ⟨hltnew,.inl this⟩
  ·obtain ⟨o1,o2⟩:=hb.Obd b k hO; exact ⟨by omega,o2⟩
 ·by_cases e : k = h
  ·subst e
   simp only [upd,if_pos]
   refine ⟨w.heap.size,C,m,by simp [E',upd],by simp [E',upd],by simp [E',upd],by simp [E',upd],hC,hn,hm,⟨hrow.1,hrow.2.1,fun i j s v a b c=>(hrow.2.2.1 i j s v a b c).mono hx.I hx.cell,hrow.2.2.2⟩,fun o hi=>?_⟩
   have:=hb.Ibd _ _ hi
   omega
  ·simp only [upd,if_neg e]
   refine HOk.keep hx (st.heap k) (by simp [E',upd,e]) rfl (by simp [E',upd,e]) (by simp [E',upd,e]) fun b hO=>?_
   have hlt:=owned_lt hb hO
   exact ⟨by simp [E',upd,Nat.ne_of_lt hlt]; exact hO,hold b hlt,fun _ h=>h⟩
theorem set_row {B : Bs} {N : Nat} {E : Env} {a : Act} {w : World} {ff : Nat→SG} {hf : Nat→Hl} (st : St B N E a w ff hf) {h b m : Nat} {ty : TypeId} {n : ST} {sz : Nat} {f f' : Nat→List SV} {C C' : Array Value}
  (hh : hf h = .row ty n sz f) (hβ : E.β h = some b) (hκ : E.κ h = some m) (hC : w.heap[b]? = some (.cells C ty (0,0))) (hrow : rowIs E w f' m sz C') :
  Ext E w E (w.setRow b C')∧Base B E (w.setRow b C')∧(∀ k,HOk E (w.setRow b C') k (upd hf h (.row ty n sz f') k)):=by
 have hb:=st.base
 have hk:=st.heap h
 rw [hh] at hk
 obtain ⟨b',C1,m',k1,k2,k3,k4,k5,k6,k7,k8,k9⟩:=hk
 obtain rfl : b = b':=Option.some.inj (hβ.symm.trans k1)
 obtain rfl : m = m':=Option.some.inj (hκ.symm.trans k2)
 have hx : Ext E w E (w.setRow b C'):=⟨fun _ _ h=>h,fun _ _ h=>.inl h,fun _ _ h=>h,fun _ _ h=>h,fun _ _ h=>h,fun b2 o hi=>cell_setRow_other w b C' ⟨b2,o,none⟩ (fun e=>by subst e; exact k9 o hi)⟩
 have hX:=(hb.Obd b h k4).2
 refine ⟨hx,⟨hb.os,hb.tape,hb.output,by simpa using hb.size,?_,?_,?_,hb.Inew,?_,hb.β0⟩,fun k=>?_⟩
 ·intro b2 hlt hnX
  by_cases e : b2 = b
  ·subst e; rcases hX with hX | hX
   ·omega
   ·exact absurd hX hnX
  ·rw [setRow_other w b b2 C' e]; exact hb.old b2 hlt hnX
 ·intro b2 o hi
  obtain ⟨i1,i2⟩:=hb.I0 b2 o hi
  exact ⟨i1,by rw [hx.cell b2 o i1]; exact i2⟩
 ·intro b2 o hi; have:=hb.Ibd b2 o hi; simpa using this
 ·intro b2 k hO; have:=hb.Obd b2 k hO; simpa using this
 ·by_cases e : k = h
  ·subst e
   simp only [upd,if_pos]
   exact ⟨b,C',m,hβ,hκ,k3,k4,setRow_heap w b C C' ty (0,0) hC,k6,k7,⟨hrow.1,hrow.2.1,fun i j s v a b c=>(hrow.2.2.1 i j s v a b c).mono hx.I hx.cell,hrow.2.2.2⟩,k9⟩
  ·simp only [upd,if_neg e]
   refine HOk.keep hx (st.heap k) rfl rfl rfl rfl fun b2 hO=>⟨hO,?_,fun _ h=>h⟩
   refine setRow_other w b b2 C' (fun e2=>?_)
   subst e2
   rw [k4] at hO
   exact e (Option.some.inj hO).symm
section
variable {P : Program} {cx : Cx} {σ : Sy} {T : List Nat} {o : Oper} {K : Out→Prop}
theorem local_nilCheck {x : Operand} (ho : o.op = .nilCheck x) {v : SV} (hv : rd cx σ T x = some v) (hp : (∃ h off,v = .ptr h off)∨(∃ cs,v = .rptr cs)∨(∃ h j off,v = .mptr h j off)∨(∃ n sz f,v = .rarr n sz f)∨∃ n h j off,v = .optr n h j off) : Local P cx.gl σ T o ⟨v,[],[],[]⟩:=by
 intro B N E a w ff hf' hg st ag agh hT
 have hr:=rd_sound hv hg st (ag_of ag (by simp [ho,Op.operands])) hT
 have : ∃ ad,a.eval x = .pointer (some ad):=by
  rcases hp with ⟨h,off,rfl⟩ | ⟨cs,rfl⟩ | ⟨h,j,off,rfl⟩ | ⟨n,sz,f,rfl⟩ | ⟨n,h,j,off,rfl⟩
  ·obtain ⟨b,_,e⟩:=hr.ptr_inv; exact ⟨_,e⟩
  ·obtain ⟨ad,e,_⟩:=hr.rptr_inv.rptr_inv; exact ⟨_,e⟩
  ·obtain ⟨b,sz,_,_,e⟩:=hr.mptr_inv; exact ⟨_,e⟩
  ·have hx : RO E.I w (.rarr n sz f) (a.eval x):=by cases hr with | ro h=>exact h
   generalize a.eval x = ev at hx
   cases hx; exact ⟨_,rfl⟩
  ·obtain ⟨⟨b,o,e⟩,_⟩:=hr.optr_inv; exact ⟨_,e⟩
 obtain ⟨ad,e⟩:=this
 exact yields_value st (v:=a.eval x) (by simp [execOp,ho,e]) rfl hr
theorem fresh_of {hf' : Nat→Hl} {r : Out} {hl : Hl} (agh : AgH σ.hp hf' r) (hm : Ef.put (lenN σ.hp) hl∈r.efs) : hf' (lenN σ.hp) = .fresh:=by
 have:=agh.efs _ hm
 simp only [AgE,hfOf,nth_eq,lenN_eq] at this
 rw [lenN_eq,this]; simp
theorem local_make0 (hc : CxOk P cx) {t e : Nat} {x y : Operand} (ho : o.op = .makeSlice t x y) {ti te : TI} (hlt : look t cx.tt = some ti) (hk : ti.k = .slice e) (hle : look e cx.tt = some te) {kl kc : IntKind} {c : ST} (hx : rd cx σ T x = some (.int kl (.l 0))) (hy : rd cx σ T y = some (.int kc c))
  (hob : allT (condsOf σ.gm T)→0≤c.den∧c.den * te.bytes≤140737488355328∧c.den≤9223372036854775807) :
  Local P cx.gl σ T o ⟨.gsl (.l false) (.l 0) te.size (fun _=>[]) (lenN σ.hp),[.put (lenN σ.hp) (.tail e (.l 0) te.size)],[],[]⟩:=by
 intro B N E a w ff hf' hg st ag agh hT K' Q hK
 have hrx:=(rd_sound hx hg st (ag_of ag (by simp [ho,Op.operands])) hT).int_inv
 have hry:=(rd_sound hy hg st (ag_of ag (by simp [ho,Op.operands])) hT).int_inv
 obtain ⟨o1,o2,o3⟩:=hob hT
 obtain ⟨i,z,hi,hsize,hby,hz,hzs,_⟩:=(hc.ti hle).info
 have hu:=(hc.ti hlt).slice hk
 have hcn : c.den = ((c.den.toNat : Nat) : Int):=by omega
 have hbytes : i.bytes * c.den.toNat≤281474976710656:=by
  rw [hby]
  have : ((te.bytes * c.den.toNat : Nat) : Int)≤140737488355328:=by
   rw [Int.natCast_mul,←hcn,Int.mul_comm]; exact o2
  omega
 obtain ⟨w',r1,r2,r3⟩:=run_make_own (P:=P) w 0 t e i z te.size hu hi hz hsize kl kc c.den.toNat hbytes (by simp only [maxLen]; omega) (Nat.zero_le _)
 have hfresh:=fresh_of agh (List.mem_singleton.2 rfl)
 obtain ⟨E',x1,x2,x3,x4,x5,x6⟩:=put_tail (h:=lenN σ.hp) (e:=e) (sz:=te.size) (n:=0) (m:=0) (xs:=[]) (news:=[]) st (.inl ⟨hfresh,rfl⟩) (by simp) (World.ownsRow_nil w 0 e te.size) (by simpa using r2) (.inr ⟨rfl,r3⟩) ⟨_,_,rfl⟩ (fun h=>absurd hfresh h) (.l 0) (by simp [ST.den])
 unfold Oper.wp
 have : (execOp a.eval o).run P w = .ok (.value (.slice (some ⟨w.heap.size,0,none⟩) 0 c.den.toNat)) w':=by
  simp only [execOp,ho,Sem.run_bind,hrx,hry,ST.den]
  rw [hcn,r1]
  rfl
 rw [this]
 refine hK _ _ E' x1 x2 x3 (.gsl ?_ ⟨_,0,_,x4,by simp [ST.den],fun _=>rfl⟩)
 exact grown_RO (n:=0) (m:=0) (xs:=[]) (news:=[]) (by simpa using r2) (by simp) (by simp [BT.den]) (by simp [ST.den]) (by simp) x5 x6 (by intro i hi; omega) (by intro j hj; omega) (by intro i j s u hi; omega) (by intro i j s u hi; omega)
theorem local_makeN (hc : CxOk P cx) {t e : Nat} {x y : Operand} (ho : o.op = .makeSlice t x y) {ti te : TI} (hlt : look t cx.tt = some ti) (hk : ti.k = .slice e) (hle : look e cx.tt = some te) {kl kc : IntKind} {n n' : ST} (hx : rd cx σ T x = some (.int kl n)) (hy : rd cx σ T y = some (.int kc n')) (hsame : x = y) (hz0 : 0 < te.size)
  (hob : allT (condsOf σ.gm T)→0≤n.den∧n.den * te.bytes≤140737488355328∧n.den≤9223372036854775807) :
  Local P cx.gl σ T o ⟨.mrow (lenN σ.hp),[.put (lenN σ.hp) (.row e (.a n.den) te.size fun _=>te.zero)],[],[]⟩:=by
 subst hsame
 intro B N E a w ff hf' hg st ag agh hT K' Q hK
 have hrx:=(rd_sound hx hg st (ag_of ag (by simp [ho,Op.operands])) hT).int_inv
 obtain ⟨o1,o2,o3⟩:=hob hT
 obtain ⟨i,z,hi,hsize,hby,hz,hzs,_⟩:=(hc.ti hle).info
 have hu:=(hc.ti hlt).slice hk
 have hcn : n.den = ((n.den.toNat : Nat) : Int):=by omega
 have hbytes : i.bytes * n.den.toNat≤281474976710656:=by
  rw [hby]
  have : ((te.bytes * n.den.toNat : Nat) : Int)≤140737488355328:=by
   rw [Int.natCast_mul,←hcn,Int.mul_comm]; exact o2
  omega
 have hmax : n.den.toNat≤maxLen:=by simp only [maxLen]; omega
 obtain ⟨w',r1,r2,r3⟩:=run_make_full (P:=P) w 0 t e i z te.size hu hi hz hsize kl kl n.den.toNat hbytes hmax (Nat.zero_le _)
 have hfresh:=fresh_of agh (List.mem_singleton.2 rfl)
 obtain ⟨hxl,hr2⟩:=r2
 rcases hr2 with ⟨h0,_⟩ | ⟨g,cap,cur,e0,_,hcur,hnc,hcm,hcs,htake⟩
 ·cases h0
 simp only [Value.slice.injEq,Option.some.injEq,Addr.mk.injEq,and_true,true_and] at e0
 obtain ⟨rfl,hcap⟩:=e0
 subst hcap
 have hcur' : cur = madeCells z.cells (n.den.toNat * te.size):=by
  apply Array.ext'
  rw [←htake,List.take_of_length_le]
  simp [hcs]
 have hzl:=(hc.ti hle).zlen
 have hzg:=zsB_get (I:=E.I) (w:=w) hzs
 have hrow : rowIs E w (fun _=>te.zero) n.den.toNat te.size cur:=by
  have hzsz : z.cells.size = te.size:=by have:=hzg.1; rw [hzl] at this; simpa using this.symm
  have hget : ∀ (q : Nat) (v : Value),cur[q]? = some v→z.cells[q % te.size]? = some v:=by
   intro q v hq
   have hqlt : q < n.den.toNat * te.size:=by rw [←hcs]; exact (Array.getElem?_eq_some_iff.1 hq).1
   rw [hcur'] at hq
   have hm : q % te.size < z.cells.size:=by rw [hzsz]; exact Nat.mod_lt _ hz0
   have hne : n.den.toNat * te.size≠0:=by omega
   have hne1 : n.den.toNat≠0:=fun h=>by rw [h] at hne; simp at hne
   have hne2 : te.size≠0:=by omega
   simp [madeCells,hne1,hne2,hqlt,hzsz,hm,Array.getElem?_map,Array.getElem?_range] at hq
   rw [←hq]
   simp [hm]
  refine ⟨hcs,fun _ _=>hzl,fun i j s v hi' hs hv=>?_,fun v hv=>?_⟩
  ·have hj : j < te.size:=by rw [←hzl]; exact (List.getElem?_eq_some_iff.1 hs).1
   have:=hget _ v hv
   rw [Nat.mul_comm,Nat.mul_add_mod,Nat.mod_eq_of_lt hj] at this
   exact hzg.2 j s v hs (by simpa using this)
  ·obtain ⟨q,hq,rfl⟩:=Array.mem_iff_getElem.1 hv
   have h1:=hget q _ (Array.getElem?_eq_getElem hq)
   have hm : q % te.size < te.zero.length:=by rw [hzl]; exact Nat.mod_lt _ hz0
   have : zB (te.zero[q % te.size]) cur[q] = true:=by
    have key : ∀ (ss : List SV) (vs : List Value) (k : Nat) (s : SV) (v : Value),zsB ss vs = true→ss[k]? = some s→vs[k]? = some v→zB s v = true:=by
     intro ss
     induction ss with
     | nil=>intro vs k s v _ h; simp at h
     | cons s0 ss ih =>
      intro vs k s v h h1 h2
      cases vs with
      | nil=>simp at h2
      | cons v0 vs =>
       simp only [zsB,Bool.and_eq_true] at h
       cases k with
       | zero=>simp at h1 h2; subst h1; subst h2; exact h.1
       | succ k=>simp at h1 h2; exact ih vs k s v h.2 h1 h2
    exact key _ _ _ _ _ hzs (List.getElem?_eq_getElem hm) (by simpa using h1)
   exact zB_one this
 obtain ⟨E',x1,x2,x3,x4,x5,x6⟩:=new_row st hfresh (n:=.a n.den) (m:=n.den.toNat) r3 hcur hcn hmax hrow
 unfold Oper.wp
 have : (execOp a.eval o).run P w = .ok (.value (.slice (some ⟨w.heap.size,0,none⟩) n.den.toNat n.den.toNat)) w':=by
  simp only [execOp,ho,Sem.run_bind,hrx]
  rw [hcn]
  simp only [Int.toNat_natCast] at r1 ⊢
  rw [r1]
  rfl
 rw [this]
 exact hK _ _ E' x1 x2 x3 (.mrow x4 x5 rfl)
theorem local_allocRow {e : TypeId} {ti : TI} (hc : CxOk P cx) (ho : o.op = .alloc e) (hl : look e cx.tt = some ti) {n sz : Nat} (hsz : n * sz = ti.size) (hn : n≤1000000) {f : Nat→List SV} (hf : Built f (chunks sz n ti.zero)) :
  Local P cx.gl σ T o ⟨.ptr (lenN σ.hp) 0,[.put (lenN σ.hp) (.row e (.l n) sz f)],[],[]⟩:=by
 intro B N E a w ff hf' _ st _ agh _ K' Q hK
 obtain ⟨z,hz,hr,h1⟩:=(hc.ti hl).zero E w
 obtain ⟨i,z',hi,_,_,hz',hzs,_⟩:=(hc.ti hl).info
 have hzl:=(hc.ti hl).zlen
 have hfresh:=fresh_of agh (List.mem_singleton.2 rfl)
 have ez : z = z':=by
  have : (zeroValue e).run P w = .ok z' w:=by simp [zeroValue,typeInfo,hi,hz']
  rw [hz] at this
  injection this
 subst ez
 have hzg:=zsB_get (I:=E.I) (w:=w) hzs
 have hCs : z.cells.size = n * sz:=by rw [hsz,←hzl]; have:=hzg.1; simpa using this.symm
 have hrows : ∀ q,q < n→f q = (ti.zero.drop (q * sz)).take sz:=by
  intro q hq
  have:=chunks_at (sz:=sz) n q ti.zero hq
  rw [hf.h q _ this,takeN_eq,dropN_eq]
 have hrow : rowIs E w f n sz z.cells:=by
  refine ⟨hCs,fun q hq=>?_,fun q j s v hq hs hv=>?_,fun v hv=>h1 v (by simpa using hv)⟩
  ·rw [hrows q hq]
   have : (q + 1) * sz≤n * sz:=Nat.mul_le_mul_right _ hq
   rw [Nat.add_mul] at this
   simp; omega
  ·rw [hrows q hq,List.getElem?_take] at hs
   split at hs
   ·rw [List.getElem?_drop] at hs
    exact hzg.2 _ s v hs (by simpa using hv)
   ·cases hs
 obtain ⟨E',x1,x2,x3,x4,x5,x6⟩:=new_row st hfresh (w':=w.alloc (.cells z.cells e)) (n:=.l n) (m:=n) (f:=f) (sz:=sz) (C:=z.cells) (ty:=e)
  ⟨rfl,rfl,rfl,by simp,fun k hk _=>RowKit.Below.heap_alloc w _ k hk⟩ (by show (w.heap.push _)[w.heap.size]? = _; simp) rfl (by simp only [maxLen]; omega) hrow
 unfold Oper.wp
 have : (execOp a.eval o).run P w = .ok (.value (.pointer (some ⟨w.heap.size,0,none⟩))) (w.alloc (.cells z.cells e)):=by
  simp [execOp,ho,Instr.alloc,hz,newVar,newRow,newObj,Sem.run]
 rw [this]
 exact hK _ _ E' x1 x2 x3 (.ptr x4 rfl)
end
end Go.Sx
namespace Go.Sx
open Go
section
variable {P : Program} {cx : Cx} {σ : Sy} {T : List Nat} {o : Oper} {K : Out→Prop}
theorem row_same {hf' : Nat→Hl} {r : Out} {h : Nat} {hl : Hl} (agh : AgH σ.hp hf' r) (hm : h∈r.rds) (hh : nth σ.hp h = some hl) : hf' h = hl:=by
 rw [agh.rds h hm,nth_hf hh]
theorem local_len_row (hc : CxOk P cx) {c : Call} (ho : o.op = .call c) (hcal : c.callee = .builtin .len) {x : Operand} {t : Nat} {ti : TI} (hx : c.args.toList = [x]) (ht : c.argTypes.toList = [t]) (hl : look t cx.tt = some ti) {e : TypeId} (hk : ti.k = .slice e)
  {h ty sz : Nat} {n : ST} {f : Nat→List SV} (hv : rd cx σ T x = some (.mrow h)) (hh : nth σ.hp h = some (.row ty n sz f)) : Local P cx.gl σ T o ⟨.int .i64 n,[],[h],[]⟩:=by
 intro B N E a w ff hf' hg st ag agh hT
 have hmem : x∈o.op.operands.toList:=by simp [ho,Op.operands,Call.operands,hcal,hx]
 obtain ⟨b,m,hb,hm,e3⟩:=(rd_sound hv hg st (ag_of ag hmem) hT).mrow_inv
 have e1 : c.args = #[x]:=Array.ext' (by simpa using hx)
 have e2 : c.argTypes = #[t]:=Array.ext' (by simpa using ht)
 have hk':=st.heap h
 rw [row_same agh (List.mem_singleton.2 rfl) hh] at hk'
 obtain ⟨b',C,m',k1,k2,k3,k4,k5,k6,k7,k8,k9⟩:=hk'
 obtain rfl : m = m':=Option.some.inj (hm.symm.trans k2)
 have hrun:=run_len_any hc hl hk (w:=w) (a:=some ⟨b,0,none⟩) (m:=m) (c:=m) (ty:=o.type)
 refine yields_value st (v:=.int .i64 m) ?_ rfl (.int k6)
 simp [execOp,ho,resolve,hcal,e1,e2,invoke,builtin,e3,hrun]
theorem local_index_row (hc : CxOk P cx) {t e sz : Nat} {ti : TI} (hl : look t cx.tt = some ti) (hk : ti.k = .slice e) (hn : size? cx e = some sz) {x y : Operand} (ho : o.op = .indexAddr t x y) {h ty : Nat} {n : ST} {f : Nat→List SV} {k : IntKind} {i : ST}
  (hv : rd cx σ T x = some (.mrow h)) (hh : nth σ.hp h = some (.row ty n sz f)) (hi : rd cx σ T y = some (.int k i)) (h1 : allT (condsOf σ.gm T)→0≤i.den∧i.den < n.den) : Local P cx.gl σ T o ⟨.mptr h i.den.toNat 0,[],[h],[]⟩:=by
 intro B N E a w ff hf' hg st ag agh hT
 obtain ⟨b,m,hb,hm,e3⟩:=(rd_sound hv hg st (ag_of ag (by simp [ho,Op.operands])) hT).mrow_inv
 have hy:=(rd_sound hi hg st (ag_of ag (by simp [ho,Op.operands])) hT).int_inv
 obtain ⟨b1,b2⟩:=h1 hT
 have hk':=st.heap h
 rw [row_same agh (List.mem_singleton.2 rfl) hh] at hk'
 obtain ⟨b',C,m',k1,k2,k3,k4,k5,k6,k7,k8,k9⟩:=hk'
 obtain rfl : m = m':=Option.some.inj (hm.symm.trans k2)
 have hrun:=run_indexAt_sl hc hl hk hn (w:=w) (a:=⟨b,0,none⟩) (m:=m) (cap:=m) (k:=k) b1 (show i.den < (m : Int) by omega)
 refine yields_value st (v:=.pointer (some ⟨b,i.den.toNat * sz + 0,none⟩)) ?_ rfl (.mptr hb k3 rfl)
 simp [execOp,ho,e3,hy,hrun,add_lit]
theorem local_index_arow (hc : CxOk P cx) {t e sz n : Nat} {ti : TI} (hl : look t cx.tt = some ti) (hk : ti.k = .array n e) (hn : size? cx e = some sz) {x y : Operand} (ho : o.op = .indexAddr t x y) {h ty : Nat} {m : ST} {f : Nat→List SV} {k : IntKind} {i : ST}
  (hv : rd cx σ T x = some (.ptr h 0)) (hh : nth σ.hp h = some (.row ty m sz f)) (hi : rd cx σ T y = some (.int k i)) (h0 : 0≤i.den) (h1 : i.den < n) : Local P cx.gl σ T o ⟨.mptr h i.den.toNat 0,[],[h],[]⟩:=by
 intro B N E a w ff hf' hg st ag agh hT
 obtain ⟨b,hb,hx⟩:=(rd_sound hv hg st (ag_of ag (by simp [ho,Op.operands])) hT).ptr_inv
 have hy:=(rd_sound hi hg st (ag_of ag (by simp [ho,Op.operands])) hT).int_inv
 have hk':=st.heap h
 rw [row_same agh (List.mem_singleton.2 rfl) hh] at hk'
 obtain ⟨b',C,m',k1,k2,k3,k4,k5,k6,k7,k8,k9⟩:=hk'
 obtain rfl : b = b':=Option.some.inj (hb.symm.trans k1)
 refine yields_value st (v:=.pointer (some ⟨b,i.den.toNat * sz + 0,none⟩)) ?_ rfl (.mptr hb k3 rfl)
 have hu:=(hc.ti hl).array hk
 obtain ⟨te,hte,hsz⟩:=size?_ti hn
 have hS:=(hc.ti hte).sizeOf w
 obtain ⟨j,hj⟩ : ∃ j : Nat,i.den = (j : Int):=⟨i.den.toNat,by omega⟩
 have hjn : j < n:=by omega
 rw [hj] at hy ⊢
 simp [execOp,ho,hx,hy,Instr.indexAt,run_underlying hu,asIntOf,hjn,hS,hsz,Instr.sureAddr,add_lit]
theorem local_load_whole (hc : CxOk P cx) {t e n sz : Nat} {ti : TI} {x : Operand} (ho : o.op = .load t x) (hl : look t cx.tt = some ti) (hk : ti.k = .array n e) (hsz : n * sz = ti.size) {h ty : Nat} {m : ST} {f : Nat→List SV}
  (hv : rd cx σ T x = some (.ptr h 0)) (hh : nth σ.hp h = some (.row ty m sz f)) (hm : m.den = (n : Int)) {cs : List SV} (hf : Flat f m.den sz cs) : Local P cx.gl σ T o ⟨.agg cs,[],[h],[]⟩:=by
 intro B N E a w ff hf' hg st ag agh hT
 obtain ⟨b,hb,hx⟩:=(rd_sound hv hg st (ag_of ag (by simp [ho,Op.operands])) hT).ptr_inv
 have hk':=st.heap h
 rw [row_same agh (List.mem_singleton.2 rfl) hh] at hk'
 obtain ⟨b',C,m',k1,k2,k3,k4,k5,k6,k7,⟨r1,r2,r3,r4⟩,k9⟩:=hk'
 obtain rfl : b = b':=Option.some.inj (hb.symm.trans k1)
 obtain rfl : m' = n:=by omega
 have hlen : cs.length = m' * sz:=by
  have:=hf.len
  rw [k6] at this
  exact_mod_cast this
 have hrel : RelL E w cs C.toList:=by
  refine ⟨by simp [hlen,r1],fun i s v p q=>?_⟩
  have hi : i < m' * sz:=by rw [←hlen]; exact (List.getElem?_eq_some_iff.1 p).1
  have hsz0 : 0 < sz:=by
   rcases Nat.eq_zero_or_pos sz with h | h
   ·rw [h] at hi; simp at hi
   ·exact h
  have hq : i / sz < m':=by rw [Nat.div_lt_iff_lt_mul hsz0]; exact hi
  have hrow:=hf.h (i / sz) (by rw [k6]; exact_mod_cast hq)
  have e0 : i / sz * sz + i % sz = i:=by rw [Nat.mul_comm]; exact Nat.div_add_mod i sz
  have e1 : (f (i / sz))[i % sz]? = some s:=by
   rw [hrow,List.getElem?_take,if_pos (Nat.mod_lt i hsz0),List.getElem?_drop,e0]; exact p
  have e2 : C[i / sz * sz + i % sz]? = some v:=by rw [e0]; simpa using q
  exact .ro (r3 _ _ _ _ hq e1 e2)
 have hag : isAgg? cx t = true:=by rw [isAgg?_eq hl,hk]; rfl
 have hp : pack (isAgg? cx t) cs = some (.agg cs):=by rw [hag]; rfl
 obtain ⟨p1,p2⟩:=pack_rel hp hrel
 have hrun:=run_loadAt (hc.ti hl) (w:=w) (b:=b) (off:=0) (vs:=C.toList) (fun j v hj=>by
  rw [Nat.zero_add,cell_of_row w b j C ty (0,0) k5]
  simpa using hj) (by rw [←hrel.1,hlen,hsz]) (isAgg?_eq hl) p1
 exact yields_value st (by simp [execOp,ho,hx,hrun]) rfl p2
theorem local_store_whole (hc : CxOk P cx) {t e n sz : Nat} {ti : TI} {x y : Operand} (ho : o.op = .store t x y) (hl : look t cx.tt = some ti) (hk : ti.k = .array n e) (hsz : n * sz = ti.size) {h ty : Nat} {m : ST} {f f' : Nat→List SV} {cs : List SV}
  (hv : rd cx σ T x = some (.ptr h 0)) (hs : rdT cx σ T t y = some (.agg cs)) (hh : nth σ.hp h = some (.row ty m sz f)) (hm : m.den = (n : Int)) (h1 : onesB cs = true) (hpl : plainV.plainL cs = true) (hf : Flat f' m.den sz cs) : Local P cx.gl σ T o ⟨.tup [],[.put h (.row ty m sz f')],[h],[]⟩:=by
 intro B N E a w ff hf' hg st ag agh hT K' Q hK
 obtain ⟨b,hb,hx⟩:=(rd_sound hv hg st (ag_of ag (by simp [ho,Op.operands])) hT).ptr_inv
 have hr2:=rdT_sound hs hg st (ag_of ag (by simp [ho,Op.operands])) hT
 have hfh:=row_same agh (List.mem_singleton.2 rfl) hh
 have hk':=st.heap h
 rw [hfh] at hk'
 obtain ⟨b',C,m',k1,k2,k3,k4,k5,k6,k7,⟨r1,r2,r3,r4⟩,k9⟩:=hk'
 obtain rfl : b = b':=Option.some.inj (hb.symm.trans k1)
 obtain rfl : m' = n:=by omega
 have hlen : cs.length = m' * sz:=by
  have:=hf.len
  rw [k6] at this
  exact_mod_cast this
 have hcs:=cells_of (s:=.agg cs) h1 hr2
 have hone:=ones_of (cs:=cs) h1 hcs
 rw [plainL_iff] at hpl
 have hul : (a.eval y).cells.toList.length = m' * sz:=by rw [←hcs.1]; exact hlen
 generalize hU : (a.eval y).cells.toList = us at *
 have hCs : us.toArray.size = C.size:=by simp [hul,r1]
 have hrow : rowIs E w f' m' sz us.toArray:=by
  refine ⟨by simp [hul],fun i hi=>?_,fun i j s v hi p q=>?_,fun v hv=>hone v (by simpa using hv)⟩
  ·rw [hf.h i (by rw [k6]; exact_mod_cast hi)]
   have : (i + 1) * sz≤m' * sz:=Nat.mul_le_mul_right _ hi
   rw [Nat.add_mul] at this
   simp; omega
  ·rw [hf.h i (by rw [k6]; exact_mod_cast hi),List.getElem?_take] at p
   split at p
   ·rw [List.getElem?_drop] at p
    have q : us[i * sz + j]? = some v:=by simpa using q
    exact (hcs.2 _ s v p q).plainOne (hpl _ (List.mem_of_getElem? p)) (hone v (List.mem_of_getElem? q))
   ·cases p
 obtain ⟨x1,x2,x3⟩:=set_row (h:=h) st hfh hb k2 k5 hrow
 have hrun : (Instr.storeAt t (.pointer (some ⟨b,0,none⟩)) (a.eval y)).run P w = .ok () (w.setRow b us.toArray):=by
  have hS:=(hc.ti hl).sizeOf w
  have hsc:=run_storeCells_at P b 0 ty us 0 C w k5 (by simp [hul,r1]) hone
  have hne : ((a.eval y).cells.size≠ti.size) = False:=by
   have : (a.eval y).cells.size = ti.size:=by rw [←hsz]; rw [←hU] at hul; simpa using hul
   simp [this]
  have hC2 : (C.toList.take 0 ++ us ++ C.toList.drop (0 + us.length)).toArray = us.toArray:=by
   have : C.toList.drop us.length = []:=List.drop_eq_nil_of_le (by simp [hul,r1])
   rw [Nat.zero_add,this]; simp
  simp only [Nat.add_zero] at hsc
  rw [hC2] at hsc
  simp only [Instr.storeAt,Instr.sureAddr,storeVar,Sem.run_bind,Sem.run_pure,Result.andThen_ok,hS,hne,if_false,hU,hsc]
 unfold Oper.wp
 have : (execOp a.eval o).run P w = .ok .skip (w.setRow b us.toArray):=by
  simp only [execOp,ho,hx,Sem.run_bind,hrun,Result.andThen_ok,Sem.run_pure]
 rw [this]
 exact hK undef _ E x1 x2 x3 (.tup rfl (by simp))
theorem local_fieldAddr_mptr (hc : CxOk P cx) {t i fo ft m h j off : Nat} {x : Operand} (ho : o.op = .fieldAddr t x i) (hv : rd cx σ T x = some (.mptr h j off)) (hf : field? cx t i = some (fo,ft)) (hn : size? cx ft = some (m + 1)) :
  Local P cx.gl σ T o ⟨.mptr h j (off + fo),[],[],[]⟩:=by
 intro B N E a w ff hf' hg st ag agh hT
 have hr:=rd_sound hv hg st (ag_of ag (by simp [ho,Op.operands])) hT
 obtain ⟨b,sz,hb,hz,hx⟩:=hr.mptr_inv
 refine yields_value st (v:=.pointer (some ⟨b,j * sz + (off + fo),none⟩)) ?_ rfl (.mptr hb hz rfl)
 simp [execOp,ho,hx,run_fieldAt hc hf hn,add_lit,Nat.add_assoc]
theorem local_load_mptr (hc : CxOk P cx) {t : Nat} {x : Operand} (ho : o.op = .load t x) {h j off n ty sz : Nat} {m : ST} {f : Nat→List SV} {s : SV} (hv : rd cx σ T x = some (.mptr h j off)) (hn : size? cx t = some n)
  (hh : nth σ.hp h = some (.row ty m sz f)) (hob : allT (condsOf σ.gm T)→(j : Int) < m.den) (hle : off + n≤(f j).length) (hp : pack (isAgg? cx t) (((f j).drop off).take n) = some s) : Local P cx.gl σ T o ⟨s,[],[h],[]⟩:=by
 intro B N E a w ff hf hg st ag agh hT
 have hr:=rd_sound hv hg st (ag_of ag (by simp [ho,Op.operands])) hT
 obtain ⟨b,sz',hb,hz,hx⟩:=hr.mptr_inv
 have hk':=st.heap h
 rw [row_same agh (List.mem_singleton.2 rfl) hh] at hk'
 obtain ⟨b',C,m',k1,k2,k3,k4,k5,k6,k7,k8,k9⟩:=hk'
 obtain rfl : b = b':=Option.some.inj (hb.symm.trans k1)
 obtain rfl : sz' = sz:=Option.some.inj (hz.symm.trans k3)
 obtain ⟨ti,hti,hsz⟩:=size?_ti hn
 obtain ⟨r1,r2,r3,r4⟩:=k8
 have hj : j < m':=by have:=hob hT; omega
 have hfl:=r2 j hj
 have hbound : (j + 1) * sz'≤m' * sz':=Nat.mul_le_mul_right _ hj
 rw [Nat.add_mul] at hbound
 have hsub : RelL E w (((f j).drop off).take n) ((C.toList.drop (j * sz' + off)).take n):=by
  refine ⟨by simp; omega,fun i s v p q=>?_⟩
  rw [List.getElem?_take] at p q
  split at p
  ·rename_i e
   rw [if_pos e] at q
   rw [List.getElem?_drop] at p q
   refine .ro (r3 j (off + i) s v hj p ?_)
   rw [←Nat.add_assoc]; simpa using q
  ·cases p
 obtain ⟨p1,p2⟩:=pack_rel hp hsub
 have hlen : ((C.toList.drop (j * sz' + off)).take n).length = n:=by simp; omega
 have hrun:=run_loadAt (hc.ti hti) (w:=w) (b:=b) (off:=j * sz' + off) (vs:=(C.toList.drop (j * sz' + off)).take n) (fun q v hq=>by
  rw [List.getElem?_take] at hq
  split at hq
  ·rw [List.getElem?_drop] at hq
   rw [cell_of_row w b (j * sz' + off + q) C ty (0,0) k5]
   simpa using hq
  ·cases hq) (by rw [hlen,hsz]) (isAgg?_eq hti) p1
 exact yields_value st (by simp [execOp,ho,hx,hrun]) rfl p2
theorem local_store_mptr (hc : CxOk P cx) {t : Nat} {x y : Operand} (ho : o.op = .store t x y) {h j off n ty sz : Nat} {m : ST} {f f' : Nat→List SV} {s : SV} (hv : rd cx σ T x = some (.mptr h j off)) (hs : rdT cx σ T t y = some s) (hn : size? cx t = some n)
  (hh : nth σ.hp h = some (.row ty m sz f)) (hj : (j : Int) < m.den) (hl : s.cells.length = n) (hle : off + n≤(f j).length) (h1 : onesB s.cells = true) (hpl : plainV (.agg (loose.looseL (norm.normL dn s.cells))) = true)
  (hfj : f' j = putN (f j) off (loose.looseL (norm.normL dn s.cells))) (hfo : ∀ i,i≠j→f' i = f i) : Local P cx.gl σ T o ⟨.tup [],[.put h (.row ty m sz f')],[h],[]⟩:=by
 intro B N E a w ff hf hg st ag agh hT K' Q hK
 have hr:=rd_sound hv hg st (ag_of ag (by simp [ho,Op.operands])) hT
 have hr2:=rdT_sound hs hg st (ag_of ag (by simp [ho,Op.operands])) hT
 obtain ⟨b,sz',hb,hz,hx⟩:=hr.mptr_inv
 have hfh:=row_same agh (List.mem_singleton.2 rfl) hh
 have hk':=st.heap h
 rw [hfh] at hk'
 obtain ⟨b',C,m',k1,k2,k3,k4,k5,k6,k7,k8,k9⟩:=hk'
 obtain rfl : b = b':=Option.some.inj (hb.symm.trans k1)
 obtain rfl : sz' = sz:=Option.some.inj (hz.symm.trans k3)
 obtain ⟨ti,hti,hsz⟩:=size?_ti hn
 obtain ⟨r1,r2,r3,r4⟩:=k8
 have hjm : j < m':=by omega
 have hfl:=r2 j hjm
 have hbound : (j + 1) * sz'≤m' * sz':=Nat.mul_le_mul_right _ hjm
 rw [Nat.add_mul] at hbound
 have hcs:=cells_of h1 hr2
 have hone:=ones_of h1 hcs
 have hul : (a.eval y).cells.toList.length = n:=by rw [←hcs.1]; exact hl
 have hplain : RelL E w (loose.looseL (norm.normL dn s.cells)) (a.eval y).cells.toList:=by
  rw [looseL_eq,normL_eq]
  exact (hcs.map _ fun s v _ h=>h.norm).map _ fun s v _ h=>h.loose
 have hpc : ∀ c∈loose.looseL (norm.normL dn s.cells),plainV c = true:=by
  simp only [plainV] at hpl
  exact (plainL_iff _).1 hpl
 have hpl' : (loose.looseL (norm.normL dn s.cells)).length = n:=by rw [hplain.1]; exact hul
 generalize hU : (a.eval y).cells.toList = us at *
 generalize hP : loose.looseL (norm.normL dn s.cells) = ps at *
 let C' : Array Value:=(C.toList.take (j * sz' + off) ++ us ++ C.toList.drop (j * sz' + off + us.length)).toArray
 have hle' : j * sz' + off + us.length≤C.size:=by rw [hul]; omega
 have hC's : C'.size = C.size:=by simp [C']; omega
 have hCget : ∀ q : Nat,C'[q]? = if j * sz' + off≤q∧q < j * sz' + off + us.length then us[q - (j * sz' + off)]? else C[q]?:=by
  intro q
  have : C'[q]? = (C.toList.take (j * sz' + off) ++ us ++ C.toList.drop (j * sz' + off + us.length))[q]?:=by simp [C']
  rw [this]
  split
  ·rename_i e
   rw [List.append_assoc,List.getElem?_append_right (by simp; omega),List.getElem?_append_left (by simp; omega)]
   congr 1; simp; omega
  ·rename_i e
   by_cases hi : q < j * sz' + off
   ·rw [List.append_assoc,List.getElem?_append_left (by simp; omega),List.getElem?_take,if_pos hi]; simp
   ·rw [List.getElem?_append_right (by simp; omega),List.getElem?_drop,←Array.getElem?_toList]
    congr 1; simp; omega
 have hrow : rowIs E w f' m' sz' C':=by
  refine ⟨by rw [hC's]; exact r1,fun i hi=>?_,fun i q s2 v hi hs2 hv2=>?_,fun v hv=>?_⟩
  ·by_cases e : i = j
   ·subst e; rw [hfj,len_putN]; exact hfl
   ·rw [hfo i e]; exact r2 i hi
  ·rw [hCget] at hv2
   have hql : q < sz':=by
    have hlen : (f' i).length = sz':=by
     by_cases e : i = j
     ·subst e; rw [hfj,len_putN]; exact hfl
     ·rw [hfo i e]; exact r2 i hi
    rw [←hlen]; exact (List.getElem?_eq_some_iff.1 hs2).1
   by_cases e : i = j
   ·subst e
    rw [hfj,get_putN _ _ _ _ (by rw [hpl']; exact hle)] at hs2
    by_cases hin : off≤q∧q < off + n
    ·rw [if_pos (by rw [hpl']; exact hin)] at hs2
     rw [if_pos (by rw [hul]; omega)] at hv2
     have e2 : i * sz' + q - (i * sz' + off) = q - off:=by omega
     rw [e2] at hv2
     exact (hplain.2 _ s2 v hs2 hv2).plainOne (hpc s2 (List.mem_of_getElem? hs2)) (hone v (List.mem_of_getElem? hv2))
    ·rw [if_neg (by rw [hpl']; exact hin)] at hs2
     rw [if_neg (by rw [hul]; omega)] at hv2
     exact r3 i q s2 v hi hs2 hv2
   ·rw [hfo i e] at hs2
    have hne : ¬ (j * sz' + off≤i * sz' + q∧i * sz' + q < j * sz' + off + us.length):=by
     rw [hul]
     rcases Nat.lt_or_ge i j with hlt | hge
     ·have : (i + 1) * sz'≤j * sz':=Nat.mul_le_mul_right _ hlt
      rw [Nat.add_mul] at this
      omega
     ·have : (j + 1) * sz'≤i * sz':=Nat.mul_le_mul_right _ (by omega)
      rw [Nat.add_mul] at this
      omega
    rw [if_neg hne] at hv2
    exact r3 i q s2 v hi hs2 hv2
  ·obtain ⟨q,hq⟩:=Array.mem_iff_getElem?.1 hv
   rw [hCget] at hq
   split at hq
   ·exact hone v (List.mem_of_getElem? hq)
   ·exact r4 v (Array.mem_of_getElem? hq)
 obtain ⟨x1,x2,x3⟩:=set_row (h:=h) st hfh hb k2 k5 hrow
 have hrun : (Instr.storeAt t (.pointer (some ⟨b,j * sz' + off,none⟩)) (a.eval y)).run P w = .ok () (w.setRow b C'):=by
  have hS:=(hc.ti hti).sizeOf w
  have hsc:=run_storeCells_at P b (j * sz' + off) ty us 0 C w k5 (by simpa using hle') hone
  have hne : ((a.eval y).cells.size≠ti.size) = False:=by
   have : (a.eval y).cells.size = ti.size:=by rw [hsz]; rw [←hU] at hul; simpa using hul
   simp [this]
  simp only [Nat.add_zero] at hsc
  simp only [Instr.storeAt,Instr.sureAddr,storeVar,Sem.run_bind,Sem.run_pure,Result.andThen_ok,hS,hne,if_false,hU,hsc]
  rfl
 unfold Oper.wp
 have : (execOp a.eval o).run P w = .ok .skip (w.setRow b C'):=by
  simp only [execOp,ho,hx,Sem.run_bind,hrun,Result.andThen_ok,Sem.run_pure]
 rw [this]
 exact hK undef _ E x1 x2 x3 (.tup rfl (by simp))
end
end Go.Sx
namespace Go.Sx
open Go
section
variable {P : Program} {cx : Cx} {σ : Sy} {T : List Nat} {o : Oper} {K : Out→Prop}
theorem local_copy (hc : CxOk P cx) {c : Call} (ho : o.op = .call c) (hcal : c.callee = .builtin .copy) {x y : Operand} {t t' : Nat} {ti : TI} (hx : c.args.toList = [x,y]) (ht : c.argTypes.toList = [t,t']) (hl : look t cx.tt = some ti) {e : TypeId} (hk : ti.k = .slice e)
  {h ty sz : Nat} {n m : ST} {f f' g : Nat→List SV} {s : SV} (hv : rd cx σ T x = some (.mrow h)) (hs : rd cx σ T y = some s) (hh : nth σ.hp h = some (.row ty n sz f)) (hsz : size? cx e = some sz) (hrow : rowOf sz s = some (m,g))
  (h1 : ∀ i : Nat,(i : Int) < min m.den n.den→f' i = g i) (h2 : ∀ i : Nat,min m.den n.den≤(i : Int)→(i : Int) < n.den→f' i = f i) :
  Local P cx.gl σ T o ⟨.int .i64 (.a (min m.den n.den)),[.put h (.row ty n sz f')],[h],[]⟩:=by
 intro B N E a w ff hf hg st ag agh hT K' Q hK
 have hmem : x∈o.op.operands.toList∧y∈o.op.operands.toList:=by constructor<;>simp [ho,Op.operands,Call.operands,hcal,hx]
 obtain ⟨b,md,hb,hm,e3⟩:=(rd_sound hv hg st (ag_of ag hmem.1) hT).mrow_inv
 have hrs:=rd_sound hs hg st (ag_of ag hmem.2) hT
 have e1 : c.args = #[x,y]:=Array.ext' (by simpa using hx)
 have e2 : c.argTypes = #[t,t']:=Array.ext' (by simpa using ht)
 have hfh:=row_same agh (List.mem_singleton.2 rfl) hh
 have hk':=st.heap h
 rw [hfh] at hk'
 obtain ⟨b',C,m',k1,k2,k3,k4,k5,k6,k7,k8,k9⟩:=hk'
 obtain rfl : b = b':=Option.some.inj (hb.symm.trans k1)
 obtain rfl : md = m':=Option.some.inj (hm.symm.trans k2)
 obtain ⟨te,hte,hszt⟩:=size?_ti hsz
 obtain ⟨k,news,n1,n2,⟨n3,n4,n5⟩,n6,n7⟩:=rowOf_src hrow hrs
 obtain ⟨r1,r2,r3,r4⟩:=k8
 have hrmin : min m.den n.den = ((min k md : Nat) : Int):=by rw [n1,k6]; omega
 have hlens : ∀ i,i < k→∀ j,j < sz→i * sz + j < news.length:=by
  intro i hi j hj
  have : (i + 1) * sz≤k * sz:=Nat.mul_le_mul_right _ hi
  rw [Nat.add_mul] at this
  omega
 let r:=min k md
 have hrk : r≤k:=Nat.min_le_left _ _
 have hrm : r≤md:=Nat.min_le_right _ _
 have hrks : r * sz≤k * sz:=Nat.mul_le_mul_right _ hrk
 have hrms : r * sz≤md * sz:=Nat.mul_le_mul_right _ hrm
 let us:=news.take (r * sz)
 have husl : us.length = r * sz:=by simp [us]; omega
 let C' : Array Value:=(C.toList.take 0 ++ us ++ C.toList.drop (0 + us.length)).toArray
 have hC's : C'.size = C.size:=by simp [C',us]; omega
 have hCget : ∀ q : Nat,C'[q]? = if q < r * sz then news[q]? else C[q]?:=by
  intro q
  have : C'[q]? = (us ++ C.toList.drop us.length)[q]?:=by simp [C']
  rw [this]
  split
  ·rename_i e
   rw [List.getElem?_append_left (by omega)]
   simp only [us]
   rw [List.getElem?_take,if_pos e]
  ·rename_i e
   rw [List.getElem?_append_right (by omega),List.getElem?_drop,←Array.getElem?_toList]
   congr 1; omega
 have hone : ∀ v∈us,v.oneCell' = true:=fun v hv=>n4 v (List.mem_of_mem_take hv)
 have hrow' : rowIs E w f' md sz C':=by
  have hfi : ∀ i,i < md→(i < r→f' i = g i)∧(r≤i→f' i = f i):=by
   intro i hi
   refine ⟨fun hlt=>h1 i (by rw [hrmin]; omega),fun hge=>h2 i (by rw [hrmin]; omega) (by omega)⟩
  have hlen : ∀ i,i < md→(f' i).length = sz:=by
   intro i hi
   by_cases e : i < r
   ·rw [(hfi i hi).1 e]; exact n6 i (by omega)
   ·rw [(hfi i hi).2 (by omega)]; exact r2 i hi
  refine ⟨by rw [hC's]; exact r1,hlen,fun i q s2 v hi hs2 hv2=>?_,fun v hv=>?_⟩
  ·have hql : q < sz:=by rw [←hlen i hi]; exact (List.getElem?_eq_some_iff.1 hs2).1
   rw [hCget] at hv2
   by_cases e : i < r
   ·have : (i + 1) * sz≤r * sz:=Nat.mul_le_mul_right _ e
    rw [Nat.add_mul] at this
    rw [if_pos (by omega)] at hv2
    rw [(hfi i hi).1 e] at hs2
    exact n7 i q s2 v (by omega) hs2 hv2
   ·have : r * sz≤i * sz:=Nat.mul_le_mul_right _ (by omega)
    rw [if_neg (by omega)] at hv2
    rw [(hfi i hi).2 (by omega)] at hs2
    exact r3 i q s2 v hi hs2 hv2
  ·obtain ⟨q,hq⟩:=Array.mem_iff_getElem?.1 hv
   rw [hCget] at hq
   split at hq
   ·exact n4 v (List.mem_of_getElem? hq)
   ·exact r4 v (Array.mem_of_getElem? hq)
 obtain ⟨x1,x2,x3⟩:=set_row (h:=h) st hfh hb k2 k5 hrow'
 have hu:=(hc.ti hl).slice hk
 have hS:=(hc.ti hte).sizeOf w
 have hlen : (Builtin.lenOf (a.eval y)).run P w = .ok k w:=by
  rcases n5 with ⟨e0,rfl⟩ | ⟨ad,c0,e0,_⟩<;>rw [e0]<;>rfl
 have hcells : (Builtin.firstCells te.size (Nat.min k md) (a.eval y)).run P w = .ok us.toArray w:=by
  rcases n5 with ⟨e0,e00⟩ | ⟨ad,c0,e0,hnews⟩
  ·subst e00
   have : us = []:=by simp [us,r]
   rw [e0,this]; rfl
  ·rw [e0]
   refine run_firstCells_some w te.size (Nat.min k md) ad k c0 us (by rw [husl,hszt]) (fun j v hj=>?_)
   simp only [us] at hj
   rw [List.getElem?_take] at hj
   split at hj
   ·exact hnews j v hj
   ·cases hj
 have hsc:=run_storeCells_at P b 0 ty us 0 C w k5 (by rw [husl]; omega) hone
 simp only [Nat.add_zero] at hsc
 unfold Oper.wp
 have : (execOp a.eval o).run P w = .ok (.value (.int .i64 ((min k md : Nat) : Int))) (w.setRow b C'):=by
  have hbi : (Builtin.copy_ #[t,t'] o.type #[.slice (some ⟨b,0,none⟩) md md,a.eval y]).run P w = .ok (.int .i64 ((min k md : Nat) : Int)) (w.setRow b C'):=by
   simp only [Builtin.copy_,Sem.run_bind,run_underlying hu,Result.andThen_ok,hlen,hS,hcells]
   simp [Sem.run_bind,run_underlying hu,hlen,hS,hcells,hsc,goInt,C']
  simp only [execOp,ho,resolve,hcal,e1,e2]
  simp [invoke,builtin,e3,hbi]
 rw [this]
 refine hK _ _ E x1 x2 x3 (.int ?_)
 simp only [ST.den]
 exact hrmin
end
end Go.Sx
namespace Go.Sx
open Go
section
variable {P : Program} {cx : Cx} {σ : Sy} {T : List Nat} {o : Oper} {K : Out→Prop}
theorem optRd_sound {B : Bs} {N : Nat} {E : Env} {a : Act} {w : World} {ff : Nat→SG} {hf : Nat→Hl} (hg : glOk B cx.gl) (st : St B N E a w ff hf) (hT : allT (condsOf σ.gm T)) {x : Option Operand} {s : Option SV} (h : optRd cx σ T x = some s)
  (hag : ∀ y,x = some y→∀ q∈opSlots y,ff q = ffOf σ q) {d t : ST} (hb : boundOr d s = some t) : (x = none∧t = d)∨∃ y k,x = some y∧a.eval y = .int k t.den:=by
 unfold optRd at h
 split at h
 ·cases h; left; exact ⟨rfl,(Option.some.inj hb).symm⟩
 ·rename_i y
  split at h
  ·rename_i v hv
   cases h
   right
   have hr:=rd_sound hv hg st (hag y rfl) hT
   unfold boundOr at hb
   split at hb
   ·rename_i e; cases e
   ·rename_i k u e
    cases e
    cases hb
    exact ⟨y,_,rfl,hr.int_inv⟩
   ·cases hb
  ·cases h
theorem run_bound {k : IntKind} {i : Int} {n : Nat} {code : BoundsCode} {w : World} (h0 : 0≤i) (h1 : i≤(n : Int)) : (Instr.sliceBound (.int k i) n code).run P w = .ok i.toNat w:=by
 simp [Instr.sliceBound,asIntOf,h0,h1]
theorem run_bounds {sl : Bool} {len cap : Nat} {lo hi : Option Value} {l h : Int} {w : World} (hlo : (lo = none∧l = 0)∨∃ k,lo = some (.int k l)) (hhi : (hi = none∧h = (len : Int))∨∃ k,hi = some (.int k h)) (h0 : 0≤l) (h1 : l≤h) (h2 : h≤(len : Int)) (h3 : len≤cap) :
  (Instr.sliceBounds sl len cap lo hi none).run P w = .ok (l.toNat,h.toNat,cap) w:=by
 have hh : ((h.toNat : Nat) : Int) = h:=by omega
 rcases hlo with ⟨rfl,rfl⟩ | ⟨k,rfl⟩<;>rcases hhi with ⟨rfl,rfl⟩ | ⟨k',rfl⟩<;>simp [Instr.sliceBounds]
 ·have:=run_bound (P:=P) (k:=k') (i:=h) (n:=cap) (code:=if sl = true then BoundsCode.sliceAcap else BoundsCode.sliceAlen) (w:=w) (by omega) (by omega)
  simp [this]
 ·have:=run_bound (P:=P) (k:=k) (i:=l) (n:=len) (code:=BoundsCode.sliceB) (w:=w) (by omega) (by omega)
  simp [this]
 ·have e1:=run_bound (P:=P) (k:=k') (i:=h) (n:=cap) (code:=if sl = true then BoundsCode.sliceAcap else BoundsCode.sliceAlen) (w:=w) (by omega) (by omega)
  have e2:=run_bound (P:=P) (k:=k) (i:=l) (n:=h.toNat) (code:=BoundsCode.sliceB) (w:=w) (by omega) (by omega)
  simp [e1,e2]
theorem local_slice_row (hc : CxOk P cx) {t e sz : Nat} {ti : TI} (hl : look t cx.tt = some ti) (hk : ti.k = .slice e) (hn : size? cx e = some sz) {x : Operand} {lo hi : Option Operand} (ho : o.op = .slice t x lo hi none) {nl : BT} {n : ST} {f f' : Nat→List SV}
  (hv : rd cx σ T x = some (.sl nl n sz f)∨∃ h,rd cx σ T x = some (.gsl nl n sz f h)) {sa sb : Option SV} (hlo : optRd cx σ T lo = some sa) (hhi : optRd cx σ T hi = some sb) {p q : ST} (hp : boundOr (.l 0) sa = some p) (hq : boundOr n sb = some q)
  (hob : allT (condsOf σ.gm T)→0≤p.den∧p.den≤q.den∧q.den≤n.den) (hf : ∀ i j : Nat,(j : Int) = i + p.den→f' i = f j) : Local P cx.gl σ T o ⟨.sl nl (.a (q.den - p.den)) sz f',[],[],[]⟩:=by
 intro B N E a w ff hf' hg st ag agh hT
 have hx' : RO E.I w (.sl nl n sz f) (a.eval x):=by
  rcases hv with hv | ⟨h,hv⟩
  ·exact (rd_sound hv hg st (ag_of ag (by simp [ho,Op.operands])) hT).sl_inv
  ·exact (rd_sound hv hg st (ag_of ag (by simp [ho,Op.operands])) hT).gsl_inv.1
 have h1:=optRd_sound hg st hT hlo (fun y hy=>ag_of ag (by subst hy; simp [ho,Op.operands])) hp
 have h2:=optRd_sound hg st hT hhi (fun y hy=>ag_of ag (by subst hy; simp [ho,Op.operands])) hq
 obtain ⟨o1,o2,o3⟩:=hob hT
 have hu:=(hc.ti hl).slice hk
 obtain ⟨te,hte,hszt⟩:=size?_ti hn
 have hS:=(hc.ti hte).sizeOf w
 have hlo' : (lo.map a.eval = none∧p.den = 0)∨∃ k,lo.map a.eval = some (.int k p.den):=by
  rcases h1 with ⟨rfl,rfl⟩ | ⟨y,k,rfl,e⟩
  ·exact .inl ⟨rfl,rfl⟩
  ·exact .inr ⟨k,by simp [e]⟩
 have hhi' : ∀ m : Nat,n.den = (m : Int)→(hi.map a.eval = none∧q.den = (m : Int))∨∃ k,hi.map a.eval = some (.int k q.den):=by
  intro m hm
  rcases h2 with ⟨rfl,rfl⟩ | ⟨y,k,rfl,e⟩
  ·exact .inl ⟨rfl,hm⟩
  ·exact .inr ⟨k,by simp [e]⟩
 rcases hx'.sl_inv with ⟨e0,e1,e2⟩ | ⟨ad,m,cap,g,e0,e1,e2,e3,e3',e4,e5,e5',e6,e7⟩
 ·have hp0 : p.den = 0:=by omega
  have hq0 : q.den = 0:=by omega
  have hb:=run_bounds (P:=P) (sl:=true) (len:=0) (cap:=0) (lo:=lo.map a.eval) (hi:=hi.map a.eval) (l:=p.den) (h:=q.den) (w:=w) hlo' (hhi' 0 (by simpa using e1)) o1 o2 (by omega) (Nat.le_refl _)
  refine yields_value st (v:=.slice none 0 0) ?_ rfl (.ro (.slnil e2 (by simp only [ST.den]; omega)))
  simp [execOp,ho,e0,Instr.sliceAt,Instr.slice,run_underlying hu,hb,hS,hp0,hq0]
 ·have hb:=run_bounds (P:=P) (sl:=true) (len:=m) (cap:=cap) (lo:=lo.map a.eval) (hi:=hi.map a.eval) (l:=p.den) (h:=q.den) (w:=w) hlo' (hhi' m e2) o1 o2 (by omega) e3
  let ad':=if cap = p.den.toNat then ad else ad.add (p.den.toNat * te.size)
  refine yields_value st (v:=.slice (some ad') (q.den.toNat - p.den.toNat) (cap - p.den.toNat)) ?_ rfl (.ro ?_)
  ·by_cases hcap : cap = p.den.toNat
   ·subst hcap
    simp [execOp,ho,e0,Instr.sliceAt,Instr.slice,run_underlying hu,hb,hS,ad']
   ·simp [execOp,ho,e0,Instr.sliceAt,Instr.slice,run_underlying hu,hb,hS,ad',hcap]
  ·have hne : ∀ i,i < q.den.toNat - p.den.toNat→ad' = ad.add (p.den.toNat * sz):=by
    intro i hi'
    simp only [ad',hszt]
    rw [if_neg (by omega)]
   have hff : ∀ i,f' i = f (i + p.den.toNat):=fun i=>hf i _ (by omega)
   refine .sl (fun i j=>g (i + p.den.toNat) j) e1 (by simp only [ST.den]; omega) (by omega) (by omega) (fun hpos=>?_) (fun i hi'=>?_) (fun i j hi' hj=>e5' _ _ (by omega) hj) (fun i j hi' hj=>?_) (fun i j s hi' hs=>?_)
   ·rw [hne 0 hpos]; exact add_spot _ _ (e4 (by omega))
   ·rw [hff]; exact e5 _ (by omega)
   ·rw [hne i hi',add_block,add_off]
    have:=e6 (i + p.den.toNat) j (by omega) hj
    rw [Nat.add_mul] at this
    rw [show ad.off + p.den.toNat * sz + (i * sz + j) = ad.off + (i * sz + p.den.toNat * sz + j) by omega]
    exact this
   ·rw [hff] at hs; exact e7 _ j s (by omega) hs
theorem extract_bytes (s : List UInt8) (l h : Nat) : (bytes s).extract l h = bytes ((s.drop l).take (h - l)):=by
 apply ByteArray.ext
 simp only [ByteArray.data_extract,bytes]
 apply Array.ext'
 simp [List.extract_eq_take_drop]
theorem local_slice_str (hc : CxOk P cx) {t : Nat} {ti : TI} (hl : look t cx.tt = some ti) (hk : ti.k = .string) {x : Operand} {lo hi : Option Operand} (ho : o.op = .slice t x lo hi none) {s : List UInt8}
  (hv : rd cx σ T x = some (.str s)) {sa sb : Option SV} (hlo : optRd cx σ T lo = some sa) (hhi : optRd cx σ T hi = some sb) {p q : ST} (hp : boundOr (.l 0) sa = some p) (hq : boundOr (.len s) sb = some q)
  (hob : allT (condsOf σ.gm T)→0≤p.den∧p.den≤q.den∧q.den≤s.length) : Local P cx.gl σ T o ⟨.str ((s.drop p.den.toNat).take (q.den.toNat - p.den.toNat)),[],[],[]⟩:=by
 intro B N E a w ff hf' hg st ag agh hT
 have hx':=(rd_sound hv hg st (ag_of ag (by simp [ho,Op.operands])) hT).str_inv
 have h1:=optRd_sound hg st hT hlo (fun y hy=>ag_of ag (by subst hy; simp [ho,Op.operands])) hp
 have h2:=optRd_sound hg st hT hhi (fun y hy=>ag_of ag (by subst hy; simp [ho,Op.operands])) hq
 obtain ⟨o1,o2,o3⟩:=hob hT
 have hu:=(hc.ti hl).string hk
 have hlo' : (lo.map a.eval = none∧p.den = 0)∨∃ k,lo.map a.eval = some (.int k p.den):=by
  rcases h1 with ⟨rfl,rfl⟩ | ⟨y,k,rfl,e⟩
  ·exact .inl ⟨rfl,rfl⟩
  ·exact .inr ⟨k,by simp [e]⟩
 have hhi' : (hi.map a.eval = none∧q.den = ((s.length : Nat) : Int))∨∃ k,hi.map a.eval = some (.int k q.den):=by
  rcases h2 with ⟨rfl,rfl⟩ | ⟨y,k,rfl,e⟩
  ·exact .inl ⟨rfl,rfl⟩
  ·exact .inr ⟨k,by simp [e]⟩
 have hb:=run_bounds (P:=P) (sl:=false) (len:=s.length) (cap:=s.length) (lo:=lo.map a.eval) (hi:=hi.map a.eval) (l:=p.den) (h:=q.den) (w:=w) hlo' hhi' o1 o2 o3 (Nat.le_refl _)
 have hs : (bytes s).size = s.length:=rfl
 refine yields_value st (v:=.string (bytes ((s.drop p.den.toNat).take (q.den.toNat - p.den.toNat)))) ?_ rfl (.ro (.str rfl))
 simp [execOp,ho,hx',Instr.sliceAt,Instr.slice,run_underlying hu,hs,hb,extract_bytes]
theorem local_index_agg (hc : CxOk P cx) {t n e sz q : Nat} {ti : TI} (hl : look t cx.tt = some ti) (hk : ti.k = .array n e) {x y : Operand} (ho : o.op = .index t x y) {cs : List SV} {k : IntKind} {s : SV}
  (hv : rd cx σ T x = some (.agg cs)) (hi : rd cx σ T y = some (.int k (.l (.ofNat q)))) (hn : size? cx e = some sz) (hq : q < n) (hle : q * sz + sz≤cs.length) (hp : pack (isAgg? cx e) ((cs.drop (q * sz)).take sz) = some s) : Local P cx.gl σ T o ⟨s,[],[],[]⟩:=by
 intro B N E a w ff hf' hg st ag agh hT
 have hr:=rd_sound hv hg st (ag_of ag (by simp [ho,Op.operands])) hT
 obtain ⟨vs,hx,hl'⟩:=hr.agg_inv
 have hy:=(rd_sound hi hg st (ag_of ag (by simp [ho,Op.operands])) hT).int_inv
 have hy : a.eval y = .int k (q : Int):=hy
 have hu:=(hc.ti hl).array hk
 obtain ⟨fi,hfi,hsz⟩:=size?_ti hn
 have hS:=(hc.ti hfi).sizeOf w
 rw [hsz] at hS
 have hsub:=(hl'.drop (q * sz)).take sz
 obtain ⟨p1,p2⟩:=pack_rel hp hsub
 rw [isAgg?_eq hfi] at p1 p2
 refine yields_value st ?_ rfl p2
 have hpart:=run_part (hc.ti hfi) hsz (w:=w) (vs:=vs) (fo:=q * sz) p1
 simp [execOp,ho,hx,hy,Instr.index,asIntOf,run_underlying hu,hq,hS,hpart]
theorem local_index_str (hc : CxOk P cx) {t : Nat} {ti : TI} (hl : look t cx.tt = some ti) (hk : ti.k = .string) {x y : Operand} (ho : o.op = .index t x y) {s : List UInt8} {k : IntKind} {i : ST}
  (hv : rd cx σ T x = some (.str s)) (hi : rd cx σ T y = some (.int k i)) (hob : allT (condsOf σ.gm T)→0≤i.den∧i.den < s.length) : Local P cx.gl σ T o ⟨.int .u8 (.a ((s.getD i.den.toNat 0).toNat : Int)),[],[],[]⟩:=by
 intro B N E a w ff hf' hg st ag agh hT
 have hx':=(rd_sound hv hg st (ag_of ag (by simp [ho,Op.operands])) hT).str_inv
 have hy:=(rd_sound hi hg st (ag_of ag (by simp [ho,Op.operands])) hT).int_inv
 obtain ⟨o1,o2⟩:=hob hT
 have hu:=(hc.ti hl).string hk
 have hlt : i.den.toNat < s.length:=by omega
 have hget : (bytes s)[i.den.toNat]? = some (s.getD i.den.toNat 0):=by
  have : i.den.toNat < (bytes s).size:=hlt
  rw [getElem?_pos (bytes s) i.den.toNat this,List.getD_eq_getElem?_getD,List.getElem?_eq_getElem hlt]
  rfl
 refine yields_value st (v:=.int .u8 ((s.getD i.den.toNat 0).toNat : Int)) ?_ rfl (.int rfl)
 simp [execOp,ho,hx',hy,Instr.index,asIntOf,run_underlying hu,o1,hget]
end
end Go.Sx
namespace Go.Sx
open Go
theorem run_storeCells_fr {P : Program} (g o : Nat) (t : TypeId) (fr : Nat×Nat) : ∀ (vs : List Value) (i : Nat) (cur : Array Value) (w : World),w.heap[g]? = some (.cells cur t fr)→(fr = (0,0)∨cur.size≤fr.1)→o + i + vs.length≤cur.size→(∀ v∈vs,v.oneCell' = true)→
  (storeCells ⟨g,o,none⟩ vs i).run P w = .ok () (w.setRow g (cur.toList.take (o + i) ++ vs ++ cur.toList.drop (o + i + vs.length)).toArray)
 | [],i,cur,w,hg,_,_,_=>by
  simp only [storeCells,List.append_nil,List.length_nil,Nat.add_zero,List.take_append_drop,Array.toArray_toList]
  rw [setRow_self w g cur t fr hg]
  rfl
 | v :: rest,i,cur,w,hg,hfr,hl,h1=>by
  have hi : o + i < cur.size:=by simp at hl; omega
  have hadd : (⟨g,o,none⟩ : Addr).add i = ⟨g,o + i,none⟩:=by unfold Addr.add; split<;>simp_all
  have hcell : w.cell? ⟨g,o + i,none⟩ = some cur[o + i]:=by simp [World.cell?,hg,hi]
  have hfro : w.frozen? ⟨g,o + i,none⟩ = false:=by
   simp only [World.frozen?,hg]
   rcases hfr with rfl | hfr
   ·simp
   ·simp; omega
  have hst : (store ((⟨g,o,none⟩ : Addr).add i) v).run P w = .ok () (w.setRow g (cur.setIfInBounds (o + i) v)):=by
   rw [hadd,run_store P w _ v _ (h1 v (by simp)),hcell]
   simp [hfro,setCell_eq_setRow w g (o + i) cur t fr v hg]
  have ih:=run_storeCells_fr (P:=P) g o t fr rest (i + 1) (cur.setIfInBounds (o + i) v) (w.setRow g (cur.setIfInBounds (o + i) v)) (setRow_heap w g cur _ t _ hg) (by simpa using hfr) (by simp at hl ⊢; omega) (fun x hx=>h1 x (by simp [hx]))
  simp only [storeCells,Sem.run_bind,hst,Result.andThen_ok,ih,setRow_setRow]
  congr 3
  have e:=list_seg_step cur.toList (o + i) v rest (by simp at hl ⊢; omega)
  simpa [Array.toList_setIfInBounds,Nat.add_assoc] using e
theorem ownsW.lt {w : World} {gr : Bool} {e : TypeId} {sz m : Nat} {v : Value} {xs : List Value} (h : ownsW w gr e sz v m xs) : ∀ b,v.ownBlock = some b→b < w.heap.size:=by
 intro b hb
 rcases h.2 with ⟨rfl,_⟩ | ⟨g,cap,cur,fr,rfl,hg,_⟩
 ·simp [Value.ownBlock] at hb
 ·simp [Value.ownBlock] at hb; subst hb
  exact (Array.getElem?_eq_some_iff.1 hg).1
theorem put_own {B : Bs} {N : Nat} {E : Env} {a : Act} {w : World} {ff : Nat→SG} {hf : Nat→Hl} (st : St B N E a w ff hf) {h : Nat} {e : TypeId} {sz : Nat} {gr : Bool} {v v' : Value} {n m : Nat} {ys : List Value} {w' : World}
  (hold : (hf h = .fresh∧v = .slice none 0 0)∨((∃ nt f gr0,hf h = .own e nt sz gr0 f)∧E.τ h = some v∧E.ζ h = some sz∧∀ b,v.ownBlock = some b→E.O b = some h∧∀ o,¬ E.I b o))
  (hsh : ∃ a c,v = .slice a n c) (hown' : ownsW w' gr e sz v' (n + m) ys) (h1 : ∀ u∈ys,u.oneCell' = true)
  (hblk : (v'.ownBlock = v.ownBlock∧w.grownBy w' v.ownBlock)∨(v'.ownBlock = some w.heap.size∧w.grownBy w' none)) (hkeep : hf h≠.fresh→m = 0→v' = v) {nt' : ST} (hnt : nt'.den = ((n + m : Nat) : Int))
  {f' : Nat→List SV} (hrow : rowIn E w f' (n + m) sz ys) :
  ∃ E',Ext E w E' w'∧Base B E' w'∧(∀ k,HOk E' w' k (upd hf h (.own e nt' sz gr f') k))∧E'.τ h = some v'∧E'.ζ h = some sz:=by
 have hb:=st.base
 have hbold : ∀ b,v.ownBlock = some b→E.O b = some h∧(∀ o,¬ E.I b o)∧b < w.heap.size:=by
  intro b hbb
  rcases hold with ⟨_,rfl⟩ | ⟨_,_,_,h3⟩
  ·simp [Value.ownBlock] at hbb
  ·exact ⟨(h3 b hbb).1,(h3 b hbb).2,owned_lt hb (h3 b hbb).1⟩
 let E' : Env:=⟨E.β,upd E.τ h (some v'),fun b=>if v'.ownBlock = some b then some h else E.O b,E.κ,upd E.ζ h (some sz),E.I⟩
 have hgos : w'.os = w.os∧w'.tape = w.tape∧w'.output = w.output∧w.heap.size≤w'.heap.size:=by
  rcases hblk with ⟨_,hg⟩ | ⟨_,hg⟩<;>exact ⟨hg.os,hg.tape,hg.output,hg.size⟩
 have hother : ∀ b,b < w.heap.size→v.ownBlock≠some b→w'.heap[b]? = w.heap[b]?:=by
  intro b hlt hne
  rcases hblk with ⟨_,hg⟩ | ⟨_,hg⟩
  ·exact hg.block b hlt (fun e=>hne e.symm)
  ·exact hg.block b hlt (by simp)
 have hI : ∀ b o,E.I b o→w'.cell? ⟨b,o,none⟩ = w.cell? ⟨b,o,none⟩:=by
  intro b o hi
  have hlt:=hb.Ibd b o hi
  have hne : v.ownBlock≠some b:=fun hbv=>(hbold b hbv).2.1 o hi
  simp only [World.cell?]
  rw [hother b hlt hne]
 have hfr : hf h = .fresh→E.τ h = none∧E.ζ h = none:=by
  intro hfr
  have:=st.heap h
  rw [hfr] at this
  exact ⟨this.2.1,this.2.2.2⟩
 have hx : Ext E w E' w':=by
  refine ⟨fun _ _ h=>h,fun k u hk=>?_,fun _ _ h=>h,fun k z hk=>?_,fun b o h=>h,hI⟩
  ·show upd E.τ h (some v') k = some u∨∃ a m' c a' m'' c',u = .slice a m' c∧upd E.τ h (some v') k = some (.slice a' m'' c')∧m' < m''
   unfold upd
   by_cases e : k = h
   ·subst e
    rw [if_pos rfl]
    rcases hold with ⟨hf0,_⟩ | ⟨⟨nt,f,gr0,hne⟩,h2,_⟩
    ·rw [(hfr hf0).1] at hk; cases hk
    ·rw [h2] at hk
     cases hk
     by_cases hm : m = 0
     ·left; rw [hkeep (by rw [hne]; simp) hm]
     ·right
      obtain ⟨a',c',rfl⟩:=hown'.shape
      obtain ⟨a,c,rfl⟩:=hsh
      exact ⟨a,n,c,a',n + m,c',rfl,rfl,by omega⟩
   ·rw [if_neg e]; exact .inl hk
  ·show upd E.ζ h (some sz) k = some z
   unfold upd
   by_cases e : k = h
   ·subst e
    rw [if_pos rfl]
    rcases hold with ⟨hf0,_⟩ | ⟨_,_,h2,_⟩
    ·rw [(hfr hf0).2] at hk; cases hk
    ·rw [h2] at hk; exact hk
   ·rw [if_neg e]; exact hk
 have hownlt : ∀ b,v'.ownBlock = some b→b < w'.heap.size:=hown'.lt
 have hnew : ∀ b,v'.ownBlock = some b→B.w0.heap.size≤b∨B.X b:=by
  intro b hbb
  rcases hblk with ⟨hs,_⟩ | ⟨hs,_⟩
  ·exact (hb.Obd b h (hbold b (by rw [←hs]; exact hbb)).1).2
  ·rw [hs] at hbb; cases hbb; exact .inl hb.size
 refine ⟨E',hx,⟨hgos.1.trans hb.os,hgos.2.1.trans hb.tape,hgos.2.2.1.trans hb.output,Nat.le_trans hb.size hgos.2.2.2,fun b hlt hX=>?_,fun b o hi=>?_,fun b o hi=>?_,hb.Inew,fun b k hO=>?_,hb.β0.ext hx⟩,fun k=>?_,by simp [E',upd],by simp [E',upd]⟩
 ·have hsz:=hb.size
  rw [hother b (by omega) ?_]
  ·exact hb.old b hlt hX
  ·intro hbv
   rcases (hb.Obd b h (hbold b hbv).1).2 with h | h
   ·omega
   ·exact hX h
 ·obtain ⟨i1,i2⟩:=hb.I0 b o hi
  exact ⟨i1,by rw [hI b o i1]; exact i2⟩
 ·exact Nat.lt_of_lt_of_le (hb.Ibd b o hi) hgos.2.2.2
 ·have hO : (if v'.ownBlock = some b then some h else E.O b) = some k:=hO
  split at hO
  ·rename_i hbb
   exact ⟨hownlt b hbb,hnew b hbb⟩
  ·obtain ⟨o1,o2⟩:=hb.Obd b k hO
   exact ⟨Nat.lt_of_lt_of_le o1 hgos.2.2.2,o2⟩
 ·by_cases e : k = h
  ·subst e
   simp only [upd,if_pos]
   refine ⟨v',n + m,ys,by simp [E',upd],by simp [E',upd],hown',hnt,h1,⟨hrow.1,fun i j s u a b c=>(hrow.2 i j s u a b c).mono hx.I hx.cell⟩,fun b hbb=>⟨by show (if v'.ownBlock = some b then some k else E.O b) = some k; rw [if_pos hbb],fun o hi=>?_⟩⟩
   rcases hblk with ⟨hs,_⟩ | ⟨hs,_⟩
   ·exact (hbold b (by rw [←hs]; exact hbb)).2.1 o hi
   ·rw [hs] at hbb; cases hbb
    have:=hb.Ibd _ _ hi
    omega
  ·simp only [upd,if_neg e]
   refine HOk.keep hx (st.heap k) rfl (by simp [E',upd,e]) rfl (by simp [E',upd,e]) fun b hO=>?_
   have hlt:=owned_lt hb hO
   have hne : v'.ownBlock≠some b:=by
    intro hbb
    rcases hblk with ⟨hs,_⟩ | ⟨hs,_⟩
    ·have:=(hbold b (by rw [←hs]; exact hbb)).1
     rw [hO] at this
     exact e (Option.some.inj this)
    ·rw [hs] at hbb; cases hbb; omega
   have hnv : v.ownBlock≠some b:=by
    intro hbb
    have:=(hbold b hbb).1
    rw [hO] at this
    exact e (Option.some.inj this)
   exact ⟨by show (if v'.ownBlock = some b then some h else E.O b) = some k; rw [if_neg hne]; exact hO,hother b hlt hnv,fun o hi=>hi⟩
section
variable {P : Program} {cx : Cx} {σ : Sy} {T : List Nat} {o : Oper} {K : Out→Prop}
theorem osl_val {E : Env} {w : World} {h : Nat} {n n0 : ST} {nl : BT} {u v : Value} {gr : Bool} {e : TypeId} {sz m : Nat} {xs : List Value} (hr : Rel E w (.osl nl n h) u) (hτ : E.τ h = some v) (hown : ownsW w gr e sz v m xs) (hn0 : n0.den = (m : Int)) (he : n.den = n0.den) :
  u = v∧(nl.den = true↔v = .slice none 0 0):=by
 obtain ⟨⟨a,k,c,e1,e2,e3⟩,a0,m0,c0,t1,t2,t3⟩:=hr.osl_inv
 rw [hτ] at t1
 cases t1
 obtain ⟨a1,c1,e4⟩:=hown.shape
 cases e4
 have : u = .slice a0 _ c0:=t3 (by rw [he,hn0])
 refine ⟨this,?_⟩
 rw [this] at e1
 simp only [Value.slice.injEq] at e1
 obtain ⟨rfl,_,_⟩:=e1
 rw [e3]
 constructor
 ·rintro rfl
  rcases hown.2 with ⟨h1,_⟩ | ⟨g,cap,cur,fr,h1,_⟩
  ·exact h1
  ·simp at h1
 ·intro h1
  simp only [Value.slice.injEq] at h1
  exact h1.1
theorem local_len_osl (hc : CxOk P cx) {c : Call} (ho : o.op = .call c) (hcal : c.callee = .builtin .len) {x : Operand} {t : Nat} {ti : TI} (hx : c.args.toList = [x]) (ht : c.argTypes.toList = [t]) (hl : look t cx.tt = some ti) {e : TypeId} (hk : ti.k = .slice e)
  {nl : BT} {n : ST} {h : Nat} (hv : rd cx σ T x = some (.osl nl n h)) : Local P cx.gl σ T o ⟨.int .i64 n,[],[],[]⟩:=by
 intro B N E a w ff hf' hg st ag agh hT
 have hmem : x∈o.op.operands.toList:=by simp [ho,Op.operands,Call.operands,hcal,hx]
 obtain ⟨⟨a0,m,c0,e3,e4,_⟩,_⟩:=(rd_sound hv hg st (ag_of ag hmem) hT).osl_inv
 have e1 : c.args = #[x]:=Array.ext' (by simpa using hx)
 have e2 : c.argTypes = #[t]:=Array.ext' (by simpa using ht)
 have hrun:=run_len_any hc hl hk (w:=w) (a:=a0) (m:=m) (c:=c0) (ty:=o.type)
 refine yields_value st (v:=.int .i64 m) ?_ rfl (.int e4)
 simp [execOp,ho,resolve,hcal,e1,e2,invoke,builtin,e3,hrun]
theorem local_index_osl (hc : CxOk P cx) {t e sz : Nat} {ti : TI} (hl : look t cx.tt = some ti) (hk : ti.k = .slice e) (hn : size? cx e = some sz) {x y : Operand} (ho : o.op = .indexAddr t x y) {h ty : Nat} {nl : BT} {n n0 : ST} {gr : Bool} {f : Nat→List SV} {k : IntKind} {i : ST}
  (hv : rd cx σ T x = some (.osl nl n h)) (hh : nth σ.hp h = some (.own ty n0 sz gr f)) (hi : rd cx σ T y = some (.int k i)) (h0 : allT (condsOf σ.gm T)→n.den = n0.den) (h1 : allT (condsOf σ.gm T)→0≤i.den∧i.den < n0.den) : Local P cx.gl σ T o ⟨.optr n h i.den.toNat 0,[],[h],[]⟩:=by
 intro B N E a w ff hf' hg st ag agh hT
 have hrx:=rd_sound hv hg st (ag_of ag (by simp [ho,Op.operands])) hT
 have hy:=(rd_sound hi hg st (ag_of ag (by simp [ho,Op.operands])) hT).int_inv
 obtain ⟨b1,b2⟩:=h1 hT
 have hkk:=st.heap h
 rw [row_same agh (List.mem_singleton.2 rfl) hh] at hkk
 obtain ⟨v,m,xs,k1,kz,k2,k3,k4,k5,k6⟩:=hkk
 obtain ⟨hv',_⟩:=osl_val hrx k1 k2 k3 (h0 hT)
 rcases k2.2 with ⟨_,e0⟩ | ⟨b,cap,cur,fr,rfl,hg2,_⟩
 ·omega
 have hrun:=run_indexAt_sl hc hl hk hn (w:=w) (a:=⟨b,0,none⟩) (m:=m) (cap:=cap) (k:=k) b1 (show i.den < (m : Int) by omega)
 refine yields_value st (v:=.pointer (some ⟨b,i.den.toNat * sz + 0,none⟩)) ?_ rfl (.optr ⟨_,_,rfl⟩ ⟨_,m,cap,sz,k1,kz,by rw [h0 hT,k3]; exact Int.le_refl _,fun _=>⟨b,rfl,rfl⟩⟩)
 simp [execOp,ho,hv',hy,hrun,add_lit]
theorem local_fieldAddr_optr (hc : CxOk P cx) {t i fo ft m h j off : Nat} {n : ST} {x : Operand} (ho : o.op = .fieldAddr t x i) (hv : rd cx σ T x = some (.optr n h j off)) (hf : field? cx t i = some (fo,ft)) (hn : size? cx ft = some (m + 1)) :
  Local P cx.gl σ T o ⟨.optr n h j (off + fo),[],[],[]⟩:=by
 intro B N E a w ff hf' hg st ag agh hT
 have hr:=rd_sound hv hg st (ag_of ag (by simp [ho,Op.operands])) hT
 obtain ⟨⟨b,o',hx⟩,a0,m0,c0,sz,t1,t2,t3,t4⟩:=hr.optr_inv
 refine yields_value st (v:=.pointer (some ⟨b,o' + fo,none⟩)) ?_ rfl (.optr ⟨_,_,rfl⟩ ⟨a0,m0,c0,sz,t1,t2,t3,fun e=>?_⟩)
 ·simp [execOp,ho,hx,run_fieldAt hc hf hn,add_lit]
 ·obtain ⟨b',e1,e2⟩:=t4 e
  rw [hx] at e2
  simp only [Value.pointer.injEq,Option.some.injEq,Addr.mk.injEq,and_true] at e2
  obtain ⟨rfl,rfl⟩:=e2
  exact ⟨b,e1,by rw [Nat.add_assoc]⟩
theorem optr_val {E : Env} {w : World} {h j off : Nat} {n n0 : ST} {u v : Value} {gr : Bool} {e : TypeId} {sz m : Nat} {xs : List Value} (hr : Rel E w (.optr n h j off) u) (hτ : E.τ h = some v) (hz : E.ζ h = some sz) (hown : ownsW w gr e sz v m xs) (hn0 : n0.den = (m : Int)) (he : n.den = n0.den) :
  ∃ b cap cur fr,v = .slice (some ⟨b,0,none⟩) m cap∧u = .pointer (some ⟨b,j * sz + off,none⟩)∧w.heap[b]? = some (.cells cur e fr)∧(fr = (0,0)∨gr = false∧fr = (cur.size,cur.size + 1))∧m≤cap∧cap≤maxLen∧cur.size = cap * sz∧cur.toList.take (m * sz) = xs:=by
 obtain ⟨_,a0,m0,c0,sz',t1,t2,t3,t4⟩:=hr.optr_inv
 rw [hτ] at t1
 cases t1
 rw [hz] at t2
 cases t2
 obtain ⟨a1,c1,e4⟩:=hown.shape
 cases e4
 obtain ⟨b,rfl,e5⟩:=t4 (by rw [he,hn0])
 rcases hown.2 with ⟨h1,_⟩ | ⟨g,cap,cur,fr,h1,h2⟩
 ·simp at h1
 ·cases h1
  exact ⟨b,_,cur,fr,rfl,e5,h2⟩
theorem local_load_optr (hc : CxOk P cx) {t : Nat} {x : Operand} (ho : o.op = .load t x) {h j off n ty sz : Nat} {m m0 : ST} {gr : Bool} {f : Nat→List SV} {s : SV} (hv : rd cx σ T x = some (.optr m0 h j off)) (hn : size? cx t = some n)
  (hh : nth σ.hp h = some (.own ty m sz gr f)) (h0 : allT (condsOf σ.gm T)→m0.den = m.den) (hob : allT (condsOf σ.gm T)→(j : Int) < m.den) (hle : off + n≤(f j).length) (hp : pack (isAgg? cx t) (((f j).drop off).take n) = some s) : Local P cx.gl σ T o ⟨s,[],[h],[]⟩:=by
 intro B N E a w ff hf hg st ag agh hT
 have hr:=rd_sound hv hg st (ag_of ag (by simp [ho,Op.operands])) hT
 have hkk:=st.heap h
 rw [row_same agh (List.mem_singleton.2 rfl) hh] at hkk
 obtain ⟨v,m',xs,k1,kz,k2,k3,k4,k5,k6⟩:=hkk
 obtain ⟨b,cap,cur,fr,e1,hx,hg2,hfr,hmc,hcm,hcs,htake⟩:=optr_val hr k1 kz k2 k3 (h0 hT)
 obtain ⟨ti,hti,hsz⟩:=size?_ti hn
 have hj : j < m':=by have:=hob hT; omega
 have hfl:=k5.1 j hj
 have hbound : (j + 1) * sz≤m' * sz:=Nat.mul_le_mul_right _ hj
 have hbound2 : m' * sz≤cap * sz:=Nat.mul_le_mul_right _ hmc
 rw [Nat.add_mul] at hbound
 have hxl:=k2.1
 have hsub : RelL E w (((f j).drop off).take n) ((xs.drop (j * sz + off)).take n):=by
  refine ⟨by simp; omega,fun i s v p q=>?_⟩
  rw [List.getElem?_take] at p q
  split at p
  ·rename_i e
   rw [if_pos e] at q
   rw [List.getElem?_drop] at p q
   refine .ro (k5.2 j (off + i) s v hj p ?_)
   rw [←Nat.add_assoc]; exact q
  ·cases p
 obtain ⟨p1,p2⟩:=pack_rel hp hsub
 have hlen : ((xs.drop (j * sz + off)).take n).length = n:=by simp; omega
 have hrun:=run_loadAt (hc.ti hti) (w:=w) (b:=b) (off:=j * sz + off) (vs:=(xs.drop (j * sz + off)).take n) (fun q v hq=>by
  rw [List.getElem?_take] at hq
  split at hq
  ·rw [List.getElem?_drop] at hq
   rw [cell_of_row w b (j * sz + off + q) cur ty fr hg2]
   rw [←htake,List.getElem?_take,if_pos (by omega)] at hq
   simpa using hq
  ·cases hq) (by rw [hlen,hsz]) (isAgg?_eq hti) p1
 exact yields_value st (by simp [execOp,ho,hx,hrun]) rfl p2
theorem local_store_optr (hc : CxOk P cx) {t : Nat} {x y : Operand} (ho : o.op = .store t x y) {h j off n ty sz : Nat} {m m0 : ST} {gr : Bool} {f f' : Nat→List SV} {s : SV} (hv : rd cx σ T x = some (.optr m0 h j off)) (hs : rdT cx σ T t y = some s) (hn : size? cx t = some n)
  (hh : nth σ.hp h = some (.own ty m sz gr f)) (h0 : m0.den = m.den) (hj : (j : Int) < m.den) (hl : s.cells.length = n) (hle : off + n≤(f j).length) (h1 : onesB s.cells = true) (hpl : plainV (.agg (loose.looseL (norm.normL dn s.cells))) = true) (hT0 : allT (condsOf σ.gm T))
  (hfj : f' j = putN (f j) off (loose.looseL (norm.normL dn s.cells))) (hfo : ∀ i,i≠j→f' i = f i) : Local P cx.gl σ T o ⟨.tup [],[.put h (.own ty m sz gr f')],[h],[]⟩:=by
 intro B N E a w ff hf hg st ag agh hT K' Q hK
 have hr:=rd_sound hv hg st (ag_of ag (by simp [ho,Op.operands])) hT
 have hr2:=rdT_sound hs hg st (ag_of ag (by simp [ho,Op.operands])) hT
 have hsame:=row_same agh (List.mem_singleton.2 rfl) hh
 have hkk:=st.heap h
 rw [hsame] at hkk
 obtain ⟨v,m',xs,k1,kz,k2,k3,k4,k5,k6⟩:=hkk
 obtain ⟨b,cap,cur,fr,e1,hx,hg2,hfr,hmc,hcm,hcs,htake⟩:=optr_val hr k1 kz k2 k3 h0
 obtain ⟨ti,hti,hsz⟩:=size?_ti hn
 have hjm : j < m':=by omega
 have hfl:=k5.1 j hjm
 have hbound : (j + 1) * sz≤m' * sz:=Nat.mul_le_mul_right _ hjm
 have hbound2 : m' * sz≤cap * sz:=Nat.mul_le_mul_right _ hmc
 rw [Nat.add_mul] at hbound
 have hcs':=cells_of h1 hr2
 have hone:=ones_of h1 hcs'
 have hul : (a.eval y).cells.toList.length = n:=by rw [←hcs'.1]; exact hl
 have hplain : RelL E w (loose.looseL (norm.normL dn s.cells)) (a.eval y).cells.toList:=by
  rw [looseL_eq,normL_eq]
  exact (hcs'.map _ fun s v _ h=>h.norm).map _ fun s v _ h=>h.loose
 have hpc : ∀ c∈loose.looseL (norm.normL dn s.cells),plainV c = true:=by
  simp only [plainV] at hpl
  exact (plainL_iff _).1 hpl
 have hpl' : (loose.looseL (norm.normL dn s.cells)).length = n:=by rw [hplain.1]; exact hul
 generalize hU : (a.eval y).cells.toList = us at *
 generalize hP : loose.looseL (norm.normL dn s.cells) = ps at *
 let C' : Array Value:=(cur.toList.take (j * sz + off) ++ us ++ cur.toList.drop (j * sz + off + us.length)).toArray
 have hle' : j * sz + off + us.length≤cur.size:=by rw [hul]; omega
 have hC's : C'.size = cur.size:=by simp [C']; omega
 have hCget : ∀ q : Nat,C'[q]? = if j * sz + off≤q∧q < j * sz + off + us.length then us[q - (j * sz + off)]? else cur[q]?:=by
  intro q
  have : C'[q]? = (cur.toList.take (j * sz + off) ++ us ++ cur.toList.drop (j * sz + off + us.length))[q]?:=by simp [C']
  rw [this]
  split
  ·rename_i e
   rw [List.append_assoc,List.getElem?_append_right (by simp; omega),List.getElem?_append_left (by simp; omega)]
   congr 1; simp; omega
  ·rename_i e
   by_cases hi : q < j * sz + off
   ·rw [List.append_assoc,List.getElem?_append_left (by simp; omega),List.getElem?_take,if_pos hi]; simp
   ·rw [List.getElem?_append_right (by simp; omega),List.getElem?_drop,←Array.getElem?_toList]
    congr 1; simp; omega
 let ys : List Value:=C'.toList.take (m' * sz)
 have hysl : ys.length = m' * sz:=by simp [ys,hC's]; omega
 have hyget : ∀ q,q < m' * sz→ys[q]? = if j * sz + off≤q∧q < j * sz + off + us.length then us[q - (j * sz + off)]? else xs[q]?:=by
  intro q hq
  simp only [ys]
  rw [List.getElem?_take,if_pos hq,Array.getElem?_toList,hCget]
  split
  ·rfl
  ·rw [←htake,List.getElem?_take,if_pos hq]; simp
 have hrow : rowIn E w f' m' sz ys:=by
  refine ⟨fun i hi=>?_,fun i q s2 v hi hs2 hv2=>?_⟩
  ·by_cases e : i = j
   ·subst e; rw [hfj,len_putN]; exact hfl
   ·rw [hfo i e]; exact k5.1 i hi
  ·have hql : q < sz:=by
    have hlen : (f' i).length = sz:=by
     by_cases e : i = j
     ·subst e; rw [hfj,len_putN]; exact hfl
     ·rw [hfo i e]; exact k5.1 i hi
    rw [←hlen]; exact (List.getElem?_eq_some_iff.1 hs2).1
   have hbq : i * sz + q < m' * sz:=by
    have : (i + 1) * sz≤m' * sz:=Nat.mul_le_mul_right _ hi
    rw [Nat.add_mul] at this
    omega
   rw [hyget _ hbq] at hv2
   by_cases e : i = j
   ·subst e
    rw [hfj,get_putN _ _ _ _ (by rw [hpl']; exact hle)] at hs2
    by_cases hin : off≤q∧q < off + n
    ·rw [if_pos (by rw [hpl']; exact hin)] at hs2
     rw [if_pos (by rw [hul]; omega)] at hv2
     have e2 : i * sz + q - (i * sz + off) = q - off:=by omega
     rw [e2] at hv2
     exact (hplain.2 _ s2 v hs2 hv2).plainOne (hpc s2 (List.mem_of_getElem? hs2)) (hone v (List.mem_of_getElem? hv2))
    ·rw [if_neg (by rw [hpl']; exact hin)] at hs2
     rw [if_neg (by rw [hul]; omega)] at hv2
     exact k5.2 i q s2 v hi hs2 hv2
   ·rw [hfo i e] at hs2
    have hne : ¬ (j * sz + off≤i * sz + q∧i * sz + q < j * sz + off + us.length):=by
     rw [hul]
     rcases Nat.lt_or_ge i j with hlt | hge
     ·have : (i + 1) * sz≤j * sz:=Nat.mul_le_mul_right _ hlt
      rw [Nat.add_mul] at this
      omega
     ·have : (j + 1) * sz≤i * sz:=Nat.mul_le_mul_right _ (by omega)
      rw [Nat.add_mul] at this
      omega
    rw [if_neg hne] at hv2
    exact k5.2 i q s2 v hi hs2 hv2
 have hyone : ∀ u∈ys,u.oneCell' = true:=by
  intro u hu
  obtain ⟨q,hq⟩:=List.mem_iff_getElem?.1 hu
  have hqlt : q < m' * sz:=by rw [←hysl]; exact (List.getElem?_eq_some_iff.1 hq).1
  rw [hyget q hqlt] at hq
  split at hq
  ·exact hone u (List.mem_of_getElem? hq)
  ·exact k4 u (List.mem_of_getElem? hq)
 have hfr' : fr = (0,0)∨cur.size≤fr.1:=by
  rcases hfr with h | ⟨_,h⟩
  ·exact .inl h
  ·rw [h]; exact .inr (Nat.le_refl _)
 have hrun : (Instr.storeAt t (.pointer (some ⟨b,j * sz + off,none⟩)) (a.eval y)).run P w = .ok () (w.setRow b C'):=by
  have hS:=(hc.ti hti).sizeOf w
  have hsc:=run_storeCells_fr (P:=P) b (j * sz + off) ty fr us 0 cur w hg2 hfr' (by simpa using hle') hone
  have hne : ((a.eval y).cells.size≠ti.size) = False:=by
   have : (a.eval y).cells.size = ti.size:=by rw [hsz]; rw [←hU] at hul; simpa using hul
   simp [this]
  simp only [Nat.add_zero] at hsc
  simp only [Instr.storeAt,Instr.sureAddr,storeVar,Sem.run_bind,Sem.run_pure,Result.andThen_ok,hS,hne,if_false,hU,hsc]
  rfl
 have hown' : ownsW (w.setRow b C') gr ty sz v (m' + 0) ys:=by
  refine ⟨hysl,.inr ⟨b,cap,C',fr,e1,setRow_heap w b cur C' ty fr hg2,?_,hmc,hcm,by rw [hC's]; exact hcs,rfl⟩⟩
  rw [hC's]; exact hfr
 obtain ⟨E',x1,x2,x3,x4,x5⟩:=put_own (h:=h) (e:=ty) (sz:=sz) (n:=m') (m:=0) st (.inr ⟨⟨_,_,_,hsame⟩,k1,kz,k6⟩) k2.shape hown' hyone
  (.inl ⟨rfl,⟨rfl,rfl,rfl,by simp,fun k _ hk=>setRow_other w b k C' (fun e=>hk (by rw [e,e1]; rfl))⟩⟩) (fun _ _=>rfl) (nt':=m) (by simpa using k3) (by simpa using hrow)
 unfold Oper.wp
 have : (execOp a.eval o).run P w = .ok .skip (w.setRow b C'):=by
  simp only [execOp,ho,hx,Sem.run_bind,hrun,Result.andThen_ok,Sem.run_pure]
 rw [this]
 exact hK undef _ E' x1 x2 x3 (.tup rfl (by simp))
theorem local_strOwn (hc : CxOk P cx) {src dst e : TypeId} {x : Operand} (ho : o.op = .convert src dst x) {ts td te : TI} (hls : look src cx.tt = some ts) (hks : ts.k = .string) (hld : look dst cx.tt = some td) (hkd : td.k = .slice e) (hle : look e cx.tt = some te) (hke : te.k = .int .u8)
  {s : List UInt8} (hv : rd cx σ T x = some (.str s)) (hlen : s.length≤maxLen) : Local P cx.gl σ T o ⟨.osl (.l false) (.len s) (lenN σ.hp),[.put (lenN σ.hp) (.own e (.len s) 1 false (byteRow s))],[],[]⟩:=by
 intro B N E a w ff hf hg st ag agh hT K' Q hK
 have hx:=(rd_sound hv hg st (ag_of ag (by simp [ho,Op.operands])) hT).str_inv
 have hb:=st.base
 have hrun:=run_bytes_of_string (P:=P) w src dst e (bytes s) ((hc.ti hls).string hks) ((hc.ti hld).slice hkd) ((hc.ti hle).int hke)
 obtain ⟨C,hC⟩ : ∃ C,C = bytesRow (bytes s) (grownCap w (bytes s).size 0 e):=⟨_,rfl⟩
 rw [←hC] at hrun
 obtain ⟨w',hw'⟩ : ∃ w',w' = w.drew.alloc (.cells C e (C.size,C.size + 1)):=⟨_,rfl⟩
 rw [←hw'] at hrun
 have hold : ∀ b,b < w.heap.size→w'.heap[b]? = w.heap[b]?:=fun b hlt=>by rw [hw']; exact RowKit.Below.heap_alloc w.drew _ b hlt
 have hnew : w'.heap[w.heap.size]? = some (.cells C e (C.size,C.size + 1)):=by rw [hw']; show (w.heap.push _)[w.heap.size]? = _; simp
 have hsz : w'.heap.size = w.heap.size + 1:=by rw [hw']; show (w.heap.push _).size = _; simp
 have hbs : (bytes s).size = s.length:=by simp [bytes,ByteArray.size]
 have hge:=grownCap_ge w (bytes s).size 0 e
 have hCs : C.size = grownCap w (bytes s).size 0 e:=by
  have key : ∀ (b : ByteArray) (c : Nat),b.size≤c→(bytesRow b c).size = c:=by
   intro b c hbc
   have : b.data.size = b.size:=rfl
   simp only [bytesRow,Array.size_append,Array.size_map,Array.size_replicate]
   omega
  rw [hC]; exact key _ _ hge
 have hCi : ∀ i,i < s.length→C[i]? = some (.int .u8 ((s.getD i 0).toNat : Int)):=by
  intro i hi
  rw [hC]
  simp [bytesRow,bytes,Array.getElem?_append,hi]
 have hfresh:=fresh_of agh (List.mem_singleton.2 rfl)
 have hxsl : (C.toList.take s.length).length = s.length:=by simp; omega
 have hown' : ownsW w' false e 1 (.slice (some ⟨w.heap.size,0,none⟩) s.length C.size) (0 + s.length) (C.toList.take s.length):=by
  refine ⟨by rw [hxsl]; omega,.inr ⟨w.heap.size,C.size,C,_,by rw [Nat.zero_add],hnew,.inr ⟨rfl,rfl⟩,by omega,?_,by omega,by rw [Nat.zero_add,Nat.mul_one]⟩⟩
  rw [hCs]; exact grownCap_le_maxLen _ _ _ _ (by rw [hbs]; exact hlen)
 have hget : ∀ (i : Nat) (u : Value),(C.toList.take s.length)[i]? = some u→u = .int .u8 ((s.getD i 0).toNat : Int):=by
  intro i u hu
  rw [List.getElem?_take] at hu
  split at hu
  ·rename_i hi
   rw [Array.getElem?_toList,hCi i hi] at hu
   exact (Option.some.inj hu).symm
  ·cases hu
 have hin : rowIn E w (byteRow s) (0 + s.length) 1 (C.toList.take s.length):=by
  refine ⟨fun i _=>rfl,fun i j s' u hi hs hu=>?_⟩
  cases j with
  | zero =>
   simp [byteRow] at hs; subst hs
   rw [hget _ u (by simpa using hu)]
   refine .int ?_
   simp [ST.den]
  | succ j=>simp [byteRow] at hs
 obtain ⟨E',x1,x2,x3,x4,x5⟩:=put_own (h:=lenN σ.hp) (e:=e) (sz:=1) (n:=0) (m:=s.length) st (.inl ⟨hfresh,rfl⟩) ⟨_,_,rfl⟩ hown' (fun u hu=>by
  obtain ⟨i,hi⟩:=List.mem_iff_getElem?.1 hu
  rw [hget i u hi]; rfl) (.inr ⟨rfl,⟨by rw [hw']; rfl,by rw [hw']; rfl,by rw [hw']; rfl,by omega,fun k hk _=>hold k hk⟩⟩) (fun h=>absurd hfresh h) (nt':=.len s) (by simp [ST.den]) hin
 unfold Oper.wp
 have hex : (execOp a.eval o).run P w = .ok (.value (.slice (some ⟨w.heap.size,0,none⟩) s.length C.size)) w':=by
  simp only [execOp,ho,hx,Sem.run_bind]
  rw [hrun,hbs,hCs,hbs]
  rfl
 rw [hex]
 exact hK _ w' E' x1 x2 x3 (.osl ⟨_,s.length,_,rfl,rfl,by simp [BT.den]⟩ ⟨_,s.length,_,x4,Int.le_refl _,fun _=>rfl⟩)
theorem local_convOwn (hc : CxOk P cx) {src e : TypeId} {x : Operand} (ho : o.op = .convert src src x) {td te : TI} (hld : look src cx.tt = some td) (hkd : td.k = .slice e) (hle : look e cx.tt = some te) (hke : te.k = .int .u8)
  {n n0 : ST} {h : Nat} {f : Nat→List SV} (hv : rd cx σ T x = some (.osl (.l false) n h)) (hh : nth σ.hp h = some (.own e n0 1 true f)) (h0 : n.den = n0.den) : Local P cx.gl σ T o ⟨.osl (.l false) n h,[.put h (.own e n0 1 false f)],[h],[]⟩:=by
 intro B N E a w ff hf hg st ag agh hT K' Q hK
 have hrx:=rd_sound hv hg st (ag_of ag (by simp [ho,Op.operands])) hT
 have hkk:=st.heap h
 have hsame:=row_same agh (List.mem_singleton.2 rfl) hh
 rw [hsame] at hkk
 obtain ⟨v,m,xs,k1,kz,k2,k3,k4,k5,k6⟩:=hkk
 obtain ⟨hev,hnl⟩:=osl_val hrx k1 k2 k3 h0
 have hud:=(hc.ti hld).slice hkd
 have hue:=(hc.ti hle).int hke
 rcases k2.2 with ⟨e0,e1⟩ | ⟨b,cap,cur,fr,e0,hg2,hfr,hmc,hcm,hcs,htake⟩
 ·exact absurd (hnl.2 e0) (by simp [BT.den])
 have hfr0 : fr = (0,0):=by
  rcases hfr with hfr | ⟨hfr,_⟩
  ·exact hfr
  ·cases hfr
 subst hfr0
 have hb:=st.base
 have hlt : b < w.heap.size:=(Array.getElem?_eq_some_iff.1 hg2).1
 have hwb : (w.freeze ⟨b,cur.size,none⟩ 1).heap[b]? = some (.cells cur e (cur.size,cur.size + 1)):=by
  unfold World.freeze
  rw [if_neg (by decide)]
  show (w.heap.modify b _)[b]? = _
  rw [Array.getElem?_modify,if_pos rfl,hg2]
  rfl
 have hwo : ∀ k,k≠b→(w.freeze ⟨b,cur.size,none⟩ 1).heap[k]? = w.heap[k]?:=fun k hk=>by
  unfold World.freeze
  rw [if_neg (by decide)]
  show (w.heap.modify b _)[k]? = _
  rw [Array.getElem?_modify,if_neg (fun e=>hk e.symm)]
 have hown' : ownsW (w.freeze ⟨b,cur.size,none⟩ 1) false e 1 v (m + 0) xs:=by
  refine ⟨k2.1,.inr ⟨b,cap,cur,(cur.size,cur.size + 1),e0,hwb,.inr ⟨rfl,rfl⟩,hmc,hcm,hcs,htake⟩⟩
 obtain ⟨E',x1,x2,x3,x4,x5⟩:=put_own (h:=h) (e:=e) (sz:=1) (n:=m) (m:=0) st (.inr ⟨⟨_,_,_,hsame⟩,k1,kz,k6⟩) k2.shape hown' k4
  (.inl ⟨rfl,⟨rfl,rfl,rfl,by unfold World.freeze; rw [if_neg (by decide)]; simp,fun k _ hk=>hwo k (fun e=>hk (by rw [e,e0]; rfl))⟩⟩) (fun _ _=>rfl) (nt':=n0) (by simpa using k3) (by simpa using k5)
 unfold Oper.wp
 have hsh : w.shape? b = some (e,cur.size):=by
  unfold World.shape?
  rw [hg2]
 have hrun : (execOp a.eval o).run P w = .ok (.value v) (w.freeze ⟨b,cur.size,none⟩ 1):=by
  simp only [execOp,ho,Sem.run_bind]
  rw [hev,e0]
  simp [convert,run_underlying hud,run_underlying hue,markStringish,hsh]
 rw [hrun]
 obtain ⟨a1,c1,e4⟩:=k2.shape
 refine hK _ _ E' x1 x2 x3 (.osl ⟨a1,m,c1,e4,by rw [h0,k3],?_⟩ ⟨a1,m,c1,by rw [x4,e4],by rw [h0,k3]; exact Int.le_refl _,fun _=>e4⟩)
 rw [e0] at e4
 cases e4
 simp [BT.den]
theorem local_ownStr (hc : CxOk P cx) {src dst e : TypeId} {x : Operand} (ho : o.op = .convert src dst x) {ts td te : TI} (hls : look src cx.tt = some ts) (hks : ts.k = .slice e) (hld : look dst cx.tt = some td) (hkd : td.k = .string) (hle : look e cx.tt = some te) (hke : te.k = .int .u8)
  {nl : BT} {n n0 : ST} {h : Nat} {ty : TypeId} {gr : Bool} {f : Nat→List SV} (hv : rd cx σ T x = some (.osl nl n h)) (hh : nth σ.hp h = some (.own ty n0 1 gr f)) (h0 : n.den = n0.den) {r : List UInt8} (hr : ByteRow n0.den f∧StrRow r n0.den f) : Local P cx.gl σ T o ⟨.str r,[],[h],[]⟩:=by
 intro B N E a w ff hf hg st ag agh hT
 obtain ⟨hb,hr⟩:=hr
 have hrx:=rd_sound hv hg st (ag_of ag (by simp [ho,Op.operands])) hT
 have hkk:=st.heap h
 rw [row_same agh (List.mem_singleton.2 rfl) hh] at hkk
 obtain ⟨v,m,xs,k1,kz,k2,k3,k4,k5,k6⟩:=hkk
 obtain ⟨hev,_⟩:=osl_val hrx k1 k2 k3 h0
 refine yields_value st (v:=.string (bytes r)) ?_ rfl (.ro (.str rfl))
 simp only [execOp,ho,Sem.run_bind]
 have hus:=(hc.ti hls).slice hks
 have hud:=(hc.ti hld).string hkd
 have hue:=(hc.ti hle).int hke
 rw [hev]
 have hrl : r.length = m:=by have:=hr.len; omega
 rcases k2.2 with ⟨e0,e1⟩ | ⟨b,cap,cur,fr,e0,hg2,hfr,hmc,hcm,hcs,htake⟩
 ·have : r = []:=List.eq_nil_of_length_eq_zero (by omega)
  subst this
  rw [e0]
  simp [convert,run_underlying hus,run_underlying hud,run_underlying hue,Conv.bytesToString,bytes]
  rfl
 ·have:=run_convert_bytes_back (P:=P) w src dst e ⟨b,0,none⟩ cap r hus hue hud (fun j hj=>by
   have hjm : j < m:=by omega
   obtain ⟨t,ht,_⟩:=hb.h j (by omega)
   have e1:=hr.row j t (by omega) ht
   have hxlt : j < xs.length:=by rw [k2.1]; omega
   obtain ⟨xj,hxj⟩ : ∃ xj,xs[j]? = some xj:=⟨_,List.getElem?_eq_getElem hxlt⟩
   have hr1:=k5.2 j 0 (.int .u8 t) xj hjm (by rw [ht]; rfl) (by simpa using hxj)
   have hg1 : xj = .int .u8 t.den:=(Rel.ro (E:=E) hr1).int_inv
   rw [List.getD_eq_getElem?_getD,List.getElem?_eq_getElem hj] at e1
   simp only [Option.getD_some] at e1
   rw [add_lit,Nat.zero_add,cell_of_row w b j cur ty fr hg2]
   rw [←htake,List.getElem?_take,if_pos (by omega),Array.getElem?_toList] at hxj
   rw [e1,hxj,hg1])
  rw [hrl] at this
  rw [e0,this]
  rfl
end
end Go.Sx
namespace Go.Sx
open Go
theorem put_vec {B : Bs} {N : Nat} {E : Env} {a : Act} {w : World} {ff : Nat→SG} {hf : Nat→Hl} (st : St B N E a w ff hf) {h : Nat} {e : TypeId} {sz : Nat} {a0 a1 : Option Addr} {m G c0 c1 M : Nat} {ys : List Value} {w' : World} {n0 g0 : ST} {f0 : Nat→List SV}
  (hold : hf h = .vec e n0 g0 sz f0) (hτ : E.τ h = some (.slice a0 G c0)) (hbo : ∀ b,(Value.slice a0 m c0).ownBlock = some b→E.O b = some h∧∀ o,¬ E.I b o)
  (hown' : ownsW w' true e sz (.slice a1 M c1) M ys) (h1 : ∀ u∈ys,u.oneCell' = true)
  (hblk : ((Value.slice a1 M c1).ownBlock = (Value.slice a0 m c0).ownBlock∧w.grownBy w' (Value.slice a0 m c0).ownBlock)∨((Value.slice a1 M c1).ownBlock = some w.heap.size∧w.grownBy w' none))
  {nt gt : ST} (hnt : nt.den = (M : Int)) (hgt : gt.den = ((G + 1 : Nat) : Int)) {f' : Nat→List SV} (hrow : rowIn E w f' M sz ys) :
  ∃ E',Ext E w E' w'∧Base B E' w'∧(∀ k,HOk E' w' k (upd hf h (.vec e nt gt sz f') k))∧E'.τ h = some (.slice a1 (G + 1) c1):=by
 have hb:=st.base
 have hbold : ∀ b,(Value.slice a0 m c0).ownBlock = some b→E.O b = some h∧(∀ o,¬ E.I b o)∧b < w.heap.size:=fun b hbb=>⟨(hbo b hbb).1,(hbo b hbb).2,owned_lt hb (hbo b hbb).1⟩
 generalize hv : Value.slice a0 m c0 = v at *
 generalize hv' : Value.slice a1 M c1 = v' at *
 let E' : Env:=⟨E.β,upd E.τ h (some (.slice a1 (G + 1) c1)),fun b=>if v'.ownBlock = some b then some h else E.O b,E.κ,E.ζ,E.I⟩
 have hgos : w'.os = w.os∧w'.tape = w.tape∧w'.output = w.output∧w.heap.size≤w'.heap.size:=by
  rcases hblk with ⟨_,hg⟩ | ⟨_,hg⟩<;>exact ⟨hg.os,hg.tape,hg.output,hg.size⟩
 have hother : ∀ b,b < w.heap.size→v.ownBlock≠some b→w'.heap[b]? = w.heap[b]?:=by
  intro b hlt hne
  rcases hblk with ⟨_,hg⟩ | ⟨_,hg⟩
  ·exact hg.block b hlt (fun e=>hne e.symm)
  ·exact hg.block b hlt (by simp)
 have hI : ∀ b o,E.I b o→w'.cell? ⟨b,o,none⟩ = w.cell? ⟨b,o,none⟩:=by
  intro b o hi
  have hlt:=hb.Ibd b o hi
  have hne : v.ownBlock≠some b:=fun hbv=>(hbold b hbv).2.1 o hi
  simp only [World.cell?]
  rw [hother b hlt hne]
 have hx : Ext E w E' w':=by
  refine ⟨fun _ _ h=>h,fun k u hk=>?_,fun _ _ h=>h,fun _ _ h=>h,fun b o h=>h,hI⟩
  show upd E.τ h (some (.slice a1 (G + 1) c1)) k = some u∨∃ a m' c a' m'' c',u = .slice a m' c∧upd E.τ h (some (.slice a1 (G + 1) c1)) k = some (.slice a' m'' c')∧m' < m''
  unfold upd
  by_cases e : k = h
  ·subst e
   rw [if_pos rfl]
   rw [hτ] at hk
   cases hk
   exact .inr ⟨a0,G,c0,a1,G + 1,c1,rfl,rfl,Nat.lt_succ_self _⟩
  ·rw [if_neg e]; exact .inl hk
 have hownlt : ∀ b,v'.ownBlock = some b→b < w'.heap.size:=hown'.lt
 have hnew : ∀ b,v'.ownBlock = some b→B.w0.heap.size≤b∨B.X b:=by
  intro b hbb
  rcases hblk with ⟨hs,_⟩ | ⟨hs,_⟩
  ·exact (hb.Obd b h (hbold b (by rw [←hs]; exact hbb)).1).2
  ·rw [hs] at hbb; cases hbb; exact .inl hb.size
 refine ⟨E',hx,⟨hgos.1.trans hb.os,hgos.2.1.trans hb.tape,hgos.2.2.1.trans hb.output,Nat.le_trans hb.size hgos.2.2.2,fun b hlt hX=>?_,fun b o hi=>?_,fun b o hi=>?_,hb.Inew,fun b k hO=>?_,hb.β0.ext hx⟩,fun k=>?_,by simp [E',upd]⟩
 ·have hsz:=hb.size
  rw [hother b (by omega) ?_]
  ·exact hb.old b hlt hX
  ·intro hbv
   rcases (hb.Obd b h (hbold b hbv).1).2 with h | h
   ·omega
   ·exact hX h
 ·obtain ⟨i1,i2⟩:=hb.I0 b o hi
  exact ⟨i1,by rw [hI b o i1]; exact i2⟩
 ·exact Nat.lt_of_lt_of_le (hb.Ibd b o hi) hgos.2.2.2
 ·have hO : (if v'.ownBlock = some b then some h else E.O b) = some k:=hO
  split at hO
  ·rename_i hbb
   exact ⟨hownlt b hbb,hnew b hbb⟩
  ·obtain ⟨o1,o2⟩:=hb.Obd b k hO
   exact ⟨Nat.lt_of_lt_of_le o1 hgos.2.2.2,o2⟩
 ·by_cases e : k = h
  ·subst e
   simp only [upd,if_pos]
   refine ⟨a1,c1,M,G + 1,ys,by simp [E',upd],by rw [hv']; exact hown',hnt,hgt,h1,⟨hrow.1,fun i j s u a b c=>(hrow.2 i j s u a b c).mono hx.I hx.cell⟩,fun b hbb=>?_⟩
   rw [hv'] at hbb
   refine ⟨by show (if v'.ownBlock = some b then some k else E.O b) = some k; rw [if_pos hbb],fun o hi=>?_⟩
   rcases hblk with ⟨hs,_⟩ | ⟨hs,_⟩
   ·exact (hbold b (by rw [←hs]; exact hbb)).2.1 o hi
   ·rw [hs] at hbb; cases hbb
    have:=hb.Ibd _ _ hi
    omega
  ·simp only [upd,if_neg e]
   refine HOk.keep hx (st.heap k) rfl (by simp [E',upd,e]) rfl rfl fun b hO=>?_
   have hlt:=owned_lt hb hO
   have hne : v'.ownBlock≠some b:=by
    intro hbb
    rcases hblk with ⟨hs,_⟩ | ⟨hs,_⟩
    ·have:=(hbold b (by rw [←hs]; exact hbb)).1
     rw [hO] at this
     exact e (Option.some.inj this)
    ·rw [hs] at hbb; cases hbb; omega
   have hnv : v.ownBlock≠some b:=by
    intro hbb
    have:=(hbold b hbb).1
    rw [hO] at this
    exact e (Option.some.inj this)
   exact ⟨by show (if v'.ownBlock = some b then some h else E.O b) = some k; rw [if_neg hne]; exact hO,hother b hlt hnv,fun o hi=>hi⟩
section
variable {P : Program} {cx : Cx} {σ : Sy} {T : List Nat} {o : Oper} {K : Out→Prop}
theorem vsl_val {E : Env} {w : World} {h : Nat} {n g g1 : ST} {nl : BT} {u : Value} {e : TypeId} {sz m G c : Nat} {a : Option Addr} {xs : List Value} (hr : Rel E w (.vsl nl n g h) u) (hτ : E.τ h = some (.slice a G c)) (hown : ownsW w true e sz (.slice a m c) m xs) (hn : n.den = (m : Int)) (hg : g1.den = (G : Int)) (he : g.den = g1.den) :
  u = .slice a m c∧(nl.den = true↔Value.slice a m c = .slice none 0 0):=by
 obtain ⟨⟨a',k,c',e1,e2,e3⟩,a0,G0,c0,t1,t2,t3⟩:=hr.vsl_inv
 rw [hτ] at t1
 cases t1
 obtain ⟨k',q1,q2⟩:=t3 (by rw [he,hg])
 have hk : k' = m:=by omega
 subst hk
 refine ⟨q2,?_⟩
 rw [q2] at e1
 simp only [Value.slice.injEq] at e1
 obtain ⟨rfl,_,_⟩:=e1
 rw [e3]
 constructor
 ·rintro rfl
  rcases hown.2 with ⟨h1,_⟩ | ⟨g,cap,cur,fr,h1,_⟩
  ·exact h1
  ·simp at h1
 ·intro h1
  simp only [Value.slice.injEq] at h1
  exact h1.1
theorem row_RO {E : Env} {w : World} {nl : BT} {n : ST} {ty : TypeId} {sz : Nat} {gr : Bool} {f : Nat→List SV} {u v : Value} {m : Nat} {xs : List Value} (hu : u = v) (hnl : nl.den = true↔v = .slice none 0 0) (hown : ownsW w gr ty sz v m xs) (hn : n.den = (m : Int))
  (h1 : ∀ u∈xs,u.oneCell' = true) (hrow : rowIn E w f m sz xs) : RO (fun b o=>E.I b o∨(v.ownBlock = some b∧o < m * sz)) w (.sl nl n sz f) u:=by
 subst hu
 rcases hown.2 with ⟨e0,e1⟩ | ⟨b,cap,cur,fr,e0,hg2,hfr,hmc,hcm,hcs,htake⟩
 ·rw [e0]
  exact .slnil (hnl.2 e0) (by rw [hn,e1]; rfl)
 ·have hidx : ∀ i j,i < m→j < sz→i * sz + j < m * sz:=by
   intro i j hi hj
   have : (i + 1) * sz≤m * sz:=Nat.mul_le_mul_right _ hi
   rw [Nat.add_mul] at this
   omega
  have hxs : ∀ i j,i < m→j < sz→xs[i * sz + j]? = some (xs.getD (i * sz + j) undef):=by
   intro i j hi hj
   have:=hidx i j hi hj
   rw [←hown.1] at this
   rw [List.getD_eq_getElem?_getD,List.getElem?_eq_getElem this]; rfl
  rw [e0]
  refine .sl (fun i j=>xs.getD (i * sz + j) undef) ?_ hn hmc hcm (fun _=>rfl) hrow.1 (fun i j hi hj=>h1 _ (List.mem_of_getElem? (hxs i j hi hj))) (fun i j hi hj=>⟨?_,?_⟩) (fun i j s hi hs=>?_)
  ·cases hb : nl.den with
   | false=>rfl
   | true=>rw [hnl.1 hb] at e0; simp at e0
  ·simp only [Nat.zero_add]
   rw [cell_of_row w b _ cur ty fr hg2,←hxs i j hi hj,←htake,List.getElem?_take,if_pos (hidx i j hi hj)]
   simp
  ·simp only [Nat.zero_add]
   exact .inr ⟨rfl,hidx i j hi hj⟩
  ·have hj : j < sz:=by rw [←hrow.1 i hi]; exact (List.getElem?_eq_some_iff.1 hs).1
   exact (hrow.2 i j s _ hi hs (hxs i j hi hj)).mono (fun b o h=>.inl h) (fun _ _ _=>rfl)
theorem local_append_vec (hc : CxOk P cx) {c : Call} (ho : o.op = .call c) (hcal : c.callee = .builtin .append) {x y : Operand} {t e sz : Nat} {te ti : TI} (hx : c.args.toList = [x,y]) (ht : c.argTypes.toList = [t,t]) (hlt : look t cx.tt = some ti) (hk : ti.k = .slice e) (hle : look e cx.tt = some te) (hsz : te.size = sz) (hz : 0 < sz)
  {nl : BT} {n n0 g0 g1 : ST} {f : Nat→List SV} {h : Nat} (hvx : rd cx σ T x = some (.vsl nl n g0 h)) (hh : nth σ.hp h = some (.vec e n0 g1 sz f)) {s : SV} (hvy : rd cx σ T y = some s) {m : ST} {g : Nat→List SV} (hrow : rowOf sz s = some (m,g))
  (hb : n.den = n0.den∧(n.den + m.den) * te.bytes≤140737488355328∧n.den + m.den≤9223372036854775807) (hge : g0.den = g1.den)
  {f' : Nat→List SV} {n' g' : Int} (hn' : n' = n.den + m.den) (hg' : g' = g0.den + 1) (hf1 : ∀ i : Nat,(i : Int) < n.den→f' i = f i) (hf' : ∀ i j : Nat,(i : Int) = n.den + j→(j : Int) < m.den→f' i = g j) :
  Local P cx.gl σ T o ⟨.vsl (andT nl (cmpT .eql m (.l 0))) (.a n') (.a g') h,[.put h (.vec e (.a n') (.a g') sz f')],[h],[]⟩:=by
 intro B N E a w ff hf hg st ag agh hT K' Q hK
 have mx : x∈o.op.operands.toList:=by simp [ho,Op.operands,Call.operands,hcal,hx]
 have my : y∈o.op.operands.toList:=by simp [ho,Op.operands,Call.operands,hcal,hx]
 have hrx:=rd_sound hvx hg st (ag_of ag mx) hT
 have hry:=rd_sound hvy hg st (ag_of ag my) hT
 obtain ⟨k,news,r1,r2,r3,r4,r5⟩:=rowOf_src hrow hry
 have hkk:=st.heap h
 have hsame:=row_same agh (List.mem_singleton.2 rfl) hh
 rw [hsame] at hkk
 obtain ⟨a0,c0,nn,G,xs,k1,k2,k3,kg,k4,k5,k6⟩:=hkk
 obtain ⟨hv,hnl⟩:=vsl_val hrx k1 k2 (by rw [hb.1,k3]) kg hge
 have hnn : n.den = (nn : Int):=by rw [hb.1,k3]
 have hbk : (nn + k) * te.bytes≤140737488355328:=by
  have:=hb.2.1
  rw [hnn,r1] at this
  have h : (((nn + k) * te.bytes : Nat) : Int)≤140737488355328:=by rw [Int.natCast_mul,Int.natCast_add]; exact this
  omega
 obtain ⟨v',w',l1,l2,l3,l4,l5,l6⟩:=append_law (P:=P) (ty:=o.type) ((hc.ti hlt).slice hk) (hc.ti hle) hsz hz k2.row r3 (by have:=hb.2.2; rw [hnn,r1] at this; simp only [maxLen]; omega) hbk
 have h1all : ∀ u∈xs ++ news,u.oneCell' = true:=fun u hu=>by
  rcases List.mem_append.1 hu with hu | hu
  ·exact k4 u hu
  ·exact r3.2.1 u hu
 have hnt : (ST.a n').den = ((nn + k : Nat) : Int):=by simp only [ST.den,hn',hnn,r1]; omega
 have hgt : (ST.a g').den = ((G + 1 : Nat) : Int):=by simp only [ST.den,hg',hge,kg]; omega
 have hin : rowIn E w f' (nn + k) sz (xs ++ news):=by
  refine ⟨fun i hi=>?_,fun i j s u hi hs hu=>?_⟩
  ·by_cases hin : i < nn
   ·rw [hf1 i (by omega)]; exact k5.1 i hin
   ·rw [hf' i (i - nn) (by omega) (by omega)]; exact r4 (i - nn) (by omega)
  ·by_cases hin : i < nn
   ·rw [hf1 i (by omega)] at hs
    have hj : j < sz:=by rw [←k5.1 i hin]; exact (List.getElem?_eq_some_iff.1 hs).1
    have : (i + 1) * sz≤nn * sz:=Nat.mul_le_mul_right _ hin
    rw [Nat.add_mul] at this
    rw [List.getElem?_append_left (by rw [k2.1]; omega)] at hu
    exact k5.2 i j s u hin hs hu
   ·rw [hf' i (i - nn) (by omega) (by omega)] at hs
    have e1 : i * sz + j = nn * sz + ((i - nn) * sz + j):=by
     have : i * sz = nn * sz + (i - nn) * sz:=by rw [←Nat.add_mul]; congr 1; omega
     omega
    rw [List.getElem?_append_right (by rw [k2.1]; omega),k2.1,e1,Nat.add_sub_cancel_left] at hu
    exact r5 (i - nn) j s u (by omega) hs hu
 obtain ⟨a1,c1,e0⟩:=l5
 subst e0
 obtain ⟨E',x1,x2,x3,x4⟩:=put_vec (h:=h) (e:=e) (sz:=sz) st hsame k1 k6 (ownsW_row true l2) h1all l4 hnt hgt hin
 unfold Oper.wp
 rw [run_builtin_append ho hcal hx ht (a:=a) (w:=w) (w':=w') (v':=.slice a1 (nn + k) c1) (by rw [hv]; exact l1)]
 refine hK _ w' E' x1 x2 x3 (.vsl ⟨a1,nn + k,c1,rfl,hnt,?_⟩ ⟨a1,G + 1,c1,x4,by rw [hgt]; exact Int.le_refl _,fun _=>⟨_,hnt,rfl⟩⟩)
 have hnil : (Value.slice a1 (nn + k) c1 = .slice none 0 0)↔a1 = none:=by
  constructor
  ·intro h; simp only [Value.slice.injEq] at h; exact h.1
  ·rintro rfl
   rcases l2.2 with ⟨h1,_⟩ | ⟨g,cap,cur,h1,_⟩
   ·exact h1
   ·simp at h1
 rw [←hnil,andT_den,cmpT_den,l3]
 simp only [cmpDen,ST.den,r1,Bool.and_eq_true,beq_iff_eq]
 rw [hnl]
 constructor
 ·rintro ⟨h1,h2⟩; exact ⟨h1,by omega⟩
 ·rintro ⟨h1,h2⟩; exact ⟨h1,by omega⟩
theorem local_len_vsl (hc : CxOk P cx) {c : Call} (ho : o.op = .call c) (hcal : c.callee = .builtin .len) {x : Operand} {t : Nat} {ti : TI} (hx : c.args.toList = [x]) (ht : c.argTypes.toList = [t]) (hl : look t cx.tt = some ti) {e : TypeId} (hk : ti.k = .slice e)
  {nl : BT} {n g : ST} {h : Nat} (hv : rd cx σ T x = some (.vsl nl n g h)) : Local P cx.gl σ T o ⟨.int .i64 n,[],[],[]⟩:=by
 intro B N E a w ff hf' hg st ag agh hT
 have hmem : x∈o.op.operands.toList:=by simp [ho,Op.operands,Call.operands,hcal,hx]
 obtain ⟨⟨a0,m,c0,e3,e4,_⟩,_⟩:=(rd_sound hv hg st (ag_of ag hmem) hT).vsl_inv
 have e1 : c.args = #[x]:=Array.ext' (by simpa using hx)
 have e2 : c.argTypes = #[t]:=Array.ext' (by simpa using ht)
 have hrun:=run_len_any hc hl hk (w:=w) (a:=a0) (m:=m) (c:=c0) (ty:=o.type)
 refine yields_value st (v:=.int .i64 m) ?_ rfl (.int e4)
 simp [execOp,ho,resolve,hcal,e1,e2,invoke,builtin,e3,hrun]
theorem grown_refl (w : World) (r : Option Nat) : w.grownBy w r:=⟨rfl,rfl,rfl,Nat.le_refl _,fun _ _ _=>rfl⟩
theorem local_slice_vec (hc : CxOk P cx) {t e sz : Nat} {ti : TI} (hl : look t cx.tt = some ti) (hk : ti.k = .slice e) {te : TI} (hle : look e cx.tt = some te) {x : Operand} {lo hi : Option Operand} (ho : o.op = .slice t x lo hi none) {nl : BT} {n n0 g0 g1 : ST} {f : Nat→List SV} {h : Nat}
  (hv : rd cx σ T x = some (.vsl nl n g0 h)) (hh : nth σ.hp h = some (.vec e n0 g1 sz f)) (hlo : optRd cx σ T lo = some none) {k : IntKind} {b : ST} (hhi : optRd cx σ T hi = some (some (.int k b)))
  (h0 : n.den = n0.den) (hge : g0.den = g1.den) (hob : 0≤b.den∧b.den≤n.den) {g' : Int} (hg' : g' = g0.den + 1) (hT0 : allT (condsOf σ.gm T)) : Local P cx.gl σ T o ⟨.vsl nl (.a b.den) (.a g') h,[.put h (.vec e (.a b.den) (.a g') sz f)],[h],[]⟩:=by
 intro B N E a w ff hf' hg st ag agh hT K' Q hK
 have hrx:=rd_sound hv hg st (ag_of ag (by simp [ho,Op.operands])) hT
 have h1:=optRd_sound hg st hT hlo (fun y hy=>ag_of ag (by subst hy; simp [ho,Op.operands])) (d:=.l 0) (t:=.l 0) rfl
 have h2:=optRd_sound hg st hT hhi (fun y hy=>ag_of ag (by subst hy; simp [ho,Op.operands])) (d:=.l 0) (t:=b) rfl
 have hhin : hi≠none:=by rintro rfl; simp [optRd] at hhi
 have hlon : lo = none:=by
  cases lo with
  | none=>rfl
  | some y =>
   simp only [optRd] at hlo
   split at hlo<;>simp at hlo
 subst hlon
 have hhi' : ∃ k,hi.map a.eval = some (.int k b.den):=by
  rcases h2 with ⟨rfl,_⟩ | ⟨y,k,rfl,e⟩
  ·exact absurd rfl hhin
  ·exact ⟨k,by simp [e]⟩
 have hkk:=st.heap h
 have hsame:=row_same agh (List.mem_singleton.2 rfl) hh
 rw [hsame] at hkk
 obtain ⟨a0,c0,m,G,xs,k1,k2,k3,kg,k4,k5,k6⟩:=hkk
 obtain ⟨hv',hnl⟩:=vsl_val hrx k1 k2 (by rw [h0,k3]) kg hge
 have hu:=(hc.ti hl).slice hk
 have hS:=(hc.ti hle).sizeOf w
 have hmn : n.den = (m : Int):=by rw [h0,k3]
 have hcap : m≤c0:=by
  rcases k2.2 with ⟨e1,e2⟩ | ⟨g,cap,cur,fr,e1,_,_,e2,_⟩
  ·omega
  ·simp only [Value.slice.injEq] at e1; omega
 have hbb:=run_bounds (P:=P) (sl:=true) (len:=m) (cap:=c0) (lo:=none) (hi:=hi.map a.eval) (l:=0) (h:=b.den) (w:=w) (.inl ⟨rfl,rfl⟩) (.inr hhi') (Int.le_refl _) hob.1 (by omega) hcap
 have hrun : (execOp a.eval o).run P w = .ok (.value (.slice a0 b.den.toNat c0)) w:=by
  cases a0 with
  | none =>
   have : m = 0∧c0 = 0:=by
    rcases k2.2 with ⟨e1,e2⟩ | ⟨g,cap,cur,fr,e1,_⟩
    ·simp only [Value.slice.injEq,true_and] at e1; exact e1
    ·simp at e1
   obtain ⟨rfl,rfl⟩:=this
   have hb0 : b.den = 0:=by omega
   simp [execOp,ho,hv',Instr.sliceAt,Instr.slice,run_underlying hu,hbb,hS,hb0]
  | some ad =>
   have hadd : ad.add 0 = ad:=by
    unfold Addr.add
    split<;>simp_all
   by_cases hc0 : c0 = 0
   ·subst hc0
    simp [execOp,ho,hv',Instr.sliceAt,Instr.slice,run_underlying hu,hbb,hS]
   ·simp [execOp,ho,hv',Instr.sliceAt,Instr.slice,run_underlying hu,hbb,hS,hadd,hc0]
 have hbn : ((b.den.toNat : Nat) : Int) = b.den:=by omega
 have hle' : b.den.toNat≤m:=by omega
 have hown' : ownsW w true e sz (.slice a0 b.den.toNat c0) b.den.toNat (xs.take (b.den.toNat * sz)):=by
  have hmul : b.den.toNat * sz≤m * sz:=Nat.mul_le_mul_right _ hle'
  refine ⟨by rw [List.length_take,k2.1]; omega,?_⟩
  rcases k2.2 with ⟨e1,e2⟩ | ⟨g,cap,cur,fr,e1,e2,e3,e4,e5,e6,e7⟩
  ·simp only [Value.slice.injEq] at e1
   obtain ⟨rfl,_,rfl⟩:=e1
   exact .inl ⟨by simp; omega,by omega⟩
  ·simp only [Value.slice.injEq] at e1
   obtain ⟨rfl,_,rfl⟩:=e1
   refine .inr ⟨g,c0,cur,fr,rfl,e2,e3,by omega,e5,e6,?_⟩
   rw [←e7,List.take_take]
   congr 1
   omega
 obtain ⟨E',x1,x2,x3,x4⟩:=put_vec (h:=h) (e:=e) (sz:=sz) (w':=w) (nt:=.a b.den) (gt:=.a g') (f':=f) st hsame k1 k6 hown' (fun u hu=>k4 u (List.mem_of_mem_take hu)) (.inl ⟨by cases a0<;>rfl,grown_refl w _⟩) (by simp only [ST.den]; omega) (by simp only [ST.den,hg',hge,kg]; omega)
  ⟨fun i hi=>k5.1 i (by omega),fun i j s u hi hs hu=>k5.2 i j s u (by omega) hs (by
   rw [List.getElem?_take] at hu
   split at hu
   ·exact hu
   ·cases hu)⟩
 unfold Oper.wp
 rw [hrun]
 refine hK _ w E' x1 x2 x3 (.vsl ⟨a0,b.den.toNat,c0,rfl,by simp only [ST.den]; omega,?_⟩ ⟨a0,G + 1,c0,x4,by simp only [ST.den,hg',hge,kg]; omega,fun _=>⟨_,by simp only [ST.den]; omega,rfl⟩⟩)
 obtain ⟨⟨a',k',c',e1,e2,e3⟩,_⟩:=hrx.vsl_inv
 rw [hv'] at e1
 simp only [Value.slice.injEq] at e1
 obtain ⟨rfl,_,_⟩:=e1
 exact e3
theorem local_buildOwn (hc : CxOk P cx) {t len e : Nat} {ps : Array (Nat×Operand)} (ho : o.op = .buildSlice t len ps) {ti te : TI} (hlt : look t cx.tt = some ti) (hk : ti.k = .slice e) (hle : look e cx.tt = some te) {vs : List (Nat×SV)} (hv : rdParts cx σ T ps.toList = some vs) (h1 : onesP vs = true)
  {cs : List SV} (hf : stepBuildSlice.fillS te.size (stepBuildSlice.repN len te.zero) vs = some cs) (hpl : plainV (.agg (loose.looseL (norm.normL dn cs))) = true) (hz : 0 < te.size) (hbig : len * te.size≤16777216) :
  Local P cx.gl σ T o ⟨.osl (.l false) (.l len) (lenN σ.hp),[.put (lenN σ.hp) (.own e (.l len) te.size true fun k=>takeN te.size (dropN (k * te.size) (loose.looseL (norm.normL dn cs))))],[],[]⟩:=by
 intro B N E a w ff hf' hg st ag agh hT K' Q hK
 have hag : ∀ p∈ps.toList,∀ s∈opSlots p.2,ff s = ffOf σ s:=fun p hp=>ag_of ag (by simp only [ho,Op.operands]; simp; exact ⟨p.1,by simpa using hp⟩)
 obtain ⟨h2,h3⟩:=rdParts_sound hg st hT ps.toList vs hag hv
 obtain ⟨z,hzr,hzrel,hz1⟩:=(hc.ti hle).zero E w
 have hzl:=(hc.ti hle).zlen
 have hzsz : z.cells.size = te.size:=by have:=hzrel.1; rw [hzl] at this; simpa using this.symm
 have hus : ∀ (j : Nat) (p : Nat×SV) (q : Nat×Value),vs[j]? = some p→((ps.map fun (x : Nat×Operand)=>(x.1,a.eval x.2)).toList)[j]? = some q→p.1 = q.1∧Rel E w p.2 q.2:=by
  intro j p q hp hq
  rw [Array.toList_map,List.getElem?_map] at hq
  cases hpj : ps.toList[j]? with
  | none=>rw [hpj] at hq; cases hq
  | some x =>
   rw [hpj] at hq
   simp only [Option.map_some,Option.some.injEq] at hq
   subst hq
   exact h3 j p x hp hpj
 -- the zero cells
 let C0 : List Value:=(List.range (len * te.size)).map fun q=>z.cells.toList.getD (q % te.size) undef
 have hC0 : RelL E w (stepBuildSlice.repN len te.zero) C0:=by
  refine ⟨by rw [repN_len,hzl]; simp [C0],fun i s v hs hv=>?_⟩
  have hlt : i < len * te.size:=by
   have:=(List.getElem?_eq_some_iff.1 hs).1
   rwa [repN_len,hzl] at this
  rw [repN_get _ _ (by rw [hzl]; exact hlt),hzl] at hs
  simp [C0,hlt] at hv
  have hm : i % te.size < z.cells.size:=by rw [hzsz]; exact Nat.mod_lt _ hz
  refine hzrel.2 (i % te.size) s v hs ?_
  rw [←hv]
  simp [hm]
 have hC01 : ∀ u∈C0,u.oneCell' = true:=by
  intro u hu
  simp only [C0,List.mem_map,List.mem_range] at hu
  obtain ⟨q,_,rfl⟩:=hu
  have hm : q % te.size < z.cells.toList.length:=by simp [hzsz]; exact Nat.mod_lt _ hz
  rw [List.getD_eq_getElem?_getD,List.getElem?_eq_getElem hm]
  exact hz1 _ (List.getElem_mem hm)
 obtain ⟨C',c1,c2,c3⟩:=fillS_sound vs (ps.map fun (x : Nat×Operand)=>(x.1,a.eval x.2)).toList _ cs C0 (by simp [h2]) hus (onesP_get h1) hC0 hC01 hf
 have hlen' : C'.length = len * te.size:=by
  rw [←c2.1]
  have : ∀ (vs : List (Nat×SV)) (cs cs' : List SV),stepBuildSlice.fillS te.size cs vs = some cs'→cs'.length = cs.length:=by
   intro vs
   induction vs with
   | nil=>intro cs cs' h; simp [stepBuildSlice.fillS] at h; rw [h]
   | cons p vs ih =>
    intro cs cs' h
    obtain ⟨i,v⟩:=p
    simp only [stepBuildSlice.fillS] at h
    split at h
    ·rw [ih _ _ h,len_putN]
    ·cases h
  rw [this vs _ cs hf,repN_len,hzl]
 have hrun : (Instr.buildSlice t len (ps.map fun (x : Nat×Operand)=>(x.1,a.eval x.2))).run P w = .ok (.slice (some ⟨w.heap.size,0,none⟩) len len) (w.alloc (.cells ⟨C'⟩ e)):=by
  have hu:=(hc.ti hlt).slice hk
  have hS:=(hc.ti hle).sizeOf w
  have harr : ((Array.range (len * te.size)).map (fun q=>z.cells[q % z.cells.size]!)) = (⟨C0⟩ : Array Value):=by
   apply Array.ext'
   simp only [Array.toList_map,Array.toList_range,C0]
   refine List.map_congr_left fun q _=>?_
   rw [hzsz,List.getD_eq_getElem?_getD,Array.getElem!_eq_getD,Array.getD_eq_getD_getElem?,Array.getElem?_toList]
   have hm : q % te.size < z.cells.size:=by rw [hzsz]; exact Nat.mod_lt _ hz
   simp [hm]
  have hbig' : ¬ (16777216 < len * te.size):=by omega
  simp only [Instr.buildSlice,Sem.run_bind,run_underlying hu,Result.andThen_ok,hS,gt_iff_lt]
  by_cases h0 : len * te.size = 0
  ·have hC0n : C0 = []:=by simp [C0,h0]
   rw [hC0n] at c1
   rw [Array.toList_map] at c1
   have hemp : Array.map (fun _=>(default : Value)) (Array.range 0) = ⟨[]⟩:=by simp
   simp [h0,newRow,newObj]
   first | rw [hemp,c1] | (simp at c1 ⊢; rw [c1])
   simp [Sem.run]
  ·rw [Array.toList_map] at c1
   simp [h0,hbig',hzr,harr,newRow,newObj]
   rw [c1]
   simp [Sem.run]
 have hfresh : hf' (lenN σ.hp) = .fresh:=by
  have:=agh.efs _ (List.mem_singleton.2 rfl)
  simp only [AgE,hfOf,nth_eq,lenN_eq] at this
  rw [lenN_eq,this]; simp
 have hmax : len≤maxLen:=by
  simp only [maxLen]
  have : len≤len * te.size:=Nat.le_mul_of_pos_right _ hz
  omega
 have hown0:=World.ownsRow_lit w (base:=0) (e:=e) (size:=te.size) ⟨C'⟩ len (Nat.zero_le _) hmax (by simpa using hlen')
 have hown' : ownsW (w.alloc (.cells ⟨C'⟩ e)) true e te.size (.slice (some ⟨w.heap.size,0,none⟩) len len) (0 + len) C':=by rw [Nat.zero_add]; exact ownsW_row true (by simpa using hown0)
 have hpc : ∀ c∈loose.looseL (norm.normL dn cs),plainV c = true:=by
  simp only [plainV] at hpl
  exact (plainL_iff _).1 hpl
 have hcells : RelL E w (loose.looseL (norm.normL dn cs)) C':=by
  rw [looseL_eq,normL_eq]
  exact (c2.map _ fun s v _ h=>h.norm).map _ fun s v _ h=>h.loose
 have hget : ∀ (i j : Nat) (s : SV),(takeN te.size (dropN (i * te.size) (loose.looseL (norm.normL dn cs))))[j]? = some s→(loose.looseL (norm.normL dn cs))[i * te.size + j]? = some s:=by
  intro i j s hs
  rw [takeN_eq,dropN_eq,List.getElem?_take] at hs
  split at hs
  ·rwa [List.getElem?_drop] at hs
  ·cases hs
 have hin : rowIn E w (fun k=>takeN te.size (dropN (k * te.size) (loose.looseL (norm.normL dn cs)))) (0 + len) te.size C':=by
  rw [Nat.zero_add]
  refine ⟨fun j hj=>?_,fun i j s u hi hs hu=>?_⟩
  ·show (takeN te.size (dropN (j * te.size) _)).length = te.size
   rw [takeN_eq,dropN_eq,List.length_take,List.length_drop,hcells.1,hlen']
   have : (j + 1) * te.size≤len * te.size:=Nat.mul_le_mul_right _ hj
   rw [Nat.add_mul] at this
   omega
  ·have hs':=hget i j s hs
   exact (hcells.2 _ s u hs' hu).plainOne (hpc s (List.mem_of_getElem? hs')) (c3 u (List.mem_of_getElem? hu))
 obtain ⟨E',x1,x2,x3,x4,x5⟩:=put_own (h:=lenN σ.hp) (e:=e) (sz:=te.size) (n:=0) (m:=len) st (.inl ⟨hfresh,rfl⟩) ⟨_,_,rfl⟩ hown' c3 (.inr ⟨rfl,World.grownBy_alloc w _ none⟩) (fun h=>absurd hfresh h) (nt':=.l len) (by simp [ST.den]) hin
 unfold Oper.wp
 have : (execOp a.eval o).run P w = .ok (.value (.slice (some ⟨w.heap.size,0,none⟩) len len)) (w.alloc (.cells ⟨C'⟩ e)):=by
  simp only [execOp,ho,Sem.run_bind]
  rw [hrun]
  rfl
 rw [this]
 exact hK _ _ E' x1 x2 x3 (.osl ⟨_,len,_,rfl,rfl,by simp [BT.den]⟩ ⟨_,len,_,by rw [x4],by simp [ST.den],fun _=>rfl⟩)
theorem run_slice_bnd (hc : CxOk P cx) {t e : Nat} {ti : TI} (hl : look t cx.tt = some ti) (hk : ti.k = .slice e) {te : TI} (hle : look e cx.tt = some te) {a0 : Option Addr} {m c0 : Nat} {lo hi : Option Value} {l h : Nat} {w : World}
  (hb : (Instr.sliceBounds true m c0 lo hi none).run P w = .ok (l,h,c0) w) : (Instr.sliceAt t (.slice a0 m c0) lo hi none).run P w = .ok (.slice (if c0 = l then a0 else a0.map (·.add (l * te.size))) (h - l) (c0 - l)) w:=by
 have hu:=(hc.ti hl).slice hk
 have hS:=(hc.ti hle).sizeOf w
 simp [Instr.sliceAt,Instr.slice,run_underlying hu,hb,hS]
theorem ownsW_cap {w : World} {gr : Bool} {e : TypeId} {sz m c0 : Nat} {a0 : Option Addr} {xs : List Value} (k2 : ownsW w gr e sz (.slice a0 m c0) m xs) : m≤c0:=by
 rcases k2.2 with ⟨e1,e2⟩ | ⟨g,cap,cur,fr,e1,_,_,e2,_⟩
 ·omega
 ·simp only [Value.slice.injEq] at e1; omega
theorem local_slice_share (hc : CxOk P cx) {t e sz : Nat} {ti : TI} (hl : look t cx.tt = some ti) (hk : ti.k = .slice e) {te : TI} (hle : look e cx.tt = some te) {x : Operand} {lo hi : Option Operand} (ho : o.op = .slice t x lo hi none) {nl : BT} {n n0 : ST} {gr : Bool} {f : Nat→List SV} {h : Nat}
  (hv : rd cx σ T x = some (.osl nl n h)) (hh : nth σ.hp h = some (.own e n0 sz gr f)) (hlo : optRd cx σ T lo = some none) {k : IntKind} {b : ST} (hhi : optRd cx σ T hi = some (some (.int k b)))
  (h0 : n.den = n0.den) (hob : 0≤b.den∧b.den≤n.den) (hT0 : allT (condsOf σ.gm T)) : Local P cx.gl σ T o ⟨.sl nl (.a b.den) sz f,[.put h .gone],[h],[]⟩:=by
 intro B N E a w ff hf' hg st ag agh hT K' Q hK
 have hrx:=rd_sound hv hg st (ag_of ag (by simp [ho,Op.operands])) hT
 have h2:=optRd_sound hg st hT hhi (fun y hy=>ag_of ag (by subst hy; simp [ho,Op.operands])) (d:=.l 0) (t:=b) rfl
 have hhin : hi≠none:=by rintro rfl; simp [optRd] at hhi
 have hlon : lo = none:=by
  cases lo with
  | none=>rfl
  | some y =>
   simp only [optRd] at hlo
   split at hlo<;>simp at hlo
 subst hlon
 have hhi' : ∃ k,hi.map a.eval = some (.int k b.den):=by
  rcases h2 with ⟨rfl,_⟩ | ⟨y,k,rfl,e⟩
  ·exact absurd rfl hhin
  ·exact ⟨k,by simp [e]⟩
 have hkk:=st.heap h
 have hsame:=row_same agh (List.mem_singleton.2 rfl) hh
 rw [hsame] at hkk
 obtain ⟨v,m,xs,k1,kz,k2,k3,k4,k5,k6⟩:=hkk
 obtain ⟨hv',hnl⟩:=osl_val hrx k1 k2 k3 h0
 obtain ⟨a0,c0,rfl⟩:=k2.shape
 have hmn : n.den = (m : Int):=by rw [h0,k3]
 have hcap:=ownsW_cap k2
 have hbb:=run_bounds (P:=P) (sl:=true) (len:=m) (cap:=c0) (lo:=none) (hi:=hi.map a.eval) (l:=0) (h:=b.den) (w:=w) (.inl ⟨rfl,rfl⟩) (.inr hhi') (Int.le_refl _) hob.1 (by omega) hcap
 have hval : (if c0 = 0 then a0 else a0.map (·.add (0 * te.size))) = a0:=by
  split
  ·rfl
  ·rcases k2.2 with ⟨e1,_⟩ | ⟨g,cap,cur,fr,e1,_⟩
   ·simp only [Value.slice.injEq] at e1; rw [e1.1]; rfl
   ·simp only [Value.slice.injEq] at e1; rw [e1.1]; simp [add_lit]
 have hrun : (execOp a.eval o).run P w = .ok (.value (.slice a0 b.den.toNat c0)) w:=by
  have:=run_slice_bnd hc hl hk hle (a0:=a0) hbb
  have hval' : (if c0 = (0 : Int).toNat then a0 else a0.map (·.add ((0 : Int).toNat * te.size))) = a0:=hval
  rw [hval'] at this
  simp only [execOp,ho,hv',Sem.run_bind,Option.map_none]
  rw [this]
  rfl
 have hle' : b.den.toNat≤m:=by omega
 have hown' : ownsW w gr e sz (.slice a0 b.den.toNat c0) b.den.toNat (xs.take (b.den.toNat * sz)):=by
  have hmul : b.den.toNat * sz≤m * sz:=Nat.mul_le_mul_right _ hle'
  refine ⟨by rw [List.length_take,k2.1]; omega,?_⟩
  rcases k2.2 with ⟨e1,e2⟩ | ⟨g,cap,cur,fr,e1,e2,e3,e4,e5,e6,e7⟩
  ·simp only [Value.slice.injEq] at e1
   obtain ⟨rfl,_,rfl⟩:=e1
   exact .inl ⟨by simp; omega,by omega⟩
  ·simp only [Value.slice.injEq] at e1
   obtain ⟨rfl,_,rfl⟩:=e1
   refine .inr ⟨g,c0,cur,fr,rfl,e2,e3,by omega,e5,e6,?_⟩
   rw [←e7,List.take_take]
   congr 1
   omega
 have hnl' : nl.den = true↔Value.slice a0 b.den.toNat c0 = .slice none 0 0:=by
  rw [hnl]
  constructor
  ·intro e1
   simp only [Value.slice.injEq] at e1 ⊢
   exact ⟨e1.1,by omega,e1.2.2⟩
  ·intro e1
   simp only [Value.slice.injEq] at e1 ⊢
   refine ⟨e1.1,?_,e1.2.2⟩
   have:=e1.2.2
   omega
 have hrow : rowIn E w f b.den.toNat sz (xs.take (b.den.toNat * sz)) :=
  ⟨fun i hi=>k5.1 i (by omega),fun i j s u hi hs hu=>k5.2 i j s u (by omega) hs (by
   rw [List.getElem?_take] at hu
   split at hu
   ·exact hu
   ·cases hu)⟩
 have hro:=row_RO (nl:=nl) (n:=.a b.den) rfl hnl' hown' (by simp only [ST.den]; omega) (fun u hu=>k4 u (List.mem_of_mem_take hu)) hrow
 have hbase:=st.base
 let E' : Env:=⟨E.β,E.τ,E.O,E.κ,E.ζ,fun b' o=>E.I b' o∨((Value.slice a0 b.den.toNat c0).ownBlock = some b'∧o < b.den.toNat * sz)⟩
 have hx : Ext E w E' w:=⟨fun _ _ h=>h,fun _ _ h=>.inl h,fun _ _ h=>h,fun _ _ h=>h,fun _ _ h=>.inl h,fun _ _ _=>rfl⟩
 have hbl : ∀ b',(Value.slice a0 b.den.toNat c0).ownBlock = some b'→E.O b' = some h:=fun b' hb=>(k6 b' (by cases a0<;>exact hb)).1
 unfold Oper.wp
 rw [hrun]
 refine hK _ w E' hx ⟨hbase.os,hbase.tape,hbase.output,hbase.size,hbase.old,fun b' o hi=>?_,fun b' o hi=>?_,fun b' o hi=>?_,hbase.Obd,hbase.β0.ext hx⟩ (fun k=>?_) (.ro hro)
 ·obtain ⟨i1,i2⟩:=hbase.I0 b' o hi; exact ⟨.inl i1,i2⟩
 ·rcases hi with hi | ⟨hb,_⟩
  ·exact hbase.Ibd b' o hi
  ·exact owned_lt hbase (hbl b' hb)
 ·rcases hi with hi | ⟨hb,_⟩
  ·exact hbase.Inew b' o hi
  ·exact .inr (hbase.Obd b' h (hbl b' hb)).2
 ·show HOk E' w k (upd hf' h .gone k)
  by_cases e : k = h
  ·subst e
   simp only [upd,if_pos]
   trivial
  ·simp only [upd,if_neg e]
   refine HOk.keep hx (st.heap k) rfl rfl rfl rfl fun b' hO=>⟨hO,rfl,fun o hi=>?_⟩
   rcases hi with hi | ⟨hb,_⟩
   ·exact hi
   ·rw [hbl b' hb] at hO; exact absurd (Option.some.inj hO).symm e
theorem local_slice_tail (hc : CxOk P cx) {t e sz : Nat} {ti : TI} (hl : look t cx.tt = some ti) (hk : ti.k = .slice e) (hsz : size? cx e = some sz) {x : Operand} {lo hi : Option Operand} (ho : o.op = .slice t x lo hi none) {nl : BT} {n n0 : ST} {gr : Bool} {e' : TypeId} {f : Nat→List SV} {h : Nat}
  (hv : rd cx σ T x = some (.osl nl n h)) (hh : nth σ.hp h = some (.own e' n0 sz gr f)) (hhi : optRd cx σ T hi = some none) {k : IntKind} {b : ST} (hlo : optRd cx σ T lo = some (some (.int k b)))
  (h0 : n.den = n0.den) (hob : 0≤b.den∧b.den≤n.den) : Local P cx.gl σ T o ⟨.tsl n b h,[],[h],[]⟩:=by
 intro B N E a w ff hf' hg st ag agh hT
 have hrx:=rd_sound hv hg st (ag_of ag (by simp [ho,Op.operands])) hT
 have h2:=optRd_sound hg st hT hlo (fun y hy=>ag_of ag (by subst hy; simp [ho,Op.operands])) (d:=.l 0) (t:=b) rfl
 have hlon : lo≠none:=by rintro rfl; simp [optRd] at hlo
 have hhin : hi = none:=by
  cases hi with
  | none=>rfl
  | some y =>
   simp only [optRd] at hhi
   split at hhi<;>simp at hhi
 subst hhin
 have hlo' : ∃ k,lo.map a.eval = some (.int k b.den):=by
  rcases h2 with ⟨rfl,_⟩ | ⟨y,k,rfl,e⟩
  ·exact absurd rfl hlon
  ·exact ⟨k,by simp [e]⟩
 have hkk:=st.heap h
 have hsame:=row_same agh (List.mem_singleton.2 rfl) hh
 rw [hsame] at hkk
 obtain ⟨v,m,xs,k1,kz,k2,k3,k4,k5,k6⟩:=hkk
 obtain ⟨hv',hnl⟩:=osl_val hrx k1 k2 k3 h0
 obtain ⟨a0,c0,rfl⟩:=k2.shape
 have hmn : n.den = (m : Int):=by rw [h0,k3]
 have hcap:=ownsW_cap k2
 obtain ⟨te,hle,hte⟩:=size?_ti hsz
 have hbb:=run_bounds (P:=P) (sl:=true) (len:=m) (cap:=c0) (lo:=lo.map a.eval) (hi:=none) (l:=b.den) (h:=(m : Int)) (w:=w) (.inr hlo') (.inl ⟨rfl,rfl⟩) hob.1 (by omega) (Int.le_refl _) hcap
 have hrun:=run_slice_bnd hc hl hk hle (a0:=a0) hbb
 refine yields_value st (v:=tailV a0 m c0 sz b.den.toNat) ?_ rfl (.tsl ⟨_,_,_,rfl⟩ ⟨a0,m,c0,sz,k1,kz,by omega,fun _=>⟨b.den.toNat,by omega,by omega,rfl⟩⟩)
 simp only [execOp,ho,hv',Sem.run_bind,Option.map_none]
 rw [hrun,←hte]
 rfl
theorem local_clear_own (hc : CxOk P cx) {c : Call} (ho : o.op = .call c) (hcal : c.callee = .builtin .clear) {x : Operand} {t e sz : Nat} {te ti : TI} (hx : c.args.toList = [x]) (ht : c.argTypes.toList = [t]) (hlt : look t cx.tt = some ti) (hk : ti.k = .slice e) (hle : look e cx.tt = some te) (hsz : te.size = sz)
  {n n0 aa : ST} {gr : Bool} {f f' : Nat→List SV} {h : Nat} (hv : rd cx σ T x = some (.tsl n aa h)) (hh : nth σ.hp h = some (.own e n0 sz gr f)) (h0 : n.den = n0.den) (hpl : plainV (.agg te.zero) = true)
  (hf1 : ∀ i : Nat,(i : Int) < aa.den→f' i = f i) (hf2 : ∀ i : Nat,aa.den≤(i : Int)→f' i = te.zero) (hT0 : allT (condsOf σ.gm T)) : Local P cx.gl σ T o ⟨.tup [],[.put h (.own e n0 sz gr f')],[h],[]⟩:=by
 intro B N E a w ff hf hg st ag agh hT K' Q hK
 have mx : x∈o.op.operands.toList:=by simp [ho,Op.operands,Call.operands,hcal,hx]
 have hrx:=rd_sound hv hg st (ag_of ag mx) hT
 have e1 : c.args = #[x]:=Array.ext' (by simpa using hx)
 have e2 : c.argTypes = #[t]:=Array.ext' (by simpa using ht)
 have hsame:=row_same agh (List.mem_singleton.2 rfl) hh
 have hkk:=st.heap h
 rw [hsame] at hkk
 obtain ⟨v,m,xs,k1,kz,k2,k3,k4,k5,k6⟩:=hkk
 obtain ⟨_,ad,m',c',sz',t1,t2,t3,t4⟩:=hrx.tsl_inv
 rw [k1] at t1
 rw [kz] at t2
 cases t2
 obtain ⟨a1,c1,rfl⟩:=k2.shape
 simp only [Option.some.injEq,Value.slice.injEq] at t1
 obtain ⟨rfl,rfl,rfl⟩:=t1
 obtain ⟨k,q1,q2,q3⟩:=t4 (by rw [h0,k3])
 have hu:=(hc.ti hlt).slice hk
 obtain ⟨z,hzr,hzrel,hz1⟩:=(hc.ti hle).zero E w
 have hzl:=(hc.ti hle).zlen
 have hzsz : z.cells.size = sz:=by have:=hzrel.1; rw [hzl,hsz] at this; simpa using this.symm
 by_cases hkm : k = m
 ·subst hkm
  have hrun : (execOp a.eval o).run P w = .ok (.value (.tuple #[])) w:=by
   have : (Builtin.clear_ #[t] o.type #[a.eval x]).run P w = .ok (.tuple #[]) w:=by
    rw [q3]
    simp only [tailV,Nat.sub_self]
    cases (if c1 = k then a1 else a1.map (·.add (k * sz)))<;>simp [Builtin.clear_,run_underlying hu]
   simp [execOp,ho,resolve,hcal,e1,e2,invoke,builtin,this]
  obtain ⟨E',x1,x2,x3,x4,x5⟩:=put_own (h:=h) (e:=e) (sz:=sz) (n:=k) (m:=0) (w':=w) (f':=f') st (.inr ⟨⟨_,_,_,hsame⟩,k1,kz,k6⟩) k2.shape (by simpa using k2) k4
   (.inl ⟨rfl,grown_refl w _⟩) (fun _ _=>rfl) (nt':=n0) (by simpa using k3) (by
    refine ⟨fun i hi=>?_,fun i j s u hi hs hu=>?_⟩
    ·rw [hf1 i (by omega)]; exact k5.1 i hi
    ·rw [hf1 i (by omega)] at hs; exact k5.2 i j s u hi hs hu)
  unfold Oper.wp
  rw [hrun]
  exact hK _ w E' x1 x2 x3 (.tup rfl (by simp))
 have hkl : k < m:=by omega
 rcases k2.2 with ⟨e3,e4⟩ | ⟨b,cap,cur,fr,e3,hg2,hfr,hmc,hcm,hcs,htake⟩
 ·omega
 simp only [Value.slice.injEq] at e3
 obtain ⟨rfl,_,rfl⟩:=e3
 have hxl:=k2.1
 obtain ⟨us,hus⟩ : ∃ us,us = (Builtin.zeroCells z.cells (m - k)).toList:=⟨_,rfl⟩
 have husl : us.length = (m - k) * sz:=by rw [hus]; simp [Builtin.zeroCells,hzsz]
 have husg : ∀ q,q < (m - k) * sz→us[q]? = some (z.cells.toList.getD (q % sz) undef):=by
  intro q hq
  have hpos : 0 < sz:=by
   rcases Nat.eq_zero_or_pos sz with h | h
   ·rw [h] at hq; simp at hq
   ·exact h
  have hm : q % sz < z.cells.size:=by rw [hzsz]; exact Nat.mod_lt _ hpos
  rw [hus,Array.getElem?_toList]
  simp only [Builtin.zeroCells,hzsz,Array.getElem?_map]
  rw [Array.getElem?_range]
  simp only [hq,if_true,Option.map_some,Option.some.injEq]
  rw [List.getD_eq_getElem?_getD,Array.getElem!_eq_getD,Array.getD_eq_getD_getElem?,Array.getElem?_toList]
  simp [hm]
 have husone : ∀ u∈us,u.oneCell' = true:=by
  intro u hu
  obtain ⟨q,hq⟩:=List.mem_iff_getElem?.1 hu
  have hql : q < (m - k) * sz:=by rw [←husl]; exact (List.getElem?_eq_some_iff.1 hq).1
  have hpos : 0 < sz:=by
   rcases Nat.eq_zero_or_pos sz with h | h
   ·rw [h] at hql; simp at hql
   ·exact h
  have hm : q % sz < z.cells.toList.length:=by simp [hzsz]; exact Nat.mod_lt _ hpos
  rw [husg q hql] at hq
  simp only [Option.some.injEq] at hq
  rw [←hq,List.getD_eq_getElem?_getD,List.getElem?_eq_getElem hm]
  exact hz1 _ (List.getElem_mem hm)
 have hmul : k * sz + (m - k) * sz = m * sz:=by rw [←Nat.add_mul]; congr 1; omega
 have hmul2 : m * sz≤c1 * sz:=Nat.mul_le_mul_right _ hmc
 let C' : Array Value:=(cur.toList.take (k * sz) ++ us ++ cur.toList.drop (k * sz + us.length)).toArray
 have hle' : k * sz + us.length≤cur.size:=by rw [husl]; omega
 have hC's : C'.size = cur.size:=by simp [C']; omega
 have hCget : ∀ q : Nat,C'[q]? = if k * sz≤q∧q < k * sz + us.length then us[q - k * sz]? else cur[q]?:=by
  intro q
  have : C'[q]? = (cur.toList.take (k * sz) ++ us ++ cur.toList.drop (k * sz + us.length))[q]?:=by simp [C']
  rw [this]
  split
  ·rename_i e
   rw [List.append_assoc,List.getElem?_append_right (by simp; omega),List.getElem?_append_left (by simp; omega)]
   congr 1; simp; omega
  ·rename_i e
   by_cases hi : q < k * sz
   ·rw [List.append_assoc,List.getElem?_append_left (by simp; omega),List.getElem?_take,if_pos hi]; simp
   ·rw [List.getElem?_append_right (by simp; omega),List.getElem?_drop,←Array.getElem?_toList]
    congr 1; simp; omega
 let ys : List Value:=C'.toList.take (m * sz)
 have hysl : ys.length = m * sz:=by simp [ys,hC's]; omega
 have hyget : ∀ q,q < m * sz→ys[q]? = if k * sz≤q then us[q - k * sz]? else xs[q]?:=by
  intro q hq
  simp only [ys]
  rw [List.getElem?_take,if_pos hq,Array.getElem?_toList,hCget]
  by_cases h1 : k * sz≤q
  ·rw [if_pos ⟨h1,by rw [husl]; omega⟩,if_pos h1]
  ·rw [if_neg (fun h=>h1 h.1),if_neg h1,←htake,List.getElem?_take,if_pos hq]; simp
 have hfr' : fr = (0,0)∨cur.size≤fr.1:=by
  rcases hfr with h | ⟨_,h⟩
  ·exact .inl h
  ·rw [h]; exact .inr (Nat.le_refl _)
 have hsc:=run_storeCells_fr (P:=P) b (k * sz) e fr us 0 cur w hg2 hfr' (by simpa using hle') husone
 simp only [Nat.add_zero] at hsc
 have hrun : (execOp a.eval o).run P w = .ok (.value (.tuple #[])) (w.setRow b C'):=by
  have : (Builtin.clear_ #[t] o.type #[a.eval x]).run P w = .ok (.tuple #[]) (w.setRow b C'):=by
   rw [q3]
   have hne : c1≠k:=by omega
   obtain ⟨d,hd⟩ : ∃ d,m - k = d + 1:=⟨m - k - 1,by omega⟩
   have hz2 : (Builtin.zeroCells z.cells (d + 1)).toList = us:=by rw [hus,hd]
   simp only [tailV,if_neg hne,Option.map_some,add_lit,Nat.zero_add,hd]
   simp [Builtin.clear_,run_underlying hu,hzr,hz2,hsc,C']
  simp [execOp,ho,resolve,hcal,e1,e2,invoke,builtin,this]
 have hpc : ∀ c∈te.zero,plainV c = true:=by
  simp only [plainV] at hpl
  exact (plainL_iff _).1 hpl
 have hrow : rowIn E w f' m sz ys:=by
  refine ⟨fun i hi=>?_,fun i j s u hi hs hu=>?_⟩
  ·by_cases hik : i < k
   ·rw [hf1 i (by omega)]; exact k5.1 i hi
   ·rw [hf2 i (by omega),hzl,hsz]
  ·have hj : j < sz:=by
    by_cases hik : i < k
    ·rw [hf1 i (by omega)] at hs
     rw [←k5.1 i hi]; exact (List.getElem?_eq_some_iff.1 hs).1
    ·rw [hf2 i (by omega)] at hs
     have:=(List.getElem?_eq_some_iff.1 hs).1
     rw [hzl,hsz] at this; exact this
   have hidx : i * sz + j < m * sz:=by
    have : (i + 1) * sz≤m * sz:=Nat.mul_le_mul_right _ hi
    rw [Nat.add_mul] at this
    omega
   rw [hyget _ hidx] at hu
   by_cases hik : i < k
   ·rw [hf1 i (by omega)] at hs
    have : (i + 1) * sz≤k * sz:=Nat.mul_le_mul_right _ hik
    rw [Nat.add_mul] at this
    rw [if_neg (by omega)] at hu
    exact k5.2 i j s u hi hs hu
   ·rw [hf2 i (by omega)] at hs
    have h3 : k * sz≤i * sz:=Nat.mul_le_mul_right _ (by omega)
    rw [if_pos (by omega)] at hu
    have h4 : i * sz + j - k * sz = (i - k) * sz + j:=by
     have : i * sz = k * sz + (i - k) * sz:=by rw [←Nat.add_mul]; congr 1; omega
     omega
    have h5 : (i - k) * sz + j < (m - k) * sz:=by omega
    rw [h4,husg _ h5] at hu
    have h6 : ((i - k) * sz + j) % sz = j:=by rw [Nat.add_comm,Nat.add_mul_mod_self_right,Nat.mod_eq_of_lt hj]
    rw [h6] at hu
    simp only [Option.some.injEq] at hu
    have hjz : j < z.cells.toList.length:=by simp [hzsz]; exact hj
    have hzj : z.cells.toList[j]? = some u:=by
     rw [←hu,List.getD_eq_getElem?_getD,List.getElem?_eq_getElem hjz]; rfl
    exact (hzrel.2 j s u hs hzj).plainOne (hpc s (List.mem_of_getElem? hs)) (hz1 u (List.mem_of_getElem? hzj))
 have hyone : ∀ u∈ys,u.oneCell' = true:=by
  intro u hu
  obtain ⟨q,hq⟩:=List.mem_iff_getElem?.1 hu
  have hqlt : q < m * sz:=by rw [←hysl]; exact (List.getElem?_eq_some_iff.1 hq).1
  rw [hyget q hqlt] at hq
  split at hq
  ·exact husone u (List.mem_of_getElem? hq)
  ·exact k4 u (List.mem_of_getElem? hq)
 have hown' : ownsW (w.setRow b C') gr e sz (.slice (some ⟨b,0,none⟩) m c1) (m + 0) ys:=by
  refine ⟨hysl,.inr ⟨b,c1,C',fr,rfl,setRow_heap w b cur C' e fr hg2,?_,hmc,hcm,by rw [hC's]; exact hcs,rfl⟩⟩
  rw [hC's]; exact hfr
 obtain ⟨E',x1,x2,x3,x4,x5⟩:=put_own (h:=h) (e:=e) (sz:=sz) (n:=m) (m:=0) (f':=f') st (.inr ⟨⟨_,_,_,hsame⟩,k1,kz,k6⟩) k2.shape hown' hyone
  (.inl ⟨rfl,⟨rfl,rfl,rfl,by simp,fun k _ hk=>setRow_other w b k C' (fun e=>hk (by rw [e]; rfl))⟩⟩) (fun _ _=>rfl) (nt':=n0) (by simpa using k3) (by simpa using hrow)
 unfold Oper.wp
 rw [hrun]
 exact hK _ _ E' x1 x2 x3 (.tup rfl (by simp))
end
end Go.Sx
namespace Go.Sx
open Go
section
variable {P : Program} {cx : Cx} {σ : Sy} {T : List Nat} {o : Oper} {K : Out→Prop}
theorem local_strBytes (hc : CxOk P cx) {src dst e : TypeId} {x : Operand} (ho : o.op = .convert src dst x) {ts td te : TI} (hls : look src cx.tt = some ts) (hks : ts.k = .string) (hld : look dst cx.tt = some td) (hkd : td.k = .slice e) (hle : look e cx.tt = some te) (hke : te.k = .int .u8)
  {s : List UInt8} (hv : rd cx σ T x = some (.str s)) (hlen : allT (condsOf σ.gm T)→s.length≤maxLen) : Local P cx.gl σ T o ⟨.sl (.l false) (.len s) 1 (byteRow s),[],[],[]⟩:=by
 intro B N E a w ff hf hg st ag agh hT K' Q hK
 have hx:=(rd_sound hv hg st (ag_of ag (by simp [ho,Op.operands])) hT).str_inv
 have hb:=st.base
 have hrun:=run_bytes_of_string (P:=P) w src dst e (bytes s) ((hc.ti hls).string hks) ((hc.ti hld).slice hkd) ((hc.ti hle).int hke)
 obtain ⟨C,hC⟩ : ∃ C,C = bytesRow (bytes s) (grownCap w (bytes s).size 0 e):=⟨_,rfl⟩
 rw [←hC] at hrun
 obtain ⟨w',hw'⟩ : ∃ w',w' = w.drew.alloc (.cells C e (C.size,C.size + 1)):=⟨_,rfl⟩
 rw [←hw'] at hrun
 let E' : Env:=⟨E.β,E.τ,E.O,E.κ,E.ζ,fun b o=>E.I b o∨(b = w.heap.size∧o < s.length)⟩
 have hold : ∀ b,b < w.heap.size→w'.heap[b]? = w.heap[b]?:=fun b hlt=>by rw [hw']; exact RowKit.Below.heap_alloc w.drew _ b hlt
 have hnew : w'.heap[w.heap.size]? = some (.cells C e (C.size,C.size + 1)):=by rw [hw']; show (w.heap.push _)[w.heap.size]? = _; simp
 have hcellold : ∀ (p : Addr),p.block < w.heap.size→w'.cell? p = w.cell? p:=fun p hp=>World.cell?_of_block (w:=w) (hold _ hp)
 have hext : Ext E w E' w':=⟨fun _ _ h=>h,fun _ _ h=>.inl h,fun _ _ h=>h,fun _ _ h=>h,fun b o h=>.inl h,fun b o h=>hcellold _ (hb.Ibd b o h)⟩
 have hsz : w'.heap.size = w.heap.size + 1:=by rw [hw']; show (w.heap.push _).size = _; simp
 have hbase : Base B E' w':=by
  refine ⟨by rw [hw']; exact hb.os,by rw [hw']; exact hb.tape,by rw [hw']; exact hb.output,by have:=hb.size; omega,fun b hlt hX=>?_,fun b o hi=>?_,fun b o hi=>?_,fun b o hi=>?_,fun b h hO=>?_,hb.β0.ext hext⟩
  ·rw [hold b (by have:=hb.size; omega)]; exact hb.old b hlt hX
  ·obtain ⟨i1,i2⟩:=hb.I0 b o hi
   exact ⟨.inl i1,by rw [hcellold _ (hb.Ibd b o i1)]; exact i2⟩
  ·rcases hi with hi | ⟨rfl,_⟩
   ·have:=hb.Ibd b o hi; omega
   ·omega
  ·rcases hi with hi | ⟨rfl,_⟩
   ·exact hb.Inew b o hi
   ·exact .inr (.inl hb.size)
  ·obtain ⟨o1,o2⟩:=hb.Obd b h hO
   exact ⟨by omega,o2⟩
 have hbs : (bytes s).size = s.length:=by simp [bytes,ByteArray.size]
 unfold Oper.wp
 have hex : (execOp a.eval o).run P w = .ok (.value (.slice (some ⟨w.heap.size,0,none⟩) (bytes s).size (grownCap w (bytes s).size 0 e))) w':=by
  simp only [execOp,ho,hx,Sem.run_bind]
  rw [hrun]
  rfl
 rw [hex]
 refine hK _ w' E' hext hbase (fun k=>HOk.keep hext (st.heap k) rfl rfl rfl rfl fun b hO=>⟨hO,hold b (owned_lt hb hO),fun o hi=>?_⟩) (.ro ?_)
 ·rcases hi with hi | ⟨rfl,_⟩
  ·exact hi
  ·exact absurd (owned_lt hb hO) (by omega)
 ·refine .sl (fun i _=>.int .u8 ((s.getD i 0).toNat : Int)) rfl ?_ ?_ ?_ (fun _=>rfl) (fun i hi=>rfl) (fun i j hi hj=>rfl) (fun i j hi hj=>?_) (fun i j s' hi hs=>?_)
  ·show ((s.length : Nat) : Int) = _
   rw [hbs]
  ·exact grownCap_ge ..
  ·exact grownCap_le_maxLen _ _ _ _ (by rw [hbs]; exact hlen hT)
  ·have hj0 : j = 0:=by omega
   subst hj0
   rw [hbs] at hi
   refine ⟨?_,.inr ⟨rfl,by simpa using hi⟩⟩
   have hCi : C[i]? = some (.int .u8 ((s.getD i 0).toNat : Int)):=by
    rw [hC]
    simp [bytesRow,bytes,Array.getElem?_append,hi]
   simp [World.cell?,hnew,hCi]
  ·cases j with
   | zero=>simp [byteRow] at hs; subst hs; exact .int rfl
   | succ j=>simp [byteRow] at hs
def cellNat : List SV→Nat
 | [.int _ t]=>t.den.toNat
 | _=>0
theorem strRow_exists {n : Int} {f : Nat→List SV} (hb : ByteRow n f) : ∃ r,StrRow r n f:=by
 have h0:=hb.nn
 refine ⟨(List.range n.toNat).map fun i=>UInt8.ofNat (cellNat (f i)),by simp; omega,fun i t hi ht=>?_⟩
 obtain ⟨t',ht',h1,h2⟩:=hb.h i hi
 rw [ht] at ht'
 simp only [List.cons.injEq,SV.int.injEq,true_and,and_true] at ht'
 subst ht'
 have hlt : i < n.toNat:=by omega
 simp [List.getD_eq_getElem?_getD,hlt,ht,cellNat]
 omega
theorem local_bytesStr (hc : CxOk P cx) {src dst e : TypeId} {x : Operand} (ho : o.op = .convert src dst x) {ts td te : TI} (hls : look src cx.tt = some ts) (hks : ts.k = .slice e) (hld : look dst cx.tt = some td) (hkd : td.k = .string) (hle : look e cx.tt = some te) (hke : te.k = .int .u8)
  {nl : BT} {n : ST} {f : Nat→List SV} (hv : rd cx σ T x = some (.sl nl n 1 f)∨∃ h,rd cx σ T x = some (.gsl nl n 1 f h)) {r : List UInt8} (hr : allT (condsOf σ.gm T)→ByteRow n.den f∧StrRow r n.den f) : Local P cx.gl σ T o ⟨.str r,[],[],[]⟩:=by
 intro B N E a w ff hf hg st ag agh hT
 obtain ⟨hb,hr⟩:=hr hT
 have hx : RO E.I w (.sl nl n 1 f) (a.eval x):=by
  rcases hv with hv | ⟨h,hv⟩
  ·cases rd_sound hv hg st (ag_of ag (by simp [ho,Op.operands])) hT with
   | ro h=>exact h
  ·cases rd_sound hv hg st (ag_of ag (by simp [ho,Op.operands])) hT with
   | ro h=>cases h
   | gsl h _=>exact h
 refine yields_value st (v:=.string (bytes r)) ?_ rfl (.ro (.str rfl))
 simp only [execOp,ho,Sem.run_bind]
 have hus:=(hc.ti hls).slice hks
 have hud:=(hc.ti hld).string hkd
 have hue:=(hc.ti hle).int hke
 generalize a.eval x = vx at hx
 cases hx with
 | slnil h hn =>
  have : r = []:=List.eq_nil_of_length_eq_zero (by have:=hr.len; omega)
  subst this
  simp [convert,run_underlying hus,run_underlying hud,run_underlying hue,Conv.bytesToString,bytes]
  rfl
 | sl g h hn hcap hcm hs hl h1 hcell hrel =>
  rename_i ad m cap
  have hrl : r.length = m:=by have:=hr.len; omega
  have:=run_convert_bytes_back (P:=P) w src dst e ad cap r hus hue hud (fun j hj=>by
   have hjm : j < m:=by omega
   obtain ⟨t,ht,_⟩:=hb.h j (by omega)
   have e1:=hr.row j t (by omega) ht
   have hc1:=(hcell j 0 hjm (by omega)).1
   have hr1:=hrel j 0 (.int .u8 t) hjm (by rw [ht]; rfl)
   have hg1 : g j 0 = .int .u8 t.den:=(Rel.ro (E:=E) hr1).int_inv
   rw [hg1] at hc1
   rw [List.getD_eq_getElem?_getD,List.getElem?_eq_getElem hj] at e1
   simp only [Option.getD_some] at e1
   rw [e1,←hc1]
   have hsp:=hs (by omega)
   obtain ⟨ab,ao,asp⟩:=ad
   simp only at hsp
   subst hsp
   simp [Addr.add]
   split
   ·rename_i hj0; subst hj0; simp
   ·rfl)
  rw [hrl] at this
  rw [this]
  rfl
end
end Go.Sx
namespace Go.Sx
open Go
section
variable {P : Program} {cx : Cx} {σ : Sy} {T : List Nat} {o : Oper}
theorem TIok.map {t : Nat} {ti : TI} (h : TIok P t ti) {k e : TypeId} (hk : ti.k = .map k e) : P.underlying t = some (.map k e):=by
 obtain ⟨d,hd,hb⟩:=h.und
 rw [hk] at hb
 cases d<;>simp only [kindB,Bool.false_eq_true,beq_iff_eq,Bool.and_eq_true] at hb
 rw [hd,hb.1,hb.2]
theorem bytes_inj {s t : List UInt8} : bytes s = bytes t↔s = t:=⟨fun h=>by cases h; rfl,fun h=>by rw [h]⟩
theorem bytes_beq (s t : List UInt8) : (bytes s == bytes t) = decide (s = t):=by
 rw [Bool.eq_iff_iff,decide_eq_true_iff]
 constructor
 ·intro h
  have h : ((bytes s).data == (bytes t).data) = true:=h
  rw [beq_iff_eq] at h
  have:=congrArg Array.toList h
  simpa [bytes] using this
 ·rintro rfl
  show ((bytes s).data == (bytes s).data) = true
  simp
def firstS : List MapEntry→List UInt8→Option (Nat×Value)
 | [],_=>none
 | e :: es,s=>match e.key with
  | .string x=>if x = bytes s then some (0,e.val) else (firstS es s).map fun p=>(p.1 + 1,p.2)
  | _=>(firstS es s).map fun p=>(p.1 + 1,p.2)
def SKeys (es : List MapEntry) : Prop:=∀ e∈es,∃ s v,e.key = .string (bytes s)∧e.val = .bool v
theorem findNow_S : ∀ (es : List MapEntry) (s : List UInt8) (i : Nat),SKeys es→Instr.findNow .string (.string (bytes s)) es i = some ((firstS es s).map fun p=>(i + p.1,p.2))
 | [],s,i,_=>rfl
 | e :: es,s,i,h=>by
  obtain ⟨k,v,hk,hv⟩:=h e (List.mem_cons_self ..)
  have ih:=findNow_S es s (i + 1) fun e he=>h e (List.mem_cons_of_mem _ he)
  simp only [Instr.findNow,hk,Instr.sameNow,firstS,bytes_beq]
  by_cases hs : s = k
  ·subst hs; simp
  ·have h2 : ¬ bytes k = bytes s:=fun e=>hs (bytes_inj.1 e).symm
   simp only [hs,decide_false,if_neg h2,ih]
   cases firstS es s with
   | none=>rfl
   | some p=>simp; omega
theorem firstS_get : ∀ {es : List MapEntry} {s : List UInt8} {p : Nat×Value},firstS es s = some p→∃ e,es[p.1]? = some e∧e.key = .string (bytes s)∧e.val = p.2
 | [],s,p,h=>by cases h
 | e :: es,s,p,h=>by
  simp only [firstS] at h
  split at h
  ·rename_i x hx
   split at h
   ·rename_i hxs
    cases h
    exact ⟨e,rfl,by rw [hx,hxs],rfl⟩
   ·obtain ⟨q,hq,rfl⟩:=Option.map_eq_some_iff.1 h
    obtain ⟨e',h1,h2⟩:=firstS_get hq
    exact ⟨e',by simpa using h1,h2⟩
  ·obtain ⟨q,hq,rfl⟩:=Option.map_eq_some_iff.1 h
   obtain ⟨e',h1,h2⟩:=firstS_get hq
   exact ⟨e',by simpa using h1,h2⟩
theorem mgetS_first : ∀ (es : List MapEntry) (s : List UInt8),mgetS es s = match firstS es s with | some (_,.bool v)=>v | _=>false
 | [],s=>rfl
 | e :: es,s=>by
  have ih:=mgetS_first es s
  have hr : mgetS es s = match (firstS es s).map (fun p=>(p.1 + 1,p.2)) with | some (_,.bool v)=>v | _=>false:=by
   rw [ih]
   cases firstS es s with
   | none=>rfl
   | some p=>obtain ⟨i,v⟩:=p; cases v<;>rfl
  cases hk : e.key with
  | string x =>
   simp only [mgetS,firstS,hk]
   by_cases hx : x = bytes s
   ·rw [if_pos hx,if_pos hx]
    cases e.val<;>rfl
   ·rw [if_neg hx,if_neg hx]; exact hr
  | _=>simp only [mgetS,firstS,hk]; exact hr
theorem mgetS_push : ∀ (es : List MapEntry) (s k : List UInt8) (b : Bool) (n : Nat),firstS es s = none→mgetS (es ++ [⟨.string (bytes s),.bool b,n⟩]) k = if k = s then b else mgetS es k
 | [],s,k,b,n,_=>by
  simp only [List.nil_append,mgetS]
  by_cases h : k = s
  ·subst h; simp
  ·have h2 : ¬ bytes s = bytes k:=fun e=>h (bytes_inj.1 e).symm
   rw [if_neg h2,if_neg h]
 | e :: es,s,k,b,n,h=>by
  simp only [firstS] at h
  simp only [List.cons_append,mgetS]
  split at h
  ·rename_i x hx
   split at h
   ·cases h
   ·rename_i hxs
    have ih:=mgetS_push es s k b n (by simpa using h)
    simp only [hx]
    by_cases hk : x = bytes k
    ·rw [if_pos hk,if_pos hk]
     have : k≠s:=fun e=>hxs (by rw [hk,e])
     rw [if_neg this]
    ·rw [if_neg hk,if_neg hk,ih]
  ·have ih:=mgetS_push es s k b n (by simpa using h)
   cases hx : e.key<;>simp only [ih]<;>simp_all
theorem mgetS_set : ∀ (es : List MapEntry) (s k : List UInt8) (b : Bool) (i : Nat) (v : Value),firstS es s = some (i,v)→mgetS (es.modify i fun e=>{ e with key:=.string (bytes s),val:=.bool b }) k = if k = s then b else mgetS es k
 | [],s,k,b,i,v,h=>by cases h
 | e :: es,s,k,b,i,v,h=>by
  simp only [firstS] at h
  have rest : ∀ (p : Nat×Value),firstS es s = some p→(∀ x,e.key = .string x→¬ x = bytes s)→mgetS ((e :: es).modify (p.1 + 1) fun e=>{ e with key:=.string (bytes s),val:=.bool b }) k = if k = s then b else mgetS (e :: es) k:=by
   intro p hp hne
   have ih:=mgetS_set es s k b p.1 p.2 hp
   rw [List.modify_succ_cons]
   simp only [mgetS]
   cases hx : e.key with
   | string x =>
    simp only
    by_cases hk : x = bytes k
    ·rw [if_pos hk,if_pos hk]
     have : k≠s:=fun e2=>hne x hx (by rw [hk,e2])
     rw [if_neg this]
    ·rw [if_neg hk,if_neg hk,ih]
   | _=>simp only [ih]
  split at h
  ·rename_i x hx
   split at h
   ·rename_i hxs
    cases h
    rw [List.modify_zero_cons]
    simp only [mgetS]
    by_cases hk : k = s
    ·subst hk; simp
    ·have h2 : ¬ bytes s = bytes k:=fun e=>hk (bytes_inj.1 e).symm
     have h3 : ¬ x = bytes k:=fun e=>h2 (by rw [←hxs,e])
     rw [if_neg h2,if_neg hk,hx]
     simp only
     rw [if_neg h3]
   ·rename_i hxs
    obtain ⟨q,hq,e2⟩:=Option.map_eq_some_iff.1 h
    cases e2
    exact rest q hq fun y hy=>by rw [hx] at hy; cases hy; exact hxs
  ·rename_i hx
   obtain ⟨q,hq,e2⟩:=Option.map_eq_some_iff.1 h
   cases e2
   exact rest q hq fun y hy=>absurd hy (by intro e3; exact hx _ e3)
theorem run_checkKey_S {t : TypeId} (ht : P.underlying t = some .string) (b : Bool) (s : ByteArray) (w : World) : (Instr.checkKey b 10000 t (.string s)).run P w = .ok () w:=by
 have h : Instr.checkKey b 10000 t (.string s) = Instr.checkKey b (9999 + 1) t (.string s):=rfl
 rw [h,Instr.checkKey]
 simp only [Sem.run_bind,run_underlying ht,Result.andThen_ok,Sem.run_pure]
theorem run_findKey_S {t : TypeId} (ht : P.underlying t = some .string) {es : List MapEntry} (h : SKeys es) (s : List UInt8) (w : World) : (Instr.findKey t (.string (bytes s)) es).run P w = .ok (firstS es s) w:=by
 simp only [Instr.findKey,Sem.run_bind,run_underlying ht,Result.andThen_ok,findNow_S es s 0 h,Sem.run_pure]
 cases firstS es s with
 | none=>rfl
 | some p=>simp
theorem run_getObj_S {w : World} {r : Nat} {es : Array MapEntry} {c : Nat} (hb : w.heap[r]? = some (.map es c)) : (getObj r).run P w = .ok (.map es c) w:=by
 simp [getObj,Sem.run,hb]
theorem run_setObj_S {w : World} {r : Nat} {es : Array MapEntry} {c : Nat} {o' : Obj} (hb : w.heap[r]? = some (.map es c)) : (setObj r o').run P w = .ok () { w with heap:=w.heap.setIfInBounds r o' }:=by
 simp [setObj,Sem.run,hb]
theorem new_obj {B : Bs} {N : Nat} {E : Env} {a : Act} {w : World} {ff : Nat→SG} {hf : Nat→Hl} (st : St B N E a w ff hf) {h : Nat} (hfresh : hf h = .fresh) (o' : Obj) (l : Hl)
  (hl : ∀ (E' : Env) (w' : World),E'.β h = some w.heap.size→E'.O w.heap.size = some h→w'.heap[w.heap.size]? = some o'→(∀ o,¬ E'.I w.heap.size o)→HOk E' w' h l) :
  ∃ E',Ext E w E' (w.alloc o')∧Base B E' (w.alloc o')∧(∀ k,HOk E' (w.alloc o') k (upd hf h l k))∧E'.β h = some w.heap.size∧∀ b k,E'.O b = some k→E.O b = some k∨b = w.heap.size:=by
 have hb:=st.base
 have hfr:=st.heap h
 rw [hfresh] at hfr
 obtain ⟨f1,f2,_,_⟩:=hfr
 let E' : Env:=⟨upd E.β h (some w.heap.size),E.τ,upd E.O w.heap.size (some h),E.κ,E.ζ,E.I⟩
 have hx : Ext E w E' (w.alloc o'):=by
  refine ⟨fun k b hk=>?_,fun _ _ h=>.inl h,fun _ _ h=>h,fun _ _ h=>h,fun _ _ h=>h,fun b o hi=>cell_alloc_old (hb.Ibd b o hi)⟩
  show upd E.β h (some w.heap.size) k = some b
  unfold upd
  by_cases e : k = h
  ·subst e; rw [f1] at hk; cases hk
  ·rw [if_neg e]; exact hk
 refine ⟨E',hx,⟨hb.os,hb.tape,hb.output,?_,?_,?_,?_,?_,?_,hb.β0.ext hx⟩,fun k=>?_,by simp [E',upd],fun b k hO=>by
  have hO : upd E.O w.heap.size (some h) b = some k:=hO
  unfold upd at hO
  split at hO
  ·rename_i e; exact .inr e
  ·exact .inl hO⟩
 ·have:=hb.size; simp; omega
 ·intro b hlt hX; rw [heap_alloc_ne (by have:=hb.size; omega)]; exact hb.old b hlt hX
 ·intro b o hi
  obtain ⟨i1,i2⟩:=hb.I0 b o hi
  exact ⟨i1,by rw [cell_alloc_old (hb.Ibd b o i1)]; exact i2⟩
 ·intro b o hi; have:=hb.Ibd b o hi; simp; omega
 ·exact hb.Inew
 ·intro b k hO
  have hO : upd E.O w.heap.size (some h) b = some k:=hO
  unfold upd at hO
  split at hO
  ·rename_i e; subst e; have:=hb.size; simp; exact .inl this
  ·obtain ⟨o1,o2⟩:=hb.Obd b k hO; simp; exact ⟨by omega,o2⟩
 ·by_cases e : k = h
  ·subst e
   simp only [upd,if_pos]
   refine hl E' _ (by simp [E',upd]) (by simp [E',upd]) (heap_alloc_new w _) fun o hi=>?_
   have:=hb.Ibd _ _ hi
   omega
  ·simp only [upd,if_neg e]
   refine HOk.keep hx (st.heap k) (by simp [E',upd,e]) rfl rfl rfl fun b hO=>?_
   have hlt:=owned_lt hb hO
   exact ⟨by simp [E',upd,Nat.ne_of_lt hlt]; exact hO,heap_alloc_ne hlt,fun _ h=>h⟩
theorem set_heap_get (w : World) (r : Nat) (o : Obj) (k : Nat) (hr : r < w.heap.size) : ({ w with heap:=w.heap.setIfInBounds r o } : World).heap[k]? = if k = r then some o else w.heap[k]?:=by
 show (w.heap.setIfInBounds r o)[k]? = _
 by_cases e : k = r
 ·subst e; rw [if_pos rfl,Array.getElem?_setIfInBounds_self_of_lt hr]
 ·rw [if_neg e,Array.getElem?_setIfInBounds_ne (fun h=>e h.symm)]
theorem set_cell_other (w : World) (r : Nat) (o : Obj) {b off : Nat} (hne : b≠r) : ({ w with heap:=w.heap.setIfInBounds r o } : World).cell? ⟨b,off,none⟩ = w.cell? ⟨b,off,none⟩:=by
 unfold World.cell?
 have : ({ w with heap:=w.heap.setIfInBounds r o } : World).heap[b]? = w.heap[b]?:=by
  show (w.heap.setIfInBounds r o)[b]? = _
  rw [Array.getElem?_setIfInBounds_ne (fun h=>hne h.symm)]
 rw [this]
theorem set_obj {B : Bs} {N : Nat} {E : Env} {a : Act} {w : World} {ff : Nat→SG} {hf : Nat→Hl} (st : St B N E a w ff hf) {h b : Nat} (hO : E.O b = some h) (hI : ∀ o,¬ E.I b o) (o' : Obj) (l : Hl)
  (hl : HOk E { w with heap:=w.heap.setIfInBounds b o' } h l) :
  Ext E w E { w with heap:=w.heap.setIfInBounds b o' }∧Base B E { w with heap:=w.heap.setIfInBounds b o' }∧∀ k,HOk E { w with heap:=w.heap.setIfInBounds b o' } k (upd hf h l k):=by
 have hb:=st.base
 have hblt:=owned_lt hb hO
 have hx : Ext E w E { w with heap:=w.heap.setIfInBounds b o' }:=⟨fun _ _ h=>h,fun _ _ h=>.inl h,fun _ _ h=>h,fun _ _ h=>h,fun _ _ h=>h,fun b2 o hi=>set_cell_other w b o' (fun e=>by subst e; exact hI o hi)⟩
 have hX:=(hb.Obd b h hO).2
 refine ⟨hx,⟨hb.os,hb.tape,hb.output,by simpa using hb.size,?_,?_,?_,hb.Inew,?_,hb.β0⟩,fun k=>?_⟩
 ·intro b2 hlt hnX
  rw [set_heap_get w b o' b2 hblt]
  by_cases e : b2 = b
  ·subst e; rcases hX with hX | hX
   ·omega
   ·exact absurd hX hnX
  ·rw [if_neg e]; exact hb.old b2 hlt hnX
 ·intro b2 o hi
  obtain ⟨i1,i2⟩:=hb.I0 b2 o hi
  exact ⟨i1,by rw [hx.cell b2 o i1]; exact i2⟩
 ·intro b2 o hi; have:=hb.Ibd b2 o hi; simpa using this
 ·intro b2 k hO; have:=hb.Obd b2 k hO; simpa using this
 ·by_cases e : k = h
  ·subst e; simp only [upd,if_pos]; exact hl
  ·simp only [upd,if_neg e]
   refine HOk.keep hx (st.heap k) rfl rfl rfl rfl fun b2 hO2=>⟨hO2,?_,fun _ h=>h⟩
   rw [set_heap_get w b o' b2 hblt,if_neg]
   intro e2
   subst e2
   rw [hO] at hO2
   exact e (Option.some.inj hO2).symm
theorem Rel.mapv_inv {E : Env} {w : World} {h : Nat} {v : Value} (hr : Rel E w (.mapv h) v) : ∃ b,E.β h = some b∧v = .map (some b):=by
 cases hr with
 | ro h=>cases h
 | mapv hb hv=>exact ⟨_,hb,hv⟩
theorem local_makeMap {t : TypeId} (ho : o.op = .makeMap t none) : Local P cx.gl σ T o ⟨.mapv (lenN σ.hp),[.put (lenN σ.hp) (.mset fun _=>false)],[],[]⟩:=by
 intro B N E a w ff hf _ st _ agh _ K' Q hK
 have hfresh : hf (lenN σ.hp) = .fresh:=by
  have:=agh.efs _ (List.mem_singleton.2 rfl)
  simp only [AgE,hfOf,nth_eq,lenN_eq] at this
  rw [lenN_eq,this]; simp
 obtain ⟨E',hx,hb,hh,hβ,_⟩:=new_obj st hfresh (.map #[] 0) (.mset fun _=>false) fun E' w' h1 h2 h3 h4=>⟨_,#[],0,h1,h2,h3,by simp,fun s=>rfl,h4⟩
 unfold Oper.wp
 have : (execOp a.eval o).run P w = .ok (.value (.map (some w.heap.size))) (w.alloc (.map #[] 0)):=by
  simp [execOp,ho,Instr.makeMap,newObj,Sem.run]
 rw [this]
 exact hK _ _ E' hx hb hh (.mapv hβ rfl)
theorem TIok.zero_bool {t : Nat} {ti : TI} (h : TIok P t ti) (hk : ti.k = .bool) (hz : ti.zero = [.bool (.l false)]) (w : World) : (zeroValue t).run P w = .ok (.bool false) w:=by
 obtain ⟨i,z,hi,h1,h2,h3,h4,h5⟩:=h.info
 have e : z = .bool false:=by
  rw [hz] at h4
  rw [hk] at h5
  cases z with
  | agg a=>simp [naggB] at h5
  | bool b=>simp [Value.cells,zsB,zB] at h4; rw [h4]
  | _=>simp [Value.cells,zsB,zB] at h4
 subst e
 simp [zeroValue,typeInfo,hi,h3]
theorem local_lookup (hc : CxOk P cx) {t kt vt : TypeId} {x y : Operand} (ho : o.op = .lookup t x y false) {ti tk tv : TI} (hl : look t cx.tt = some ti) (hk : ti.k = .map kt vt) (hlk : look kt cx.tt = some tk) (hkk : tk.k = .string) (hlv : look vt cx.tt = some tv) (hkv : tv.k = .bool) (hzv : tv.zero = [.bool (.l false)])
  {h : Nat} {s : List UInt8} {F : List UInt8→Bool} (hx : rd cx σ T x = some (.mapv h)) (hy : rd cx σ T y = some (.str s)) (hh : nth σ.hp h = some (.mset F)) : Local P cx.gl σ T o ⟨.bool (.a (F s)),[],[h],[]⟩:=by
 intro B N E a w ff hf hg st ag agh hT K' Q hK
 obtain ⟨b,hb,hv⟩:=(rd_sound hx hg st (ag_of ag (by simp [ho,Op.operands])) hT).mapv_inv
 have hs:=(rd_sound hy hg st (ag_of ag (by simp [ho,Op.operands])) hT).str_inv
 have hk0:=st.heap h
 rw [agh.rds h (by simp),nth_hf hh] at hk0
 obtain ⟨b',es,clock,k1,k2,k3,k4,k5,k6⟩:=hk0
 obtain rfl : b = b':=Option.some.inj (hb.symm.trans k1)
 have hu:=(hc.ti hl).map hk
 have huk:=(hc.ti hlk).string hkk
 have hz:=(hc.ti hlv).zero_bool hkv hzv w
 unfold Oper.wp
 have hval : (Instr.lookup t (.map (some b)) (.string (bytes s)) false).run P w = .ok (.bool (F s)) w:=by
  simp only [Instr.lookup,Sem.run_bind,run_underlying hu,Result.andThen_ok,run_getObj_S k3,Sem.run_pure,run_checkKey_S huk,run_findKey_S huk k4]
  have h1:=k5 s
  rw [mgetS_first] at h1
  cases hf : firstS es.toList s with
  | none =>
   rw [hf] at h1
   simp [hz,←h1]
  | some p =>
   obtain ⟨i,v⟩:=p
   obtain ⟨e,e1,e2,e3⟩:=firstS_get hf
   obtain ⟨_,bv,_,e4⟩:=k4 e (List.mem_of_getElem? e1)
   rw [hf] at h1
   rw [e4] at e3
   simp only at e3 h1
   subst e3
   simp only at h1
   simp [h1]
 have : (execOp a.eval o).run P w = .ok (.value (.bool (F s))) w:=by
  simp only [execOp,ho,hv,hs,Sem.run_bind,hval,Result.andThen_ok,Sem.run_pure]
 rw [this]
 exact hK _ _ E (Ext.refl E w) st.base st.heap (.ro (.bool rfl))
theorem local_mapUpdate (hc : CxOk P cx) {t kt vt : TypeId} {x y z : Operand} (ho : o.op = .mapUpdate t x y z∨o.op = .insert t x y z) {ti tk : TI} (hl : look t cx.tt = some ti) (hk : ti.k = .map kt vt) (hlk : look kt cx.tt = some tk) (hkk : tk.k = .string)
  {h : Nat} {s : List UInt8} {bt : BT} {F F' : List UInt8→Bool} (hx : rd cx σ T x = some (.mapv h)) (hy : rd cx σ T y = some (.str s)) (hz : rd cx σ T z = some (.bool bt)) (hh : nth σ.hp h = some (.mset F)) (hF : MapOf F' F s bt.den) : Local P cx.gl σ T o ⟨.tup [],[.put h (.mset F')],[h],[]⟩:=by
 intro B N E a w ff hf hg st ag agh hT K' Q hK
 have mx : x∈o.op.operands.toList:=by rcases ho with ho | ho<;>simp [ho,Op.operands]
 have my : y∈o.op.operands.toList:=by rcases ho with ho | ho<;>simp [ho,Op.operands]
 have mz : z∈o.op.operands.toList:=by rcases ho with ho | ho<;>simp [ho,Op.operands]
 obtain ⟨b,hb,hv⟩:=(rd_sound hx hg st (ag_of ag mx) hT).mapv_inv
 have hs:=(rd_sound hy hg st (ag_of ag my) hT).str_inv
 have hbv:=(rd_sound hz hg st (ag_of ag mz) hT).bool_inv
 have hk0:=st.heap h
 rw [agh.rds h (by simp),nth_hf hh] at hk0
 obtain ⟨b',es,clock,k1,k2,k3,k4,k5,k6⟩:=hk0
 obtain rfl : b = b':=Option.some.inj (hb.symm.trans k1)
 have hu:=(hc.ti hl).map hk
 have huk:=(hc.ti hlk).string hkk
 have hblt:=owned_lt st.base k2
 obtain ⟨es',clock',hrun,hkeys,hget⟩ : ∃ es' clock',(Instr.mapUpdate t (.map (some b)) (.string (bytes s)) (.bool bt.den)).run P w = .ok () { w with heap:=w.heap.setIfInBounds b (.map es' clock') }∧SKeys es'.toList∧∀ k,mgetS es'.toList k = F' k:=by
  cases hf : firstS es.toList s with
  | none =>
   refine ⟨es.push ⟨.string (bytes s),.bool bt.den,clock⟩,clock + 1,?_,fun e he=>?_,fun k=>?_⟩
   ·simp only [Instr.mapUpdate,Sem.run_bind,run_underlying hu,Result.andThen_ok,run_getObj_S k3,run_checkKey_S huk,run_findKey_S huk k4,hf,run_setObj_S k3]
   ·rw [Array.toList_push,List.mem_append,List.mem_singleton] at he
    rcases he with he | rfl
    ·exact k4 e he
    ·exact ⟨s,bt.den,rfl,rfl⟩
   ·rw [Array.toList_push,mgetS_push _ _ _ _ _ hf,hF.h,k5]
  | some p =>
   obtain ⟨i,v⟩:=p
   obtain ⟨e,e1,e2,e3⟩:=firstS_get hf
   have e1' : es[i]? = some e:=by simpa using e1
   refine ⟨es.modify i fun e=>{ e with key:=.string (bytes s),val:=.bool bt.den },clock,?_,fun e he=>?_,fun k=>?_⟩
   ·have hst : (Instr.keyThatStays (.string (bytes s)) (.string (bytes s))).run P w = .ok (.string (bytes s)) w:=by
     have : Instr.sameBits 10000 (.string (bytes s)) (.string (bytes s)) = true:=by
      show (bytes s == bytes s) = true
      rw [bytes_beq]; simp
     simp only [Instr.keyThatStays,this,if_true,Sem.run_pure]
    simp only [Instr.mapUpdate,Sem.run_bind,run_underlying hu,Result.andThen_ok,run_getObj_S k3,run_checkKey_S huk,run_findKey_S huk k4,hf,e1',Option.map_some,Option.getD_some,e2,hst,run_setObj_S k3]
   ·rw [Array.toList_modify] at he
    obtain ⟨j,hj⟩:=List.mem_iff_getElem?.1 he
    rw [List.getElem?_modify] at hj
    obtain ⟨e0,h0,rfl⟩:=Option.map_eq_some_iff.1 hj
    split
    ·exact ⟨s,bt.den,rfl,rfl⟩
    ·exact k4 e0 (List.mem_of_getElem? h0)
   ·rw [Array.toList_modify,mgetS_set _ _ _ _ _ _ hf,hF.h,k5]
 have hn : HOk E { w with heap:=w.heap.setIfInBounds b (.map es' clock') } h (.mset F'):=by
  refine ⟨b,es',clock',hb,k2,?_,hkeys,hget,k6⟩
  rw [set_heap_get w b _ b hblt,if_pos rfl]
 obtain ⟨x1,x2,x3⟩:=set_obj st k2 k6 (.map es' clock') (.mset F') hn
 unfold Oper.wp
 have : (execOp a.eval o).run P w = .ok .skip { w with heap:=w.heap.setIfInBounds b (.map es' clock') }:=by
  rcases ho with ho | ho<;>simp only [execOp,ho,hv,hs,hbv,Sem.run_bind,hrun,Result.andThen_ok,Sem.run_pure]
 rw [this]
 exact hK undef _ E x1 x2 x3 (.tup rfl (by simp))
end
end Go.Sx
