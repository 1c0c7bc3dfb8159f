/- Part of the proof of the statement: an evaluator of the code at closed data, run by the kernel, and that it is sound; it has no conditions of its own. -/
import Derived.Test.YtljlcljlnhaniaaGreatDoorSxa
set_option linter.unusedVariables false
set_option linter.unusedSimpArgs false
/- Each operation does what the executor says. -/
namespace Go.Sx
open Go

def RelL (E : Env) (w : World) (cs : List SV) (vs : List Value) : Prop :=
  cs.length = vs.length ∧ ∀ (i : Nat) (s : SV) (v : Value), cs[i]? = some s → vs[i]? = some v → Rel E w s v

theorem RelL.mono {E E' : Env} {w w' : World} {cs : List SV} {vs : List Value} (x : Ext E w E' w') (h : RelL E w cs vs) : RelL E' w' cs vs :=
  ⟨h.1, fun i s v a b => (h.2 i s v a b).mono x⟩

theorem RelL.agg {E : Env} {w : World} {cs : List SV} {vs : List Value} (h : RelL E w cs vs) : Rel E w (.agg cs) (.agg ⟨vs⟩) := .agg h.1 h.2
theorem RelL.nil {E : Env} {w : World} : RelL E w [] [] := ⟨rfl, by simp⟩
theorem RelL.cons {E : Env} {w : World} {s : SV} {v : Value} {cs : List SV} {vs : List Value} (h : Rel E w s v) (hs : RelL E w cs vs) : RelL E w (s :: cs) (v :: vs) :=
  ⟨by simp [hs.1], fun i s' v' h1 h2 => by
    cases i with
    | zero => simp at h1 h2; subst h1; subst h2; exact h
    | succ i => simp at h1 h2; exact hs.2 i s' v' h1 h2⟩

theorem RelL.take {E : Env} {w : World} {cs : List SV} {vs : List Value} (n : Nat) (h : RelL E w cs vs) : RelL E w (cs.take n) (vs.take n) :=
  ⟨by simp [h.1], fun i s v h1 h2 => by
    rw [List.getElem?_take] at h1 h2
    split at h1
    · rename_i e; rw [if_pos e] at h2; exact h.2 i s v h1 h2
    · cases h1⟩
theorem RelL.drop {E : Env} {w : World} {cs : List SV} {vs : List Value} (n : Nat) (h : RelL E w cs vs) : RelL E w (cs.drop n) (vs.drop n) :=
  ⟨by simp [h.1], fun i s v h1 h2 => by
    rw [List.getElem?_drop] at h1 h2
    exact h.2 _ s v h1 h2⟩

theorem Rel.agg_inv {E : Env} {w : World} {cs : List SV} {v : Value} (h : Rel E w (.agg cs) v) : ∃ vs, v = .agg ⟨vs⟩ ∧ RelL E w cs vs := by
  cases h with
  | ro h => cases h with
    | agg hl h => exact ⟨_, rfl, hl, fun i s v a b => .ro (h i s v a b)⟩
  | agg hl h => exact ⟨_, rfl, hl, h⟩
theorem Rel.tup_inv {E : Env} {w : World} {cs : List SV} {v : Value} (h : Rel E w (.tup cs) v) : ∃ vs, v = .tuple ⟨vs⟩ ∧ RelL E w cs vs := by
  cases h with
  | ro h => cases h
  | tup hl h => exact ⟨_, rfl, hl, h⟩
theorem Rel.clo_inv {E : Env} {w : World} {f : FuncId} {cs : List SV} {v : Value} (h : Rel E w (.clo f cs) v) : ∃ vs, v = .func (.func f) #[] ⟨vs⟩ ∧ RelL E w cs vs := by
  cases h with
  | ro h => cases h
  | clo hl h => exact ⟨_, rfl, hl, h⟩
theorem Rel.fn_inv {E : Env} {w : World} {f : FuncId} {v : Value} (h : Rel E w (.fn f) v) : v = .func (.func f) #[] #[] := by
  cases h with
  | ro h => cases h with
    | fn h => exact h
theorem Rel.int_inv {E : Env} {w : World} {k : IntKind} {t : ST} {v : Value} (h : Rel E w (.int k t) v) : v = .int k t.den := by
  cases h with
  | ro h => cases h with
    | int h => rw [h]
theorem Rel.bool_inv {E : Env} {w : World} {t : BT} {v : Value} (h : Rel E w (.bool t) v) : v = .bool t.den := by
  cases h with
  | ro h => cases h with
    | bool h => rw [h]
theorem Rel.str_inv {E : Env} {w : World} {s : List UInt8} {v : Value} (h : Rel E w (.str s) v) : v = .string (bytes s) := by
  cases h with
  | ro h => cases h with
    | str h => exact h
theorem Rel.ptr_inv {E : Env} {w : World} {h off : Nat} {v : Value} (hr : Rel E w (.ptr h off) v) : ∃ b, E.β h = some b ∧ v = .pointer (some ⟨b, off, none⟩) := by
  cases hr with
  | ro h => cases h
  | ptr hb hv => exact ⟨_, hb, hv⟩

theorem Rel.osl_inv {E : Env} {w : World} {nl : BT} {n : ST} {h : Nat} {v : Value} (hr : Rel E w (.osl nl n h) v) : (∃ a m c, v = .slice a m c ∧ n.den = (m : Int) ∧ (nl.den = true ↔ a = none)) ∧ tokOk E h n.den v := by
  cases hr with
  | ro h => cases h
  | osl ht hk => exact ⟨ht, hk⟩
theorem Rel.optr_inv {E : Env} {w : World} {n : ST} {h j off : Nat} {v : Value} (hr : Rel E w (.optr n h j off) v) : (∃ b o, v = .pointer (some ⟨b, o, none⟩)) ∧ optrOk E h j off n.den v := by
  cases hr with
  | ro h => cases h
  | optr hv ho => exact ⟨hv, ho⟩

theorem Rel.int {E : Env} {w : World} {k : IntKind} {t : ST} {n : Int} (h : t.den = n) : Rel E w (.int k t) (.int k n) := .ro (.int h)
theorem Rel.bool {E : Env} {w : World} {t : BT} {b : Bool} (h : t.den = b) : Rel E w (.bool t) (.bool b) := .ro (.bool h)

theorem one_of {E : Env} {w : World} {s : SV} {v : Value} (h : oneB s = true) (hr : Rel E w s v) : v.oneCell' = true := by
  cases hr with
  | ro hr =>
    cases hr <;> first | rfl | (simp [oneB] at h; done) | skip
    · rename_i h'; rw [h']; rfl
    · rename_i h'; subst h'; exact h
    · rename_i h'; rw [h']; rfl
  | ptr hb hv => rw [hv]; rfl
  | gsl hr ht => cases hr <;> rfl
  | mrow hb hm hv => rw [hv]; rfl
  | mptr hb hz hv => rw [hv]; rfl
  | osl ht hk => obtain ⟨a, m, c, rfl, _⟩ := ht; rfl
  | optr hv ho => obtain ⟨b, o, rfl⟩ := hv; rfl
  | agg hl _ => simp [oneB] at h
  | tup hl _ => simp [oneB] at h
  | clo hl _ => simp [oneB] at h

theorem onesB_get : ∀ {cs : List SV} (_ : onesB cs = true) {i : Nat} {s : SV}, cs[i]? = some s → oneB s = true
  | [], _, i, s, hs => by simp at hs
  | c :: cs, h, i, s, hs => by
    simp only [onesB, Bool.and_eq_true] at h
    cases i with
    | zero => simp at hs; subst hs; exact h.1
    | succ i => simp at hs; exact onesB_get h.2 hs

theorem ones_of {E : Env} {w : World} {cs : List SV} {vs : List Value} (h : onesB cs = true) (hr : RelL E w cs vs) : ∀ v ∈ vs, v.oneCell' = true := by
  intro v hv
  obtain ⟨i, hi⟩ := List.mem_iff_getElem?.1 hv
  have hlt : i < cs.length := by rw [hr.1]; exact (List.getElem?_eq_some_iff.1 hi).1
  exact one_of (onesB_get h (List.getElem?_eq_getElem hlt)) (hr.2 i _ v (List.getElem?_eq_getElem hlt) hi)

/-- The cells of a value. -/
theorem cells_of {E : Env} {w : World} {s : SV} {v : Value} (h : onesB s.cells = true) (hr : Rel E w s v) : RelL E w s.cells v.cells.toList := by
  by_cases ha : ∃ cs, s = .agg cs
  · obtain ⟨cs, rfl⟩ := ha
    obtain ⟨vs, rfl, hl⟩ := hr.agg_inv
    exact hl
  · have hs : s.cells = [s] := by
      cases s <;> first | rfl | exact (ha ⟨_, rfl⟩).elim
    rw [hs] at h ⊢
    simp only [onesB, Bool.and_true] at h
    have h1 := one_of h hr
    have hv : v.cells = #[v] := by cases v <;> first | rfl | simp [Value.oneCell'] at h1
    rw [hv]
    exact .cons hr .nil

def slotsOf (op : Op) : List Nat := op.operands.toList.flatMap opSlots

def AgS (σ : Sy) (ff : Nat → SG) (o : Oper) : Prop := ∀ s ∈ slotsOf o.op, ff s = ffOf σ s

def AgC (hp : List Hl) (hf : Nat → Hl) (x : Nat × Nat × Nat) : Prop :=
  ∀ ty cs, hfOf hp x.1 = .blk ty cs → ∃ cs', hf x.1 = .blk ty cs' ∧ cs'.length = cs.length ∧ ∀ j, x.2.1 ≤ j → j < x.2.1 + x.2.2 → cs'[j]? = cs[j]?

def AgE (hp : List Hl) (hf : Nat → Hl) : Ef → Prop
  | .set h _ _ => ∀ ty cs, hfOf hp h = .blk ty cs → ∃ cs', hf h = .blk ty cs' ∧ cs'.length = cs.length
  | .put h _ => hf h = hfOf hp h

structure AgH (hp : List Hl) (hf : Nat → Hl) (r : Out) : Prop where
  rds : ∀ h ∈ r.rds, hf h = hfOf hp h
  rdc : ∀ x ∈ r.rdc, AgC hp hf x
  efs : ∀ e ∈ r.efs, AgE hp hf e

def efF (hf : Nat → Hl) : Ef → Nat → Hl
  | .set h off vs => match hf h with
    | .blk ty cs => upd hf h (.blk ty (putN cs off vs))
    | _ => hf
  | .put h hl => upd hf h hl
def efsF (hf : Nat → Hl) : List Ef → Nat → Hl
  | [] => hf
  | e :: es => efsF (efF hf e) es

def Yields (P : Program) (o : Oper) (r : Out) (B : Bs) (E : Env) (a : Act) (w : World) (hf : Nat → Hl) : Prop :=
  ∀ (K' : Act → World → Prop) (Q : Exit → Act → World → Prop),
    (∀ v w' E', Ext E w E' w' → Base B E' w' → (∀ h, HOk E' w' h (efsF hf r.efs h)) → Rel E' w' r.v v → K' (a.put o.dst v) w') → o.wp P a w K' Q

def Local (P : Program) (gl : List (Nat × SV)) (σ : Sy) (T : List Nat) (o : Oper) (r : Out) : Prop :=
  ∀ (B : Bs) (N : Nat) (E : Env) (a : Act) (w : World) (ff : Nat → SG) (hf : Nat → Hl), glOk B gl → St B N E a w ff hf → AgS σ ff o → AgH σ.hp hf r → allT (condsOf σ.gm T) → Yields P o r B E a w hf

theorem yields_value {P : Program} {o : Oper} {r : Out} {B : Bs} {N : Nat} {E : Env} {a : Act} {w : World} {ff : Nat → SG} {hf : Nat → Hl} (st : St B N E a w ff hf) {v : Value}
    (hr : (execOp a.eval o).run P w = .ok (.value v) w) (he : r.efs = []) (hv : Rel E w r.v v) : Yields P o r B E a w hf := by
  intro K' Q h
  unfold Oper.wp
  rw [hr]
  exact h v w E (Ext.refl E w) st.base (by rw [he]; exact st.heap) hv

end Go.Sx
/- The operations, one by one. -/
namespace Go.Sx
open Go

/-- What is known of the tables. -/
structure CxOk (P : Program) (cx : Cx) : Prop where
  D : cx.D = dn
  tt : ttB P cx.tt = true
  eqs : ∀ t ∈ cx.eqs, P.stoodInHeld t = false ∧ P.eqGuardType P.depth t = false ∧ ∀ f ∈ (P.fieldsOf t).toList, (f.name ≠ "_")

section
variable {P : Program} {cx : Cx} {σ : Sy} {T : List Nat} {o : Oper} {K : Out → Prop}

theorem CxOk.ti (h : CxOk P cx) {t : Nat} {ti : TI} (hl : look t cx.tt = some ti) : TIok P t ti := tiB_ok (ttB_look h.tt hl)

theorem size?_ti {t n : Nat} (h : size? cx t = some n) : ∃ ti, look t cx.tt = some ti ∧ ti.size = n := by
  unfold size? at h
  cases hl : look t cx.tt with
  | none => rw [hl] at h; cases h
  | some ti => rw [hl] at h; simp at h; exact ⟨ti, rfl, h⟩

theorem TIok.sizeOf {t : Nat} {ti : TI} (h : TIok P t ti) (w : World) : (sizeOf t).run P w = .ok ti.size w := by
  obtain ⟨i, z, hi, h1, _⟩ := h.info
  simp [Go.sizeOf, typeInfo, hi, h1]

theorem TIok.cellsOf {t : Nat} {ti : TI} (h : TIok P t ti) : P.cellsOf t = ti.size := by
  obtain ⟨i, z, hi, h1, _⟩ := h.info
  simp [Program.cellsOf, hi, h1]

def aggK : TK → Bool
  | .struct _ | .array _ _ => true
  | _ => false

theorem isAgg?_eq {t : Nat} {ti : TI} (hl : look t cx.tt = some ti) : isAgg? cx t = aggK ti.k := by
  obtain ⟨k, a, b, c⟩ := ti
  unfold isAgg?
  rw [hl]
  cases k <;> rfl

theorem TIok.isAgg {t : Nat} {ti : TI} (h : TIok P t ti) (w : World) : (isAgg t).run P w = .ok (aggK ti.k) w := by
  obtain ⟨d, hd, hk⟩ := h.und
  unfold Go.isAgg
  simp only [Sem.run_bind, run_underlying hd, Result.andThen_ok]
  cases hti : ti.k <;> rw [hti] at hk <;> cases d <;> first | rfl | simp [kindB] at hk

theorem TIok.zero {t : Nat} {ti : TI} (h : TIok P t ti) (E : Env) (w : World) : ∃ z, (zeroValue t).run P w = .ok z w ∧ RelL E w ti.zero z.cells.toList ∧ (∀ v ∈ z.cells.toList, v.oneCell' = true) := by
  obtain ⟨i, z, hi, h1, h2, h3, h4⟩ := h.info
  refine ⟨z, by simp [zeroValue, typeInfo, hi, h3], ?_, ?_⟩
  · obtain ⟨a, b⟩ := zsB_get (I := E.I) (w := w) h4
    exact ⟨a, fun i s v h1 h2 => .ro (b i s v h1 h2)⟩
  · generalize z.cells.toList = vs at h4
    generalize ti.zero = ss at h4
    induction ss generalizing vs with
    | nil => cases vs with
      | nil => simp
      | cons v vs => simp [zsB] at h4
    | cons s ss ih => cases vs with
      | nil => simp [zsB] at h4
      | cons v vs =>
        simp only [zsB, Bool.and_eq_true] at h4
        intro u hu
        rcases List.mem_cons.1 hu with rfl | hu
        · exact zB_one h4.1
        · exact ih vs h4.2 u hu

theorem ag_of {σ : Sy} {ff : Nat → SG} {o : Oper} (h : AgS σ ff o) {x : Operand} (hx : x ∈ o.op.operands.toList) : ∀ s ∈ opSlots x, ff s = ffOf σ s :=
  fun s hs => h s (by unfold slotsOf; exact List.mem_flatMap.2 ⟨x, hx, hs⟩)

theorem fields_get {fs : List (Nat × TypeId)} {fields : Array Field} (h : (fields.toList.map fun f => (f.offset, f.type)) = fs) {i fo ft : Nat} (hi : nth fs i = some (fo, ft)) :
    ∃ f, fields[i]? = some f ∧ f.offset = fo ∧ f.type = ft := by
  rw [nth_eq, ← h, List.getElem?_map] at hi
  cases hf : fields.toList[i]? with
  | none => rw [hf] at hi; cases hi
  | some f =>
    rw [hf] at hi
    simp only [Option.map_some, Option.some.injEq, Prod.mk.injEq] at hi
    exact ⟨f, by rw [← Array.getElem?_toList]; exact hf, hi.1, hi.2⟩

theorem TIok.struct {t : Nat} {ti : TI} (h : TIok P t ti) {fs : List (Nat × TypeId)} (hk : ti.k = .struct fs) :
    ∃ fields, P.underlying t = some (.struct fields) ∧ (fields.toList.map fun f => (f.offset, f.type)) = fs ∧ ∀ f ∈ fields.toList, ∃ i, P.info? f.type = some i := by
  obtain ⟨d, hd, hb⟩ := h.und
  rw [hk] at hb
  cases d <;> simp only [kindB, Bool.false_eq_true] at hb
  rename_i fields
  simp only [Bool.and_eq_true, beq_iff_eq, List.all_eq_true, Option.isSome_iff_exists] at hb
  exact ⟨fields, hd, hb.1, hb.2⟩

theorem TIok.slice {t : Nat} {ti : TI} (h : TIok P t ti) {e : TypeId} (hk : ti.k = .slice e) : P.underlying t = some (.slice e) := by
  obtain ⟨d, hd, hb⟩ := h.und
  rw [hk] at hb
  cases d <;> simp only [kindB, Bool.false_eq_true, beq_iff_eq] at hb
  rw [hd, hb]
theorem TIok.array {t : Nat} {ti : TI} (h : TIok P t ti) {n e : Nat} (hk : ti.k = .array n e) : P.underlying t = some (.array n e) := by
  obtain ⟨d, hd, hb⟩ := h.und
  rw [hk] at hb
  cases d <;> simp only [kindB, Bool.false_eq_true, beq_iff_eq, Bool.and_eq_true] at hb
  rw [hd, hb.1, hb.2]
theorem TIok.int {t : Nat} {ti : TI} (h : TIok P t ti) {k : IntKind} (hk : ti.k = .int k) : P.underlying t = some (.int k) := by
  obtain ⟨d, hd, hb⟩ := h.und
  rw [hk] at hb
  cases d <;> simp only [kindB, Bool.false_eq_true, beq_iff_eq] at hb
  rw [hd, hb]

/-! ### move, assign -/

theorem outO_some {s : Option SV} (h : outO K s) : ∃ v, s = some v ∧ K ⟨v, [], [], []⟩ := by
  cases s with
  | none => exact h.elim
  | some v => exact ⟨v, rfl, h⟩

theorem local_move {x : Operand} (ho : o.op = .move x ∨ o.op = .assign x) {v : SV} (hv : rd cx σ T x = some v) : Local P cx.gl σ T o ⟨v, [], [], []⟩ := by
  intro B N E a w ff hf hg st ag _ hT
  have hx : x ∈ o.op.operands.toList := by rcases ho with ho | ho <;> simp [ho, Op.operands]
  have := rd_sound hv hg st (ag_of ag hx) hT
  refine yields_value st (v := a.eval x) ?_ rfl this
  rcases ho with ho | ho <;> simp [execOp, ho]

theorem local_nil {n : Nat} (ho : o.op = .move (.const (.slice none 0 0)) ∨ o.op = .assign (.const (.slice none 0 0))) : Local P cx.gl σ T o ⟨.sl (.l true) (.l 0) n fun _ => [], [], [], []⟩ := by
  intro B N E a w ff hf _ st _ _ _
  refine yields_value st (v := .slice none 0 0) ?_ rfl (.ro (.slnil rfl rfl))
  rcases ho with ho | ho <;> simp [execOp, ho, Act.eval]

/-! ### new blocks -/

theorem cell_alloc_old {w : World} {o : Obj} {b i : Nat} (h : b < w.heap.size) : (w.alloc o).cell? ⟨b, i, none⟩ = w.cell? ⟨b, i, none⟩ := by
  simp only [World.cell?]
  rw [heap_alloc_old w o h]

theorem heap_alloc_ne {w : World} {o : Obj} {b : Nat} (h : b < w.heap.size) : (w.alloc o).heap[b]? = w.heap[b]? := heap_alloc_old w o h

theorem owned_lt {B : Bs} {E : Env} {w : World} (hb : Base B E w) {b h : Nat} (ho : E.O b = some h) : b < w.heap.size := (hb.Obd b h ho).1

/-- What a heaplet says stays true where its block stays as it was. -/
theorem HOk.keep {E E' : Env} {w w' : World} {h : Nat} {hl : Hl} (x : Ext E w E' w') (hk : HOk E w h hl) (hβ : E'.β h = E.β h) (hτ : E'.τ h = E.τ h) (hκ : E'.κ h = E.κ h) (hζ : E'.ζ h = E.ζ h)
    (hO : ∀ b, E.O b = some h → E'.O b = some h ∧ w'.heap[b]? = w.heap[b]? ∧ ∀ o, E'.I b o → E.I b o) : HOk E' w' h hl := by
  cases hl with
  | fresh => exact ⟨by rw [hβ]; exact hk.1, by rw [hτ]; exact hk.2.1, by rw [hκ]; exact hk.2.2.1, by rw [hζ]; exact hk.2.2.2⟩
  | gone => trivial
  | blk ty cs =>
    obtain ⟨b, C, h1, h2, h3, h4, h5, h6, h7⟩ := hk
    obtain ⟨h8, h9, h10⟩ := hO b h2
    exact ⟨b, C, by rw [hβ]; exact h1, h8, by rw [h9]; exact h3, h4, fun i s v a b => (h5 i s v a b).mono x, h6, fun o ho => h7 o (h10 o ho)⟩
  | tail ty n sz =>
    obtain ⟨v, m, xs, h1, h2, h3, h4, h5⟩ := hk
    refine ⟨v, m, xs, by rw [hτ]; exact h1, ?_, h3, h4, fun b hb => ?_⟩
    · refine ⟨h2.1, ?_⟩
      rcases h2.2 with hn | ⟨g, cap, cur, rfl, hb, hg, rest⟩
      · exact .inl hn
      · obtain ⟨_, h9, _⟩ := hO g (h5 g rfl).1
        exact .inr ⟨g, cap, cur, rfl, hb, by rw [h9]; exact hg, rest⟩
    · obtain ⟨h6, h7⟩ := h5 b hb
      obtain ⟨h8, _, h10⟩ := hO b h6
      exact ⟨h8, fun o ho hi => h7 o ho (h10 o hi)⟩
  | row ty n sz f =>
    obtain ⟨b, C, m, h1, h2, hz, h3, h4, h5, h6, h7, h8⟩ := hk
    obtain ⟨h9, h10, h11⟩ := hO b h3
    exact ⟨b, C, m, by rw [hβ]; exact h1, by rw [hκ]; exact h2, by rw [hζ]; exact hz, h9, by rw [h10]; exact h4, h5, h6, ⟨h7.1, h7.2.1, fun i j s v a b c => (h7.2.2.1 i j s v a b c).mono x.I x.cell, h7.2.2.2⟩, fun o ho => h8 o (h11 o ho)⟩
  | own ty n sz gr f =>
    obtain ⟨v, m, xs, h1, h2, h3, h4, h5, h6, h7⟩ := hk
    refine ⟨v, m, xs, by rw [hτ]; exact h1, by rw [hζ]; exact h2, h3.keep fun b hb => (hO b (h7 b hb).1).2.1, h4, h5, h6.mono x, fun b hb => ?_⟩
    obtain ⟨q1, _, q3⟩ := hO b (h7 b hb).1
    exact ⟨q1, fun o ho => (h7 b hb).2 o (q3 o ho)⟩
  | bld T e s =>
    obtain ⟨b, p, v, h1, h2, h3, h4, h5, h6, h7, h8⟩ := hk
    obtain ⟨q1, q2, q3⟩ := hO b h2
    refine ⟨b, p, v, by rw [hβ]; exact h1, q1, h3, by rw [q2]; exact h4, ?_, h6, fun o ho => h7 o (q3 o ho), fun g hg => ?_⟩
    · refine ⟨h5.1, ?_⟩
      rcases h5.2 with hn | ⟨g, cap, cur, rfl, hb, hg, rest⟩
      · exact .inl hn
      · exact .inr ⟨g, cap, cur, rfl, hb, by rw [(hO g (h8 g rfl).1).2.1]; exact hg, rest⟩
    · obtain ⟨r1, _, r3⟩ := hO g (h8 g hg).1
      exact ⟨r1, fun o ho => (h8 g hg).2 o (r3 o ho)⟩

/-- A new block for a fresh heaplet. -/
theorem new_blk {B : Bs} {N : Nat} {E : Env} {a : Act} {w : World} {ff : Nat → SG} {hf : Nat → Hl} (st : St B N E a w ff hf) {h : Nat} (hfresh : hf h = .fresh) {ty : TypeId} {cs : List SV} {C : Array Value}
    (hr : RelL E w cs C.toList) (h1 : ∀ v ∈ C.toList, v.oneCell' = true) :
    ∃ E', Ext E w E' (w.alloc (.cells C ty)) ∧ Base B E' (w.alloc (.cells C ty)) ∧ (∀ k, HOk E' (w.alloc (.cells C ty)) k (upd hf h (.blk ty cs) k)) ∧ E'.β h = some w.heap.size := by
  have hb := st.base
  have hfr := st.heap h
  rw [hfresh] at hfr
  obtain ⟨f1, f2, _, _⟩ := hfr
  let E' : Env := ⟨upd E.β h (some w.heap.size), E.τ, upd E.O w.heap.size (some h), E.κ, E.ζ, E.I⟩
  have hx : Ext E w E' (w.alloc (.cells C ty)) := by
    refine ⟨fun k b hk => ?_, fun _ _ h => .inl h, fun _ _ h => h, fun _ _ h => h, fun _ _ h => h, fun b o hi => cell_alloc_old (hb.Ibd b o hi)⟩
    show upd E.β h (some w.heap.size) k = some b
    unfold upd
    by_cases e : k = h
    · subst e; rw [f1] at hk; cases hk
    · rw [if_neg e]; exact hk
  refine ⟨E', hx, ⟨hb.os, hb.tape, hb.output, ?_, ?_, ?_, ?_, ?_, ?_, hb.β0.ext hx⟩, fun k => ?_, by simp [E', upd]⟩
  · have := hb.size; simp; omega
  · intro b hlt hX; rw [heap_alloc_ne (by have := hb.size; omega)]; exact hb.old b hlt hX
  · intro b o hi
    obtain ⟨i1, i2⟩ := hb.I0 b o hi
    exact ⟨i1, by rw [cell_alloc_old (hb.Ibd b o i1)]; exact i2⟩
  · intro b o hi; have := hb.Ibd b o hi; simp; omega
  · exact hb.Inew
  · intro b k hO
    have hO : upd E.O w.heap.size (some h) b = some k := hO
    unfold upd at hO
    split at hO
    · rename_i e; subst e; have := hb.size; simp; exact .inl this
    · obtain ⟨o1, o2⟩ := hb.Obd b k hO; simp; exact ⟨by omega, o2⟩
  · by_cases e : k = h
    · subst e
      simp only [upd, if_pos]
      refine ⟨w.heap.size, C, by simp [E', upd], by simp [E', upd], heap_alloc_new w _, by rw [hr.1]; simp, fun i s v p q => (hr.2 i s v p (by simpa using q)).mono hx, fun v hv => h1 v (by simpa using hv), fun o hi => ?_⟩
      have := hb.Ibd _ _ hi
      omega
    · simp only [upd, if_neg e]
      refine HOk.keep hx (st.heap k) (by simp [E', upd, e]) rfl rfl rfl fun b hO => ?_
      have hlt := owned_lt hb hO
      exact ⟨by simp [E', upd, Nat.ne_of_lt hlt]; exact hO, heap_alloc_ne hlt, fun _ h => h⟩

theorem local_alloc {e : TypeId} {ti : TI} (hc : CxOk P cx) (ho : o.op = .alloc e) (hl : look e cx.tt = some ti) :
    Local P cx.gl σ T o ⟨.ptr (lenN σ.hp) 0, [.put (lenN σ.hp) (.blk e ti.zero)], [], []⟩ := by
  intro B N E a w ff hf _ st _ agh _ K' Q hK
  obtain ⟨z, hz, hr, h1⟩ := (hc.ti hl).zero E w
  have hfresh : hf (lenN σ.hp) = .fresh := by
    have := agh.efs _ (List.mem_singleton.2 rfl)
    simp only [AgE, hfOf, nth_eq, lenN_eq] at this
    rw [lenN_eq, this]; simp
  obtain ⟨E', hx, hb, hh, hβ⟩ := new_blk st hfresh (ty := e) hr h1
  unfold Oper.wp
  have : (execOp a.eval o).run P w = .ok (.value (.pointer (some ⟨w.heap.size, 0, none⟩))) (w.alloc (.cells z.cells e)) := by
    simp [execOp, ho, Instr.alloc, hz, newVar, newRow, newObj, Sem.run]
  rw [this]
  exact hK _ _ E' hx hb hh (.ptr hβ rfl)

theorem local_box {e : TypeId} {x : Operand} {v : SV} (ho : o.op = .box e x) (hv : rd cx σ T x = some v) (h1 : onesB v.cells = true) :
    Local P cx.gl σ T o ⟨.ptr (lenN σ.hp) 0, [.put (lenN σ.hp) (.blk e v.cells)], [], []⟩ := by
  intro B N E a w ff hf hg st ag agh hT K' Q hK
  have hr := rd_sound hv hg st (ag_of ag (by simp [ho, Op.operands])) hT
  have hc := cells_of h1 hr
  have hfresh : hf (lenN σ.hp) = .fresh := by
    have := agh.efs _ (List.mem_singleton.2 rfl)
    simp only [AgE, hfOf, nth_eq, lenN_eq] at this
    rw [lenN_eq, this]; simp
  obtain ⟨E', hx, hb, hh, hβ⟩ := new_blk st hfresh (ty := e) hc (ones_of h1 hc)
  unfold Oper.wp
  have : (execOp a.eval o).run P w = .ok (.value (.pointer (some ⟨w.heap.size, 0, none⟩))) (w.alloc (.cells (a.eval x).cells e)) := by
    simp [execOp, ho, Instr.box, newVar, newRow, newObj, Sem.run]
  rw [this]
  exact hK _ _ E' hx hb hh (.ptr hβ rfl)

end
end Go.Sx
/- The operations: memory. -/
namespace Go.Sx
open Go

section
variable {P : Program} {cx : Cx} {σ : Sy} {T : List Nat} {o : Oper} {K : Out → Prop}

theorem add_lit (b off j : Nat) : (⟨b, off, none⟩ : Addr).add j = ⟨b, off + j, none⟩ := by
  unfold Addr.add; split <;> simp_all

/-- A load of a whole variable. -/
theorem run_loadAt {t : Nat} {ti : TI} (h : TIok P t ti) {w : World} {b off : Nat} {vs : List Value} (hc : ∀ (j : Nat) (v : Value), vs[j]? = some v → w.cell? ⟨b, off + j, none⟩ = some v) (hn : vs.length = ti.size)
    {agg : Bool} (ha : agg = aggK ti.k) (h1 : agg = false → vs.length = 1) :
    (Instr.loadAt t (.pointer (some ⟨b, off, none⟩))).run P w = .ok (if agg then .agg ⟨vs⟩ else vs.headD undef) w := by
  have hI := h.isAgg w
  have hS := h.sizeOf w
  subst ha
  simp only [Instr.loadAt, Instr.sureAddr, loadVar, Sem.run_bind, Sem.run_pure, Result.andThen_ok, hI]
  cases hk : aggK ti.k with
  | true =>
    rw [← hn] at hS
    have := run_loadCells_list (P := P) w ⟨b, off, none⟩ vs (fun j v hj => by rw [add_lit]; exact hc j v hj)
    simp [hS, this]
  | false =>
    rw [hk] at h1
    match vs, h1 rfl, hc with
    | [v], _, hc =>
      have := hc 0 v rfl
      simp only [Nat.add_zero] at this
      simp [run_load, this]

theorem pack_rel {E : Env} {w : World} {agg : Bool} {cs : List SV} {s : SV} {vs : List Value} (h : pack agg cs = some s) (hr : RelL E w cs vs) : (agg = false → vs.length = 1) ∧ Rel E w s (if agg then .agg ⟨vs⟩ else vs.headD undef) := by
  unfold pack at h
  cases agg with
  | true => simp only [if_true, Option.some.injEq] at h; subst h; exact ⟨(fun e => by cases e), hr.agg⟩
  | false =>
    simp only [Bool.false_eq_true, if_false] at h
    split at h
    · rename_i c
      cases h
      match vs, hr with
      | [v], hr => exact ⟨fun _ => rfl, hr.2 0 s v rfl rfl⟩
      | [], hr => exact absurd hr.1 (by simp)
      | _ :: _ :: _, hr => exact absurd hr.1 (by simp)
    · cases h

theorem nth_hf {hp : List Hl} {h : Nat} {hl : Hl} (e : nth hp h = some hl) : hfOf hp h = hl := by simp [hfOf, e]

theorem sub_RelL {E : Env} {w : World} {cs cs' : List SV} {C : List Value} {off n : Nat} (hr : RelL E w cs' C) (hl : cs'.length = cs.length) (hag : ∀ j, off ≤ j → j < off + n → cs'[j]? = cs[j]?) :
    RelL E w ((cs.drop off).take n) ((C.drop off).take n) := by
  refine ⟨by simp [← hr.1, hl], fun i s v h1 h2 => ?_⟩
  rw [List.getElem?_take] at h1 h2
  split at h1
  · rename_i hi
    rw [if_pos hi] at h2
    rw [List.getElem?_drop] at h1 h2
    exact hr.2 (off + i) s v (by rw [hag _ (by omega) (by omega)]; exact h1) h2
  · cases h1

theorem HOk.blk_inv {E : Env} {w : World} {h : Nat} {ty : TypeId} {cs : List SV} (hk : HOk E w h (.blk ty cs)) : ∃ b C, E.β h = some b ∧ E.O b = some h ∧ w.heap[b]? = some (.cells C ty (0, 0)) ∧ RelL E w cs C.toList ∧ (∀ v ∈ C.toList, v.oneCell' = true) ∧ ∀ o, ¬ E.I b o := by
  obtain ⟨b, C, h1, h2, h3, h4, h5, h6, h7⟩ := hk
  exact ⟨b, C, h1, h2, h3, ⟨by simp [h4], fun i s v p q => h5 i s v p (by simpa using q)⟩, fun v hv => h6 v (by simpa using hv), h7⟩

theorem local_load_ptr (hc : CxOk P cx) {t : Nat} {x : Operand} (ho : o.op = .load t x) {h off n : Nat} {ty : TypeId} {cs : List SV} {s : SV} (hv : rd cx σ T x = some (.ptr h off)) (hn : size? cx t = some n)
    (hh : nth σ.hp h = some (.blk ty cs)) (hle : off + n ≤ cs.length) (hp : pack (isAgg? cx t) ((cs.drop off).take n) = some s) : Local P cx.gl σ T o ⟨s, [], [], [(h, off, n)]⟩ := by
  intro B N E a w ff hf hg st ag agh hT
  have hr := rd_sound hv hg st (ag_of ag (by simp [ho, Op.operands])) hT
  obtain ⟨b, hb, hx⟩ := hr.ptr_inv
  obtain ⟨cs', e2, e3, e4⟩ := agh.rdc _ (List.mem_singleton.2 rfl) ty cs (nth_hf hh)
  have hk := st.heap h
  rw [e2] at hk
  obtain ⟨b', C, k1, _, k3, k4, _, _⟩ := hk.blk_inv
  obtain rfl : b = b' := Option.some.inj (hb.symm.trans k1)
  obtain ⟨ti, hti, hsz⟩ := size?_ti hn
  have hsub := sub_RelL (off := off) (n := n) k4 e3 e4
  obtain ⟨p1, p2⟩ := pack_rel hp hsub
  have hlen : ((C.toList.drop off).take n).length = n := by rw [← hsub.1]; simp; omega
  have hrun := run_loadAt (hc.ti hti) (w := w) (b := b) (off := off) (vs := (C.toList.drop off).take n) (fun j v hj => by
    rw [List.getElem?_take] at hj
    split at hj
    · rw [List.getElem?_drop] at hj
      rw [cell_of_row w b (off + j) C ty (0, 0) k3]
      simpa using hj
    · cases hj) (by rw [hlen, hsz]) (isAgg?_eq hti) p1
  exact yields_value st (by simp [execOp, ho, hx, hrun]) rfl p2

theorem RO.rptr_inv {I : Nat → Nat → Prop} {w : World} {cs : List SV} {v : Value} (h : RO I w (.rptr cs) v) : ∃ a, v = .pointer (some a) ∧ a.spot = none ∧ ∃ g : Nat → Value, (∀ j, j < cs.length → (g j).oneCell' = true ∧ w.cell? ⟨a.block, a.off + j, none⟩ = some (g j) ∧ I a.block (a.off + j)) ∧
    ∀ (j : Nat) (s : SV), cs[j]? = some s → RO I w s (g j) := by
  cases h with
  | rptr g hs h1 hcell hrel => exact ⟨_, rfl, hs, g, fun j hj => ⟨h1 j hj, hcell j hj⟩, hrel⟩
theorem Rel.rptr_inv {E : Env} {w : World} {cs : List SV} {v : Value} (h : Rel E w (.rptr cs) v) : RO E.I w (.rptr cs) v := by
  cases h with
  | ro h => exact h

theorem RelL_range {E : Env} {w : World} {cs : List SV} {n : Nat} {g : Nat → Value} (hle : n ≤ cs.length) (h : ∀ (j : Nat) (s : SV), cs[j]? = some s → RO E.I w s (g j)) : RelL E w (cs.take n) ((List.range n).map g) := by
  refine ⟨by simp; omega, fun i s v h1 h2 => ?_⟩
  rw [List.getElem?_take] at h1
  split at h1
  · rename_i hi
    have : v = g i := by simp [hi] at h2; exact h2.symm
    subst this
    exact .ro (h i s h1)
  · cases h1

theorem local_load_rptr (hc : CxOk P cx) {t : Nat} {x : Operand} (ho : o.op = .load t x) {n : Nat} {cs : List SV} {s : SV} (hv : rd cx σ T x = some (.rptr cs)) (hn : size? cx t = some n)
    (hle : n ≤ cs.length) (hp : pack (isAgg? cx t) (cs.take n) = some s) : Local P cx.gl σ T o ⟨s, [], [], []⟩ := by
  intro B N E a w ff hf hg st ag agh hT
  have hr := rd_sound hv hg st (ag_of ag (by simp [ho, Op.operands])) hT
  obtain ⟨ad, hx, hs, g, hcell, hrel⟩ := hr.rptr_inv.rptr_inv
  obtain ⟨b, off, sp⟩ := ad
  simp only at hs hcell
  subst hs
  obtain ⟨ti, hti, hsz⟩ := size?_ti hn
  have hsub := RelL_range (E := E) hle hrel
  obtain ⟨p1, p2⟩ := pack_rel hp hsub
  have hrun := run_loadAt (hc.ti hti) (w := w) (b := b) (off := off) (vs := (List.range n).map g) (fun j v hj => by
    by_cases hjn : j < n
    · simp [hjn] at hj
      rw [(hcell j (by omega)).2.1, hj]
    · simp [hjn] at hj) (by simp [hsz]) (isAgg?_eq hti) p1
  exact yields_value st (by simp [execOp, ho, hx, hrun]) rfl p2

/-- Cells of a block are written. -/
theorem set_blk {B : Bs} {N : Nat} {E : Env} {a : Act} {w : World} {ff : Nat → SG} {hf : Nat → Hl} (st : St B N E a w ff hf) {h off b : Nat} {ty : TypeId} {cs vs : List SV} {C : Array Value} {us : List Value}
    (hh : hf h = .blk ty cs) (hβ : E.β h = some b) (hC : w.heap[b]? = some (.cells C ty (0, 0))) (hr : RelL E w vs us) (h1 : ∀ v ∈ us, v.oneCell' = true) (hle : off + us.length ≤ C.size) {C' : Array Value} (hC' : C' = (C.toList.take off ++ us ++ C.toList.drop (off + us.length)).toArray) :
    Ext E w E (w.setRow b C') ∧ Base B E (w.setRow b C') ∧ (∀ k, HOk E (w.setRow b C') k (efF hf (.set h off vs) k)) := by
  have hb := st.base
  have hk := st.heap h
  rw [hh] at hk
  obtain ⟨b', C1, k1, k2, k3, k4, k5, k6⟩ := hk.blk_inv
  obtain rfl : b = b' := Option.some.inj (hβ.symm.trans k1)
  obtain ⟨rfl⟩ : C = C1 := by rw [hC] at k3; simpa using k3
  have hx : Ext E w E (w.setRow b C') := ⟨fun _ _ h => h, fun _ _ h => .inl h, fun _ _ h => h, fun _ _ h => h, fun _ _ h => h, fun b2 o hi => cell_setRow_other w b C' ⟨b2, o, none⟩ (fun e => by subst e; exact k6 o hi)⟩
  have hX := (hb.Obd b h k2).2
  refine ⟨hx, ⟨hb.os, hb.tape, hb.output, by simpa using hb.size, ?_, ?_, ?_, hb.Inew, ?_, hb.β0⟩, fun k => ?_⟩
  · intro b2 hlt hnX
    by_cases e : b2 = b
    · subst e; rcases hX with hX | hX
      · omega
      · exact absurd hX hnX
    · rw [setRow_other w b b2 C' e]; exact hb.old b2 hlt hnX
  · intro b2 o hi
    obtain ⟨i1, i2⟩ := hb.I0 b2 o hi
    exact ⟨i1, by rw [hx.cell b2 o i1]; exact i2⟩
  · intro b2 o hi; have := hb.Ibd b2 o hi; simpa using this
  · intro b2 k hO; have := hb.Obd b2 k hO; simpa using this
  · simp only [efF, hh]
    by_cases e : k = h
    · subst e
      simp only [upd, if_pos]
      have hlen : C'.size = C.size := by subst hC'; simp; omega
      have hul := hr.1
      refine ⟨b, C', hβ, k2, setRow_heap w b C C' ty (0, 0) hC, by rw [hlen, len_putN]; have := k4.1; simp at this; omega, fun i s v p q => ?_, fun v hv => ?_, k6⟩
      · have hcl : cs.length = C.size := by have := k4.1; simpa using this
        rw [get_putN vs cs off i (by omega)] at p
        have q : (C.toList.take off ++ us ++ C.toList.drop (off + us.length))[i]? = some v := by subst hC'; simpa using q
        split at p
        · rename_i e
          rw [List.append_assoc, List.getElem?_append_right (by simp; omega), List.getElem?_append_left (by simp; omega)] at q
          simp at q
          refine (hr.2 (i - off) s v p ?_).mono hx
          rw [← q]; congr 1; omega
        · rename_i e
          have hq : C.toList[i]? = some v := by
            by_cases hi : i < off
            · rw [List.append_assoc, List.getElem?_append_left (by simp; omega), List.getElem?_take, if_pos hi] at q; exact q
            · rw [List.getElem?_append_right (by simp; omega), List.getElem?_drop] at q
              rw [← q]; congr 1; simp; omega
          exact (k4.2 i s v p hq).mono hx
      · have hv : v ∈ (C.toList.take off ++ us ++ C.toList.drop (off + us.length)) := by subst hC'; simpa using hv
        rw [List.mem_append, List.mem_append] at hv
        rcases hv with (hv | hv) | hv
        · exact k5 v (List.mem_of_mem_take hv)
        · exact h1 v hv
        · exact k5 v (List.mem_of_mem_drop hv)
    · simp only [upd, if_neg e]
      refine HOk.keep hx (st.heap k) rfl rfl rfl rfl fun b2 hO => ⟨hO, ?_, fun _ h => h⟩
      refine setRow_other w b b2 C' (fun e2 => ?_)
      subst e2
      rw [k2] at hO
      exact e (Option.some.inj hO).symm

theorem local_store (hc : CxOk P cx) {t : Nat} {x y : Operand} (ho : o.op = .store t x y) {h off n : Nat} {ty : TypeId} {cs : List SV} {s : SV} (hv : rd cx σ T x = some (.ptr h off)) (hs : rdT cx σ T t y = some s) (hn : size? cx t = some n)
    (hh : nth σ.hp h = some (.blk ty cs)) (hl : s.cells.length = n) (hle : off + n ≤ cs.length) (h1 : onesB s.cells = true) : Local P cx.gl σ T o ⟨.tup [], [.set h off s.cells], [], []⟩ := by
  intro B N E a w ff hf hg st ag agh hT K' Q hK
  have hr := rd_sound hv hg st (ag_of ag (by simp [ho, Op.operands])) hT
  have hr2 := rdT_sound hs hg st (ag_of ag (by simp [ho, Op.operands])) hT
  obtain ⟨b, hb, hx⟩ := hr.ptr_inv
  obtain ⟨cs', e2, e3⟩ := agh.efs _ (List.mem_singleton.2 rfl) ty cs (nth_hf hh)
  have hk := st.heap h
  rw [e2] at hk
  obtain ⟨b', C, k1, _, k3, k4, _, _⟩ := hk.blk_inv
  obtain rfl : b = b' := Option.some.inj (hb.symm.trans k1)
  obtain ⟨ti, hti, hsz⟩ := size?_ti hn
  have hcs := cells_of h1 hr2
  have hone := ones_of h1 hcs
  have hul : (a.eval y).cells.toList.length = n := by rw [← hcs.1]; exact hl
  have hCs : cs'.length = C.size := by have := k4.1; simpa using this
  have hle' : off + (a.eval y).cells.toList.length ≤ C.size := by rw [hul]; omega
  obtain ⟨x1, x2, x3⟩ := set_blk (h := h) (off := off) st e2 hb k3 hcs hone hle' rfl
  have hrun : (Instr.storeAt t (.pointer (some ⟨b, off, none⟩)) (a.eval y)).run P w = .ok () (w.setRow b (C.toList.take off ++ (a.eval y).cells.toList ++ C.toList.drop (off + (a.eval y).cells.toList.length)).toArray) := by
    have hS := (hc.ti hti).sizeOf w
    have hsc := run_storeCells_at P b off ty (a.eval y).cells.toList 0 C w k3 (by simpa using hle') hone
    have hne : ((a.eval y).cells.size ≠ ti.size) = False := by
      have : (a.eval y).cells.size = ti.size := by rw [hsz]; simpa using hul
      simp [this]
    simp only [Nat.add_zero] at hsc
    simp only [Instr.storeAt, Instr.sureAddr, storeVar, Sem.run_bind, Sem.run_pure, Result.andThen_ok, hS, hne, if_false, hsc]
  unfold Oper.wp
  have : (execOp a.eval o).run P w = .ok .skip (w.setRow b (C.toList.take off ++ (a.eval y).cells.toList ++ C.toList.drop (off + (a.eval y).cells.toList.length)).toArray) := by
    simp only [execOp, ho, hx, Sem.run_bind, hrun, Result.andThen_ok, Sem.run_pure]
  rw [this]
  exact hK undef _ E x1 x2 x3 (.tup rfl (by simp))

end
end Go.Sx
/- The operations: addresses, numbers, truth values. -/
namespace Go.Sx
open Go

section
variable {P : Program} {cx : Cx} {σ : Sy} {T : List Nat} {o : Oper} {K : Out → Prop}

theorem field?_inv {t i fo ft : Nat} (h : field? cx t i = some (fo, ft)) : ∃ ti fs, look t cx.tt = some ti ∧ ti.k = .struct fs ∧ nth fs i = some (fo, ft) := by
  unfold field? at h
  split at h
  · rename_i fs a b c hl; exact ⟨_, fs, hl, rfl, h⟩
  · cases h

theorem run_fieldAt (hc : CxOk P cx) {t i fo ft m : Nat} (hf : field? cx t i = some (fo, ft)) (hn : size? cx ft = some (m + 1)) (w : World) (ad : Addr) :
    (Instr.fieldAt t (.pointer (some ad)) i).run P w = .ok (.pointer (some (ad.add fo))) w := by
  obtain ⟨ti, fs, hl, hk, hi⟩ := field?_inv hf
  obtain ⟨fields, hu, he, _⟩ := (hc.ti hl).struct hk
  obtain ⟨f, hf1, hf2, hf3⟩ := fields_get he hi
  obtain ⟨fi, hfi, hsz⟩ := size?_ti hn
  have hS := (hc.ti hfi).sizeOf w
  subst hf2 hf3
  simp [Instr.fieldAt, run_underlying hu, hf1, Instr.sureAddr, fieldPlace, hS, hsz]

theorem local_fieldAddr_ptr (hc : CxOk P cx) {t i fo ft m h off : Nat} {x : Operand} (ho : o.op = .fieldAddr t x i) (hv : rd cx σ T x = some (.ptr h off)) (hf : field? cx t i = some (fo, ft)) (hn : size? cx ft = some (m + 1)) :
    Local P cx.gl σ T o ⟨.ptr h (off + fo), [], [], []⟩ := by
  intro B N E a w ff hf' hg st ag agh hT
  have hr := rd_sound hv hg st (ag_of ag (by simp [ho, Op.operands])) hT
  obtain ⟨b, hb, hx⟩ := hr.ptr_inv
  refine yields_value st (v := .pointer (some ⟨b, off + fo, none⟩)) ?_ rfl (.ptr hb rfl)
  simp [execOp, ho, hx, run_fieldAt hc hf hn, add_lit]

theorem add_block (ad : Addr) (n : Nat) : (ad.add n).block = ad.block := by unfold Addr.add; split <;> rfl
theorem add_off (ad : Addr) (n : Nat) : (ad.add n).off = ad.off + n := by unfold Addr.add; split <;> simp_all
theorem add_spot (ad : Addr) (n : Nat) (h : ad.spot = none) : (ad.add n).spot = none := by unfold Addr.add; split <;> simp_all

theorem rptr_sub {I : Nat → Nat → Prop} {w : World} {cs : List SV} {ad : Addr} (h : RO I w (.rptr cs) (.pointer (some ad))) (fo m : Nat) : RO I w (.rptr ((cs.drop fo).take m)) (.pointer (some (ad.add fo))) := by
  obtain ⟨ad', e, hs, g, hcell, hrel⟩ := h.rptr_inv
  cases e
  refine .rptr (fun j => g (fo + j)) (add_spot _ _ hs) (fun j hj => ?_) (fun j hj => ?_) (fun j s hj => ?_)
  · simp at hj; exact (hcell (fo + j) (by omega)).1
  · rw [add_block, add_off]
    simp at hj
    have := (hcell (fo + j) (by omega)).2
    rw [Nat.add_assoc]
    exact this
  · rw [List.getElem?_take] at hj
    split at hj
    · rw [List.getElem?_drop] at hj; exact hrel (fo + j) s hj
    · cases hj

theorem local_fieldAddr_rptr (hc : CxOk P cx) {t i fo ft m : Nat} {cs : List SV} {x : Operand} (ho : o.op = .fieldAddr t x i) (hv : rd cx σ T x = some (.rptr cs)) (hf : field? cx t i = some (fo, ft)) (hn : size? cx ft = some (m + 1)) :
    Local P cx.gl σ T o ⟨.rptr ((cs.drop fo).take (m + 1)), [], [], []⟩ := by
  intro B N E a w ff hf' hg st ag agh hT
  have hr := (rd_sound hv hg st (ag_of ag (by simp [ho, Op.operands])) hT).rptr_inv
  obtain ⟨ad, hx, _⟩ := hr.rptr_inv
  rw [hx] at hr
  refine yields_value st (v := .pointer (some (ad.add fo))) ?_ rfl (.ro (rptr_sub hr fo (m + 1)))
  simp [execOp, ho, hx, run_fieldAt hc hf hn]

theorem run_part {t m fo : Nat} {ti : TI} (h : TIok P t ti) (hsz : ti.size = m) {w : World} {vs : List Value} (p1 : aggK ti.k = false → ((vs.drop fo).take m).length = 1) :
    (part t ⟨vs⟩ fo).run P w = .ok (if aggK ti.k then .agg ⟨(vs.drop fo).take m⟩ else ((vs.drop fo).take m).headD undef) w := by
  have hS := h.sizeOf w
  have hA := h.isAgg w
  simp only [part, Sem.run_bind, hA, Result.andThen_ok]
  cases hk2 : aggK ti.k with
  | true =>
    simp only [if_true, Sem.run_bind, hS, Result.andThen_ok, Sem.run_pure, hsz]
    congr 2
    apply Array.ext'
    simp
  | false =>
    have h1 := p1 hk2
    have hm : vs[fo]? = some (((vs.drop fo).take m).headD undef) := by
      match h3 : (vs.drop fo).take m, h1 with
      | [v], _ =>
        have : ((vs.drop fo).take m)[0]? = some v := by rw [h3]; rfl
        rw [List.getElem?_take] at this
        split at this
        · rw [List.getElem?_drop] at this; simpa using this
        · cases this
    simp [hm]

theorem local_field (hc : CxOk P cx) {t i fo ft m : Nat} {cs : List SV} {x : Operand} {s : SV} (ho : o.op = .field t x i) (hv : rd cx σ T x = some (.agg cs)) (hf : field? cx t i = some (fo, ft)) (hn : size? cx ft = some m)
    (hle : fo + m ≤ cs.length) (hp : pack (isAgg? cx ft) ((cs.drop fo).take m) = some s) : Local P cx.gl σ T o ⟨s, [], [], []⟩ := by
  intro B N E a w ff hf' hg st ag agh hT
  have hr := rd_sound hv hg st (ag_of ag (by simp [ho, Op.operands])) hT
  obtain ⟨vs, hx, hl⟩ := hr.agg_inv
  obtain ⟨ti, fs, hti, hk, hi⟩ := field?_inv hf
  obtain ⟨fields, hu, he, _⟩ := (hc.ti hti).struct hk
  obtain ⟨f, hf1, hf2, hf3⟩ := fields_get he hi
  obtain ⟨fi, hfi, hsz⟩ := size?_ti hn
  have hsub := (hl.drop fo).take m
  obtain ⟨p1, p2⟩ := pack_rel hp hsub
  rw [isAgg?_eq hfi] at p1 p2
  refine yields_value st ?_ rfl p2
  subst hf2 hf3
  have hpart := run_part (hc.ti hfi) hsz (w := w) (vs := vs) (fo := f.offset) p1
  simp [execOp, ho, hx, Instr.field, run_underlying hu, hf1, asAgg, hpart]

/-! ### elements -/

theorem RO.sl_inv {I : Nat → Nat → Prop} {w : World} {nl : BT} {n : ST} {sz : Nat} {f : Nat → List SV} {v : Value} (h : RO I w (.sl nl n sz f) v) :
    (v = .slice none 0 0 ∧ n.den = 0 ∧ nl.den = true) ∨ ∃ (a : Addr) (m cap : Nat) (g : Nat → Nat → Value), v = .slice (some a) m cap ∧ nl.den = false ∧ n.den = (m : Int) ∧ m ≤ cap ∧ cap ≤ maxLen ∧ (0 < m → a.spot = none) ∧
      (∀ i, i < m → (f i).length = sz) ∧ (∀ i j, i < m → j < sz → (g i j).oneCell' = true) ∧ (∀ i j, i < m → j < sz → w.cell? ⟨a.block, a.off + (i * sz + j), none⟩ = some (g i j) ∧ I a.block (a.off + (i * sz + j))) ∧ (∀ (i j : Nat) (s : SV), i < m → (f i)[j]? = some s → RO I w s (g i j)) := by
  cases h with
  | slnil h hn => exact .inl ⟨rfl, hn, h⟩
  | sl g h hn hc hcm hs hl h1 hcell hrel => exact .inr ⟨_, _, _, g, rfl, h, hn, hc, hcm, hs, hl, h1, hcell, hrel⟩

theorem Rel.sl_inv {E : Env} {w : World} {nl : BT} {n : ST} {sz : Nat} {f : Nat → List SV} {v : Value} (h : Rel E w (.sl nl n sz f) v) : RO E.I w (.sl nl n sz f) v := by
  cases h with
  | ro h => exact h
theorem Rel.gsl_inv {E : Env} {w : World} {nl : BT} {n : ST} {sz : Nat} {f : Nat → List SV} {h : Nat} {v : Value} (hr : Rel E w (.gsl nl n sz f h) v) : RO E.I w (.sl nl n sz f) v ∧ tokOk E h n.den v := by
  cases hr with
  | ro h => cases h
  | gsl hr ht => exact ⟨hr, ht⟩

theorem run_indexAt_sl (hc : CxOk P cx) {t e sz : Nat} {ti : TI} (hl : look t cx.tt = some ti) (hk : ti.k = .slice e) (hn : size? cx e = some sz) {w : World} {a : Addr} {m cap : Nat} {k : IntKind} {i : Int} (h0 : 0 ≤ i) (h1 : i < m) :
    (Instr.indexAt t (.slice (some a) m cap) (.int k i)).run P w = .ok (.pointer (some (a.add (i.toNat * sz)))) w := by
  have hu := (hc.ti hl).slice hk
  obtain ⟨te, hte, hsz⟩ := size?_ti hn
  have hS := (hc.ti hte).sizeOf w
  simp [Instr.indexAt, run_underlying hu, asIntOf, h0, h1, hS, hsz]

theorem sl_elem {I : Nat → Nat → Prop} {w : World} {f : Nat → List SV} {sz m : Nat} {a : Addr} {g : Nat → Nat → Value} (hs : 0 < m → a.spot = none) (hl : ∀ i, i < m → (f i).length = sz) (h1 : ∀ i j, i < m → j < sz → (g i j).oneCell' = true)
    (hcell : ∀ i j, i < m → j < sz → w.cell? ⟨a.block, a.off + (i * sz + j), none⟩ = some (g i j) ∧ I a.block (a.off + (i * sz + j))) (hrel : ∀ (i j : Nat) (s : SV), i < m → (f i)[j]? = some s → RO I w s (g i j)) {j : Nat} (hj : j < m) :
    RO I w (.rptr (f j)) (.pointer (some (a.add (j * sz)))) := by
  refine .rptr (g j) (add_spot _ _ (hs (by omega))) (fun q hq => h1 j q hj (by rw [hl j hj] at hq; exact hq)) (fun q hq => ?_) (fun q s hq => hrel j q s hj hq)
  rw [add_block, add_off, Nat.add_assoc]
  exact hcell j q hj (by rw [hl j hj] at hq; exact hq)

theorem local_index_sl (hc : CxOk P cx) {t e sz : Nat} {ti : TI} (hl : look t cx.tt = some ti) (hk : ti.k = .slice e) (hn : size? cx e = some sz) {x y : Operand} (ho : o.op = .indexAddr t x y) {nl : BT} {n : ST} {f : Nat → List SV} {k : IntKind} {i : ST}
    (hv : rd cx σ T x = some (.sl nl n sz f) ∨ ∃ h, rd cx σ T x = some (.gsl nl n sz f h)) (hi : rd cx σ T y = some (.int k i)) (h1 : allT (condsOf σ.gm T) → 0 ≤ i.den ∧ i.den < n.den) : Local P cx.gl σ T o ⟨.rptr (f i.den.toNat), [], [], []⟩ := by
  intro B N E a w ff hf' hg st ag agh hT
  have hx : RO E.I w (.sl nl n sz f) (a.eval x) := by
    rcases hv with hv | ⟨h, hv⟩
    · exact (rd_sound hv hg st (ag_of ag (by simp [ho, Op.operands])) hT).sl_inv
    · exact (rd_sound hv hg st (ag_of ag (by simp [ho, Op.operands])) hT).gsl_inv.1
  have hy := (rd_sound hi hg st (ag_of ag (by simp [ho, Op.operands])) hT).int_inv
  obtain ⟨b1, b2⟩ := h1 hT
  rcases hx.sl_inv with ⟨_, e0, _⟩ | ⟨ad, m, cap, g, e0, _, e2, _, _, e4, e5, e5', e6, e7⟩
  · omega
  · have hj : i.den.toNat < m := by omega
    refine yields_value st (v := .pointer (some (ad.add (i.den.toNat * sz)))) ?_ rfl (.ro (sl_elem e4 e5 e5' e6 e7 hj))
    have hrun := run_indexAt_sl hc hl hk hn (w := w) (a := ad) (m := m) (cap := cap) (k := k) b1 (show i.den < (m : Int) by omega)
    simp [execOp, ho, e0, hy, hrun]

theorem local_index_arr (hc : CxOk P cx) {t e sz n : Nat} {ti : TI} (hl : look t cx.tt = some ti) (hk : ti.k = .array n e) (hn : size? cx e = some sz) {x y : Operand} (ho : o.op = .indexAddr t x y) {f : Nat → List SV} {k : IntKind} {i : ST}
    (hv : rd cx σ T x = some (.rarr n sz f)) (hi : rd cx σ T y = some (.int k i)) (h1 : allT (condsOf σ.gm T) → 0 ≤ i.den ∧ i.den < n) : Local P cx.gl σ T o ⟨.rptr (f i.den.toNat), [], [], []⟩ := by
  intro B N E a w ff hf' hg st ag agh hT
  have hx := rd_sound hv hg st (ag_of ag (by simp [ho, Op.operands])) hT
  have hy := (rd_sound hi hg st (ag_of ag (by simp [ho, Op.operands])) hT).int_inv
  obtain ⟨b1, b2⟩ := h1 hT
  have hx : RO E.I w (.rarr n sz f) (a.eval x) := by cases hx with | ro h => exact h
  generalize hev : a.eval x = ev at hx
  cases hx with
  | rarr g hs hl2 h1' hcell hrel =>
    rename_i ad
    refine yields_value st (v := .pointer (some (ad.add (i.den.toNat * sz)))) ?_ rfl (.ro (sl_elem (fun _ => hs) hl2 h1' hcell hrel (by omega)))
    have hu := (hc.ti hl).array hk
    obtain ⟨te, hte, hsz⟩ := size?_ti hn
    have hS := (hc.ti hte).sizeOf w
    simp [execOp, ho, hev, hy, Instr.indexAt, run_underlying hu, asIntOf, b1, b2, hS, hsz, Instr.sureAddr]

/-! ### extract, not, arithmetic -/

theorem local_extract {x : Operand} {i : Nat} (ho : o.op = .extract x i) {vs : List SV} {s : SV} (hv : rd cx σ T x = some (.tup vs)) (hs : nth vs i = some s) : Local P cx.gl σ T o ⟨s, [], [], []⟩ := by
  intro B N E a w ff hf' hg st ag agh hT
  obtain ⟨us, hx, hl⟩ := (rd_sound hv hg st (ag_of ag (by simp [ho, Op.operands])) hT).tup_inv
  rw [nth_eq] at hs
  have hlt : i < us.length := by rw [← hl.1]; exact (List.getElem?_eq_some_iff.1 hs).1
  refine yields_value st (v := us[i]) ?_ rfl (hl.2 i s _ hs (List.getElem?_eq_getElem hlt))
  simp [execOp, ho, hx, Instr.extract, hlt]

theorem notT_den (b : BT) : (notT b).den = !b.den := by unfold notT; split <;> rfl
theorem cmpT_den (op : BinOp) (x y : ST) : (cmpT op x y).den = cmpDen op x.den y.den := by unfold cmpT; split <;> rfl
theorem binT_den (op : BinOp) (k : IntKind) (x y : ST) : (binT op k x y).den = binDen op k x.den y.den := by unfold binT; split <;> rfl

theorem local_not {t : Nat} {x : Operand} (ho : o.op = .unOp .not t x) {b : BT} (hv : rd cx σ T x = some (.bool b)) : Local P cx.gl σ T o ⟨.bool (notT b), [], [], []⟩ := by
  intro B N E a w ff hf' hg st ag agh hT
  have hx := (rd_sound hv hg st (ag_of ag (by simp [ho, Op.operands])) hT).bool_inv
  refine yields_value st (v := .bool (!b.den)) ?_ rfl (.bool (notT_den b))
  simp [execOp, ho, hx, Op.unary]

theorem local_neg {t : Nat} {x : Operand} (ho : o.op = .unOp .neg t x) {k : IntKind} {n : ST} (hv : rd cx σ T x = some (.int k n)) : Local P cx.gl σ T o ⟨.int k (binT .sub k (.l 0) n), [], [], []⟩ := by
  intro B N E a w ff hf' hg st ag agh hT
  have hx := (rd_sound hv hg st (ag_of ag (by simp [ho, Op.operands])) hT).int_inv
  refine yields_value st (v := .int k (k.wrap (0 - n.den))) ?_ rfl (.int (binT_den _ _ _ _))
  simp [execOp, ho, hx, Op.unary, Op.intArith]

/-- One argument. -/
theorem run_len_any {t : Nat} {ti : TI} (hc : CxOk P cx) (hl : look t cx.tt = some ti) {e : TypeId} (hk : ti.k = .slice e) {w : World} {a : Option Addr} {m c : Nat} {ty : TypeId} :
    (Builtin.len_ #[t] ty #[.slice a m c]).run P w = .ok (.int .i64 m) w := by
  have hu := (hc.ti hl).slice hk
  simp [Builtin.len_, run_underlying hu, goInt]

theorem run_len_str {t : Nat} {ti : TI} (hc : CxOk P cx) (hl : look t cx.tt = some ti) (hk : ti.k = .string) {w : World} {s : ByteArray} {ty : TypeId} :
    (Builtin.len_ #[t] ty #[.string s]).run P w = .ok (.int .i64 s.size) w := by
  obtain ⟨d, hd, hb⟩ := (hc.ti hl).und
  rw [hk] at hb
  cases d <;> simp only [kindB, Bool.false_eq_true] at hb
  simp [Builtin.len_, run_underlying hd, goInt]

theorem local_len_sl (hc : CxOk P cx) {c : Call} (ho : o.op = .call c) (hcal : c.callee = .builtin .len) {x : Operand} {t : Nat} {ti : TI} (hx : c.args.toList = [x]) (ht : c.argTypes.toList = [t]) (hl : look t cx.tt = some ti) {e : TypeId} (hk : ti.k = .slice e)
    {nl : BT} {n : ST} {sz : Nat} {f : Nat → List SV} (hv : rd cx σ T x = some (.sl nl n sz f) ∨ ∃ h, rd cx σ T x = some (.gsl nl n sz f h)) : Local P cx.gl σ T o ⟨.int .i64 n, [], [], []⟩ := by
  intro B N E a w ff hf' hg st ag agh hT
  have hmem : x ∈ o.op.operands.toList := by simp [ho, Op.operands, Call.operands, hcal, hx]
  have hx' : RO E.I w (.sl nl n sz f) (a.eval x) := by
    rcases hv with hv | ⟨h, hv⟩
    · exact (rd_sound hv hg st (ag_of ag hmem) hT).sl_inv
    · exact (rd_sound hv hg st (ag_of ag hmem) hT).gsl_inv.1
  have e1 : c.args = #[x] := Array.ext' (by simpa using hx)
  have e2 : c.argTypes = #[t] := Array.ext' (by simpa using ht)
  have : ∃ a0 m c0, a.eval x = .slice a0 m c0 ∧ n.den = (m : Int) := by
    rcases hx'.sl_inv with ⟨e0, e3, _⟩ | ⟨ad, m, cap, g, e0, _, e3, _⟩
    · exact ⟨none, 0, 0, e0, by simpa using e3⟩
    · exact ⟨_, m, cap, e0, e3⟩
  obtain ⟨a0, m, c0, e3, e4⟩ := this
  have hrun := run_len_any hc hl hk (w := w) (a := a0) (m := m) (c := c0) (ty := o.type)
  refine yields_value st (v := .int .i64 m) ?_ rfl (.int e4)
  simp [execOp, ho, resolve, hcal, e1, e2, invoke, builtin, e3, hrun]

theorem local_len_str (hc : CxOk P cx) {c : Call} (ho : o.op = .call c) (hcal : c.callee = .builtin .len) {x : Operand} {t : Nat} {ti : TI} (hx : c.args.toList = [x]) (ht : c.argTypes.toList = [t]) (hl : look t cx.tt = some ti) (hk : ti.k = .string)
    {s : List UInt8} (hv : rd cx σ T x = some (.str s)) : Local P cx.gl σ T o ⟨.int .i64 (.len s), [], [], []⟩ := by
  intro B N E a w ff hf' hg st ag agh hT
  have hmem : x ∈ o.op.operands.toList := by simp [ho, Op.operands, Call.operands, hcal, hx]
  have hx' := (rd_sound hv hg st (ag_of ag hmem) hT).str_inv
  have e1 : c.args = #[x] := Array.ext' (by simpa using hx)
  have e2 : c.argTypes = #[t] := Array.ext' (by simpa using ht)
  have hrun := run_len_str hc hl hk (w := w) (s := bytes s) (ty := o.type)
  refine yields_value st (v := .int .i64 s.length) ?_ rfl (.int rfl)
  have : (bytes s).size = s.length := rfl
  simp [execOp, ho, resolve, hcal, e1, e2, invoke, builtin, hx', hrun, this]

theorem local_conv (hc : CxOk P cx) {src dst : Nat} {x : Operand} (ho : o.op = .convert src dst x) {ti tj : TI} (hl : look dst cx.tt = some ti) (hl' : look src cx.tt = some tj) {k k' : IntKind} (hk : ti.k = .int k) {n : ST} (hv : rd cx σ T x = some (.int k' n)) :
    Local P cx.gl σ T o ⟨.int k (.cv k n), [], [], []⟩ := by
  intro B N E a w ff hf' hg st ag agh hT
  have hx := (rd_sound hv hg st (ag_of ag (by simp [ho, Op.operands])) hT).int_inv
  have hu := (hc.ti hl).int hk
  obtain ⟨d, hd, _⟩ := (hc.ti hl').und
  refine yields_value st (v := .int k (k.wrap n.den)) ?_ rfl (.int rfl)
  simp [execOp, ho, hx, convert, run_underlying hu, run_underlying hd, Conv.intToInt]

theorem run_eqGuard_int {op : BinOp} {t : TypeId} {x y : Operand} {k k' : IntKind} {m n : Int} {w : World} : (eqGuard op t x y (.int k m) (.int k' n)).run P w = .ok () w := by
  unfold eqGuard; cases op <;> rfl
theorem run_eqGuard_bool {op : BinOp} {t : TypeId} {x y : Operand} {m n : Bool} {w : World} : (eqGuard op t x y (.bool m) (.bool n)).run P w = .ok () w := by
  unfold eqGuard; cases op <;> rfl
theorem run_eqGuard_str {op : BinOp} {t : TypeId} {x y : Operand} {m n : ByteArray} {w : World} : (eqGuard op t x y (.string m) (.string n)).run P w = .ok () w := by
  unfold eqGuard; cases op <;> rfl

theorem local_bin {op : BinOp} {t u : TypeId} {x y : Operand} (ho : o.op = .binOp op t x y u) {sx sy s : SV} (hx : rd cx σ T x = some sx) (hy : rd cx σ T y = some sy)
    (hrun : ∀ (E : Env) (w : World) (vx vy : Value), allT (condsOf σ.gm T) → Rel E w sx vx → Rel E w sy vy → ∃ v, (eqGuard op t x y vx vy).run P w = .ok () w ∧ (binOp op t vx vy).run P w = .ok v w ∧ Rel E w s v) : Local P cx.gl σ T o ⟨s, [], [], []⟩ := by
  intro B N E a w ff hf' hg st ag agh hT
  have h1 := rd_sound hx hg st (ag_of ag (by simp [ho, Op.operands])) hT
  have h2 := rd_sound hy hg st (ag_of ag (by simp [ho, Op.operands])) hT
  obtain ⟨v, r1, r2, r3⟩ := hrun E w _ _ hT h1 h2
  refine yields_value st (v := v) ?_ rfl r3
  simp [execOp, ho, r1, r2]

theorem str_eq {s t : List UInt8} : ((bytes s).toList == (bytes t).toList) = (s == t) := by
  have h : ∀ l : List UInt8, (bytes l).toList = l := fun l => by rw [Go.Lib.toList_data]; rfl
  rw [h, h]

end
end Go.Sx
/- Binary operations; equality. -/
namespace Go.Sx
open Go

section
variable {P : Program} {cx : Cx} {σ : Sy} {T : List Nat} {o : Oper} {K : Out → Prop}

theorem bin_int_arith {op : BinOp} (ha : arith op = true) {t : TypeId} {k : IntKind} {m n : Int} {w : World} : (binOp op t (.int k m) (.int k n)).run P w = .ok (.int k (binDen op k m n)) w := by
  cases op <;> first | (simp [arith] at ha; done) | simp [binOp, Op.intArith, Op.intBits, binDen]

theorem bin_int_cmp {op : BinOp} (ha : isCmp op = true) {t : TypeId} {k : IntKind} {m n : Int} {w : World} : (binOp op t (.int k m) (.int k n)).run P w = .ok (.bool (cmpDen op m n)) w := by
  cases op <;> first | (simp [isCmp] at ha; done) | simp [binOp, Op.intCmp, cmpDen]

theorem andT_den (x y : BT) : (andT x y).den = (x.den && y.den) := by
  unfold andT
  split
  · simp [BT.den]
  · simp [BT.den]
  · rfl

def packV (agg : Bool) (vs : List Value) : Value := if agg then .agg ⟨vs⟩ else vs.headD undef

theorem TIok.bool {t : Nat} {ti : TI} (h : TIok P t ti) (hk : ti.k = .bool) : P.underlying t = some .bool := by
  obtain ⟨d, hd, hb⟩ := h.und
  rw [hk] at hb
  cases d <;> simp only [kindB, Bool.false_eq_true] at hb
  exact hd
theorem TIok.string {t : Nat} {ti : TI} (h : TIok P t ti) (hk : ti.k = .string) : P.underlying t = some .string := by
  obtain ⟨d, hd, hb⟩ := h.und
  rw [hk] at hb
  cases d <;> simp only [kindB, Bool.false_eq_true] at hb
  exact hd

theorem RelL.one {E : Env} {w : World} {s : SV} {vs : List Value} (h : RelL E w [s] vs) : ∃ v, vs = [v] ∧ Rel E w s v := by
  match vs, h with
  | [v], h => exact ⟨v, rfl, h.2 0 s v rfl rfl⟩
  | [], h => exact absurd h.1 (by simp)
  | _ :: _ :: _, h => exact absurd h.1 (by simp)

theorem eqFs_run (hc : CxOk P cx) {g : TypeId → List SV → List SV → Option BT} {d : Nat} {E : Env} {w : World}
    (hg : ∀ (t : TypeId) (ti : TI) (xs ys : List SV) (b : BT) (X Y : List Value), look t cx.tt = some ti → g t xs ys = some b → RelL E w xs X → RelL E w ys Y →
      (aggK ti.k = false → X.length = 1 ∧ Y.length = 1) ∧ (Op.equalIn d t (packV (aggK ti.k) X) (packV (aggK ti.k) Y)).run P w = .ok b.den w) {xs ys : List SV} {X Y : List Value} (hX : RelL E w xs X) (hY : RelL E w ys Y) :
    ∀ (fields : List Field) (b : BT), (∀ f ∈ fields, f.name ≠ "_") → eqFs cx g xs ys (fields.map fun f => (f.offset, f.type)) = some b → (Op.eqFields d ⟨X⟩ ⟨Y⟩ fields).run P w = .ok b.den w
  | [], b, _, h => by simp [eqFs] at h; subst h; rfl
  | f :: fields, b, hn, h => by
    simp only [List.map_cons, eqFs] at h
    split at h
    · rename_i m hm
      split at h
      · rename_i b1 b2 h1 h2
        cases h
        obtain ⟨ti, hti, hsz⟩ := size?_ti hm
        rw [takeN_eq, dropN_eq, takeN_eq, dropN_eq] at h1
        have hX' := (hX.drop f.offset).take m
        have hY' := (hY.drop f.offset).take m
        obtain ⟨k1, k2⟩ := hg f.type ti _ _ b1 _ _ hti h1 hX' hY'
        have r1 := run_part (hc.ti hti) hsz (w := w) (vs := X) (fo := f.offset) (fun e => (k1 e).1)
        have r2 := run_part (hc.ti hti) hsz (w := w) (vs := Y) (fo := f.offset) (fun e => (k1 e).2)
        have ih := eqFs_run hc hg hX hY fields b2 (fun f hf => hn f (List.mem_cons_of_mem _ hf)) h2
        unfold packV at k2
        simp only [Op.eqFields, ne_eq, hn f (List.mem_cons_self ..), not_false_eq_true, if_true, Sem.run_bind, r1, r2, k2, Result.andThen_ok]
        rw [andT_den]
        cases b1.den <;> simp [ih]
      · cases h
    · cases h

theorem eqBT_run (hc : CxOk P cx) {E : Env} {w : World} : ∀ (n d : Nat), n ≤ d → ∀ (t : TypeId) (ti : TI) (xs ys : List SV) (b : BT) (X Y : List Value), look t cx.tt = some ti → eqBT cx n t xs ys = some b → RelL E w xs X → RelL E w ys Y →
      (aggK ti.k = false → X.length = 1 ∧ Y.length = 1) ∧ (Op.equalIn d t (packV (aggK ti.k) X) (packV (aggK ti.k) Y)).run P w = .ok b.den w
  | 0, _, _, _, _, _, _, _, _, _, _, h, _, _ => by simp [eqBT] at h
  | n + 1, 0, hd, _, _, _, _, _, _, _, _, _, _, _ => by omega
  | n + 1, d + 1, hd, t, ti, xs, ys, b, X, Y, hl, h, hX, hY => by
    simp only [eqBT, hl] at h
    split at h
    · rename_i k a1 a2 a3 e
      cases e
      have hu := (hc.ti hl).int rfl
      split at h
      · split at h
        · cases h
          obtain ⟨u, rfl, hu1⟩ := hX.one
          obtain ⟨v, rfl, hv1⟩ := hY.one
          refine ⟨fun _ => ⟨rfl, rfl⟩, ?_⟩
          rename_i e2
          subst e2
          rw [hu1.int_inv, hv1.int_inv] 
          simp only [packV, aggK, cmpT_den, cmpDen]
          exact run_equalIn_int w d t _ k _ _ hu
        · cases h
      · cases h
    · rename_i a1 a2 a3 e
      cases e
      have hu := (hc.ti hl).bool rfl
      split at h
      · cases h
        obtain ⟨u, rfl, hu1⟩ := hX.one
        obtain ⟨v, rfl, hv1⟩ := hY.one
        refine ⟨fun _ => ⟨rfl, rfl⟩, ?_⟩
        rw [hu1.bool_inv, hv1.bool_inv]
        simp only [packV, aggK]
        exact run_equalIn_bool' w d t _ _ hu
      · cases h
    · rename_i a1 a2 a3 e
      cases e
      have hu := (hc.ti hl).string rfl
      split at h
      · cases h
        obtain ⟨u, rfl, hu1⟩ := hX.one
        obtain ⟨v, rfl, hv1⟩ := hY.one
        refine ⟨fun _ => ⟨rfl, rfl⟩, ?_⟩
        rw [hu1.str_inv, hv1.str_inv]
        simp only [packV, aggK]
        refine (run_equalIn_string w d t _ _ hu).trans ?_
        rw [str_eq]
        rfl
      · cases h
    · rename_i fs a1 a2 a3 e
      cases e
      split at h
      · rename_i hmem
        obtain ⟨e1, e2, e3⟩ := hc.eqs t ((hasN_iff _ _).1 hmem)
        obtain ⟨fields, hu, he, _⟩ := (hc.ti hl).struct rfl
        have hfo : P.fieldsOf t = fields := by simp [Program.fieldsOf, hu]
        refine ⟨fun e => by simp [aggK] at e, ?_⟩
        simp only [packV, aggK, if_true]
        rw [run_equalIn_agg w d t ⟨X⟩ ⟨Y⟩ (by rw [hfo]; exact hu) e1]
        rw [hfo] at e3 ⊢
        rw [← he] at h
        exact eqFs_run hc (fun t ti xs ys b X Y a1 a2 a3 a4 => eqBT_run hc n d (by omega) t ti xs ys b X Y a1 a2 a3 a4) hX hY fields.toList b e3 h
      · cases h
    · cases h

theorem seqS_den (cx : Cx) (a b : List UInt8) : (seqS cx a b).den = (a == b) := by
  unfold seqS
  split <;> rfl
theorem stepBin_sound (hc : CxOk P cx) {op : BinOp} {t u : TypeId} {x y : Operand} (ho : o.op = .binOp op t x y u) {sx sy : SV} (hx : rd cx σ T x = some sx) (hy : rd cx σ T y = some sy) (h : stepBin cx σ.gm T op t sx sy K) :
    ∃ r, K r ∧ Local P cx.gl σ T o r := by
  unfold stepBin at h
  split at h
  · rename_i k a k' b
    split at h
    · rename_i har
      split at h
      · rename_i hk
        subst hk
        refine ⟨_, h, local_bin ho hx hy fun E w vx vy _ h1 h2 => ?_⟩
        rw [h1.int_inv, h2.int_inv]
        exact ⟨_, run_eqGuard_int, bin_int_arith har, .int (binT_den _ _ _ _)⟩
      · exact h.elim
    · split at h
      · rename_i hcm
        split at h
        · rename_i hk
          subst hk
          refine ⟨_, h, local_bin ho hx hy fun E w vx vy _ h1 h2 => ?_⟩
          rw [h1.int_inv, h2.int_inv]
          exact ⟨_, run_eqGuard_int, bin_int_cmp hcm, .bool (cmpT_den _ _ _)⟩
        · exact h.elim
      · have hquo : ∀ (op' : BinOp), (op' = .quo ∨ op' = .rem) → op = op' → (if k = k' then Ob cx.D σ.gm T (NZ (cx.D.i b)) ∧ out K (.int k (.bin op k a b)) else False) → ∃ r, K r ∧ Local P cx.gl σ T o r := by
          intro op' hop e hh
          split at hh
          · rename_i hk
            subst hk
            obtain ⟨hob, hh⟩ := hh
            rw [hc.D, Ob_iff] at hob
            refine ⟨_, hh, local_bin ho hx hy fun E w vx vy hT h1 h2 => ?_⟩
            rw [h1.int_inv, h2.int_inv]
            have hb : b.den ≠ 0 := (hob hT).h
            refine ⟨.int k (binDen op k a.den b.den), run_eqGuard_int, ?_, .int rfl⟩
            subst e
            rcases hop with rfl | rfl <;> simp [binOp, Op.intDiv, binDen, hb]
          · exact hh.elim
        have hsh : ∀ (op' : BinOp), (op' = .shl ∨ op' = .shr) → op = op' → (Ob cx.D σ.gm T (NN (cx.D.i b)) ∧ out K (.int k (.bin op k a b))) → ∃ r, K r ∧ Local P cx.gl σ T o r := by
          intro op' hop e hh
          obtain ⟨hob, hh⟩ := hh
          rw [hc.D, Ob_iff] at hob
          refine ⟨_, hh, local_bin ho hx hy fun E w vx vy hT h1 h2 => ?_⟩
          rw [h1.int_inv, h2.int_inv]
          have hb : 0 ≤ b.den := (hob hT).h
          refine ⟨.int k (binDen op k a.den b.den), run_eqGuard_int, ?_, .int rfl⟩
          have hb' : ¬ b.den < 0 := by omega
          subst e
          rcases hop with rfl | rfl <;> simp [binOp, Op.shift, binDen, hb']
        split at h
        · exact hquo _ (.inl rfl) rfl h
        · exact hquo _ (.inr rfl) rfl h
        · exact hsh _ (.inl rfl) rfl h
        · exact hsh _ (.inr rfl) rfl h
        · exact h.elim
  · rename_i a b
    split at h
    · rename_i a1 a2 a3 hl
      have hu := (hc.ti hl).bool rfl
      refine ⟨_, h, local_bin ho hx hy fun E w vx vy _ h1 h2 => ?_⟩
      rw [h1.bool_inv, h2.bool_inv]
      refine ⟨.bool (a.den == b.den), run_eqGuard_bool, ?_, .bool rfl⟩
      simp only [binOp, Op.equal, Op.maxDepth, Sem.run_bind, run_equalIn_bool' w 9999 t _ _ hu, Result.andThen_ok, Sem.run_pure]
    · rename_i a1 a2 a3 hl
      have hu := (hc.ti hl).bool rfl
      refine ⟨_, h, local_bin ho hx hy fun E w vx vy _ h1 h2 => ?_⟩
      rw [h1.bool_inv, h2.bool_inv]
      refine ⟨.bool (!(a.den == b.den)), run_eqGuard_bool, ?_, .bool rfl⟩
      simp only [binOp, Op.equal, Op.maxDepth, Sem.run_bind, run_equalIn_bool' w 9999 t _ _ hu, Result.andThen_ok, Sem.run_pure]
    · exact h.elim
  · rename_i a b
    split at h
    · obtain ⟨hob, h⟩ := h
      rw [hc.D, Ob_iff] at hob
      refine ⟨_, h _ ⟨rfl⟩, local_bin ho hx hy fun E w vx vy hT h1 h2 => ?_⟩
      rw [h1.str_inv, h2.str_inv]
      have hle := (hob hT).h
      refine ⟨.string (bytes (a ++ b)), run_eqGuard_str, ?_, .ro (.str rfl)⟩
      have hs : ∀ l : List UInt8, (bytes l).size = l.length := fun _ => rfl
      have hmax : ¬ (IntKind.i64.max < ((a.length + b.length : Nat) : Int)) := by
        have : IntKind.i64.max = 9223372036854775807 := by decide
        omega
      have happ : bytes a ++ bytes b = bytes (a ++ b) := by
        apply ByteArray.ext
        rw [ByteArray.data_append]
        simp [bytes]
      simp only [binOp, Op.stringOp, hs, gt_iff_lt, hmax, if_false, happ, Sem.run_pure]
    · refine ⟨_, h, local_bin ho hx hy fun E w vx vy _ h1 h2 => ?_⟩
      rw [h1.str_inv, h2.str_inv]
      exact ⟨.bool (a == b), run_eqGuard_str, by simp only [binOp, Op.stringOp, str_eq, Sem.run_pure], .bool (seqS_den cx a b)⟩
    · refine ⟨_, h, local_bin ho hx hy fun E w vx vy _ h1 h2 => ?_⟩
      rw [h1.str_inv, h2.str_inv]
      exact ⟨.bool (!(a == b)), run_eqGuard_str, by simp only [binOp, Op.stringOp, str_eq, Sem.run_pure], .bool (by rw [notT_den, seqS_den])⟩
    · exact h.elim
  · rename_i a b
    have key : ∀ c, (hasN t cx.eqs && isAgg? cx t) = true → eqBT cx 8 t a b = some c → ∀ (E : Env) (w : World) (vx vy : Value), Rel E w (.agg a) vx → Rel E w (.agg b) vy →
        ∃ X Y, vx = .agg ⟨X⟩ ∧ vy = .agg ⟨Y⟩ ∧ ∀ (x y : Operand), (eqGuard op t x y vx vy).run P w = .ok () w ∧ (Op.equalIn 10000 t vx vy).run P w = .ok c.den w := by
      intro c hag he E w vx vy h1 h2
      simp only [Bool.and_eq_true] at hag
      have : ∃ ti, look t cx.tt = some ti := by
        cases hl : look t cx.tt with
        | none => simp [eqBT, hl] at he
        | some ti => exact ⟨ti, rfl⟩
      obtain ⟨ti, hl⟩ := this
      obtain ⟨X, rfl, hX⟩ := h1.agg_inv
      obtain ⟨Y, rfl, hY⟩ := h2.agg_inv
      obtain ⟨k1, k2⟩ := eqBT_run hc 8 10000 (by decide) t ti a b c X Y hl he hX hY
      rw [isAgg?_eq hl] at hag
      rw [hag.2] at k2
      exact ⟨X, Y, rfl, rfl, fun x y => ⟨run_eqGuard_agg w op t x y _ _ (hc.eqs t ((hasN_iff _ _).1 hag.1)).2.1, k2⟩⟩
    split at h
    · rename_i c hag he
      refine ⟨_, h, local_bin ho hx hy fun E w vx vy _ h1 h2 => ?_⟩
      obtain ⟨X, Y, rfl, rfl, hk⟩ := key c hag he E w vx vy h1 h2
      obtain ⟨g1, g2⟩ := hk x y
      refine ⟨.bool c.den, g1, ?_, .bool rfl⟩
      rw [run_eql_struct, g2]; rfl
    · rename_i c hag he
      refine ⟨_, h, local_bin ho hx hy fun E w vx vy _ h1 h2 => ?_⟩
      obtain ⟨X, Y, rfl, rfl, hk⟩ := key c hag he E w vx vy h1 h2
      obtain ⟨g1, g2⟩ := hk x y
      refine ⟨.bool (!c.den), g1, ?_, .bool (notT_den c)⟩
      rw [run_neq_struct, g2]; rfl
    · exact h.elim
  · exact h.elim

end
end Go.Sx
/- build; pick; calls; the executor's step as a whole. -/
namespace Go.Sx
open Go

section
variable {P : Program} {cx : Cx} {σ : Sy} {T : List Nat} {o : Oper} {K : Out → Prop}

/-! ### build -/

theorem rdParts_sound {B : Bs} {N : Nat} {E : Env} {a : Act} {w : World} {ff : Nat → SG} {hf : Nat → Hl} (hg : glOk B cx.gl) (st : St B N E a w ff hf) (hT : allT (condsOf σ.gm T)) :
    ∀ (ps : List (Nat × Operand)) (vs : List (Nat × SV)), (∀ p ∈ ps, ∀ s ∈ opSlots p.2, ff s = ffOf σ s) → rdParts cx σ T ps = some vs → vs.length = ps.length ∧ ∀ (i : Nat) (p : Nat × SV) (q : Nat × Operand), vs[i]? = some p → ps[i]? = some q → p.1 = q.1 ∧ Rel E w p.2 (a.eval q.2)
  | [], vs, _, h => by simp [rdParts] at h; subst h; simp
  | (i, x) :: ps, vs, ag, h => by
    simp only [rdParts] at h
    split at h
    · rename_i v us hv hus
      cases h
      obtain ⟨h1, h2⟩ := rdParts_sound hg st hT ps us (fun p hp => ag p (List.mem_cons_of_mem _ hp)) hus
      refine ⟨by simp [h1], fun j p q hp hq => ?_⟩
      cases j with
      | zero =>
        simp at hp hq
        subst hp hq
        exact ⟨rfl, rd_sound hv hg st (ag _ (List.mem_cons_self ..)) hT⟩
      | succ j => simp at hp hq; exact h2 j p q hp hq
    · cases h

theorem putRel {E : Env} {w : World} {cs vs : List SV} {C us : List Value} (h : RelL E w cs C) (hv : RelL E w vs us) (off : Nat) (hle : off + vs.length ≤ cs.length) : RelL E w (putN cs off vs) (putN C off us) := by
  refine ⟨by rw [len_putN, len_putN, h.1], fun i s v h1 h2 => ?_⟩
  rw [get_putN _ _ _ _ hle] at h1
  rw [get_putN _ _ _ _ (by rw [← hv.1, ← h.1]; exact hle)] at h2
  rw [← hv.1] at h2
  split at h1
  · rename_i e
    rw [if_pos e] at h2
    exact hv.2 _ s v h1 h2
  · rename_i e
    rw [if_neg e] at h2
    exact h.2 i s v h1 h2

theorem foldl_put : ∀ (us : List Value) (C : List Value) (off k : Nat), (us.zipIdx k).foldl (fun (cs : Array Value) (c : Value × Nat) => cs.setIfInBounds (off + c.2) c.1) ⟨C⟩ = ⟨putN C (off + k) us⟩
  | [], C, off, k => rfl
  | u :: us, C, off, k => by
    simp only [List.zipIdx_cons, List.foldl_cons]
    have : (⟨C⟩ : Array Value).setIfInBounds (off + k) u = ⟨setN C (off + k) u⟩ := by rw [setN_eq]; simp
    rw [this, foldl_put us _ off (k + 1), putN]
    congr 1

theorem fill_step {place : Nat → Option (Nat × Nat)} {C : List Value} {i off n : Nat} {v : Value} {ps : List (Nat × Value)} (hp : place i = some (off, n)) (hn : v.cells.size = n) (hle : off + n ≤ C.length) :
    Instr.fill place ⟨C⟩ ((i, v) :: ps) = Instr.fill place ⟨putN C off v.cells.toList⟩ ps := by
  have hf := foldl_put v.cells.toList C off 0
  simp only [Nat.add_zero] at hf
  have hz : v.cells.zipIdx.foldl (fun (cs : Array Value) (c : Value × Nat) => cs.setIfInBounds (off + c.2) c.1) ⟨C⟩ = ⟨putN C off v.cells.toList⟩ := by
    rw [← hf, ← Array.foldl_toList]
    congr 1
    simp
  simp only [Instr.fill, hp]
  rw [if_neg (by simp; omega)]
  rw [← hz]

theorem fillP_sound (hc : CxOk P cx) {E : Env} {w : World} {t : Nat} {ti : TI} (hl : look t cx.tt = some ti) {place : Nat → Option (Nat × Nat)}
    (hplace : ∀ (i off n : Nat), (∃ fs ft, ti.k = .struct fs ∧ nth fs i = some (off, ft) ∧ size? cx ft = some n) ∨ (∃ m e, ti.k = .array m e ∧ size? cx e = some n ∧ off = i * n) → place i = some (off, n)) :
    ∀ (vs : List (Nat × SV)) (us : List (Nat × Value)) (cs cs' : List SV) (C : List Value), vs.length = us.length → (∀ (i : Nat) (p : Nat × SV) (q : Nat × Value), vs[i]? = some p → us[i]? = some q → p.1 = q.1 ∧ Rel E w p.2 q.2) → (∀ p ∈ vs, onesB p.2.cells = true) → RelL E w cs C →
      fillP cx t cs vs = some cs' → ∃ C', Instr.fill place ⟨C⟩ us = some ⟨C'⟩ ∧ RelL E w cs' C'
  | [], us, cs, cs', C, hlen, _, _, hr, h => by
    have : us = [] := List.eq_nil_of_length_eq_zero (by simpa using hlen.symm)
    subst this
    simp [fillP] at h
    subst h
    exact ⟨C, rfl, hr⟩
  | (i, v) :: vs, us, cs, cs', C, hlen, hrel, h1, hr, h => by
    match us, hlen, hrel with
    | (i', u) :: us, hlen, hrel =>
      obtain ⟨e0, hvu⟩ := hrel 0 (i, v) (i', u) rfl rfl
      simp only at e0
      subst e0
      have hcells := cells_of (h1 _ (List.mem_cons_self ..)) hvu
      simp only [fillP, hl] at h
      have fin : ∀ (off n : Nat), place i = some (off, n) → (lenN v.cells == n && Nat.ble (off + n) (lenN cs)) = true → fillP cx t (putN cs off v.cells) vs = some cs' → ∃ C', Instr.fill place ⟨C⟩ ((i, u) :: us) = some ⟨C'⟩ ∧ RelL E w cs' C' := by
        intro off n hp hb h
        simp only [Bool.and_eq_true, beq_iff_eq, Nat.ble_eq, lenN_eq] at hb
        obtain ⟨b1, b2⟩ := hb
        have hsz : u.cells.size = n := by rw [← b1, hcells.1]; simp
        rw [fill_step hp hsz (by rw [← hr.1]; exact b2)]
        exact fillP_sound hc hl hplace vs us _ cs' _ (by simpa using hlen) (fun j p q a b => hrel (j + 1) p q (by simpa using a) (by simpa using b)) (fun p hp => h1 p (List.mem_cons_of_mem _ hp)) (putRel hr hcells off (by show off + v.cells.length ≤ cs.length; omega)) h
      split at h
      · rename_i fs a1 a2 a3 e
        cases e
        split at h
        · rename_i off ft hn
          split at h
          · rename_i n hsz
            split at h
            · rename_i hb
              exact fin off n (hplace i off n (.inl ⟨fs, ft, rfl, hn, hsz⟩)) hb h
            · cases h
          · cases h
        · cases h
      · rename_i m e a1 a2 a3 e2
        cases e2
        split at h
        · rename_i n hsz
          split at h
          · rename_i hb
            exact fin (i * n) n (hplace i _ n (.inr ⟨m, e, rfl, hsz, rfl⟩)) hb h
          · cases h
        · cases h
      · cases h

theorem mapM_places {Q : Program} : ∀ (fs : List Field), (∀ f ∈ fs, ∃ i, Q.info? f.type = some i) → ∃ places : List (Nat × Nat), fs.mapM (fun (f : Field) => (Q.info? f.type).map fun i => (f.offset, i.size)) = some places ∧ ∀ i : Nat, places[i]? = (fs[i]?).bind fun (f : Field) => (Q.info? f.type).map fun j => (f.offset, j.size)
  | [], _ => ⟨[], by simp, by simp⟩
  | f :: fs, h => by
    obtain ⟨i, hi⟩ := h f (List.mem_cons_self ..)
    obtain ⟨ps, h1, h2⟩ := mapM_places (Q := Q) fs (fun f hf => h f (List.mem_cons_of_mem _ hf))
    refine ⟨(f.offset, i.size) :: ps, by simp [List.mapM_cons, hi, h1], fun j => ?_⟩
    cases j with
    | zero => simp [hi]
    | succ j => simp [h2]

theorem onesP_get : ∀ {ps : List (Nat × SV)}, onesP ps = true → ∀ p ∈ ps, onesB p.2.cells = true
  | [], _, p, hp => by cases hp
  | q :: ps, h, p, hp => by
    simp only [onesP, Bool.and_eq_true] at h
    rcases List.mem_cons.1 hp with rfl | hp
    · exact h.1
    · exact onesP_get h.2 p hp

theorem local_build (hc : CxOk P cx) {t : Nat} {ps : Array (Nat × Operand)} (ho : o.op = .build t ps) {ti : TI} (hl : look t cx.tt = some ti) {vs : List (Nat × SV)} (hv : rdParts cx σ T ps.toList = some vs) (h1 : onesP vs = true) {cs : List SV}
    (hf : fillP cx t ti.zero vs = some cs) (hk : (∃ fs, ti.k = .struct fs) ∨ ∃ n e, ti.k = .array n e) (hsz : ∀ e n, ti.k = .array n e → ∃ m, size? cx e = some m) : Local P cx.gl σ T o ⟨.agg cs, [], [], []⟩ := by
  intro B N E a w ff hf' hg st ag agh hT
  have hag : ∀ p ∈ ps.toList, ∀ s ∈ opSlots p.2, ff s = ffOf σ s := fun p hp => ag_of ag (by simp only [ho, Op.operands]; simp; exact ⟨p.1, by simpa using hp⟩)
  obtain ⟨h2, h3⟩ := rdParts_sound hg st hT ps.toList vs hag hv
  obtain ⟨z, hz, hzr, _⟩ := (hc.ti hl).zero E w
  obtain ⟨i, z', hi, hsz1, _, hz', _⟩ := (hc.ti hl).info
  have hzz : z' = z := by
    have : (zeroValue t).run P w = .ok z' w := by simp [zeroValue, typeInfo, hi, hz']
    rw [hz] at this
    simpa using this.symm
  subst hzz
  have hus : ∀ (j : Nat) (p : Nat × SV) (q : Nat × Value), vs[j]? = some p → ((ps.map fun (x : Nat × Operand) => (x.1, a.eval x.2)).toList)[j]? = some q → p.1 = q.1 ∧ Rel E w p.2 q.2 := by
    intro j p q hp hq
    rw [Array.toList_map, List.getElem?_map] at hq
    cases hpj : ps.toList[j]? with
    | none => rw [hpj] at hq; cases hq
    | some x =>
      rw [hpj] at hq
      simp only [Option.map_some, Option.some.injEq] at hq
      subst hq
      exact h3 j p x hp hpj
  have fin : ∀ (place : Nat → Option (Nat × Nat)), (∀ (i off n : Nat), (∃ fs ft, ti.k = .struct fs ∧ nth fs i = some (off, ft) ∧ size? cx ft = some n) ∨ (∃ m e, ti.k = .array m e ∧ size? cx e = some n ∧ off = i * n) → place i = some (off, n)) →
      (∀ us, P.built t us = Instr.fill place z'.cells us) → Yields P o ⟨.agg cs, [], [], []⟩ B E a w hf' := by
    intro place hpl hb
    obtain ⟨C', c1, c2⟩ := fillP_sound hc hl hpl vs (ps.map fun (x : Nat × Operand) => (x.1, a.eval x.2)).toList ti.zero cs z'.cells.toList (by simp [h2]) hus (onesP_get h1) hzr hf
    have hrun := run_build (P := P) w t (ps.map fun (x : Nat × Operand) => (x.1, a.eval x.2)) ⟨C'⟩ (by rw [hb]; exact c1)
    refine yields_value st (v := .agg ⟨C'⟩) ?_ rfl c2.agg
    simp only [execOp, ho, Sem.run_bind]
    rw [hrun]
    rfl
  rcases hk with ⟨fs, hk⟩ | ⟨n, e, hk⟩
  · obtain ⟨fields, hu, he, hin⟩ := (hc.ti hl).struct hk
    obtain ⟨places, p1, p2⟩ := mapM_places (Q := P) fields.toList hin
    refine fin (places.toArray[·]?) ?_ ?_
    · rintro i off n (⟨fs', ft, k1, k2, k3⟩ | ⟨m, e, k1, _⟩)
      · rw [hk] at k1
        cases k1
        obtain ⟨f, f1, f2, f3⟩ := fields_get he k2
        obtain ⟨fi, hfi, hs⟩ := size?_ti k3
        obtain ⟨ii, zz, hii, hs2, _⟩ := (hc.ti hfi).info
        simp only [List.getElem?_toArray]
        rw [p2 i, Array.getElem?_toList, f1]
        subst f3
        simp [hii, f2, hs2, hs]
      · rw [hk] at k1; cases k1
    · intro us
      simp only [Program.built, hi, hu, hz', p1]
  · have hu := (hc.ti hl).array hk
    obtain ⟨m, hm⟩ := hsz e n hk
    obtain ⟨te, hte, hs⟩ := size?_ti hm
    obtain ⟨ie, ze, hie, hs2, _⟩ := (hc.ti hte).info
    refine fin (fun i => some (i * ie.size, ie.size)) ?_ ?_
    · rintro i off n' (⟨fs', ft, k1, _⟩ | ⟨m', e', k1, k2, k3⟩)
      · rw [hk] at k1; cases k1
      · rw [hk] at k1
        cases k1
        rw [hm] at k2
        cases k2
        simp [k3, hs2, hs]
    · intro us
      simp only [Program.built, hi, hu, hz', hie]

end
end Go.Sx
