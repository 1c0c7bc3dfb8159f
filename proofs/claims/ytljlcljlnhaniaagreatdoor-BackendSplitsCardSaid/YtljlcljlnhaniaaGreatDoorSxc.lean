/- Part of the proof of the statement: an evaluator of the code at closed data, run by the kernel, and that it is sound; it has no conditions of its own. -/
import Derived.Test.YtljlcljlnhaniaaGreatDoorSxb
set_option linter.unusedVariables false
set_option linter.unusedSimpArgs false
/- Calls. -/
namespace Go.Sx
open Go

/-- A function with a body, none of the model's own. -/
def FnGood (P : Program) (f : FuncId) : Prop := ∃ fn c, P.funcs[f]? = some fn ∧ fn.body = some c ∧ (fn.name == "runtime.NumGoroutine") = false

/-- Called at 'as' over the blocks 'ls' the function hands back 'r' and leaves 'ls''. -/
def CallsTo (P : Program) (gl : List (Nat × SV)) (f : FuncId) (as : List SV) (ls : List Hl) (r : SV) (ls' : List Hl) : Prop :=
  ∀ (B : Bs) (E : Env) (w : World) (vals : List Value), B.w0 = w → (∀ b o, E.I b o → B.I0 b o) → (∀ h, B.β0 h ≠ none ∨ B.τ0 h ≠ none ∨ B.ζ0 h ≠ none → h < ls.length) → Base B E w → glOk B gl → (∀ h, HOk E w h (hfOf ls h)) → RelL E w as vals →
    Calls P f ⟨vals⟩ w fun e w' => ∃ v E', e = .returned v ∧ Base B E' w' ∧ (∀ h, h < ls'.length → HOk E' w' h (hfOf ls' h)) ∧ Rel E' w' r v

def FnOk (P : Program) (gl : List (Nat × SV)) (f : FuncId) (sp : FSpec) : Prop :=
  FnGood P f ∧ ∀ (as : List SV) (ls : List Hl) (K : SV → List Hl → Prop), sp dn as ls K → ∃ r ls', K r ls' ∧ CallsTo P gl f as ls r ls'

def TabOk (P : Program) (gl : List (Nat × SV)) (tab : List (Nat × FSpec)) : Prop := ∀ x ∈ tab, FnOk P gl x.1 x.2

theorem TabOk.look {P : Program} {gl : List (Nat × SV)} : ∀ {tab : List (Nat × FSpec)} {f : Nat} {sp : FSpec}, TabOk P gl tab → Sx.look f tab = some sp → FnOk P gl f sp
  | [], _, _, _, h => by simp [Sx.look] at h
  | (g, sq) :: tab, f, sp, ht, h => by
    simp only [Sx.look] at h
    split at h
    · rename_i e
      have e : g = f := by simpa using e
      subst e
      simp only [Option.some.injEq] at h
      subst h
      exact ht _ (List.mem_cons_self ..)
    · exact TabOk.look (fun x hx => ht x (List.mem_cons_of_mem _ hx)) h

/-! ### normal forms -/

theorem plainL_iff : ∀ (cs : List SV), plainV.plainL cs = true ↔ ∀ c ∈ cs, plainV c = true
  | [] => by simp [plainV.plainL]
  | c :: cs => by simp [plainV.plainL, plainL_iff cs]

theorem Rel.plain {E E' : Env} {w : World} {s : SV} {v : Value} (h : Rel E w s v) (hI : E'.I = E.I) (hp : plainV s = true) : Rel E' w s v := by
  induction h with
  | ro h => exact .ro (by rw [hI]; exact h)
  | ptr hb hv => simp [plainV] at hp
  | gsl hr ht => simp [plainV] at hp
  | mrow hb hm hv => simp [plainV] at hp
  | mptr hb hz hv => simp [plainV] at hp
  | osl ht hk => simp [plainV] at hp
  | optr hv ho => simp [plainV] at hp
  | agg hl _ ih =>
    refine .agg hl fun i s v h1 h2 => ih i s v h1 h2 ?_
    simp only [plainV] at hp
    exact (plainL_iff _).1 hp s (List.mem_of_getElem? h1)
  | tup hl _ ih =>
    refine .tup hl fun i s v h1 h2 => ih i s v h1 h2 ?_
    simp only [plainV] at hp
    exact (plainL_iff _).1 hp s (List.mem_of_getElem? h1)
  | clo hl _ => simp [plainV] at hp

theorem normL_eq (D : Dn) : ∀ (cs : List SV), norm.normL D cs = cs.map (norm D)
  | [] => rfl
  | c :: cs => by simp [norm.normL, normL_eq D cs]
theorem looseL_eq : ∀ (cs : List SV), loose.looseL cs = cs.map loose
  | [] => rfl
  | c :: cs => by simp [loose.looseL, looseL_eq cs]

theorem RO.norm {I : Nat → Nat → Prop} {w : World} {s : SV} {v : Value} (h : RO I w s v) : RO I w (norm dn s) v := by
  induction h with
  | int h => exact .int h
  | bool h => exact .bool h
  | str h => exact .str h
  | nilp => exact .nilp
  | raw h => exact .raw h
  | fn h => exact .fn h
  | slnil h hn => exact .slnil h hn
  | sl g h hn hc hcm hs hl h1 hcell hrel _ => exact .sl g h hn hc hcm hs hl h1 hcell hrel
  | rptr g hs h1 hcell hrel _ => exact .rptr g hs h1 hcell hrel
  | rarr g hs hl h1 hcell hrel _ => exact .rarr g hs hl h1 hcell hrel
  | agg hl h ih =>
    simp only [Sx.norm, normL_eq]
    refine .agg (by simp [hl]) fun i s v h1 h2 => ?_
    rw [List.getElem?_map] at h1
    cases e : (‹List SV›)[i]? with
    | none => rw [e] at h1; cases h1
    | some s' => rw [e] at h1; cases h1; exact ih i s' v e h2

theorem Rel.norm {E : Env} {w : World} {s : SV} {v : Value} (h : Rel E w s v) : Rel E w (norm dn s) v := by
  induction h with
  | ro h => exact .ro h.norm
  | ptr hb hv => exact .ptr hb hv
  | gsl hr ht => exact .gsl hr.norm ht
  | mrow hb hm hv => exact .mrow hb hm hv
  | mptr hb hz hv => exact .mptr hb hz hv
  | osl ht hk => exact .osl ht hk
  | optr hv ho => exact .optr hv ho
  | agg hl _ ih =>
    simp only [Sx.norm, normL_eq]
    refine .agg (by simp [hl]) fun i s v h1 h2 => ?_
    rw [List.getElem?_map] at h1
    cases e : (‹List SV›)[i]? with
    | none => rw [e] at h1; cases h1
    | some s' => rw [e] at h1; cases h1; exact ih i s' v e h2
  | tup hl _ ih =>
    simp only [Sx.norm, normL_eq]
    refine .tup (by simp [hl]) fun i s v h1 h2 => ?_
    rw [List.getElem?_map] at h1
    cases e : (‹List SV›)[i]? with
    | none => rw [e] at h1; cases h1
    | some s' => rw [e] at h1; cases h1; exact ih i s' v e h2
  | clo hl _ ih =>
    simp only [Sx.norm, normL_eq]
    refine .clo (by simp [hl]) fun i s v h1 h2 => ?_
    rw [List.getElem?_map] at h1
    cases e : (‹List SV›)[i]? with
    | none => rw [e] at h1; cases h1
    | some s' => rw [e] at h1; cases h1; exact ih i s' v e h2

theorem RO.loose {I : Nat → Nat → Prop} {w : World} {s : SV} {v : Value} (h : RO I w s v) : RO I w (loose s) v := by
  induction h with
  | int h => exact .int h
  | bool h => exact .bool h
  | str h => exact .str h
  | nilp => exact .nilp
  | raw h => exact .raw h
  | fn h => exact .fn h
  | slnil h hn => exact .slnil h hn
  | sl g h hn hc hcm hs hl h1 hcell hrel _ => exact .sl g h hn hc hcm hs hl h1 hcell hrel
  | rptr g hs h1 hcell hrel _ => exact .rptr g hs h1 hcell hrel
  | rarr g hs hl h1 hcell hrel _ => exact .rarr g hs hl h1 hcell hrel
  | agg hl h ih =>
    simp only [Sx.loose, looseL_eq]
    refine .agg (by simp [hl]) fun i s v h1 h2 => ?_
    rw [List.getElem?_map] at h1
    cases e : (‹List SV›)[i]? with
    | none => rw [e] at h1; cases h1
    | some s' => rw [e] at h1; cases h1; exact ih i s' v e h2

theorem Rel.loose {E : Env} {w : World} {s : SV} {v : Value} (h : Rel E w s v) : Rel E w (loose s) v := by
  induction h with
  | ro h => exact .ro h.loose
  | ptr hb hv => exact .ptr hb hv
  | gsl hr ht => exact .ro hr
  | mrow hb hm hv => exact .mrow hb hm hv
  | mptr hb hz hv => exact .mptr hb hz hv
  | osl ht hk => exact .osl ht hk
  | optr hv ho => exact .optr hv ho
  | agg hl _ ih =>
    simp only [Sx.loose, looseL_eq]
    refine .agg (by simp [hl]) fun i s v h1 h2 => ?_
    rw [List.getElem?_map] at h1
    cases e : (‹List SV›)[i]? with
    | none => rw [e] at h1; cases h1
    | some s' => rw [e] at h1; cases h1; exact ih i s' v e h2
  | tup hl _ ih =>
    simp only [Sx.loose, looseL_eq]
    refine .tup (by simp [hl]) fun i s v h1 h2 => ?_
    rw [List.getElem?_map] at h1
    cases e : (‹List SV›)[i]? with
    | none => rw [e] at h1; cases h1
    | some s' => rw [e] at h1; cases h1; exact ih i s' v e h2
  | clo hl _ ih =>
    simp only [Sx.loose, looseL_eq]
    refine .clo (by simp [hl]) fun i s v h1 h2 => ?_
    rw [List.getElem?_map] at h1
    cases e : (‹List SV›)[i]? with
    | none => rw [e] at h1; cases h1
    | some s' => rw [e] at h1; cases h1; exact ih i s' v e h2

theorem RelL.map {E E' : Env} {w : World} {cs : List SV} {vs : List Value} (h : RelL E w cs vs) (g : SV → SV) (hg : ∀ s v, s ∈ cs → Rel E w s v → Rel E' w (g s) v) : RelL E' w (cs.map g) vs := by
  refine ⟨by simp [h.1], fun i s v h1 h2 => ?_⟩
  rw [List.getElem?_map] at h1
  cases e : cs[i]? with
  | none => rw [e] at h1; cases h1
  | some s' => rw [e] at h1; cases h1; exact hg s' v (List.mem_of_getElem? e) (h.2 i s' v e h2)

section
variable {P : Program} {cx : Cx} {σ : Sy} {T : List Nat} {o : Oper} {K : Out → Prop}

theorem capsOf_other (hp : List Hl) {v : SV} (hv : ∀ a b, v ≠ .ptr a b) {vs : List SV} {n : Nat} : capsOf hp (v :: vs) n = match plainV v, capsOf hp vs n with
    | true, some (as, hs, ls) => some (v :: as, hs, ls)
    | _, _ => none := by
  cases v <;> first | rfl | exact absurd rfl (hv _ _)

/-- What 'capsOf' gives. -/
theorem capsOf_spec (hp : List Hl) : ∀ (vs : List SV) (n : Nat) (as : List SV) (hs : List Nat) (ls : List Hl), capsOf hp vs n = some (as, hs, ls) →
    hs.Nodup ∧ ls.length = hs.length ∧ (∀ (i h : Nat), hs[i]? = some h → ∃ l, nth hp h = some l ∧ ls[i]? = some l ∧ (passP l || passO l) = true) ∧
    ∀ (E E' : Env) (w : World) (us : List Value), E'.I = E.I → (∀ (i h : Nat), hs[i]? = some h → E'.β (n + i) = E.β h ∧ E'.τ (n + i) = E.τ h) → RelL E w vs us → RelL E' w as us
  | [], n, as, hs, ls, h => by
    simp only [capsOf, Option.some.injEq, Prod.mk.injEq] at h
    obtain ⟨rfl, rfl, rfl⟩ := h
    exact ⟨List.nodup_nil, rfl, by simp, fun E E' w us _ _ hr => ⟨hr.1, by simp⟩⟩
  | v :: vs, n, as, hs, ls, h => by
    have plainCase : ∀ as' , plainV v = true → capsOf hp vs n = some (as', hs, ls) → as = v :: as' → hs.Nodup ∧ ls.length = hs.length ∧ (∀ (i h : Nat), hs[i]? = some h → ∃ l, nth hp h = some l ∧ ls[i]? = some l ∧ (passP l || passO l) = true) ∧
        ∀ (E E' : Env) (w : World) (us : List Value), E'.I = E.I → (∀ (i h : Nat), hs[i]? = some h → E'.β (n + i) = E.β h ∧ E'.τ (n + i) = E.τ h) → RelL E w (v :: vs) us → RelL E' w as us := by
      intro as' hpl h e
      obtain ⟨h1, h2, h3, h4⟩ := capsOf_spec hp vs n as' hs ls h
      refine ⟨h1, h2, h3, fun E E' w us hI hβ hr => ?_⟩
      match us, hr with
      | u :: us, hr =>
        subst e
        exact .cons ((hr.2 0 v u rfl rfl).plain hI hpl) (h4 E E' w us hI hβ ⟨by have := hr.1; simpa using this, fun i s v a b => hr.2 (i + 1) s v a b⟩)
      | [], hr => exact absurd hr.1 (by simp)
    by_cases hv : ∃ hd off, v = .ptr hd off
    · obtain ⟨hd, off, rfl⟩ := hv
      simp only [capsOf] at h
      split at h
      · rename_i l0 as' hs' ls' e1 e2
        split at h
        case isFalse => cases h
        · rename_i hn
          simp only [Bool.and_eq_true, Bool.not_eq_true'] at hn
          obtain ⟨hpp, hn⟩ := hn
          simp only [Option.some.injEq, Prod.mk.injEq] at h
          obtain ⟨rfl, rfl, rfl⟩ := h
          obtain ⟨h1, h2, h3, h4⟩ := capsOf_spec hp _ (n + 1) as' hs' ls' e2
          have hnm : hd ∉ hs' := fun hm => by rw [(hasN_iff _ _).2 hm] at hn; cases hn
          refine ⟨List.nodup_cons.2 ⟨hnm, h1⟩, by simp [h2], fun i k hk => ?_, fun E E' w us hI hβ hr => ?_⟩
          · cases i with
            | zero => simp at hk; subst hk; exact ⟨l0, e1, rfl, by simp [hpp]⟩
            | succ i => simp at hk; simpa using h3 i k hk
          · match us, hr with
            | u :: us, hr =>
              obtain ⟨b, hb, hu⟩ := (hr.2 0 _ u rfl rfl).ptr_inv
              refine .cons (.ptr ?_ hu) (h4 E E' w us hI (fun i k hk => ?_) ⟨by have := hr.1; simpa using this, fun i s v a b => hr.2 (i + 1) s v a b⟩)
              · have := (hβ 0 hd rfl).1
                simp only [Nat.add_zero] at this
                rw [this]; exact hb
              · have := hβ (i + 1) k (by simpa using hk)
                rw [show n + 1 + i = n + (i + 1) by omega]; exact this
            | [], hr => exact absurd hr.1 (by simp)
      · cases h
    · rw [capsOf_other hp (fun a b e => hv ⟨a, b, e⟩)] at h
      split at h
      · rename_i as' hs' ls' e1 e2
        simp only [Option.some.injEq, Prod.mk.injEq] at h
        obtain ⟨rfl, rfl, rfl⟩ := h
        exact plainCase as' e1 e2 rfl
      · cases h


theorem apartN_iff : ∀ {l t : List Nat}, apartN l t = true → ∀ x ∈ l, x ∉ t
  | [], _, _, x, hx => by simp at hx
  | y :: l, t, h, x, hx => by
    simp only [apartN, Bool.and_eq_true, Bool.not_eq_true'] at h
    rcases List.mem_cons.1 hx with rfl | hx
    · exact fun hm => by rw [(hasN_iff _ _).2 hm] at h; exact absurd h.1 (by simp)
    · exact apartN_iff h.2 x hx

theorem argsOf_other (hp : List Hl) {v : SV} (hv : ∀ a b, v ≠ .ptr a b) (hc : ∀ f cs, v ≠ .clo f cs) (ho : ∀ a b c, v ≠ .osl a b c) {vs : List SV} {n : Nat} : argsOf hp (v :: vs) n = match plainV v, argsOf hp vs n with
    | true, some (as, hs, ls) => some (v :: as, hs, ls)
    | _, _ => none := by
  cases v <;> first | rfl | exact absurd rfl (hv _ _) | exact absurd rfl (hc _ _) | exact absurd rfl (ho _ _ _)

/-- What 'argsOf' gives. -/
theorem argsOf_spec (hp : List Hl) : ∀ (vs : List SV) (n : Nat) (as : List SV) (hs : List Nat) (ls : List Hl), argsOf hp vs n = some (as, hs, ls) →
    hs.Nodup ∧ ls.length = hs.length ∧ (∀ (i h : Nat), hs[i]? = some h → ∃ l, nth hp h = some l ∧ ls[i]? = some l ∧ (passP l || passO l) = true) ∧
    ∀ (E E' : Env) (w : World) (us : List Value), E'.I = E.I → (∀ (i h : Nat), hs[i]? = some h → E'.β (n + i) = E.β h ∧ E'.τ (n + i) = E.τ h) → RelL E w vs us → RelL E' w as us
  | [], n, as, hs, ls, h => by
    simp only [argsOf, Option.some.injEq, Prod.mk.injEq] at h
    obtain ⟨rfl, rfl, rfl⟩ := h
    exact ⟨List.nodup_nil, rfl, by simp, fun E E' w us _ _ hr => ⟨hr.1, by simp⟩⟩
  | v :: vs, n, as, hs, ls, h => by
    have plainCase : ∀ as' , plainV v = true → argsOf hp vs n = some (as', hs, ls) → as = v :: as' → hs.Nodup ∧ ls.length = hs.length ∧ (∀ (i h : Nat), hs[i]? = some h → ∃ l, nth hp h = some l ∧ ls[i]? = some l ∧ (passP l || passO l) = true) ∧
        ∀ (E E' : Env) (w : World) (us : List Value), E'.I = E.I → (∀ (i h : Nat), hs[i]? = some h → E'.β (n + i) = E.β h ∧ E'.τ (n + i) = E.τ h) → RelL E w (v :: vs) us → RelL E' w as us := by
      intro as' hpl h e
      obtain ⟨h1, h2, h3, h4⟩ := argsOf_spec hp vs n as' hs ls h
      refine ⟨h1, h2, h3, fun E E' w us hI hβ hr => ?_⟩
      match us, hr with
      | u :: us, hr =>
        subst e
        exact .cons ((hr.2 0 v u rfl rfl).plain hI hpl) (h4 E E' w us hI hβ ⟨by have := hr.1; simpa using this, fun i s v a b => hr.2 (i + 1) s v a b⟩)
      | [], hr => exact absurd hr.1 (by simp)
    by_cases hv : ∃ hd off, v = .ptr hd off
    · obtain ⟨hd, off, rfl⟩ := hv
      simp only [argsOf] at h
      split at h
      · rename_i l0 as' hs' ls' e1 e2
        split at h
        case isFalse => cases h
        · rename_i hn
          simp only [Bool.and_eq_true, Bool.not_eq_true'] at hn
          obtain ⟨hpp, hn⟩ := hn
          simp only [Option.some.injEq, Prod.mk.injEq] at h
          obtain ⟨rfl, rfl, rfl⟩ := h
          obtain ⟨h1, h2, h3, h4⟩ := argsOf_spec hp _ (n + 1) as' hs' ls' e2
          have hnm : hd ∉ hs' := fun hm => by rw [(hasN_iff _ _).2 hm] at hn; cases hn
          refine ⟨List.nodup_cons.2 ⟨hnm, h1⟩, by simp [h2], fun i k hk => ?_, fun E E' w us hI hβ hr => ?_⟩
          · cases i with
            | zero => simp at hk; subst hk; exact ⟨l0, e1, rfl, by simp [hpp]⟩
            | succ i => simp at hk; simpa using h3 i k hk
          · match us, hr with
            | u :: us, hr =>
              obtain ⟨b, hb, hu⟩ := (hr.2 0 _ u rfl rfl).ptr_inv
              refine .cons (.ptr ?_ hu) (h4 E E' w us hI (fun i k hk => ?_) ⟨by have := hr.1; simpa using this, fun i s v a b => hr.2 (i + 1) s v a b⟩)
              · have := (hβ 0 hd rfl).1
                simp only [Nat.add_zero] at this
                rw [this]; exact hb
              · have := hβ (i + 1) k (by simpa using hk)
                rw [show n + 1 + i = n + (i + 1) by omega]; exact this
            | [], hr => exact absurd hr.1 (by simp)
      · cases h
    · by_cases hc : ∃ f cs, v = .clo f cs
      · obtain ⟨f, cs, rfl⟩ := hc
        simp only [argsOf] at h
        split at h
        · rename_i as1 hs1 ls1 e1
          split at h
          · rename_i as' hs' ls' e2
            split at h
            · rename_i hap
              simp only [Option.some.injEq, Prod.mk.injEq] at h
              obtain ⟨rfl, rfl, rfl⟩ := h
              rw [lenN_eq] at e2
              obtain ⟨c1, c2, c3, c4⟩ := capsOf_spec hp cs n as1 hs1 ls1 e1
              obtain ⟨h1, h2, h3, h4⟩ := argsOf_spec hp _ (n + hs1.length) as' hs' ls' e2
              refine ⟨List.nodup_append.2 ⟨c1, h1, fun a ha b hb e => apartN_iff hap a ha (e ▸ hb)⟩, by simp [h2, c2], fun i k hk => ?_, fun E E' w us hI hβ hr => ?_⟩
              · by_cases hlt : i < hs1.length
                · rw [List.getElem?_append_left hlt] at hk
                  rw [List.getElem?_append_left (by omega)]
                  exact c3 i k hk
                · rw [List.getElem?_append_right (by omega)] at hk
                  rw [List.getElem?_append_right (by omega), c2]
                  exact h3 _ k hk
              · match us, hr with
                | u :: us, hr =>
                  obtain ⟨cv, rfl, hcv⟩ := (hr.2 0 _ u rfl rfl).clo_inv
                  have hcv' := c4 E E' w cv hI (fun i k hk => hβ i k (by rw [List.getElem?_append_left (List.getElem?_eq_some_iff.1 hk).1]; exact hk)) hcv
                  refine .cons (.clo hcv'.1 hcv'.2) (h4 E E' w us hI (fun i k hk => ?_) ⟨by have := hr.1; simpa using this, fun i s v a b => hr.2 (i + 1) s v a b⟩)
                  have := hβ (hs1.length + i) k (by rw [List.getElem?_append_right (by omega)]; simpa using hk)
                  rw [show n + hs1.length + i = n + (hs1.length + i) by omega]; exact this
                | [], hr => exact absurd hr.1 (by simp)
            · cases h
          · cases h
        · cases h
      by_cases ho : ∃ nl m hd, v = .osl nl m hd
      · obtain ⟨nl, m, hd, rfl⟩ := ho
        simp only [argsOf] at h
        split at h
        · rename_i l0 as' hs' ls' e1 e2
          split at h
          case isFalse => cases h
          · rename_i hn
            simp only [Bool.and_eq_true, Bool.not_eq_true'] at hn
            obtain ⟨hpp, hn⟩ := hn
            simp only [Option.some.injEq, Prod.mk.injEq] at h
            obtain ⟨rfl, rfl, rfl⟩ := h
            obtain ⟨h1, h2, h3, h4⟩ := argsOf_spec hp _ (n + 1) as' hs' ls' e2
            have hnm : hd ∉ hs' := fun hm => by rw [(hasN_iff _ _).2 hm] at hn; cases hn
            refine ⟨List.nodup_cons.2 ⟨hnm, h1⟩, by simp [h2], fun i k hk => ?_, fun E E' w us hI hβ hr => ?_⟩
            · cases i with
              | zero => simp at hk; subst hk; exact ⟨l0, e1, rfl, by simp [hpp]⟩
              | succ i => simp at hk; simpa using h3 i k hk
            · match us, hr with
              | u :: us, hr =>
                obtain ⟨ht, a0, m0, c0, t1, t2⟩ := (hr.2 0 _ u rfl rfl).osl_inv
                refine .cons (.osl ht ⟨a0, m0, c0, ?_, t2⟩) (h4 E E' w us hI (fun i k hk => ?_) ⟨by have := hr.1; simpa using this, fun i s v a b => hr.2 (i + 1) s v a b⟩)
                · have := (hβ 0 hd rfl).2
                  simp only [Nat.add_zero] at this
                  rw [this]; exact t1
                · have := hβ (i + 1) k (by simpa using hk)
                  rw [show n + 1 + i = n + (i + 1) by omega]; exact this
              | [], hr => exact absurd hr.1 (by simp)
        · cases h
      rw [argsOf_other hp (fun a b e => hv ⟨a, b, e⟩) (fun f cs e => hc ⟨f, cs, e⟩) (fun a b c e => ho ⟨a, b, c, e⟩)] at h
      split at h
      · rename_i as' hs' ls' e1 e2
        simp only [Option.some.injEq, Prod.mk.injEq] at h
        obtain ⟨rfl, rfl, rfl⟩ := h
        exact plainCase as' e1 e2 rfl
      · cases h

end
end Go.Sx
/- A call by its contract. -/
namespace Go.Sx
open Go

section
variable {P : Program} {cx : Cx} {σ : Sy} {T : List Nat} {o : Oper} {K : Out → Prop}

theorem normH_get (D : Dn) : ∀ (ls : List Hl) (i : Nat), (normH D ls)[i]? = (ls[i]?).map fun l => match l with
    | .blk ty cs => .blk ty (loose.looseL (norm.normL D cs))
    | .own ty n sz gr f => .own ty (.a (D.i n)) sz gr f
    | l => l
  | [], i => by simp [normH]
  | l :: ls, i => by
    cases i with
    | zero => cases l <;> simp [normH, normH.looseL]
    | succ i => cases l <;> simp [normH, normH_get D ls i]

theorem len_normH (D : Dn) : ∀ (ls : List Hl), (normH D ls).length = ls.length
  | [] => rfl
  | l :: ls => by cases l <;> simp [normH, len_normH D ls]

/-- What may be passed on. -/
def okP : Hl → Prop
  | .blk _ cs => ∀ c ∈ cs, plainV c = true
  | .own .. => True
  | .bld .. => True
  | .gone => True
  | _ => False

theorem plainH_get : ∀ {ls : List Hl}, plainH ls = true → ∀ {i : Nat} {l : Hl}, ls[i]? = some l → okP l
  | [], _, i, l, h => by simp at h
  | l0 :: ls, hp, i, l, h => by
    cases i with
    | zero =>
      simp at h; subst h
      cases l0 <;> simp only [plainH, Bool.false_eq_true, Bool.and_eq_true] at hp <;> first | trivial | skip
      exact fun c hc => (plainL_iff _).1 (by simpa [plainV] using hp.1) c hc
    | succ i =>
      simp at h
      cases l0 <;> simp only [plainH, Bool.false_eq_true, Bool.and_eq_true] at hp <;> first | exact plainH_get hp h | exact plainH_get hp.2 h

/-- A heaplet under another number. -/
theorem HOk.move {E E' : Env} {w : World} {i k : Nat} {l : Hl} (h : HOk E w i l) (ho : okP l) (hI : E'.I = E.I) (hβ : E'.β k = E.β i) (hτ : E'.τ k = E.τ i) (hζ : E'.ζ k = E.ζ i) (hO : ∀ b, E.O b = some i → E'.O b = some k) : HOk E' w k l := by
  cases l with
  | fresh => exact ho.elim
  | gone => trivial
  | blk ty cs =>
    obtain ⟨b, C, k1, k2, k3, k4, k5, k6, k7⟩ := h
    exact ⟨b, C, by rw [hβ]; exact k1, hO b k2, k3, k4, fun j s v p q => (k5 j s v p q).plain hI (ho s (List.mem_of_getElem? p)), k6, by rw [hI]; exact k7⟩
  | tail ty n sz => exact ho.elim
  | row ty n sz f => exact ho.elim
  | own ty n sz gr f =>
    obtain ⟨v, m, xs, k1, k2, k3, k4, k5, k6, k7⟩ := h
    exact ⟨v, m, xs, by rw [hτ]; exact k1, by rw [hζ]; exact k2, k3, k4, k5, ⟨k6.1, by rw [hI]; exact k6.2⟩, fun b hb => ⟨hO b (k7 b hb).1, by rw [hI]; exact (k7 b hb).2⟩⟩
  | bld T e s =>
    obtain ⟨b, p, v, k1, k2, k3, k4, k5, k6, k7, k8⟩ := h
    exact ⟨b, p, v, by rw [hβ]; exact k1, hO b k2, k3, k4, k5, k6, by rw [hI]; exact k7, fun g hg => ⟨hO g (k8 g hg).1, by rw [hI]; exact (k8 g hg).2⟩⟩

theorem resL_iff (m m' : Nat) : ∀ (cs : List SV), resV.resL m m' cs = true ↔ ∀ c ∈ cs, resV m m' c = true
  | [] => by simp [resV.resL]
  | c :: cs => by simp [resV.resL, resL_iff m m' cs]
theorem reL_eq (m a : Nat) : ∀ (cs : List SV), reV.reL m a cs = cs.map (reV m a)
  | [] => rfl
  | c :: cs => by simp [reV.reL, reL_eq m a cs]

theorem reV_plain {m a : Nat} {s : SV} (h1 : ∀ nl n h, s ≠ .osl nl n h) (h2 : ∀ vs, s ≠ .tup vs) : reV m a s = s := by
  cases s <;> first | rfl | exact absurd rfl (h1 _ _ _) | exact absurd rfl (h2 _)

/-- A result under its caller's numbers. -/
theorem Rel.res {E E' : Env} {w : World} {m m' a : Nat} {s : SV} {v : Value} (h : Rel E w s v) (hI : E'.I = E.I) (hτ : ∀ k u, m ≤ k → k < m' → E.τ k = some u → E'.τ (k - m + a) = some u) (hp : resV m m' s = true) : Rel E' w (reV m a s) v := by
  induction h with
  | ro h =>
    rename_i s v
    have := reV_plain (m := m) (a := a) (s := s) (fun _ _ _ e => by subst e; cases h) (fun _ e => by subst e; cases h)
    rw [this]; exact .ro (by rw [hI]; exact h)
  | osl ht hk =>
    obtain ⟨a0, m0, c0, t1, t2⟩ := hk
    simp only [resV, Bool.and_eq_true, Nat.blt_eq] at hp
    exact .osl ht ⟨a0, m0, c0, hτ _ _ (Nat.le_of_ble_eq_true hp.1) hp.2 t1, t2⟩
  | tup hl _ ih =>
    simp only [reV, reL_eq]
    refine .tup (by simp [hl]) fun i s v h1 h2 => ?_
    rw [List.getElem?_map] at h1
    cases e : (‹List SV›)[i]? with
    | none => rw [e] at h1; cases h1
    | some s' =>
      rw [e] at h1; cases h1
      simp only [resV] at hp
      exact ih i s' v e h2 ((resL_iff m m' _).1 hp s' (List.mem_of_getElem? e))
  | agg hl hh _ => exact (Rel.agg hl hh).plain hI hp
  | ptr hb hv => simp [resV, plainV] at hp
  | gsl hr ht => simp [resV, plainV] at hp
  | mrow hb hm hv => simp [resV, plainV] at hp
  | mptr hb hz hv => simp [resV, plainV] at hp
  | optr hv ho => simp [resV, plainV] at hp
  | clo hl _ => simp [resV, plainV] at hp

theorem efsF_append (hf : Nat → Hl) : ∀ (a b : List Ef), efsF hf (a ++ b) = efsF (efsF hf a) b
  | [], b => rfl
  | e :: a, b => by show efsF (efF hf e) (a ++ b) = _; rw [efsF_append]; rfl

theorem efsF_new : ∀ (ls : List Hl) (a : Nat) (hf : Nat → Hl) (k : Nat), efsF hf (newEfs a ls) k = if a ≤ k ∧ k < a + ls.length then (ls[k - a]?).getD .gone else hf k
  | [], a, hf, k => by
    rw [if_neg (fun h => by have := h.1; have h2 : k < a + 0 := h.2; omega)]
    rfl
  | l :: ls, a, hf, k => by
    show efsF (upd hf a l) (newEfs (a + 1) ls) k = _
    rw [efsF_new ls (a + 1) (upd hf a l) k]
    by_cases e : k = a
    · subst e
      rw [if_neg (by omega), if_pos (by simp)]
      simp [upd]
    · by_cases e2 : a + 1 ≤ k ∧ k < a + 1 + ls.length
      · rw [if_pos e2, if_pos (by simp; omega)]
        obtain ⟨q, hq⟩ : ∃ q, k - a = q + 1 := ⟨k - a - 1, by omega⟩
        rw [hq, show k - (a + 1) = q by omega]
        simp
      · rw [if_neg e2, if_neg (by simp; omega)]
        simp [upd, e]

theorem mem_newEfs : ∀ (ls : List Hl) (a : Nat) (e : Ef), e ∈ newEfs a ls → ∃ i l, e = .put (a + i) l ∧ ls[i]? = some l
  | [], a, e, h => by simp [newEfs] at h
  | l :: ls, a, e, h => by
    simp only [newEfs, List.mem_cons] at h
    rcases h with rfl | h
    · exact ⟨0, l, rfl, rfl⟩
    · obtain ⟨i, l', rfl, h2⟩ := mem_newEfs ls (a + 1) e h
      exact ⟨i + 1, l', by rw [show a + (i + 1) = a + 1 + i by omega], by simpa using h2⟩
theorem newEfs_mem : ∀ (ls : List Hl) (a i : Nat) (l : Hl), ls[i]? = some l → Ef.put (a + i) l ∈ newEfs a ls
  | [], a, i, l, h => by simp at h
  | l0 :: ls, a, i, l, h => by
    cases i with
    | zero => simp at h; subst h; exact List.mem_cons_self ..
    | succ i => simp at h; rw [show a + (i + 1) = a + 1 + i by omega]; exact List.mem_cons_of_mem _ (newEfs_mem ls (a + 1) i l h)

theorem efsF_back {hf : Nat → Hl} : ∀ (hs : List Nat) (ls : List Hl), ls.length = hs.length → hs.Nodup →
    (∀ k, k ∉ hs → efsF hf (backEfs hs ls) k = hf k) ∧ ∀ (i k : Nat) (l : Hl), hs[i]? = some k → ls[i]? = some l → efsF hf (backEfs hs ls) k = l
  | [], ls, hl, _ => by
    have : ls = [] := List.eq_nil_of_length_eq_zero (by simpa using hl)
    subst this
    exact ⟨fun k _ => rfl, by simp⟩
  | h :: hs, [], hl, _ => by simp at hl
  | h :: hs, l :: ls, hl, hn => by
    rw [List.nodup_cons] at hn
    obtain ⟨a, b⟩ := efsF_back (hf := upd hf h l) hs ls (by simpa using hl) hn.2
    refine ⟨fun k hk => ?_, fun i k l' h1 h2 => ?_⟩
    · rw [List.mem_cons, not_or] at hk
      show efsF (upd hf h l) (backEfs hs ls) k = hf k
      rw [a k hk.2]
      simp [upd, hk.1]
    · show efsF (upd hf h l) (backEfs hs ls) k = l'
      cases i with
      | zero =>
        simp at h1 h2
        subst h1 h2
        rw [a h hn.1]
        simp [upd]
      | succ i => simp at h1 h2; exact b i k l' h1 h2

theorem rdAll_sound (hg : True) {B : Bs} {N : Nat} {E : Env} {a : Act} {w : World} {ff : Nat → SG} {hf : Nat → Hl} (hgl : glOk B cx.gl) (st : St B N E a w ff hf) (hT : allT (condsOf σ.gm T)) :
    ∀ (xs : List Operand) (ts : List TypeId) (vs : List SV), (∀ x ∈ xs, ∀ s ∈ opSlots x, ff s = ffOf σ s) → rdAll cx σ T xs ts = some vs → RelL E w vs (xs.map a.eval) := by
  intro xs
  induction xs with
  | nil => intro ts vs _ h; simp [rdAll] at h; subst h; exact .nil
  | cons x xs ih =>
    intro ts vs hag h
    cases ts with
    | nil =>
      simp only [rdAll] at h
      split at h
      · rename_i v us h1 h2
        cases h
        exact .cons (rd_sound h1 hgl st (hag x (List.mem_cons_self ..)) hT) (ih [] us (fun y hy => hag y (List.mem_cons_of_mem _ hy)) h2)
      · cases h
    | cons t ts =>
      simp only [rdAll] at h
      split at h
      · rename_i v us h1 h2
        cases h
        exact .cons (rdT_sound h1 hgl st (hag x (List.mem_cons_self ..)) hT) (ih ts us (fun y hy => hag y (List.mem_cons_of_mem _ hy)) h2)
      · cases h

/-- What is called, and with what. -/
def Enters (P : Program) (gl : List (Nat × SV)) (σ : Sy) (T : List Nat) (o : Oper) (f : FuncId) (vs : List SV) : Prop :=
  ∀ (B : Bs) (N : Nat) (E : Env) (a : Act) (w : World) (ff : Nat → SG) (hf : Nat → Hl), glOk B gl → St B N E a w ff hf → AgS σ ff o → allT (condsOf σ.gm T) → ∃ us : List Value, RelL E w vs us ∧ (execOp a.eval o).run P w = .ok (.enter f ⟨us⟩) w

/-- Numbers of a callee's heaplets, back in the caller's. -/
def pickE {α : Type} (hs : List Nat) (M m m' : Nat) (F G : Nat → Option α) (k : Nat) : Option α :=
  match hs.idxOf? k with
  | some i => F i
  | none => if M ≤ k ∧ k < M + (m' - m) then F (m + (k - M)) else G k

open Classical in
noncomputable def backO (hs : List Nat) (M m : Nat) (F G : Nat → Option Nat) (b : Nat) : Option Nat :=
  match F b with
  | some i => if i < m then hs[i]? else some (M + (i - m))
  | none => if ∃ k ∈ hs, G b = some k then none else G b

theorem local_call {f : FuncId} {vs : List SV} (hen : Enters P cx.gl σ T o f vs)
    {as : List SV} {hs : List Nat} {ls : List Hl} (hargs : argsOf σ.hp (loose.looseL (norm.normL dn vs)) 0 = some (as, hs, ls)) (hpl : plainH (normH dn ls) = true)
    {r : SV} {ls' : List Hl} (hct : CallsTo P cx.gl f as (normH dn ls) r ls') (hr : resV ls.length ls'.length r = true) (hls : plainH ls' = true) (hlen : ls.length ≤ ls'.length) :
    Local P cx.gl σ T o ⟨reV ls.length (lenN σ.hp) r, backEfs hs (takeN ls.length ls') ++ newEfs (lenN σ.hp) (dropN ls.length ls'), hs, []⟩ := by
  rw [takeN_eq, dropN_eq, lenN_eq]
  intro B N E a w ff hf hg st ag agh hT K' Q hK
  have hb := st.base
  obtain ⟨n1, n2, n3, n4⟩ := argsOf_spec σ.hp _ 0 as hs ls hargs
  obtain ⟨us, hvs, hrun⟩ := hen B N E a w ff hf hg st ag hT
  have hvs' : RelL E w (loose.looseL (norm.normL dn vs)) us := by
    rw [looseL_eq, normL_eq]
    exact (hvs.map _ fun s v _ h => h.norm).map _ fun s v _ h => h.loose
  -- the callee's state
  let Ec : Env := ⟨fun i => (hs[i]?).bind E.β, fun i => (hs[i]?).bind E.τ, fun b => (E.O b).bind fun h => hs.idxOf? h, fun _ => none, fun i => (hs[i]?).bind E.ζ, E.I⟩
  let Bc : Bs := ⟨w, fun b => ∃ h ∈ hs, E.O b = some h, E.I, Ec.β, Ec.τ, Ec.ζ⟩
  have hbc : Base Bc Ec w := by
    refine ⟨rfl, rfl, rfl, Nat.le_refl _, fun _ _ _ => rfl, fun b o h => ⟨h, rfl⟩, hb.Ibd, fun b o h => .inl h, fun b i h => ?_, ⟨fun _ _ h => h, fun _ _ h => .inl h, fun _ _ h => h⟩⟩
    have h : (E.O b).bind (fun h => hs.idxOf? h) = some i := h
    cases hO : E.O b with
    | none => rw [hO] at h; cases h
    | some k =>
      rw [hO] at h
      simp only [Option.bind_some] at h
      have hk : k ∈ hs := by
        rw [List.idxOf?_eq_some_iff] at h
        obtain ⟨hlt, he, _⟩ := h
        rw [← he]; exact List.getElem_mem hlt
      exact ⟨(hb.Obd b k hO).1, .inr ⟨k, hk, hO⟩⟩
  have hgc : glOk Bc cx.gl := fun g s h => ⟨(hg g s h).1.mono (fun b o h => (hb.I0 b o h).1) (fun b o h => (hb.I0 b o h).2), Nat.lt_of_lt_of_le (hg g s h).2.1 hb.size,
    fun ⟨k, _, hO⟩ => by
      rcases (hb.Obd g k hO).2 with h1 | h1
      · exact absurd (hg g s h).2.1 (Nat.not_lt.2 h1)
      · exact (hg g s h).2.2.1 h1,
    (hg g s h).2.2.2.same (hb.old g (hg g s h).2.1 (hg g s h).2.2.1)⟩
  have hIc : Ec.I = E.I := rfl
  have hidx : ∀ (i k : Nat), hs[i]? = some k → hs.idxOf? k = some i := by
    intro i k hk
    rw [List.idxOf?_eq_some_iff]
    obtain ⟨hlt, he⟩ := List.getElem?_eq_some_iff.1 hk
    refine ⟨hlt, by simp [he], fun j hj => ?_⟩
    have hne : hs[j] ≠ hs[i] := List.pairwise_iff_getElem.1 n1 j i (by omega) hlt hj
    rw [← he]; simpa using hne
  have hidx' : ∀ (i k : Nat), hs.idxOf? k = some i → hs[i]? = some k := by
    intro i k hk
    rw [List.idxOf?_eq_some_iff] at hk
    obtain ⟨hlt, he, _⟩ := hk
    rw [List.getElem?_eq_getElem hlt, he]
  have hidxn : ∀ k, k ∉ hs → hs.idxOf? k = none := by
    intro k hk
    cases h : hs.idxOf? k with
    | none => rfl
    | some i => exact absurd (List.mem_of_getElem? (hidx' i k h)) hk
  have hltM : ∀ k ∈ hs, k < σ.hp.length := by
    intro k hk
    obtain ⟨i, hi⟩ := List.mem_iff_getElem?.1 hk
    obtain ⟨l, m1, _⟩ := n3 i k hi
    rw [nth_eq] at m1
    exact (List.getElem?_eq_some_iff.1 m1).1
  have hheap : ∀ h, HOk Ec w h (hfOf (normH dn ls) h) := by
    intro h
    simp only [hfOf, nth_eq, normH_get]
    cases hl : ls[h]? with
    | none =>
      have : hs[h]? = none := by rw [List.getElem?_eq_none_iff] at hl ⊢; omega
      simp only [Option.map_none, Option.getD_none]
      exact ⟨by show (hs[h]?).bind E.β = none; rw [this]; rfl, by show (hs[h]?).bind E.τ = none; rw [this]; rfl, rfl, by show (hs[h]?).bind E.ζ = none; rw [this]; rfl⟩
    | some l =>
      have hlt : h < hs.length := by rw [← n2]; exact (List.getElem?_eq_some_iff.1 hl).1
      obtain ⟨l', m1, m2, m3⟩ := n3 h hs[h] (List.getElem?_eq_getElem hlt)
      rw [hl] at m2
      cases m2
      have hk := st.heap hs[h]
      rw [agh.rds _ (List.getElem_mem hlt), nth_hf m1] at hk
      have hok : okP ((fun l => match l with | .blk ty cs => Hl.blk ty (loose.looseL (norm.normL dn cs)) | .own ty n sz gr f => .own ty (.a (dn.i n)) sz gr f | l => l) l) := plainH_get hpl (i := h) (by rw [normH_get, hl]; rfl)
      have hnorm : HOk E w hs[h] ((fun l => match l with | .blk ty cs => Hl.blk ty (loose.looseL (norm.normL dn cs)) | .own ty n sz gr f => .own ty (.a (dn.i n)) sz gr f | l => l) l) := by
        cases l with
        | blk ty cs =>
          obtain ⟨b, C, k1, k2, k3, k4, k5, k6⟩ := hk.blk_inv
          have hcells : RelL E w (loose.looseL (norm.normL dn cs)) C.toList := by
            rw [looseL_eq, normL_eq]
            exact (k4.map _ fun s v _ h => h.norm).map _ fun s v _ h => h.loose
          exact ⟨b, C, k1, k2, k3, by have := hcells.1; simpa using this.symm, fun i s v p q => hcells.2 i s v p (by simpa using q), fun v hv => k5 v (by simpa using hv), k6⟩
        | _ => exact hk
      simp only [Option.map_some, Option.getD_some]
      refine hnorm.move hok hIc ?_ ?_ ?_ fun b hb => ?_
      · show (hs[h]?).bind E.β = _; rw [List.getElem?_eq_getElem hlt]; rfl
      · show (hs[h]?).bind E.τ = _; rw [List.getElem?_eq_getElem hlt]; rfl
      · show (hs[h]?).bind E.ζ = _; rw [List.getElem?_eq_getElem hlt]; rfl
      · show (E.O b).bind (fun h => hs.idxOf? h) = some h
        rw [hb]
        exact hidx h _ (List.getElem?_eq_getElem hlt)
  have hrel : RelL Ec w as us := n4 E Ec w _ hIc (fun i h hi => by
    refine ⟨?_, ?_⟩
    · show (hs[0 + i]?).bind E.β = E.β h
      rw [Nat.zero_add, hi]; rfl
    · show (hs[0 + i]?).bind E.τ = E.τ h
      rw [Nat.zero_add, hi]; rfl) hvs'
  have hcall := hct Bc Ec w us rfl (fun b o h => h) (fun h hb => by
    have hb : (hs[h]?).bind E.β ≠ none ∨ (hs[h]?).bind E.τ ≠ none ∨ (hs[h]?).bind E.ζ ≠ none := hb
    cases hh : hs[h]? with
    | none => rw [hh] at hb; simp at hb
    | some k => rw [len_normH, n2]; exact (List.getElem?_eq_some_iff.1 hh).1) hbc hgc hheap hrel
  -- the operation
  unfold Oper.wp
  rw [hrun]
  simp only [Oper.upon]
  refine hcall.mono ?_
  rintro e w' ⟨v, Ec', rfl, x2, x3, x4⟩
  -- back in the caller's state
  obtain ⟨M, hM⟩ : ∃ M, M = σ.hp.length := ⟨_, rfl⟩
  obtain ⟨m, hm⟩ : ∃ m, m = ls.length := ⟨_, rfl⟩
  rw [← hM, ← hm] at hK
  rw [← hm] at hlen hr
  let E' : Env := ⟨pickE hs M m ls'.length Ec'.β E.β, pickE hs M m ls'.length Ec'.τ E.τ, backO hs M m Ec'.O E.O, E.κ, pickE hs M m ls'.length Ec'.ζ E.ζ, Ec'.I⟩
  have hfreshM : ∀ k, M ≤ k → k < M + (ls'.length - m) → hf k = .fresh := by
    intro k h1 h2
    have hl : ∃ l, (ls'.drop m)[k - M]? = some l := ⟨_, List.getElem?_eq_getElem (by simp; omega)⟩
    obtain ⟨l, hl⟩ := hl
    have hmem := newEfs_mem (ls'.drop m) M (k - M) l hl
    rw [show M + (k - M) = k by omega] at hmem
    have hmem' : Ef.put k l ∈ newEfs σ.hp.length (List.drop ls.length ls') := by rw [← hM, ← hm]; exact hmem
    have := agh.efs _ (List.mem_append.2 (.inr hmem'))
    simp only [AgE, hfOf, nth_eq] at this
    rw [this, List.getElem?_eq_none (by omega)]; rfl
  have hfreshE : ∀ k, M ≤ k → k < M + (ls'.length - m) → E.β k = none ∧ E.τ k = none ∧ E.ζ k = none := by
    intro k h1 h2
    have := st.heap k
    rw [hfreshM k h1 h2] at this
    exact ⟨this.1, this.2.1, this.2.2.2⟩
  have pick_hs : ∀ {α : Type} (F G : Nat → Option α) (i k : Nat), hs[i]? = some k → pickE hs M m ls'.length F G k = F i := by
    intro α F G i k hk; simp only [pickE, hidx i k hk]
  have pick_new : ∀ {α : Type} (F G : Nat → Option α) (i : Nat), m + i < ls'.length → pickE hs M m ls'.length F G (M + i) = F (m + i) := by
    intro α F G i hi
    have : (M + i) ∉ hs := fun h => by have := hltM _ h; omega
    simp only [pickE, hidxn _ this]
    rw [if_pos (by omega), Nat.add_sub_cancel_left]
  have pick_oth : ∀ {α : Type} (F G : Nat → Option α) (k : Nat), k ∉ hs → ¬ (M ≤ k ∧ k < M + (ls'.length - m)) → pickE hs M m ls'.length F G k = G k := by
    intro α F G k h1 h2
    simp only [pickE, hidxn _ h1]
    rw [if_neg h2]
  have cases3 : ∀ k : Nat, (∃ i : Nat, hs[i]? = some k) ∨ (∃ i, m + i < ls'.length ∧ k = M + i) ∨ (k ∉ hs ∧ ¬ (M ≤ k ∧ k < M + (ls'.length - m))) := by
    intro k
    by_cases h1 : k ∈ hs
    · obtain ⟨i, hi⟩ := List.mem_iff_getElem?.1 h1; exact .inl ⟨i, hi⟩
    · by_cases h2 : M ≤ k ∧ k < M + (ls'.length - m)
      · exact .inr (.inl ⟨k - M, by omega, by omega⟩)
      · exact .inr (.inr ⟨h1, h2⟩)
  have hext : Ext E w E' w' := by
    refine ⟨fun k b hk => ?_, fun k u hk => ?_, fun _ _ h => h, fun k n hk => ?_, fun b o h => (x2.I0 b o h).1, fun b o h => (x2.I0 b o h).2⟩
    · show pickE hs M m ls'.length Ec'.β E.β k = some b
      rcases cases3 k with ⟨i, hi⟩ | ⟨i, hi, rfl⟩ | ⟨h1, h2⟩
      · rw [pick_hs _ _ i k hi]; exact x2.β0.β i b (by show (hs[i]?).bind E.β = some b; rw [hi]; exact hk)
      · rw [(hfreshE _ (by omega) (by omega)).1] at hk; cases hk
      · rw [pick_oth _ _ k h1 h2]; exact hk
    · show TauLe u (pickE hs M m ls'.length Ec'.τ E.τ k)
      rcases cases3 k with ⟨i, hi⟩ | ⟨i, hi, rfl⟩ | ⟨h1, h2⟩
      · rw [pick_hs _ _ i k hi]; exact x2.β0.τ i u (by show (hs[i]?).bind E.τ = some u; rw [hi]; exact hk)
      · rw [(hfreshE _ (by omega) (by omega)).2.1] at hk; cases hk
      · rw [pick_oth _ _ k h1 h2]; exact .inl hk
    · show pickE hs M m ls'.length Ec'.ζ E.ζ k = some n
      rcases cases3 k with ⟨i, hi⟩ | ⟨i, hi, rfl⟩ | ⟨h1, h2⟩
      · rw [pick_hs _ _ i k hi]; exact x2.β0.ζ i n (by show (hs[i]?).bind E.ζ = some n; rw [hi]; exact hk)
      · rw [(hfreshE _ (by omega) (by omega)).2.2] at hk; cases hk
      · rw [pick_oth _ _ k h1 h2]; exact hk
  have hInew : ∀ b o, b < w.heap.size → (¬ ∃ h ∈ hs, E.O b = some h) → Ec'.I b o → E.I b o := fun b o hlt hnX hi => by
    rcases x2.Inew b o hi with h | h | h
    · exact h
    · have : w.heap.size ≤ b := h
      omega
    · exact absurd h hnX
  have hbase : Base B E' w' := by
    refine ⟨x2.os.trans hb.os, x2.tape.trans hb.tape, x2.output.trans hb.output, Nat.le_trans hb.size x2.size, fun b hlt hX => ?_, fun b o hi => ?_, x2.Ibd, fun b o hi => ?_, fun b h hO => ?_, hb.β0.ext hext⟩
    · rw [x2.old b (by have := hb.size; show b < w.heap.size; omega) ?_]
      · exact hb.old b hlt hX
      · rintro ⟨k, _, hO⟩
        rcases (hb.Obd b k hO).2 with h | h
        · omega
        · exact hX h
    · obtain ⟨i1, i2⟩ := hb.I0 b o hi
      exact ⟨(x2.I0 b o i1).1, by rw [(x2.I0 b o i1).2]; exact i2⟩
    · rcases x2.Inew b o hi with h | h | ⟨k, _, hO⟩
      · exact hb.Inew b o h
      · have : w.heap.size ≤ b := h
        have := hb.size
        exact .inr (.inl (by omega))
      · exact .inr (hb.Obd b k hO).2
    · have hO : backO hs M m Ec'.O E.O b = some h := hO
      unfold backO at hO
      split at hO
      · rename_i i hi
        obtain ⟨o1, o2⟩ := x2.Obd b i hi
        refine ⟨o1, ?_⟩
        rcases o2 with o2 | ⟨k, _, hk⟩
        · have : w.heap.size ≤ b := o2
          have := hb.size
          exact .inl (by omega)
        · exact (hb.Obd b k hk).2
      · split at hO
        · cases hO
        · obtain ⟨o1, o2⟩ := hb.Obd b h hO
          exact ⟨Nat.lt_of_lt_of_le o1 x2.size, o2⟩
  have hOback : ∀ b i : Nat, Ec'.O b = some i → ∀ k : Nat, (hs[i]? = some k ∧ i < m ∨ m ≤ i ∧ k = M + (i - m)) → E'.O b = some k := by
    intro b i hi k hk
    show backO hs M m Ec'.O E.O b = some k
    simp only [backO, hi]
    rcases hk with ⟨h1, h2⟩ | ⟨h1, rfl⟩
    · rw [if_pos h2]; exact h1
    · rw [if_neg (by omega)]
  have n2m : hs.length = m := by rw [hm, n2]
  obtain ⟨f1, f2⟩ := efsF_back (hf := hf) hs (ls'.take m) (by simp; omega) n1
  refine hK v w' E' hext hbase (fun k => ?_) (x4.res rfl (fun k u h1 hk h2 => ?_) hr)
  · show HOk E' w' k (efsF hf (backEfs hs (ls'.take m) ++ newEfs M (ls'.drop m)) k)
    rw [efsF_append, efsF_new]
    rcases cases3 k with ⟨i, hi⟩ | ⟨i, hi, rfl⟩ | ⟨h1, h2⟩
    · have hkM := hltM k (List.mem_of_getElem? hi)
      have hilt : i < hs.length := (List.getElem?_eq_some_iff.1 hi).1
      rw [if_neg (by omega)]
      obtain ⟨l, hl⟩ : ∃ l, ls'[i]? = some l := ⟨_, List.getElem?_eq_getElem (by omega)⟩
      rw [f2 i k l hi (by rw [List.getElem?_take, if_pos (by omega)]; exact hl)]
      have h3 := x3 i (by omega)
      have : hfOf ls' i = l := by simp [hfOf, nth_eq, hl]
      rw [this] at h3
      exact h3.move (plainH_get hls hl) rfl (pick_hs _ _ i k hi) (pick_hs _ _ i k hi) (pick_hs _ _ i k hi) fun b hb => hOback b i hb k (.inl ⟨hi, by omega⟩)
    · rw [if_pos (by simp; omega)]
      obtain ⟨l, hl⟩ : ∃ l, ls'[m + i]? = some l := ⟨_, List.getElem?_eq_getElem hi⟩
      rw [Nat.add_sub_cancel_left, List.getElem?_drop, hl]
      simp only [Option.getD_some]
      have h3 := x3 (m + i) hi
      have : hfOf ls' (m + i) = l := by simp [hfOf, nth_eq, hl]
      rw [this] at h3
      exact h3.move (plainH_get hls hl) rfl (pick_new _ _ i hi) (pick_new _ _ i hi) (pick_new _ _ i hi) fun b hb => hOback b (m + i) hb _ (.inr ⟨by omega, by congr 1; omega⟩)
    · rw [if_neg (by simp; omega), f1 k h1]
      refine HOk.keep hext (st.heap k) (pick_oth _ _ k h1 h2) (pick_oth _ _ k h1 h2) rfl (pick_oth _ _ k h1 h2) fun b hO => ?_
      have hnX : ¬ ∃ h ∈ hs, E.O b = some h := by
        rintro ⟨k2, hk2, hO2⟩
        rw [hO] at hO2
        cases hO2
        exact h1 hk2
      refine ⟨?_, x2.old b (owned_lt hb hO) hnX, fun o hi => hInew b o (owned_lt hb hO) hnX hi⟩
      show backO hs M m Ec'.O E.O b = some k
      have hnone : Ec'.O b = none := by
        cases hi : Ec'.O b with
        | none => rfl
        | some i =>
          rcases (x2.Obd b i hi).2 with h | h
          · have h : w.heap.size ≤ b := h
            have := owned_lt hb hO
            omega
          · exact absurd h hnX
      simp only [backO, hnone]
      rw [if_neg hnX]; exact hO
  · show pickE hs M m ls'.length Ec'.τ E.τ (k - m + M) = some u
    have := pick_new Ec'.τ E.τ (k - m) (by omega)
    rw [show k - m + M = M + (k - m) by omega, this, show m + (k - m) = k by omega]; exact h2

theorem enters_func {f : FuncId} {vs : List SV} {c : Call} (ho : o.op = .call c) (hcal : c.callee = .value (.func f)) (hv : rdAll cx σ T c.args.toList c.argTypes.toList = some vs) (hgood : FnGood P f) : Enters P cx.gl σ T o f vs := by
  intro B N E a w ff hf hg st ag hT
  refine ⟨c.args.toList.map a.eval, rdAll_sound trivial hg st hT c.args.toList c.argTypes.toList vs (fun x hx => ag_of ag (by simp only [ho, Op.operands, Call.operands]; simp; exact .inr (by simpa using hx))) hv, ?_⟩
  obtain ⟨fn, body, g1, g2, g3⟩ := hgood
  have hargsE : (⟨c.args.toList.map a.eval⟩ : Array Value) = c.args.map a.eval := by apply Array.ext'; simp
  have g4 : ¬ fn.name = "runtime.NumGoroutine" := by simpa using g3
  rw [hargsE]
  simp [execOp, ho, resolve, hcal, Act.eval, Deferred.ofValue, invoke, callFunc, g1, g2, g4]

theorem enters_slot {f : FuncId} {vs cs : List SV} {c : Call} {s : Nat} (ho : o.op = .call c) (hcal : c.callee = .value (.tmp s)) (hv : rdAll cx σ T c.args.toList c.argTypes.toList = some vs)
    (hs : rd cx σ T (.tmp s) = some (.clo f cs) ∨ cs = [] ∧ rd cx σ T (.tmp s) = some (.fn f)) (hgood : FnGood P f) : Enters P cx.gl σ T o f (vs ++ cs) := by
  intro B N E a w ff hf hg st ag hT
  have hvs := rdAll_sound trivial hg st hT c.args.toList c.argTypes.toList vs (fun x hx => ag_of ag (by simp only [ho, Op.operands, Call.operands]; simp; exact .inr (by simpa using hx))) hv
  have hag : ∀ t ∈ opSlots (.tmp s), ff t = ffOf σ t := ag_of ag (by simp [ho, Op.operands, Call.operands, hcal])
  have hval : ∃ cv : List Value, a.eval (.tmp s) = .func (.func f) #[] ⟨cv⟩ ∧ RelL E w cs cv := by
    rcases hs with hs | ⟨rfl, hs⟩
    · exact (rd_sound hs hg st hag hT).clo_inv
    · exact ⟨[], (rd_sound hs hg st hag hT).fn_inv, rfl, by simp⟩
  obtain ⟨cv, he, hcv⟩ := hval
  refine ⟨c.args.toList.map a.eval ++ cv, ?_, ?_⟩
  · refine ⟨by simp [hvs.1, hcv.1], fun i s' v h1 h2 => ?_⟩
    have hl := hvs.1
    by_cases hlt : i < vs.length
    · rw [List.getElem?_append_left hlt] at h1
      rw [List.getElem?_append_left (by omega)] at h2
      exact hvs.2 i s' v h1 h2
    · rw [List.getElem?_append_right (by omega)] at h1
      rw [List.getElem?_append_right (by omega), ← hl] at h2
      exact hcv.2 _ s' v h1 h2
  obtain ⟨fn, body, g1, g2, g3⟩ := hgood
  have hargsE : (⟨c.args.toList.map a.eval ++ cv⟩ : Array Value) = c.args.map a.eval ++ (⟨cv⟩ : Array Value) := by apply Array.ext'; simp
  have g4 : ¬ fn.name = "runtime.NumGoroutine" := by simpa using g3
  rw [hargsE]
  simp [execOp, ho, resolve, hcal, he, Deferred.ofValue, invoke, callFunc, g1, g2, g4]

theorem local_makeFunc {f : FuncId} {fi cs : Array Operand} (ho : o.op = .makeFunc (.func f) fi cs) (hfi : fi.toList = []) {vs : List SV} (hv : rdAll cx σ T cs.toList [] = some vs) : Local P cx.gl σ T o ⟨.clo f vs, [], [], []⟩ := by
  have hfi : fi = #[] := by apply Array.ext'; simpa using hfi
  subst hfi
  intro B N E a w ff hf hg st ag _ hT
  have hr := rdAll_sound trivial hg st hT cs.toList [] vs (fun x hx => ag_of ag (by simp [ho, Op.operands]; simpa using hx)) hv
  refine yields_value st (v := .func (.func f) #[] (cs.map a.eval)) ?_ rfl ?_
  · simp [execOp, ho, Instr.makeFunc]
  · have : cs.map a.eval = ⟨cs.toList.map a.eval⟩ := by apply Array.ext'; simp
    rw [this]; exact .clo hr.1 hr.2

theorem stepCall_sound (hc : CxOk P cx) (htab : TabOk P cx.gl cx.tab) {f : FuncId} {vs : List SV} (hen : FnGood P f → Enters P cx.gl σ T o f vs) (h : stepCall cx σ T f vs K) :
    ∃ r, K r ∧ Local P cx.gl σ T o r := by
  unfold stepCall at h
  rw [hc.D] at h
  split at h
  · rename_i sp as hs ls h1 h2
    split at h
    · rename_i h3
      simp only [Bool.and_eq_true] at h3
      obtain ⟨hgood, hfn⟩ := htab.look h1
      obtain ⟨r, ls', ⟨k1, k2, k3, k4⟩, hct⟩ := hfn _ _ _ h
      have k3 := Nat.le_of_ble_eq_true k3
      simp only [lenN_eq ls, lenN_eq ls'] at k1 k3 k4
      exact ⟨_, k4, local_call (hen hgood) h2 h3.1 hct k1 k2 k3⟩
    · exact h.elim
  · exact h.elim

end
end Go.Sx
/- Rows: slices that grow, rows that are written, parts of slices and strings. -/
namespace Go.Sx
open Go

section
variable {P : Program} {cx : Cx} {σ : Sy} {T : List Nat} {o : Oper} {K : Out → Prop}

/-- What is appended: nothing (nil), or cells that lie somewhere. -/
def srcIs (w : World) (src : Value) (m sz : Nat) (news : List Value) : Prop :=
  news.length = m * sz ∧ (∀ v ∈ news, v.oneCell' = true) ∧ ((src = .slice none 0 0 ∧ m = 0) ∨ ∃ (a : Addr) (c : Nat), src = .slice (some a) m c ∧ ∀ (j : Nat) (u : Value), news[j]? = some u → w.cell? (a.add j) = some u)

/-- append onto a slice of one's own: the elder law, and where the new slice lies. -/
theorem append_law {t e ty : TypeId} {ti : TI} (hu : P.underlying t = some (.slice e)) (he : TIok P e ti) {sz : Nat} (hsz : ti.size = sz) (hz0 : 0 < sz) {w : World} {v : Value} {n : Nat} {xs : List Value} (hown : w.ownsRow 0 e sz v n xs) {src : Value} {m : Nat} {news : List Value} (hs : srcIs w src m sz news)
    (h63 : n + m ≤ maxLen) (hb : (n + m) * ti.bytes ≤ 140737488355328) :
    ∃ v' w', (Builtin.append_ #[t, t] ty #[v, src]).run P w = .ok v' w' ∧ w'.ownsRow 0 e sz v' (n + m) (xs ++ news) ∧ (v' = .slice none 0 0 ↔ v = .slice none 0 0 ∧ m = 0) ∧
      ((v'.ownBlock = v.ownBlock ∧ w.grownBy w' v.ownBlock) ∨ (v'.ownBlock = some w.heap.size ∧ w.grownBy w' none)) ∧ (∃ a c, v' = .slice a (n + m) c) ∧ (m = 0 → v' = v) := by
  obtain ⟨i, z, hi, hsize, hby, hz, hzs⟩ := he.info
  obtain ⟨hl, h1, hsrc⟩ := hs
  have hown0 := hown
  have shape : ∀ (v' : Value) (w' : World) (xs' : List Value), w'.ownsRow 0 e sz v' (n + m) xs' → ∃ a c, v' = .slice a (n + m) c := by
    intro v' w' xs' h
    rcases h.2 with ⟨rfl, e0⟩ | ⟨g, cap, cur, rfl, _⟩
    · exact ⟨none, 0, by rw [e0]⟩
    · exact ⟨_, _, rfl⟩
  rcases hsrc with ⟨rfl, rfl⟩ | ⟨a, c, rfl, hnews⟩
  · have hn : news = [] := List.eq_nil_of_length_eq_zero (by simpa using hl)
    subst hn
    refine ⟨v, w, ?_, by simpa using hown, by simp, .inl ⟨rfl, ⟨rfl, rfl, rfl, Nat.le_refl _, fun _ _ _ => rfl⟩⟩, shape v w xs (by simpa using hown), fun _ => rfl⟩
    rcases hown.2 with ⟨rfl, rfl⟩ | ⟨g, cap, cur, rfl, hbg, hg, hnc, hcm, hcs, htake⟩
    · simp [Builtin.append_, run_underlying hu, sizeOf, typeInfo, hi, Builtin.lenOf, Builtin.firstCells]
    · simp [Builtin.append_, run_underlying hu, sizeOf, typeInfo, hi, Builtin.lenOf, Builtin.firstCells, hnc, storeCells]
  · have hzsz : z.cells.size = sz := by
      have := (zsB_get (I := fun _ _ => False) (w := w) hzs).1
      have h2 : ti.zero.length = sz := by
        rw [he.zlen, hsz]
      simpa [h2] using this.symm
    obtain ⟨v', w', hr, r1, r2, r3⟩ := run_append_own (P := P) w 0 t ty e i z sz ti.bytes hu hi hz (by rw [hsize, hsz]) hby hzsz hz0 v n xs hown a m c news hl hnews h1 h63 hb (Nat.zero_le _)
    refine ⟨v', w', hr, r1, r3, ?_, shape v' w' _ r1, ?_⟩
    case refine_2 =>
      rintro rfl
      rcases hown.2 with ⟨rfl, rfl⟩ | ⟨g, cap, cur, rfl, hbg, hg, hnc, hcm, hcs, htake⟩
      · exact r3.2 ⟨rfl, rfl⟩
      · have hr2 := run_append_room (P := P) w t ty e i hu hi g n cap cur hg a 0 c news (by rw [hsize, hsz]; exact hl) hnews h1 (by omega) (by rw [hl, hsize, hsz, hcs]; simp only [Nat.zero_mul, Nat.add_zero]; exact Nat.mul_le_mul_right _ hnc)
        rw [hr] at hr2
        simp only [Result.ok.injEq] at hr2
        rw [hr2.1]; rfl
    have hmax : n + m ≤ 9223372036854775807 := by simpa [maxLen] using h63
    rcases hown.2 with ⟨rfl, rfl⟩ | ⟨g, cap, cur, rfl, hbg, hg, hnc, hcm, hcs, htake⟩
    · by_cases hm : m = 0
      · subst hm
        left
        exact ⟨by rw [r3.2 ⟨rfl, rfl⟩], r2⟩
      · right
        have hr2 := run_append_nil (P := P) w t ty e i z hu hi hz a m c news (by rw [hsize, hsz]; exact hl) hnews (by omega) (by omega) (by rw [hby]; simp only [Nat.zero_add] at hb; omega)
        rw [hr] at hr2
        simp only [Result.ok.injEq] at hr2
        rw [hr2.1, hr2.2]
        exact ⟨rfl, ⟨rfl, rfl, rfl, by simp, fun k hk _ => heap_alloc_old w.drew _ hk⟩⟩
    · by_cases hroom : n + m ≤ cap
      · left
        refine ⟨?_, r2⟩
        have hr2 := run_append_room (P := P) w t ty e i hu hi g n cap cur hg a m c news (by rw [hsize, hsz]; exact hl) hnews h1 hroom (by rw [hl, hsize, hsz, hcs, ← Nat.add_mul]; exact Nat.mul_le_mul_right _ hroom)
        rw [hr] at hr2
        simp only [Result.ok.injEq] at hr2
        rw [hr2.1]; rfl
      · right
        have holds : ∀ j u, xs[j]? = some u → w.cell? ((⟨g, 0, none⟩ : Addr).add j) = some u := hown0.cells (g := g) rfl
        have hr2 := run_append_grow (P := P) w t ty e i z hu hi hz ⟨g, 0, none⟩ n cap xs (by rw [hsize, hsz]; exact hown0.1) holds a m c news (by rw [hsize, hsz]; exact hl) hnews (by omega) (by omega) (by rw [hby]; exact growslice_fits (by omega) hb)
        rw [hr] at hr2
        simp only [Result.ok.injEq] at hr2
        rw [hr2.1, hr2.2]
        exact ⟨rfl, ⟨rfl, rfl, rfl, by simp, fun k hk _ => heap_alloc_old w.drew _ hk⟩⟩

/-- What is appended, out of a symbolic row. -/
theorem rowOf_src {E : Env} {w : World} {sz : Nat} {s : SV} {m : ST} {g : Nat → List SV} {v : Value} (h : rowOf sz s = some (m, g)) (hr : Rel E w s v) :
    ∃ (k : Nat) (news : List Value), m.den = (k : Int) ∧ k ≤ maxLen ∧ srcIs w v k sz news ∧ (∀ i, i < k → (g i).length = sz) ∧ ∀ (i j : Nat) (s : SV) (u : Value), i < k → (g i)[j]? = some s → news[i * sz + j]? = some u → RO E.I w s u := by
  have key : ∀ (nl : BT), RO E.I w (.sl nl m sz g) v → ∃ (k : Nat) (news : List Value), m.den = (k : Int) ∧ k ≤ maxLen ∧ srcIs w v k sz news ∧ (∀ i, i < k → (g i).length = sz) ∧ ∀ (i j : Nat) (s : SV) (u : Value), i < k → (g i)[j]? = some s → news[i * sz + j]? = some u → RO E.I w s u := by
    intro nl hro
    rcases hro.sl_inv with ⟨rfl, e0, _⟩ | ⟨a, k, cap, f, rfl, _, e2, e3, e3', e4, e5, e5', e6, e7⟩
    · exact ⟨0, [], by simpa using e0, Nat.zero_le _, ⟨by simp, by simp, .inl ⟨rfl, rfl⟩⟩, by simp, by simp⟩
    · refine ⟨k, (List.range (k * sz)).map fun q => f (q / sz) (q % sz), e2, Nat.le_trans e3 e3', ⟨by simp, fun u hu => ?_, .inr ⟨a, cap, rfl, fun j u hj => ?_⟩⟩, e5, fun i j s u hi hs hu => ?_⟩
      · rw [List.mem_map] at hu
        obtain ⟨q, hq, rfl⟩ := hu
        have hq : q < k * sz := by simpa using hq
        have hsz : 0 < sz := by rcases Nat.eq_zero_or_pos sz with h | h; subst h; omega; exact h
        exact e5' _ _ ((Nat.div_lt_iff_lt_mul hsz).2 hq) (Nat.mod_lt _ hsz)
      · rw [List.getElem?_map] at hj
        have hjlt : j < k * sz := by
          rcases Nat.lt_or_ge j (k * sz) with h | h
          · exact h
          · rw [List.getElem?_eq_none (by simpa using h)] at hj; cases hj
        have hsz : 0 < sz := by rcases Nat.eq_zero_or_pos sz with h | h; subst h; omega; exact h
        have hd := (Nat.div_lt_iff_lt_mul hsz).2 hjlt
        have := (e6 (j / sz) (j % sz) hd (Nat.mod_lt _ hsz)).1
        rw [Nat.mul_comm, Nat.div_add_mod] at this
        simp [hjlt] at hj
        subst hj
        have hspot := e4 (by rcases Nat.eq_zero_or_pos k with h | h; subst h; omega; exact h)
        have : a.add j = ⟨a.block, a.off + j, none⟩ := by
          obtain ⟨b, o, sp⟩ := a
          simp only at hspot
          subst hspot
          exact add_lit b o j
        rw [this]
        assumption
      · have hsj : j < sz := by rw [← e5 i hi]; exact (List.getElem?_eq_some_iff.1 hs).1
        have hlt : i * sz + j < k * sz := by
          have : (i + 1) * sz ≤ k * sz := Nat.mul_le_mul_right _ hi
          rw [Nat.add_mul] at this
          omega
        rw [List.getElem?_map] at hu
        simp [hlt] at hu
        have h1 : (i * sz + j) / sz = i := by rw [Nat.mul_comm, Nat.mul_add_div (by omega), Nat.div_eq_of_lt hsj]; omega
        rw [h1, Nat.mod_eq_of_lt hsj] at hu
        subst hu
        exact e7 i j s hi hs
  unfold rowOf at h
  split at h
  · rename_i nl m' sz' g'
    split at h
    · rename_i e
      simp only [Option.some.injEq, Prod.mk.injEq] at h
      obtain ⟨rfl, rfl⟩ := h
      have e : sz' = sz := by simpa using e
      subst e
      exact key nl hr.sl_inv
    · cases h
  · rename_i nl m' sz' g' h0
    split at h
    · rename_i e
      simp only [Option.some.injEq, Prod.mk.injEq] at h
      obtain ⟨rfl, rfl⟩ := h
      have e : sz' = sz := by simpa using e
      subst e
      exact key nl hr.gsl_inv.1
    · cases h
  · cases h

/-- The state behind a slice that has grown (or has come). -/
theorem put_tail {B : Bs} {N : Nat} {E : Env} {a : Act} {w : World} {ff : Nat → SG} {hf : Nat → Hl} (st : St B N E a w ff hf) {h : Nat} {e : TypeId} {sz : Nat} {v v' : Value} {n m : Nat} {xs news : List Value} {w' : World}
    (hold : (hf h = .fresh ∧ v = .slice none 0 0) ∨ ∃ nt, hf h = .tail e nt sz ∧ E.τ h = some v ∧ (∀ b, v.ownBlock = some b → E.O b = some h ∧ ∀ o, n * sz ≤ o → ¬ E.I b o))
    (h1 : ∀ u ∈ xs ++ news, u.oneCell' = true)
    (hown : w.ownsRow 0 e sz v n xs) (hown' : w'.ownsRow 0 e sz v' (n + m) (xs ++ news)) (hblk : (v'.ownBlock = v.ownBlock ∧ w.grownBy w' v.ownBlock) ∨ (v'.ownBlock = some w.heap.size ∧ w.grownBy w' none)) (hshape : ∃ a c, v' = .slice a (n + m) c) (hkeep : hf h ≠ .fresh → m = 0 → v' = v) (nt' : ST) (hnt : nt'.den = ((n + m : Nat) : Int)) :
    ∃ E', Ext E w E' w' ∧ Base B E' w' ∧ (∀ k, HOk E' w' k (upd hf h (.tail e nt' sz) k)) ∧ E'.τ h = some v' ∧ (∀ b o, v'.ownBlock = some b → o < (n + m) * sz → E'.I b o) ∧ (∀ b o, v'.ownBlock = some b → o < (n + m) * sz → w'.cell? ⟨b, o, none⟩ = (xs ++ news)[o]?) := by
  have hb := st.base
  have hbold : ∀ b, v.ownBlock = some b → E.O b = some h ∧ (∀ o, n * sz ≤ o → ¬ E.I b o) ∧ b < w.heap.size := by
    intro b hbb
    rcases hold with ⟨_, rfl⟩ | ⟨_, _, _, h3⟩
    · simp [Value.ownBlock] at hbb
    · exact ⟨(h3 b hbb).1, (h3 b hbb).2, owned_lt hb (h3 b hbb).1⟩
  let E' : Env := ⟨E.β, upd E.τ h (some v'), fun b => if v'.ownBlock = some b then some h else E.O b, E.κ, E.ζ, fun b o => E.I b o ∨ (v'.ownBlock = some b ∧ o < (n + m) * sz)⟩
  have hcellv : ∀ b o, v.ownBlock = some b → o < n * sz → w.cell? ⟨b, o, none⟩ = xs[o]? := by
    intro b o hbb ho
    rcases hown.2 with ⟨rfl, _⟩ | ⟨g, cap, cur, rfl, _, hgg, hnc, _, hcs, htake⟩
    · simp [Value.ownBlock] at hbb
    · simp [Value.ownBlock] at hbb
      subst hbb
      rw [cell_of_row w g o cur e (0, 0) hgg, ← htake, List.getElem?_take, if_pos ho]
      simp
  have hcellv' : ∀ b o, v'.ownBlock = some b → o < (n + m) * sz → w'.cell? ⟨b, o, none⟩ = (xs ++ news)[o]? := by
    intro b o hbb ho
    rcases hown'.2 with ⟨rfl, _⟩ | ⟨g, cap, cur, rfl, _, hgg, hnc, _, hcs, htake⟩
    · simp [Value.ownBlock] at hbb
    · simp [Value.ownBlock] at hbb
      subst hbb
      rw [cell_of_row w' g o cur e (0, 0) hgg, ← htake, List.getElem?_take, if_pos ho]
      simp
  have hgos : w'.os = w.os ∧ w'.tape = w.tape ∧ w'.output = w.output ∧ w.heap.size ≤ w'.heap.size := by
    rcases hblk with ⟨_, hg⟩ | ⟨_, hg⟩ <;> exact ⟨hg.os, hg.tape, hg.output, hg.size⟩
  have hother : ∀ b, b < w.heap.size → v.ownBlock ≠ some b → w'.heap[b]? = w.heap[b]? := by
    intro b hlt hne
    rcases hblk with ⟨_, hg⟩ | ⟨_, hg⟩
    · exact hg.block b hlt (fun e => hne e.symm)
    · exact hg.block b hlt (by simp)
  have hI : ∀ b o, E.I b o → w'.cell? ⟨b, o, none⟩ = w.cell? ⟨b, o, none⟩ := by
    intro b o hi
    have hlt := hb.Ibd b o hi
    by_cases hbv : v.ownBlock = some b
    · have ho : o < n * sz := by
        rcases Nat.lt_or_ge o (n * sz) with h | h
        · exact h
        · exact absurd hi ((hbold b hbv).2.1 o h)
      rcases hblk with ⟨hs, _⟩ | ⟨_, hg⟩
      · rw [hcellv' b o (by rw [hs]; exact hbv) (by rw [Nat.add_mul]; omega), hcellv b o hbv ho, List.getElem?_append_left (by rw [hown.1]; exact ho)]
      · simp only [World.cell?]
        rw [hg.block b hlt (by simp)]
    · simp only [World.cell?]
      rw [hother b hlt hbv]
  have hx : Ext E w E' w' := by
    refine ⟨fun _ _ h => h, fun k u hk => ?_, fun _ _ h => h, fun _ _ h => h, fun b o h => .inl h, hI⟩
    show upd E.τ h (some v') k = some u ∨ ∃ a m' c a' m'' c', u = .slice a m' c ∧ upd E.τ h (some v') k = some (.slice a' m'' c') ∧ m' < m''
    unfold upd
    by_cases e : k = h
    · subst e
      rw [if_pos rfl]
      rcases hold with ⟨hfr, _⟩ | ⟨nt, hne, h2, _⟩
      · have := st.heap k
        rw [hfr] at this
        rw [this.2.1] at hk
        cases hk
      · rw [h2] at hk
        cases hk
        by_cases hm : m = 0
        · left; rw [hkeep (by rw [hne]; simp) hm]
        · right
          obtain ⟨a', c', rfl⟩ := hshape
          have : ∃ a c, v = .slice a n c := by
            rcases hown.2 with ⟨rfl, e0⟩ | ⟨g, cap, cur, rfl, _⟩
            · exact ⟨none, 0, by rw [e0]⟩
            · exact ⟨_, _, rfl⟩
          obtain ⟨a, c, rfl⟩ := this
          exact ⟨a, n, c, a', n + m, c', rfl, rfl, by omega⟩
    · rw [if_neg e]; exact .inl hk
  have hownlt : ∀ b, v'.ownBlock = some b → b < w'.heap.size := fun b hbb => (hown'.lt b hbb).2
  have hnew : ∀ b, v'.ownBlock = some b → B.w0.heap.size ≤ b ∨ B.X b := by
    intro b hbb
    rcases hblk with ⟨hs, _⟩ | ⟨hs, _⟩
    · exact (hb.Obd b h (hbold b (by rw [← hs]; exact hbb)).1).2
    · rw [hs] at hbb; cases hbb; exact .inl hb.size
  refine ⟨E', hx, ⟨hgos.1.trans hb.os, hgos.2.1.trans hb.tape, hgos.2.2.1.trans hb.output, Nat.le_trans hb.size hgos.2.2.2, fun b hlt hX => ?_, fun b o hi => ?_, fun b o hi => ?_, fun b o hi => ?_, fun b k hO => ?_, hb.β0.ext hx⟩, fun k => ?_, by simp [E', upd], fun b o hbb ho => .inr ⟨hbb, ho⟩, hcellv'⟩
  · have hsz := hb.size
    rw [hother b (by omega) ?_]
    · exact hb.old b hlt hX
    · intro hbv
      rcases (hb.Obd b h (hbold b hbv).1).2 with h | h
      · omega
      · exact hX h
  · obtain ⟨i1, i2⟩ := hb.I0 b o hi
    exact ⟨.inl i1, by rw [hI b o i1]; exact i2⟩
  · rcases hi with hi | ⟨hbb, _⟩
    · exact Nat.lt_of_lt_of_le (hb.Ibd b o hi) hgos.2.2.2
    · exact hownlt b hbb
  · rcases hi with hi | ⟨hbb, ho⟩
    · exact hb.Inew b o hi
    · exact .inr (hnew b hbb)
  · have hO : (if v'.ownBlock = some b then some h else E.O b) = some k := hO
    split at hO
    · rename_i hbb
      exact ⟨hownlt b hbb, hnew b hbb⟩
    · obtain ⟨o1, o2⟩ := hb.Obd b k hO
      exact ⟨Nat.lt_of_lt_of_le o1 hgos.2.2.2, o2⟩
  · by_cases e : k = h
    · subst e
      simp only [upd, if_pos]
      refine ⟨v', n + m, xs ++ news, by simp [E', upd], hown', hnt, h1, fun b hbb => ⟨by show (if v'.ownBlock = some b then some k else E.O b) = some k; rw [if_pos hbb], fun o ho hi => ?_⟩⟩
      rcases hi with hi | ⟨_, ho2⟩
      · rcases hblk with ⟨hs, _⟩ | ⟨hs, _⟩
        · exact (hbold b (by rw [← hs]; exact hbb)).2.1 o (by rw [Nat.add_mul] at ho; omega) hi
        · rw [hs] at hbb; cases hbb
          have := hb.Ibd _ _ hi
          omega
      · omega
    · simp only [upd, if_neg e]
      refine HOk.keep hx (st.heap k) rfl (by simp [E', upd, e]) rfl rfl fun b hO => ?_
      have hlt := owned_lt hb hO
      have hne : v'.ownBlock ≠ some b := by
        intro hbb
        rcases hblk with ⟨hs, _⟩ | ⟨hs, _⟩
        · have := (hbold b (by rw [← hs]; exact hbb)).1
          rw [hO] at this
          exact e (Option.some.inj this)
        · rw [hs] at hbb; cases hbb; omega
      have hnv : v.ownBlock ≠ some b := by
        intro hbb
        have := (hbold b hbb).1
        rw [hO] at this
        exact e (Option.some.inj this)
      refine ⟨by show (if v'.ownBlock = some b then some h else E.O b) = some k; rw [if_neg hne]; exact hO, hother b hlt hnv, fun o hi => ?_⟩
      rcases hi with hi | ⟨hbb, _⟩
      · exact hi
      · exact absurd hbb hne

end
end Go.Sx
/- Rows: the operations. -/
namespace Go.Sx
open Go

section
variable {P : Program} {cx : Cx} {σ : Sy} {T : List Nat} {o : Oper} {K : Out → Prop}

/-- A grown slice reads as what it was and what has come. -/
theorem grown_RO {I' : Nat → Nat → Prop} {w' : World} {e : TypeId} {sz n m : Nat} {v' : Value} {xs news : List Value} {f' : Nat → List SV} {nl' : BT} {nt' : ST} (hown' : w'.ownsRow 0 e sz v' (n + m) (xs ++ news)) (hxl : xs.length = n * sz)
    (hnl : nl'.den = true ↔ v' = .slice none 0 0) (hnt : nt'.den = ((n + m : Nat) : Int)) (h1 : ∀ u ∈ xs ++ news, u.oneCell' = true)
    (hI : ∀ b o, v'.ownBlock = some b → o < (n + m) * sz → I' b o) (hcell : ∀ b o, v'.ownBlock = some b → o < (n + m) * sz → w'.cell? ⟨b, o, none⟩ = (xs ++ news)[o]?)
    (hl1 : ∀ i, i < n → (f' i).length = sz) (hl2 : ∀ j, j < m → (f' (n + j)).length = sz)
    (hr1 : ∀ (i j : Nat) (s : SV) (u : Value), i < n → (f' i)[j]? = some s → xs[i * sz + j]? = some u → RO I' w' s u) (hr2 : ∀ (i j : Nat) (s : SV) (u : Value), i < m → (f' (n + i))[j]? = some s → news[i * sz + j]? = some u → RO I' w' s u) :
    RO I' w' (.sl nl' nt' sz f') v' := by
  have hlen : (xs ++ news).length = (n + m) * sz := hown'.1
  have hnlen : news.length = m * sz := by rw [List.length_append, hxl, Nat.add_mul] at hlen; omega
  rcases hown'.2 with ⟨rfl, e0⟩ | ⟨g, cap, cur, rfl, _, hgg, hnc, hcm, hcs, htake⟩
  · exact .slnil (hnl.2 rfl) (by rw [hnt, e0]; rfl)
  · have hidx : ∀ i j, i < n + m → j < sz → i * sz + j < (n + m) * sz := by
      intro i j hi hj
      have : (i + 1) * sz ≤ (n + m) * sz := Nat.mul_le_mul_right _ hi
      rw [Nat.add_mul] at this
      omega
    have hlf : ∀ i, i < n + m → (f' i).length = sz := by
      intro i hi
      by_cases hin : i < n
      · exact hl1 i hin
      · have := hl2 (i - n) (by omega)
        rwa [show n + (i - n) = i by omega] at this
    refine .sl (fun i j => (xs ++ news).getD (i * sz + j) undef) ?_ hnt hnc hcm (fun _ => rfl) hlf (fun i j hi hj => ?_) (fun i j hi hj => ⟨?_, ?_⟩) (fun i j s hi hs => ?_)
    · cases hb : nl'.den with
      | false => rfl
      | true => exact absurd (hnl.1 hb) (by simp)
    · refine h1 _ ?_
      have := hidx i j hi hj
      rw [List.getD_eq_getElem?_getD, List.getElem?_eq_getElem (by rw [hlen]; exact this)]
      exact List.getElem_mem _
    · have hlt := hidx i j hi hj
      simp only [Nat.zero_add]
      rw [hcell g _ rfl hlt, List.getD_eq_getElem?_getD, List.getElem?_eq_getElem (by rw [hlen]; exact hlt)]
      rfl
    · simp only [Nat.zero_add]
      exact hI g _ rfl (hidx i j hi hj)
    · have hj : j < sz := by rw [← hlf i hi]; exact (List.getElem?_eq_some_iff.1 hs).1
      have hlt := hidx i j hi hj
      by_cases hin : i < n
      · have hxi : i * sz + j < xs.length := by
          rw [hxl]
          have : (i + 1) * sz ≤ n * sz := Nat.mul_le_mul_right _ hin
          rw [Nat.add_mul] at this
          omega
        refine hr1 i j s _ hin hs ?_
        rw [List.getD_eq_getElem?_getD, List.getElem?_append_left hxi, List.getElem?_eq_getElem hxi]
        rfl
      · have e1 : i * sz + j = n * sz + ((i - n) * sz + j) := by
          have : i * sz = n * sz + (i - n) * sz := by rw [← Nat.add_mul]; congr 1; omega
          omega
        have hni : (i - n) * sz + j < news.length := by
          rw [hnlen]
          have : (i - n + 1) * sz ≤ m * sz := Nat.mul_le_mul_right _ (by omega)
          rw [Nat.add_mul] at this
          omega
        refine hr2 (i - n) j s _ (by omega) (by rw [show n + (i - n) = i by omega]; exact hs) ?_
        rw [List.getD_eq_getElem?_getD, e1, List.getElem?_append_right (by omega), hxl, Nat.add_sub_cancel_left, List.getElem?_eq_getElem hni]
        rfl

theorem run_builtin_append {c : Call} (ho : o.op = .call c) (hcal : c.callee = .builtin .append) {x y : Operand} {t : TypeId} (hx : c.args.toList = [x, y]) (ht : c.argTypes.toList = [t, t]) {a : Act} {w w' : World} {v' : Value} (hr : (Builtin.append_ #[t, t] o.type #[a.eval x, a.eval y]).run P w = .ok v' w') :
    (execOp a.eval o).run P w = .ok (.value v') w' := by
  have e1 : c.args = #[x, y] := Array.ext' (by simpa using hx)
  have e2 : c.argTypes = #[t, t] := Array.ext' (by simpa using ht)
  simp [execOp, ho, resolve, hcal, e1, e2, invoke, builtin, hr]

theorem local_append_new (hc : CxOk P cx) {c : Call} (ho : o.op = .call c) (hcal : c.callee = .builtin .append) {x y : Operand} {t e sz : Nat} {te ti : TI} (hx : c.args.toList = [x, y]) (ht : c.argTypes.toList = [t, t]) (hlt : look t cx.tt = some ti) (hk : ti.k = .slice e) (hle : look e cx.tt = some te) (hsz : te.size = sz) (hz : 0 < sz)
    {sz0 : Nat} {f0 : Nat → List SV} (hvx : rd cx σ T x = some (.sl (.l true) (.l 0) sz0 f0)) {s : SV} (hvy : rd cx σ T y = some s) {m : ST} {g : Nat → List SV} (hrow : rowOf sz s = some (m, g)) (hb : m.den * te.bytes ≤ 140737488355328 ∧ m.den ≤ 9223372036854775807)
    {f' : Nat → List SV} {n' : Int} (hn' : n' = m.den) (hf' : ∀ j : Nat, (j : Int) < m.den → f' j = g j) : Local P cx.gl σ T o ⟨.gsl (cmpT .eql m (.l 0)) (.a n') sz f' (lenN σ.hp), [.put (lenN σ.hp) (.tail e (.a n') sz)], [], []⟩ := by
  intro B N E a w ff hf hg st ag agh hT K' Q hK
  have mx : x ∈ o.op.operands.toList := by simp [ho, Op.operands, Call.operands, hcal, hx]
  have my : y ∈ o.op.operands.toList := by simp [ho, Op.operands, Call.operands, hcal, hx]
  have hrx := (rd_sound hvx hg st (ag_of ag mx) hT).sl_inv
  have hry := rd_sound hvy hg st (ag_of ag my) hT
  have hvx' : a.eval x = .slice none 0 0 := by
    rcases hrx.sl_inv with ⟨h, _⟩ | ⟨_, _, _, _, _, h, _⟩
    · exact h
    · simp [BT.den] at h
  obtain ⟨k, news, r1, r2, r3, r4, r5⟩ := rowOf_src hrow hry
  have hfresh : hf (lenN σ.hp) = .fresh := by
    have := agh.efs _ (List.mem_singleton.2 rfl)
    simp only [AgE, hfOf, nth_eq, lenN_eq] at this
    rw [lenN_eq, this]; simp
  have hbk : k * te.bytes ≤ 140737488355328 := by
    have := hb.1
    rw [r1] at this
    have h : ((k * te.bytes : Nat) : Int) ≤ 140737488355328 := by rw [Int.natCast_mul]; exact this
    omega
  have hown := World.ownsRow_nil w 0 e sz
  obtain ⟨v', w', l1, l2, l3, l4, l5, l6⟩ := append_law (P := P) (ty := o.type) ((hc.ti hlt).slice hk) (hc.ti hle) hsz hz hown r3 (by simpa using r2) (by simpa using hbk)
  obtain ⟨E', x1, x2, x3, x4, x5, x6⟩ := put_tail (h := lenN σ.hp) (e := e) (sz := sz) st (.inl ⟨hfresh, rfl⟩) (by simpa using r3.2.1) hown l2 l4 l5 (fun _ => l6) (.a n') (by rw [hn', r1]; simp [ST.den])
  unfold Oper.wp
  rw [run_builtin_append ho hcal hx ht (a := a) (w := w) (w' := w') (v' := v') (by rw [hvx']; exact l1)]
  refine hK v' w' E' x1 x2 x3 (.gsl ?_ ?_)
  · refine grown_RO l2 hown.1 ?_ (by rw [hn', r1]; simp [ST.den]) (by simpa using r3.2.1) x5 x6 (by intro i hi; omega) (fun j hj => ?_) (by intro i j s u hi; omega) (fun i j s u hi hs hu => ?_)
    · rw [cmpT_den, l3]
      simp only [cmpDen, ST.den, r1, beq_iff_eq, true_and]
      omega
    · rw [Nat.zero_add, hf' j (by rw [r1]; omega)]; exact r4 j hj
    · rw [Nat.zero_add, hf' i (by rw [r1]; omega)] at hs
      exact (r5 i j s u hi hs hu).mono x1.I x1.cell
  · obtain ⟨a0, c0, rfl⟩ := l5
    refine ⟨a0, 0 + k, c0, x4, ?_, fun _ => rfl⟩
    simp only [ST.den, hn', r1]; omega

theorem local_append_more (hc : CxOk P cx) {c : Call} (ho : o.op = .call c) (hcal : c.callee = .builtin .append) {x y : Operand} {t e sz : Nat} {te ti : TI} (hx : c.args.toList = [x, y]) (ht : c.argTypes.toList = [t, t]) (hlt : look t cx.tt = some ti) (hk : ti.k = .slice e) (hle : look e cx.tt = some te) (hsz : te.size = sz) (hz : 0 < sz)
    {nl : BT} {n n0 : ST} {f : Nat → List SV} {h : Nat} (hvx : rd cx σ T x = some (.gsl nl n sz f h)) (hh : nth σ.hp h = some (.tail e n0 sz)) {s : SV} (hvy : rd cx σ T y = some s) {m : ST} {g : Nat → List SV} (hrow : rowOf sz s = some (m, g))
    (hb : n.den = n0.den ∧ (n.den + m.den) * te.bytes ≤ 140737488355328 ∧ n.den + m.den ≤ 9223372036854775807)
    {f' : Nat → List SV} {n' : Int} (hn' : n' = n.den + m.den) (hf1 : ∀ i : Nat, (i : Int) < n.den → f' i = f i) (hf' : ∀ i j : Nat, (i : Int) = n.den + j → (j : Int) < m.den → f' i = g j) :
    Local P cx.gl σ T o ⟨.gsl (andT nl (cmpT .eql m (.l 0))) (.a n') sz f' h, [.put h (.tail e (.a n') sz)], [h], []⟩ := by
  intro B N E a w ff hf hg st ag agh hT K' Q hK
  have mx : x ∈ o.op.operands.toList := by simp [ho, Op.operands, Call.operands, hcal, hx]
  have my : y ∈ o.op.operands.toList := by simp [ho, Op.operands, Call.operands, hcal, hx]
  obtain ⟨hrx, htok⟩ := (rd_sound hvx hg st (ag_of ag mx) hT).gsl_inv
  have hry := rd_sound hvy hg st (ag_of ag my) hT
  obtain ⟨k, news, r1, r2, r3, r4, r5⟩ := rowOf_src hrow hry
  have hkk := st.heap h
  rw [agh.rds h (List.mem_singleton.2 rfl), nth_hf hh] at hkk
  obtain ⟨v, nn, xs, k1, k2, k3, k4, k5⟩ := hkk
  have hv : a.eval x = v := by
    obtain ⟨a0, m0, c0, q1, _, q3⟩ := htok
    rw [k1] at q1
    cases q1
    have : m0 = nn := by
      rcases k2.2 with ⟨e1, e2⟩ | ⟨g0, cap, cur, e1, _⟩
      · cases e1; exact e2.symm
      · cases e1; rfl
    subst this
    exact q3 (by rw [hb.1, k3])
  rw [hv] at hrx
  have hnn : n.den = (nn : Int) := by rw [hb.1, k3]
  have hbk : (nn + k) * te.bytes ≤ 140737488355328 := by
    have := hb.2.1
    rw [hnn, r1] at this
    have h : (((nn + k) * te.bytes : Nat) : Int) ≤ 140737488355328 := by rw [Int.natCast_mul, Int.natCast_add]; exact this
    omega
  obtain ⟨v', w', l1, l2, l3, l4, l5, l6⟩ := append_law (P := P) (ty := o.type) ((hc.ti hlt).slice hk) (hc.ti hle) hsz hz k2 r3 (by have := hb.2.2; rw [hnn, r1] at this; simp only [maxLen]; omega) hbk
  have h1all : ∀ u ∈ xs ++ news, u.oneCell' = true := fun u hu => by
    rcases List.mem_append.1 hu with hu | hu
    · exact k4 u hu
    · exact r3.2.1 u hu
  have hnt : (ST.a n').den = ((nn + k : Nat) : Int) := by simp only [ST.den, hn', hnn, r1]; omega
  obtain ⟨E', x1, x2, x3, x4, x5, x6⟩ := put_tail (h := h) (e := e) (sz := sz) st (.inr ⟨n0, by rw [agh.rds h (List.mem_singleton.2 rfl), nth_hf hh], k1, k5⟩) h1all k2 l2 l4 l5 (fun _ => l6) (.a n') hnt
  unfold Oper.wp
  rw [run_builtin_append ho hcal hx ht (a := a) (w := w) (w' := w') (v' := v') (by rw [hv]; exact l1)]
  refine hK v' w' E' x1 x2 x3 (.gsl ?_ ?_)
  · have hold : (v = .slice none 0 0 ↔ nl.den = true) ∧ (∀ i, i < nn → (f i).length = sz) ∧ ∀ (i j : Nat) (s : SV) (u : Value), i < nn → (f i)[j]? = some s → xs[i * sz + j]? = some u → RO E.I w s u := by
      rcases hrx.sl_inv with ⟨e1, e2, e3⟩ | ⟨ad, m0, cap0, g0, e1, e2, e3, _, _, q4, q5, _, q6, q7⟩
      · have : nn = 0 := by omega
        subst this
        exact ⟨⟨fun _ => e3, fun _ => e1⟩, by intro i hi; omega, by intro i j s u hi; omega⟩
      · have hm : m0 = nn := by omega
        subst hm
        refine ⟨⟨fun e => by rw [e1] at e; simp at e, fun e => by rw [e2] at e; cases e⟩, q5, fun i j s u hi hs hu => ?_⟩
        rcases k2.2 with ⟨e4, _⟩ | ⟨g1, cap, cur, e4, _, hgg, hnc, _, hcs, htake⟩
        · rw [e1] at e4; simp at e4
        · rw [e1] at e4
          simp only [Value.slice.injEq, Option.some.injEq] at e4
          obtain ⟨rfl, _, rfl⟩ := e4
          have hj : j < sz := by rw [← q5 i hi]; exact (List.getElem?_eq_some_iff.1 hs).1
          have hc := (q6 i j hi hj).1
          simp only [Nat.zero_add] at hc
          have hlt : i * sz + j < m0 * sz := by
            have : (i + 1) * sz ≤ m0 * sz := Nat.mul_le_mul_right _ hi
            rw [Nat.add_mul] at this
            omega
          rw [cell_of_row w g1 (i * sz + j) cur e (0, 0) hgg] at hc
          rw [← htake, List.getElem?_take, if_pos hlt] at hu
          simp only [Array.getElem?_toList] at hu
          rw [hu] at hc
          rw [Option.some.inj hc]
          exact q7 i j s hi hs
    obtain ⟨o1, o2, o3⟩ := hold
    refine grown_RO l2 k2.1 ?_ hnt h1all x5 x6 (fun i hi => by rw [hf1 i (by omega)]; exact o2 i hi) (fun j hj => ?_) (fun i j s u hi hs hu => ?_) (fun i j s u hi hs hu => ?_)
    · rw [andT_den, cmpT_den, l3]
      simp only [cmpDen, ST.den, r1, Bool.and_eq_true, beq_iff_eq]
      rw [o1]
      constructor
      · rintro ⟨h1, h2⟩; exact ⟨h1, by omega⟩
      · rintro ⟨h1, h2⟩; exact ⟨h1, by omega⟩
    · rw [hf' (nn + j) j (by omega) (by omega)]; exact r4 j hj
    · rw [hf1 i (by omega)] at hs
      exact (o3 i j s u hi hs hu).mono x1.I x1.cell
    · rw [hf' (nn + i) i (by omega) (by omega)] at hs
      exact (r5 i j s u hi hs hu).mono x1.I x1.cell
  · obtain ⟨a0, c0, rfl⟩ := l5
    exact ⟨a0, nn + k, c0, x4, by rw [hnt]; exact Int.le_refl _, fun _ => rfl⟩

end
end Go.Sx
/- Rows: made, built, written, copied. -/
namespace Go.Sx
open Go

theorem Rel.plainOne {E : Env} {w : World} {s : SV} {v : Value} (h : Rel E w s v) (hp : plainV s = true) (h1 : v.oneCell' = true) : RO E.I w s v := by
  cases h with
  | ro h => exact h
  | ptr hb hv => simp [plainV] at hp
  | gsl hr ht => simp [plainV] at hp
  | mrow hb hm hv => simp [plainV] at hp
  | mptr hb hz hv => simp [plainV] at hp
  | osl ht hk => simp [plainV] at hp
  | optr hv ho => simp [plainV] at hp
  | agg hl _ => simp [Value.oneCell'] at h1
  | tup hl _ => simp [Value.oneCell'] at h1
  | clo hl _ => simp [plainV] at hp

section
variable {P : Program} {cx : Cx} {σ : Sy} {T : List Nat} {o : Oper} {K : Out → Prop}

theorem chunks_get {sz : Nat} : ∀ (n i : Nat) (cs r : List SV), (chunks sz n cs)[i]? = some r → r = takeN sz (dropN (i * sz) cs)
  | 0, i, cs, r, h => by simp [chunks] at h
  | n + 1, 0, cs, r, h => by simp [chunks] at h; rw [← h]; simp [dropN_eq]
  | n + 1, i + 1, cs, r, h => by
    simp only [chunks, List.getElem?_cons_succ] at h
    rw [chunks_get n i _ r h]
    simp only [dropN_eq, List.drop_drop, Nat.add_mul, Nat.one_mul]
    congr 2; omega

theorem repN_get {z : List SV} : ∀ (n q : Nat), q < n * z.length → (stepBuildSlice.repN n z)[q]? = z[q % z.length]?
  | 0, q, h => by omega
  | n + 1, q, h => by
    simp only [stepBuildSlice.repN]
    by_cases hq : q < z.length
    · rw [List.getElem?_append_left hq, Nat.mod_eq_of_lt hq]
    · have h' : q < n * z.length + z.length := by rw [← Nat.succ_mul]; exact h
      rw [List.getElem?_append_right (by omega), repN_get n (q - z.length) (by omega), (Nat.mod_eq_sub_mod (show q ≥ z.length by omega))]
theorem repN_len {z : List SV} : ∀ (n : Nat), (stepBuildSlice.repN n z).length = n * z.length
  | 0 => by simp [stepBuildSlice.repN]
  | n + 1 => by simp [stepBuildSlice.repN, repN_len n, Nat.add_mul]; omega

theorem fillS_sound {E : Env} {w : World} {sz : Nat} : ∀ (vs : List (Nat × SV)) (us : List (Nat × Value)) (cs cs' : List SV) (C : List Value), vs.length = us.length → (∀ (i : Nat) (p : Nat × SV) (q : Nat × Value), vs[i]? = some p → us[i]? = some q → p.1 = q.1 ∧ Rel E w p.2 q.2) → (∀ p ∈ vs, onesB p.2.cells = true) → RelL E w cs C → (∀ u ∈ C, u.oneCell' = true) →
      stepBuildSlice.fillS sz cs vs = some cs' → ∃ C', Instr.fill (fun i => some (i * sz, sz)) ⟨C⟩ us = some ⟨C'⟩ ∧ RelL E w cs' C' ∧ ∀ u ∈ C', u.oneCell' = true
  | [], us, cs, cs', C, hlen, _, _, hr, h1, h => by
    have : us = [] := List.eq_nil_of_length_eq_zero (by simpa using hlen.symm)
    subst this
    simp [stepBuildSlice.fillS] at h
    subst h
    exact ⟨C, rfl, hr, h1⟩
  | (i, v) :: vs, us, cs, cs', C, hlen, hrel, h1, hr, hone, h => by
    match us, hlen, hrel with
    | (i', u) :: us, hlen, hrel =>
      obtain ⟨e0, hvu⟩ := hrel 0 (i, v) (i', u) rfl rfl
      simp only at e0
      subst e0
      have hcells := cells_of (h1 _ (List.mem_cons_self ..)) hvu
      simp only [stepBuildSlice.fillS] at h
      split at h
      · rename_i hb
        simp only [Bool.and_eq_true, beq_iff_eq, lenN_eq] at hb
        obtain ⟨b1, b2⟩ := hb
        have b2 := Nat.le_of_ble_eq_true b2
        have hsz : u.cells.size = sz := by rw [← b1, hcells.1]; simp
        rw [fill_step rfl hsz (by rw [← hr.1]; exact b2)]
        refine fillS_sound vs us _ cs' _ (by simpa using hlen) (fun j p q a b => hrel (j + 1) p q (by simpa using a) (by simpa using b)) (fun p hp => h1 p (List.mem_cons_of_mem _ hp)) (putRel hr hcells _ (by show i * sz + v.cells.length ≤ cs.length; omega)) ?_ h
        intro x hx
        obtain ⟨q, hq⟩ := List.mem_iff_getElem?.1 hx
        rw [get_putN _ _ _ _ (by rw [← hcells.1, ← hr.1]; show i * sz + v.cells.length ≤ cs.length; omega)] at hq
        split at hq
        · exact ones_of (h1 _ (List.mem_cons_self ..)) hcells x (List.mem_of_getElem? hq)
        · exact hone x (List.mem_of_getElem? hq)
      · cases h

theorem local_buildSlice (hc : CxOk P cx) {t len e : Nat} {ps : Array (Nat × Operand)} (ho : o.op = .buildSlice t len ps) {ti te : TI} (hlt : look t cx.tt = some ti) (hk : ti.k = .slice e) (hle : look e cx.tt = some te) {vs : List (Nat × SV)} (hv : rdParts cx σ T ps.toList = some vs) (h1 : onesP vs = true)
    {cs : List SV} (hf : stepBuildSlice.fillS te.size (stepBuildSlice.repN len te.zero) vs = some cs) (hpl : plainV (.agg (loose.looseL (norm.normL dn cs))) = true) (hz : 0 < te.size) (hbig : len * te.size ≤ 16777216) :
    Local P cx.gl σ T o ⟨.gsl (.l false) (.l len) te.size (fun k => takeN te.size (dropN (k * te.size) (loose.looseL (norm.normL dn cs)))) (lenN σ.hp), [.put (lenN σ.hp) (.tail e (.l len) te.size)], [], []⟩ := by
  intro B N E a w ff hf' hg st ag agh hT K' Q hK
  have hag : ∀ p ∈ ps.toList, ∀ s ∈ opSlots p.2, ff s = ffOf σ s := fun p hp => ag_of ag (by simp only [ho, Op.operands]; simp; exact ⟨p.1, by simpa using hp⟩)
  obtain ⟨h2, h3⟩ := rdParts_sound hg st hT ps.toList vs hag hv
  obtain ⟨z, hzr, hzrel, hz1⟩ := (hc.ti hle).zero E w
  have hzl := (hc.ti hle).zlen
  have hzsz : z.cells.size = te.size := by have := hzrel.1; rw [hzl] at this; simpa using this.symm
  have hus : ∀ (j : Nat) (p : Nat × SV) (q : Nat × Value), vs[j]? = some p → ((ps.map fun (x : Nat × Operand) => (x.1, a.eval x.2)).toList)[j]? = some q → p.1 = q.1 ∧ Rel E w p.2 q.2 := by
    intro j p q hp hq
    rw [Array.toList_map, List.getElem?_map] at hq
    cases hpj : ps.toList[j]? with
    | none => rw [hpj] at hq; cases hq
    | some x =>
      rw [hpj] at hq
      simp only [Option.map_some, Option.some.injEq] at hq
      subst hq
      exact h3 j p x hp hpj
  -- the zero cells
  let C0 : List Value := (List.range (len * te.size)).map fun q => z.cells.toList.getD (q % te.size) undef
  have hC0 : RelL E w (stepBuildSlice.repN len te.zero) C0 := by
    refine ⟨by rw [repN_len, hzl]; simp [C0], fun i s v hs hv => ?_⟩
    have hlt : i < len * te.size := by
      have := (List.getElem?_eq_some_iff.1 hs).1
      rwa [repN_len, hzl] at this
    rw [repN_get _ _ (by rw [hzl]; exact hlt), hzl] at hs
    simp [C0, hlt] at hv
    have hm : i % te.size < z.cells.size := by rw [hzsz]; exact Nat.mod_lt _ hz
    refine hzrel.2 (i % te.size) s v hs ?_
    rw [← hv]
    simp [hm]
  have hC01 : ∀ u ∈ C0, u.oneCell' = true := by
    intro u hu
    simp only [C0, List.mem_map, List.mem_range] at hu
    obtain ⟨q, _, rfl⟩ := hu
    have hm : q % te.size < z.cells.toList.length := by simp [hzsz]; exact Nat.mod_lt _ hz
    rw [List.getD_eq_getElem?_getD, List.getElem?_eq_getElem hm]
    exact hz1 _ (List.getElem_mem hm)
  obtain ⟨C', c1, c2, c3⟩ := fillS_sound vs (ps.map fun (x : Nat × Operand) => (x.1, a.eval x.2)).toList _ cs C0 (by simp [h2]) hus (onesP_get h1) hC0 hC01 hf
  have hlen' : C'.length = len * te.size := by
    rw [← c2.1]
    have : ∀ (vs : List (Nat × SV)) (cs cs' : List SV), stepBuildSlice.fillS te.size cs vs = some cs' → cs'.length = cs.length := by
      intro vs
      induction vs with
      | nil => intro cs cs' h; simp [stepBuildSlice.fillS] at h; rw [h]
      | cons p vs ih =>
        intro cs cs' h
        obtain ⟨i, v⟩ := p
        simp only [stepBuildSlice.fillS] at h
        split at h
        · rw [ih _ _ h, len_putN]
        · cases h
    rw [this vs _ cs hf, repN_len, hzl]
  have hrun : (Instr.buildSlice t len (ps.map fun (x : Nat × Operand) => (x.1, a.eval x.2))).run P w = .ok (.slice (some ⟨w.heap.size, 0, none⟩) len len) (w.alloc (.cells ⟨C'⟩ e)) := by
    have hu := (hc.ti hlt).slice hk
    have hS := (hc.ti hle).sizeOf w
    have harr : ((Array.range (len * te.size)).map (fun q => z.cells[q % z.cells.size]!)) = (⟨C0⟩ : Array Value) := by
      apply Array.ext'
      simp only [Array.toList_map, Array.toList_range, C0]
      refine List.map_congr_left fun q _ => ?_
      rw [hzsz, List.getD_eq_getElem?_getD, Array.getElem!_eq_getD, Array.getD_eq_getD_getElem?, Array.getElem?_toList]
      have hm : q % te.size < z.cells.size := by rw [hzsz]; exact Nat.mod_lt _ hz
      simp [hm]
    have hbig' : ¬ (16777216 < len * te.size) := by omega
    simp only [Instr.buildSlice, Sem.run_bind, run_underlying hu, Result.andThen_ok, hS, gt_iff_lt]
    by_cases h0 : len * te.size = 0
    · have hC0n : C0 = [] := by simp [C0, h0]
      rw [hC0n] at c1
      rw [Array.toList_map] at c1
      have hemp : Array.map (fun _ => (default : Value)) (Array.range 0) = ⟨[]⟩ := by simp
      simp [h0, newRow, newObj]
      first | rw [hemp, c1] | (simp at c1 ⊢; rw [c1])
      simp [Sem.run]
    · rw [Array.toList_map] at c1
      simp [h0, hbig', hzr, harr, newRow, newObj]
      rw [c1]
      simp [Sem.run]
  have hfresh : hf' (lenN σ.hp) = .fresh := by
    have := agh.efs _ (List.mem_singleton.2 rfl)
    simp only [AgE, hfOf, nth_eq, lenN_eq] at this
    rw [lenN_eq, this]; simp
  have hmax : len ≤ maxLen := by
    simp only [maxLen]
    have : len ≤ len * te.size := Nat.le_mul_of_pos_right _ hz
    omega
  have hown' := World.ownsRow_lit w (base := 0) (e := e) (size := te.size) ⟨C'⟩ len (Nat.zero_le _) hmax (by simpa using hlen')
  obtain ⟨E', x1, x2, x3, x4, x5, x6⟩ := put_tail (h := lenN σ.hp) (e := e) (sz := te.size) (n := 0) (m := len) (xs := []) (news := C') st (.inl ⟨hfresh, rfl⟩) (by simpa using c3) (World.ownsRow_nil w 0 e te.size) (by simpa using hown') (.inr ⟨rfl, World.grownBy_alloc w _ none⟩) ⟨_, _, by simp; exact ⟨rfl, rfl⟩⟩ (fun h => absurd hfresh h) (.l len) (by simp [ST.den])
  unfold Oper.wp
  have : (execOp a.eval o).run P w = .ok (.value (.slice (some ⟨w.heap.size, 0, none⟩) len len)) (w.alloc (.cells ⟨C'⟩ e)) := by
    simp only [execOp, ho, Sem.run_bind]
    rw [hrun]
    rfl
  rw [this]
  -- what it reads as
  have hpc : ∀ c ∈ loose.looseL (norm.normL dn cs), plainV c = true := by
    simp only [plainV] at hpl
    exact (plainL_iff _).1 hpl
  have hcells : RelL E w (loose.looseL (norm.normL dn cs)) C' := by
    rw [looseL_eq, normL_eq]
    exact (c2.map _ fun s v _ h => h.norm).map _ fun s v _ h => h.loose
  have hget : ∀ (i j : Nat) (s : SV), (takeN te.size (dropN (i * te.size) (loose.looseL (norm.normL dn cs))))[j]? = some s → (loose.looseL (norm.normL dn cs))[i * te.size + j]? = some s := by
    intro i j s hs
    rw [takeN_eq, dropN_eq, List.getElem?_take] at hs
    split at hs
    · rwa [List.getElem?_drop] at hs
    · cases hs
  refine hK _ _ E' x1 x2 x3 (.gsl ?_ ⟨_, len, _, x4, by simp [ST.den], fun _ => rfl⟩)
  refine grown_RO (n := 0) (m := len) (xs := []) (news := C') (by simpa using hown') (by simp) (by simp [BT.den]) (by simp [ST.den]) (by simpa using c3) x5 x6 (by intro i hi; omega) (fun j hj => ?_) (by intro i j s u hi; omega) (fun i j s u hi hs hu => ?_)
  · rw [takeN_eq, dropN_eq, List.length_take, List.length_drop, hcells.1, hlen', Nat.zero_add]
    have : (j + 1) * te.size ≤ len * te.size := Nat.mul_le_mul_right _ hj
    rw [Nat.add_mul] at this
    omega
  · rw [Nat.zero_add] at hs
    have hs' := hget i j s hs
    exact (((hcells.2 _ s u hs' hu).plainOne (hpc s (List.mem_of_getElem? hs')) (c3 u (List.mem_of_getElem? hu)))).mono x1.I x1.cell

end
end Go.Sx
