/- Part of the proofs of the statements about tokens (layer 5): a symbolic executor over the code and that it is sound; it has no conditions of its own. -/
import Derived.ScopeJumps
import Derived.Below
import Derived.ProofKit
import Derived.Carry
import Derived.ChangeOld
import Derived.ChangeArms
import Derived.OpenShut
import Derived.MakeChecks
import Derived.Test.YtfchfhjpldppjaaGreatDoorSb
/- Guards; operations in the order of the text. -/
namespace Go.Sx
open Go

/-- The book-keeping of guards is in order. -/
structure WfG (σ : Sy) : Prop where
  tg : ∀ s g, getO σ.fr s = some g → ∀ i ∈ g.tg, i < σ.gm.length
  gt : ∀ s g i, getO σ.fr s = some g → g.gt = some i → ∃ c, g.v = .bool c ∧ nth σ.gm i = some c
  gf : ∀ s g i, getO σ.fr s = some g → g.gf = some i → ∃ c, g.v = .bool c ∧ nth σ.gm i = some (.not c)

theorem condsOf_grow {gm : List BT} {c : BT} : ∀ {T : List Nat}, (∀ i ∈ T, i < gm.length) → condsOf (gm ++ [c]) T = condsOf gm T
  | [], _ => rfl
  | i :: T, h => by
    have h1 := condsOf_grow (gm := gm) (c := c) (T := T) fun j hj => h j (List.mem_cons_of_mem _ hj)
    have h2 : nth (gm ++ [c]) i = nth gm i := by rw [nth_eq, nth_eq, List.getElem?_append_left (h i (List.mem_cons_self ..))]
    simp only [condsOf, List.filterMap_cons, h2] at *
    rw [h1]

theorem getO_set {α : Type} (fr : List (Option α)) (d s : Nat) (g : Option α) : getO (setN fr d g) s = if s = d ∧ d < fr.length then g else getO fr s := by
  rw [getO_eq, getO_eq, setN_eq, List.getElem?_set]
  by_cases e : d = s
  · subst e
    by_cases h : d < fr.length <;> simp [h]
  · rw [if_neg e, if_neg (fun h => e h.1.symm)]

theorem condsOf_mem {gm : List BT} {T : List Nat} {i : Nat} {b : BT} (hi : i ∈ T) (hb : nth gm i = some b) : b ∈ condsOf gm T := List.mem_filterMap.2 ⟨i, hi, hb⟩

section
variable {P : Program} {cx : Cx}

theorem put_out {a : Act} {d : Nat} {v : Value} (h : a.tmps.size ≤ d) : a.put (some d) v = a := by
  obtain ⟨t, ds⟩ := a
  simp only [Act.put] at *
  congr 1
  exact Array.setIfInBounds_eq_of_size_le h

theorem St.setD {B : Bs} {N : Nat} {E : Env} {a : Act} {w : World} {σ : Sy} {hf : Nat → Hl} (st : St B N E a w (ffOf σ) hf) (hN : σ.fr.length = N) (d : Option Nat) (v : Value) (g : Option G)
    (hg : ∀ g', g = some g' → (allT (condsOf σ.gm g'.tg) → Rel E w g'.v v) ∧ (¬ allT (condsOf σ.gm g'.tg) → v = undef)) (hp' : List Hl) : St B N E (a.put d v) w (ffOf ⟨setD σ.fr d g, hp', σ.gm⟩) hf := by
  have key : ∀ k, d = some k → k < N → St B N E (a.put d v) w (ffOf ⟨Sx.setD σ.fr d g, hp', σ.gm⟩) hf := by
    intro k hk hlt
    have := st.put d v (g.map fun g => (condsOf σ.gm g.tg, g.v)) (fun cs s e => by
      cases g with
      | none => cases e
      | some g' => simp only [Option.map_some, Option.some.injEq, Prod.mk.injEq] at e; obtain ⟨rfl, rfl⟩ := e; exact hg g' rfl) (fun j hj => by rw [hk] at hj; cases hj; exact hlt)
    have e : updO (ffOf σ) d (g.map fun g => (condsOf σ.gm g.tg, g.v)) = ffOf ⟨Sx.setD σ.fr d g, hp', σ.gm⟩ := by
      subst hk
      funext s
      simp only [updO, upd, ffOf, Sx.setD, getO_set]
      by_cases e : s = k
      · subst e; simp [hN, hlt]
      · simp [e]
    rw [e] at this
    exact this
  cases d with
  | none => exact st
  | some k =>
    by_cases hlt : k < N
    · exact key k rfl hlt
    · rw [put_out (by rw [st.size]; omega)]
      have e : ffOf ⟨Sx.setD σ.fr (some k) g, hp', σ.gm⟩ = ffOf σ := by
        funext s
        simp only [ffOf, Sx.setD, getO_set]
        rw [if_neg (fun h => hlt (by rw [← hN]; exact h.2))]
      rw [e]
      exact st

theorem hfOf_putH {hp : List Hl} {h : Nat} {hl : Hl} (hle : h ≤ hp.length) : hfOf (putH hp h hl) = upd (hfOf hp) h hl := by
  funext k
  unfold putH
  rw [lenN_eq]
  by_cases e : h = hp.length
  · subst e
    simp only [beq_self_eq_true, if_true, hfOf, nth_eq, upd]
    by_cases e2 : k = hp.length
    · subst e2; simp
    · rw [if_neg e2]
      by_cases e3 : k < hp.length
      · rw [List.getElem?_append_left e3]
      · rw [List.getElem?_eq_none (by simp; omega), List.getElem?_eq_none (by omega)]
  · have : (h == hp.length) = false := by simpa using e
    simp only [this, Bool.false_eq_true, if_false, hfOf, nth_eq, setN_eq, upd, List.getElem?_set]
    by_cases e2 : h = k
    · subst e2; rw [if_pos rfl, if_pos rfl, if_pos (by omega)]; rfl
    · rw [if_neg e2, if_neg (fun h => e2 h.symm)]

theorem hfOf_efsH : ∀ (es : List Ef) (hp : List Hl), okEfs hp es = true → hfOf (efsH hp es) = efsF (hfOf hp) es
  | [], hp, _ => rfl
  | .set h off vs :: es, hp, ho => by
    simp only [okEfs] at ho
    show hfOf (efsH (efH hp (.set h off vs)) es) = efsF (efF (hfOf hp) (.set h off vs)) es
    rw [hfOf_efsH es _ ho]
    congr 1
    simp only [efH, efF]
    cases hn : nth hp h with
    | none => simp [hfOf, hn]
    | some hl =>
      rw [nth_hf hn]
      cases hl <;> try rfl
      rename_i ty cs
      funext k
      have hlt : h < hp.length := by rw [nth_eq] at hn; exact (List.getElem?_eq_some_iff.1 hn).1
      simp only [hfOf, nth_eq, setN_eq, upd, List.getElem?_set]
      by_cases e2 : h = k
      · subst e2; rw [if_pos rfl, if_pos rfl, if_pos hlt]; rfl
      · rw [if_neg e2, if_neg (fun h => e2 h.symm)]
  | .put h hl :: es, hp, ho => by
    simp only [okEfs, Bool.and_eq_true, lenN_eq] at ho
    show hfOf (efsH (efH hp (.put h hl)) es) = efsF (efF (hfOf hp) (.put h hl)) es
    rw [hfOf_efsH es _ ho.2]
    congr 1
    exact hfOf_putH (Nat.le_of_ble_eq_true ho.1)

/-! ### guards -/

theorem guardOf_some {all : List Oper} {ops : Array Oper} (hops : ops.toList = all) {σ σ' : Sy} {T : List Nat} {o : Oper} (h : guardOf all σ o.guard = some (some (σ', T))) (wf : WfG σ) :
    WfG σ' ∧ ffOf σ' = ffOf σ ∧ σ'.hp = σ.hp ∧ σ'.fr.length = σ.fr.length ∧ (∀ i ∈ T, i < σ'.gm.length) ∧ (∃ x, σ'.gm = σ.gm ++ x) ∧
    (∀ (i : Nat), getO σ'.fr i = none ↔ getO σ.fr i = none) ∧
    ∀ (B : Bs) (N : Nat) (E : Env) (a : Act) (w : World) (ff : Nat → SG) (hf : Nat → Hl), St B N E a w ff hf → (∀ j want s, o.guard = some (j, want) → (nth all j).bind (·.dst) = some s → ff s = ffOf σ s) → (Region.wanted o (yielded ops a.tmps) = true ↔ allT (condsOf σ'.gm T)) := by
  unfold guardOf at h
  split at h
  · rename_i hg
    simp only [Option.some.injEq, Prod.mk.injEq] at h
    obtain ⟨rfl, rfl⟩ := h
    exact ⟨wf, rfl, rfl, rfl, by simp, ⟨[], by simp⟩, fun _ => Iff.rfl, fun B N E a w ff hf _ _ => by simp [Region.wanted, hg, condsOf, allT]⟩
  · rename_i j want hg
    split at h
    · rename_i oj hj
      split at h
      · rename_i s hs
        have hsl : ∀ (B : Bs) (N : Nat) (E : Env) (a : Act) (w : World) (ff : Nat → SG) (hf : Nat → Hl) (tg : List Nat) (gt gf : Option Nat) (c : BT), getO σ.fr s = some ⟨tg, gt, gf, .bool c⟩ → St B N E a w ff hf → (∀ j want s, o.guard = some (j, want) → (nth all j).bind (·.dst) = some s → ff s = ffOf σ s) →
            (Region.wanted o (yielded ops a.tmps) = true ↔ (allT (condsOf σ.gm tg) ∧ c.den = want)) := by
          intro B N E a w ff hf tg gt gf c hgo st hag
          have hag := hag j want s hg (by rw [hj]; exact hs)
          have hsk := st.slot s
          rw [hag, ffOf, hgo] at hsk
          simp only [Option.map_some, SlotOk] at hsk
          obtain ⟨h1, h2, h3⟩ := hsk
          have hops' : ops[j]? = some oj := by rw [← Array.getElem?_toList, hops, ← nth_eq]; exact hj
          have hv : a.tmps[s]? = some (a.tmps.getD s undef) := by simp [Array.getD, h1]
          simp only [Region.wanted, hg, yielded, hops', Option.bind_some, hs]
          rw [hv]
          by_cases hT : allT (condsOf σ.gm tg)
          · rw [(h2 hT).bool_inv]
            simp [hT]
          · rw [h3 hT]
            simp [undef, hT]
        split at h
        · rename_i tg gt gf b hgo
          split at h
          · rename_i hb
            simp only [Option.some.injEq, Prod.mk.injEq] at h
            obtain ⟨rfl, rfl⟩ := h
            refine ⟨wf, rfl, rfl, rfl, wf.tg s _ hgo, ⟨[], by simp⟩, fun _ => Iff.rfl, fun B N E a w ff hf st hag => ?_⟩
            rw [hsl B N E a w ff hf _ _ _ _ hgo st hag]
            have : b = want := by simpa using hb
            simp [BT.den, this]
          · cases h
        · rename_i tg gt gf c _ hgo
          have old : ∀ (i : Nat) (c' : BT), nth σ.gm i = some c' → (c'.den = true ↔ c.den = want) → σ = σ' → T = i :: tg → (WfG σ' ∧ ffOf σ' = ffOf σ ∧ σ'.hp = σ.hp ∧ σ'.fr.length = σ.fr.length ∧ (∀ i ∈ T, i < σ'.gm.length) ∧ (∃ x, σ'.gm = σ.gm ++ x) ∧ (∀ (i : Nat), getO σ'.fr i = none ↔ getO σ.fr i = none) ∧
              ∀ (B : Bs) (N : Nat) (E : Env) (a : Act) (w : World) (ff : Nat → SG) (hf : Nat → Hl), St B N E a w ff hf → (∀ j want s, o.guard = some (j, want) → (nth all j).bind (·.dst) = some s → ff s = ffOf σ s) → (Region.wanted o (yielded ops a.tmps) = true ↔ allT (condsOf σ'.gm T))) := by
            intro i c' hi hc e1 e2
            subst e1 e2
            refine ⟨wf, rfl, rfl, rfl, fun k hk => ?_, ⟨[], by simp⟩, fun _ => Iff.rfl, fun B N E a w ff hf st hag => ?_⟩
            · rcases List.mem_cons.1 hk with rfl | hk
              · rw [nth_eq] at hi; exact (List.getElem?_eq_some_iff.1 hi).1
              · exact wf.tg s _ hgo k hk
            · rw [hsl B N E a w ff hf _ _ _ _ hgo st hag]
              simp only [condsOf, List.filterMap_cons, hi, allT]
              rw [hc]
              exact And.comm
          have new : ∀ (c' : BT) (g' : G), (c'.den = true ↔ c.den = want) → g'.tg = tg → g'.v = .bool c → (∀ i, g'.gt = some i → (gt = some i) ∨ (i = σ.gm.length ∧ c' = c)) → (∀ i, g'.gf = some i → (gf = some i) ∨ (i = σ.gm.length ∧ c' = .not c)) → σ' = ⟨setN σ.fr s (some g'), σ.hp, σ.gm ++ [c']⟩ → T = lenN σ.gm :: tg →
              (WfG σ' ∧ ffOf σ' = ffOf σ ∧ σ'.hp = σ.hp ∧ σ'.fr.length = σ.fr.length ∧ (∀ i ∈ T, i < σ'.gm.length) ∧ (∃ x, σ'.gm = σ.gm ++ x) ∧ (∀ (i : Nat), getO σ'.fr i = none ↔ getO σ.fr i = none) ∧
              ∀ (B : Bs) (N : Nat) (E : Env) (a : Act) (w : World) (ff : Nat → SG) (hf : Nat → Hl), St B N E a w ff hf → (∀ j want s, o.guard = some (j, want) → (nth all j).bind (·.dst) = some s → ff s = ffOf σ s) → (Region.wanted o (yielded ops a.tmps) = true ↔ allT (condsOf σ'.gm T))) := by
            intro c' g' hc e1 e2 e3 e4 e5 e6
            subst e5 e6
            have hgrow : ∀ i b, nth σ.gm i = some b → nth (σ.gm ++ [c']) i = some b := fun i b hb => by
              rw [nth_eq] at hb ⊢
              rw [List.getElem?_append_left (List.getElem?_eq_some_iff.1 hb).1]; exact hb
            have hlast : nth (σ.gm ++ [c']) σ.gm.length = some c' := by rw [nth_eq]; simp
            refine ⟨⟨fun k g hk i hi => ?_, fun k g i hk hi => ?_, fun k g i hk hi => ?_⟩, ?_, rfl, by simp [setN_eq], fun k hk => ?_, ⟨[c'], rfl⟩, fun k => ?_, fun B N E a w ff hf st hag => ?_⟩
            · rw [getO_set] at hk
              split at hk
              · cases hk; rw [e1] at hi; have := wf.tg s _ hgo i hi; simp; omega
              · have := wf.tg k g hk i hi; simp; omega
            · rw [getO_set] at hk
              split at hk
              · cases hk
                rcases e3 i hi with h | ⟨rfl, rfl⟩
                · obtain ⟨c2, q1, q2⟩ := wf.gt s _ i hgo h
                  exact ⟨c2, by rw [e2]; exact q1, hgrow _ _ q2⟩
                · exact ⟨_, e2, hlast⟩
              · obtain ⟨c2, q1, q2⟩ := wf.gt k g i hk hi
                exact ⟨c2, q1, hgrow _ _ q2⟩
            · rw [getO_set] at hk
              split at hk
              · cases hk
                rcases e4 i hi with h | ⟨rfl, rfl⟩
                · obtain ⟨c2, q1, q2⟩ := wf.gf s _ i hgo h
                  exact ⟨c2, by rw [e2]; exact q1, hgrow _ _ q2⟩
                · exact ⟨_, e2, hlast⟩
              · obtain ⟨c2, q1, q2⟩ := wf.gf k g i hk hi
                exact ⟨c2, q1, hgrow _ _ q2⟩
            · funext k
              simp only [ffOf, getO_set]
              split
              · rename_i e
                rw [e.1, hgo]
                simp only [Option.map_some, e1, e2, condsOf_grow (wf.tg s _ hgo)]
              · cases hk : getO σ.fr k with
                | none => rfl
                | some g => simp only [Option.map_some, condsOf_grow (wf.tg k g hk)]
            · rw [lenN_eq] at hk
              rcases List.mem_cons.1 hk with rfl | hk
              · simp
              · have := wf.tg s _ hgo k hk; simp; omega
            · simp only [getO_set]
              split
              · rename_i e; rw [e.1, hgo]; simp
              · rfl
            · rw [hsl B N E a w ff hf _ _ _ _ hgo st hag]
              simp only [condsOf, List.filterMap_cons, lenN_eq, hlast, allT]
              have := condsOf_grow (c := c') (wf.tg s _ hgo)
              simp only [condsOf] at this
              rw [this, hc]
              exact And.comm
          split at h
          · rename_i hw
            subst hw
            split at h
            · rename_i _ i
              simp only [Option.some.injEq, Prod.mk.injEq] at h
              obtain ⟨c2, q1, q2⟩ := wf.gt s _ i hgo rfl
              cases q1
              exact old i c q2 Iff.rfl h.1 h.2.symm
            · simp only [Option.some.injEq, Prod.mk.injEq] at h
              refine new c _ Iff.rfl rfl rfl (fun i h => ?_) (fun i h => .inl h) h.1.symm h.2.symm
              simp only [Option.some.injEq] at h
              exact .inr ⟨by rw [← h, lenN_eq], rfl⟩
          · rename_i hw
            have hw : want = false := by simpa using hw
            subst hw
            split at h
            · rename_i _ i
              simp only [Option.some.injEq, Prod.mk.injEq] at h
              obtain ⟨c2, q1, q2⟩ := wf.gf s _ i hgo rfl
              cases q1
              exact old i (.not c) q2 (by simp [BT.den]) h.1 h.2.symm
            · simp only [Option.some.injEq, Prod.mk.injEq] at h
              refine new (.not c) _ (by simp [BT.den]) rfl rfl (fun i h => .inl h) (fun i h => ?_) h.1.symm h.2.symm
              simp only [Option.some.injEq] at h
              exact .inr ⟨by rw [← h, lenN_eq], rfl⟩
        · cases h
      · cases h
    · cases h

theorem guardOf_skip {all : List Oper} {ops : Array Oper} (hops : ops.toList = all) {σ : Sy} {o : Oper} (h : guardOf all σ o.guard = some none) {B : Bs} {N : Nat} {E : Env} {a : Act} {w : World} {ff : Nat → SG} {hf : Nat → Hl} (st : St B N E a w ff hf)
    (hag : ∀ j want s, o.guard = some (j, want) → (nth all j).bind (·.dst) = some s → ff s = ffOf σ s) : Region.wanted o (yielded ops a.tmps) = false := by
  unfold guardOf at h
  split at h
  · cases h
  · rename_i j want hg
    split at h
    · rename_i oj hj
      split at h
      · rename_i s hs
        split at h
        · rename_i tg gt gf b hgo
          split at h
          · cases h
          · rename_i hb
            have hag := hag j want s hg (by rw [hj]; exact hs)
            have hsk := st.slot s
            rw [hag, ffOf, hgo] at hsk
            simp only [Option.map_some, SlotOk] at hsk
            obtain ⟨h1, h2, h3⟩ := hsk
            have hops' : ops[j]? = some oj := by rw [← Array.getElem?_toList, hops, ← nth_eq]; exact hj
            have hv : a.tmps[s]? = some (a.tmps.getD s undef) := by simp [Array.getD, h1]
            simp only [Region.wanted, hg, yielded, hops', Option.bind_some, hs]
            rw [hv]
            by_cases hT : allT (condsOf σ.gm tg)
            · rw [(h2 hT).bool_inv]
              simpa [BT.den] using hb
            · rw [h3 hT]
              simp [undef]
        · split at h <;> split at h <;> simp at h
        · cases h
      · cases h
    · cases h

end
end Go.Sx
/- Picks; a run of operations; regions without a draw. -/
namespace Go.Sx
open Go

section
variable {P : Program} {cx : Cx} {σ : Sy} {T : List Nat} {o : Oper} {K : Out → Prop}

theorem allT_opt {gm : List BT} {g : Option Nat} {T : List Nat} (h : ∀ i, g = some i → ∃ c, nth gm i = some c ∧ c.den = true) (hT : allT (condsOf gm T)) : allT (condsOf gm (g.toList ++ T)) := by
  cases g with
  | none => simpa using hT
  | some i =>
    obtain ⟨c, h1, h2⟩ := h i rfl
    simp only [Option.toList_some, List.singleton_append, condsOf, List.filterMap_cons, h1, allT]
    exact ⟨h2, hT⟩

theorem stepPick_sound (wf : WfG σ) {c x y : Operand} (ho : o.op = .pick c x y) (h : stepPick cx σ T c x y K) : ∃ r, K r ∧ Local P cx.gl σ T o r := by
  unfold stepPick at h
  split at h
  · rename_i s
    have mc : (Operand.tmp s) ∈ o.op.operands.toList := by simp [ho, Op.operands]
    have mx : x ∈ o.op.operands.toList := by simp [ho, Op.operands]
    have my : y ∈ o.op.operands.toList := by simp [ho, Op.operands]
    have cval : ∀ {B : Bs} {N : Nat} {E : Env} {a : Act} {w : World} {ff : Nat → SG} {hf : Nat → Hl} {tg : List Nat} {gt gf : Option Nat} {ct : BT}, getO σ.fr s = some ⟨tg, gt, gf, .bool ct⟩ → subN tg T = true → St B N E a w ff hf → AgS σ ff o → allT (condsOf σ.gm T) → a.eval (.tmp s) = .bool ct.den := by
      intro B N E a w ff hf tg gt gf ct hgo hs st ag hT
      have h1 := st.slot s
      rw [ag_of ag mc s (by simp [opSlots]), ffOf, hgo] at h1
      simp only [Option.map_some, SlotOk] at h1
      exact (h1.2.1 (allT_sub hs hT)).bool_inv
    split at h
    · rename_i tg gt gf hgo
      split at h
      · rename_i hs
        obtain ⟨v, hv, h⟩ := outO_some h
        refine ⟨_, h, fun B N E a w ff hf hg st ag agh hT => ?_⟩
        refine yields_value st (v := a.eval x) ?_ rfl (rd_sound hv hg st (ag_of ag mx) hT)
        simp [execOp, ho, cval hgo hs st ag hT, asBool, BT.den]
      · exact h.elim
    · rename_i tg gt gf hgo
      split at h
      · rename_i hs
        obtain ⟨v, hv, h⟩ := outO_some h
        refine ⟨_, h, fun B N E a w ff hf hg st ag agh hT => ?_⟩
        refine yields_value st (v := a.eval y) ?_ rfl (rd_sound hv hg st (ag_of ag my) hT)
        simp [execOp, ho, cval hgo hs st ag hT, asBool, BT.den]
      · exact h.elim
    · rename_i tg gt gf ct _ _ hgo
      split at h
      · rename_i hs
        have ht : ∀ i, gt = some i → ct.den = true → ∃ c, nth σ.gm i = some c ∧ c.den = true := fun i hi hd => by
          obtain ⟨c, q1, q2⟩ := wf.gt s _ i hgo hi
          cases q1
          exact ⟨_, q2, hd⟩
        have hf' : ∀ i, gf = some i → ct.den = false → ∃ c, nth σ.gm i = some c ∧ c.den = true := fun i hi hd => by
          obtain ⟨c, q1, q2⟩ := wf.gf s _ i hgo hi
          cases q1
          exact ⟨_, q2, by simp [BT.den, hd]⟩
        split at h
        · rename_i bx h1 h2
          refine ⟨_, h, fun B N E a w ff hf hg st ag agh hT => ?_⟩
          refine yields_value st (v := .bool (ct.den && bx.den)) ?_ rfl (.bool rfl)
          have hc := cval hgo hs st ag hT
          cases hd : ct.den with
          | true =>
            have := (rd_sound h1 hg st (ag_of ag mx) (allT_opt (fun i hi => ht i hi hd) hT)).bool_inv
            simp [execOp, ho, hc, asBool, hd, this]
          | false =>
            have := (rd_sound h2 hg st (ag_of ag my) (allT_opt (fun i hi => hf' i hi hd) hT)).bool_inv
            simp [execOp, ho, hc, asBool, hd, this, BT.den]
        · rename_i y' _ h1 h2
          refine ⟨_, h, fun B N E a w ff hf hg st ag agh hT => ?_⟩
          refine yields_value st (v := .bool (ct.den || y'.den)) ?_ rfl (.bool rfl)
          have hc := cval hgo hs st ag hT
          cases hd : ct.den with
          | true =>
            have := (rd_sound h1 hg st (ag_of ag mx) (allT_opt (fun i hi => ht i hi hd) hT)).bool_inv
            simp [execOp, ho, hc, asBool, hd, this, BT.den]
          | false =>
            have := (rd_sound h2 hg st (ag_of ag my) (allT_opt (fun i hi => hf' i hi hd) hT)).bool_inv
            simp [execOp, ho, hc, asBool, hd, this]
        · exact h.elim
      · exact h.elim
    · exact h.elim
  · exact h.elim

theorem stepAny_sound (hc : CxOk P cx) (htab : TabOk P cx.gl cx.tab) (wf : WfG σ) (h : stepAny cx σ T o K) : ∃ r, K r ∧ Local P cx.gl σ T o r := by
  unfold stepAny at h
  split at h
  · rename_i c x y ho; exact stepPick_sound wf ho h
  · exact stepOp_sound hc htab h

/-- What the executor has done of some operations: a record an operation (none: it does not run). -/
inductive Runs (P : Program) (gl : List (Nat × SV)) (all : List Oper) : List Oper → Sy → List (Option (Sy × List Nat × Out)) → Sy → Prop where
  | nil (σ : Sy) : Runs P gl all [] σ [] σ
  | skip {o : Oper} {os : List Oper} {σ σ' : Sy} {rs : List (Option (Sy × List Nat × Out))} (hg : guardOf all σ o.guard = some none) (h : Runs P gl all os ⟨setD σ.fr o.dst none, σ.hp, σ.gm⟩ rs σ') : Runs P gl all (o :: os) σ (none :: rs) σ'
  | step {o : Oper} {os : List Oper} {σ σ1 σ' : Sy} {T : List Nat} {r : Out} {rs : List (Option (Sy × List Nat × Out))} (hg : guardOf all σ o.guard = some (some (σ1, T))) (hl : Local P gl σ1 T o r) (he : okEfs σ1.hp r.efs = true) (hte : T = [] ∨ r.efs = [])
      (h : Runs P gl all os ⟨setD σ1.fr o.dst (some ⟨T, none, none, r.v⟩), efsH σ1.hp r.efs, σ1.gm⟩ rs σ') : Runs P gl all (o :: os) σ (some (σ1, T, r) :: rs) σ'

theorem WfG.setD {σ : Sy} (wf : WfG σ) (d : Option Nat) (g : Option G) (hg : ∀ g', g = some g' → (∀ i ∈ g'.tg, i < σ.gm.length) ∧ g'.gt = none ∧ g'.gf = none) (hp : List Hl) : WfG ⟨setD σ.fr d g, hp, σ.gm⟩ := by
  have key : ∀ s g', getO (Sx.setD σ.fr d g) s = some g' → g = some g' ∨ getO σ.fr s = some g' := by
    intro s g' h
    cases d with
    | none => exact .inr h
    | some k =>
      simp only [Sx.setD, getO_set] at h
      split at h
      · exact .inl h
      · exact .inr h
  refine ⟨fun s g' h i hi => ?_, fun s g' i h hi => ?_, fun s g' i h hi => ?_⟩
  · rcases key s g' h with h | h
    · exact (hg g' h).1 i hi
    · exact wf.tg s g' h i hi
  · rcases key s g' h with h | h
    · rw [(hg g' h).2.1] at hi; cases hi
    · exact wf.gt s g' i h hi
  · rcases key s g' h with h | h
    · rw [(hg g' h).2.2] at hi; cases hi
    · exact wf.gf s g' i h hi

def fpR : Option (Sy × List Nat × Out) → FP
  | none => ⟨[], [], []⟩
  | some (_, _, r) => fpOf r

theorem stepOps_runs (hc : CxOk P cx) (htab : TabOk P cx.gl cx.tab) {all : List Oper} {ops : Array Oper} (hops : ops.toList = all) : ∀ (os : List Oper) (fs : List FP) (σ : Sy) (K : List FP → Sy → Prop), WfG σ → stepOps cx all os fs σ K → ∃ rs σ', Runs P cx.gl all os σ rs σ' ∧ WfG σ' ∧ K (fs ++ rs.map fpR) σ'
  | [], fs, σ, K, wf, h => ⟨[], σ, .nil σ, wf, by simpa [stepOps] using h⟩
  | o :: os, fs, σ, K, wf, h => by
    unfold stepOps at h
    split at h
    · exact h.elim
    · rename_i hg
      obtain ⟨rs, σ', h1, h2, h3⟩ := stepOps_runs hc htab hops os _ _ K (wf.setD o.dst none (by simp) σ.hp) h
      exact ⟨_, σ', .skip hg h1, h2, by simpa [fpR] using h3⟩
    · rename_i σ1 T hg
      obtain ⟨w1, _, _, _, w5, _⟩ := guardOf_some hops hg wf
      obtain ⟨r, hk, hl⟩ := stepAny_sound hc htab w1 h
      split at hk
      · rename_i he
        simp only [Bool.and_eq_true, Bool.or_eq_true, List.isEmpty_iff] at he
        obtain ⟨he, hte⟩ := he
        obtain ⟨rs, σ', h1, h2, h3⟩ := stepOps_runs hc htab hops os _ _ K (w1.setD o.dst (some ⟨T, none, none, r.v⟩) (by rintro g' ⟨⟩; exact ⟨w5, rfl, rfl⟩) _) hk
        exact ⟨_, σ', .step hg hl he hte h1, h2, by simpa [fpR] using h3⟩
      · exact hk.elim

theorem AgH_refl (hp : List Hl) (r : Out) : AgH hp (hfOf hp) r :=
  ⟨fun _ _ => rfl, fun _ _ _ cs h => ⟨cs, h, rfl, fun _ _ _ => rfl⟩, fun e _ => by cases e with
    | set h off vs => exact fun ty cs h => ⟨cs, h, rfl⟩
    | put h hl => rfl⟩

/-- The executor's state holds in a world. -/
structure StY (B : Bs) (N : Nat) (E : Env) (a : Act) (w : World) (σ : Sy) : Prop where
  st : St B N E a w (ffOf σ) (hfOf σ.hp)
  len : σ.fr.length = N
  wf : WfG σ
  ge : ∀ h, B.β0 h ≠ none ∨ B.τ0 h ≠ none ∨ B.ζ0 h ≠ none → h < σ.hp.length

theorem len_setD (fr : List (Option G)) (d : Option Nat) (g : Option G) : (setD fr d g).length = fr.length := by
  cases d with
  | none => rfl
  | some k => simp [setD, setN_eq]

theorem len_efH (hp : List Hl) (e : Ef) : hp.length ≤ (efH hp e).length := by
  cases e with
  | set h off vs =>
    simp only [efH]
    split
    · rw [setN_eq]; simp
    · exact Nat.le_refl _
  | put h hl =>
    simp only [efH, putH]
    split
    · simp
    · rw [setN_eq]; simp
theorem len_efsH : ∀ (es : List Ef) (hp : List Hl), hp.length ≤ (efsH hp es).length
  | [], _ => Nat.le_refl _
  | e :: es, hp => Nat.le_trans (len_efH hp e) (len_efsH es (efH hp e))

/-- Without a draw: the operations come in the order of the text. -/
theorem runs_wpList {gl : List (Nat × SV)} {all : List Oper} {ops : Array Oper} (hops : ops.toList = all) {B : Bs} {N : Nat} (hg : glOk B gl) {Q : Exit → Act → World → Prop} {os : List Oper} {σ σ' : Sy} {rs : List (Option (Sy × List Nat × Out))} (h : Runs P gl all os σ rs σ') :
    ∀ (E : Env) (a : Act) (w : World), StY B N E a w σ → (∀ E' a' w', StY B N E' a' w' σ' → Q .normal a' w') → wpList P ops Q os a w := by
  induction h with
  | nil σ => intro E a w hs hQ; exact hQ E a w hs
  | skip hgd h ih =>
    intro E a w hs hQ
    have hw := guardOf_skip hops hgd hs.st (fun _ _ _ _ _ => rfl)
    unfold wpList
    rw [if_neg (by simp [hw])]
    exact ih E _ w ⟨hs.st.setD hs.len _ _ none (by simp) _, by rw [len_setD]; exact hs.len, hs.wf.setD _ none (by simp) _, hs.ge⟩ hQ
  | @step o os σ σ1 σ' T r rs hgd hl he hte h ih =>
    intro E a w hs hQ
    obtain ⟨w1, w2, w3, w4, w5, _, _, w6⟩ := guardOf_some hops hgd hs.wf
    have hst : St B N E a w (ffOf σ1) (hfOf σ1.hp) := by rw [w2, w3]; exact hs.st
    have hwant := w6 B N E a w _ _ hs.st (fun _ _ _ _ _ => rfl)
    have hlen : σ1.fr.length = N := by rw [w4]; exact hs.len
    have hge : ∀ h, B.β0 h ≠ none ∨ B.τ0 h ≠ none ∨ B.ζ0 h ≠ none → h < (efsH σ1.hp r.efs).length := fun h hb => Nat.lt_of_lt_of_le (hs.ge h hb) (by rw [← w3]; exact len_efsH _ _)
    unfold wpList
    by_cases hT : allT (condsOf σ1.gm T)
    · rw [if_pos (hwant.2 hT)]
      refine .inl (hl B N E a w _ _ hg hst (fun _ _ => rfl) (AgH_refl _ _) hT _ _ fun v w' E' x1 x2 x3 x4 => ?_)
      refine ih E' _ w' ⟨?_, by rw [len_setD]; exact hlen, w1.setD _ _ (by rintro g' ⟨⟩; exact ⟨w5, rfl, rfl⟩) _, hge⟩ hQ
      have := hst.step x1 x2 x3
      rw [← hfOf_efsH _ _ he] at this
      exact this.setD hlen _ _ _ (by rintro g' ⟨⟩; exact ⟨fun _ => x4, fun h => absurd hT h⟩) _
    · rw [if_neg (fun h => hT (hwant.1 h))]
      refine ih E _ w ⟨?_, by rw [len_setD]; exact hlen, w1.setD _ _ (by rintro g' ⟨⟩; exact ⟨w5, rfl, rfl⟩) _, hge⟩ hQ
      have hef : r.efs = [] := by
        rcases hte with h | h
        · subst h; exact absurd trivial hT
        · exact h
      have := hst.setD hlen o.dst undef (some ⟨T, none, none, r.v⟩) (by rintro g' ⟨⟩; exact ⟨fun h => absurd h hT, fun _ => rfl⟩) (efsH σ1.hp r.efs)
      rw [hef] at this ⊢
      exact this

theorem wpList_region {id : Nat} {ops : Array Oper} {Q : Exit → Act → World → Prop} {a : Act} {w : World} (h : wpList P ops Q ops.toList a w) : (Code.region id ops false).wp P Q a w := wp_region_list h

/-! ### the end of a region -/

theorem getO_tidy : ∀ (fr : List (Option G)) (s : Nat), getO (tidy fr) s = match getO fr s with
    | some ⟨[], _, _, v⟩ => some ⟨[], none, none, v⟩
    | _ => none
  | [], s => by simp [tidy, getO]
  | g :: fr, s => by
    have ih := getO_tidy fr
    cases s with
    | zero =>
      cases g with
      | none => rfl
      | some g =>
        obtain ⟨tg, gt, gf, v⟩ := g
        cases tg <;> rfl
    | succ s =>
      cases g with
      | none => exact ih s
      | some g =>
        obtain ⟨tg, gt, gf, v⟩ := g
        cases tg <;> exact ih s

theorem len_tidy : ∀ (fr : List (Option G)), (tidy fr).length = fr.length
  | [] => rfl
  | g :: fr => by
    cases g with
    | none => simp [tidy, len_tidy fr]
    | some g =>
      obtain ⟨tg, gt, gf, v⟩ := g
      cases tg <;> simp [tidy, len_tidy fr]

theorem StY.tidy {B : Bs} {N : Nat} {E : Env} {a : Act} {w : World} {σ : Sy} (h : StY B N E a w σ) : StY B N E a w ⟨Sx.tidy σ.fr, σ.hp, []⟩ := by
  refine ⟨⟨h.st.base, h.st.heap, fun s => ?_, h.st.size, h.st.defers⟩, by rw [len_tidy]; exact h.len, ⟨fun s g hs => ?_, fun s g i hs hi => ?_, fun s g i hs hi => ?_⟩, h.ge⟩
  · have h1 := h.st.slot s
    simp only [ffOf, getO_tidy] at h1 ⊢
    cases hs : getO σ.fr s with
    | none => trivial
    | some g =>
      obtain ⟨tg, gt, gf, v⟩ := g
      rw [hs] at h1
      cases tg with
      | nil => exact h1
      | cons i tg => trivial
  all_goals
    simp only [getO_tidy] at hs
    split at hs
    · cases hs; simp at *
    · cases hs

end
end Go.Sx
/- Steps of the proof alone: rows are frozen, nil slices get a hold. -/
namespace Go.Sx
open Go

theorem thawL_eq (h : Nat) (x : SV) : ∀ (cs : List SV), thaw.thawL h x cs = cs.map (thaw h x)
  | [] => rfl
  | c :: cs => by simp [thaw.thawL, thawL_eq h x cs]

theorem RO.thaw {I : Nat → Nat → Prop} {w : World} {h : Nat} {x s : SV} {v : Value} (hr : RO I w s v) : RO I w (thaw h x s) v := by
  induction hr with
  | int h => exact .int h
  | bool h => exact .bool h
  | str h => exact .str h
  | nilp => exact .nilp
  | raw h => exact .raw h
  | fn h => exact .fn h
  | slnil h hn => exact .slnil h hn
  | sl g h hn hc hcm hs hl h1 hcell hrel => exact .sl g h hn hc hcm hs hl h1 hcell hrel
  | rptr g hs h1 hcell hrel => exact .rptr g hs h1 hcell hrel
  | rarr g hs hl h1 hcell hrel => exact .rarr g hs hl h1 hcell hrel
  | agg hl _ ih =>
    simp only [Sx.thaw, thawL_eq]
    refine .agg (by simpa using hl) fun i s v a b => ?_
    rw [List.getElem?_map] at a
    obtain ⟨s0, h0, rfl⟩ := Option.map_eq_some_iff.1 a
    exact ih i s0 v h0 b

theorem Rel.thaw {E E' : Env} {w : World} {h : Nat} {x s : SV} {v : Value} (hx : Ext E w E' w) (hm : ∀ v, Rel E w (.mrow h) v → Rel E' w x v) (hr : Rel E w s v) : Rel E' w (thaw h x s) v := by
  induction hr with
  | ro h => exact .ro (h.mono hx.I hx.cell).thaw
  | ptr hb hv => exact Rel.mono hx (.ptr hb hv)
  | gsl hr ht => exact Rel.mono hx (.gsl hr ht)
  | mrow hb hk hv =>
    simp only [Sx.thaw]
    split
    · rename_i e
      have e := beq_iff_eq.1 e
      subst e
      exact hm _ (.mrow hb hk hv)
    · exact Rel.mono hx (.mrow hb hk hv)
  | mptr hb hz hv => exact Rel.mono hx (.mptr hb hz hv)
  | osl ht hk => exact Rel.mono hx (.osl ht hk)
  | optr hv ho => exact Rel.mono hx (.optr hv ho)
  | agg hl _ ih =>
    simp only [Sx.thaw, thawL_eq]
    refine .agg (by simpa using hl) fun i s v a b => ?_
    rw [List.getElem?_map] at a
    obtain ⟨s0, h0, rfl⟩ := Option.map_eq_some_iff.1 a
    exact ih i s0 v h0 b
  | tup hl _ ih =>
    simp only [Sx.thaw, thawL_eq]
    refine .tup (by simpa using hl) fun i s v a b => ?_
    rw [List.getElem?_map] at a
    obtain ⟨s0, h0, rfl⟩ := Option.map_eq_some_iff.1 a
    exact ih i s0 v h0 b
  | clo hl _ ih =>
    simp only [Sx.thaw, thawL_eq]
    refine .clo (by simpa using hl) fun i s v a b => ?_
    rw [List.getElem?_map] at a
    obtain ⟨s0, h0, rfl⟩ := Option.map_eq_some_iff.1 a
    exact ih i s0 v h0 b

theorem getO_thawFr (h : Nat) (x : SV) : ∀ (fr : List (Option G)) (s : Nat), getO (thawFr h x fr) s = (getO fr s).map fun g => ⟨g.tg, g.gt, g.gf, thaw h x g.v⟩
  | [], s => by simp [thawFr, getO]
  | some g :: fr, 0 => rfl
  | none :: fr, 0 => rfl
  | some g :: fr, s + 1 => by simp only [thawFr, getO]; exact getO_thawFr h x fr s
  | none :: fr, s + 1 => by simp only [thawFr, getO]; exact getO_thawFr h x fr s
theorem len_thawFr (h : Nat) (x : SV) : ∀ (fr : List (Option G)), (thawFr h x fr).length = fr.length
  | [] => rfl
  | some g :: fr => by simp [thawFr, len_thawFr h x fr]
  | none :: fr => by simp [thawFr, len_thawFr h x fr]

def thawHl (h : Nat) (x : SV) : Hl → Hl
  | .blk ty cs => .blk ty (cs.map (thaw h x))
  | l => l
theorem thawH_eq (h : Nat) (x : SV) : ∀ (hp : List Hl), thawH h x hp = hp.map (thawHl h x)
  | [] => rfl
  | l :: hp => by cases l <;> simp [thawH, thawHl, thawL_eq, thawH_eq h x hp]

theorem StY.freeze {cx : Cx} {B : Bs} {N : Nat} {E : Env} {a : Act} {w : World} {σ σ' : Sy} {s : Nat} (hs : StY B N E a w σ) (h : ghost cx σ (.freeze s) = some σ') : ∃ E', StY B N E' a w σ' := by
  simp only [ghost] at h
  split at h
  · rename_i gt gf hd hslot
    split at h
    · rename_i ty n sz f hh
      cases h
      have hk := hs.st.heap hd
      rw [nth_hf hh] at hk
      obtain ⟨b, C, m, k1, k2, k3, k4, k5, k6, k7, ⟨r1, r2, r3, r4⟩, k9⟩ := hk
      have hbase := hs.st.base
      let E' : Env := ⟨E.β, E.τ, E.O, E.κ, E.ζ, fun b' o => E.I b' o ∨ (b' = b ∧ o < m * sz)⟩
      have hx : Ext E w E' w := ⟨fun _ _ h => h, fun _ _ h => .inl h, fun _ _ h => h, fun _ _ h => h, fun _ _ h => .inl h, fun _ _ _ => rfl⟩
      have hcell : ∀ o, w.cell? ⟨b, o, none⟩ = C[o]? := fun o => cell_of_row w b o C ty (0, 0) k5
      have hm : ∀ v, Rel E w (.mrow hd) v → Rel E' w (.sl (.l false) n sz f) v := by
        intro v hv
        obtain ⟨b', m', e1, e2, rfl⟩ := hv.mrow_inv
        obtain rfl : b = b' := Option.some.inj (k1.symm.trans e1)
        obtain rfl : m = m' := Option.some.inj (k2.symm.trans e2)
        have hidx : ∀ i j, i < m → j < sz → i * sz + j < m * sz := by
          intro i j hi hj
          have : (i + 1) * sz ≤ m * sz := Nat.mul_le_mul_right _ hi
          rw [Nat.add_mul] at this
          omega
        have hC : ∀ i j, i < m → j < sz → C[i * sz + j]? = some (C.getD (i * sz + j) undef) := by
          intro i j hi hj
          have := hidx i j hi hj
          rw [← r1] at this
          rw [Array.getD_eq_getD_getElem?, Array.getElem?_eq_getElem this]; rfl
        refine .ro (.sl (fun i j => C.getD (i * sz + j) undef) rfl k6 (Nat.le_refl _) k7 (fun _ => rfl) r2 (fun i j hi hj => r4 _ (Array.mem_of_getElem? (hC i j hi hj))) (fun i j hi hj => ⟨?_, ?_⟩) (fun i j s hi hs => ?_))
        · simp only [Nat.zero_add]; rw [hcell, hC i j hi hj]
        · simp only [Nat.zero_add]; exact .inr ⟨rfl, hidx i j hi hj⟩
        · have hj : j < sz := by rw [← r2 i hi]; exact (List.getElem?_eq_some_iff.1 hs).1
          exact (r3 i j s _ hi hs (hC i j hi hj)).mono hx.I hx.cell
      refine ⟨E', ⟨⟨⟨hbase.os, hbase.tape, hbase.output, hbase.size, hbase.old, fun b' o hi => ?_, fun b' o hi => ?_, fun b' o hi => ?_, hbase.Obd, hbase.β0.ext hx⟩, fun k => ?_, fun q => ?_, hs.st.size, hs.st.defers⟩, by show (thawFr _ _ _).length = N; rw [len_thawFr]; exact hs.len, ⟨fun q g hq i hi => ?_, fun q g i hq hi => ?_, fun q g i hq hi => ?_⟩, fun k hk => ?_⟩⟩
      · obtain ⟨i1, i2⟩ := hbase.I0 b' o hi; exact ⟨.inl i1, i2⟩
      · rcases hi with hi | ⟨rfl, _⟩
        · exact hbase.Ibd b' o hi
        · exact owned_lt hbase k4
      · rcases hi with hi | ⟨rfl, _⟩
        · exact hbase.Inew b' o hi
        · exact .inr (hbase.Obd b' hd k4).2
      · simp only [hfOf, nth_eq, setN_eq, thawH_eq]
        by_cases e : k = hd
        · subst e
          rw [List.getElem?_set]
          simp only [if_pos]
          split
          · trivial
          · have : k < σ.hp.length := by rw [nth_eq] at hh; exact (List.getElem?_eq_some_iff.1 hh).1
            rename_i hno
            exact absurd (by simpa using this) hno
        · rw [List.getElem?_set_ne (fun h => e h.symm), List.getElem?_map]
          have hkk := hs.st.heap k
          simp only [hfOf, nth_eq] at hkk
          have hO : ∀ b', E.O b' = some k → E'.O b' = some k ∧ w.heap[b']? = w.heap[b']? ∧ ∀ o, E'.I b' o → E.I b' o := by
            intro b' hO
            refine ⟨hO, rfl, fun o hi => ?_⟩
            rcases hi with hi | ⟨rfl, _⟩
            · exact hi
            · rw [k4] at hO; exact absurd (Option.some.inj hO).symm e
          cases hl : σ.hp[k]? with
          | none =>
            rw [hl] at hkk
            exact HOk.keep hx hkk rfl rfl rfl rfl hO
          | some l =>
            rw [hl] at hkk
            simp only [Option.map_some, Option.getD_some] at hkk ⊢
            cases l with
            | blk ty' cs =>
              obtain ⟨b', C', q1, q2, q3, q4, q5, q6⟩ := hkk.blk_inv
              have hn : RelL E' w (cs.map (thaw hd (.sl (.l false) n sz f))) C'.toList := q4.map _ fun s v _ h => h.thaw hx hm
              exact ⟨b', C', q1, q2, q3, by have := hn.1; simpa using this.symm, fun i s v p q => hn.2 i s v p (by simpa using q), fun v hv => q5 v (by simpa using hv), fun o hi => q6 o ((hO b' q2).2.2 o hi)⟩
            | _ => exact HOk.keep hx hkk rfl rfl rfl rfl hO
      · simp only [ffOf, getO_thawFr]
        have hsl := hs.st.slot q
        simp only [ffOf] at hsl
        cases hg : getO σ.fr q with
        | none => trivial
        | some g =>
          rw [hg] at hsl
          simp only [Option.map_some, SlotOk] at hsl ⊢
          exact ⟨hsl.1, fun hc => (hsl.2.1 hc).thaw hx hm, hsl.2.2⟩
      · have hq : getO (thawFr hd (.sl (.l false) n sz f) σ.fr) q = some g := hq
        rw [getO_thawFr] at hq
        obtain ⟨g0, h0, rfl⟩ := Option.map_eq_some_iff.1 hq
        exact hs.wf.tg q g0 h0 i hi
      · have hq : getO (thawFr hd (.sl (.l false) n sz f) σ.fr) q = some g := hq
        rw [getO_thawFr] at hq
        obtain ⟨g0, h0, rfl⟩ := Option.map_eq_some_iff.1 hq
        obtain ⟨c, c1, c2⟩ := hs.wf.gt q g0 i h0 hi
        exact ⟨c, by simp only [c1]; rfl, c2⟩
      · have hq : getO (thawFr hd (.sl (.l false) n sz f) σ.fr) q = some g := hq
        rw [getO_thawFr] at hq
        obtain ⟨g0, h0, rfl⟩ := Option.map_eq_some_iff.1 hq
        obtain ⟨c, c1, c2⟩ := hs.wf.gf q g0 i h0 hi
        exact ⟨c, by simp only [c1]; rfl, c2⟩
      · simp only [setN_eq, thawH_eq, List.length_set, List.length_map]
        exact hs.ge k hk
    · cases h
  · cases h

theorem StY.attach {cx : Cx} {B : Bs} {N : Nat} {E : Env} {a : Act} {w : World} {σ σ' : Sy} {s : Nat} {e : TypeId} (hs : StY B N E a w σ) (h : ghost cx σ (.attach s e) = some σ') : ∃ E', StY B N E' a w σ' := by
  simp only [ghost] at h
  split at h
  · rename_i gt gf sz f hslot
    split at h
    · split at h
      · cases h
        have hbase := hs.st.base
        have hfr : HOk E w (lenN σ.hp) .fresh := by
          have := hs.st.heap (lenN σ.hp)
          simpa only [hfOf, nth_eq, lenN_eq, List.getElem?_eq_none (Nat.le_refl _), Option.getD_none] using this
        obtain ⟨f1, f2, f3, f4⟩ := hfr
        let E' : Env := ⟨E.β, upd E.τ (lenN σ.hp) (some (.slice none 0 0)), E.O, E.κ, E.ζ, E.I⟩
        have hx : Ext E w E' w := by
          refine ⟨fun _ _ h => h, fun k v hk => .inl ?_, fun _ _ h => h, fun _ _ h => h, fun _ _ h => h, fun _ _ _ => rfl⟩
          show upd E.τ (lenN σ.hp) (some (.slice none 0 0)) k = some v
          unfold upd
          by_cases e : k = lenN σ.hp
          · subst e; rw [f2] at hk; cases hk
          · rw [if_neg e]; exact hk
        have hlt : s < σ.fr.length := by
          rcases Nat.lt_or_ge s σ.fr.length with h | h
          · exact h
          · rw [getO_eq, List.getElem?_eq_none h] at hslot; cases hslot
        let g0 : G := ⟨[], none, none, .gsl (.l true) (.l 0) sz f (lenN σ.hp)⟩
        have hget : ∀ k, getO (setN σ.fr s (some g0)) k = if k = s then some g0 else getO σ.fr k := fun k => by
          rw [getO_set]
          by_cases e : k = s
          · rw [if_pos ⟨e, hlt⟩, if_pos e]
          · rw [if_neg (fun h => e h.1), if_neg e]
        refine ⟨E', ⟨⟨⟨hbase.os, hbase.tape, hbase.output, hbase.size, hbase.old, hbase.I0, hbase.Ibd, hbase.Inew, hbase.Obd, hbase.β0.ext hx⟩, fun k => ?_, fun q => ?_, hs.st.size, hs.st.defers⟩, by show (setN σ.fr s _).length = N; rw [setN_eq, List.length_set]; exact hs.len, ⟨fun q g hq i hi => ?_, fun q g i hq hi => ?_, fun q g i hq hi => ?_⟩, fun k hk => ?_⟩⟩
        · have hkk := hs.st.heap k
          simp only [hfOf, nth_eq] at hkk ⊢
          rcases Nat.lt_trichotomy k σ.hp.length with h | h | h
          · rw [List.getElem?_append_left h]
            exact HOk.keep hx hkk rfl (by simp [E', upd, lenN_eq, Nat.ne_of_lt h]) rfl rfl fun b hO => ⟨hO, rfl, fun _ h => h⟩
          · subst h
            rw [List.getElem?_append_right (Nat.le_refl _)]
            simp only [Nat.sub_self, List.getElem?_cons_zero, Option.getD_some]
            exact ⟨.slice none 0 0, 0, [], by simp [E', upd, lenN_eq], World.ownsRow_nil w 0 _ sz, rfl, by simp, fun b hb => by simp [Value.ownBlock] at hb⟩
          · rw [List.getElem?_eq_none (by simp; omega)]
            rw [List.getElem?_eq_none (by omega)] at hkk
            exact HOk.keep hx hkk rfl (by simp [E', upd, lenN_eq, Nat.ne_of_gt h]) rfl rfl fun b hO => ⟨hO, rfl, fun _ h => h⟩
        · have hsl := hs.st.slot q
          show SlotOk E' w a q ((getO (setN σ.fr s (some g0)) q).map fun g => (condsOf σ.gm g.tg, g.v))
          rw [hget]
          simp only [ffOf] at hsl
          by_cases e : q = s
          · subst e
            rw [if_pos rfl]
            rw [hslot] at hsl
            simp only [Option.map_some, SlotOk, condsOf, List.filterMap_nil, allT, g0] at hsl ⊢
            refine ⟨hsl.1, fun _ => ?_, fun h => absurd trivial h⟩
            have hr := (hsl.2.1 trivial).sl_inv
            have hr' := hr.mono hx.I hx.cell
            rcases hr.sl_inv with ⟨e1, _, _⟩ | ⟨_, _, _, _, _, e1, _⟩
            · rw [e1] at hr' ⊢
              exact .gsl hr' ⟨none, 0, 0, by simp [E', upd], by simp [ST.den], fun _ => rfl⟩
            · simp [BT.den] at e1
          · rw [if_neg e]
            cases hg : getO σ.fr q with
            | none => trivial
            | some g =>
              rw [hg] at hsl
              simp only [Option.map_some, SlotOk] at hsl ⊢
              exact ⟨hsl.1, fun hc => (hsl.2.1 hc).mono hx, hsl.2.2⟩
        · have hq : getO (setN σ.fr s (some g0)) q = some g := hq
          rw [hget] at hq
          split at hq
          · cases hq; cases hi
          · exact hs.wf.tg q g hq i hi
        · have hq : getO (setN σ.fr s (some g0)) q = some g := hq
          rw [hget] at hq
          split at hq
          · cases hq; cases hi
          · exact hs.wf.gt q g i hq hi
        · have hq : getO (setN σ.fr s (some g0)) q = some g := hq
          rw [hget] at hq
          split at hq
          · cases hq; cases hi
          · exact hs.wf.gf q g i hq hi
        · have := hs.ge k hk
          simp only [List.length_append]
          omega
      · cases h
    · cases h
  · cases h

theorem StY.own {cx : Cx} {B : Bs} {N : Nat} {E : Env} {a : Act} {w : World} {σ σ' : Sy} {s : Nat} {e : TypeId} (hs : StY B N E a w σ) (h : ghost cx σ (.own s e) = some σ') : ∃ E', StY B N E' a w σ' := by
  simp only [ghost] at h
  split at h
  · rename_i gt gf sz f hslot
    split at h
    · split at h
      · cases h
        have hbase := hs.st.base
        have hfr : HOk E w (lenN σ.hp) .fresh := by
          have := hs.st.heap (lenN σ.hp)
          simpa only [hfOf, nth_eq, lenN_eq, List.getElem?_eq_none (Nat.le_refl _), Option.getD_none] using this
        obtain ⟨f1, f2, f3, f4⟩ := hfr
        let E' : Env := ⟨E.β, upd E.τ (lenN σ.hp) (some (.slice none 0 0)), E.O, E.κ, upd E.ζ (lenN σ.hp) (some sz), E.I⟩
        have hx : Ext E w E' w := by
          refine ⟨fun _ _ h => h, fun k v hk => .inl ?_, fun _ _ h => h, fun k z hk => ?_, fun _ _ h => h, fun _ _ _ => rfl⟩
          · show upd E.τ (lenN σ.hp) (some (.slice none 0 0)) k = some v
            unfold upd
            by_cases e : k = lenN σ.hp
            · subst e; rw [f2] at hk; cases hk
            · rw [if_neg e]; exact hk
          · show upd E.ζ (lenN σ.hp) (some sz) k = some z
            unfold upd
            by_cases e : k = lenN σ.hp
            · subst e; rw [f4] at hk; cases hk
            · rw [if_neg e]; exact hk
        have hlt : s < σ.fr.length := by
          rcases Nat.lt_or_ge s σ.fr.length with h | h
          · exact h
          · rw [getO_eq, List.getElem?_eq_none h] at hslot; cases hslot
        let g0 : G := ⟨[], none, none, .osl (.l true) (.l 0) (lenN σ.hp)⟩
        have hget : ∀ k, getO (setN σ.fr s (some g0)) k = if k = s then some g0 else getO σ.fr k := fun k => by
          rw [getO_set]
          by_cases e : k = s
          · rw [if_pos ⟨e, hlt⟩, if_pos e]
          · rw [if_neg (fun h => e h.1), if_neg e]
        refine ⟨E', ⟨⟨⟨hbase.os, hbase.tape, hbase.output, hbase.size, hbase.old, hbase.I0, hbase.Ibd, hbase.Inew, hbase.Obd, hbase.β0.ext hx⟩, fun k => ?_, fun q => ?_, hs.st.size, hs.st.defers⟩, by show (setN σ.fr s _).length = N; rw [setN_eq, List.length_set]; exact hs.len, ⟨fun q g hq i hi => ?_, fun q g i hq hi => ?_, fun q g i hq hi => ?_⟩, fun k hk => ?_⟩⟩
        · have hkk := hs.st.heap k
          simp only [hfOf, nth_eq] at hkk ⊢
          rcases Nat.lt_trichotomy k σ.hp.length with h | h | h
          · rw [List.getElem?_append_left h]
            exact HOk.keep hx hkk rfl (by simp [E', upd, lenN_eq, Nat.ne_of_lt h]) rfl (by simp [E', upd, lenN_eq, Nat.ne_of_lt h]) fun b hO => ⟨hO, rfl, fun _ h => h⟩
          · subst h
            rw [List.getElem?_append_right (Nat.le_refl _)]
            simp only [Nat.sub_self, List.getElem?_cons_zero, Option.getD_some]
            exact ⟨.slice none 0 0, 0, [], by simp [E', upd, lenN_eq], by simp [E', upd, lenN_eq], ⟨by simp, .inl ⟨rfl, rfl⟩⟩, rfl, by simp, ⟨by intro i hi; omega, by intro i j s u hi; omega⟩, fun b hb => by simp [Value.ownBlock] at hb⟩
          · rw [List.getElem?_eq_none (by simp; omega)]
            rw [List.getElem?_eq_none (by omega)] at hkk
            exact HOk.keep hx hkk rfl (by simp [E', upd, lenN_eq, Nat.ne_of_gt h]) rfl (by simp [E', upd, lenN_eq, Nat.ne_of_gt h]) fun b hO => ⟨hO, rfl, fun _ h => h⟩
        · have hsl := hs.st.slot q
          show SlotOk E' w a q ((getO (setN σ.fr s (some g0)) q).map fun g => (condsOf σ.gm g.tg, g.v))
          rw [hget]
          simp only [ffOf] at hsl
          by_cases e : q = s
          · subst e
            rw [if_pos rfl]
            rw [hslot] at hsl
            simp only [Option.map_some, SlotOk, condsOf, List.filterMap_nil, allT, g0] at hsl ⊢
            refine ⟨hsl.1, fun _ => ?_, fun h => absurd trivial h⟩
            have hr := (hsl.2.1 trivial).sl_inv
            rcases hr.sl_inv with ⟨e1, _, _⟩ | ⟨_, _, _, _, _, e1, _⟩
            · rw [e1]
              exact .osl ⟨none, 0, 0, rfl, rfl, by simp [BT.den]⟩ ⟨none, 0, 0, by simp [E', upd], by simp [ST.den], fun _ => rfl⟩
            · simp [BT.den] at e1
          · rw [if_neg e]
            cases hg : getO σ.fr q with
            | none => trivial
            | some g =>
              rw [hg] at hsl
              simp only [Option.map_some, SlotOk] at hsl ⊢
              exact ⟨hsl.1, fun hc => (hsl.2.1 hc).mono hx, hsl.2.2⟩
        · have hq : getO (setN σ.fr s (some g0)) q = some g := hq
          rw [hget] at hq
          split at hq
          · cases hq; cases hi
          · exact hs.wf.tg q g hq i hi
        · have hq : getO (setN σ.fr s (some g0)) q = some g := hq
          rw [hget] at hq
          split at hq
          · cases hq; cases hi
          · exact hs.wf.gt q g i hq hi
        · have hq : getO (setN σ.fr s (some g0)) q = some g := hq
          rw [hget] at hq
          split at hq
          · cases hq; cases hi
          · exact hs.wf.gf q g i hq hi
        · have := hs.ge k hk
          simp only [List.length_append]
          omega
      · cases h
    · cases h
  · cases h

/-- An owned row is read from now on. -/
theorem own_RO {E : Env} {w : World} {h : Nat} {nl : BT} {n n0 : ST} {ty : TypeId} {sz : Nat} {gr : Bool} {f : Nat → List SV} {u v : Value} {m : Nat} {xs : List Value} (hr : Rel E w (.osl nl n h) u) (hτ : E.τ h = some v) (hown : ownsW w gr ty sz v m xs) (hn0 : n0.den = (m : Int)) (he : n.den = n0.den)
    (h1 : ∀ u ∈ xs, u.oneCell' = true) (hrow : rowIn E w f m sz xs) : RO (fun b o => E.I b o ∨ (v.ownBlock = some b ∧ o < m * sz)) w (.sl nl n sz f) u := by
  obtain ⟨hu, hnl⟩ := osl_val hr hτ hown hn0 he
  subst hu
  have hn : n.den = (m : Int) := by rw [he, hn0]
  rcases hown.2 with ⟨e0, e1⟩ | ⟨b, cap, cur, fr, e0, hg2, hfr, hmc, hcm, hcs, htake⟩
  · rw [e0]
    exact .slnil (hnl.2 e0) (by rw [hn, e1]; rfl)
  · have hidx : ∀ i j, i < m → j < sz → i * sz + j < m * sz := by
      intro i j hi hj
      have : (i + 1) * sz ≤ m * sz := Nat.mul_le_mul_right _ hi
      rw [Nat.add_mul] at this
      omega
    have hxs : ∀ i j, i < m → j < sz → xs[i * sz + j]? = some (xs.getD (i * sz + j) undef) := by
      intro i j hi hj
      have := hidx i j hi hj
      rw [← hown.1] at this
      rw [List.getD_eq_getElem?_getD, List.getElem?_eq_getElem this]; rfl
    rw [e0]
    refine .sl (fun i j => xs.getD (i * sz + j) undef) ?_ hn hmc hcm (fun _ => rfl) hrow.1 (fun i j hi hj => h1 _ (List.mem_of_getElem? (hxs i j hi hj))) (fun i j hi hj => ⟨?_, ?_⟩) (fun i j s hi hs => ?_)
    · cases hb : nl.den with
      | false => rfl
      | true => rw [hnl.1 hb] at e0; simp at e0
    · simp only [Nat.zero_add]
      rw [cell_of_row w b _ cur ty fr hg2, ← hxs i j hi hj, ← htake, List.getElem?_take, if_pos (hidx i j hi hj)]
      simp
    · simp only [Nat.zero_add]
      exact .inr ⟨rfl, hidx i j hi hj⟩
    · have hj : j < sz := by rw [← hrow.1 i hi]; exact (List.getElem?_eq_some_iff.1 hs).1
      exact (hrow.2 i j s _ hi hs (hxs i j hi hj)).mono (fun b o h => .inl h) (fun _ _ _ => rfl)

theorem StY.share {cx : Cx} {B : Bs} {N : Nat} {E : Env} {a : Act} {w : World} {σ σ' : Sy} {s : Nat} (hD : cx.D = dn) (hs : StY B N E a w σ) (hp : ghostP cx σ (.share s)) (h : ghost cx σ (.share s) = some σ') : ∃ E', StY B N E' a w σ' := by
  simp only [ghost] at h
  simp only [ghostP] at hp
  split at h
  · rename_i gt gf nl n hd hslot
    rw [hslot] at hp
    simp only at hp
    split at h
    · rename_i ty n0 sz gr f hh
      rw [hh] at hp
      simp only at hp
      rw [hD] at hp
      have hp : n.den = n0.den := hp.h
      cases h
      have hbase := hs.st.base
      have hk := hs.st.heap hd
      rw [nth_hf hh] at hk
      obtain ⟨v, m, xs, k1, kz, k2, k3, k4, k5, k6⟩ := hk
      let E' : Env := ⟨E.β, E.τ, E.O, E.κ, E.ζ, fun b o => E.I b o ∨ (v.ownBlock = some b ∧ o < m * sz)⟩
      have hx : Ext E w E' w := ⟨fun _ _ h => h, fun _ _ h => .inl h, fun _ _ h => h, fun _ _ h => h, fun _ _ h => .inl h, fun _ _ _ => rfl⟩
      have hlt : s < σ.fr.length := by
        rcases Nat.lt_or_ge s σ.fr.length with h | h
        · exact h
        · rw [getO_eq, List.getElem?_eq_none h] at hslot; cases hslot
      let g0 : G := ⟨[], none, none, .sl nl n sz f⟩
      have hget : ∀ k, getO (setN σ.fr s (some g0)) k = if k = s then some g0 else getO σ.fr k := fun k => by
        rw [getO_set]
        by_cases e : k = s
        · rw [if_pos ⟨e, hlt⟩, if_pos e]
        · rw [if_neg (fun h => e h.1), if_neg e]
      refine ⟨E', ⟨⟨⟨hbase.os, hbase.tape, hbase.output, hbase.size, hbase.old, fun b' o hi => ?_, fun b' o hi => ?_, fun b' o hi => ?_, hbase.Obd, hbase.β0.ext hx⟩, fun k => ?_, fun q => ?_, hs.st.size, hs.st.defers⟩, by show (setN σ.fr s _).length = N; rw [setN_eq, List.length_set]; exact hs.len, ⟨fun q g hq i hi => ?_, fun q g i hq hi => ?_, fun q g i hq hi => ?_⟩, fun k hk => ?_⟩⟩
      · obtain ⟨i1, i2⟩ := hbase.I0 b' o hi; exact ⟨.inl i1, i2⟩
      · rcases hi with hi | ⟨hb, _⟩
        · exact hbase.Ibd b' o hi
        · exact owned_lt hbase (k6 b' hb).1
      · rcases hi with hi | ⟨hb, _⟩
        · exact hbase.Inew b' o hi
        · exact .inr (hbase.Obd b' hd (k6 b' hb).1).2
      · simp only [hfOf, nth_eq, setN_eq]
        by_cases e : k = hd
        · subst e
          rw [List.getElem?_set]
          simp only [if_pos]
          split
          · trivial
          · have : k < σ.hp.length := by rw [nth_eq] at hh; exact (List.getElem?_eq_some_iff.1 hh).1
            rename_i hno
            exact absurd (by simpa using this) hno
        · rw [List.getElem?_set_ne (fun h => e h.symm)]
          have hkk := hs.st.heap k
          simp only [hfOf, nth_eq] at hkk
          refine HOk.keep hx hkk rfl rfl rfl rfl fun b' hO => ⟨hO, rfl, fun o hi => ?_⟩
          rcases hi with hi | ⟨hb, _⟩
          · exact hi
          · rw [(k6 b' hb).1] at hO; exact absurd (Option.some.inj hO).symm e
      · have hsl := hs.st.slot q
        show SlotOk E' w a q ((getO (setN σ.fr s (some g0)) q).map fun g => (condsOf σ.gm g.tg, g.v))
        rw [hget]
        simp only [ffOf] at hsl
        by_cases e : q = s
        · subst e
          rw [if_pos rfl]
          rw [hslot] at hsl
          simp only [Option.map_some, SlotOk, condsOf, List.filterMap_nil, allT, g0] at hsl ⊢
          exact ⟨hsl.1, fun _ => .ro (own_RO (hsl.2.1 trivial) k1 k2 k3 hp k4 k5), fun h => absurd trivial h⟩
        · rw [if_neg e]
          cases hg : getO σ.fr q with
          | none => trivial
          | some g =>
            rw [hg] at hsl
            simp only [Option.map_some, SlotOk] at hsl ⊢
            exact ⟨hsl.1, fun hc => (hsl.2.1 hc).mono hx, hsl.2.2⟩
      · have hq : getO (setN σ.fr s (some g0)) q = some g := hq
        rw [hget] at hq
        split at hq
        · cases hq; cases hi
        · exact hs.wf.tg q g hq i hi
      · have hq : getO (setN σ.fr s (some g0)) q = some g := hq
        rw [hget] at hq
        split at hq
        · cases hq; cases hi
        · exact hs.wf.gt q g i hq hi
      · have hq : getO (setN σ.fr s (some g0)) q = some g := hq
        rw [hget] at hq
        split at hq
        · cases hq; cases hi
        · exact hs.wf.gf q g i hq hi
      · simp only [setN_eq, List.length_set]
        exact hs.ge k hk
    · cases h
  · cases h

theorem StY.bld {cx : Cx} {B : Bs} {N : Nat} {E : Env} {a : Act} {w : World} {σ σ' : Sy} {s e : Nat} (hs : StY B N E a w σ) (h : ghost cx σ (.bld s e) = some σ') : ∃ E', StY B N E' a w σ' := by
  simp only [ghost] at h
  split at h
  · rename_i gt gf hd hslot
    split at h
    · rename_i T f hh
      cases h
      have hbase := hs.st.base
      have hk := hs.st.heap hd
      rw [nth_hf hh] at hk
      obtain ⟨b, C, k1, k2, k3, k4, k5, k6⟩ := hk.blk_inv
      refine ⟨E, ⟨⟨hbase, fun k => ?_, hs.st.slot, hs.st.size, hs.st.defers⟩, hs.len, ⟨hs.wf.tg, hs.wf.gt, hs.wf.gf⟩, fun k hk => ?_⟩⟩
      · simp only [hfOf, nth_eq, setN_eq]
        by_cases e : k = hd
        · subst e
          have hlt : k < σ.hp.length := by rw [nth_eq] at hh; exact (List.getElem?_eq_some_iff.1 hh).1
          rw [List.getElem?_set_self hlt]
          simp only [Option.getD_some]
          match hC : C.toList, k4 with
          | [p, v], k4 =>
            have hp : p = .pointer none := by
              have := k4.2 0 .nilp p rfl rfl
              cases this with
              | ro h => cases h; rfl
            have hv : v = .slice none 0 0 := by
              have := (k4.2 1 _ v rfl rfl).sl_inv
              rcases this.sl_inv with ⟨e1, _⟩ | ⟨_, _, _, _, _, e1, _⟩
              · exact e1
              · simp [BT.den] at e1
            subst hp hv
            have hCe : C = #[.pointer none, .slice none 0 0] := by apply Array.ext'; rw [hC]
            exact ⟨b, .pointer none, .slice none 0 0, k1, k2, .inl rfl, by rw [k3, hCe], World.ownsRow_nil w 0 _ 1, by simp [Value.ownBlock], k6, by simp [Value.ownBlock]⟩
          | [], k4 => exact absurd k4.1 (by simp)
          | [_], k4 => exact absurd k4.1 (by simp)
          | _ :: _ :: _ :: _, k4 => exact absurd k4.1 (by simp)
        · rw [List.getElem?_set_ne (fun h => e h.symm)]
          have hkk := hs.st.heap k
          simp only [hfOf, nth_eq] at hkk
          exact hkk
      · simp only [setN_eq, List.length_set]
        exact hs.ge k hk
    · cases h
  · cases h

theorem StY.hold {cx : Cx} {B : Bs} {N : Nat} {E : Env} {a : Act} {w : World} {σ σ' : Sy} {s k0 e : Nat} (hs : StY B N E a w σ) (h : ghost cx σ (.hold s k0 e) = some σ') : ∃ E', StY B N E' a w σ' := by
  simp only [ghost] at h
  split at h
  · rename_i gt gf hd hslot
    split at h
    · rename_i T cs hh
      split at h
      · rename_i sz f sz' hcs hsz
        split at h
        · cases h
          have hbase := hs.st.base
          have hfr : HOk E w (lenN σ.hp) .fresh := by
            have := hs.st.heap (lenN σ.hp)
            simpa only [hfOf, nth_eq, lenN_eq, List.getElem?_eq_none (Nat.le_refl _), Option.getD_none] using this
          obtain ⟨f1, f2, f3, f4⟩ := hfr
          let E' : Env := ⟨E.β, upd E.τ (lenN σ.hp) (some (.slice none 0 0)), E.O, E.κ, E.ζ, E.I⟩
          have hx : Ext E w E' w := by
            refine ⟨fun _ _ h => h, fun k v hk => .inl ?_, fun _ _ h => h, fun _ _ h => h, fun _ _ h => h, fun _ _ _ => rfl⟩
            show upd E.τ (lenN σ.hp) (some (.slice none 0 0)) k = some v
            unfold upd
            by_cases e : k = lenN σ.hp
            · subst e; rw [f2] at hk; cases hk
            · rw [if_neg e]; exact hk
          have hlt : hd < σ.hp.length := by rw [nth_eq] at hh; exact (List.getElem?_eq_some_iff.1 hh).1
          have hk := hs.st.heap hd
          rw [nth_hf hh] at hk
          obtain ⟨b, C, k1, k2, k3, k4, k5, k7, k8⟩ := hk
          refine ⟨E', ⟨⟨⟨hbase.os, hbase.tape, hbase.output, hbase.size, hbase.old, hbase.I0, hbase.Ibd, hbase.Inew, hbase.Obd, hbase.β0.ext hx⟩, fun k => ?_, fun q => ?_, hs.st.size, hs.st.defers⟩, hs.len, ⟨hs.wf.tg, hs.wf.gt, hs.wf.gf⟩, fun k hk => ?_⟩⟩
          · have hkk := hs.st.heap k
            simp only [hfOf, nth_eq, setN_eq] at hkk ⊢
            rcases Nat.lt_trichotomy k σ.hp.length with h | h | h
            · rw [List.getElem?_append_left (by simpa using h)]
              by_cases e : k = hd
              · subst e
                rw [List.getElem?_set_self hlt]
                simp only [Option.getD_some]
                refine ⟨b, C, k1, k2, k3, by rw [List.length_set]; exact k4, fun i s' v a c => ?_, k7, k8⟩
                rw [List.getElem?_set] at a
                rw [nth_eq] at hcs
                split at a
                · rename_i hik
                  split at a
                  · cases a
                    subst hik
                    have hr := (k5 k0 _ v hcs c).sl_inv
                    have hr' := hr.mono hx.I hx.cell
                    rcases hr.sl_inv with ⟨e1, _, _⟩ | ⟨_, _, _, _, _, e1, _⟩
                    · rw [e1] at hr' ⊢
                      exact .gsl hr' ⟨none, 0, 0, by simp [E', upd], by simp [ST.den], fun _ => rfl⟩
                    · simp [BT.den] at e1
                  · cases a
                · exact (k5 i s' v a c).mono hx
              · rw [List.getElem?_set_ne (fun h => e h.symm)]
                exact HOk.keep hx hkk rfl (by simp [E', upd, lenN_eq, Nat.ne_of_lt h]) rfl rfl fun b hO => ⟨hO, rfl, fun _ h => h⟩
            · subst h
              rw [List.getElem?_append_right (by simp)]
              simp only [List.length_set, Nat.sub_self, List.getElem?_cons_zero, Option.getD_some]
              exact ⟨.slice none 0 0, 0, [], by simp [E', upd, lenN_eq], World.ownsRow_nil w 0 _ sz, rfl, by simp, fun b hb => by simp [Value.ownBlock] at hb⟩
            · rw [List.getElem?_eq_none (by simp; omega)]
              rw [List.getElem?_eq_none (by omega)] at hkk
              exact HOk.keep hx hkk rfl (by simp [E', upd, lenN_eq, Nat.ne_of_gt h]) rfl rfl fun b hO => ⟨hO, rfl, fun _ h => h⟩
          · have hsl := hs.st.slot q
            simp only [ffOf] at hsl ⊢
            cases hg : getO σ.fr q with
            | none => trivial
            | some g =>
              rw [hg] at hsl
              simp only [Option.map_some, SlotOk] at hsl ⊢
              exact ⟨hsl.1, fun hc => (hsl.2.1 hc).mono hx, hsl.2.2⟩
          · have := hs.ge k hk
            simp only [List.length_append, setN_eq, List.length_set]
            omega
        · cases h
      · cases h
    · cases h
  · cases h

theorem RO.row {I : Nat → Nat → Prop} {w : World} {nl : BT} {n : ST} {sz : Nat} {f f2 : Nat → List SV} {v : Value} (h : RO I w (.sl nl n sz f) v) (e : ∀ i : Nat, (i : Int) < n.den → f2 i = f i) : RO I w (.sl nl n sz f2) v := by
  generalize hs : SV.sl nl n sz f = s at h
  cases h with
  | slnil h hn => cases hs; exact .slnil h hn
  | sl g h hn hc hcm hs' hl h1 hcell hrel =>
    cases hs
    exact .sl g h hn hc hcm hs' (fun i hi => by rw [e i (by rw [hn]; exact Int.ofNat_lt.2 hi)]; exact hl i hi) h1 hcell (fun i j s hi hf => hrel i j s hi (by rw [← e i (by rw [hn]; exact Int.ofNat_lt.2 hi)]; exact hf))
  | _ => cases hs
theorem StY.tot {B : Bs} {N : Nat} {E : Env} {a : Act} {w : World} {σ : Sy} {s : Nat} {nl : BT} {n : ST} {sz : Nat} {f f2 : Nat → List SV} (hs : StY B N E a w σ) (h : totOf σ s = some (nl, n, sz, f)) (he : RowAs n.den f2 f) :
    StY B N E a w ⟨setN σ.fr s (some ⟨[], none, none, .sl nl n sz f2⟩), σ.hp, σ.gm⟩ := by
  have key : ∃ g, getO σ.fr s = some g ∧ g.tg = [] ∧ ∀ v, Rel E w g.v v → Rel E w (.sl nl n sz f2) v := by
    unfold totOf at h
    split at h
    · rename_i gt gf nl' n' sz' f' hg
      cases h
      refine ⟨_, hg, rfl, fun v hv => ?_⟩
      cases hv with
      | ro hr => exact .ro (hr.row he.h)
    · rename_i gt gf nl' n' sz' f' hd hg
      cases h
      refine ⟨_, hg, rfl, fun v hv => ?_⟩
      cases hv with
      | ro hr => cases hr
      | gsl hr ht => exact .ro (hr.row he.h)
    · cases h
  obtain ⟨g, hslot, htg, hrel⟩ := key
  have hlt : s < σ.fr.length := by
    rcases Nat.lt_or_ge s σ.fr.length with h | h
    · exact h
    · rw [getO_eq, List.getElem?_eq_none h] at hslot; cases hslot
  let g0 : G := ⟨[], none, none, .sl nl n sz f2⟩
  have hget : ∀ k, getO (setN σ.fr s (some g0)) k = if k = s then some g0 else getO σ.fr k := fun k => by
    rw [getO_set]
    by_cases e : k = s
    · rw [if_pos ⟨e, hlt⟩, if_pos e]
    · rw [if_neg (fun h => e h.1), if_neg e]
  refine ⟨⟨hs.st.base, hs.st.heap, fun q => ?_, hs.st.size, hs.st.defers⟩, by show (setN σ.fr s _).length = N; rw [setN_eq, List.length_set]; exact hs.len, ⟨fun q g hq i hi => ?_, fun q g i hq hi => ?_, fun q g i hq hi => ?_⟩, hs.ge⟩
  · have hsl := hs.st.slot q
    show SlotOk E w a q ((getO (setN σ.fr s (some g0)) q).map fun g => (condsOf σ.gm g.tg, g.v))
    rw [hget]
    simp only [ffOf] at hsl
    by_cases e : q = s
    · subst e
      rw [if_pos rfl]
      rw [hslot] at hsl
      simp only [Option.map_some, SlotOk, htg, condsOf, List.filterMap_nil, allT, g0] at hsl ⊢
      exact ⟨hsl.1, fun _ => hrel _ (hsl.2.1 trivial), fun h => absurd trivial h⟩
    · rw [if_neg e]
      exact hsl
  · have hq : getO (setN σ.fr s (some g0)) q = some g := hq
    rw [hget] at hq
    split at hq
    · cases hq; cases hi
    · exact hs.wf.tg q g hq i hi
  · have hq : getO (setN σ.fr s (some g0)) q = some g := hq
    rw [hget] at hq
    split at hq
    · cases hq; cases hi
    · exact hs.wf.gt q g i hq hi
  · have hq : getO (setN σ.fr s (some g0)) q = some g := hq
    rw [hget] at hq
    split at hq
    · cases hq; cases hi
    · exact hs.wf.gf q g i hq hi
theorem StY.ghosts {cx : Cx} (hD : cx.D = dn) {B : Bs} {N : Nat} {a : Act} {w : World} {K : Sy → Prop} : ∀ (l : List Gh) {E : Env} {σ : Sy}, StY B N E a w σ → Sx.ghosts cx l σ K → ∃ E' σ', StY B N E' a w σ' ∧ K σ'
  | [], E, σ, hs, h => ⟨E, σ, hs, h⟩
  | g :: l, E, σ, hs, h => by
    cases g with
    | tot s =>
      simp only [Sx.ghosts] at h
      split at h
      · rename_i nl n sz f ht
        obtain ⟨f2, he, h⟩ := h
        rw [hD] at he
        exact StY.ghosts hD l (hs.tot ht he) h
      · exact h.elim
    | freeze s =>
      simp only [Sx.ghosts] at h
      obtain ⟨hp, h⟩ := h
      split at h
      · rename_i σ1 h1
        obtain ⟨E1, hs1⟩ := hs.freeze h1
        exact StY.ghosts hD l hs1 h
      · exact h.elim
    | attach s e =>
      simp only [Sx.ghosts] at h
      obtain ⟨hp, h⟩ := h
      split at h
      · rename_i σ1 h1
        obtain ⟨E1, hs1⟩ := hs.attach h1
        exact StY.ghosts hD l hs1 h
      · exact h.elim
    | hold s k e =>
      simp only [Sx.ghosts] at h
      obtain ⟨hp, h⟩ := h
      split at h
      · rename_i σ1 h1
        obtain ⟨E1, hs1⟩ := hs.hold h1
        exact StY.ghosts hD l hs1 h
      · exact h.elim
    | own s e =>
      simp only [Sx.ghosts] at h
      obtain ⟨hp, h⟩ := h
      split at h
      · rename_i σ1 h1
        obtain ⟨E1, hs1⟩ := hs.own h1
        exact StY.ghosts hD l hs1 h
      · exact h.elim
    | share s =>
      simp only [Sx.ghosts] at h
      obtain ⟨hp, h⟩ := h
      split at h
      · rename_i σ1 h1
        obtain ⟨E1, hs1⟩ := hs.share hD hp h1
        exact StY.ghosts hD l hs1 h
      · exact h.elim
    | bld s e =>
      simp only [Sx.ghosts] at h
      obtain ⟨hp, h⟩ := h
      split at h
      · rename_i σ1 h1
        obtain ⟨E1, hs1⟩ := hs.bld h1
        exact StY.ghosts hD l hs1 h
      · exact h.elim

theorem StY.ghostK {cx : Cx} (hD : cx.D = dn) {B : Bs} {N : Nat} {E : Env} {a : Act} {w : World} {id : Nat} {σ : Sy} {K : Sy → Prop} (hs : StY B N E a w σ) (h : Sx.ghostK cx id σ K) : ∃ E' σ', StY B N E' a w σ' ∧ K σ' := by
  unfold Sx.ghostK at h
  split at h
  · exact ⟨E, σ, hs, h⟩
  · exact hs.ghosts hD _ h

end Go.Sx
/- Bodies. -/
namespace Go.Sx
open Go

section
variable {P : Program} {cx : Cx}

def exK (K : Ex → Sy → Prop) (σ : Sy) : Exit → Prop
  | .normal => K .normal σ
  | .exit i => K (.exit i) σ
  | .goto l => K (.goto l) σ
  | .ret => K .ret σ
  | _ => False

def exQ (B : Bs) (N : Nat) (K : Ex → Sy → Prop) (e : Exit) (a : Act) (w : World) : Prop := ∃ E σ, StY B N E a w σ ∧ exK K σ e

/-- In whatever order. (Proved in the next part.) -/
def DrawOk (P : Program) : Prop := ∀ (gl : List (Nat × SV)) (id : Nat) (ops : Array Oper) (B : Bs) (N : Nat) (σ σ' : Sy) (rs : List (Option (Sy × List Nat × Out))), glOk B gl → Runs P gl ops.toList ops.toList σ rs σ' → edgesOk ops.toList 0 = true →
  indep ops.toList (befores ops.toList []) ops.toList (rs.map fpR) 0 = true → ∀ (Q : Exit → Act → World → Prop) (E : Env) (a : Act) (w : World), StY B N E a w σ → (∀ E' a' w', StY B N E' a' w' σ' → Q .normal a' w') → (Code.region id ops true).wp P Q a w

theorem exists_min {p : Nat → Prop} (h : ∃ n, p n) : ∃ n, p n ∧ ∀ m, p m → n ≤ m := by
  obtain ⟨n, hn⟩ := h
  induction n using Nat.strongRecOn with
  | _ n ih =>
    by_cases hm : ∃ m, m < n ∧ p m
    · obtain ⟨m, h1, h2⟩ := hm; exact ih m h1 h2
    · exact ⟨n, hn, fun m h => Nat.le_of_not_lt fun hlt => hm ⟨m, hlt, h⟩⟩

/-- A loop with a measure that need not be read off the frame. -/
theorem wp_loopN {c : Code} {Q : Exit → Act → World → Prop} {a : Act} {w : World} (R : Nat → Act → World → Prop) (h0 : ∃ n, R n a w)
    (round : ∀ n a w, R n a w → c.wp P (Exit.then (fun a' w' => ∃ n', n' < n ∧ R n' a' w') Q) a w) : (Code.loop c).wp P Q a w := by
  classical
  let μ : Act → World → Nat := fun a w => if h : ∃ n, R n a w then Classical.choose (exists_min h) else 0
  have hμ : ∀ a w, (∃ n, R n a w) → R (μ a w) a w ∧ ∀ m, R m a w → μ a w ≤ m := by
    intro a w h
    have : μ a w = Classical.choose (exists_min h) := by simp only [μ]; rw [dif_pos h]
    rw [this]
    exact Classical.choose_spec (exists_min h)
  refine wp_loop (fun a w => ∃ n, R n a w) μ h0 fun a w hI => ?_
  obtain ⟨h1, h2⟩ := hμ a w hI
  refine wp_mono (round _ a w h1) fun e a' w' hq => ?_
  cases e with
  | normal =>
    obtain ⟨n', hlt, hr⟩ := hq
    exact ⟨⟨n', hr⟩, Nat.lt_of_le_of_lt ((hμ a' w' ⟨n', hr⟩).2 n' hr) hlt⟩
  | _ => exact hq

/-! ### what is kept at a loop's head -/

def cutE (n : Nat) (E : Env) : Env := ⟨fun h => if h < n then E.β h else none, fun h => if h < n then E.τ h else none, fun b => (E.O b).bind fun h => if h < n then some h else none, fun h => if h < n then E.κ h else none, fun h => if h < n then E.ζ h else none, E.I⟩

theorem belowL_iff (n : Nat) : ∀ (cs : List SV), belowV.belowL n cs = true ↔ ∀ c ∈ cs, belowV n c = true
  | [] => by simp [belowV.belowL]
  | c :: cs => by simp [belowV.belowL, belowL_iff n cs]

theorem Rel.cut {E : Env} {w : World} {n : Nat} {s : SV} {v : Value} (h : Rel E w s v) (hb : belowV n s = true) : Rel (cutE n E) w s v := by
  induction h with
  | ro h => exact .ro h
  | @ptr h off b v hb' hv =>
    simp only [belowV, Nat.blt_eq] at hb
    exact .ptr (by simp [cutE, hb]; exact hb') hv
  | @gsl nl m sz f h v hr ht =>
    simp only [belowV, Nat.blt_eq] at hb
    obtain ⟨a, k, c, t1, t2⟩ := ht
    exact .gsl hr ⟨a, k, c, by simp [cutE, hb]; exact t1, t2⟩
  | mrow hb' hm hv =>
    simp only [belowV, Nat.blt_eq] at hb
    exact .mrow (by simp [cutE, hb]; exact hb') (by simp [cutE, hb]; exact hm) hv
  | mptr hb' hz hv =>
    simp only [belowV, Nat.blt_eq] at hb
    exact .mptr (by simp [cutE, hb]; exact hb') (by simp [cutE, hb]; exact hz) hv
  | osl ht hk =>
    simp only [belowV, Nat.blt_eq] at hb
    obtain ⟨a, k, c, t1, t2⟩ := hk
    exact .osl ht ⟨a, k, c, by simp [cutE, hb]; exact t1, t2⟩
  | optr hv ho =>
    simp only [belowV, Nat.blt_eq] at hb
    obtain ⟨a, k, c, sz, t1, t2, t3⟩ := ho
    exact .optr hv ⟨a, k, c, sz, by simp [cutE, hb]; exact t1, by simp [cutE, hb]; exact t2, t3⟩
  | agg hl _ ih =>
    simp only [belowV] at hb
    exact .agg hl fun i s v h1 h2 => ih i s v h1 h2 ((belowL_iff n _).1 hb s (List.mem_of_getElem? h1))
  | tup hl _ ih =>
    simp only [belowV] at hb
    exact .tup hl fun i s v h1 h2 => ih i s v h1 h2 ((belowL_iff n _).1 hb s (List.mem_of_getElem? h1))
  | clo hl _ ih =>
    simp only [belowV] at hb
    exact .clo hl fun i s v h1 h2 => ih i s v h1 h2 ((belowL_iff n _).1 hb s (List.mem_of_getElem? h1))

theorem belowH_get {n : Nat} : ∀ {ls : List Hl}, belowH n ls = true → ∀ {i : Nat} {ty : TypeId} {cs : List SV}, ls[i]? = some (.blk ty cs) → ∀ c ∈ cs, belowV n c = true
  | [], _, i, ty, cs, h => by simp at h
  | l :: ls, hp, i, ty, cs, h => by
    cases i with
    | zero =>
      simp at h
      subst h
      simp only [belowH, Bool.and_eq_true, belowV] at hp
      exact (belowL_iff n cs).1 hp.1
    | succ i =>
      simp at h
      cases l <;> simp only [belowH, Bool.and_eq_true] at hp <;> first | exact belowH_get hp h | exact belowH_get hp.2 h

theorem headH_get (D : Dn) : ∀ (ls : List Hl) (i : Nat), (headH D ls)[i]? = (ls[i]?).map fun l => match l with
    | .blk ty cs => .blk ty (norm.normL D cs)
    | .tail ty n sz => .tail ty (.a (D.i n)) sz
    | .row ty n sz f => .row ty (.a (D.i n)) sz f
    | .own ty n sz gr f => .own ty (.a (D.i n)) sz gr f
    | l => l
  | [], i => by simp [headH]
  | l :: ls, i => by
    cases i with
    | zero => cases l <;> simp [headH]
    | succ i => cases l <;> simp [headH, headH_get D ls i]

theorem len_headH (D : Dn) : ∀ (ls : List Hl), (headH D ls).length = ls.length
  | [] => rfl
  | l :: ls => by cases l <;> simp [headH, len_headH D ls]

theorem getO_mkfr : ∀ (l : List (Nat × Option SV)) (fr : List (Option G)) (s : Nat) (g : G), (∀ s, getO fr s = none) → getO (mkfr l fr) s = some g → g.tg = [] ∧ g.gt = none ∧ g.gf = none ∧ ∃ v, (s, some v) ∈ l ∧ g.v = v := by
  have key : ∀ (l : List (Nat × Option SV)) (fr : List (Option G)) (s : Nat) (g : G), getO (mkfr l fr) s = some g → getO fr s = some g ∨ (g.tg = [] ∧ g.gt = none ∧ g.gf = none ∧ ∃ v, (s, some v) ∈ l ∧ g.v = v) := by
    intro l
    induction l with
    | nil => intro fr s g h; exact .inl h
    | cons p l ih =>
      obtain ⟨i, v⟩ := p
      intro fr s g h
      rcases ih _ s g h with h | ⟨h1, h2, h3, v', h4, h5⟩
      · rw [getO_set] at h
        split at h
        · rename_i e
          cases v with
          | none => cases h
          | some v => cases h; exact .inr ⟨rfl, rfl, rfl, v, by rw [e.1]; exact List.mem_cons_self .., rfl⟩
        · exact .inl h
      · exact .inr ⟨h1, h2, h3, v', List.mem_cons_of_mem _ h4, h5⟩
  intro l fr s g hfr h
  rcases key l fr s g h with h | h
  · rw [hfr] at h; cases h
  · exact h

theorem getO_blank {α : Type} : ∀ (l : List α) (s : Nat), getO (blank l) s = none
  | [], s => by simp [blank, getO]
  | _ :: l, 0 => rfl
  | _ :: l, s + 1 => getO_blank l s
theorem len_blank {α : Type} : ∀ (l : List α), (blank l).length = l.length
  | [] => rfl
  | _ :: l => by simp [blank, len_blank l]
theorem len_mkfr : ∀ (l : List (Nat × Option SV)) (fr : List (Option G)), (mkfr l fr).length = fr.length
  | [], _ => rfl
  | (i, v) :: l, fr => by simp [mkfr, len_mkfr l, setN_eq]

theorem mem_zip_keep {D : Dn} {n : Nat} {fr : List (Option G)} {s : Nat} {v : SV} : ∀ (keep : List Nat), (s, some v) ∈ zipN keep (keepV D n fr keep) → ∃ g, getO fr s = some g ∧ g.tg = [] ∧ belowV n g.v = true ∧ v = norm D g.v
  | [], h => by simp [zipN] at h
  | i :: keep, h => by
    simp only [keepV, zipN, List.mem_cons] at h
    rcases h with h | h
    · simp only [Prod.mk.injEq] at h
      obtain ⟨rfl, h⟩ := h
      split at h
      · rename_i gt gf v' hg
        split at h
        · rename_i hb
          cases h
          exact ⟨_, hg, rfl, hb, rfl⟩
        · cases h
      · cases h
    · exact mem_zip_keep keep h

/-- The state at a loop's head. -/
theorem StY.head {B : Bs} {N : Nat} {E : Env} {a : Act} {w : World} {σ : Sy} (h : StY B N E a w σ) {n : Nat} {keep : List Nat} {fr0 : List (Option G)} (hfr : fr0.length = N) (hb : belowH n (takeN n σ.hp) = true) (hn : ∀ h, B.β0 h ≠ none ∨ B.τ0 h ≠ none ∨ B.ζ0 h ≠ none → h < n) :
    StY B N (cutE n E) a w ⟨mkfr (zipN keep (keepV dn n σ.fr keep)) (blank fr0), headH dn (takeN n σ.hp), []⟩ := by
  have hbase := h.st.base
  refine ⟨⟨⟨hbase.os, hbase.tape, hbase.output, hbase.size, hbase.old, hbase.I0, hbase.Ibd, hbase.Inew, fun b k hO => ?_, ⟨fun k b hk => by simp only [cutE, if_pos (hn k (.inl (by rw [hk]; simp)))]; exact hbase.β0.β k b hk, fun k v hk => by simp only [cutE, if_pos (hn k (.inr (.inl (by rw [hk]; simp))))]; exact hbase.β0.τ k v hk, fun k z hk => by simp only [cutE, if_pos (hn k (.inr (.inr (by rw [hk]; simp))))]; exact hbase.β0.ζ k z hk⟩⟩, fun k => ?_, fun s => ?_, h.st.size, h.st.defers⟩, by rw [len_mkfr, len_blank]; exact hfr, ⟨fun s g hs => ?_, fun s g i hs hi => ?_, fun s g i hs hi => ?_⟩, fun k hk => ?_⟩
  · have hO : (E.O b).bind (fun h => if h < n then some h else none) = some k := hO
    cases hEO : E.O b with
    | none => rw [hEO] at hO; cases hO
    | some k' =>
      rw [hEO] at hO
      simp only [Option.bind_some] at hO
      split at hO
      · cases hO; exact hbase.Obd b k hEO
      · cases hO
  · rw [takeN_eq] at hb ⊢
    simp only [hfOf, nth_eq, headH_get]
    by_cases hk : k < n
    · have hkk := h.st.heap k
      simp only [hfOf, nth_eq] at hkk
      rw [List.getElem?_take, if_pos hk]
      have hO : ∀ b, E.O b = some k → (cutE n E).O b = some k := fun b hb => by simp [cutE, hb, hk]
      cases hl : σ.hp[k]? with
      | none =>
        rw [hl] at hkk
        simp only [Option.map_none, Option.getD_none]
        obtain ⟨q1, q2, q3, q4⟩ := hkk
        exact ⟨by simp only [cutE, if_pos hk]; exact q1, by simp only [cutE, if_pos hk]; exact q2, by simp only [cutE, if_pos hk]; exact q3, by simp only [cutE, if_pos hk]; exact q4⟩
      | some l =>
        rw [hl] at hkk
        simp only [Option.map_some, Option.getD_some] at hkk ⊢
        cases l with
        | fresh =>
          obtain ⟨q1, q2, q3, q4⟩ := hkk
          exact ⟨by simp only [cutE, if_pos hk]; exact q1, by simp only [cutE, if_pos hk]; exact q2, by simp only [cutE, if_pos hk]; exact q3, by simp only [cutE, if_pos hk]; exact q4⟩
        | gone => trivial
        | blk ty cs =>
          obtain ⟨b, C, k1, k2, k3, k4, k5, k6⟩ := hkk.blk_inv
          have hbl : ∀ c ∈ cs, belowV n c = true := belowH_get hb (i := k) (by rw [List.getElem?_take, if_pos hk]; exact hl)
          have hn : RelL (cutE n E) w (norm.normL dn cs) C.toList := by
            rw [normL_eq]
            exact k4.map _ fun s v hs h => (h.cut (hbl s hs)).norm
          exact ⟨b, C, by simp only [cutE, if_pos hk]; exact k1, hO b k2, k3, by have := hn.1; simpa using this.symm, fun i s v p q => hn.2 i s v p (by simpa using q), fun v hv => k5 v (by simpa using hv), k6⟩
        | tail ty m sz =>
          obtain ⟨v, m', xs, k1, k2, k3, k4, k5⟩ := hkk
          exact ⟨v, m', xs, by simp only [cutE, if_pos hk]; exact k1, k2, k3, k4, fun b hb => ⟨hO b (k5 b hb).1, (k5 b hb).2⟩⟩
        | row ty m sz f =>
          obtain ⟨b, C, m', k1, k2, kz, k3, k4, k5, k6, k7, k8⟩ := hkk
          exact ⟨b, C, m', by simp only [cutE, if_pos hk]; exact k1, by simp only [cutE, if_pos hk]; exact k2, by simp only [cutE, if_pos hk]; exact kz, hO b k3, k4, k5, k6, k7, k8⟩
        | own ty m sz gr f =>
          obtain ⟨v, m', xs, k1, kz, k2, k3, k4, k5, k6⟩ := hkk
          exact ⟨v, m', xs, by simp only [cutE, if_pos hk]; exact k1, by simp only [cutE, if_pos hk]; exact kz, k2, k3, k4, k5, fun b hb => ⟨hO b (k6 b hb).1, (k6 b hb).2⟩⟩
        | bld T e s =>
          obtain ⟨b, p, v, k1, k2, k3, k4, k5, k6, k7, k8⟩ := hkk
          exact ⟨b, p, v, by simp only [cutE, if_pos hk]; exact k1, hO b k2, k3, k4, k5, k6, k7, fun g hg => ⟨hO g (k8 g hg).1, (k8 g hg).2⟩⟩
    · rw [List.getElem?_take, if_neg hk]
      simp only [Option.map_none, Option.getD_none]
      exact ⟨by simp [cutE, hk], by simp [cutE, hk], by simp [cutE, hk], by simp [cutE, hk]⟩
  · simp only [ffOf]
    cases hs : getO (mkfr (zipN keep (keepV dn n σ.fr keep)) (blank fr0)) s with
    | none => trivial
    | some g =>
      obtain ⟨g1, _, _, v, g4, g5⟩ := getO_mkfr _ _ s g (getO_blank fr0) hs
      obtain ⟨g', q1, q2, q3, q4⟩ := mem_zip_keep keep g4
      have hsl := h.st.slot s
      simp only [ffOf, q1, Option.map_some, SlotOk, q2, condsOf, List.filterMap_nil, allT] at hsl
      obtain ⟨s1, s2, _⟩ := hsl
      simp only [Option.map_some, SlotOk, g1, condsOf, List.filterMap_nil, allT]
      refine ⟨s1, fun _ => ?_, fun h => absurd trivial h⟩
      rw [g5, q4]
      exact ((s2 trivial).cut q3).norm
  · obtain ⟨g1, _⟩ := getO_mkfr _ _ s g (getO_blank fr0) hs
    rw [g1]; simp
  · obtain ⟨_, g2, _⟩ := getO_mkfr _ _ s g (getO_blank fr0) hs
    rw [g2] at hi; cases hi
  · obtain ⟨_, _, g3, _⟩ := getO_mkfr _ _ s g (getO_blank fr0) hs
    rw [g3] at hi; cases hi
  · rw [len_headH, takeN_eq, List.length_take]
    have h1 := hn k hk
    have h2 := h.ge k hk
    omega

theorem takeN_all {α : Type} (l : List α) : takeN (lenN l) l = l := by rw [takeN_eq, lenN_eq, List.take_length]

theorem StY.know {B : Bs} {N : Nat} {E : Env} {a : Act} {w : World} {σ : Sy} (h : StY B N E a w σ) {c : Operand} {bt : BT} {b : Bool} (hr : rd cx σ [] c = some (.bool bt)) (hv : a.eval c = .bool bt.den) (hb : bt.den = b) : StY B N E a w (know σ c b) := by
  cases c with
  | tmp s =>
    simp only [rd] at hr
    split at hr
    · rename_i g hg
      have hlt : s < σ.fr.length := by
        rcases Nat.lt_or_ge s σ.fr.length with h | h
        · exact h
        · rw [getO_eq, List.getElem?_eq_none h] at hg; cases hg
      have hget : ∀ k, getO (setN σ.fr s (some ⟨[], none, none, .bool (.l b)⟩)) k = if k = s then some ⟨[], none, none, .bool (.l b)⟩ else getO σ.fr k := fun k => by
        rw [getO_set]
        by_cases e : k = s
        · rw [if_pos ⟨e, hlt⟩, if_pos e]
        · rw [if_neg (fun h => e h.1), if_neg e]
      refine ⟨⟨h.st.base, h.st.heap, fun k => ?_, h.st.size, h.st.defers⟩, by show (setN σ.fr s _).length = N; rw [setN_eq, List.length_set]; exact h.len, ⟨fun k g' hk i hi => ?_, fun k g' i hk hi => ?_, fun k g' i hk hi => ?_⟩, h.ge⟩
      · simp only [ffOf, Sx.know, hget]
        by_cases e : k = s
        · subst e
          rw [if_pos rfl]
          have hv : a.tmps.getD k undef = .bool bt.den := hv
          refine ⟨by rw [h.st.size, ← h.len]; exact hlt, fun _ => ?_, fun hn => absurd trivial hn⟩
          rw [hv]
          exact .bool hb.symm
        · rw [if_neg e]
          exact h.st.slot k
      · have hk : getO (setN σ.fr s (some ⟨[], none, none, .bool (.l b)⟩)) k = some g' := hk
        rw [hget] at hk
        split at hk
        · cases hk; cases hi
        · exact h.wf.tg k g' hk i hi
      · have hk : getO (setN σ.fr s (some ⟨[], none, none, .bool (.l b)⟩)) k = some g' := hk
        rw [hget] at hk
        split at hk
        · cases hk; cases hi
        · exact h.wf.gt k g' i hk hi
      · have hk : getO (setN σ.fr s (some ⟨[], none, none, .bool (.l b)⟩)) k = some g' := hk
        rw [hget] at hk
        split at hk
        · cases hk; cases hi
        · exact h.wf.gf k g' i hk hi
    · cases hr
  | const _ => exact h
  | global _ => exact h
  | func _ => exact h

/-- A body does what the executor says. -/
theorem exec_sound (hd : DrawOk P) (hc : CxOk P cx) (htab : TabOk P cx.gl cx.tab) {B : Bs} {N : Nat} (hg : glOk B cx.gl) : ∀ (c : Code) (σ : Sy) (K : Ex → Sy → Prop), exec cx c σ K → ∀ (E : Env) (a : Act) (w : World), StY B N E a w σ → c.wp P (exQ B N K) a w
  | .skip, σ, K, h, E, a, w, hs => wp_skip ⟨E, σ, hs, h⟩
  | .region id ops draw, σ, K, h, E, a, w, hs => by
    obtain ⟨rs, σ', h1, h2, h3⟩ := stepOps_runs hc htab (ops := ops) rfl ops.toList [] σ _ hs.wf h
    simp only [List.nil_append] at h3
    cases draw with
    | true =>
      simp only [if_true] at h3
      split at h3
      · obtain ⟨⟨hb⟩, h3⟩ := h3
        simp only [Bool.and_eq_true] at hb
        exact hd cx.gl id ops B N σ σ' rs hg h1 hb.1 hb.2 _ E a w hs fun E' a' w' hs' => (StY.tidy hs').ghostK hc.D h3
      · split at h3
        · rename_i hb
          simp only [Bool.and_eq_true] at hb
          exact hd cx.gl id ops B N σ σ' rs hg h1 hb.1 hb.2 _ E a w hs fun E' a' w' hs' => (StY.tidy hs').ghostK hc.D h3
        · exact h3.elim
    | false =>
      simp only [Bool.false_eq_true, if_false] at h3
      exact wpList_region (runs_wpList rfl hg h1 E a w hs fun E' a' w' hs' => (StY.tidy hs').ghostK hc.D h3)
  | .seq x y, σ, K, h, E, a, w, hs => by
    refine wp_seq (wp_mono (exec_sound hd hc htab hg x σ _ h E a w hs) fun e a' w' hq => ?_)
    obtain ⟨E', σ', hs', hk⟩ := hq
    cases e with
    | normal => exact exec_sound hd hc htab hg y σ' K hk E' a' w' hs'
    | exit i => exact ⟨E', σ', hs', hk⟩
    | goto l => exact ⟨E', σ', hs', hk⟩
    | ret => exact ⟨E', σ', hs', hk⟩
    | _ => exact hk.elim
  | .cond c x y, σ, K, h, E, a, w, hs => by
    simp only [exec] at h
    have hv : ∀ b, rd cx σ [] c = some (.bool b) → a.eval c = .bool b.den := fun b hb => (rd_sound hb hg hs.st (fun _ _ => rfl) trivial).bool_inv
    split at h
    · rename_i hb
      exact wp_cond (t := true) (hv _ hb) (exec_sound hd hc htab hg x σ K h E a w hs)
    · rename_i hb
      exact wp_cond (t := false) (hv _ hb) (exec_sound hd hc htab hg y σ K h E a w hs)
    · rename_i b _ _ hb
      rw [hc.D] at h
      refine wp_cond_split (hv _ hb) (fun e => ?_) (fun e => ?_)
      · exact exec_sound hd hc htab hg x _ K (h.1 e) E a w (hs.know hb (hv _ hb) e)
      · exact exec_sound hd hc htab hg y _ K (h.2 e) E a w (hs.know hb (hv _ hb) e)
    · exact h.elim
  | .block id b, σ, K, h, E, a, w, hs => by
    refine wp_block (wp_mono (exec_sound hd hc htab hg b σ _ h E a w hs) fun e a' w' hq => ?_)
    obtain ⟨E', σ', hs', hk⟩ := hq
    cases e with
    | normal => exact ⟨E', σ', hs', hk⟩
    | exit i =>
      simp only [Exit.inBlock]
      simp only [exK] at hk
      by_cases e : i = id
      · rw [if_pos e]
        rw [if_pos (by simpa using e)] at hk
        exact ⟨E', σ', hs', hk⟩
      · rw [if_neg e]
        rw [if_neg (by simpa using e)] at hk
        exact ⟨E', σ', hs', hk⟩
    | goto l => exact ⟨E', σ', hs', hk⟩
    | ret => exact ⟨E', σ', hs', hk⟩
    | _ => exact hk.elim
  | .loop b, σ, K, h, E, a, w, hs => by
    obtain ⟨keep, J, ⟨hb0, m0, hJ0⟩, hround⟩ := h
    rw [hc.D] at hJ0 hround
    refine wp_loopN (fun m a w => ∃ vs hp E, J m vs hp ∧ StY B N E a w ⟨mkfr (zipN keep vs) (blank σ.fr), hp, []⟩) ⟨m0, _, _, cutE (lenN σ.hp) E, hJ0, ?_⟩ ?_
    · have := hs.head (n := lenN σ.hp) (keep := keep) hs.len (by rw [takeN_all]; exact hb0) (by rw [lenN_eq]; exact hs.ge)
      rw [takeN_all] at this
      exact this
    · rintro m a' w' ⟨vs, hp, E', hJ, hs'⟩
      refine wp_mono (exec_sound hd hc htab hg b _ _ (hround m vs hp hJ) E' a' w' hs') fun e a2 w2 hq => ?_
      obtain ⟨E2, σ2, hs2, hk⟩ := hq
      cases e with
      | normal =>
        obtain ⟨hb2, m2, hlt, hJ2⟩ := hk
        exact ⟨m2, hlt, _, _, _, hJ2, hs2.head hs.len hb2 (by rw [lenN_eq]; exact hs.ge)⟩
      | exit i => exact ⟨E2, σ2, hs2, hk⟩
      | goto l => exact ⟨E2, σ2, hs2, hk⟩
      | ret => exact ⟨E2, σ2, hs2, hk⟩
      | _ => exact hk.elim
  | .exit id, σ, K, h, E, a, w, hs => wp_exit ⟨E, σ, hs, h⟩
  | .ret, σ, K, h, E, a, w, hs => wp_ret ⟨E, σ, hs, h⟩
  | .rangeFunc .., _, _, h, _, _, _, _ => h.elim
  | .scope c, σ, K, h, E, a, w, hs => by
    refine wp_scope_straight (wp_mono (exec_sound hd hc htab hg c σ _ h E a w hs) fun e a' w' hq => ?_)
    obtain ⟨E', σ', hs', hk⟩ := hq
    cases e with
    | normal => exact ⟨E', σ', hs', hk⟩
    | exit i => exact ⟨E', σ', hs', hk⟩
    | goto l => exact hk.elim
    | ret => exact ⟨E', σ', hs', hk⟩
    | _ => exact hk.elim
  | .label _, σ, K, h, E, a, w, hs => wp_label ⟨E, σ, hs, h⟩
  | .goto _, σ, K, h, E, a, w, hs => wp_goto ⟨E, σ, hs, h⟩
  | .refuse _, _, _, h, _, _, _, _ => h.elim

end
end Go.Sx
/- Functions. -/
namespace Go.Sx
open Go

def LeV (s s' : SV) : Prop := ∀ (E : Env) (w : World) (v : Value), Rel E w s v → Rel E w s' v
def LeH (ls ls' : List Hl) : Prop := ∀ (h : Nat) (E : Env) (w : World), HOk E w h (hfOf ls h) → HOk E w h (hfOf ls' h)

/-- The end of a body: what it hands back, and what it leaves, is what the contract says. -/
structure Fin (r' r : SV) (ls'' ls' : List Hl) : Prop where
  v : LeV r' r
  h : LeH ls'' ls'
  len : ls'.length ≤ ls''.length

theorem LeV.refl (s : SV) : LeV s s := fun _ _ _ h => h
theorem LeH.refl (ls : List Hl) : LeH ls ls := fun _ _ _ h => h

section
variable {P : Program} {cx : Cx}

def resRow (tmps : Array Value) : ResultVar → Sem Value
  | .tmp t => pure (tmps.getD t undef)
  | .cell ad t => do loadVar t (← asAddr (tmps.getD ad undef))

theorem results_eq (fn : Func) (tmps : Array Value) : results fn tmps = (do let vs ← fn.results.mapM (resRow tmps); pure (if h : vs.size = 1 then vs[0] else .tuple vs)) := by
  unfold results
  congr 1

/-- What a body's end asks. -/
theorem resVs_sound (hc : CxOk P cx) {B : Bs} {N : Nat} (hg : glOk B cx.gl) {E : Env} {a : Act} {w : World} {σ : Sy} (hs : StY B N E a w σ) : ∀ (rs : List ResultVar) (vs : List SV), resVs cx σ rs = some vs →
    ∃ us, (rs.mapM (resRow a.tmps)).run P w = .ok us w ∧ RelL E w vs us
  | [], vs, h => by simp [resVs] at h; subst h; exact ⟨[], rfl, .nil⟩
  | .tmp t :: rs, vs, h => by
    simp only [resVs] at h
    split at h
    · rename_i v vs' hv hvs
      cases h
      obtain ⟨us, h1, h2⟩ := resVs_sound hc hg hs rs vs' hvs
      have hr := rd_sound hv hg hs.st (fun _ _ => rfl) trivial
      exact ⟨a.tmps.getD t undef :: us, by simp only [List.mapM_cons, resRow, Sem.run_bind, Sem.run_pure, Result.andThen_ok, h1], .cons hr h2⟩
    · cases h
  | .cell ad t :: rs, vs, h => by
    simp only [resVs] at h
    split at h
    · rename_i hd off n vs' hv hn hvs
      split at h
      · rename_i ty cs hh
        split at h
        · rename_i hb
          split at h
          · rename_i v hp
            cases h
            rw [lenN_eq] at hb
            have hle := Nat.le_of_ble_eq_true hb
            rw [takeN_eq, dropN_eq] at hp
            obtain ⟨us, h1, h2⟩ := resVs_sound hc hg hs rs vs' hvs
            obtain ⟨b, hβ, hx⟩ := (rd_sound hv hg hs.st (fun _ _ => rfl) trivial).ptr_inv
            have hk := hs.st.heap hd
            rw [nth_hf hh] at hk
            obtain ⟨b', C, k1, _, k3, k4, _, _⟩ := hk.blk_inv
            obtain rfl : b = b' := Option.some.inj (hβ.symm.trans k1)
            obtain ⟨ti, hti, hsz⟩ := size?_ti hn
            have hsub := sub_RelL (off := off) (n := n) k4 rfl (fun _ _ _ => rfl)
            obtain ⟨p1, p2⟩ := pack_rel hp hsub
            have hlen : ((C.toList.drop off).take n).length = n := by rw [← hsub.1]; simp; omega
            have hrun := run_loadAt (hc.ti hti) (w := w) (b := b) (off := off) (vs := (C.toList.drop off).take n) (fun j v hj => by
              rw [List.getElem?_take] at hj
              split at hj
              · rw [List.getElem?_drop] at hj
                rw [cell_of_row w b (off + j) C ty (0, 0) k3]
                simpa using hj
              · cases hj) (by rw [hlen, hsz]) (isAgg?_eq hti) p1
            have hx : a.tmps.getD ad undef = .pointer (some ⟨b, off, none⟩) := hx
            have hl : (loadVar t ⟨b, off, none⟩).run P w = .ok (if isAgg? cx t then .agg ⟨(C.toList.drop off).take n⟩ else ((C.toList.drop off).take n).headD undef) w := by
              simpa only [Instr.loadAt, Instr.sureAddr, Sem.run_bind, Sem.run_pure, Result.andThen_ok] using hrun
            refine ⟨_ :: us, ?_, .cons p2 h2⟩
            have hrow : (resRow a.tmps (.cell ad t)).run P w = .ok (if isAgg? cx t then .agg ⟨(C.toList.drop off).take n⟩ else ((C.toList.drop off).take n).headD undef) w := by
              simp only [resRow, hx, asAddr, Sem.run_bind, Sem.run_pure, Result.andThen_ok, hl]
            simp only [List.mapM_cons, Sem.run_bind, hrow, Result.andThen_ok, h1, Sem.run_pure]
          · cases h
        · cases h
      · cases h
    · cases h

theorem pack1_rel {E : Env} {w : World} {vs : List SV} {us : List Value} (h : RelL E w vs us) : Rel E w (pack1 vs) (if h : (⟨us⟩ : Array Value).size = 1 then (⟨us⟩ : Array Value)[0] else .tuple ⟨us⟩) := by
  match vs, us, h with
  | [], [], h => exact .tup h.1 h.2
  | [v], [u], h => exact h.2 0 v u rfl rfl
  | _ :: _ :: _, _ :: _ :: _, h =>
    rw [dif_neg (by simp)]
    exact .tup h.1 h.2
  | [], _ :: _, h => exact absurd h.1 (by simp)
  | _ :: _, [], h => exact absurd h.1 (by simp)
  | [_], _ :: _ :: _, h => exact absurd h.1 (by simp)
  | _ :: _ :: _, [_], h => exact absurd h.1 (by simp)

theorem HOk.normH {E : Env} {w : World} {hp : List Hl} {h : Nat} (hk : HOk E w h (hfOf hp h)) : HOk E w h (hfOf (normH dn hp) h) := by
  simp only [hfOf, nth_eq, normH_get] at hk ⊢
  cases hl : hp[h]? with
  | none => rw [hl] at hk; exact hk
  | some l =>
    rw [hl] at hk
    cases l with
    | blk ty cs =>
      simp only [Option.map_some, Option.getD_some] at hk ⊢
      obtain ⟨b, C, k1, k2, k3, k4, k5, k6⟩ := hk.blk_inv
      have hn : RelL E w (loose.looseL (norm.normL dn cs)) C.toList := by
        rw [looseL_eq, normL_eq]
        exact (k4.map _ fun s v _ h => h.norm).map _ fun s v _ h => h.loose
      exact ⟨b, C, k1, k2, k3, by have := hn.1; simpa using this.symm, fun i s v p q => hn.2 i s v p (by simpa using q), fun v hv => k5 v (by simpa using hv), k6⟩
    | _ => exact hk

theorem getO_start (ntmps : Nat) (args : List SV) (s : Nat) (g : G) (h : getO (startFr ntmps args) s = some g) : ∃ v, args[s]? = some v ∧ g = ⟨[], none, none, v⟩ := by
  rw [getO_eq] at h
  unfold startFr at h
  by_cases hlt : s < args.length
  · rw [List.getElem?_append_left (by simpa using hlt)] at h
    simp [hlt] at h
    exact ⟨args[s], by simp [hlt], h.symm⟩
  · rw [List.getElem?_append_right (by simp; omega)] at h
    rw [List.getElem?_replicate] at h
    split at h <;> simp at h

theorem ownTo_rel {E E' : Env} {w : World} {h k : Nat} (hI : E'.I = E.I) (hτ : E'.τ k = E.τ h) : ∀ {vs : List SV} {us : List Value}, ownOk h vs = true → RelL E w vs us → RelL E' w (ownTo h k vs) us
  | [], us, _, hr => ⟨hr.1, by simp [ownTo]⟩
  | v :: vs, [], _, hr => absurd hr.1 (by simp)
  | v :: vs, u :: us, ho, hr => by
    have htl : RelL E w vs us := ⟨by have := hr.1; simpa using this, fun i s v a b => hr.2 (i + 1) s v a b⟩
    have hhd := hr.2 0 v u rfl rfl
    by_cases hv : ∃ nl n h', v = .osl nl n h'
    · obtain ⟨nl, n, h', rfl⟩ := hv
      simp only [ownOk, Bool.and_eq_true, beq_iff_eq] at ho
      obtain ⟨rfl, ho⟩ := ho
      obtain ⟨ht, a, m, c, t1, t2⟩ := hhd.osl_inv
      exact .cons (.osl ht ⟨a, m, c, by rw [hτ]; exact t1, t2⟩) (ownTo_rel hI hτ ho htl)
    · have h1 : ownOk h (v :: vs) = (plainV v && ownOk h vs) := by
        cases v <;> first | rfl | exact absurd ⟨_, _, _, rfl⟩ hv
      have h2 : ownTo h k (v :: vs) = v :: ownTo h k vs := by
        cases v <;> first | rfl | exact absurd ⟨_, _, _, rfl⟩ hv
      rw [h1, Bool.and_eq_true] at ho
      rw [h2]
      exact .cons (hhd.plain hI ho.1) (ownTo_rel hI hτ ho.2 htl)

/-- A body's end. -/
theorem end_sound (hc : CxOk P cx) {B : Bs} {N : Nat} (hg : glOk B cx.gl) {E' : Env} {a' : Act} {w' : World} {σ' : Sy} (hs' : StY B N E' a' w' σ') {fn : Func} {m : Nat} (hdom : ∀ h, B.β0 h ≠ none ∨ B.τ0 h ≠ none ∨ B.ζ0 h ≠ none → h < m) {r : SV} {ls' : List Hl} (hk : match resVs cx σ' fn.results.toList with
        | some vs => endK cx m vs σ' fun r' ls'' => Fin r' r ls'' ls'
        | none => False) : a'.defers = [] ∧ ∃ v, (results fn a'.tmps).run P w' = .ok v w' ∧ ∃ v_1 E', Ending.returned v = .returned v_1 ∧ Base B E' w' ∧ (∀ h, h < ls'.length → HOk E' w' h (hfOf ls' h)) ∧ Rel E' w' r v_1 := by
  split at hk
  · rename_i vs hvs
    obtain ⟨us, u1, u2⟩ := resVs_sound hc hg hs' fn.results.toList vs hvs
    have hbase := hs'.st.base
    have hres : (results fn a'.tmps).run P w' = .ok (if h : (⟨us⟩ : Array Value).size = 1 then (⟨us⟩ : Array Value)[0] else .tuple ⟨us⟩) w' := by
      rw [results_eq, Array.mapM_eq_mapM_toList]
      simp only [Sem.run_bind, Sem.run_map, u1, Result.andThen_ok, Sem.run_pure]
    unfold endK at hk
    rw [hc.D] at hk
    split at hk
    · obtain ⟨k1, k2, k3⟩ := hk
      refine ⟨hs'.st.defers, _, hres, _, E', rfl, hbase, fun h hlt => ?_, ?_⟩
      · refine k2 h E' w' ?_
        refine HOk.normH ?_
        have := hs'.st.heap h
        have hlt2 : h < m := by
          rw [len_normH, takeN_eq, List.length_take] at k3; omega
        simp only [hfOf, nth_eq, takeN_eq] at this ⊢
        rw [List.getElem?_take, if_pos hlt2]
        exact this
      · exact k1 E' w' _ (pack1_rel u2).norm.loose
    · rename_i h _
      split at hk
      · rename_i ty n sz gr f hcond hh
        simp only [Bool.and_eq_true] at hcond
        obtain ⟨⟨c1, c2⟩, c3⟩ := hcond
        have c1 := Nat.le_of_ble_eq_true c1
        obtain ⟨k1, k2, k3⟩ := hk
        have hm : m ≤ σ'.hp.length := by
          rw [nth_eq] at hh
          have := (List.getElem?_eq_some_iff.1 hh).1
          omega
        let O2 : Nat → Option Nat := fun b => (E'.O b).bind fun j => if j < m then some j else if j = h then some m else none
        let E2 : Env := ⟨fun k => if k < m then E'.β k else if k = m then E'.β h else none, fun k => if k < m then E'.τ k else if k = m then E'.τ h else none, O2, fun k => if k < m then E'.κ k else none, fun k => if k < m then E'.ζ k else if k = m then E'.ζ h else none, E'.I⟩
        have hbase2 : Base B E2 w' := by
          refine ⟨hbase.os, hbase.tape, hbase.output, hbase.size, hbase.old, hbase.I0, hbase.Ibd, hbase.Inew, fun b j hO => ?_, ⟨fun k b hk => ?_, fun k v hk => ?_, fun k z hk => ?_⟩⟩
          · have hO : (E'.O b).bind (fun j => if j < m then some j else if j = h then some m else none) = some j := hO
            cases hEO : E'.O b with
            | none => rw [hEO] at hO; cases hO
            | some q => exact hbase.Obd b q hEO
          · show (if k < m then E'.β k else if k = m then E'.β h else none) = some b
            rw [if_pos (hdom k (.inl (by rw [hk]; simp)))]; exact hbase.β0.β k b hk
          · show TauLe v (if k < m then E'.τ k else if k = m then E'.τ h else none)
            rw [if_pos (hdom k (.inr (.inl (by rw [hk]; simp))))]; exact hbase.β0.τ k v hk
          · show (if k < m then E'.ζ k else if k = m then E'.ζ h else none) = some z
            rw [if_pos (hdom k (.inr (.inr (by rw [hk]; simp))))]; exact hbase.β0.ζ k z hk
        have hO1 : ∀ b k, k < m → E'.O b = some k → O2 b = some k := fun b k hk hb => by simp [O2, hb, hk]
        have hO2 : ∀ b, E'.O b = some h → O2 b = some m := fun b hb => by
          simp only [O2, hb, Option.bind_some]
          rw [if_neg (by omega)]
          simp
        refine ⟨hs'.st.defers, _, hres, _, E2, rfl, hbase2, fun k hlt => ?_, ?_⟩
        · refine k2 k E2 w' ?_
          have hlen : (normH dn (takeN m σ'.hp ++ [.own ty n sz gr f])).length = m + 1 := by
            rw [len_normH, takeN_eq, List.length_append, List.length_take, Nat.min_eq_left hm]; rfl
          rw [hlen] at k3
          have htl : (takeN m σ'.hp).length = m := by rw [takeN_eq, List.length_take, Nat.min_eq_left hm]
          have hkk := hs'.st.heap
          by_cases hkm : k < m
          · have h1 : hfOf (normH dn (takeN m σ'.hp ++ [.own ty n sz gr f])) k = hfOf (normH dn (takeN m σ'.hp)) k := by
              simp only [hfOf, nth_eq, normH_get]
              rw [List.getElem?_append_left (by omega)]
            rw [h1]
            have h2 : HOk E' w' k (hfOf (normH dn (takeN m σ'.hp)) k) := by
              refine HOk.normH ?_
              have := hkk k
              simp only [hfOf, nth_eq, takeN_eq] at this ⊢
              rw [List.getElem?_take, if_pos hkm]
              exact this
            obtain ⟨l, hl⟩ : ∃ l, (normH dn (takeN m σ'.hp))[k]? = some l := ⟨_, List.getElem?_eq_getElem (by rw [len_normH]; omega)⟩
            have hle : hfOf (normH dn (takeN m σ'.hp)) k = l := by simp only [hfOf, nth_eq, hl, Option.getD_some]
            rw [hle] at h2 ⊢
            exact h2.move (plainH_get c3 hl) rfl (if_pos hkm) (if_pos hkm) (if_pos hkm) fun b hb => hO1 b k hkm hb
          · obtain rfl : k = m := by omega
            have h1 : hfOf (normH dn (takeN k σ'.hp ++ [.own ty n sz gr f])) k = .own ty (.a (dn.i n)) sz gr f := by
              simp only [hfOf, nth_eq, normH_get]
              rw [List.getElem?_append_right (by omega), htl, Nat.sub_self]
              rfl
            rw [h1]
            have h2 := hkk h
            rw [nth_hf hh] at h2
            have h3 : HOk E' w' h (.own ty (.a (dn.i n)) sz gr f) := h2
            refine h3.move trivial rfl ?_ ?_ ?_ hO2
            · show (if k < k then E'.β k else if k = k then E'.β h else none) = E'.β h
              rw [if_neg (by omega), if_pos rfl]
            · show (if k < k then E'.τ k else if k = k then E'.τ h else none) = E'.τ h
              rw [if_neg (by omega), if_pos rfl]
            · show (if k < k then E'.ζ k else if k = k then E'.ζ h else none) = E'.ζ h
              rw [if_neg (by omega), if_pos rfl]
        · have hτm : E2.τ m = E'.τ h := by
            show (if m < m then E'.τ m else if m = m then E'.τ h else none) = E'.τ h
            rw [if_neg (by omega), if_pos rfl]
          have hrel : RelL E2 w' (ownTo h m vs) us := ownTo_rel (E := E') (E' := E2) rfl hτm c2 u2
          exact k1 E2 w' _ (pack1_rel hrel).norm.loose
      · exact hk.elim
  · exact hk.elim

theorem start_sound {B : Bs} {E : Env} {w : World} {vals : List Value} {fn : Func} {as : List SV} {ls : List Hl} (hdom : ∀ h, B.β0 h ≠ none ∨ B.τ0 h ≠ none ∨ B.ζ0 h ≠ none → h < ls.length) (hb : Base B E w) (hh : ∀ h, HOk E w h (hfOf ls h)) (hr : RelL E w as vals) :
    StY B (startFr fn.ntmps as).length E { tmps := (⟨vals⟩ : Array Value) ++ Array.replicate (fn.ntmps - (⟨vals⟩ : Array Value).size) undef, defers := [] } w ⟨startFr fn.ntmps as, ls, []⟩ := by
  refine ⟨⟨hb, hh, fun s => ?_, ?_, rfl⟩, rfl, ⟨fun s g hs i hi => ?_, fun s g i hs hi => ?_, fun s g i hs hi => ?_⟩, hdom⟩
  · simp only [ffOf]
    cases hs : getO (startFr fn.ntmps as) s with
    | none => trivial
    | some g =>
      obtain ⟨v, hv, rfl⟩ := getO_start _ _ _ _ hs
      have hlt : s < as.length := (List.getElem?_eq_some_iff.1 hv).1
      have hlt2 : s < vals.length := by rw [← hr.1]; exact hlt
      have hget : ((⟨vals⟩ : Array Value) ++ Array.replicate (fn.ntmps - (⟨vals⟩ : Array Value).size) undef).getD s undef = vals[s] := by
        rw [Array.getD_eq_getD_getElem?, Array.getElem?_append_left (by simpa using hlt2)]
        simp [hlt2]
      refine ⟨by simp; omega, fun _ => ?_, fun h => absurd trivial h⟩
      rw [hget]
      exact hr.2 s v _ hv (List.getElem?_eq_getElem hlt2)
  · simp [startFr, lenN_eq, hr.1]
  · obtain ⟨v, _, rfl⟩ := getO_start _ _ _ _ hs; simp at hi
  · obtain ⟨v, _, rfl⟩ := getO_start _ _ _ _ hs; simp at hi
  · obtain ⟨v, _, rfl⟩ := getO_start _ _ _ _ hs; simp at hi

/-- A function by its body. -/
theorem callsTo_of_body (hd : DrawOk P) (hc : CxOk P cx) (htab : TabOk P cx.gl cx.tab) {f : FuncId} {fn : Func} (hf : P.funcs[f]? = some fn) {as : List SV} {ls : List Hl} {r : SV} {ls' : List Hl}
    (h : body cx fn as ls fun r' ls'' => Fin r' r ls'' ls') : CallsTo P cx.gl f as ls r ls' := by
  intro B E w vals hw0 hI0 hdom hb hg hh hr
  unfold body at h
  split at h
  · rename_i c hbody
    refine calls_of_wp hf hbody ?_
    refine wp_mono (exec_sound hd hc htab hg c _ _ h E _ w (start_sound hdom hb hh hr)) fun e a' w' hq => ?_
    obtain ⟨E', σ', hs', hk⟩ := hq
    cases e with
    | normal => rw [← lenN_eq ls] at hdom; exact end_sound hc hg hs' hdom hk
    | ret => rw [← lenN_eq ls] at hdom; exact end_sound hc hg hs' hdom hk
    | exit i => exact hk.elim
    | goto l => exact hk.elim
    | panic c => exact hk.elim
    | outgrown => exact hk.elim
  · exact h.elim

/-- A scope in which the run jumps back to one label, with a measure that need not be read off the frame. -/
theorem wp_scopeN {c rest : Code} {Q : Exit → Act → World → Prop} {a : Act} {w : World} (l : Nat) (hf : findLabel c l = some rest) (R : Nat → Act → World → Prop)
    (first : c.wp P (Exit.jump l (fun a w => ∃ n, R n a w) Q) a w)
    (pass : ∀ n a w, R n a w → rest.wp P (Exit.jump l (fun a' w' => ∃ n', n' < n ∧ R n' a' w') Q) a w) : (Code.scope c).wp P Q a w := by
  classical
  let μ : Act → World → Nat := fun a w => if h : ∃ n, R n a w then Classical.choose (exists_min h) else 0
  have hμ : ∀ a w, (∃ n, R n a w) → R (μ a w) a w ∧ ∀ m, R m a w → μ a w ≤ m := by
    intro a w h
    have : μ a w = Classical.choose (exists_min h) := by simp only [μ]; rw [dif_pos h]
    rw [this]
    exact Classical.choose_spec (exists_min h)
  refine wp_scope_jumps l (fun a w => ∃ n, R n a w) μ hf first fun a w hI => ?_
  obtain ⟨h1, h2⟩ := hμ a w hI
  refine wp_mono (pass _ a w h1) fun e a' w' hq => ?_
  cases e with
  | goto l' =>
    obtain ⟨rfl, n', hlt, hr⟩ := hq
    exact ⟨rfl, ⟨n', hr⟩, Nat.lt_of_le_of_lt ((hμ a' w' ⟨n', hr⟩).2 n' hr) hlt⟩
  | _ => exact hq

/-- A function by its body that jumps back to one label. -/
theorem callsTo_of_bodyJ (hd : DrawOk P) (hc : CxOk P cx) (htab : TabOk P cx.gl cx.tab) {f : FuncId} {fn : Func} (hf : P.funcs[f]? = some fn) {l : Nat} {pre c rest : Code} (hbody : fn.body = some (.seq pre (.scope c))) (hl : findLabel c l = some rest) {as : List SV} {ls : List Hl} {r : SV} {ls' : List Hl}
    (h : bodyJ cx fn pre c l rest as ls fun r' ls'' => Fin r' r ls'' ls') : CallsTo P cx.gl f as ls r ls' := by
  intro B E w vals hw0 hI0 hdom hb hg hh hr
  obtain ⟨keep, J, h1, h2⟩ := h
  rw [hc.D] at h1 h2
  have hdom' := hdom
  rw [← lenN_eq ls] at hdom'
  refine calls_of_wp hf hbody ?_
  refine wp_seq (wp_mono (exec_sound hd hc htab hg pre _ _ h1 E _ w (start_sound hdom hb hh hr)) fun e0 a0 w0 hq0 => ?_)
  obtain ⟨E0, σ0, hs0, hk0⟩ := hq0
  cases e0 with
  | ret => exact hk0.elim
  | exit i => exact hk0.elim
  | goto l => exact hk0.elim
  | panic c => exact hk0.elim
  | outgrown => exact hk0.elim
  | normal =>
  have h1 := hk0
  refine wp_scopeN l hl (fun m a w => ∃ vs hp E, J m vs hp ∧ StY B (startFr fn.ntmps as).length E a w ⟨mkfr (zipN keep vs) (blank (startFr fn.ntmps as)), hp, []⟩) ?_ ?_
  · refine wp_mono (exec_sound hd hc htab hg c _ _ h1 E0 _ w0 hs0) fun e a' w' hq => ?_
    obtain ⟨E', σ', hs', hk⟩ := hq
    cases e with
    | normal => exact end_sound hc hg hs' hdom' hk
    | ret => exact end_sound hc hg hs' hdom' hk
    | exit i => exact hk.elim
    | goto l' =>
      obtain ⟨rfl, hb2, m2, hJ2⟩ := hk
      exact ⟨rfl, m2, _, _, _, hJ2, hs'.head rfl hb2 hdom'⟩
    | panic c => exact hk.elim
    | outgrown => exact hk.elim
  · rintro m a1 w1 ⟨vs, hp, E1, hJ, hs1⟩
    refine wp_mono (exec_sound hd hc htab hg rest _ _ (h2 m vs hp hJ) E1 a1 w1 hs1) fun e a' w' hq => ?_
    obtain ⟨E', σ', hs', hk⟩ := hq
    cases e with
    | normal => exact end_sound hc hg hs' hdom' hk
    | ret => exact end_sound hc hg hs' hdom' hk
    | exit i => exact hk.elim
    | goto l' =>
      obtain ⟨rfl, hb2, m2, hlt, hJ2⟩ := hk
      exact ⟨rfl, m2, hlt, _, _, _, hJ2, hs'.head rfl hb2 hdom'⟩
    | panic c => exact hk.elim
    | outgrown => exact hk.elim

end
end Go.Sx
/- Regions that draw their order: one run in the order of the text serves every order. -/
namespace Go.Sx
open Go

abbrev Rec := Option (Sy × List Nat × Out)
abbrev X := (Nat → SG) × (Nat → Hl)

def updB (N : Nat) (f : Nat → SG) (d : Option Nat) (g : SG) : Nat → SG := fun s => if d = some s ∧ s < N then g else f s

def efAt (h : Nat) : Ef → Hl → Hl
  | .set h' off vs, x => if h' = h then (match x with | .blk ty cs => .blk ty (putN cs off vs) | x => x) else x
  | .put h' hl, x => if h' = h then hl else x
def efsAt (h : Nat) : List Ef → Hl → Hl
  | [], x => x
  | e :: es, x => efsAt h es (efAt h e x)

theorem efF_at (hf : Nat → Hl) (e : Ef) (h : Nat) : efF hf e h = efAt h e (hf h) := by
  cases e with
  | set h' off vs =>
    simp only [efF, efAt]
    by_cases e : h' = h
    · subst e
      rw [if_pos rfl]
      cases hx : hf h' <;> simp [upd, hx]
    · rw [if_neg e]
      cases hx : hf h' <;> simp [upd, Ne.symm e]
  | put h' hl =>
    simp only [efF, efAt, upd]
    by_cases e : h' = h
    · subst e; simp
    · rw [if_neg e, if_neg (fun h => e h.symm)]

theorem efsF_at (h : Nat) : ∀ (es : List Ef) (hf : Nat → Hl), efsF hf es h = efsAt h es (hf h)
  | [], _ => rfl
  | e :: es, hf => by
    show efsF (efF hf e) es h = efsAt h es (efAt h e (hf h))
    rw [efsF_at h es, efF_at]

def appR (N : Nat) (gm : List BT) (o : Oper) (rec : Rec) (x : X) : X :=
  match rec with
  | none => (updB N x.1 o.dst none, x.2)
  | some (_, T, r) => (updB N x.1 o.dst (some (condsOf gm T, r.v)), efsF x.2 r.efs)

def foldS (N : Nat) (gm : List BT) (S : Nat → Bool) : List (Oper × Rec) → Nat → X → X
  | [], _, x => x
  | p :: l, i, x => foldS N gm S l (i + 1) (if S i then appR N gm p.1 p.2 x else x)

def foldAll (N : Nat) (gm : List BT) : List (Oper × Rec) → X → X
  | [], x => x
  | p :: l, x => foldAll N gm l (appR N gm p.1 p.2 x)

theorem foldS_all {N : Nat} {gm : List BT} {S : Nat → Bool} : ∀ (L : List (Oper × Rec)) (k : Nat) (x : X), (∀ j, j < L.length → S (k + j) = true) → foldS N gm S L k x = foldAll N gm L x
  | [], _, _, _ => rfl
  | p :: L, k, x, h => by
    have h0 := h 0 (by simp)
    simp only [Nat.add_zero] at h0
    simp only [foldS, foldAll, h0, if_true]
    exact foldS_all L (k + 1) _ fun j hj => by have := h (j + 1) (by simpa using hj); rwa [show k + 1 + j = k + (j + 1) by omega]

theorem foldS_none {N : Nat} {gm : List BT} {S : Nat → Bool} : ∀ (L : List (Oper × Rec)) (k : Nat) (x : X), (∀ j, j < L.length → S (k + j) = false) → foldS N gm S L k x = x
  | [], _, _, _ => rfl
  | p :: L, k, x, h => by
    have h0 := h 0 (by simp)
    simp only [Nat.add_zero] at h0
    simp only [foldS, h0, Bool.false_eq_true, if_false]
    exact foldS_none L (k + 1) _ fun j hj => by have := h (j + 1) (by simpa using hj); rwa [show k + 1 + j = k + (j + 1) by omega]

theorem foldS_take {N : Nat} {gm : List BT} : ∀ (L : List (Oper × Rec)) (i k : Nat) (x : X), foldS N gm (fun j => decide (j < k + i)) L k x = foldAll N gm (L.take i) x
  | [], i, k, x => by simp [foldS, foldAll]
  | p :: L, 0, k, x => by
    simp only [List.take_zero, foldAll]
    exact foldS_none _ _ _ fun j _ => by simp
  | p :: L, i + 1, k, x => by
    simp only [foldS, List.take_succ_cons, foldAll]
    rw [if_pos (by simp)]
    have := foldS_take (N := N) (gm := gm) L i (k + 1) (appR N gm p.1 p.2 x)
    rw [← this]
    congr 1
    funext j
    congr 1
    exact propext (by omega)

/-! ### what the run gives -/

def StepAt (P : Program) (gl : List (Nat × SV)) (all : List Oper) (o : Oper) (gm : List BT) (σ : Sy) : Rec → Prop
  | none => guardOf all σ o.guard = some none
  | some (σ1, T, r) => guardOf all σ o.guard = some (some (σ1, T)) ∧ Local P gl σ1 T o r ∧ okEfs σ1.hp r.efs = true ∧ (T = [] ∨ r.efs = []) ∧ condsOf gm T = condsOf σ1.gm T

theorem condsOf_app {gm y : List BT} : ∀ {T : List Nat}, (∀ i ∈ T, i < gm.length) → condsOf (gm ++ y) T = condsOf gm T
  | [], _ => rfl
  | i :: T, h => by
    have h1 := condsOf_app (gm := gm) (y := y) (T := T) fun j hj => h j (List.mem_cons_of_mem _ hj)
    have h2 : nth (gm ++ y) i = nth gm i := by rw [nth_eq, nth_eq, List.getElem?_append_left (h i (List.mem_cons_self ..))]
    simp only [condsOf, List.filterMap_cons, h2] at *
    rw [h1]

theorem ffOf_setD (σ : Sy) (d : Option Nat) (g : Option G) (hp : List Hl) : ffOf ⟨setD σ.fr d g, hp, σ.gm⟩ = updB σ.fr.length (ffOf σ) d (g.map fun g => (condsOf σ.gm g.tg, g.v)) := by
  funext s
  cases d with
  | none => simp [setD, updB, ffOf]
  | some k =>
    simp only [setD, updB, ffOf, getO_set]
    by_cases e : s = k ∧ k < σ.fr.length
    · obtain ⟨rfl, h⟩ := e; simp [h]
    · rw [if_neg e, if_neg (fun h => e ⟨(Option.some.inj h.1).symm, by rw [Option.some.inj h.1]; exact h.2⟩)]

theorem runs_get {P : Program} {gl : List (Nat × SV)} {ops : Array Oper} {os : List Oper} {σ σ' : Sy} {rs : List Rec} (h : Runs P gl ops.toList os σ rs σ') : WfG σ → ∀ N, σ.fr.length = N →
    rs.length = os.length ∧ WfG σ' ∧ σ'.fr.length = N ∧ σ.hp.length ≤ σ'.hp.length ∧ (∃ y, σ'.gm = σ.gm ++ y) ∧ (ffOf σ', hfOf σ'.hp) = foldAll N σ'.gm (os.zip rs) (ffOf σ, hfOf σ.hp) ∧
    ∀ (i : Nat) (o : Oper) (rec : Rec), os[i]? = some o → rs[i]? = some rec → ∃ σi, WfG σi ∧ σi.fr.length = N ∧ (ffOf σi, hfOf σi.hp) = foldAll N σ'.gm ((os.zip rs).take i) (ffOf σ, hfOf σ.hp) ∧ StepAt P gl ops.toList o σ'.gm σi rec := by
  induction h with
  | nil σ => intro wf N hN; exact ⟨rfl, wf, hN, Nat.le_refl _, ⟨[], by simp⟩, rfl, by simp⟩
  | @skip o os σ σ' rs hg h ih =>
    intro wf N hN
    obtain ⟨h1, h2, h3, h4, ⟨y, h5⟩, h6, h7⟩ := ih (wf.setD o.dst none (by simp) σ.hp) N (by rw [len_setD]; exact hN)
    have hx : appR N σ'.gm o none (ffOf σ, hfOf σ.hp) = (ffOf ⟨setD σ.fr o.dst none, σ.hp, σ.gm⟩, hfOf σ.hp) := by
      simp only [appR]
      rw [ffOf_setD, hN]
      rfl
    refine ⟨by simp [h1], h2, h3, h4, ⟨y, h5⟩, ?_, fun i o' rec hi hr => ?_⟩
    · simp only [List.zip_cons_cons, foldAll]
      rw [hx]; exact h6
    · cases i with
      | zero =>
        simp at hi hr
        subst hi hr
        exact ⟨σ, wf, hN, rfl, hg⟩
      | succ i =>
        simp at hi hr
        obtain ⟨σi, w1, w2, w3, w4⟩ := h7 i o' rec hi hr
        refine ⟨σi, w1, w2, ?_, w4⟩
        simp only [List.zip_cons_cons, List.take_succ_cons, foldAll]
        rw [hx]; exact w3
  | @step o os σ σ1 σ' T r rs hg hl he hte h ih =>
    intro wf N hN
    obtain ⟨w1, w2, w3, w4, w5, ⟨z, w6⟩, _, _⟩ := guardOf_some (ops := ops) rfl hg wf
    obtain ⟨h1, h2, h3, h4, ⟨y, h5⟩, h6, h7⟩ := ih (w1.setD o.dst (some ⟨T, none, none, r.v⟩) (by rintro g' ⟨⟩; exact ⟨w5, rfl, rfl⟩) _) N (by rw [len_setD, w4]; exact hN)
    have hT : condsOf σ'.gm T = condsOf σ1.gm T := by rw [h5]; exact condsOf_app w5
    have hx : appR N σ'.gm o (some (σ1, T, r)) (ffOf σ, hfOf σ.hp) = (ffOf ⟨setD σ1.fr o.dst (some ⟨T, none, none, r.v⟩), efsH σ1.hp r.efs, σ1.gm⟩, hfOf (efsH σ1.hp r.efs)) := by
      simp only [appR]
      rw [ffOf_setD, hfOf_efsH _ _ he, w4, hN, w2, w3, hT]
      rfl
    refine ⟨by simp [h1], h2, h3, Nat.le_trans (by rw [← w3]; exact len_efsH _ _) h4, ⟨z ++ y, by rw [h5, w6, List.append_assoc]⟩, ?_, fun i o' rec hi hr => ?_⟩
    · simp only [List.zip_cons_cons, foldAll]
      rw [hx]; exact h6
    · cases i with
      | zero =>
        simp at hi hr
        subst hi hr
        exact ⟨σ, wf, hN, rfl, hg, hl, he, hte, hT⟩
      | succ i =>
        simp at hi hr
        obtain ⟨σi, q1, q2, q3, q4⟩ := h7 i o' rec hi hr
        refine ⟨σi, q1, q2, ?_, q4⟩
        simp only [List.zip_cons_cons, List.take_succ_cons, foldAll]
        rw [hx]; exact q3

/-! ### slots -/

theorem appR_slot {N : Nat} {gm : List BT} {o : Oper} {rec : Rec} {x : X} {s : Nat} (h : o.dst ≠ some s) : (appR N gm o rec x).1 s = x.1 s := by
  cases rec with
  | none => simp [appR, updB, h]
  | some p => obtain ⟨σ, T, r⟩ := p; simp [appR, updB, h]

theorem appR_slot_eq {N : Nat} {gm : List BT} {o : Oper} {rec : Rec} {x y : X} {s : Nat} (h : x.1 s = y.1 s) : (appR N gm o rec x).1 s = (appR N gm o rec y).1 s := by
  cases rec with
  | none => simp only [appR, updB]; split <;> simp [h]
  | some p => obtain ⟨σ, T, r⟩ := p; simp only [appR, updB]; split <;> simp [h]

theorem foldS_slot {N : Nat} {gm : List BT} {S S' : Nat → Bool} {s : Nat} : ∀ (L : List (Oper × Rec)) (k : Nat) (x y : X), x.1 s = y.1 s → (∀ (j : Nat) (p : Oper × Rec), L[j]? = some p → p.1.dst = some s → S (k + j) = S' (k + j)) →
    (foldS N gm S L k x).1 s = (foldS N gm S' L k y).1 s
  | [], _, _, _, h, _ => h
  | p :: L, k, x, y, h, hS => by
    simp only [foldS]
    refine foldS_slot L (k + 1) _ _ ?_ fun j q hq hd => by have := hS (j + 1) q (by simpa using hq) hd; rwa [show k + (j + 1) = k + 1 + j by omega] at this
    by_cases hd : p.1.dst = some s
    · have := hS 0 p rfl hd
      simp only [Nat.add_zero] at this
      rw [this]
      split
      · exact appR_slot_eq h
      · exact h
    · have a1 : (if S k then appR N gm p.1 p.2 x else x).1 s = x.1 s := by split; exact appR_slot hd; rfl
      have a2 : (if S' k then appR N gm p.1 p.2 y else y).1 s = y.1 s := by split; exact appR_slot hd; rfl
      rw [a1, a2, h]

/-! ### the heap, a heaplet at a time -/

def efsR : Rec → List Ef
  | none => []
  | some (_, _, r) => r.efs

theorem appR_heap {N : Nat} {gm : List BT} {o : Oper} {rec : Rec} {x : X} {h : Nat} : (appR N gm o rec x).2 h = efsAt h (efsR rec) (x.2 h) := by
  cases rec with
  | none => rfl
  | some p => obtain ⟨σ, T, r⟩ := p; exact efsF_at h r.efs x.2

def foldH (h : Nat) (S : Nat → Bool) : List (Oper × Rec) → Nat → Hl → Hl
  | [], _, x => x
  | p :: l, i, x => foldH h S l (i + 1) (if S i then efsAt h (efsR p.2) x else x)

theorem foldS_heap {N : Nat} {gm : List BT} {S : Nat → Bool} {h : Nat} : ∀ (L : List (Oper × Rec)) (k : Nat) (x : X), (foldS N gm S L k x).2 h = foldH h S L k (x.2 h)
  | [], _, _ => rfl
  | p :: L, k, x => by
    simp only [foldS, foldH]
    rw [foldS_heap L]
    congr 1
    split
    · exact appR_heap
    · rfl

theorem anyR_false {x : Nat × Option (Nat × Nat)} : ∀ {l : List (Nat × Option (Nat × Nat))}, anyR x l = false → ∀ y ∈ l, meetsR x y = false
  | [], _, y, hy => by cases hy
  | z :: l, h, y, hy => by
    simp only [anyR, Bool.or_eq_false_iff] at h
    rcases List.mem_cons.1 hy with rfl | hy
    · exact h.1
    · exact anyR_false h.2 y hy
theorem meetsW_false {t : List (Nat × Option (Nat × Nat))} : ∀ {l : List (Nat × Option (Nat × Nat))}, meetsW l t = false → ∀ x ∈ l, ∀ y ∈ t, meetsR x y = false
  | [], _, x, hx, _, _ => by cases hx
  | z :: l, h, x, hx, y, hy => by
    simp only [meetsW, Bool.or_eq_false_iff] at h
    rcases List.mem_cons.1 hx with rfl | hx
    · exact anyR_false h.1 y hy
    · exact meetsW_false h.2 x hx y hy

theorem meetsR_comm (x y : Nat × Option (Nat × Nat)) : meetsR x y = meetsR y x := by
  obtain ⟨h, a⟩ := x
  obtain ⟨k, b⟩ := y
  simp only [meetsR]
  have e : (h == k) = (k == h) := BEq.comm
  rw [e]
  congr 1
  cases a with
  | none => cases b <;> rfl
  | some a => cases b with
    | none => rfl
    | some b => simp [Bool.and_comm]

def same (x y : Hl) (U : Nat → Prop) : Prop := x = y ∨ ∃ ty cs cs', x = .blk ty cs ∧ y = .blk ty cs' ∧ cs'.length = cs.length ∧ ∀ j, U j → cs'[j]? = cs[j]?

theorem get_putN_out {α : Type} : ∀ (vs l : List α) (off i : Nat), (i < off ∨ off + vs.length ≤ i) → (putN l off vs)[i]? = l[i]?
  | [], _, _, _, _ => rfl
  | v :: vs, l, off, i, h => by
    simp only [List.length_cons] at h
    rw [putN, get_putN_out vs _ (off + 1) i (by omega), setN_eq, List.getElem?_set_ne (by omega)]

theorem get_putN_same {α : Type} : ∀ (vs l l' : List α) (off i : Nat), l'.length = l.length → l'[i]? = l[i]? → (putN l' off vs)[i]? = (putN l off vs)[i]?
  | [], _, _, _, _, _, h => h
  | v :: vs, l, l', off, i, hl, h => by
    rw [putN, putN]
    refine get_putN_same vs _ _ (off + 1) i (by simp [setN_eq, hl]) ?_
    rw [setN_eq, setN_eq, List.getElem?_set, List.getElem?_set, hl, h]

/-- One and the same change on both sides. -/
theorem same_both {h : Nat} {U : Nat → Prop} : ∀ (es : List Ef) {x y : Hl}, same x y U → same (efsAt h es x) (efsAt h es y) U
  | [], _, _, hs => hs
  | e :: es, x, y, hs => by
    refine same_both es ?_
    rcases hs with rfl | ⟨ty, cs, cs', rfl, rfl, hl, hU⟩
    · exact .inl rfl
    · cases e with
      | set h' off vs =>
        simp only [efAt]
        split
        · exact .inr ⟨ty, _, _, rfl, rfl, by rw [len_putN, len_putN, hl], fun j hj => get_putN_same vs _ _ off j hl (hU j hj)⟩
        · exact .inr ⟨ty, cs, cs', rfl, rfl, hl, hU⟩
      | put h' hl' =>
        simp only [efAt]
        split
        · exact .inl rfl
        · exact .inr ⟨ty, cs, cs', rfl, rfl, hl, hU⟩

theorem same_trans {x y z : Hl} {U : Nat → Prop} (h1 : same x y U) (h2 : same y z U) : same x z U := by
  rcases h1 with rfl | ⟨ty, cs, cs', rfl, rfl, hl, hU⟩
  · exact h2
  · rcases h2 with rfl | ⟨ty2, cs2, cs3, e, rfl, hl2, hU2⟩
    · exact .inr ⟨ty, cs, cs', rfl, rfl, hl, hU⟩
    · cases e
      exact .inr ⟨ty, cs, cs3, rfl, rfl, by rw [hl2, hl], fun j hj => by rw [hU2 j hj, hU j hj]⟩
theorem same_symm {x y : Hl} {U : Nat → Prop} (h1 : same x y U) : same y x U := by
  rcases h1 with rfl | ⟨ty, cs, cs', rfl, rfl, hl, hU⟩
  · exact .inl rfl
  · exact .inr ⟨ty, cs', cs, rfl, rfl, hl.symm, fun j hj => (hU j hj).symm⟩

def inR (ρ : Nat × Option (Nat × Nat)) (j : Nat) : Prop := match ρ.2 with
  | none => True
  | some (off, n) => off ≤ j ∧ j < off + n

/-- A change that does not meet the region. -/
theorem same_apart {ρ : Nat × Option (Nat × Nat)} : ∀ (es : List Ef) (x : Hl), (∀ y ∈ efW es, meetsR y ρ = false) → same x (efsAt ρ.1 es x) (inR ρ) ∧ (ρ.2 = none → efsAt ρ.1 es x = x)
  | [], x, _ => ⟨.inl rfl, fun _ => rfl⟩
  | e :: es, x, h => by
    have head : same x (efAt ρ.1 e x) (inR ρ) ∧ (ρ.2 = none → efAt ρ.1 e x = x) := by
      obtain ⟨hh, a⟩ := ρ
      cases e with
      | set h' off vs =>
        have hm := h (h', some (off, lenN vs)) (by simp [efW])
        simp only [efAt]
        by_cases e : h' = hh
        · subst e
          rw [if_pos rfl]
          cases x <;> try exact ⟨.inl rfl, fun _ => rfl⟩
          rename_i ty cs
          cases a with
          | none => simp [meetsR] at hm
          | some a =>
            obtain ⟨o2, n2⟩ := a
            simp only [meetsR, beq_self_eq_true, Bool.true_and, lenN_eq, Bool.and_eq_false_iff] at hm
            refine ⟨.inr ⟨ty, cs, _, rfl, rfl, len_putN _ _ _, fun j hj => get_putN_out _ _ _ _ ?_⟩, fun h => by cases h⟩
            simp only [inR] at hj
            rcases hm with hm | hm
            · have : ¬ off < o2 + n2 := by intro hlt; rw [(Nat.blt_eq ▸ hlt : Nat.blt _ _ = true)] at hm; cases hm
              omega
            · have : ¬ o2 < off + vs.length := by intro hlt; rw [(Nat.blt_eq ▸ hlt : Nat.blt _ _ = true)] at hm; cases hm
              omega
        · rw [if_neg e]; exact ⟨.inl rfl, fun _ => rfl⟩
      | put h' hl =>
        have hm := h (h', none) (by simp [efW])
        simp only [efAt]
        by_cases e : h' = hh
        · subst e; simp [meetsR] at hm
        · rw [if_neg e]; exact ⟨.inl rfl, fun _ => rfl⟩
    have htl : ∀ y ∈ efW es, meetsR y ρ = false := fun y hy => h y (by cases e <;> simp [efW, hy])
    obtain ⟨t1, t2⟩ := same_apart es (efAt ρ.1 e x) htl
    exact ⟨same_trans head.1 t1, fun hn => by show efsAt ρ.1 es (efAt ρ.1 e x) = x; rw [t2 hn, head.2 hn]⟩

theorem foldH_agree {ρ : Nat × Option (Nat × Nat)} {S S' : Nat → Bool} : ∀ (L : List (Oper × Rec)) (k : Nat) (x y : Hl), same x y (inR ρ) → (ρ.2 = none → x = y) → (∀ (j : Nat) (p : Oper × Rec), L[j]? = some p → S (k + j) ≠ S' (k + j) → ∀ z ∈ efW (efsR p.2), meetsR z ρ = false) →
    same (foldH ρ.1 S L k x) (foldH ρ.1 S' L k y) (inR ρ) ∧ (ρ.2 = none → foldH ρ.1 S L k x = foldH ρ.1 S' L k y)
  | [], _, _, _, h, hn, _ => ⟨h, hn⟩
  | p :: L, k, x, y, h, hn, hS => by
    simp only [foldH]
    have hrec := fun (x' y' : Hl) (hs : same x' y' (inR ρ)) (he : ρ.2 = none → x' = y') => foldH_agree (ρ := ρ) (S := S) (S' := S') L (k + 1) x' y' hs he fun j q hq hd => hS (j + 1) q (by simpa using hq) (by rwa [show k + (j + 1) = k + 1 + j by omega])
    have h0 := hS 0 p rfl
    simp only [Nat.add_zero] at h0
    cases hSk : S k <;> cases hSk' : S' k
    · exact hrec x y h hn
    · obtain ⟨a1, a2⟩ := same_apart (ρ := ρ) (efsR p.2) y (h0 (by rw [hSk, hSk']; decide))
      exact hrec x _ (same_trans h a1) (fun e => by rw [if_pos rfl, a2 e]; exact hn e)
    · obtain ⟨a1, a2⟩ := same_apart (ρ := ρ) (efsR p.2) x (h0 (by rw [hSk, hSk']; decide))
      exact hrec _ y (same_trans (same_symm a1) h) (fun e => by rw [if_pos rfl, a2 e]; exact hn e)
    · exact hrec _ _ (same_both _ h) (fun e => by rw [hn e])

/-! ### changes that do not meet may come in either order -/

theorem putN_setN {α : Type} : ∀ (vs l : List α) (off i : Nat) (v : α), (i < off ∨ off + vs.length ≤ i) → putN (setN l i v) off vs = setN (putN l off vs) i v
  | [], _, _, _, _, _ => rfl
  | u :: vs, l, off, i, v, h => by
    simp only [List.length_cons] at h
    rw [putN, putN, ← putN_setN vs _ (off + 1) i v (by omega)]
    congr 1
    rw [setN_eq, setN_eq, setN_eq, setN_eq, List.set_comm _ _ (by omega)]
theorem putN_putN {α : Type} : ∀ (us vs l : List α) (o1 o2 : Nat), (o1 + us.length ≤ o2 ∨ o2 + vs.length ≤ o1 ∨ us = [] ∨ vs = []) → putN (putN l o1 us) o2 vs = putN (putN l o2 vs) o1 us
  | [], vs, l, o1, o2, _ => rfl
  | u :: us, [], l, o1, o2, _ => rfl
  | u :: us, v :: vs, l, o1, o2, h => by
    have h : o1 + (us.length + 1) ≤ o2 ∨ o2 + (vs.length + 1) ≤ o1 := by
      rcases h with h | h | h | h
      · exact .inl h
      · exact .inr h
      · cases h
      · cases h
    rw [show putN l o1 (u :: us) = putN (setN l o1 u) (o1 + 1) us from rfl, putN_putN us (v :: vs) (setN l o1 u) (o1 + 1) o2 (by simp only [List.length_cons]; omega)]
    rw [putN_setN (v :: vs) l o2 o1 u (by simp only [List.length_cons]; omega)]
    rfl

theorem efAt_comm {h : Nat} {e e' : Ef} {y y' : Nat × Option (Nat × Nat)} (hy : efW [e] = [y]) (hy' : efW [e'] = [y']) (hm : meetsR y y' = false) (x : Hl) : efAt h e (efAt h e' x) = efAt h e' (efAt h e x) := by
  cases e with
  | set h1 o1 us =>
    cases e' with
    | set h2 o2 vs =>
      simp only [efAt]
      by_cases e1 : h1 = h <;> by_cases e2 : h2 = h <;> simp only [e1, e2, if_true, if_false]
      subst e1
      cases x <;> try rfl
      simp only [efW, List.cons.injEq, and_true] at hy hy'
      subst hy hy'
      subst e2
      simp only [meetsR, beq_self_eq_true, Bool.true_and, Bool.and_eq_false_iff, lenN_eq] at hm
      refine congrArg (Hl.blk _) (putN_putN us vs _ o1 o2 ?_).symm
      rcases hm with hm | hm
      · have : ¬ o1 < o2 + vs.length := by intro hlt; rw [(Nat.blt_eq ▸ hlt : Nat.blt _ _ = true)] at hm; cases hm
        exact .inr (.inl (by omega))
      · have : ¬ o2 < o1 + us.length := by intro hlt; rw [(Nat.blt_eq ▸ hlt : Nat.blt _ _ = true)] at hm; cases hm
        exact .inl (by omega)
    | put h2 hl =>
      simp only [efAt]
      by_cases e1 : h1 = h <;> by_cases e2 : h2 = h <;> simp only [e1, e2, if_true, if_false]
      simp only [efW, List.cons.injEq, and_true] at hy hy'
      subst hy hy'
      simp [meetsR, e1, e2] at hm
  | put h1 hl =>
    cases e' with
    | set h2 o2 vs =>
      simp only [efAt]
      by_cases e1 : h1 = h <;> by_cases e2 : h2 = h <;> simp only [e1, e2, if_true, if_false]
      simp only [efW, List.cons.injEq, and_true] at hy hy'
      subst hy hy'
      simp [meetsR, e1, e2] at hm
    | put h2 hl2 =>
      simp only [efAt]
      by_cases e1 : h1 = h <;> by_cases e2 : h2 = h <;> simp only [e1, e2, if_true, if_false]
      simp only [efW, List.cons.injEq, and_true] at hy hy'
      subst hy hy'
      simp [meetsR, e1, e2] at hm

theorem efW_one (e : Ef) : ∃ y, efW [e] = [y] := by cases e <;> exact ⟨_, rfl⟩
theorem efW_cons (e : Ef) (es : List Ef) {y : Nat × Option (Nat × Nat)} (hy : efW [e] = [y]) : efW (e :: es) = y :: efW es := by
  cases e <;> simp only [efW, List.cons.injEq, and_true] at hy ⊢ <;> exact hy

theorem efsAt_ef {h : Nat} {e : Ef} {y : Nat × Option (Nat × Nat)} (hy : efW [e] = [y]) : ∀ (es : List Ef) (x : Hl), (∀ z ∈ efW es, meetsR y z = false) → efsAt h es (efAt h e x) = efAt h e (efsAt h es x)
  | [], _, _ => rfl
  | e' :: es, x, hm => by
    obtain ⟨y', hy'⟩ := efW_one e'
    rw [efW_cons e' es hy'] at hm
    show efsAt h es (efAt h e' (efAt h e x)) = efAt h e (efsAt h es (efAt h e' x))
    rw [← efsAt_ef hy es (efAt h e' x) fun z hz => hm z (List.mem_cons_of_mem _ hz)]
    rw [efAt_comm hy hy' (hm y' (List.mem_cons_self ..))]

theorem efsAt_comm {h : Nat} : ∀ (es es' : List Ef) (x : Hl), (∀ y ∈ efW es, ∀ z ∈ efW es', meetsR y z = false) → efsAt h es' (efsAt h es x) = efsAt h es (efsAt h es' x)
  | [], _, _, _ => rfl
  | e :: es, es', x, hm => by
    obtain ⟨y, hy⟩ := efW_one e
    rw [efW_cons e es hy] at hm
    show efsAt h es' (efsAt h es (efAt h e x)) = efsAt h es (efAt h e (efsAt h es' x))
    rw [efsAt_comm es es' _ fun y hy => hm y (List.mem_cons_of_mem _ hy)]
    rw [efsAt_ef hy es' x (hm y (List.mem_cons_self ..))]

theorem foldH_comm {h : Nat} {S : Nat → Bool} {es : List Ef} : ∀ (L : List (Oper × Rec)) (k : Nat) (x : Hl), (∀ (j : Nat) (p : Oper × Rec), L[j]? = some p → S (k + j) = true → ∀ y ∈ efW es, ∀ z ∈ efW (efsR p.2), meetsR y z = false) →
    foldH h S L k (efsAt h es x) = efsAt h es (foldH h S L k x)
  | [], _, _, _ => rfl
  | p :: L, k, x, hm => by
    simp only [foldH]
    have hrec := fun x => foldH_comm (h := h) (S := S) (es := es) L (k + 1) x fun j q hq hd => hm (j + 1) q (by simpa using hq) (by rwa [show k + (j + 1) = k + 1 + j by omega])
    cases hSk : S k with
    | false => exact hrec x
    | true =>
      simp only [if_true]
      rw [efsAt_comm es (efsR p.2) x (hm 0 p rfl (by simpa using hSk)), hrec]

theorem foldH_insert {h : Nat} {S S' : Nat → Bool} : ∀ (L : List (Oper × Rec)) (i k : Nat) (x : Hl) (p : Oper × Rec), L[i]? = some p → S (k + i) = false → S' (k + i) = true → (∀ j, j ≠ k + i → S' j = S j) →
    (∀ (j : Nat) (q : Oper × Rec), i < j → L[j]? = some q → S (k + j) = true → ∀ y ∈ efW (efsR p.2), ∀ z ∈ efW (efsR q.2), meetsR y z = false) →
    foldH h S' L k x = efsAt h (efsR p.2) (foldH h S L k x)
  | [], i, _, _, _, h, _, _, _, _ => by simp at h
  | q :: L, 0, k, x, p, hp, h1, h2, hS, hm => by
    simp at hp
    subst hp
    simp only [Nat.add_zero] at h1 h2
    simp only [foldH, h1, h2, if_true, Bool.false_eq_true, if_false]
    have e : foldH h S' L (k + 1) (efsAt h (efsR q.2) x) = foldH h S L (k + 1) (efsAt h (efsR q.2) x) := by
      have : ∀ (L : List (Oper × Rec)) (m : Nat) (x : Hl), k < m → foldH h S' L m x = foldH h S L m x := by
        intro L
        induction L with
        | nil => intro m x _; rfl
        | cons r L ih => intro m x hlt; simp only [foldH]; rw [hS m (by omega)]; exact ih _ _ (by omega)
      exact this L (k + 1) _ (by omega)
    rw [e]
    exact foldH_comm L (k + 1) x fun j r hr hd => hm (j + 1) r (by omega) (by simpa using hr) (by rwa [show k + (j + 1) = k + 1 + j by omega])
  | q :: L, i + 1, k, x, p, hp, h1, h2, hS, hm => by
    simp only [foldH]
    rw [hS k (by omega)]
    exact foldH_insert L i (k + 1) _ p (by simpa using hp) (by rwa [show k + 1 + i = k + (i + 1) by omega]) (by rwa [show k + 1 + i = k + (i + 1) by omega]) (fun j hj => hS j (by omega))
      fun j r hj hr hd => hm (j + 1) r (by omega) (by simpa using hr) (by rwa [show k + (j + 1) = k + 1 + j by omega])

end Go.Sx
/- Any order. -/
namespace Go.Sx
open Go

/-! ### what comes before what -/

theorem mem_edgesL {n : Nat} : ∀ {es : List Edge}, n ∈ edgesL es → ∃ e ∈ es, Region.binds .any e = true ∧ e.on = n
  | [], h => by simp [edgesL] at h
  | e :: es, h => by
    simp only [edgesL, List.mem_append] at h
    rcases h with h | h
    · refine ⟨e, List.mem_cons_self .., ?_⟩
      cases hg : e.ground <;> simp only [hg, List.mem_singleton, List.not_mem_nil] at h <;> exact ⟨by simp [Region.binds, hg], h.symm⟩
    · obtain ⟨e', h1, h2⟩ := mem_edgesL h
      exact ⟨e', List.mem_cons_of_mem _ h1, h2⟩
theorem edgesL_mem {e : Edge} : ∀ {es : List Edge}, e ∈ es → Region.binds .any e = true → e.on ∈ edgesL es
  | [], h, _ => by cases h
  | e' :: es, h, hb => by
    simp only [edgesL, List.mem_append]
    rcases List.mem_cons.1 h with rfl | h
    · left
      cases hg : e.ground <;> simp [Region.binds, hg] at hb ⊢
    · exact .inr (edgesL_mem h hb)

theorem mem_unionN {x : Nat} : ∀ {l t : List Nat}, x ∈ unionN l t → x ∈ l ∨ x ∈ t
  | [], _, h => .inr h
  | y :: l, t, h => by
    rcases mem_unionN (l := l) h with h | h
    · exact .inl (List.mem_cons_of_mem _ h)
    · unfold addN at h
      split at h
      · exact .inr h
      · rcases List.mem_cons.1 h with rfl | h
        · exact .inl (List.mem_cons_self ..)
        · exact .inr h
theorem mem_addN {x y : Nat} {l : List Nat} (h : x ∈ addN y l) : x = y ∨ x ∈ l := by
  unfold addN at h
  split at h
  · exact .inr h
  · exact List.mem_cons.1 h

theorem mem_backed {acc : List (List Nat)} {x : Nat} : ∀ {l : List Nat}, x ∈ backed acc l → ∃ i ∈ l, x = i ∨ x ∈ (nth acc i).getD []
  | [], h => by simp [backed] at h
  | i :: l, h => by
    simp only [backed] at h
    rcases mem_unionN h with h | h
    · exact ⟨i, List.mem_cons_self .., mem_addN h⟩
    · obtain ⟨j, h1, h2⟩ := mem_backed h
      exact ⟨j, List.mem_cons_of_mem _ h1, h2⟩

theorem lowAll_iff {n : Nat} : ∀ {l : List Nat}, lowAll n l = true → ∀ x ∈ l, x < n
  | [], _, x, h => by cases h
  | y :: l, h, x, hx => by
    simp only [lowAll, Bool.and_eq_true, Nat.blt_eq] at h
    rcases List.mem_cons.1 hx with rfl | hx
    · exact h.1
    · exact lowAll_iff h.2 x hx

theorem edgesOk_get : ∀ {os : List Oper} {k : Nat}, edgesOk os k = true → ∀ {j : Nat} {o : Oper}, os[j]? = some o → ∀ x ∈ edgesL o.after.toList, x < k + j
  | [], _, _, j, o, h => by simp at h
  | o0 :: os, k, hk, j, o, h => by
    simp only [edgesOk, Bool.and_eq_true] at hk
    cases j with
    | zero => simp at h; subst h; exact lowAll_iff hk.1
    | succ j =>
      simp at h
      intro x hx
      have := edgesOk_get hk.2 h x hx
      omega

/-- What must come before has come. -/
theorem befores_in {S : Nat → Prop} {all : List Oper} (hdown : ∀ (k : Nat) (o : Oper), all[k]? = some o → S k → ∀ x ∈ edgesL o.after.toList, S x) (hok : edgesOk all 0 = true) :
    ∀ (os : List Oper) (acc : List (List Nat)), (∀ (j : Nat) (o : Oper), os[j]? = some o → all[acc.length + j]? = some o) →
      (∀ (j : Nat) (o : Oper) (l : List Nat), all[j]? = some o → acc[j]? = some l → (∀ x ∈ edgesL o.after.toList, S x) → ∀ x ∈ l, S x) →
      ∀ (j : Nat) (o : Oper) (l : List Nat), all[j]? = some o → (befores os acc)[j]? = some l → (∀ x ∈ edgesL o.after.toList, S x) → ∀ x ∈ l, S x
  | [], acc, _, hacc => fun j o l ho hl => hacc j o l ho hl
  | o0 :: os, acc, hal, hacc => by
    have h0 := hal 0 o0 rfl
    simp only [Nat.add_zero] at h0
    refine befores_in hdown hok os (acc ++ [backed acc (edgesL o0.after.toList)]) (fun j o h => ?_) (fun j o l ho hl he x hx => ?_)
    · have := hal (j + 1) o (by simpa using h)
      simp only [List.length_append, List.length_singleton]
      rwa [show acc.length + 1 + j = acc.length + (j + 1) by omega]
    · by_cases hj : j < acc.length
      · rw [List.getElem?_append_left hj] at hl
        exact hacc j o l ho hl he x hx
      · have hje : j = acc.length := by
          have := (List.getElem?_eq_some_iff.1 hl).1
          simp at this
          omega
        subst hje
        rw [h0] at ho
        cases ho
        simp at hl
        subst hl
        obtain ⟨i, hi, hx⟩ := mem_backed hx
        have hSi := he i hi
        rcases hx with rfl | hx
        · exact hSi
        · have hlt : i < acc.length := by have := edgesOk_get hok h0 i hi; omega
          have hai : all[i]? = some (all[i]'(by have := (List.getElem?_eq_some_iff.1 h0).1; omega)) := List.getElem?_eq_getElem _
          rw [nth_eq, List.getElem?_eq_getElem hlt] at hx
          exact hacc i _ _ hai (List.getElem?_eq_getElem hlt) (hdown i _ hai hSi) x hx

theorem apartFrom_get {all : List Oper} {bs : List (List Nat)} {i : Nat} {o : Oper} {f : FP} : ∀ {os : List Oper} {fs : List FP} {j : Nat}, apartFrom all bs i o f os fs j = true → ∀ {m : Nat} {o' : Oper} {f' : FP}, os[m]? = some o' → fs[m]? = some f' →
    clash all o f o' f' = false ∨ i ∈ (nth bs (j + m)).getD []
  | [], _, _, _, m, o', f', h, _ => by simp at h
  | _ :: _, [], _, _, m, o', f', _, h => by simp at h
  | o1 :: os, f1 :: fs, j, h, m, o', f', h1, h2 => by
    simp only [apartFrom, Bool.and_eq_true, Bool.or_eq_true, Bool.not_eq_true', hasN_iff] at h
    cases m with
    | zero => simp at h1 h2; subst h1 h2; exact h.1
    | succ m =>
      simp at h1 h2
      have := apartFrom_get h.2 h1 h2
      rwa [show j + 1 + m = j + (m + 1) by omega] at this

theorem indep_get {all : List Oper} {bs : List (List Nat)} : ∀ {os : List Oper} {fs : List FP} {k : Nat}, indep all bs os fs k = true → ∀ {i j : Nat} {o o' : Oper} {f f' : FP}, i < j → os[i]? = some o → os[j]? = some o' → fs[i]? = some f → fs[j]? = some f' →
    clash all o f o' f' = false ∨ (k + i) ∈ (nth bs (k + j)).getD []
  | [], _, _, _, i, j, o, o', f, f', _, h, _, _, _ => by simp at h
  | _ :: _, [], _, _, i, j, o, o', f, f', _, _, _, h, _ => by simp at h
  | o1 :: os, f1 :: fs, k, h, i, j, o, o', f, f', hij, h1, h2, h3, h4 => by
    simp only [indep, Bool.and_eq_true] at h
    obtain ⟨m, rfl⟩ : ∃ m, j = m + 1 := ⟨j - 1, by omega⟩
    simp at h2 h4
    cases i with
    | zero =>
      simp at h1 h3
      subst h1 h3
      have := apartFrom_get h.1 h2 h4
      simpa [show k + 1 + m = k + (m + 1) by omega] using this
    | succ i =>
      simp at h1 h3
      have := indep_get h.2 (i := i) (j := m) (by omega) h1 h2 h3 h4
      rwa [show k + 1 + i = k + (i + 1) by omega, show k + 1 + m = k + (m + 1) by omega] at this

theorem mem_slotsL {s : Nat} : ∀ {xs : List Operand}, s ∈ xs.flatMap opSlots → s ∈ slotsL xs
  | [], h => by simp at h
  | x :: xs, h => by
    simp only [List.flatMap_cons, List.mem_append] at h
    simp only [slotsL, List.mem_append]
    rcases h with h | h
    · left
      cases x with
      | tmp _ => simpa [opSlots, opSlot] using h
      | _ => simp [opSlots] at h
    · exact .inr (mem_slotsL h)

theorem meetsN_false {t : List Nat} : ∀ {l : List Nat}, meetsN l t = false → ∀ x ∈ l, x ∉ t
  | [], _, x, h => by cases h
  | y :: l, h, x, hx => by
    simp only [meetsN, Bool.or_eq_false_iff] at h
    rcases List.mem_cons.1 hx with rfl | hx
    · intro hm; rw [(hasN_iff _ _).2 hm] at h; cases h.1
    · exact meetsN_false h.2 x hx

theorem guardSlot_mem {all : List Oper} {o : Oper} {j : Nat} {want : Bool} {s : Nat} (hg : o.guard = some (j, want)) (h : (nth all j).bind (·.dst) = some s) : s ∈ guardSlot all o.guard := by
  rw [hg]
  simp only [guardSlot]
  cases hj : nth all j with
  | none => rw [hj] at h; cases h
  | some oj =>
    rw [hj] at h
    simp only [Option.bind_some] at h
    simp [h]

section
variable {P : Program} {ops : Array Oper} {gl : List (Nat × SV)} {B : Bs} {N : Nat} {σ σ' : Sy} {rs : List Rec}

/-- All that the run and the check give, at once. -/
structure Ctx (P : Program) (ops : Array Oper) (gl : List (Nat × SV)) (N : Nat) (σ σ' : Sy) (rs : List Rec) : Prop where
  len : rs.length = ops.size
  step : ∀ (i : Nat) (o : Oper) (rec : Rec), ops[i]? = some o → rs[i]? = some rec → ∃ σi, WfG σi ∧ σi.fr.length = N ∧ (ffOf σi, hfOf σi.hp) = foldAll N σ'.gm ((ops.toList.zip rs).take i) (ffOf σ, hfOf σ.hp) ∧ StepAt P gl ops.toList o σ'.gm σi rec
  edges : edgesOk ops.toList 0 = true
  ind : indep ops.toList (befores ops.toList []) ops.toList (rs.map fpR) 0 = true

def xS (N : Nat) (ops : Array Oper) (σ σ' : Sy) (rs : List Rec) (S : Nat → Bool) : X := foldS N σ'.gm S (ops.toList.zip rs) 0 (ffOf σ, hfOf σ.hp)

/-- Nothing that is not in place is in the way. -/
structure Down (ops : Array Oper) (S : Nat → Bool) : Prop where
  down : ∀ (k : Nat) (o : Oper), ops[k]? = some o → S k = true → ∀ x ∈ edgesL o.after.toList, S x = true

theorem before_S (h : Ctx P ops gl N σ σ' rs) {S : Nat → Bool} (hd : Down ops S) {j : Nat} {o : Oper} (ho : ops[j]? = some o) (he : ∀ x ∈ edgesL o.after.toList, S x = true) {i : Nat} (hi : i ∈ (nth (befores ops.toList []) j).getD []) : S i = true := by
  rw [nth_eq] at hi
  cases hl : (befores ops.toList [])[j]? with
  | none => rw [hl] at hi; simp at hi
  | some l =>
    rw [hl] at hi
    refine befores_in (S := fun i => S i = true) (all := ops.toList) (fun k o ho hs => hd.down k o (by rw [← Array.getElem?_toList]; exact ho) hs) h.edges ops.toList [] (by simp) (by simp) j o l (by rw [Array.getElem?_toList]; exact ho) hl he i hi

theorem fpR_wr (rec : Rec) : (fpR rec).wr = efW (efsR rec) := by
  cases rec with
  | none => rfl
  | some p => obtain ⟨a, b, c⟩ := p; rfl

/-- An operation that may come now: it is apart from each that differs between what has come and what comes before it in the text. -/
theorem apart_of (h : Ctx P ops gl N σ σ' rs) {S : Nat → Bool} (hd : Down ops S) {i : Nat} {o : Oper} {rec : Rec} (ho : ops[i]? = some o) (hr : rs[i]? = some rec) (hi : S i = false) (he : ∀ x ∈ edgesL o.after.toList, S x = true)
    {k : Nat} {p : Oper × Rec} (hk : (ops.toList.zip rs)[k]? = some p) (hdiff : S k ≠ decide (k < i)) :
    (∀ s, p.1.dst = some s → s ∉ looks ops.toList o) ∧ (∀ z ∈ efW (efsR p.2), ∀ y ∈ rdR (fpR rec), meetsR z y = false) ∧ (∀ z ∈ efW (efsR p.2), ∀ y ∈ efW (efsR rec), meetsR z y = false) ∧ (k ≠ i → ∀ s, p.1.dst = some s → o.dst ≠ some s) ∧ k ≠ i := by
  have hki : k ≠ i := by rintro rfl; apply hdiff; rw [hi]; simp
  rw [List.getElem?_zip_eq_some] at hk
  obtain ⟨hk1, hk2⟩ := hk
  have hk1' : ops[k]? = some p.1 := by rw [← Array.getElem?_toList]; exact hk1
  by_cases hlt : k < i
  · have hSk : S k = false := by
      cases hs : S k with
      | false => rfl
      | true => exact absurd (by rw [hs]; simp [hlt]) hdiff
    rcases indep_get h.ind hlt hk1 (by rw [Array.getElem?_toList]; exact ho) (by rw [List.getElem?_map, hk2]; rfl) (by rw [List.getElem?_map, hr]; rfl) with hc | hc
    · simp only [clash, Bool.or_eq_false_iff] at hc
      obtain ⟨⟨⟨⟨⟨c1, c2⟩, c3⟩, c4⟩, c5⟩, c6⟩ := hc
      rw [fpR_wr] at c4 c5
      rw [fpR_wr] at c5
      exact ⟨fun s hs => meetsN_false c1 s (by simp [hs, optL]), fun z hz y hy => meetsW_false c4 z hz y hy, fun z hz y hy => meetsW_false c5 z hz y hy, fun _ s hs e => meetsN_false c2 s (by simp [hs, optL]) (by simp [e, optL]), hki⟩
    · simp only [Nat.zero_add] at hc
      rw [before_S h hd ho he hc] at hSk
      cases hSk
  · have hgt : i < k := by omega
    have hSk : S k = true := by
      cases hs : S k with
      | true => rfl
      | false => exact absurd (by rw [hs]; simp [hlt]) hdiff
    rcases indep_get h.ind hgt (by rw [Array.getElem?_toList]; exact ho) hk1 (by rw [List.getElem?_map, hr]; rfl) (by rw [List.getElem?_map, hk2]; rfl) with hc | hc
    · simp only [clash, Bool.or_eq_false_iff] at hc
      obtain ⟨⟨⟨⟨⟨c1, c2⟩, c3⟩, c4⟩, c5⟩, c6⟩ := hc
      rw [fpR_wr] at c4 c5
      rw [fpR_wr] at c5 c6
      refine ⟨fun s hs => meetsN_false c3 s (by simp [hs, optL]), fun z hz y hy => meetsW_false c6 z hz y hy, fun z hz y hy => by rw [meetsR_comm]; exact meetsW_false c5 y hy z hz, fun _ s hs e => meetsN_false c2 s (by simp [e, optL]) (by simp [hs, optL]), hki⟩
    · simp only [Nat.zero_add] at hc
      have := before_S h hd hk1' (hd.down k _ hk1' hSk) hc
      rw [this] at hi
      cases hi

theorem xS_slot (h : Ctx P ops gl N σ σ' rs) {S : Nat → Bool} (hd : Down ops S) {i : Nat} {o : Oper} {rec : Rec} (ho : ops[i]? = some o) (hr : rs[i]? = some rec) (hi : S i = false) (he : ∀ x ∈ edgesL o.after.toList, S x = true) {s : Nat} (hs : s ∈ looks ops.toList o) :
    (xS N ops σ σ' rs S).1 s = (foldAll N σ'.gm ((ops.toList.zip rs).take i) (ffOf σ, hfOf σ.hp)).1 s := by
  rw [← foldS_take (ops.toList.zip rs) i 0]
  refine foldS_slot _ 0 _ _ rfl fun k p hk hdst => ?_
  simp only [Nat.zero_add]
  by_cases e : S k = decide (k < i)
  · exact e
  · exact absurd hs ((apart_of h hd ho hr hi he hk e).1 s hdst)

theorem xS_heap (h : Ctx P ops gl N σ σ' rs) {S : Nat → Bool} (hd : Down ops S) {i : Nat} {o : Oper} {rec : Rec} (ho : ops[i]? = some o) (hr : rs[i]? = some rec) (hi : S i = false) (he : ∀ x ∈ edgesL o.after.toList, S x = true) {ρ : Nat × Option (Nat × Nat)}
    (hρ : ρ ∈ rdR (fpR rec) ∨ ρ ∈ efW (efsR rec)) : same ((xS N ops σ σ' rs S).2 ρ.1) ((foldAll N σ'.gm ((ops.toList.zip rs).take i) (ffOf σ, hfOf σ.hp)).2 ρ.1) (inR ρ) ∧
      (ρ.2 = none → (xS N ops σ σ' rs S).2 ρ.1 = (foldAll N σ'.gm ((ops.toList.zip rs).take i) (ffOf σ, hfOf σ.hp)).2 ρ.1) := by
  rw [← foldS_take (ops.toList.zip rs) i 0, xS, foldS_heap, foldS_heap]
  refine foldH_agree _ 0 _ _ (.inl rfl) (fun _ => rfl) fun k p hk hdiff z hz => ?_
  simp only [Nat.zero_add] at hdiff
  obtain ⟨_, a2, a3, _⟩ := apart_of h hd ho hr hi he hk hdiff
  rcases hρ with hρ | hρ
  · exact a2 z hz ρ hρ
  · exact a3 z hz ρ hρ

theorem updB_eq {f : Nat → SG} {d : Option Nat} {g : SG} : (fun s => updB N f d g s) = updB N f d g := rfl

/-- To take one more operation is to change what has come by it. -/
theorem xS_insert (h : Ctx P ops gl N σ σ' rs) {S S' : Nat → Bool} (hd : Down ops S) {i : Nat} {o : Oper} {rec : Rec} (ho : ops[i]? = some o) (hr : rs[i]? = some rec) (hi : S i = false) (he : ∀ x ∈ edgesL o.after.toList, S x = true) (hi' : S' i = true) (hS : ∀ j, j ≠ i → S' j = S j) :
    xS N ops σ σ' rs S' = appR N σ'.gm o rec (xS N ops σ σ' rs S) := by
  have hlt : i < rs.length := (List.getElem?_eq_some_iff.1 hr).1
  have hp : (ops.toList.zip rs)[i]? = some (o, rec) := by rw [List.getElem?_zip_eq_some]; exact ⟨by rw [Array.getElem?_toList]; exact ho, hr⟩
  apply Prod.ext
  · funext s
    by_cases hds : o.dst = some s ∧ s < N
    · -- the slot that it writes
      have key : ∀ (L : List (Oper × Rec)) (i k : Nat) (x : X), L[i]? = some (o, rec) → S' (k + i) = true → (∀ (j : Nat) (q : Oper × Rec), i < j → L[j]? = some q → q.1.dst = some s → S' (k + j) = false) → (foldS N σ'.gm S' L k x).1 s = (appR N σ'.gm o rec x).1 s := by
        intro L
        induction L with
        | nil => intro i k x h; simp at h
        | cons q L ih =>
          intro i k x hL h1 h2
          cases i with
          | zero =>
            simp at hL
            subst hL
            simp only [Nat.add_zero] at h1
            simp only [foldS, h1, if_true]
            have : (foldS N σ'.gm S' L (k + 1) (appR N σ'.gm o rec x)).1 s = (foldS N σ'.gm (fun _ => false) L (k + 1) (appR N σ'.gm o rec x)).1 s :=
              foldS_slot L (k + 1) _ _ rfl fun j q hq hdq => by have := h2 (j + 1) q (by omega) (by simpa using hq) hdq; rwa [show k + (j + 1) = k + 1 + j by omega] at this
            rw [this, foldS_none L (k + 1) _ fun _ _ => rfl]
          | succ i =>
            simp only [foldS]
            rw [ih i (k + 1) _ (by simpa using hL) (by rwa [show k + 1 + i = k + (i + 1) by omega]) fun j q hj hq hdq => by have := h2 (j + 1) q (by omega) (by simpa using hq) hdq; rwa [show k + (j + 1) = k + 1 + j by omega] at this]
            cases rec with
            | none => simp [appR, updB, hds.1, hds.2]
            | some p => obtain ⟨a, b, c⟩ := p; simp [appR, updB, hds.1, hds.2]
      have := key (ops.toList.zip rs) i 0 (ffOf σ, hfOf σ.hp) hp (by simpa using hi') fun j q hj hq hdq => by
        simp only [Nat.zero_add]
        rw [hS j (by omega)]
        cases hs : S j with
        | false => rfl
        | true =>
          obtain ⟨_, _, _, a4, _⟩ := apart_of h hd ho hr hi he hq (by rw [hs]; simp; omega)
          exact absurd hds.1 (a4 (by omega) s hdq)
      rw [xS, this]
      cases rec with
      | none => simp [appR, updB, hds.1, hds.2]
      | some p => obtain ⟨a, b, c⟩ := p; simp [appR, updB, hds.1, hds.2]
    · have e1 : (appR N σ'.gm o rec (xS N ops σ σ' rs S)).1 s = (xS N ops σ σ' rs S).1 s := by
        cases rec with
        | none => simp only [appR, updB, if_neg hds]
        | some p => obtain ⟨a, b, c⟩ := p; simp only [appR, updB, if_neg hds]
      rw [e1]
      -- a slot that it does not write
      have key : ∀ (L : List (Oper × Rec)) (i k : Nat) (x y : X), x.1 s = y.1 s → L[i]? = some (o, rec) → (∀ j, j ≠ k + i → S' j = S j) → (foldS N σ'.gm S' L k x).1 s = (foldS N σ'.gm S L k y).1 s := by
        intro L
        induction L with
        | nil => intro i k x y _ h; simp at h
        | cons q L ih =>
          intro i k x y hxy hL h2
          have happ : ∀ z : X, q = (o, rec) → (appR N σ'.gm q.1 q.2 z).1 s = z.1 s := by
            rintro z rfl
            cases rec with
            | none => simp only [appR, updB, if_neg hds]
            | some p => obtain ⟨a, b, c⟩ := p; simp only [appR, updB, if_neg hds]
          cases i with
          | zero =>
            simp at hL
            simp only [foldS]
            refine foldS_slot L (k + 1) _ _ ?_ fun j q' _ _ => h2 _ (by omega)
            have a1 : (if S' k then appR N σ'.gm q.1 q.2 x else x).1 s = x.1 s := by split; exact happ x hL; rfl
            have a2 : (if S k then appR N σ'.gm q.1 q.2 y else y).1 s = y.1 s := by split; exact happ y hL; rfl
            rw [a1, a2, hxy]
          | succ i =>
            simp only [foldS]
            rw [h2 k (by omega)]
            refine ih i (k + 1) _ _ ?_ (by simpa using hL) fun j hj => h2 j (by omega)
            split
            · exact appR_slot_eq hxy
            · exact hxy
      exact key _ i 0 _ _ rfl hp (by simpa using hS)
  · funext k
    rw [appR_heap, xS, xS, foldS_heap, foldS_heap]
    refine foldH_insert _ i 0 _ (o, rec) hp (by simpa using hi) (by simpa using hi') (by simpa using hS) fun j q hj hq hs y hy z hz => ?_
    simp only [Nat.zero_add] at hs
    obtain ⟨_, _, a3, _⟩ := apart_of h hd ho hr hi he hq (by rw [hs]; simp; omega)
    rw [meetsR_comm]
    exact a3 z hz y hy

end
end Go.Sx
/- Any order: the end. -/
namespace Go.Sx
open Go

section
variable {P : Program} {ops : Array Oper} {gl : List (Nat × SV)} {B : Bs} {N : Nat} {σ σ' : Sy} {rs : List Rec}

theorem mem_ready {listed : Array Bool} {i : Nat} : i ∈ Region.ready .any ops listed ↔ ∃ o, ops[i]? = some o ∧ listed.getD i true = false ∧ ∀ x ∈ edgesL o.after.toList, listed.getD x false = true := by
  unfold Region.ready
  simp only [List.mem_filter, List.mem_range, Bool.and_eq_true, Bool.not_eq_true']
  constructor
  · rintro ⟨h1, h2, h3⟩
    have ho : ops[i]? = some ops[i] := by simp [h1]
    rw [ho] at h3
    refine ⟨_, ho, h2, fun x hx => ?_⟩
    obtain ⟨e, he, hb, rfl⟩ := mem_edgesL hx
    simp only [Option.map_some, Option.getD_some, Array.all_eq_true_iff_forall_mem] at h3
    have := h3 e (by simpa using he)
    simpa [hb] using this
  · rintro ⟨o, ho, h2, h3⟩
    refine ⟨(Array.getElem?_eq_some_iff.1 ho).1, h2, ?_⟩
    rw [ho]
    simp only [Option.map_some, Option.getD_some, Array.all_eq_true_iff_forall_mem]
    intro e he
    cases hb : Region.binds .any e with
    | false => simp
    | true => simp only [Bool.not_true, Bool.false_or]; exact h3 _ (edgesL_mem (by simpa using he) hb)

/-- How many have not come. -/
def left (n : Nat) (listed : Array Bool) : Nat := ((List.range n).filter fun i => !listed.getD i true).length

theorem left_set {n i : Nat} {listed : Array Bool} (hi : i < n) (hs : listed.size = n) (h : listed.getD i true = false) : left n (listed.setIfInBounds i true) + 1 = left n listed := by
  have hget : ∀ j, (listed.setIfInBounds i true).getD j true = if j = i then true else listed.getD j true := by
    intro j
    simp only [Array.getD_eq_getD_getElem?]
    by_cases e : i = j
    · subst e; rw [if_pos rfl, Array.getElem?_setIfInBounds_self_of_lt (by omega)]; rfl
    · rw [if_neg (fun h => e h.symm), Array.getElem?_setIfInBounds_ne e]
  unfold left
  have key : ∀ (l : List Nat), l.Nodup → i ∈ l → (l.filter fun j => !(listed.setIfInBounds i true).getD j true).length + 1 = (l.filter fun j => !listed.getD j true).length := by
    intro l
    induction l with
    | nil => intro _ h; cases h
    | cons j l ih =>
      intro hn hm
      rw [List.nodup_cons] at hn
      simp only [List.filter_cons, hget j]
      by_cases e : j = i
      · subst e
        rw [if_pos rfl]
        simp only [Bool.not_true, Bool.false_eq_true, if_false, h, Bool.not_false, if_true, List.length_cons]
        congr 2
        refine List.filter_congr fun k hk => ?_
        rw [hget k, if_neg (fun e => hn.1 (by rw [← e]; exact hk))]
      · rw [if_neg e]
        have := ih hn.2 (by rcases List.mem_cons.1 hm with h | h; exact absurd h.symm e; exact h)
        split
        · simp only [List.length_cons]; omega
        · exact this
  exact key _ List.nodup_range (by simpa using hi)

theorem left_zero {n : Nat} {listed : Array Bool} (h : left n listed = 0) : ∀ i, i < n → listed.getD i true = true := by
  intro i hi
  unfold left at h
  have := List.eq_nil_of_length_eq_zero h
  rw [List.filter_eq_nil_iff] at this
  have := this i (by simpa using hi)
  simpa using this

/-- If nothing may come, all have come. -/
theorem all_listed (hok : edgesOk ops.toList 0 = true) {listed : Array Bool} (hs : listed.size = ops.size) (h : Region.ready .any ops listed = []) : ∀ i, i < ops.size → listed.getD i true = true := by
  intro i
  induction i using Nat.strongRecOn with
  | _ i ih =>
    intro hi
    cases hl : listed.getD i true with
    | true => rfl
    | false =>
      have hm : i ∈ Region.ready .any ops listed := by
        refine mem_ready.2 ⟨ops[i], by simp [hi], hl, fun x hx => ?_⟩
        have hlt := edgesOk_get hok (j := i) (o := ops[i]) (by simp [hi]) x hx
        have := ih x (by omega) (by omega)
        rw [Array.getD_eq_getD_getElem?] at this ⊢
        rw [Array.getElem?_eq_getElem (by omega)] at this ⊢
        simpa using this
      rw [h] at hm
      cases hm

def sOf (listed : Array Bool) : Nat → Bool := fun i => listed.getD i false

theorem sOf_eq {n : Nat} {listed : Array Bool} (hs : listed.size = n) {i : Nat} (hi : i < n) : sOf listed i = listed.getD i true := by
  simp [sOf, Array.getD_eq_getD_getElem?, Array.getElem?_eq_getElem (show i < listed.size by omega)]

theorem ffPair {f g : Nat → SG} {a b : Nat → Hl} (h : (f, a) = (g, b)) : f = g ∧ a = b := by
  simp only [Prod.mk.injEq] at h; exact h

theorem putSt {B : Bs} {E : Env} {a : Act} {w : World} {ff : Nat → SG} {hf : Nat → Hl} (st : St B N E a w ff hf) (d : Option Nat) (v : Value) (g : SG)
    (hg : ∀ cs s, g = some (cs, s) → (allT cs → Rel E w s v) ∧ (¬ allT cs → v = undef)) : St B N E (a.put d v) w (updB N ff d g) hf := by
  cases d with
  | none => 
    have : updB N ff none g = ff := by funext s; simp [updB]
    rw [this]; exact st
  | some k =>
    by_cases hk : k < N
    · have := st.put (some k) v g hg (fun j hj => by cases hj; exact hk)
      have e : updO ff (some k) g = updB N ff (some k) g := by
        funext s
        simp only [updO, upd, updB, Option.some.injEq]
        by_cases e : s = k
        · subst e; simp [hk]
        · rw [if_neg e, if_neg (fun h => e h.1.symm)]
      rw [← e]; exact this
    · rw [put_out (by rw [st.size]; omega)]
      have e : updB N ff (some k) g = ff := by
        funext s
        simp only [updB, Option.some.injEq]
        rw [if_neg (fun h => hk (by rw [h.1]; exact h.2))]
      rw [e]; exact st

theorem any_order (h : Ctx P ops gl N σ σ' rs) (hg : glOk B gl) {Q : Exit → Act → World → Prop} (hfin : ∀ E a w, St B N E a w (foldAll N σ'.gm (ops.toList.zip rs) (ffOf σ, hfOf σ.hp)).1 (foldAll N σ'.gm (ops.toList.zip rs) (ffOf σ, hfOf σ.hp)).2 → Q .normal a w) :
    ∀ (fuel : Nat) (listed : Array Bool) (E : Env) (a : Act) (w : World), listed.size = ops.size → left ops.size listed = fuel → Down ops (sOf listed) → St B N E a w (xS N ops σ σ' rs (sOf listed)).1 (xS N ops σ σ' rs (sOf listed)).2 → wpAny P .any ops Q fuel listed a w := by
  have done : ∀ (listed : Array Bool) (E : Env) (a : Act) (w : World), listed.size = ops.size → (∀ i, i < ops.size → listed.getD i true = true) → St B N E a w (xS N ops σ σ' rs (sOf listed)).1 (xS N ops σ σ' rs (sOf listed)).2 → Q .normal a w := by
    intro listed E a w hs hall st
    refine hfin E a w ?_
    have : xS N ops σ σ' rs (sOf listed) = foldAll N σ'.gm (ops.toList.zip rs) (ffOf σ, hfOf σ.hp) := by
      refine foldS_all _ _ _ fun j hj => ?_
      simp only [Nat.zero_add]
      have hj : j < ops.size := by simp at hj; omega
      rw [sOf_eq hs hj]; exact hall j hj
    rw [← this]; exact st
  intro fuel
  induction fuel with
  | zero =>
    intro listed E a w hs hl hd st
    have hall := left_zero hl
    refine ⟨?_, done listed E a w hs hall st⟩
    rw [List.eq_nil_iff_forall_not_mem]
    intro i hi
    obtain ⟨o, ho, h1, _⟩ := mem_ready.1 hi
    rw [hall i (Array.getElem?_eq_some_iff.1 ho).1] at h1
    cases h1
  | succ fuel ih =>
    intro listed E a w hs hl hd st
    refine ⟨fun h0 => done listed E a w hs (all_listed h.edges hs h0) st, fun i hi => ?_⟩
    obtain ⟨o, ho, h1, h2⟩ := mem_ready.1 hi
    have hin : i < ops.size := (Array.getElem?_eq_some_iff.1 ho).1
    have hSi : sOf listed i = false := by rw [sOf_eq hs hin]; exact h1
    have he : ∀ x ∈ edgesL o.after.toList, sOf listed x = true := h2
    have hr : rs[i]? = some (rs[i]'(by rw [h.len]; exact hin)) := List.getElem?_eq_getElem _
    generalize rs[i]'(by rw [h.len]; exact hin) = rec at hr
    obtain ⟨σi, w1, w2, w3, w4⟩ := h.step i o rec ho hr
    obtain ⟨f1, f2⟩ := ffPair w3
    have hagS : ∀ s ∈ looks ops.toList o, (xS N ops σ σ' rs (sOf listed)).1 s = ffOf σi s := fun s hs' => by
      rw [xS_slot h hd ho hr hSi he hs', f1]
    have hguard : ∀ j want s, o.guard = some (j, want) → (nth ops.toList j).bind (·.dst) = some s → (xS N ops σ σ' rs (sOf listed)).1 s = ffOf σi s := fun j want s hgd hb =>
      hagS s (by unfold looks; exact List.mem_append.2 (.inr (guardSlot_mem hgd hb)))
    -- what has come behind it
    have hsz : (listed.setIfInBounds i true).size = ops.size := by simp [hs]
    have hset : ∀ j, sOf (listed.setIfInBounds i true) j = if j = i then true else sOf listed j := by
      intro j
      simp only [sOf, Array.getD_eq_getD_getElem?]
      by_cases e : i = j
      · subst e; rw [if_pos rfl, Array.getElem?_setIfInBounds_self_of_lt (by omega)]; rfl
      · rw [if_neg (fun h => e h.symm), Array.getElem?_setIfInBounds_ne e]
    have hd' : Down ops (sOf (listed.setIfInBounds i true)) := by
      refine ⟨fun k ok hok hk x hx => ?_⟩
      rw [hset]
      split
      · rfl
      · rw [hset] at hk
        split at hk
        · rename_i e
          subst e
          rw [ho] at hok
          cases hok
          exact he x hx
        · exact hd.down k ok hok hk x hx
    have hx := xS_insert h hd ho hr hSi he (S' := sOf (listed.setIfInBounds i true)) (by rw [hset, if_pos rfl]) (fun j hj => by rw [hset, if_neg hj])
    have hleft : left ops.size (listed.setIfInBounds i true) = fuel := by have := left_set hin hs h1; omega
    have next : ∀ (E' : Env) (a' : Act) (w' : World), St B N E' a' w' (appR N σ'.gm o rec (xS N ops σ σ' rs (sOf listed))).1 (appR N σ'.gm o rec (xS N ops σ σ' rs (sOf listed))).2 → wpAny P .any ops Q fuel (listed.setIfInBounds i true) a' w' := by
      intro E' a' w' st'
      refine ih _ E' a' w' hsz hleft hd' ?_
      rw [hx]; exact st'
    unfold wpOp
    rw [ho]
    simp only
    cases rec with
    | none =>
      have hw := guardOf_skip (ops := ops) rfl w4 st hguard
      rw [if_neg (by simp [hw])]
      exact next E _ w (putSt st _ _ none (by simp))
    | some p =>
      obtain ⟨σ1, T, r⟩ := p
      obtain ⟨q1, q2, q3, q4, q5⟩ := w4
      obtain ⟨g1, g2, g3, g4, g5, _, _, g8⟩ := guardOf_some (ops := ops) rfl q1 w1
      have hwant := g8 B N E a w _ _ st hguard
      by_cases hT : allT (condsOf σ1.gm T)
      · rw [if_pos (hwant.2 hT)]
        have hag : AgS σ1 (xS N ops σ σ' rs (sOf listed)).1 o := fun s hs' => by
          rw [g2]
          exact hagS s (by unfold looks; exact List.mem_append.2 (.inl (mem_slotsL hs')))
        have hagH : AgH σ1.hp (xS N ops σ σ' rs (sOf listed)).2 r := by
          rw [g3]
          refine ⟨fun k hk => ?_, fun x hx => ?_, fun e he' => ?_⟩
          · have := (xS_heap h hd ho hr hSi he (ρ := (k, none)) (.inl (by simp [rdR, fpR, fpOf]; exact hk))).2 rfl
            rw [this, ← f2]
          · obtain ⟨hh, off, n⟩ := x
            have := (xS_heap h hd ho hr hSi he (ρ := (hh, some (off, n))) (.inl (by simp [rdR, fpR, fpOf]; exact ⟨hh, off, n, hx, rfl, rfl, rfl⟩))).1
            rw [← f2] at this
            intro ty cs hcs
            simp only at hcs this ⊢
            rcases this with e | ⟨ty', c1, c2, e1, e2, e3, e4⟩
            · exact ⟨cs, by rw [e, hcs], rfl, fun _ _ _ => rfl⟩
            · rw [hcs] at e2
              cases e2
              exact ⟨c1, e1, e3.symm, fun j j1 j2 => (e4 j ⟨j1, j2⟩).symm⟩
          · have hmem : ∀ (es : List Ef), e ∈ es → match e with | .set k off vs => (k, some (off, lenN vs)) ∈ efW es | .put k _ => (k, none) ∈ efW es := by
              intro es
              induction es with
              | nil => intro h; cases h
              | cons e' es ih =>
                intro hm
                rcases List.mem_cons.1 hm with rfl | hm
                · cases e <;> simp [efW]
                · have := ih hm
                  cases e <;> cases e' <;> simp only [efW, List.mem_cons] at this ⊢ <;> exact Or.inr this
            have hm := hmem r.efs he'
            cases e with
            | set k off vs =>
              simp only at hm
              have := (xS_heap h hd ho hr hSi he (ρ := (k, some (off, lenN vs))) (.inr hm)).1
              rw [← f2] at this
              intro ty cs hcs
              rcases this with e | ⟨ty', c1, c2, e1, e2, e3, e4⟩
              · exact ⟨cs, by rw [e, hcs], rfl⟩
              · rw [hcs] at e2
                cases e2
                exact ⟨c1, e1, e3.symm⟩
            | put k hl =>
              simp only at hm
              have := (xS_heap h hd ho hr hSi he (ρ := (k, none)) (.inr hm)).2 rfl
              show (xS N ops σ σ' rs (sOf listed)).2 k = hfOf σi.hp k
              rw [this, ← f2]
        refine .inl (q2 B N E a w _ _ hg st hag hagH hT _ _ fun v w' E' x1 x2 x3 x4 => ?_)
        refine next E' _ w' ?_
        simp only [appR, q5]
        exact putSt (st.step x1 x2 x3) _ _ _ (by rintro cs s ⟨⟩; exact ⟨fun _ => x4, fun h => absurd hT h⟩)
      · rw [if_neg (fun h => hT (hwant.1 h))]
        refine next E _ w ?_
        have hef : r.efs = [] := by
          rcases q4 with h | h
          · subst h; exact absurd trivial hT
          · exact h
        simp only [appR, q5, hef, efsF]
        exact putSt st _ _ _ (by rintro cs s ⟨⟩; exact ⟨fun h => absurd h hT, fun _ => rfl⟩)

/-- **Whatever order is drawn.** -/
theorem drawOk (hm : P.follows .mixedOrders = true) : DrawOk P := by
  intro gl id ops B N σ σ' rs hg hruns hedges hind Q E a w hs hQ
  obtain ⟨r1, r2, r3, r4, r5, r6, r7⟩ := runs_get hruns hs.wf N hs.len
  have hctx : Ctx P ops gl N σ σ' rs := ⟨by rw [r1]; simp, fun i o rec ho hr => r7 i o rec (by rw [Array.getElem?_toList]; exact ho) hr, hedges, hind⟩
  obtain ⟨e1, e2⟩ := ffPair r6
  refine wp_region_any hm ?_
  have hbase := hs.st.base
  have hst : St B N E a { w with drawn := w.drawn + 1 } (ffOf σ) (hfOf σ.hp) :=
    hs.st.step (E' := E) (w' := { w with drawn := w.drawn + 1 }) ⟨fun _ _ h => h, fun _ _ h => .inl h, fun _ _ h => h, fun _ _ h => h, fun _ _ h => h, fun _ _ _ => rfl⟩ ⟨hbase.os, hbase.tape, hbase.output, hbase.size, hbase.old, hbase.I0, hbase.Ibd, hbase.Inew, hbase.Obd, hbase.β0⟩
      fun k => HOk.keep (E := E) (w := w) (E' := E) (w' := { w with drawn := w.drawn + 1 }) ⟨fun _ _ h => h, fun _ _ h => .inl h, fun _ _ h => h, fun _ _ h => h, fun _ _ h => h, fun _ _ _ => rfl⟩ (hs.st.heap k) rfl rfl rfl rfl fun b hO => ⟨hO, rfl, fun _ h => h⟩
  refine any_order (B := B) hctx hg (fun E' a' w' st' => ?_) ops.size _ E a _ (by simp) ?_ ⟨fun k o _ hk => ?_⟩ ?_
  · refine hQ E' a' w' ⟨?_, r3, r2, fun k hk => Nat.lt_of_lt_of_le (hs.ge k hk) r4⟩
    rw [e1, e2]; exact st'
  · unfold left
    rw [List.filter_eq_self.2]
    · simp
    · intro i hi; simp at hi; simp [Array.getD_eq_getD_getElem?, hi]
  · exfalso
    simp only [sOf, Array.getD_eq_getD_getElem?, Array.getElem?_replicate] at hk
    split at hk <;> simp at hk
  · have : xS N ops σ σ' rs (sOf (Array.replicate ops.size false)) = (ffOf σ, hfOf σ.hp) := by
      refine foldS_none _ _ _ fun j _ => ?_
      simp only [sOf, Array.getD_eq_getD_getElem?, Array.getElem?_replicate]
      split <;> rfl
    rw [this]; exact hst

end
end Go.Sx
/- How a contract is proved. -/
namespace Go.Sx
open Go

theorem fnOk {P : Program} (hm : P.follows .mixedOrders = true) {tt : List (Nat × TI)} {tab : List (Nat × FSpec)} {gl : List (Nat × SV)} {eqs : List TypeId} {gh : List (Nat × List Gh)} (hc : CxOk P ⟨dn, tt, tab, gl, eqs, gh⟩) (htab : TabOk P gl tab) {f : FuncId} {fn : Func} (hf : P.funcs[f]? = some fn) (hgood : (fn.name == "runtime.NumGoroutine") = false) (hb : fn.body.isSome = true) {sp : FSpec}
    (h : ∀ (as : List SV) (ls : List Hl) (K : SV → List Hl → Prop), sp dn as ls K → ∃ r ls', K r ls' ∧ ∀ D, D = dn → body ⟨D, tt, tab, gl, eqs, gh⟩ fn as ls fun r' ls'' => Fin r' r ls'' ls') : FnOk P gl f sp := by
  refine ⟨?_, fun as ls K hs => ?_⟩
  · obtain ⟨c, hc⟩ := Option.isSome_iff_exists.1 hb
    exact ⟨fn, c, hf, hc, hgood⟩
  · obtain ⟨r, ls', hK, hbody⟩ := h as ls K hs
    exact ⟨r, ls', hK, callsTo_of_body (drawOk hm) hc htab hf (hbody dn rfl)⟩

theorem fnOkJ {P : Program} (hm : P.follows .mixedOrders = true) {tt : List (Nat × TI)} {tab : List (Nat × FSpec)} {gl : List (Nat × SV)} {eqs : List TypeId} {gh : List (Nat × List Gh)} (hc : CxOk P ⟨dn, tt, tab, gl, eqs, gh⟩) (htab : TabOk P gl tab) {f : FuncId} {fn : Func} (hf : P.funcs[f]? = some fn) (hgood : (fn.name == "runtime.NumGoroutine") = false) {l : Nat} {pre c rest : Code} (hb : fn.body = some (.seq pre (.scope c))) (hl : findLabel c l = some rest) {sp : FSpec}
    (h : ∀ (as : List SV) (ls : List Hl) (K : SV → List Hl → Prop), sp dn as ls K → ∃ r ls', K r ls' ∧ ∀ D, D = dn → bodyJ ⟨D, tt, tab, gl, eqs, gh⟩ fn pre c l rest as ls fun r' ls'' => Fin r' r ls'' ls') : FnOk P gl f sp := by
  refine ⟨⟨fn, _, hf, hb, hgood⟩, fun as ls K hs => ?_⟩
  obtain ⟨r, ls', hK, hbody⟩ := h as ls K hs
  exact ⟨r, ls', hK, callsTo_of_bodyJ (drawOk hm) hc htab hf hb hl (hbody dn rfl)⟩

theorem tabNil {P : Program} {gl : List (Nat × SV)} : TabOk P gl [] := by intro x h; cases h
theorem tabCons {P : Program} {gl : List (Nat × SV)} {tab : List (Nat × FSpec)} {f : Nat} {sp : FSpec} (h : FnOk P gl f sp) (ht : TabOk P gl tab) : TabOk P gl ((f, sp) :: tab) := by
  intro x hx
  rcases List.mem_cons.1 hx with rfl | hx
  · exact h
  · exact ht x hx

/-- Both ways of a test. -/
theorem br {D : Dn} (hD : D = dn) {b : BT} {A B : Prop} (ht : b.den = true → A) (hf : b.den = false → B) : (D.b b = true → A) ∧ (D.b b = false → B) := by subst hD; exact ⟨ht, hf⟩

theorem LeV.of_eq {s s' : SV} (h : s = s') : LeV s s' := h ▸ LeV.refl s
theorem fin_eq {s s' : SV} {ls ls' : List Hl} (h : s = s') (hl : ls = ls') : Fin s s' ls ls' := by subst h hl; exact ⟨LeV.refl s, LeH.refl ls, Nat.le_refl _⟩

theorem int_eq {D : Dn} (hD : D = dn) {k : IntKind} {t : ST} {n : Int} (h : t.den = n) : SV.int k (.a (D.i t)) = .int k (.a n) := by subst hD h; rfl
theorem bool_eq {D : Dn} (hD : D = dn) {t : BT} {b : Bool} (h : t.den = b) : SV.bool (.a (D.b t)) = .bool (.a b) := by subst hD h; rfl
theorem finInt {D : Dn} (hD : D = dn) {k : IntKind} {t : ST} {n : Int} {ls : List Hl} (h : t.den = n) : Fin (.int k (.a (D.i t))) (.int k (.a n)) ls ls := fin_eq (int_eq hD h) rfl
theorem finBool {D : Dn} (hD : D = dn) {t : BT} {b : Bool} {ls : List Hl} (h : t.den = b) : Fin (.bool (.a (D.b t))) (.bool (.a b)) ls ls := fin_eq (bool_eq hD h) rfl

/-! ### what tests and terms mean -/

@[simp] theorem den_a (n : Int) : (ST.a n).den = n := rfl
@[simp] theorem den_l (n : Int) : (ST.l n).den = n := rfl
@[simp] theorem den_len (s : List UInt8) : (ST.len s).den = s.length := rfl
@[simp] theorem den_add (k : IntKind) (x y : ST) : (ST.bin .add k x y).den = k.wrap (x.den + y.den) := rfl
@[simp] theorem den_sub (k : IntKind) (x y : ST) : (ST.bin .sub k x y).den = k.wrap (x.den - y.den) := rfl
@[simp] theorem den_mul (k : IntKind) (x y : ST) : (ST.bin .mul k x y).den = k.wrap (x.den * y.den) := rfl
@[simp] theorem den_quo (k : IntKind) (x y : ST) : (ST.bin .quo k x y).den = k.wrap (x.den.tdiv y.den) := rfl
@[simp] theorem den_rem (k : IntKind) (x y : ST) : (ST.bin .rem k x y).den = x.den.tmod y.den := rfl
@[simp] theorem den_cv (k : IntKind) (x : ST) : (ST.cv k x).den = k.wrap x.den := rfl

@[simp] theorem bden_a (b : Bool) : (BT.a b).den = b := rfl
@[simp] theorem bden_l (b : Bool) : (BT.l b).den = b := rfl
@[simp] theorem bden_lss (x y : ST) : (BT.cmp .lss x y).den = true ↔ x.den < y.den := by simp [BT.den, cmpDen]
@[simp] theorem bden_lss' (x y : ST) : (BT.cmp .lss x y).den = false ↔ y.den ≤ x.den := by simp [BT.den, cmpDen]
@[simp] theorem bden_leq (x y : ST) : (BT.cmp .leq x y).den = true ↔ x.den ≤ y.den := by simp [BT.den, cmpDen]
@[simp] theorem bden_leq' (x y : ST) : (BT.cmp .leq x y).den = false ↔ y.den < x.den := by simp [BT.den, cmpDen]
@[simp] theorem bden_gtr (x y : ST) : (BT.cmp .gtr x y).den = true ↔ y.den < x.den := by simp [BT.den, cmpDen]
@[simp] theorem bden_gtr' (x y : ST) : (BT.cmp .gtr x y).den = false ↔ x.den ≤ y.den := by simp [BT.den, cmpDen]
@[simp] theorem bden_geq (x y : ST) : (BT.cmp .geq x y).den = true ↔ y.den ≤ x.den := by simp [BT.den, cmpDen]
@[simp] theorem bden_geq' (x y : ST) : (BT.cmp .geq x y).den = false ↔ x.den < y.den := by simp [BT.den, cmpDen]
@[simp] theorem bden_eql (x y : ST) : (BT.cmp .eql x y).den = true ↔ x.den = y.den := by simp [BT.den, cmpDen]
@[simp] theorem bden_eql' (x y : ST) : (BT.cmp .eql x y).den = false ↔ x.den ≠ y.den := by simp [BT.den, cmpDen]
@[simp] theorem bden_neq (x y : ST) : (BT.cmp .neq x y).den = true ↔ x.den ≠ y.den := by simp [BT.den, cmpDen]
@[simp] theorem bden_neq' (x y : ST) : (BT.cmp .neq x y).den = false ↔ x.den = y.den := by simp [BT.den, cmpDen]
@[simp] theorem bden_not (x : BT) : (BT.not x).den = true ↔ x.den = false := by simp [BT.den]
@[simp] theorem bden_not' (x : BT) : (BT.not x).den = false ↔ x.den = true := by simp [BT.den]
@[simp] theorem bden_and (x y : BT) : (BT.and x y).den = true ↔ x.den = true ∧ y.den = true := by simp [BT.den]
@[simp] theorem bden_and' (x y : BT) : (BT.and x y).den = false ↔ (x.den = true → y.den = false) := by simp only [BT.den]; cases x.den <;> simp
@[simp] theorem bden_or (x y : BT) : (BT.or x y).den = true ↔ (x.den = false → y.den = true) := by simp only [BT.den]; cases x.den <;> simp
@[simp] theorem bden_or' (x y : BT) : (BT.or x y).den = false ↔ x.den = false ∧ y.den = false := by simp [BT.den]
@[simp] theorem bden_beq (x y : BT) : (BT.beq x y).den = true ↔ x.den = y.den := by simp [BT.den]
@[simp] theorem bden_beq' (x y : BT) : (BT.beq x y).den = false ↔ x.den = !y.den := by simp only [BT.den]; cases x.den <;> cases y.den <;> simp
@[simp] theorem bden_seq (s t : List UInt8) : (BT.seq s t).den = true ↔ s = t := by simp [BT.den]
@[simp] theorem bden_seq' (s t : List UInt8) : (BT.seq s t).den = false ↔ s ≠ t := by simp [BT.den]

theorem wrap64 {n : Int} (h1 : -9223372036854775808 ≤ n) (h2 : n ≤ 9223372036854775807) : IntKind.i64.wrap n = n := IntWalk.i64_in _ ⟨by omega, by omega⟩

end Go.Sx
/- Ends of bodies: one reading for another. -/
namespace Go.Sx
open Go

def LeL (cs cs' : List SV) : Prop := ∀ (E : Env) (w : World) (vs : List Value), RelL E w cs vs → RelL E w cs' vs
theorem LeL.nil : LeL [] [] := fun _ _ _ h => h
theorem LeL.refl (cs : List SV) : LeL cs cs := fun _ _ _ h => h
theorem LeL.cons {c c' : SV} {cs cs' : List SV} (h : LeV c c') (hs : LeL cs cs') : LeL (c :: cs) (c' :: cs') := by
  intro E w vs hr
  match vs, hr with
  | v :: vs, hr =>
    exact .cons (h E w v (hr.2 0 c v rfl rfl)) (hs E w vs ⟨by have := hr.1; simpa using this, fun i s v a b => hr.2 (i + 1) s v (by simpa using a) (by simpa using b)⟩)
  | [], hr => exact absurd hr.1 (by simp)
theorem LeV.agg {cs cs' : List SV} (h : LeL cs cs') : LeV (.agg cs) (.agg cs') := by
  intro E w v hr
  obtain ⟨vs, rfl, hl⟩ := hr.agg_inv
  exact (h E w vs hl).agg
theorem LeV.tup {cs cs' : List SV} (h : LeL cs cs') : LeV (.tup cs) (.tup cs') := by
  intro E w v hr
  obtain ⟨vs, rfl, hl⟩ := hr.tup_inv
  have := h E w vs hl
  exact .tup this.1 this.2
theorem LeV.sl {nl nl' : BT} {n n' : ST} {sz : Nat} {f f' : Nat → List SV} (h1 : nl.den = nl'.den) (h2 : n.den = n'.den) (h : ∀ i : Nat, (i : Int) < n.den → f i = f' i) : LeV (.sl nl n sz f) (.sl nl' n' sz f') := by
  intro E w v hr
  have hr := hr.sl_inv
  rcases hr.sl_inv with ⟨rfl, e0, e1⟩ | ⟨a, m, cap, g, rfl, e1, e2, e3, e3', e4, e5, e5', e6, e7⟩
  · exact .ro (.slnil (by rw [← h1]; exact e1) (by rw [← h2]; exact e0))
  · have hf : ∀ i, i < m → f' i = f i := fun i hi => (h i (by omega)).symm
    exact .ro (.sl g (by rw [← h1]; exact e1) (by rw [← h2]; exact e2) e3 e3' e4 (fun i hi => by rw [hf i hi]; exact e5 i hi) e5' e6 (fun i j s hi hs => by rw [hf i hi] at hs; exact e7 i j s hi hs))
theorem LeH.nil : LeH [] [] := LeH.refl []
theorem LeH.cons {l l' : Hl} {ls ls' : List Hl} (h : ∀ (k : Nat) (E : Env) (w : World), HOk E w k l → HOk E w k l') (hs : ∀ (k i : Nat) (E : Env) (w : World), HOk E w k (hfOf ls i) → HOk E w k (hfOf ls' i)) : ∀ (k i : Nat) (E : Env) (w : World), HOk E w k (hfOf (l :: ls) i) → HOk E w k (hfOf (l' :: ls') i)
  | k, 0, E, w, hk => h k E w hk
  | k, i + 1, E, w, hk => hs k i E w hk
theorem leH_of {ls ls' : List Hl} (hs : ∀ (k i : Nat) (E : Env) (w : World), HOk E w k (hfOf ls i) → HOk E w k (hfOf ls' i)) : LeH ls ls' := fun h E w hk => hs h h E w hk
theorem leH_blk {ty : TypeId} {cs cs' : List SV} (h : LeL cs cs') (k : Nat) (E : Env) (w : World) (hk : HOk E w k (.blk ty cs)) : HOk E w k (.blk ty cs') := by
  obtain ⟨b, C, k1, k2, k3, k4, k5, k6⟩ := hk.blk_inv
  have hn := h E w _ k4
  exact ⟨b, C, k1, k2, k3, by have := hn.1; simpa using this.symm, fun i s v p q => hn.2 i s v p (by simpa using q), fun v hv => k5 v (by simpa using hv), k6⟩
theorem finBlk {s s' : SV} {ty : TypeId} {cs cs' : List SV} (h : LeV s s') (hc : LeL cs cs') : Fin s s' [.blk ty cs] [.blk ty cs'] :=
  ⟨h, leH_of (LeH.cons (leH_blk hc) fun _ _ _ _ h => h), Nat.le_refl _⟩
theorem finV {s s' : SV} (h : LeV s s') : Fin s s' [] [] := ⟨h, LeH.refl [], Nat.le_refl _⟩
theorem leOsl {nl nl' : BT} {n n' : ST} {h : Nat} (h1 : nl.den = nl'.den) (h2 : n.den = n'.den) : LeV (.osl nl n h) (.osl nl' n' h) := by
  intro E w v hr
  obtain ⟨⟨a, m, c, t1, t2, t3⟩, a0, m0, c0, q1, q2, q3⟩ := hr.osl_inv
  exact .osl ⟨a, m, c, t1, by rw [← h2]; exact t2, by rw [← h1]; exact t3⟩ ⟨a0, m0, c0, q1, by rw [← h2]; exact q2, by rw [← h2]; exact q3⟩
theorem leH_own {ty : TypeId} {n n' : ST} {sz : Nat} {gr : Bool} {f f' : Nat → List SV} (h2 : n.den = n'.den) (h : ∀ i : Nat, (i : Int) < n.den → f i = f' i) (k : Nat) (E : Env) (w : World) (hk : HOk E w k (.own ty n sz gr f)) : HOk E w k (.own ty n' sz gr f') := by
  obtain ⟨v, m, xs, k1, kz, k2, k3, k4, k5, k6⟩ := hk
  have hf : ∀ i, i < m → f' i = f i := fun i hi => (h i (by omega)).symm
  exact ⟨v, m, xs, k1, kz, k2, by rw [← h2]; exact k3, k4, ⟨fun i hi => by rw [hf i hi]; exact k5.1 i hi, fun i j s u hi hs => by rw [hf i hi] at hs; exact k5.2 i j s u hi hs⟩, k6⟩
theorem finOwn {s s' : SV} {ty : TypeId} {n n' : ST} {sz : Nat} {gr : Bool} {f f' : Nat → List SV} (h : LeV s s') (h2 : n.den = n'.den) (hf : ∀ i : Nat, (i : Int) < n.den → f i = f' i) : Fin s s' [.own ty n sz gr f] [.own ty n' sz gr f'] :=
  ⟨h, leH_of (LeH.cons (leH_own h2 hf) fun _ _ _ _ h => h), Nat.le_refl _⟩
theorem leInt {k : IntKind} {t t' : ST} (h : t.den = t'.den) : LeV (.int k t) (.int k t') := by
  intro E w v hr
  rw [hr.int_inv]
  exact .int h.symm
theorem leBool {t t' : BT} (h : t.den = t'.den) : LeV (.bool t) (.bool t') := by
  intro E w v hr
  rw [hr.bool_inv]
  exact .bool h.symm
end Go.Sx
/- Contracts of the kit's shelf, taken over. -/
namespace Go.Sx
open Go Go.RowKit
theorem callsTo_below {P : Program} {gl : List (Nat × SV)} {f : FuncId} {as : List SV} {r : SV}
    (h : ∀ (E : Env) (B : Bs) (w : World) (vals : List Value), glOk B gl → Base B E w → B.w0 = w → RelL E w as vals → Calls P f ⟨vals⟩ w fun e w' => ∃ v, e = .returned v ∧ (∀ E, Rel E w' r v) ∧ Below w.heap.size w w') : CallsTo P gl f as [] r [] := by
  intro B E w vals hw0 hI hdom hb hg hh hr
  refine (h E B w vals hg hb hw0 hr).mono fun e w' hq => ?_
  obtain ⟨v, rfl, hv, hB⟩ := hq
  refine ⟨v, E, rfl, ?_, fun h hlt => absurd hlt (by simp), hv E⟩
  refine ⟨hB.os.trans hb.os, hB.tape.trans hb.tape, hB.output.trans hb.output, Nat.le_trans hb.size hB.size, fun b hlt hx => ?_, fun b o h0 => ?_, fun b o hi => Nat.lt_of_lt_of_le (hb.Ibd b o hi) hB.size, hb.Inew, fun b h ho => ⟨Nat.lt_of_lt_of_le (hb.Obd b h ho).1 hB.size, (hb.Obd b h ho).2⟩, hb.β0⟩
  · rw [hB.block b (by rw [← hw0]; exact hlt)]; exact hb.old b hlt hx
  · have h1 := hb.I0 b o h0
    refine ⟨h1.1, ?_⟩
    rw [hB.cell (p := ⟨b, o, none⟩) (hb.Ibd b o h1.1)]
    exact h1.2
/-- What values of plain kinds are. -/
theorem rel_str {E : Env} {w : World} {s : List UInt8} {v : Value} (h : Rel E w (.str s) v) : v = .string (bytes s) := by
  cases h with
  | ro h => cases h with
    | str h => exact h
theorem rel_int {E : Env} {w : World} {k : IntKind} {t : ST} {v : Value} (h : Rel E w (.int k t) v) : v = .int k t.den := by
  cases h with
  | ro h => cases h with
    | int h => rw [h]
theorem relL_one {E : Env} {w : World} {a : SV} {vals : List Value} (h : RelL E w [a] vals) : ∃ v, vals = [v] ∧ Rel E w a v := by
  match vals, h with
  | [v], h => exact ⟨v, rfl, h.2 0 a v rfl rfl⟩
  | [], h => exact absurd h.1 (by simp)
  | _ :: _ :: _, h => exact absurd h.1 (by simp)
theorem relL_two {E : Env} {w : World} {a b : SV} {vals : List Value} (h : RelL E w [a, b] vals) : ∃ v u, vals = [v, u] ∧ Rel E w a v ∧ Rel E w b u := by
  match vals, h with
  | [v, u], h => exact ⟨v, u, rfl, h.2 0 a v rfl rfl, h.2 1 b u rfl rfl⟩
  | [], h => exact absurd h.1 (by simp)
  | [_], h => exact absurd h.1 (by simp)
  | _ :: _ :: _ :: _, h => exact absurd h.1 (by simp)
end Go.Sx
/- From contracts to laws: what is read as data, as the executor's values; a law that answers true. -/
namespace Go.Sx
open Go Go.ChangeShapes Go.WideShapes Go.RowKit

/-- The old blocks' cells: nobody writes them. -/
def oldI (W : World) : Nat → Nat → Prop := fun b _ => b < W.heap.size

def ROL (I : Nat → Nat → Prop) (w : World) (cs : List SV) (vs : List Value) : Prop := cs.length = vs.length ∧ (∀ (i : Nat) (s : SV) (v : Value), cs[i]? = some s → vs[i]? = some v → RO I w s v) ∧ ∀ v ∈ vs, v.oneCell' = true
theorem ROL.one {I : Nat → Nat → Prop} {w : World} {s : SV} {v : Value} (h : RO I w s v) (h1 : v.oneCell' = true) : ROL I w [s] [v] :=
  ⟨rfl, fun i s' v' a b => by cases i with | zero => simp at a b; subst a b; exact h | succ i => simp at a, by simpa using h1⟩
theorem ROL.nil {I : Nat → Nat → Prop} {w : World} : ROL I w [] [] := ⟨rfl, by simp, by simp⟩
theorem ROL.app {I : Nat → Nat → Prop} {w : World} {cs cs' : List SV} {vs vs' : List Value} (h : ROL I w cs vs) (h' : ROL I w cs' vs') : ROL I w (cs ++ cs') (vs ++ vs') := by
  refine ⟨by simp [h.1, h'.1], fun i s v a b => ?_, fun v hv => ?_⟩
  · rw [List.getElem?_append] at a b
    rw [h.1] at a
    split at a
    · rename_i hi
      rw [if_pos hi] at b
      exact h.2.1 i s v a b
    · rename_i hi
      rw [if_neg hi] at b
      exact h'.2.1 _ s v a b
  · rcases List.mem_append.1 hv with hv | hv
    · exact h.2.2 v hv
    · exact h'.2.2 v hv

section
variable {P : Program}

/-- Whatever reads as a datum of a type is a value that is encoded so. -/
def OpenT (P : Program) (t : TypeId) {α : Type} (enc : α → List SV) : Prop :=
  ∀ (H : Type) (tok : TypeId × Value → H) (W : World) (spare : Nat → Bool) (held : Bool) (fuel : Nat) (cs : List Value) (x : DataW H × List MemPlace), DataW.trod tok P W 0 spare held fuel t cs = some x → ∃ a, ROL (oldI W) W (enc a) cs

theorem OpenT.int {t : TypeId} {k : IntKind} (ht : P.underlying t = some (.int k)) : OpenT P t (fun n : Int => [.int k (.a n)]) := by
  intro H tok W spare held fuel cs x h
  obtain ⟨n, rfl, _, _⟩ := DataW.trod_int ht h
  exact ⟨n, .one (.int rfl) rfl⟩
/-- With its bounds. -/
theorem OpenT.intB {t : TypeId} {k : IntKind} (ht : P.underlying t = some (.int k)) : OpenT P t (fun n : {n : Int // (Lit.int k n).wf = true} => [.int k (.a n.1)]) := by
  intro H tok W spare held fuel cs x h
  obtain ⟨n, rfl, _, hw⟩ := DataW.trod_int ht h
  exact ⟨⟨n, hw⟩, .one (.int rfl) rfl⟩
theorem OpenT.bool {t : TypeId} (ht : P.underlying t = some .bool) : OpenT P t (fun b : Bool => [.bool (.a b)]) := by
  intro H tok W spare held fuel cs x h
  obtain ⟨n, rfl, _⟩ := DataW.trod_bool ht h
  exact ⟨n, .one (.bool rfl) rfl⟩
theorem OpenT.str {t : TypeId} (ht : P.underlying t = some .string) : OpenT P t (fun s : {s : List UInt8 // s.length ≤ maxLen} => [.str s.1]) := by
  intro H tok W spare held fuel cs x h
  obtain ⟨s, rfl, _, hs⟩ := DataW.trod_string ht h
  exact ⟨⟨s.data.toList, by simpa using hs⟩, .one (.str (by simp [bytes])) rfl⟩
theorem OpenT.map {t : TypeId} {α β : Type} {enc : α → List SV} {enc' : β → List SV} (h : OpenT P t enc) (f : α → β) (hf : ∀ a, enc' (f a) = enc a) : OpenT P t enc' := by
  intro H tok W spare held fuel cs x hx
  obtain ⟨a, ha⟩ := h H tok W spare held fuel cs x hx
  exact ⟨f a, by rw [hf]; exact ha⟩

theorem cells_get {W : World} {base : Nat} {a : Addr} {n : Nat} {cs : List Value} (h : W.cells? base a n = some cs) : cs.length = n ∧ ∀ i, i < n → W.cell? (a.add i) = cs[i]? := by
  unfold World.cells? at h
  split at h
  · have h2 := mapM_some_get h
    have h1 : cs.length = n := by simpa using mapM_some_length h
    refine ⟨h1, fun i hi => ?_⟩
    exact h2 i i (by simp [hi])
  · cases h
theorem cell_lt {W : World} {b o : Nat} {sp : Option Nat} {v : Value} (h : W.cell? ⟨b, o, sp⟩ = some v) : b < W.heap.size ∧ sp = none := by
  unfold World.cell? at h
  split at h
  · rename_i c _ _ hc
    split at h
    · cases h
    · rename_i hs
      exact ⟨(Array.getElem?_eq_some_iff.1 hc).1, by cases sp <;> simp at hs ⊢⟩
  · cases h

/-- A slice's rows. -/
def rowOfL {α : Type} (enc : α → List SV) (l : List α) (i : Nat) : List SV := match l[i]? with
  | some a => enc a
  | none => []
def slC {α : Type} (sz : Nat) (enc : α → List SV) (x : Bool × List α) : List SV := [.sl (.a x.1) (.a x.2.length) sz (rowOfL enc x.2)]

theorem OpenT.slice {t e : TypeId} {α : Type} {sz : Nat} {enc : α → List SV} (ht : P.underlying t = some (.slice e)) (hz : P.cellsOf e = sz) (h0 : 0 < sz) (he : OpenT P e enc) : OpenT P t (fun x : {x : Bool × List α // x.1 = true → x.2 = []} => slC sz enc x.1) := by
  intro H tok W spare held fuel cs x h
  rcases DataW.trod_slice ht h with ⟨rfl, _⟩ | ⟨a, len, cap, elems, rest, n, _, rfl, _, _, hle, hcap, hlen, hel, _, _⟩
  · exact ⟨⟨(true, []), fun _ => rfl⟩, .one (.slnil rfl rfl) rfl⟩
  · rw [hz] at hel
    have key : ∀ i, i < len → ∃ (al : α) (vs : List Value), ROL (oldI W) W (enc al) vs ∧ vs.length = sz ∧ ∀ j, j < sz → W.cell? ((a.add (i * sz)).add j) = vs[j]? := by
      intro i hi
      have h1 := hel i hi
      rw [List.getElem?_eq_getElem (by omega)] at h1
      cases hc : W.cells? 0 (a.add (i * sz)) sz with
      | none => rw [hc] at h1; cases h1
      | some vs =>
        rw [hc] at h1
        obtain ⟨al, hal⟩ := he H tok W _ _ _ vs _ h1
        have hg := cells_get hc
        exact ⟨al, vs, hal, hg.1, hg.2⟩
    have gen : ∀ len : Nat, (∀ i, i < len → ∃ (al : α) (vs : List Value), ROL (oldI W) W (enc al) vs ∧ vs.length = sz ∧ ∀ j, j < sz → W.cell? ((a.add (i * sz)).add j) = vs[j]?) → ∃ (l : List α) (g : Nat → Nat → Value), l.length = len ∧ ∀ i al, l[i]? = some al → (enc al).length = sz ∧ (∀ j, j < sz → W.cell? ((a.add (i * sz)).add j) = some (g i j) ∧ (g i j).oneCell' = true) ∧ ∀ j s, (enc al)[j]? = some s → RO (oldI W) W s (g i j) := by
      clear key hel hlen hcap hle h
      intro len key
      induction len with
      | zero => exact ⟨[], fun _ _ => undef, rfl, by simp⟩
      | succ len ih =>
        obtain ⟨l, g, hl, hg⟩ := ih (fun i hi => key i (by omega))
        obtain ⟨al, vs, k1, k2, k3⟩ := key len (by omega)
        refine ⟨l ++ [al], fun i j => if i = len then vs.getD j undef else g i j, by simp [hl], fun i al' hi => ?_⟩
        rw [List.getElem?_append] at hi
        split at hi
        · rename_i hlt
          have hne : i ≠ len := by omega
          obtain ⟨g1, g2, g3⟩ := hg i al' hi
          exact ⟨g1, fun j hj => by simpa only [if_neg hne] using g2 j hj, fun j s hs => by simpa only [if_neg hne] using g3 j s hs⟩
        · rename_i hlt
          have hil : i = len := by
            have := (List.getElem?_eq_some_iff.1 hi).1
            simp at this; omega
          subst hil
          have h00 : i - l.length = 0 := by omega
          rw [h00] at hi
          simp at hi
          subst hi
          refine ⟨by rw [k1.1, k2], fun j hj => ?_, fun j s hs => ?_⟩
          · simp only [if_pos]
            have hjv : vs[j]? = some vs[j] := List.getElem?_eq_getElem (by omega)
            rw [k3 j hj, hjv]
            simp only [List.getD_eq_getElem?_getD, hjv, Option.getD_some, true_and]
            exact k1.2.2 _ (List.getElem_mem _)
          · simp only [if_pos]
            have hjl : j < vs.length := by rw [← k1.1]; exact (List.getElem?_eq_some_iff.1 hs).1
            have hjv : vs[j]? = some vs[j] := List.getElem?_eq_getElem hjl
            simp only [List.getD_eq_getElem?_getD, hjv, Option.getD_some]
            exact k1.2.1 j s _ hs hjv
    obtain ⟨l, g, hl, hg⟩ := gen len key
    have hspot : 0 < len → a.spot = none := fun hpos => by
      obtain ⟨al, hal⟩ : ∃ al, l[0]? = some al := ⟨_, List.getElem?_eq_getElem (by omega)⟩
      obtain ⟨_, g2, _⟩ := hg 0 al hal
      have := (g2 0 h0).1
      obtain ⟨b, o, sp⟩ := a
      simp only [Nat.zero_mul, Addr.add, if_pos] at this
      exact (cell_lt this).2
    refine ⟨⟨(false, l), fun h => by cases h⟩, .one (.sl g rfl (by simp [ST.den, hl]) hle hcap hspot (fun i hi => ?_) (fun i j hi hj => ?_) (fun i j hi hj => ?_) (fun i j s hi hs => ?_)) rfl⟩
    · obtain ⟨al, hal⟩ : ∃ al, l[i]? = some al := ⟨_, List.getElem?_eq_getElem (by omega)⟩
      simp only [rowOfL, hal]
      exact (hg i al hal).1
    · obtain ⟨al, hal⟩ : ∃ al, l[i]? = some al := ⟨_, List.getElem?_eq_getElem (by omega)⟩
      exact ((hg i al hal).2.1 j hj).2
    · obtain ⟨al, hal⟩ : ∃ al, l[i]? = some al := ⟨_, List.getElem?_eq_getElem (by omega)⟩
      have hc := ((hg i al hal).2.1 j hj).1
      have e : (a.add (i * sz)).add j = ⟨a.block, a.off + (i * sz + j), none⟩ := by
        have hs := hspot (by omega)
        obtain ⟨b, o, sp⟩ := a
        simp only at hs
        subst hs
        simp only [add_lit]
        congr 1
        omega
      rw [e] at hc
      exact ⟨hc, (cell_lt hc).1⟩
    · obtain ⟨al, hal⟩ : ∃ al, l[i]? = some al := ⟨_, List.getElem?_eq_getElem (by omega)⟩
      simp only [rowOfL, hal] at hs
      exact (hg i al hal).2.2 j s hs

/-- Fields, from a place on. -/
def OpenF (P : Program) (fs : List (Nat × TypeId)) (o len : Nat) {α : Type} (enc : α → List SV) : Prop :=
  ∀ (H : Type) (tok : TypeId × Value → H) (W : World) (spare : Nat → Bool) (held : Bool) (cs : List Value), cs.length = o + len → (∀ p ∈ fs, ∃ fuel x, DataW.trod tok P W 0 spare held fuel p.2 ((cs.drop p.1).take (P.cellsOf p.2)) = some x) → ∃ a, ROL (oldI W) W (enc a) (cs.drop o)
theorem OpenF.nil {o : Nat} : OpenF P [] o 0 (fun _ : Unit => []) := by
  intro H tok W spare held cs hl _
  rw [List.drop_of_length_le (by omega)]
  exact ⟨(), .nil⟩
theorem OpenF.cons {fs : List (Nat × TypeId)} (o n len : Nat) {t : TypeId} {α β : Type} {enc : α → List SV} {enc' : β → List SV} (hn : P.cellsOf t = n) (h : OpenT P t enc) (hs : OpenF P fs (o + n) len enc') : OpenF P ((o, t) :: fs) o (n + len) (fun x : α × β => enc x.1 ++ enc' x.2) := by
  intro H tok W spare held cs hl hx
  obtain ⟨fuel, x, h1⟩ := hx (o, t) (List.mem_cons_self ..)
  simp only [hn] at h1
  obtain ⟨a, ha⟩ := h H tok W _ _ _ _ _ h1
  obtain ⟨b, hb⟩ := hs H tok W spare held cs (by omega) fun p hp => hx p (List.mem_cons_of_mem _ hp)
  refine ⟨(a, b), ?_⟩
  have e : cs.drop o = (cs.drop o).take n ++ cs.drop (o + n) := by rw [← List.drop_drop, List.take_append_drop]
  rw [e]
  exact ha.app hb
theorem OpenT.struct {t : TypeId} {fields : Array Field} {fs : List (Nat × TypeId)} {len : Nat} {α : Type} {enc : α → List SV} (ht : P.underlying t = some (.struct fields)) (hfs : (fields.toList.map fun f => (f.offset, f.type)) = fs) (hlen : P.cellsOf t = len) (h : OpenF P fs 0 len enc) : OpenT P t enc := by
  intro H tok W spare held fuel cs x hx
  obtain ⟨xs, n, _, _, hl, hxl, hf⟩ := DataW.trod_struct ht hx
  have := h H tok W spare held cs (by omega) fun p hp => ?_
  · simpa using this
  · rw [← hfs, List.mem_map] at hp
    obtain ⟨f, hf1, rfl⟩ := hp
    obtain ⟨i, hi, hfi⟩ := List.mem_iff_getElem.1 hf1
    have hi' : i < fields.size := by simpa using hi
    have := hf i f (by rw [← hfi]; simp [hi'])
    rw [List.getElem?_eq_getElem (by omega)] at this
    exact ⟨n, _, this⟩

/-- A law's call: it answers true, and leaves the old blocks alone. -/
theorem law_run {gl : List (Nat × SV)} {f : FuncId} {as : List SV} {W : World} {args : List Value} (h : CallsTo P gl f as [] (.bool (.a true)) [])
    (hgl : ∀ g s, look g gl = some s → RO (oldI W) W s (.pointer (some ⟨g, 0, none⟩)) ∧ g < W.heap.size ∧ glBlk W g s) (hl : as.length = args.length) (hr : ∀ (i : Nat) (s : SV) (v : Value), as[i]? = some s → args[i]? = some v → RO (oldI W) W s v) :
    Calls P f ⟨args⟩ W fun e W' => e = .returned (.bool true) ∧ Below W.heap.size W W' := by
  refine (h ⟨W, fun _ => False, oldI W, fun _ => none, fun _ => none, fun _ => none⟩ ⟨fun _ => none, fun _ => none, fun _ => none, fun _ => none, fun _ => none, oldI W⟩ W args rfl (fun _ _ h => h) (fun _ h => absurd h (by simp)) ⟨rfl, rfl, rfl, Nat.le_refl _, fun _ _ _ => rfl, fun _ _ h => ⟨h, rfl⟩, fun _ _ h => h, fun _ _ h => .inl h, fun _ _ h => (by cases h), ⟨fun _ _ h => (by cases h), fun _ _ h => (by cases h), fun _ _ h => (by cases h)⟩⟩ (fun g s h => ⟨(hgl g s h).1, (hgl g s h).2.1, fun h => h, (hgl g s h).2.2⟩) (fun h => ?_) ⟨hl, fun i s v a b => .ro (hr i s v a b)⟩).mono fun e W' hq => ?_
  · simp only [hfOf, nth]
    exact ⟨rfl, rfl, rfl, rfl⟩
  · obtain ⟨v, E', rfl, hb, _, hv⟩ := hq
    rw [hv.bool_inv]
    exact ⟨rfl, ⟨hb.os, hb.tape, hb.output, hb.size, fun k hk => hb.old k hk (fun h => h)⟩⟩

section
variable {H : Type} {enc : TypeId × Value → H}
theorem post_of_below {f : Func} {s : ChangeSpec} {apart fresh handsOn again : Bool} {W W' : World} {args : Array Value} {v : Value} {ds gs : List (DataW H)} {before pa pv : List MemPlace}
    (hW : DataW.Whole enc P f.params.toList s.vars apart W args.toList ds gs before)
    (hres : ∀ (b : Nat) (sp : Nat → Bool) (hd : Bool), DataW.TrodAll enc P W' b sp hd f.resultTypes.toList (v.resultList f.resultTypes.size) (s.fn H (ds ++ gs)).results [])
    (hargs : ∀ sp : Nat → Bool, (∀ p ∈ before, sp p.block = true) → DataW.TrodAll enc P W' 0 sp true f.params.toList args.toList (s.fn H (ds ++ gs)).args pa)
    (hvars : ∀ sp : Nat → Bool, (∀ p ∈ before, sp p.block = true) → DataW.TrodVars enc P W' sp s.vars (s.fn H (ds ++ gs)).vars pv)
    (hps : before = pa ++ pv) (hb : Below W.heap.size W W')
    (hok : ∀ (j : Nat) (t : TypeId) (r : Value), f.resultTypes[j]? = some t → (v.resultList f.resultTypes.size)[j]? = some r → Value.okWide P W' .any 0 t r) :
    s.post enc P f apart fresh handsOn again W args v W' := by
  have hlt : ∀ p ∈ before, p.block < W.heap.size := fun p hp => hW.lt p hp
  have hold : ∀ p ∈ before, (fun b => decide (b < W.heap.size)) p.block = true := fun p hp => by simpa using hlt p hp
  refine ⟨ds, gs, before, [], pa, pv, hW, hres _ _ _, hargs _ hold, hvars _ hold, World.keptBut_mono (fun p hp => ⟨hp, ?_⟩) (hb.frame (· ∈ before)), fun _ => ?_⟩
  · rw [hps, List.mem_append] at hp
    exact Or.inr hp
  · obtain ⟨_, _, _, _, _, hz, hn⟩ := hW
    refine ⟨hok, _, _, ([] ++ pa) ++ pv, ⟨[] ++ pa, pv, trodAll_append (hargs _ (fun _ _ => rfl)) (hres _ _ _), hvars _ (fun _ _ => rfl), rfl, ?_, ?_⟩, ?_⟩
    · intro b off hp
      have hin : MemPlace.cell b off ∈ before := by rw [hps]; simpa using hp
      rw [hb.frozen (hlt _ hin)]
      exact hz b off hin
    · intro ha
      have := hn ha
      rw [hps] at this
      simpa using this
    · intro p hp _
      rw [hps]
      simpa using hp

theorem trodAll_below (hl : laidOutB P = true) {W W' : World} {sp : Nat → Bool} (hb : Below W.heap.size W W') : ∀ {ts : List TypeId} {vs : List Value} {ds : List (DataW H)} {ps : List MemPlace}, (∀ t ∈ ts, P.readableRec t = true ∧ t < P.types.size) →
    DataW.TrodAll enc P W 0 (fun _ => true) true ts vs ds ps → (∀ p ∈ ps, p.block < W.heap.size) → (∀ p ∈ ps, sp p.block = true) → DataW.TrodAll enc P W' 0 sp true ts vs ds ps
  | [], [], [], _, _, h, _, _ => h
  | t :: ts, v :: vs, d :: ds, ps, ht, h, hlt, hs => by
    obtain ⟨p, q, h1, h2, rfl⟩ := h
    refine ⟨p, q, WideElems.Trod_stays hl (ht t (List.mem_cons_self ..)).1 (ht t (List.mem_cons_self ..)).2 h1 (fun x hx => hb.same (hlt x (List.mem_append_left _ hx))) (fun x hx => hs x (List.mem_append_left _ hx)), ?_, rfl⟩
    exact trodAll_below hl hb (fun t h => ht t (List.mem_cons_of_mem _ h)) h2 (fun x hx => hlt x (List.mem_append_right _ hx)) (fun x hx => hs x (List.mem_append_right _ hx))
  | [], _ :: _, _, _, _, h, _, _ => h.elim
  | [], [], _ :: _, _, _, h, _, _ => h.elim
  | _ :: _, [], _, _, _, h, _, _ => h.elim
  | _ :: _, _ :: _, [], _, _, h, _, _ => h.elim

/-- The end of a law's proof. -/
theorem law_post (hl : laidOutB P = true) {fn : Func} {s : ChangeSpec} {apart fresh handsOn again : Bool} {W W' : World} {args : Array Value} {ds gs : List (DataW H)} {before : List MemPlace} {tb : TypeId}
    (hts : ∀ t ∈ fn.params.toList, P.readableRec t = true ∧ t < P.types.size) (hv : s.vars = []) (hres : fn.resultTypes = #[tb]) (htb : P.underlying tb = some .bool)
    (hW : DataW.Whole enc P fn.params.toList s.vars apart W args.toList ds gs before) (hfn : (s.fn H (ds ++ gs)) = { results := [.lit (.bool true)], args := ds }) (hb : Below W.heap.size W W') :
    s.post enc P fn apart fresh handsOn again W args (.bool true) W' := by
  have hW' := hW
  obtain ⟨p, q, hA, hV, rfl, hz, hn⟩ := hW
  have hlt : ∀ x ∈ p ++ q, x.block < W.heap.size := fun x hx => hW'.lt x hx
  have hq : gs = [] ∧ q = [] := by rw [hv] at hV; exact trodVars_none hV
  obtain ⟨rfl, rfl⟩ := hq
  refine post_of_below (pa := p) (pv := []) hW' (fun b sp hd => ?_) (fun sp hs => ?_) (fun sp hs => ?_) (by simp) hb (ok_one hres rfl (okWide_bool_mk htb _))
  · rw [hfn, hres]
    exact trodAll_mk1 (shut_bool htb true)
  · rw [hfn]
    exact trodAll_below hl hb hts hA (fun x hx => hlt x (by simp [hx])) (fun x hx => hs x (by simp [hx]))
  · rw [hfn, hv]
    rfl
end

/-- Arguments that are read as data. -/
theorem open_args {H : Type} {tok : TypeId × Value → H} {W : World} {ts : List TypeId} {vs : List Value} {ds : List (DataW H)} {ps : List MemPlace} (h : DataW.TrodAll tok P W 0 (fun _ => true) true ts vs ds ps) :
    ts.length = vs.length ∧ ∀ (i : Nat) (t : TypeId) (v : Value), ts[i]? = some t → vs[i]? = some v → ∃ fuel x, DataW.trod tok P W 0 (fun _ => true) true fuel t v.cells.toList = some x := by
  induction ts generalizing vs ds ps with
  | nil => cases vs <;> cases ds <;> first | exact h.elim | simp
  | cons t ts ih =>
    cases vs with
    | nil => exact h.elim
    | cons v vs =>
      cases ds with
      | nil => exact h.elim
      | cons d ds =>
        obtain ⟨p, q, ⟨fuel, h1⟩, h2, _⟩ := h
        have := ih h2
        refine ⟨by simp [this.1], fun i t' v' a b => ?_⟩
        cases i with
        | zero => simp at a b; subst a b; exact ⟨fuel, _, h1⟩
        | succ i => exact this.2 i t' v' (by simpa using a) (by simpa using b)
/-- One that is one cell. -/
theorem arg_one {I : Nat → Nat → Prop} {W : World} {s : SV} {v : Value} (hn : ∀ a, v ≠ .agg a) (h : ROL I W [s] v.cells.toList) : RO I W s v := by
  cases v with
  | agg a => exact absurd rfl (hn a)
  | _ => exact h.2.1 0 s _ rfl (by simp [Value.cells])
theorem arg_slice {I : Nat → Nat → Prop} {W : World} {r : Reach} {base : Nat} {t e : TypeId} {s : SV} {v : Value} (ht : P.underlying t = some (.slice e)) (hv : Value.okWide P W r base t v) (h : ROL I W [s] v.cells.toList) : RO I W s v := by
  obtain ⟨a, len, cap, rfl⟩ := okWide_slice ht hv
  exact arg_one (fun _ h => by cases h) h
theorem arg_int {I : Nat → Nat → Prop} {W : World} {r : Reach} {base : Nat} {t : TypeId} {k : IntKind} {s : SV} {v : Value} (ht : P.underlying t = some (.int k)) (hv : Value.okWide P W r base t v) (h : ROL I W [s] v.cells.toList) : RO I W s v := by
  obtain ⟨n, rfl⟩ := okWide_int ht hv
  exact arg_one (fun _ h => by cases h) h
theorem arg_bool {I : Nat → Nat → Prop} {W : World} {r : Reach} {base : Nat} {t : TypeId} {s : SV} {v : Value} (ht : P.underlying t = some .bool) (hv : Value.okWide P W r base t v) (h : ROL I W [s] v.cells.toList) : RO I W s v := by
  obtain ⟨n, rfl⟩ := okWide_bool ht hv
  exact arg_one (fun _ h => by cases h) h
theorem arg_string {I : Nat → Nat → Prop} {W : World} {r : Reach} {base : Nat} {t : TypeId} {s : SV} {v : Value} (ht : P.underlying t = some .string) (hv : Value.okWide P W r base t v) (h : ROL I W [s] v.cells.toList) : RO I W s v := by
  obtain ⟨n, rfl⟩ := okWide_string ht hv
  exact arg_one (fun _ h => by cases h) h
theorem arg_struct {I : Nat → Nat → Prop} {W : World} {r : Reach} {base : Nat} {t : TypeId} {fs : Array Field} {cs : List SV} {v : Value} (ht : P.underlying t = some (.struct fs)) (hv : Value.okWide P W r base t v) (h : ROL I W cs v.cells.toList) : RO I W (.agg cs) v := by
  obtain ⟨a, rfl, _⟩ := okWide_struct ht hv
  exact .agg (vs := a.toList) h.1 h.2.1
/-- A struct, an array. -/
theorem arg_agg {I : Nat → Nat → Prop} {W : World} {cs : List SV} {a : Array Value} (h : ROL I W cs a.toList) : RO I W (.agg cs) (.agg a) := .agg (vs := a.toList) h.1 h.2.1
end
end Go.Sx
