/- Part of the proof of the statement: an evaluator of the code at closed data, run by the kernel, and that it is sound; it has no conditions of its own. -/
import Derived.Below
import Derived.Test.YtljlcljlnhaniaaGreatDoorSxf
set_option linter.unusedVariables false
set_option linter.unusedSimpArgs false
/- Regions that draw their order: one run in the order of the text serves every order. -/
namespace Go.Sx
open Go

abbrev Rec := Option (Sy × List Nat × Out)
abbrev X := (Nat → SG) × (Nat → Hl)

def updB (N : Nat) (f : Nat → SG) (d : Option Nat) (g : SG) : Nat → SG := fun s => if d = some s ∧ s < N then g else f s

def efAt (h : Nat) : Ef → Hl → Hl
  | .set h' off vs, x => if h' = h then (match x with | .blk ty cs => .blk ty (putN cs off vs) | x => x) else x
  | .put h' hl, x => if h' = h then hl else x
def efsAt (h : Nat) : List Ef → Hl → Hl
  | [], x => x
  | e :: es, x => efsAt h es (efAt h e x)

theorem efF_at (hf : Nat → Hl) (e : Ef) (h : Nat) : efF hf e h = efAt h e (hf h) := by
  cases e with
  | set h' off vs =>
    simp only [efF, efAt]
    by_cases e : h' = h
    · subst e
      rw [if_pos rfl]
      cases hx : hf h' <;> simp [upd, hx]
    · rw [if_neg e]
      cases hx : hf h' <;> simp [upd, Ne.symm e]
  | put h' hl =>
    simp only [efF, efAt, upd]
    by_cases e : h' = h
    · subst e; simp
    · rw [if_neg e, if_neg (fun h => e h.symm)]

theorem efsF_at (h : Nat) : ∀ (es : List Ef) (hf : Nat → Hl), efsF hf es h = efsAt h es (hf h)
  | [], _ => rfl
  | e :: es, hf => by
    show efsF (efF hf e) es h = efsAt h es (efAt h e (hf h))
    rw [efsF_at h es, efF_at]

def appR (N : Nat) (gm : List BT) (o : Oper) (rec : Rec) (x : X) : X :=
  match rec with
  | none => (updB N x.1 o.dst none, x.2)
  | some (_, T, r) => (updB N x.1 o.dst (some (condsOf gm T, r.v)), efsF x.2 r.efs)

def foldS (N : Nat) (gm : List BT) (S : Nat → Bool) : List (Oper × Rec) → Nat → X → X
  | [], _, x => x
  | p :: l, i, x => foldS N gm S l (i + 1) (if S i then appR N gm p.1 p.2 x else x)

def foldAll (N : Nat) (gm : List BT) : List (Oper × Rec) → X → X
  | [], x => x
  | p :: l, x => foldAll N gm l (appR N gm p.1 p.2 x)

theorem foldS_all {N : Nat} {gm : List BT} {S : Nat → Bool} : ∀ (L : List (Oper × Rec)) (k : Nat) (x : X), (∀ j, j < L.length → S (k + j) = true) → foldS N gm S L k x = foldAll N gm L x
  | [], _, _, _ => rfl
  | p :: L, k, x, h => by
    have h0 := h 0 (by simp)
    simp only [Nat.add_zero] at h0
    simp only [foldS, foldAll, h0, if_true]
    exact foldS_all L (k + 1) _ fun j hj => by have := h (j + 1) (by simpa using hj); rwa [show k + 1 + j = k + (j + 1) by omega]

theorem foldS_none {N : Nat} {gm : List BT} {S : Nat → Bool} : ∀ (L : List (Oper × Rec)) (k : Nat) (x : X), (∀ j, j < L.length → S (k + j) = false) → foldS N gm S L k x = x
  | [], _, _, _ => rfl
  | p :: L, k, x, h => by
    have h0 := h 0 (by simp)
    simp only [Nat.add_zero] at h0
    simp only [foldS, h0, Bool.false_eq_true, if_false]
    exact foldS_none L (k + 1) _ fun j hj => by have := h (j + 1) (by simpa using hj); rwa [show k + 1 + j = k + (j + 1) by omega]

theorem foldS_take {N : Nat} {gm : List BT} : ∀ (L : List (Oper × Rec)) (i k : Nat) (x : X), foldS N gm (fun j => decide (j < k + i)) L k x = foldAll N gm (L.take i) x
  | [], i, k, x => by simp [foldS, foldAll]
  | p :: L, 0, k, x => by
    simp only [List.take_zero, foldAll]
    exact foldS_none _ _ _ fun j _ => by simp
  | p :: L, i + 1, k, x => by
    simp only [foldS, List.take_succ_cons, foldAll]
    rw [if_pos (by simp)]
    have := foldS_take (N := N) (gm := gm) L i (k + 1) (appR N gm p.1 p.2 x)
    rw [← this]
    congr 1
    funext j
    congr 1
    exact propext (by omega)

/-! ### what the run gives -/

def StepAt (P : Program) (gl : List (Nat × SV)) (all : List Oper) (o : Oper) (gm : List BT) (σ : Sy) : Rec → Prop
  | none => guardOf all σ o.guard = some none
  | some (σ1, T, r) => guardOf all σ o.guard = some (some (σ1, T)) ∧ Local P gl σ1 T o r ∧ okEfs σ1.hp r.efs = true ∧ (T = [] ∨ r.efs = []) ∧ condsOf gm T = condsOf σ1.gm T

theorem condsOf_app {gm y : List BT} : ∀ {T : List Nat}, (∀ i ∈ T, i < gm.length) → condsOf (gm ++ y) T = condsOf gm T
  | [], _ => rfl
  | i :: T, h => by
    have h1 := condsOf_app (gm := gm) (y := y) (T := T) fun j hj => h j (List.mem_cons_of_mem _ hj)
    have h2 : nth (gm ++ y) i = nth gm i := by rw [nth_eq, nth_eq, List.getElem?_append_left (h i (List.mem_cons_self ..))]
    simp only [condsOf, List.filterMap_cons, h2] at *
    rw [h1]

theorem ffOf_setD (σ : Sy) (d : Option Nat) (g : Option G) (hp : List Hl) : ffOf ⟨setD σ.fr d g, hp, σ.gm⟩ = updB σ.fr.length (ffOf σ) d (g.map fun g => (condsOf σ.gm g.tg, g.v)) := by
  funext s
  cases d with
  | none => simp [setD, updB, ffOf]
  | some k =>
    simp only [setD, updB, ffOf, getO_set]
    by_cases e : s = k ∧ k < σ.fr.length
    · obtain ⟨rfl, h⟩ := e; simp [h]
    · rw [if_neg e, if_neg (fun h => e ⟨(Option.some.inj h.1).symm, by rw [Option.some.inj h.1]; exact h.2⟩)]

theorem runs_get {P : Program} {gl : List (Nat × SV)} {ops : Array Oper} {os : List Oper} {σ σ' : Sy} {rs : List Rec} (h : Runs P gl ops.toList os σ rs σ') : WfG σ → ∀ N, σ.fr.length = N →
    rs.length = os.length ∧ WfG σ' ∧ σ'.fr.length = N ∧ σ.hp.length ≤ σ'.hp.length ∧ (∃ y, σ'.gm = σ.gm ++ y) ∧ (ffOf σ', hfOf σ'.hp) = foldAll N σ'.gm (os.zip rs) (ffOf σ, hfOf σ.hp) ∧
    ∀ (i : Nat) (o : Oper) (rec : Rec), os[i]? = some o → rs[i]? = some rec → ∃ σi, WfG σi ∧ σi.fr.length = N ∧ (ffOf σi, hfOf σi.hp) = foldAll N σ'.gm ((os.zip rs).take i) (ffOf σ, hfOf σ.hp) ∧ StepAt P gl ops.toList o σ'.gm σi rec := by
  induction h with
  | nil σ => intro wf N hN; exact ⟨rfl, wf, hN, Nat.le_refl _, ⟨[], by simp⟩, rfl, by simp⟩
  | @skip o os σ σ' rs hg h ih =>
    intro wf N hN
    obtain ⟨h1, h2, h3, h4, ⟨y, h5⟩, h6, h7⟩ := ih (wf.setD o.dst none (by simp) σ.hp) N (by rw [len_setD]; exact hN)
    have hx : appR N σ'.gm o none (ffOf σ, hfOf σ.hp) = (ffOf ⟨setD σ.fr o.dst none, σ.hp, σ.gm⟩, hfOf σ.hp) := by
      simp only [appR]
      rw [ffOf_setD, hN]
      rfl
    refine ⟨by simp [h1], h2, h3, h4, ⟨y, h5⟩, ?_, fun i o' rec hi hr => ?_⟩
    · simp only [List.zip_cons_cons, foldAll]
      rw [hx]; exact h6
    · cases i with
      | zero =>
        simp at hi hr
        subst hi hr
        exact ⟨σ, wf, hN, rfl, hg⟩
      | succ i =>
        simp at hi hr
        obtain ⟨σi, w1, w2, w3, w4⟩ := h7 i o' rec hi hr
        refine ⟨σi, w1, w2, ?_, w4⟩
        simp only [List.zip_cons_cons, List.take_succ_cons, foldAll]
        rw [hx]; exact w3
  | @step o os σ σ1 σ' T r rs hg hl he hte h ih =>
    intro wf N hN
    obtain ⟨w1, w2, w3, w4, w5, ⟨z, w6⟩, _, _⟩ := guardOf_some (ops := ops) rfl hg wf
    obtain ⟨h1, h2, h3, h4, ⟨y, h5⟩, h6, h7⟩ := ih (w1.setD o.dst (some ⟨T, none, none, r.v⟩) (by rintro g' ⟨⟩; exact ⟨w5, rfl, rfl⟩) _) N (by rw [len_setD, w4]; exact hN)
    have hT : condsOf σ'.gm T = condsOf σ1.gm T := by rw [h5]; exact condsOf_app w5
    have hx : appR N σ'.gm o (some (σ1, T, r)) (ffOf σ, hfOf σ.hp) = (ffOf ⟨setD σ1.fr o.dst (some ⟨T, none, none, r.v⟩), efsH σ1.hp r.efs, σ1.gm⟩, hfOf (efsH σ1.hp r.efs)) := by
      simp only [appR]
      rw [ffOf_setD, hfOf_efsH _ _ he, w4, hN, w2, w3, hT]
      rfl
    refine ⟨by simp [h1], h2, h3, Nat.le_trans (by rw [← w3]; exact len_efsH _ _) h4, ⟨z ++ y, by rw [h5, w6, List.append_assoc]⟩, ?_, fun i o' rec hi hr => ?_⟩
    · simp only [List.zip_cons_cons, foldAll]
      rw [hx]; exact h6
    · cases i with
      | zero =>
        simp at hi hr
        subst hi hr
        exact ⟨σ, wf, hN, rfl, hg, hl, he, hte, hT⟩
      | succ i =>
        simp at hi hr
        obtain ⟨σi, q1, q2, q3, q4⟩ := h7 i o' rec hi hr
        refine ⟨σi, q1, q2, ?_, q4⟩
        simp only [List.zip_cons_cons, List.take_succ_cons, foldAll]
        rw [hx]; exact q3

/-! ### slots -/

theorem appR_slot {N : Nat} {gm : List BT} {o : Oper} {rec : Rec} {x : X} {s : Nat} (h : o.dst ≠ some s) : (appR N gm o rec x).1 s = x.1 s := by
  cases rec with
  | none => simp [appR, updB, h]
  | some p => obtain ⟨σ, T, r⟩ := p; simp [appR, updB, h]

theorem appR_slot_eq {N : Nat} {gm : List BT} {o : Oper} {rec : Rec} {x y : X} {s : Nat} (h : x.1 s = y.1 s) : (appR N gm o rec x).1 s = (appR N gm o rec y).1 s := by
  cases rec with
  | none => simp only [appR, updB]; split <;> simp [h]
  | some p => obtain ⟨σ, T, r⟩ := p; simp only [appR, updB]; split <;> simp [h]

theorem foldS_slot {N : Nat} {gm : List BT} {S S' : Nat → Bool} {s : Nat} : ∀ (L : List (Oper × Rec)) (k : Nat) (x y : X), x.1 s = y.1 s → (∀ (j : Nat) (p : Oper × Rec), L[j]? = some p → p.1.dst = some s → S (k + j) = S' (k + j)) →
    (foldS N gm S L k x).1 s = (foldS N gm S' L k y).1 s
  | [], _, _, _, h, _ => h
  | p :: L, k, x, y, h, hS => by
    simp only [foldS]
    refine foldS_slot L (k + 1) _ _ ?_ fun j q hq hd => by have := hS (j + 1) q (by simpa using hq) hd; rwa [show k + (j + 1) = k + 1 + j by omega] at this
    by_cases hd : p.1.dst = some s
    · have := hS 0 p rfl hd
      simp only [Nat.add_zero] at this
      rw [this]
      split
      · exact appR_slot_eq h
      · exact h
    · have a1 : (if S k then appR N gm p.1 p.2 x else x).1 s = x.1 s := by split; exact appR_slot hd; rfl
      have a2 : (if S' k then appR N gm p.1 p.2 y else y).1 s = y.1 s := by split; exact appR_slot hd; rfl
      rw [a1, a2, h]

/-! ### the heap, a heaplet at a time -/

def efsR : Rec → List Ef
  | none => []
  | some (_, _, r) => r.efs

theorem appR_heap {N : Nat} {gm : List BT} {o : Oper} {rec : Rec} {x : X} {h : Nat} : (appR N gm o rec x).2 h = efsAt h (efsR rec) (x.2 h) := by
  cases rec with
  | none => rfl
  | some p => obtain ⟨σ, T, r⟩ := p; exact efsF_at h r.efs x.2

def foldH (h : Nat) (S : Nat → Bool) : List (Oper × Rec) → Nat → Hl → Hl
  | [], _, x => x
  | p :: l, i, x => foldH h S l (i + 1) (if S i then efsAt h (efsR p.2) x else x)

theorem foldS_heap {N : Nat} {gm : List BT} {S : Nat → Bool} {h : Nat} : ∀ (L : List (Oper × Rec)) (k : Nat) (x : X), (foldS N gm S L k x).2 h = foldH h S L k (x.2 h)
  | [], _, _ => rfl
  | p :: L, k, x => by
    simp only [foldS, foldH]
    rw [foldS_heap L]
    congr 1
    split
    · exact appR_heap
    · rfl

theorem anyR_false {x : Nat × Option (Nat × Nat)} : ∀ {l : List (Nat × Option (Nat × Nat))}, anyR x l = false → ∀ y ∈ l, meetsR x y = false
  | [], _, y, hy => by cases hy
  | z :: l, h, y, hy => by
    simp only [anyR, Bool.or_eq_false_iff] at h
    rcases List.mem_cons.1 hy with rfl | hy
    · exact h.1
    · exact anyR_false h.2 y hy
theorem meetsW_false {t : List (Nat × Option (Nat × Nat))} : ∀ {l : List (Nat × Option (Nat × Nat))}, meetsW l t = false → ∀ x ∈ l, ∀ y ∈ t, meetsR x y = false
  | [], _, x, hx, _, _ => by cases hx
  | z :: l, h, x, hx, y, hy => by
    simp only [meetsW, Bool.or_eq_false_iff] at h
    rcases List.mem_cons.1 hx with rfl | hx
    · exact anyR_false h.1 y hy
    · exact meetsW_false h.2 x hx y hy

theorem meetsR_comm (x y : Nat × Option (Nat × Nat)) : meetsR x y = meetsR y x := by
  obtain ⟨h, a⟩ := x
  obtain ⟨k, b⟩ := y
  simp only [meetsR]
  have e : (h == k) = (k == h) := BEq.comm
  rw [e]
  congr 1
  cases a with
  | none => cases b <;> rfl
  | some a => cases b with
    | none => rfl
    | some b => simp [Bool.and_comm]

def same (x y : Hl) (U : Nat → Prop) : Prop := x = y ∨ ∃ ty cs cs', x = .blk ty cs ∧ y = .blk ty cs' ∧ cs'.length = cs.length ∧ ∀ j, U j → cs'[j]? = cs[j]?

theorem get_putN_out {α : Type} : ∀ (vs l : List α) (off i : Nat), (i < off ∨ off + vs.length ≤ i) → (putN l off vs)[i]? = l[i]?
  | [], _, _, _, _ => rfl
  | v :: vs, l, off, i, h => by
    simp only [List.length_cons] at h
    rw [putN, get_putN_out vs _ (off + 1) i (by omega), setN_eq, List.getElem?_set_ne (by omega)]

theorem get_putN_same {α : Type} : ∀ (vs l l' : List α) (off i : Nat), l'.length = l.length → l'[i]? = l[i]? → (putN l' off vs)[i]? = (putN l off vs)[i]?
  | [], _, _, _, _, _, h => h
  | v :: vs, l, l', off, i, hl, h => by
    rw [putN, putN]
    refine get_putN_same vs _ _ (off + 1) i (by simp [setN_eq, hl]) ?_
    rw [setN_eq, setN_eq, List.getElem?_set, List.getElem?_set, hl, h]

/-- One and the same change on both sides. -/
theorem same_both {h : Nat} {U : Nat → Prop} : ∀ (es : List Ef) {x y : Hl}, same x y U → same (efsAt h es x) (efsAt h es y) U
  | [], _, _, hs => hs
  | e :: es, x, y, hs => by
    refine same_both es ?_
    rcases hs with rfl | ⟨ty, cs, cs', rfl, rfl, hl, hU⟩
    · exact .inl rfl
    · cases e with
      | set h' off vs =>
        simp only [efAt]
        split
        · exact .inr ⟨ty, _, _, rfl, rfl, by rw [len_putN, len_putN, hl], fun j hj => get_putN_same vs _ _ off j hl (hU j hj)⟩
        · exact .inr ⟨ty, cs, cs', rfl, rfl, hl, hU⟩
      | put h' hl' =>
        simp only [efAt]
        split
        · exact .inl rfl
        · exact .inr ⟨ty, cs, cs', rfl, rfl, hl, hU⟩

theorem same_trans {x y z : Hl} {U : Nat → Prop} (h1 : same x y U) (h2 : same y z U) : same x z U := by
  rcases h1 with rfl | ⟨ty, cs, cs', rfl, rfl, hl, hU⟩
  · exact h2
  · rcases h2 with rfl | ⟨ty2, cs2, cs3, e, rfl, hl2, hU2⟩
    · exact .inr ⟨ty, cs, cs', rfl, rfl, hl, hU⟩
    · cases e
      exact .inr ⟨ty, cs, cs3, rfl, rfl, by rw [hl2, hl], fun j hj => by rw [hU2 j hj, hU j hj]⟩
theorem same_symm {x y : Hl} {U : Nat → Prop} (h1 : same x y U) : same y x U := by
  rcases h1 with rfl | ⟨ty, cs, cs', rfl, rfl, hl, hU⟩
  · exact .inl rfl
  · exact .inr ⟨ty, cs', cs, rfl, rfl, hl.symm, fun j hj => (hU j hj).symm⟩

def inR (ρ : Nat × Option (Nat × Nat)) (j : Nat) : Prop := match ρ.2 with
  | none => True
  | some (off, n) => off ≤ j ∧ j < off + n

/-- A change that does not meet the region. -/
theorem same_apart {ρ : Nat × Option (Nat × Nat)} : ∀ (es : List Ef) (x : Hl), (∀ y ∈ efW es, meetsR y ρ = false) → same x (efsAt ρ.1 es x) (inR ρ) ∧ (ρ.2 = none → efsAt ρ.1 es x = x)
  | [], x, _ => ⟨.inl rfl, fun _ => rfl⟩
  | e :: es, x, h => by
    have head : same x (efAt ρ.1 e x) (inR ρ) ∧ (ρ.2 = none → efAt ρ.1 e x = x) := by
      obtain ⟨hh, a⟩ := ρ
      cases e with
      | set h' off vs =>
        have hm := h (h', some (off, lenN vs)) (by simp [efW])
        simp only [efAt]
        by_cases e : h' = hh
        · subst e
          rw [if_pos rfl]
          cases x <;> try exact ⟨.inl rfl, fun _ => rfl⟩
          rename_i ty cs
          cases a with
          | none => simp [meetsR] at hm
          | some a =>
            obtain ⟨o2, n2⟩ := a
            simp only [meetsR, beq_self_eq_true, Bool.true_and, lenN_eq, Bool.and_eq_false_iff] at hm
            refine ⟨.inr ⟨ty, cs, _, rfl, rfl, len_putN _ _ _, fun j hj => get_putN_out _ _ _ _ ?_⟩, fun h => by cases h⟩
            simp only [inR] at hj
            rcases hm with hm | hm
            · have : ¬ off < o2 + n2 := by intro hlt; rw [(Nat.blt_eq ▸ hlt : Nat.blt _ _ = true)] at hm; cases hm
              omega
            · have : ¬ o2 < off + vs.length := by intro hlt; rw [(Nat.blt_eq ▸ hlt : Nat.blt _ _ = true)] at hm; cases hm
              omega
        · rw [if_neg e]; exact ⟨.inl rfl, fun _ => rfl⟩
      | put h' hl =>
        have hm := h (h', none) (by simp [efW])
        simp only [efAt]
        by_cases e : h' = hh
        · subst e; simp [meetsR] at hm
        · rw [if_neg e]; exact ⟨.inl rfl, fun _ => rfl⟩
    have htl : ∀ y ∈ efW es, meetsR y ρ = false := fun y hy => h y (by cases e <;> simp [efW, hy])
    obtain ⟨t1, t2⟩ := same_apart es (efAt ρ.1 e x) htl
    exact ⟨same_trans head.1 t1, fun hn => by show efsAt ρ.1 es (efAt ρ.1 e x) = x; rw [t2 hn, head.2 hn]⟩

theorem foldH_agree {ρ : Nat × Option (Nat × Nat)} {S S' : Nat → Bool} : ∀ (L : List (Oper × Rec)) (k : Nat) (x y : Hl), same x y (inR ρ) → (ρ.2 = none → x = y) → (∀ (j : Nat) (p : Oper × Rec), L[j]? = some p → S (k + j) ≠ S' (k + j) → ∀ z ∈ efW (efsR p.2), meetsR z ρ = false) →
    same (foldH ρ.1 S L k x) (foldH ρ.1 S' L k y) (inR ρ) ∧ (ρ.2 = none → foldH ρ.1 S L k x = foldH ρ.1 S' L k y)
  | [], _, _, _, h, hn, _ => ⟨h, hn⟩
  | p :: L, k, x, y, h, hn, hS => by
    simp only [foldH]
    have hrec := fun (x' y' : Hl) (hs : same x' y' (inR ρ)) (he : ρ.2 = none → x' = y') => foldH_agree (ρ := ρ) (S := S) (S' := S') L (k + 1) x' y' hs he fun j q hq hd => hS (j + 1) q (by simpa using hq) (by rwa [show k + (j + 1) = k + 1 + j by omega])
    have h0 := hS 0 p rfl
    simp only [Nat.add_zero] at h0
    cases hSk : S k <;> cases hSk' : S' k
    · exact hrec x y h hn
    · obtain ⟨a1, a2⟩ := same_apart (ρ := ρ) (efsR p.2) y (h0 (by rw [hSk, hSk']; decide))
      exact hrec x _ (same_trans h a1) (fun e => by rw [if_pos rfl, a2 e]; exact hn e)
    · obtain ⟨a1, a2⟩ := same_apart (ρ := ρ) (efsR p.2) x (h0 (by rw [hSk, hSk']; decide))
      exact hrec _ y (same_trans (same_symm a1) h) (fun e => by rw [if_pos rfl, a2 e]; exact hn e)
    · exact hrec _ _ (same_both _ h) (fun e => by rw [hn e])

/-! ### changes that do not meet may come in either order -/

theorem putN_setN {α : Type} : ∀ (vs l : List α) (off i : Nat) (v : α), (i < off ∨ off + vs.length ≤ i) → putN (setN l i v) off vs = setN (putN l off vs) i v
  | [], _, _, _, _, _ => rfl
  | u :: vs, l, off, i, v, h => by
    simp only [List.length_cons] at h
    rw [putN, putN, ← putN_setN vs _ (off + 1) i v (by omega)]
    congr 1
    rw [setN_eq, setN_eq, setN_eq, setN_eq, List.set_comm _ _ (by omega)]
theorem putN_putN {α : Type} : ∀ (us vs l : List α) (o1 o2 : Nat), (o1 + us.length ≤ o2 ∨ o2 + vs.length ≤ o1 ∨ us = [] ∨ vs = []) → putN (putN l o1 us) o2 vs = putN (putN l o2 vs) o1 us
  | [], vs, l, o1, o2, _ => rfl
  | u :: us, [], l, o1, o2, _ => rfl
  | u :: us, v :: vs, l, o1, o2, h => by
    have h : o1 + (us.length + 1) ≤ o2 ∨ o2 + (vs.length + 1) ≤ o1 := by
      rcases h with h | h | h | h
      · exact .inl h
      · exact .inr h
      · cases h
      · cases h
    rw [show putN l o1 (u :: us) = putN (setN l o1 u) (o1 + 1) us from rfl, putN_putN us (v :: vs) (setN l o1 u) (o1 + 1) o2 (by simp only [List.length_cons]; omega)]
    rw [putN_setN (v :: vs) l o2 o1 u (by simp only [List.length_cons]; omega)]
    rfl

theorem efAt_comm {h : Nat} {e e' : Ef} {y y' : Nat × Option (Nat × Nat)} (hy : efW [e] = [y]) (hy' : efW [e'] = [y']) (hm : meetsR y y' = false) (x : Hl) : efAt h e (efAt h e' x) = efAt h e' (efAt h e x) := by
  cases e with
  | set h1 o1 us =>
    cases e' with
    | set h2 o2 vs =>
      simp only [efAt]
      by_cases e1 : h1 = h <;> by_cases e2 : h2 = h <;> simp only [e1, e2, if_true, if_false]
      subst e1
      cases x <;> try rfl
      simp only [efW, List.cons.injEq, and_true] at hy hy'
      subst hy hy'
      subst e2
      simp only [meetsR, beq_self_eq_true, Bool.true_and, Bool.and_eq_false_iff, lenN_eq] at hm
      refine congrArg (Hl.blk _) (putN_putN us vs _ o1 o2 ?_).symm
      rcases hm with hm | hm
      · have : ¬ o1 < o2 + vs.length := by intro hlt; rw [(Nat.blt_eq ▸ hlt : Nat.blt _ _ = true)] at hm; cases hm
        exact .inr (.inl (by omega))
      · have : ¬ o2 < o1 + us.length := by intro hlt; rw [(Nat.blt_eq ▸ hlt : Nat.blt _ _ = true)] at hm; cases hm
        exact .inl (by omega)
    | put h2 hl =>
      simp only [efAt]
      by_cases e1 : h1 = h <;> by_cases e2 : h2 = h <;> simp only [e1, e2, if_true, if_false]
      simp only [efW, List.cons.injEq, and_true] at hy hy'
      subst hy hy'
      simp [meetsR, e1, e2] at hm
  | put h1 hl =>
    cases e' with
    | set h2 o2 vs =>
      simp only [efAt]
      by_cases e1 : h1 = h <;> by_cases e2 : h2 = h <;> simp only [e1, e2, if_true, if_false]
      simp only [efW, List.cons.injEq, and_true] at hy hy'
      subst hy hy'
      simp [meetsR, e1, e2] at hm
    | put h2 hl2 =>
      simp only [efAt]
      by_cases e1 : h1 = h <;> by_cases e2 : h2 = h <;> simp only [e1, e2, if_true, if_false]
      simp only [efW, List.cons.injEq, and_true] at hy hy'
      subst hy hy'
      simp [meetsR, e1, e2] at hm

theorem efW_one (e : Ef) : ∃ y, efW [e] = [y] := by cases e <;> exact ⟨_, rfl⟩
theorem efW_cons (e : Ef) (es : List Ef) {y : Nat × Option (Nat × Nat)} (hy : efW [e] = [y]) : efW (e :: es) = y :: efW es := by
  cases e <;> simp only [efW, List.cons.injEq, and_true] at hy ⊢ <;> exact hy

theorem efsAt_ef {h : Nat} {e : Ef} {y : Nat × Option (Nat × Nat)} (hy : efW [e] = [y]) : ∀ (es : List Ef) (x : Hl), (∀ z ∈ efW es, meetsR y z = false) → efsAt h es (efAt h e x) = efAt h e (efsAt h es x)
  | [], _, _ => rfl
  | e' :: es, x, hm => by
    obtain ⟨y', hy'⟩ := efW_one e'
    rw [efW_cons e' es hy'] at hm
    show efsAt h es (efAt h e' (efAt h e x)) = efAt h e (efsAt h es (efAt h e' x))
    rw [← efsAt_ef hy es (efAt h e' x) fun z hz => hm z (List.mem_cons_of_mem _ hz)]
    rw [efAt_comm hy hy' (hm y' (List.mem_cons_self ..))]

theorem efsAt_comm {h : Nat} : ∀ (es es' : List Ef) (x : Hl), (∀ y ∈ efW es, ∀ z ∈ efW es', meetsR y z = false) → efsAt h es' (efsAt h es x) = efsAt h es (efsAt h es' x)
  | [], _, _, _ => rfl
  | e :: es, es', x, hm => by
    obtain ⟨y, hy⟩ := efW_one e
    rw [efW_cons e es hy] at hm
    show efsAt h es' (efsAt h es (efAt h e x)) = efsAt h es (efAt h e (efsAt h es' x))
    rw [efsAt_comm es es' _ fun y hy => hm y (List.mem_cons_of_mem _ hy)]
    rw [efsAt_ef hy es' x (hm y (List.mem_cons_self ..))]

theorem foldH_comm {h : Nat} {S : Nat → Bool} {es : List Ef} : ∀ (L : List (Oper × Rec)) (k : Nat) (x : Hl), (∀ (j : Nat) (p : Oper × Rec), L[j]? = some p → S (k + j) = true → ∀ y ∈ efW es, ∀ z ∈ efW (efsR p.2), meetsR y z = false) →
    foldH h S L k (efsAt h es x) = efsAt h es (foldH h S L k x)
  | [], _, _, _ => rfl
  | p :: L, k, x, hm => by
    simp only [foldH]
    have hrec := fun x => foldH_comm (h := h) (S := S) (es := es) L (k + 1) x fun j q hq hd => hm (j + 1) q (by simpa using hq) (by rwa [show k + (j + 1) = k + 1 + j by omega])
    cases hSk : S k with
    | false => exact hrec x
    | true =>
      simp only [if_true]
      rw [efsAt_comm es (efsR p.2) x (hm 0 p rfl (by simpa using hSk)), hrec]

theorem foldH_insert {h : Nat} {S S' : Nat → Bool} : ∀ (L : List (Oper × Rec)) (i k : Nat) (x : Hl) (p : Oper × Rec), L[i]? = some p → S (k + i) = false → S' (k + i) = true → (∀ j, j ≠ k + i → S' j = S j) →
    (∀ (j : Nat) (q : Oper × Rec), i < j → L[j]? = some q → S (k + j) = true → ∀ y ∈ efW (efsR p.2), ∀ z ∈ efW (efsR q.2), meetsR y z = false) →
    foldH h S' L k x = efsAt h (efsR p.2) (foldH h S L k x)
  | [], i, _, _, _, h, _, _, _, _ => by simp at h
  | q :: L, 0, k, x, p, hp, h1, h2, hS, hm => by
    simp at hp
    subst hp
    simp only [Nat.add_zero] at h1 h2
    simp only [foldH, h1, h2, if_true, Bool.false_eq_true, if_false]
    have e : foldH h S' L (k + 1) (efsAt h (efsR q.2) x) = foldH h S L (k + 1) (efsAt h (efsR q.2) x) := by
      have : ∀ (L : List (Oper × Rec)) (m : Nat) (x : Hl), k < m → foldH h S' L m x = foldH h S L m x := by
        intro L
        induction L with
        | nil => intro m x _; rfl
        | cons r L ih => intro m x hlt; simp only [foldH]; rw [hS m (by omega)]; exact ih _ _ (by omega)
      exact this L (k + 1) _ (by omega)
    rw [e]
    exact foldH_comm L (k + 1) x fun j r hr hd => hm (j + 1) r (by omega) (by simpa using hr) (by rwa [show k + (j + 1) = k + 1 + j by omega])
  | q :: L, i + 1, k, x, p, hp, h1, h2, hS, hm => by
    simp only [foldH]
    rw [hS k (by omega)]
    exact foldH_insert L i (k + 1) _ p (by simpa using hp) (by rwa [show k + 1 + i = k + (i + 1) by omega]) (by rwa [show k + 1 + i = k + (i + 1) by omega]) (fun j hj => hS j (by omega))
      fun j r hj hr hd => hm (j + 1) r (by omega) (by simpa using hr) (by rwa [show k + (j + 1) = k + 1 + j by omega])

end Go.Sx
/- Any order. -/
namespace Go.Sx
open Go

/-! ### what comes before what -/

theorem mem_edgesL {n : Nat} : ∀ {es : List Edge}, n ∈ edgesL es → ∃ e ∈ es, Region.binds .any e = true ∧ e.on = n
  | [], h => by simp [edgesL] at h
  | e :: es, h => by
    simp only [edgesL, List.mem_append] at h
    rcases h with h | h
    · refine ⟨e, List.mem_cons_self .., ?_⟩
      cases hg : e.ground <;> simp only [hg, List.mem_singleton, List.not_mem_nil] at h <;> exact ⟨by simp [Region.binds, hg], h.symm⟩
    · obtain ⟨e', h1, h2⟩ := mem_edgesL h
      exact ⟨e', List.mem_cons_of_mem _ h1, h2⟩
theorem edgesL_mem {e : Edge} : ∀ {es : List Edge}, e ∈ es → Region.binds .any e = true → e.on ∈ edgesL es
  | [], h, _ => by cases h
  | e' :: es, h, hb => by
    simp only [edgesL, List.mem_append]
    rcases List.mem_cons.1 h with rfl | h
    · left
      cases hg : e.ground <;> simp [Region.binds, hg] at hb ⊢
    · exact .inr (edgesL_mem h hb)

theorem mem_unionN {x : Nat} : ∀ {l t : List Nat}, x ∈ unionN l t → x ∈ l ∨ x ∈ t
  | [], _, h => .inr h
  | y :: l, t, h => by
    rcases mem_unionN (l := l) h with h | h
    · exact .inl (List.mem_cons_of_mem _ h)
    · unfold addN at h
      split at h
      · exact .inr h
      · rcases List.mem_cons.1 h with rfl | h
        · exact .inl (List.mem_cons_self ..)
        · exact .inr h
theorem mem_addN {x y : Nat} {l : List Nat} (h : x ∈ addN y l) : x = y ∨ x ∈ l := by
  unfold addN at h
  split at h
  · exact .inr h
  · exact List.mem_cons.1 h

theorem mem_backed {acc : List (List Nat)} {x : Nat} : ∀ {l : List Nat}, x ∈ backed acc l → ∃ i ∈ l, x = i ∨ x ∈ (nth acc i).getD []
  | [], h => by simp [backed] at h
  | i :: l, h => by
    simp only [backed] at h
    rcases mem_unionN h with h | h
    · exact ⟨i, List.mem_cons_self .., mem_addN h⟩
    · obtain ⟨j, h1, h2⟩ := mem_backed h
      exact ⟨j, List.mem_cons_of_mem _ h1, h2⟩

theorem lowAll_iff {n : Nat} : ∀ {l : List Nat}, lowAll n l = true → ∀ x ∈ l, x < n
  | [], _, x, h => by cases h
  | y :: l, h, x, hx => by
    simp only [lowAll, Bool.and_eq_true, Nat.blt_eq] at h
    rcases List.mem_cons.1 hx with rfl | hx
    · exact h.1
    · exact lowAll_iff h.2 x hx

theorem edgesOk_get : ∀ {os : List Oper} {k : Nat}, edgesOk os k = true → ∀ {j : Nat} {o : Oper}, os[j]? = some o → ∀ x ∈ edgesL o.after.toList, x < k + j
  | [], _, _, j, o, h => by simp at h
  | o0 :: os, k, hk, j, o, h => by
    simp only [edgesOk, Bool.and_eq_true] at hk
    cases j with
    | zero => simp at h; subst h; exact lowAll_iff hk.1
    | succ j =>
      simp at h
      intro x hx
      have := edgesOk_get hk.2 h x hx
      omega

/-- What must come before has come. -/
theorem befores_in {S : Nat → Prop} {all : List Oper} (hdown : ∀ (k : Nat) (o : Oper), all[k]? = some o → S k → ∀ x ∈ edgesL o.after.toList, S x) (hok : edgesOk all 0 = true) :
    ∀ (os : List Oper) (acc : List (List Nat)), (∀ (j : Nat) (o : Oper), os[j]? = some o → all[acc.length + j]? = some o) →
      (∀ (j : Nat) (o : Oper) (l : List Nat), all[j]? = some o → acc[j]? = some l → (∀ x ∈ edgesL o.after.toList, S x) → ∀ x ∈ l, S x) →
      ∀ (j : Nat) (o : Oper) (l : List Nat), all[j]? = some o → (befores os acc)[j]? = some l → (∀ x ∈ edgesL o.after.toList, S x) → ∀ x ∈ l, S x
  | [], acc, _, hacc => fun j o l ho hl => hacc j o l ho hl
  | o0 :: os, acc, hal, hacc => by
    have h0 := hal 0 o0 rfl
    simp only [Nat.add_zero] at h0
    refine befores_in hdown hok os (acc ++ [backed acc (edgesL o0.after.toList)]) (fun j o h => ?_) (fun j o l ho hl he x hx => ?_)
    · have := hal (j + 1) o (by simpa using h)
      simp only [List.length_append, List.length_singleton]
      rwa [show acc.length + 1 + j = acc.length + (j + 1) by omega]
    · by_cases hj : j < acc.length
      · rw [List.getElem?_append_left hj] at hl
        exact hacc j o l ho hl he x hx
      · have hje : j = acc.length := by
          have := (List.getElem?_eq_some_iff.1 hl).1
          simp at this
          omega
        subst hje
        rw [h0] at ho
        cases ho
        simp at hl
        subst hl
        obtain ⟨i, hi, hx⟩ := mem_backed hx
        have hSi := he i hi
        rcases hx with rfl | hx
        · exact hSi
        · have hlt : i < acc.length := by have := edgesOk_get hok h0 i hi; omega
          have hai : all[i]? = some (all[i]'(by have := (List.getElem?_eq_some_iff.1 h0).1; omega)) := List.getElem?_eq_getElem _
          rw [nth_eq, List.getElem?_eq_getElem hlt] at hx
          exact hacc i _ _ hai (List.getElem?_eq_getElem hlt) (hdown i _ hai hSi) x hx

theorem apartFrom_get {all : List Oper} {bs : List (List Nat)} {i : Nat} {o : Oper} {f : FP} : ∀ {os : List Oper} {fs : List FP} {j : Nat}, apartFrom all bs i o f os fs j = true → ∀ {m : Nat} {o' : Oper} {f' : FP}, os[m]? = some o' → fs[m]? = some f' →
    clash all o f o' f' = false ∨ i ∈ (nth bs (j + m)).getD []
  | [], _, _, _, m, o', f', h, _ => by simp at h
  | _ :: _, [], _, _, m, o', f', _, h => by simp at h
  | o1 :: os, f1 :: fs, j, h, m, o', f', h1, h2 => by
    simp only [apartFrom, Bool.and_eq_true, Bool.or_eq_true, Bool.not_eq_true', hasN_iff] at h
    cases m with
    | zero => simp at h1 h2; subst h1 h2; exact h.1
    | succ m =>
      simp at h1 h2
      have := apartFrom_get h.2 h1 h2
      rwa [show j + 1 + m = j + (m + 1) by omega] at this

theorem indep_get {all : List Oper} {bs : List (List Nat)} : ∀ {os : List Oper} {fs : List FP} {k : Nat}, indep all bs os fs k = true → ∀ {i j : Nat} {o o' : Oper} {f f' : FP}, i < j → os[i]? = some o → os[j]? = some o' → fs[i]? = some f → fs[j]? = some f' →
    clash all o f o' f' = false ∨ (k + i) ∈ (nth bs (k + j)).getD []
  | [], _, _, _, i, j, o, o', f, f', _, h, _, _, _ => by simp at h
  | _ :: _, [], _, _, i, j, o, o', f, f', _, _, _, h, _ => by simp at h
  | o1 :: os, f1 :: fs, k, h, i, j, o, o', f, f', hij, h1, h2, h3, h4 => by
    simp only [indep, Bool.and_eq_true] at h
    obtain ⟨m, rfl⟩ : ∃ m, j = m + 1 := ⟨j - 1, by omega⟩
    simp at h2 h4
    cases i with
    | zero =>
      simp at h1 h3
      subst h1 h3
      have := apartFrom_get h.1 h2 h4
      simpa [show k + 1 + m = k + (m + 1) by omega] using this
    | succ i =>
      simp at h1 h3
      have := indep_get h.2 (i := i) (j := m) (by omega) h1 h2 h3 h4
      rwa [show k + 1 + i = k + (i + 1) by omega, show k + 1 + m = k + (m + 1) by omega] at this

theorem mem_slotsL {s : Nat} : ∀ {xs : List Operand}, s ∈ xs.flatMap opSlots → s ∈ slotsL xs
  | [], h => by simp at h
  | x :: xs, h => by
    simp only [List.flatMap_cons, List.mem_append] at h
    simp only [slotsL, List.mem_append]
    rcases h with h | h
    · left
      cases x with
      | tmp _ => simpa [opSlots, opSlot] using h
      | _ => simp [opSlots] at h
    · exact .inr (mem_slotsL h)

theorem meetsN_false {t : List Nat} : ∀ {l : List Nat}, meetsN l t = false → ∀ x ∈ l, x ∉ t
  | [], _, x, h => by cases h
  | y :: l, h, x, hx => by
    simp only [meetsN, Bool.or_eq_false_iff] at h
    rcases List.mem_cons.1 hx with rfl | hx
    · intro hm; rw [(hasN_iff _ _).2 hm] at h; cases h.1
    · exact meetsN_false h.2 x hx

theorem guardSlot_mem {all : List Oper} {o : Oper} {j : Nat} {want : Bool} {s : Nat} (hg : o.guard = some (j, want)) (h : (nth all j).bind (·.dst) = some s) : s ∈ guardSlot all o.guard := by
  rw [hg]
  simp only [guardSlot]
  cases hj : nth all j with
  | none => rw [hj] at h; cases h
  | some oj =>
    rw [hj] at h
    simp only [Option.bind_some] at h
    simp [h]

section
variable {P : Program} {ops : Array Oper} {gl : List (Nat × SV)} {B : Bs} {N : Nat} {σ σ' : Sy} {rs : List Rec}

/-- All that the run and the check give, at once. -/
structure Ctx (P : Program) (ops : Array Oper) (gl : List (Nat × SV)) (N : Nat) (σ σ' : Sy) (rs : List Rec) : Prop where
  len : rs.length = ops.size
  step : ∀ (i : Nat) (o : Oper) (rec : Rec), ops[i]? = some o → rs[i]? = some rec → ∃ σi, WfG σi ∧ σi.fr.length = N ∧ (ffOf σi, hfOf σi.hp) = foldAll N σ'.gm ((ops.toList.zip rs).take i) (ffOf σ, hfOf σ.hp) ∧ StepAt P gl ops.toList o σ'.gm σi rec
  edges : edgesOk ops.toList 0 = true
  ind : indep ops.toList (befores ops.toList []) ops.toList (rs.map fpR) 0 = true

def xS (N : Nat) (ops : Array Oper) (σ σ' : Sy) (rs : List Rec) (S : Nat → Bool) : X := foldS N σ'.gm S (ops.toList.zip rs) 0 (ffOf σ, hfOf σ.hp)

/-- Nothing that is not in place is in the way. -/
structure Down (ops : Array Oper) (S : Nat → Bool) : Prop where
  down : ∀ (k : Nat) (o : Oper), ops[k]? = some o → S k = true → ∀ x ∈ edgesL o.after.toList, S x = true

theorem before_S (h : Ctx P ops gl N σ σ' rs) {S : Nat → Bool} (hd : Down ops S) {j : Nat} {o : Oper} (ho : ops[j]? = some o) (he : ∀ x ∈ edgesL o.after.toList, S x = true) {i : Nat} (hi : i ∈ (nth (befores ops.toList []) j).getD []) : S i = true := by
  rw [nth_eq] at hi
  cases hl : (befores ops.toList [])[j]? with
  | none => rw [hl] at hi; simp at hi
  | some l =>
    rw [hl] at hi
    refine befores_in (S := fun i => S i = true) (all := ops.toList) (fun k o ho hs => hd.down k o (by rw [← Array.getElem?_toList]; exact ho) hs) h.edges ops.toList [] (by simp) (by simp) j o l (by rw [Array.getElem?_toList]; exact ho) hl he i hi

theorem fpR_wr (rec : Rec) : (fpR rec).wr = efW (efsR rec) := by
  cases rec with
  | none => rfl
  | some p => obtain ⟨a, b, c⟩ := p; rfl

/-- An operation that may come now: it is apart from each that differs between what has come and what comes before it in the text. -/
theorem apart_of (h : Ctx P ops gl N σ σ' rs) {S : Nat → Bool} (hd : Down ops S) {i : Nat} {o : Oper} {rec : Rec} (ho : ops[i]? = some o) (hr : rs[i]? = some rec) (hi : S i = false) (he : ∀ x ∈ edgesL o.after.toList, S x = true)
    {k : Nat} {p : Oper × Rec} (hk : (ops.toList.zip rs)[k]? = some p) (hdiff : S k ≠ decide (k < i)) :
    (∀ s, p.1.dst = some s → s ∉ looks ops.toList o) ∧ (∀ z ∈ efW (efsR p.2), ∀ y ∈ rdR (fpR rec), meetsR z y = false) ∧ (∀ z ∈ efW (efsR p.2), ∀ y ∈ efW (efsR rec), meetsR z y = false) ∧ (k ≠ i → ∀ s, p.1.dst = some s → o.dst ≠ some s) ∧ k ≠ i := by
  have hki : k ≠ i := by rintro rfl; apply hdiff; rw [hi]; simp
  rw [List.getElem?_zip_eq_some] at hk
  obtain ⟨hk1, hk2⟩ := hk
  have hk1' : ops[k]? = some p.1 := by rw [← Array.getElem?_toList]; exact hk1
  by_cases hlt : k < i
  · have hSk : S k = false := by
      cases hs : S k with
      | false => rfl
      | true => exact absurd (by rw [hs]; simp [hlt]) hdiff
    rcases indep_get h.ind hlt hk1 (by rw [Array.getElem?_toList]; exact ho) (by rw [List.getElem?_map, hk2]; rfl) (by rw [List.getElem?_map, hr]; rfl) with hc | hc
    · simp only [clash, Bool.or_eq_false_iff] at hc
      obtain ⟨⟨⟨⟨⟨c1, c2⟩, c3⟩, c4⟩, c5⟩, c6⟩ := hc
      rw [fpR_wr] at c4 c5
      rw [fpR_wr] at c5
      exact ⟨fun s hs => meetsN_false c1 s (by simp [hs, optL]), fun z hz y hy => meetsW_false c4 z hz y hy, fun z hz y hy => meetsW_false c5 z hz y hy, fun _ s hs e => meetsN_false c2 s (by simp [hs, optL]) (by simp [e, optL]), hki⟩
    · simp only [Nat.zero_add] at hc
      rw [before_S h hd ho he hc] at hSk
      cases hSk
  · have hgt : i < k := by omega
    have hSk : S k = true := by
      cases hs : S k with
      | true => rfl
      | false => exact absurd (by rw [hs]; simp [hlt]) hdiff
    rcases indep_get h.ind hgt (by rw [Array.getElem?_toList]; exact ho) hk1 (by rw [List.getElem?_map, hr]; rfl) (by rw [List.getElem?_map, hk2]; rfl) with hc | hc
    · simp only [clash, Bool.or_eq_false_iff] at hc
      obtain ⟨⟨⟨⟨⟨c1, c2⟩, c3⟩, c4⟩, c5⟩, c6⟩ := hc
      rw [fpR_wr] at c4 c5
      rw [fpR_wr] at c5 c6
      refine ⟨fun s hs => meetsN_false c3 s (by simp [hs, optL]), fun z hz y hy => meetsW_false c6 z hz y hy, fun z hz y hy => by rw [meetsR_comm]; exact meetsW_false c5 y hy z hz, fun _ s hs e => meetsN_false c2 s (by simp [e, optL]) (by simp [hs, optL]), hki⟩
    · simp only [Nat.zero_add] at hc
      have := before_S h hd hk1' (hd.down k _ hk1' hSk) hc
      rw [this] at hi
      cases hi

theorem xS_slot (h : Ctx P ops gl N σ σ' rs) {S : Nat → Bool} (hd : Down ops S) {i : Nat} {o : Oper} {rec : Rec} (ho : ops[i]? = some o) (hr : rs[i]? = some rec) (hi : S i = false) (he : ∀ x ∈ edgesL o.after.toList, S x = true) {s : Nat} (hs : s ∈ looks ops.toList o) :
    (xS N ops σ σ' rs S).1 s = (foldAll N σ'.gm ((ops.toList.zip rs).take i) (ffOf σ, hfOf σ.hp)).1 s := by
  rw [← foldS_take (ops.toList.zip rs) i 0]
  refine foldS_slot _ 0 _ _ rfl fun k p hk hdst => ?_
  simp only [Nat.zero_add]
  by_cases e : S k = decide (k < i)
  · exact e
  · exact absurd hs ((apart_of h hd ho hr hi he hk e).1 s hdst)

theorem xS_heap (h : Ctx P ops gl N σ σ' rs) {S : Nat → Bool} (hd : Down ops S) {i : Nat} {o : Oper} {rec : Rec} (ho : ops[i]? = some o) (hr : rs[i]? = some rec) (hi : S i = false) (he : ∀ x ∈ edgesL o.after.toList, S x = true) {ρ : Nat × Option (Nat × Nat)}
    (hρ : ρ ∈ rdR (fpR rec) ∨ ρ ∈ efW (efsR rec)) : same ((xS N ops σ σ' rs S).2 ρ.1) ((foldAll N σ'.gm ((ops.toList.zip rs).take i) (ffOf σ, hfOf σ.hp)).2 ρ.1) (inR ρ) ∧
      (ρ.2 = none → (xS N ops σ σ' rs S).2 ρ.1 = (foldAll N σ'.gm ((ops.toList.zip rs).take i) (ffOf σ, hfOf σ.hp)).2 ρ.1) := by
  rw [← foldS_take (ops.toList.zip rs) i 0, xS, foldS_heap, foldS_heap]
  refine foldH_agree _ 0 _ _ (.inl rfl) (fun _ => rfl) fun k p hk hdiff z hz => ?_
  simp only [Nat.zero_add] at hdiff
  obtain ⟨_, a2, a3, _⟩ := apart_of h hd ho hr hi he hk hdiff
  rcases hρ with hρ | hρ
  · exact a2 z hz ρ hρ
  · exact a3 z hz ρ hρ

theorem updB_eq {f : Nat → SG} {d : Option Nat} {g : SG} : (fun s => updB N f d g s) = updB N f d g := rfl

/-- To take one more operation is to change what has come by it. -/
theorem xS_insert (h : Ctx P ops gl N σ σ' rs) {S S' : Nat → Bool} (hd : Down ops S) {i : Nat} {o : Oper} {rec : Rec} (ho : ops[i]? = some o) (hr : rs[i]? = some rec) (hi : S i = false) (he : ∀ x ∈ edgesL o.after.toList, S x = true) (hi' : S' i = true) (hS : ∀ j, j ≠ i → S' j = S j) :
    xS N ops σ σ' rs S' = appR N σ'.gm o rec (xS N ops σ σ' rs S) := by
  have hlt : i < rs.length := (List.getElem?_eq_some_iff.1 hr).1
  have hp : (ops.toList.zip rs)[i]? = some (o, rec) := by rw [List.getElem?_zip_eq_some]; exact ⟨by rw [Array.getElem?_toList]; exact ho, hr⟩
  apply Prod.ext
  · funext s
    by_cases hds : o.dst = some s ∧ s < N
    · -- the slot that it writes
      have key : ∀ (L : List (Oper × Rec)) (i k : Nat) (x : X), L[i]? = some (o, rec) → S' (k + i) = true → (∀ (j : Nat) (q : Oper × Rec), i < j → L[j]? = some q → q.1.dst = some s → S' (k + j) = false) → (foldS N σ'.gm S' L k x).1 s = (appR N σ'.gm o rec x).1 s := by
        intro L
        induction L with
        | nil => intro i k x h; simp at h
        | cons q L ih =>
          intro i k x hL h1 h2
          cases i with
          | zero =>
            simp at hL
            subst hL
            simp only [Nat.add_zero] at h1
            simp only [foldS, h1, if_true]
            have : (foldS N σ'.gm S' L (k + 1) (appR N σ'.gm o rec x)).1 s = (foldS N σ'.gm (fun _ => false) L (k + 1) (appR N σ'.gm o rec x)).1 s :=
              foldS_slot L (k + 1) _ _ rfl fun j q hq hdq => by have := h2 (j + 1) q (by omega) (by simpa using hq) hdq; rwa [show k + (j + 1) = k + 1 + j by omega] at this
            rw [this, foldS_none L (k + 1) _ fun _ _ => rfl]
          | succ i =>
            simp only [foldS]
            rw [ih i (k + 1) _ (by simpa using hL) (by rwa [show k + 1 + i = k + (i + 1) by omega]) fun j q hj hq hdq => by have := h2 (j + 1) q (by omega) (by simpa using hq) hdq; rwa [show k + (j + 1) = k + 1 + j by omega] at this]
            cases rec with
            | none => simp [appR, updB, hds.1, hds.2]
            | some p => obtain ⟨a, b, c⟩ := p; simp [appR, updB, hds.1, hds.2]
      have := key (ops.toList.zip rs) i 0 (ffOf σ, hfOf σ.hp) hp (by simpa using hi') fun j q hj hq hdq => by
        simp only [Nat.zero_add]
        rw [hS j (by omega)]
        cases hs : S j with
        | false => rfl
        | true =>
          obtain ⟨_, _, _, a4, _⟩ := apart_of h hd ho hr hi he hq (by rw [hs]; simp; omega)
          exact absurd hds.1 (a4 (by omega) s hdq)
      rw [xS, this]
      cases rec with
      | none => simp [appR, updB, hds.1, hds.2]
      | some p => obtain ⟨a, b, c⟩ := p; simp [appR, updB, hds.1, hds.2]
    · have e1 : (appR N σ'.gm o rec (xS N ops σ σ' rs S)).1 s = (xS N ops σ σ' rs S).1 s := by
        cases rec with
        | none => simp only [appR, updB, if_neg hds]
        | some p => obtain ⟨a, b, c⟩ := p; simp only [appR, updB, if_neg hds]
      rw [e1]
      -- a slot that it does not write
      have key : ∀ (L : List (Oper × Rec)) (i k : Nat) (x y : X), x.1 s = y.1 s → L[i]? = some (o, rec) → (∀ j, j ≠ k + i → S' j = S j) → (foldS N σ'.gm S' L k x).1 s = (foldS N σ'.gm S L k y).1 s := by
        intro L
        induction L with
        | nil => intro i k x y _ h; simp at h
        | cons q L ih =>
          intro i k x y hxy hL h2
          have happ : ∀ z : X, q = (o, rec) → (appR N σ'.gm q.1 q.2 z).1 s = z.1 s := by
            rintro z rfl
            cases rec with
            | none => simp only [appR, updB, if_neg hds]
            | some p => obtain ⟨a, b, c⟩ := p; simp only [appR, updB, if_neg hds]
          cases i with
          | zero =>
            simp at hL
            simp only [foldS]
            refine foldS_slot L (k + 1) _ _ ?_ fun j q' _ _ => h2 _ (by omega)
            have a1 : (if S' k then appR N σ'.gm q.1 q.2 x else x).1 s = x.1 s := by split; exact happ x hL; rfl
            have a2 : (if S k then appR N σ'.gm q.1 q.2 y else y).1 s = y.1 s := by split; exact happ y hL; rfl
            rw [a1, a2, hxy]
          | succ i =>
            simp only [foldS]
            rw [h2 k (by omega)]
            refine ih i (k + 1) _ _ ?_ (by simpa using hL) fun j hj => h2 j (by omega)
            split
            · exact appR_slot_eq hxy
            · exact hxy
      exact key _ i 0 _ _ rfl hp (by simpa using hS)
  · funext k
    rw [appR_heap, xS, xS, foldS_heap, foldS_heap]
    refine foldH_insert _ i 0 _ (o, rec) hp (by simpa using hi) (by simpa using hi') (by simpa using hS) fun j q hj hq hs y hy z hz => ?_
    simp only [Nat.zero_add] at hs
    obtain ⟨_, _, a3, _⟩ := apart_of h hd ho hr hi he hq (by rw [hs]; simp; omega)
    rw [meetsR_comm]
    exact a3 z hz y hy

end
end Go.Sx
/- Any order: the end. -/
namespace Go.Sx
open Go

section
variable {P : Program} {ops : Array Oper} {gl : List (Nat × SV)} {B : Bs} {N : Nat} {σ σ' : Sy} {rs : List Rec}

theorem mem_ready {listed : Array Bool} {i : Nat} : i ∈ Region.ready .any ops listed ↔ ∃ o, ops[i]? = some o ∧ listed.getD i true = false ∧ ∀ x ∈ edgesL o.after.toList, listed.getD x false = true := by
  unfold Region.ready
  simp only [List.mem_filter, List.mem_range, Bool.and_eq_true, Bool.not_eq_true']
  constructor
  · rintro ⟨h1, h2, h3⟩
    have ho : ops[i]? = some ops[i] := by simp [h1]
    rw [ho] at h3
    refine ⟨_, ho, h2, fun x hx => ?_⟩
    obtain ⟨e, he, hb, rfl⟩ := mem_edgesL hx
    simp only [Option.map_some, Option.getD_some, Array.all_eq_true_iff_forall_mem] at h3
    have := h3 e (by simpa using he)
    simpa [hb] using this
  · rintro ⟨o, ho, h2, h3⟩
    refine ⟨(Array.getElem?_eq_some_iff.1 ho).1, h2, ?_⟩
    rw [ho]
    simp only [Option.map_some, Option.getD_some, Array.all_eq_true_iff_forall_mem]
    intro e he
    cases hb : Region.binds .any e with
    | false => simp
    | true => simp only [Bool.not_true, Bool.false_or]; exact h3 _ (edgesL_mem (by simpa using he) hb)

/-- How many have not come. -/
def left (n : Nat) (listed : Array Bool) : Nat := ((List.range n).filter fun i => !listed.getD i true).length

theorem left_set {n i : Nat} {listed : Array Bool} (hi : i < n) (hs : listed.size = n) (h : listed.getD i true = false) : left n (listed.setIfInBounds i true) + 1 = left n listed := by
  have hget : ∀ j, (listed.setIfInBounds i true).getD j true = if j = i then true else listed.getD j true := by
    intro j
    simp only [Array.getD_eq_getD_getElem?]
    by_cases e : i = j
    · subst e; rw [if_pos rfl, Array.getElem?_setIfInBounds_self_of_lt (by omega)]; rfl
    · rw [if_neg (fun h => e h.symm), Array.getElem?_setIfInBounds_ne e]
  unfold left
  have key : ∀ (l : List Nat), l.Nodup → i ∈ l → (l.filter fun j => !(listed.setIfInBounds i true).getD j true).length + 1 = (l.filter fun j => !listed.getD j true).length := by
    intro l
    induction l with
    | nil => intro _ h; cases h
    | cons j l ih =>
      intro hn hm
      rw [List.nodup_cons] at hn
      simp only [List.filter_cons, hget j]
      by_cases e : j = i
      · subst e
        rw [if_pos rfl]
        simp only [Bool.not_true, Bool.false_eq_true, if_false, h, Bool.not_false, if_true, List.length_cons]
        congr 2
        refine List.filter_congr fun k hk => ?_
        rw [hget k, if_neg (fun e => hn.1 (by rw [← e]; exact hk))]
      · rw [if_neg e]
        have := ih hn.2 (by rcases List.mem_cons.1 hm with h | h; exact absurd h.symm e; exact h)
        split
        · simp only [List.length_cons]; omega
        · exact this
  exact key _ List.nodup_range (by simpa using hi)

theorem left_zero {n : Nat} {listed : Array Bool} (h : left n listed = 0) : ∀ i, i < n → listed.getD i true = true := by
  intro i hi
  unfold left at h
  have := List.eq_nil_of_length_eq_zero h
  rw [List.filter_eq_nil_iff] at this
  have := this i (by simpa using hi)
  simpa using this

/-- If nothing may come, all have come. -/
theorem all_listed (hok : edgesOk ops.toList 0 = true) {listed : Array Bool} (hs : listed.size = ops.size) (h : Region.ready .any ops listed = []) : ∀ i, i < ops.size → listed.getD i true = true := by
  intro i
  induction i using Nat.strongRecOn with
  | _ i ih =>
    intro hi
    cases hl : listed.getD i true with
    | true => rfl
    | false =>
      have hm : i ∈ Region.ready .any ops listed := by
        refine mem_ready.2 ⟨ops[i], by simp [hi], hl, fun x hx => ?_⟩
        have hlt := edgesOk_get hok (j := i) (o := ops[i]) (by simp [hi]) x hx
        have := ih x (by omega) (by omega)
        rw [Array.getD_eq_getD_getElem?] at this ⊢
        rw [Array.getElem?_eq_getElem (by omega)] at this ⊢
        simpa using this
      rw [h] at hm
      cases hm

def sOf (listed : Array Bool) : Nat → Bool := fun i => listed.getD i false

theorem sOf_eq {n : Nat} {listed : Array Bool} (hs : listed.size = n) {i : Nat} (hi : i < n) : sOf listed i = listed.getD i true := by
  simp [sOf, Array.getD_eq_getD_getElem?, Array.getElem?_eq_getElem (show i < listed.size by omega)]

theorem ffPair {f g : Nat → SG} {a b : Nat → Hl} (h : (f, a) = (g, b)) : f = g ∧ a = b := by
  simp only [Prod.mk.injEq] at h; exact h

theorem putSt {B : Bs} {E : Env} {a : Act} {w : World} {ff : Nat → SG} {hf : Nat → Hl} (st : St B N E a w ff hf) (d : Option Nat) (v : Value) (g : SG)
    (hg : ∀ cs s, g = some (cs, s) → (allT cs → Rel E w s v) ∧ (¬ allT cs → v = undef)) : St B N E (a.put d v) w (updB N ff d g) hf := by
  cases d with
  | none => 
    have : updB N ff none g = ff := by funext s; simp [updB]
    rw [this]; exact st
  | some k =>
    by_cases hk : k < N
    · have := st.put (some k) v g hg (fun j hj => by cases hj; exact hk)
      have e : updO ff (some k) g = updB N ff (some k) g := by
        funext s
        simp only [updO, upd, updB, Option.some.injEq]
        by_cases e : s = k
        · subst e; simp [hk]
        · rw [if_neg e, if_neg (fun h => e h.1.symm)]
      rw [← e]; exact this
    · rw [put_out (by rw [st.size]; omega)]
      have e : updB N ff (some k) g = ff := by
        funext s
        simp only [updB, Option.some.injEq]
        rw [if_neg (fun h => hk (by rw [h.1]; exact h.2))]
      rw [e]; exact st

theorem any_order (h : Ctx P ops gl N σ σ' rs) (hg : glOk B gl) {Q : Exit → Act → World → Prop} (hfin : ∀ E a w, St B N E a w (foldAll N σ'.gm (ops.toList.zip rs) (ffOf σ, hfOf σ.hp)).1 (foldAll N σ'.gm (ops.toList.zip rs) (ffOf σ, hfOf σ.hp)).2 → Q .normal a w) :
    ∀ (fuel : Nat) (listed : Array Bool) (E : Env) (a : Act) (w : World), listed.size = ops.size → left ops.size listed = fuel → Down ops (sOf listed) → St B N E a w (xS N ops σ σ' rs (sOf listed)).1 (xS N ops σ σ' rs (sOf listed)).2 → wpAny P .any ops Q fuel listed a w := by
  have done : ∀ (listed : Array Bool) (E : Env) (a : Act) (w : World), listed.size = ops.size → (∀ i, i < ops.size → listed.getD i true = true) → St B N E a w (xS N ops σ σ' rs (sOf listed)).1 (xS N ops σ σ' rs (sOf listed)).2 → Q .normal a w := by
    intro listed E a w hs hall st
    refine hfin E a w ?_
    have : xS N ops σ σ' rs (sOf listed) = foldAll N σ'.gm (ops.toList.zip rs) (ffOf σ, hfOf σ.hp) := by
      refine foldS_all _ _ _ fun j hj => ?_
      simp only [Nat.zero_add]
      have hj : j < ops.size := by simp at hj; omega
      rw [sOf_eq hs hj]; exact hall j hj
    rw [← this]; exact st
  intro fuel
  induction fuel with
  | zero =>
    intro listed E a w hs hl hd st
    have hall := left_zero hl
    refine ⟨?_, done listed E a w hs hall st⟩
    rw [List.eq_nil_iff_forall_not_mem]
    intro i hi
    obtain ⟨o, ho, h1, _⟩ := mem_ready.1 hi
    rw [hall i (Array.getElem?_eq_some_iff.1 ho).1] at h1
    cases h1
  | succ fuel ih =>
    intro listed E a w hs hl hd st
    refine ⟨fun h0 => done listed E a w hs (all_listed h.edges hs h0) st, fun i hi => ?_⟩
    obtain ⟨o, ho, h1, h2⟩ := mem_ready.1 hi
    have hin : i < ops.size := (Array.getElem?_eq_some_iff.1 ho).1
    have hSi : sOf listed i = false := by rw [sOf_eq hs hin]; exact h1
    have he : ∀ x ∈ edgesL o.after.toList, sOf listed x = true := h2
    have hr : rs[i]? = some (rs[i]'(by rw [h.len]; exact hin)) := List.getElem?_eq_getElem _
    generalize rs[i]'(by rw [h.len]; exact hin) = rec at hr
    obtain ⟨σi, w1, w2, w3, w4⟩ := h.step i o rec ho hr
    obtain ⟨f1, f2⟩ := ffPair w3
    have hagS : ∀ s ∈ looks ops.toList o, (xS N ops σ σ' rs (sOf listed)).1 s = ffOf σi s := fun s hs' => by
      rw [xS_slot h hd ho hr hSi he hs', f1]
    have hguard : ∀ j want s, o.guard = some (j, want) → (nth ops.toList j).bind (·.dst) = some s → (xS N ops σ σ' rs (sOf listed)).1 s = ffOf σi s := fun j want s hgd hb =>
      hagS s (by unfold looks; exact List.mem_append.2 (.inr (guardSlot_mem hgd hb)))
    -- what has come behind it
    have hsz : (listed.setIfInBounds i true).size = ops.size := by simp [hs]
    have hset : ∀ j, sOf (listed.setIfInBounds i true) j = if j = i then true else sOf listed j := by
      intro j
      simp only [sOf, Array.getD_eq_getD_getElem?]
      by_cases e : i = j
      · subst e; rw [if_pos rfl, Array.getElem?_setIfInBounds_self_of_lt (by omega)]; rfl
      · rw [if_neg (fun h => e h.symm), Array.getElem?_setIfInBounds_ne e]
    have hd' : Down ops (sOf (listed.setIfInBounds i true)) := by
      refine ⟨fun k ok hok hk x hx => ?_⟩
      rw [hset]
      split
      · rfl
      · rw [hset] at hk
        split at hk
        · rename_i e
          subst e
          rw [ho] at hok
          cases hok
          exact he x hx
        · exact hd.down k ok hok hk x hx
    have hx := xS_insert h hd ho hr hSi he (S' := sOf (listed.setIfInBounds i true)) (by rw [hset, if_pos rfl]) (fun j hj => by rw [hset, if_neg hj])
    have hleft : left ops.size (listed.setIfInBounds i true) = fuel := by have := left_set hin hs h1; omega
    have next : ∀ (E' : Env) (a' : Act) (w' : World), St B N E' a' w' (appR N σ'.gm o rec (xS N ops σ σ' rs (sOf listed))).1 (appR N σ'.gm o rec (xS N ops σ σ' rs (sOf listed))).2 → wpAny P .any ops Q fuel (listed.setIfInBounds i true) a' w' := by
      intro E' a' w' st'
      refine ih _ E' a' w' hsz hleft hd' ?_
      rw [hx]; exact st'
    unfold wpOp
    rw [ho]
    simp only
    cases rec with
    | none =>
      have hw := guardOf_skip (ops := ops) rfl w4 st hguard
      rw [if_neg (by simp [hw])]
      exact next E _ w (putSt st _ _ none (by simp))
    | some p =>
      obtain ⟨σ1, T, r⟩ := p
      obtain ⟨q1, q2, q3, q4, q5⟩ := w4
      obtain ⟨g1, g2, g3, g4, g5, _, _, g8⟩ := guardOf_some (ops := ops) rfl q1 w1
      have hwant := g8 B N E a w _ _ st hguard
      by_cases hT : allT (condsOf σ1.gm T)
      · rw [if_pos (hwant.2 hT)]
        have hag : AgS σ1 (xS N ops σ σ' rs (sOf listed)).1 o := fun s hs' => by
          rw [g2]
          exact hagS s (by unfold looks; exact List.mem_append.2 (.inl (mem_slotsL hs')))
        have hagH : AgH σ1.hp (xS N ops σ σ' rs (sOf listed)).2 r := by
          rw [g3]
          refine ⟨fun k hk => ?_, fun x hx => ?_, fun e he' => ?_⟩
          · have := (xS_heap h hd ho hr hSi he (ρ := (k, none)) (.inl (by simp [rdR, fpR, fpOf]; exact hk))).2 rfl
            rw [this, ← f2]
          · obtain ⟨hh, off, n⟩ := x
            have := (xS_heap h hd ho hr hSi he (ρ := (hh, some (off, n))) (.inl (by simp [rdR, fpR, fpOf]; exact ⟨hh, off, n, hx, rfl, rfl, rfl⟩))).1
            rw [← f2] at this
            intro ty cs hcs
            simp only at hcs this ⊢
            rcases this with e | ⟨ty', c1, c2, e1, e2, e3, e4⟩
            · exact ⟨cs, by rw [e, hcs], rfl, fun _ _ _ => rfl⟩
            · rw [hcs] at e2
              cases e2
              exact ⟨c1, e1, e3.symm, fun j j1 j2 => (e4 j ⟨j1, j2⟩).symm⟩
          · have hmem : ∀ (es : List Ef), e ∈ es → match e with | .set k off vs => (k, some (off, lenN vs)) ∈ efW es | .put k _ => (k, none) ∈ efW es := by
              intro es
              induction es with
              | nil => intro h; cases h
              | cons e' es ih =>
                intro hm
                rcases List.mem_cons.1 hm with rfl | hm
                · cases e <;> simp [efW]
                · have := ih hm
                  cases e <;> cases e' <;> simp only [efW, List.mem_cons] at this ⊢ <;> exact Or.inr this
            have hm := hmem r.efs he'
            cases e with
            | set k off vs =>
              simp only at hm
              have := (xS_heap h hd ho hr hSi he (ρ := (k, some (off, lenN vs))) (.inr hm)).1
              rw [← f2] at this
              intro ty cs hcs
              rcases this with e | ⟨ty', c1, c2, e1, e2, e3, e4⟩
              · exact ⟨cs, by rw [e, hcs], rfl⟩
              · rw [hcs] at e2
                cases e2
                exact ⟨c1, e1, e3.symm⟩
            | put k hl =>
              simp only at hm
              have := (xS_heap h hd ho hr hSi he (ρ := (k, none)) (.inr hm)).2 rfl
              show (xS N ops σ σ' rs (sOf listed)).2 k = hfOf σi.hp k
              rw [this, ← f2]
        refine .inl (q2 B N E a w _ _ hg st hag hagH hT _ _ fun v w' E' x1 x2 x3 x4 => ?_)
        refine next E' _ w' ?_
        simp only [appR, q5]
        exact putSt (st.step x1 x2 x3) _ _ _ (by rintro cs s ⟨⟩; exact ⟨fun _ => x4, fun h => absurd hT h⟩)
      · rw [if_neg (fun h => hT (hwant.1 h))]
        refine next E _ w ?_
        have hef : r.efs = [] := by
          rcases q4 with h | h
          · subst h; exact absurd trivial hT
          · exact h
        simp only [appR, q5, hef, efsF]
        exact putSt st _ _ _ (by rintro cs s ⟨⟩; exact ⟨fun h => absurd h hT, fun _ => rfl⟩)

/-- **Whatever order is drawn.** -/
theorem drawOk (hm : P.follows .mixedOrders = true) : DrawOk P := by
  intro gl id ops B N σ σ' rs hg hruns hedges hind Q E a w hs hQ
  obtain ⟨r1, r2, r3, r4, r5, r6, r7⟩ := runs_get hruns hs.wf N hs.len
  have hctx : Ctx P ops gl N σ σ' rs := ⟨by rw [r1]; simp, fun i o rec ho hr => r7 i o rec (by rw [Array.getElem?_toList]; exact ho) hr, hedges, hind⟩
  obtain ⟨e1, e2⟩ := ffPair r6
  refine wp_region_any hm ?_
  have hbase := hs.st.base
  have hst : St B N E a { w with drawn := w.drawn + 1 } (ffOf σ) (hfOf σ.hp) :=
    hs.st.step (E' := E) (w' := { w with drawn := w.drawn + 1 }) ⟨fun _ _ h => h, fun _ _ h => .inl h, fun _ _ h => h, fun _ _ h => h, fun _ _ h => h, fun _ _ _ => rfl⟩ ⟨hbase.os, hbase.tape, hbase.output, hbase.size, hbase.old, hbase.I0, hbase.Ibd, hbase.Inew, hbase.Obd, hbase.β0⟩
      fun k => HOk.keep (E := E) (w := w) (E' := E) (w' := { w with drawn := w.drawn + 1 }) ⟨fun _ _ h => h, fun _ _ h => .inl h, fun _ _ h => h, fun _ _ h => h, fun _ _ h => h, fun _ _ _ => rfl⟩ (hs.st.heap k) rfl rfl rfl rfl fun b hO => ⟨hO, rfl, fun _ h => h⟩
  refine any_order (B := B) hctx hg (fun E' a' w' st' => ?_) ops.size _ E a _ (by simp) ?_ ⟨fun k o _ hk => ?_⟩ ?_
  · refine hQ E' a' w' ⟨?_, r3, r2, fun k hk => Nat.lt_of_lt_of_le (hs.ge k hk) r4⟩
    rw [e1, e2]; exact st'
  · unfold left
    rw [List.filter_eq_self.2]
    · simp
    · intro i hi; simp at hi; simp [Array.getD_eq_getD_getElem?, hi]
  · exfalso
    simp only [sOf, Array.getD_eq_getD_getElem?, Array.getElem?_replicate] at hk
    split at hk <;> simp at hk
  · have : xS N ops σ σ' rs (sOf (Array.replicate ops.size false)) = (ffOf σ, hfOf σ.hp) := by
      refine foldS_none _ _ _ fun j _ => ?_
      simp only [sOf, Array.getD_eq_getD_getElem?, Array.getElem?_replicate]
      split <;> rfl
    rw [this]; exact hst

end
end Go.Sx
/- How a contract is proved. -/
namespace Go.Sx
open Go

theorem fnOk {P : Program} (hm : P.follows .mixedOrders = true) {tt : List (Nat × TI)} {tab : List (Nat × FSpec)} {gl : List (Nat × SV)} {eqs : List TypeId} {gh : List (Nat × List Gh)} (hc : CxOk P ⟨dn, tt, tab, gl, eqs, gh⟩) (htab : TabOk P gl tab) {f : FuncId} {fn : Func} (hf : P.funcs[f]? = some fn) (hgood : (fn.name == "runtime.NumGoroutine") = false) (hb : fn.body.isSome = true) {sp : FSpec}
    (h : ∀ (as : List SV) (ls : List Hl) (K : SV → List Hl → Prop), sp dn as ls K → ∃ r ls', K r ls' ∧ ∀ D, D = dn → body ⟨D, tt, tab, gl, eqs, gh⟩ fn as ls fun r' ls'' => Fin r' r ls'' ls') : FnOk P gl f sp := by
  refine ⟨?_, fun as ls K hs => ?_⟩
  · obtain ⟨c, hc⟩ := Option.isSome_iff_exists.1 hb
    exact ⟨fn, c, hf, hc, hgood⟩
  · obtain ⟨r, ls', hK, hbody⟩ := h as ls K hs
    exact ⟨r, ls', hK, callsTo_of_body (drawOk hm) hc htab hf (hbody dn rfl)⟩

theorem fnOkJ {P : Program} (hm : P.follows .mixedOrders = true) {tt : List (Nat × TI)} {tab : List (Nat × FSpec)} {gl : List (Nat × SV)} {eqs : List TypeId} {gh : List (Nat × List Gh)} (hc : CxOk P ⟨dn, tt, tab, gl, eqs, gh⟩) (htab : TabOk P gl tab) {f : FuncId} {fn : Func} (hf : P.funcs[f]? = some fn) (hgood : (fn.name == "runtime.NumGoroutine") = false) {l : Nat} {pre c rest : Code} (hb : fn.body = some (.seq pre (.scope c))) (hl : findLabel c l = some rest) {sp : FSpec}
    (h : ∀ (as : List SV) (ls : List Hl) (K : SV → List Hl → Prop), sp dn as ls K → ∃ r ls', K r ls' ∧ ∀ D, D = dn → bodyJ ⟨D, tt, tab, gl, eqs, gh⟩ fn pre c l rest as ls fun r' ls'' => Fin r' r ls'' ls') : FnOk P gl f sp := by
  refine ⟨⟨fn, _, hf, hb, hgood⟩, fun as ls K hs => ?_⟩
  obtain ⟨r, ls', hK, hbody⟩ := h as ls K hs
  exact ⟨r, ls', hK, callsTo_of_bodyJ (drawOk hm) hc htab hf hb hl (hbody dn rfl)⟩

theorem tabNil {P : Program} {gl : List (Nat × SV)} : TabOk P gl [] := by intro x h; cases h
theorem tabCons {P : Program} {gl : List (Nat × SV)} {tab : List (Nat × FSpec)} {f : Nat} {sp : FSpec} (h : FnOk P gl f sp) (ht : TabOk P gl tab) : TabOk P gl ((f, sp) :: tab) := by
  intro x hx
  rcases List.mem_cons.1 hx with rfl | hx
  · exact h
  · exact ht x hx

/-- Both ways of a test. -/
theorem br {D : Dn} (hD : D = dn) {b : BT} {A B : Prop} (ht : b.den = true → A) (hf : b.den = false → B) : (D.b b = true → A) ∧ (D.b b = false → B) := by subst hD; exact ⟨ht, hf⟩

theorem LeV.of_eq {s s' : SV} (h : s = s') : LeV s s' := h ▸ LeV.refl s
theorem fin_eq {s s' : SV} {ls ls' : List Hl} (h : s = s') (hl : ls = ls') : Fin s s' ls ls' := by subst h hl; exact ⟨LeV.refl s, LeH.refl ls, Nat.le_refl _⟩

theorem int_eq {D : Dn} (hD : D = dn) {k : IntKind} {t : ST} {n : Int} (h : t.den = n) : SV.int k (.a (D.i t)) = .int k (.a n) := by subst hD h; rfl
theorem bool_eq {D : Dn} (hD : D = dn) {t : BT} {b : Bool} (h : t.den = b) : SV.bool (.a (D.b t)) = .bool (.a b) := by subst hD h; rfl
theorem finInt {D : Dn} (hD : D = dn) {k : IntKind} {t : ST} {n : Int} {ls : List Hl} (h : t.den = n) : Fin (.int k (.a (D.i t))) (.int k (.a n)) ls ls := fin_eq (int_eq hD h) rfl
theorem finBool {D : Dn} (hD : D = dn) {t : BT} {b : Bool} {ls : List Hl} (h : t.den = b) : Fin (.bool (.a (D.b t))) (.bool (.a b)) ls ls := fin_eq (bool_eq hD h) rfl

/-! ### what tests and terms mean -/

@[simp] theorem den_a (n : Int) : (ST.a n).den = n := rfl
@[simp] theorem den_l (n : Int) : (ST.l n).den = n := rfl
@[simp] theorem den_len (s : List UInt8) : (ST.len s).den = s.length := rfl
@[simp] theorem den_add (k : IntKind) (x y : ST) : (ST.bin .add k x y).den = k.wrap (x.den + y.den) := rfl
@[simp] theorem den_sub (k : IntKind) (x y : ST) : (ST.bin .sub k x y).den = k.wrap (x.den - y.den) := rfl
@[simp] theorem den_mul (k : IntKind) (x y : ST) : (ST.bin .mul k x y).den = k.wrap (x.den * y.den) := rfl
@[simp] theorem den_quo (k : IntKind) (x y : ST) : (ST.bin .quo k x y).den = k.wrap (x.den.tdiv y.den) := rfl
@[simp] theorem den_rem (k : IntKind) (x y : ST) : (ST.bin .rem k x y).den = x.den.tmod y.den := rfl
@[simp] theorem den_cv (k : IntKind) (x : ST) : (ST.cv k x).den = k.wrap x.den := rfl

@[simp] theorem bden_a (b : Bool) : (BT.a b).den = b := rfl
@[simp] theorem bden_l (b : Bool) : (BT.l b).den = b := rfl
@[simp] theorem bden_lss (x y : ST) : (BT.cmp .lss x y).den = true ↔ x.den < y.den := by simp [BT.den, cmpDen]
@[simp] theorem bden_lss' (x y : ST) : (BT.cmp .lss x y).den = false ↔ y.den ≤ x.den := by simp [BT.den, cmpDen]
@[simp] theorem bden_leq (x y : ST) : (BT.cmp .leq x y).den = true ↔ x.den ≤ y.den := by simp [BT.den, cmpDen]
@[simp] theorem bden_leq' (x y : ST) : (BT.cmp .leq x y).den = false ↔ y.den < x.den := by simp [BT.den, cmpDen]
@[simp] theorem bden_gtr (x y : ST) : (BT.cmp .gtr x y).den = true ↔ y.den < x.den := by simp [BT.den, cmpDen]
@[simp] theorem bden_gtr' (x y : ST) : (BT.cmp .gtr x y).den = false ↔ x.den ≤ y.den := by simp [BT.den, cmpDen]
@[simp] theorem bden_geq (x y : ST) : (BT.cmp .geq x y).den = true ↔ y.den ≤ x.den := by simp [BT.den, cmpDen]
@[simp] theorem bden_geq' (x y : ST) : (BT.cmp .geq x y).den = false ↔ x.den < y.den := by simp [BT.den, cmpDen]
@[simp] theorem bden_eql (x y : ST) : (BT.cmp .eql x y).den = true ↔ x.den = y.den := by simp [BT.den, cmpDen]
@[simp] theorem bden_eql' (x y : ST) : (BT.cmp .eql x y).den = false ↔ x.den ≠ y.den := by simp [BT.den, cmpDen]
@[simp] theorem bden_neq (x y : ST) : (BT.cmp .neq x y).den = true ↔ x.den ≠ y.den := by simp [BT.den, cmpDen]
@[simp] theorem bden_neq' (x y : ST) : (BT.cmp .neq x y).den = false ↔ x.den = y.den := by simp [BT.den, cmpDen]
@[simp] theorem bden_not (x : BT) : (BT.not x).den = true ↔ x.den = false := by simp [BT.den]
@[simp] theorem bden_not' (x : BT) : (BT.not x).den = false ↔ x.den = true := by simp [BT.den]
@[simp] theorem bden_and (x y : BT) : (BT.and x y).den = true ↔ x.den = true ∧ y.den = true := by simp [BT.den]
@[simp] theorem bden_and' (x y : BT) : (BT.and x y).den = false ↔ (x.den = true → y.den = false) := by simp only [BT.den]; cases x.den <;> simp
@[simp] theorem bden_or (x y : BT) : (BT.or x y).den = true ↔ (x.den = false → y.den = true) := by simp only [BT.den]; cases x.den <;> simp
@[simp] theorem bden_or' (x y : BT) : (BT.or x y).den = false ↔ x.den = false ∧ y.den = false := by simp [BT.den]
@[simp] theorem bden_beq (x y : BT) : (BT.beq x y).den = true ↔ x.den = y.den := by simp [BT.den]
@[simp] theorem bden_beq' (x y : BT) : (BT.beq x y).den = false ↔ x.den = !y.den := by simp only [BT.den]; cases x.den <;> cases y.den <;> simp
@[simp] theorem bden_seq (s t : List UInt8) : (BT.seq s t).den = true ↔ s = t := by simp [BT.den]
@[simp] theorem bden_seq' (s t : List UInt8) : (BT.seq s t).den = false ↔ s ≠ t := by simp [BT.den]

theorem wrap64 {n : Int} (h1 : -9223372036854775808 ≤ n) (h2 : n ≤ 9223372036854775807) : IntKind.i64.wrap n = n := IntWalk.i64_in _ ⟨by omega, by omega⟩

end Go.Sx
/- Contracts of the kit's shelf, taken over. -/
namespace Go.Sx
open Go Go.RowKit
theorem callsTo_below {P : Program} {gl : List (Nat × SV)} {f : FuncId} {as : List SV} {r : SV}
    (h : ∀ (E : Env) (B : Bs) (w : World) (vals : List Value), glOk B gl → Base B E w → B.w0 = w → RelL E w as vals → Calls P f ⟨vals⟩ w fun e w' => ∃ v, e = .returned v ∧ (∀ E, Rel E w' r v) ∧ Below w.heap.size w w') : CallsTo P gl f as [] r [] := by
  intro B E w vals hw0 hI hdom hb hg hh hr
  refine (h E B w vals hg hb hw0 hr).mono fun e w' hq => ?_
  obtain ⟨v, rfl, hv, hB⟩ := hq
  refine ⟨v, E, rfl, ?_, fun h hlt => absurd hlt (by simp), hv E⟩
  refine ⟨hB.os.trans hb.os, hB.tape.trans hb.tape, hB.output.trans hb.output, Nat.le_trans hb.size hB.size, fun b hlt hx => ?_, fun b o h0 => ?_, fun b o hi => Nat.lt_of_lt_of_le (hb.Ibd b o hi) hB.size, hb.Inew, fun b h ho => ⟨Nat.lt_of_lt_of_le (hb.Obd b h ho).1 hB.size, (hb.Obd b h ho).2⟩, hb.β0⟩
  · rw [hB.block b (by rw [← hw0]; exact hlt)]; exact hb.old b hlt hx
  · have h1 := hb.I0 b o h0
    refine ⟨h1.1, ?_⟩
    rw [hB.cell (p := ⟨b, o, none⟩) (hb.Ibd b o h1.1)]
    exact h1.2
/-- What values of plain kinds are. -/
theorem rel_str {E : Env} {w : World} {s : List UInt8} {v : Value} (h : Rel E w (.str s) v) : v = .string (bytes s) := by
  cases h with
  | ro h => cases h with
    | str h => exact h
theorem rel_int {E : Env} {w : World} {k : IntKind} {t : ST} {v : Value} (h : Rel E w (.int k t) v) : v = .int k t.den := by
  cases h with
  | ro h => cases h with
    | int h => rw [h]
theorem relL_one {E : Env} {w : World} {a : SV} {vals : List Value} (h : RelL E w [a] vals) : ∃ v, vals = [v] ∧ Rel E w a v := by
  match vals, h with
  | [v], h => exact ⟨v, rfl, h.2 0 a v rfl rfl⟩
  | [], h => exact absurd h.1 (by simp)
  | _ :: _ :: _, h => exact absurd h.1 (by simp)
theorem relL_two {E : Env} {w : World} {a b : SV} {vals : List Value} (h : RelL E w [a, b] vals) : ∃ v u, vals = [v, u] ∧ Rel E w a v ∧ Rel E w b u := by
  match vals, h with
  | [v, u], h => exact ⟨v, u, rfl, h.2 0 a v rfl rfl, h.2 1 b u rfl rfl⟩
  | [], h => exact absurd h.1 (by simp)
  | [_], h => exact absurd h.1 (by simp)
  | _ :: _ :: _ :: _, h => exact absurd h.1 (by simp)
end Go.Sx
/- Ends of bodies: one reading for another. -/
namespace Go.Sx
open Go

def LeL (cs cs' : List SV) : Prop := ∀ (E : Env) (w : World) (vs : List Value), RelL E w cs vs → RelL E w cs' vs
theorem LeL.nil : LeL [] [] := fun _ _ _ h => h
theorem LeL.refl (cs : List SV) : LeL cs cs := fun _ _ _ h => h
theorem LeL.cons {c c' : SV} {cs cs' : List SV} (h : LeV c c') (hs : LeL cs cs') : LeL (c :: cs) (c' :: cs') := by
  intro E w vs hr
  match vs, hr with
  | v :: vs, hr =>
    exact .cons (h E w v (hr.2 0 c v rfl rfl)) (hs E w vs ⟨by have := hr.1; simpa using this, fun i s v a b => hr.2 (i + 1) s v (by simpa using a) (by simpa using b)⟩)
  | [], hr => exact absurd hr.1 (by simp)
theorem LeV.agg {cs cs' : List SV} (h : LeL cs cs') : LeV (.agg cs) (.agg cs') := by
  intro E w v hr
  obtain ⟨vs, rfl, hl⟩ := hr.agg_inv
  exact (h E w vs hl).agg
theorem LeV.tup {cs cs' : List SV} (h : LeL cs cs') : LeV (.tup cs) (.tup cs') := by
  intro E w v hr
  obtain ⟨vs, rfl, hl⟩ := hr.tup_inv
  have := h E w vs hl
  exact .tup this.1 this.2
theorem LeV.sl {nl nl' : BT} {n n' : ST} {sz : Nat} {f f' : Nat → List SV} (h1 : nl.den = nl'.den) (h2 : n.den = n'.den) (h : ∀ i : Nat, (i : Int) < n.den → f i = f' i) : LeV (.sl nl n sz f) (.sl nl' n' sz f') := by
  intro E w v hr
  have hr := hr.sl_inv
  rcases hr.sl_inv with ⟨rfl, e0, e1⟩ | ⟨a, m, cap, g, rfl, e1, e2, e3, e3', e4, e5, e5', e6, e7⟩
  · exact .ro (.slnil (by rw [← h1]; exact e1) (by rw [← h2]; exact e0))
  · have hf : ∀ i, i < m → f' i = f i := fun i hi => (h i (by omega)).symm
    exact .ro (.sl g (by rw [← h1]; exact e1) (by rw [← h2]; exact e2) e3 e3' e4 (fun i hi => by rw [hf i hi]; exact e5 i hi) e5' e6 (fun i j s hi hs => by rw [hf i hi] at hs; exact e7 i j s hi hs))
theorem LeH.nil : LeH [] [] := LeH.refl []
theorem LeH.cons {l l' : Hl} {ls ls' : List Hl} (h : ∀ (k : Nat) (E : Env) (w : World), HOk E w k l → HOk E w k l') (hs : ∀ (k i : Nat) (E : Env) (w : World), HOk E w k (hfOf ls i) → HOk E w k (hfOf ls' i)) : ∀ (k i : Nat) (E : Env) (w : World), HOk E w k (hfOf (l :: ls) i) → HOk E w k (hfOf (l' :: ls') i)
  | k, 0, E, w, hk => h k E w hk
  | k, i + 1, E, w, hk => hs k i E w hk
theorem leH_of {ls ls' : List Hl} (hs : ∀ (k i : Nat) (E : Env) (w : World), HOk E w k (hfOf ls i) → HOk E w k (hfOf ls' i)) : LeH ls ls' := fun h E w hk => hs h h E w hk
theorem leH_blk {ty : TypeId} {cs cs' : List SV} (h : LeL cs cs') (k : Nat) (E : Env) (w : World) (hk : HOk E w k (.blk ty cs)) : HOk E w k (.blk ty cs') := by
  obtain ⟨b, C, k1, k2, k3, k4, k5, k6⟩ := hk.blk_inv
  have hn := h E w _ k4
  exact ⟨b, C, k1, k2, k3, by have := hn.1; simpa using this.symm, fun i s v p q => hn.2 i s v p (by simpa using q), fun v hv => k5 v (by simpa using hv), k6⟩
theorem finBlk {s s' : SV} {ty : TypeId} {cs cs' : List SV} (h : LeV s s') (hc : LeL cs cs') : Fin s s' [.blk ty cs] [.blk ty cs'] :=
  ⟨h, leH_of (LeH.cons (leH_blk hc) fun _ _ _ _ h => h), Nat.le_refl _⟩
theorem finV {s s' : SV} (h : LeV s s') : Fin s s' [] [] := ⟨h, LeH.refl [], Nat.le_refl _⟩
theorem leOsl {nl nl' : BT} {n n' : ST} {h : Nat} (h1 : nl.den = nl'.den) (h2 : n.den = n'.den) : LeV (.osl nl n h) (.osl nl' n' h) := by
  intro E w v hr
  obtain ⟨⟨a, m, c, t1, t2, t3⟩, a0, m0, c0, q1, q2, q3⟩ := hr.osl_inv
  exact .osl ⟨a, m, c, t1, by rw [← h2]; exact t2, by rw [← h1]; exact t3⟩ ⟨a0, m0, c0, q1, by rw [← h2]; exact q2, by rw [← h2]; exact q3⟩
theorem leH_own {ty : TypeId} {n n' : ST} {sz : Nat} {gr : Bool} {f f' : Nat → List SV} (h2 : n.den = n'.den) (h : ∀ i : Nat, (i : Int) < n.den → f i = f' i) (k : Nat) (E : Env) (w : World) (hk : HOk E w k (.own ty n sz gr f)) : HOk E w k (.own ty n' sz gr f') := by
  obtain ⟨v, m, xs, k1, kz, k2, k3, k4, k5, k6⟩ := hk
  have hf : ∀ i, i < m → f' i = f i := fun i hi => (h i (by omega)).symm
  exact ⟨v, m, xs, k1, kz, k2, by rw [← h2]; exact k3, k4, ⟨fun i hi => by rw [hf i hi]; exact k5.1 i hi, fun i j s u hi hs => by rw [hf i hi] at hs; exact k5.2 i j s u hi hs⟩, k6⟩
theorem finOwn {s s' : SV} {ty : TypeId} {n n' : ST} {sz : Nat} {gr : Bool} {f f' : Nat → List SV} (h : LeV s s') (h2 : n.den = n'.den) (hf : ∀ i : Nat, (i : Int) < n.den → f i = f' i) : Fin s s' [.own ty n sz gr f] [.own ty n' sz gr f'] :=
  ⟨h, leH_of (LeH.cons (leH_own h2 hf) fun _ _ _ _ h => h), Nat.le_refl _⟩
theorem leInt {k : IntKind} {t t' : ST} (h : t.den = t'.den) : LeV (.int k t) (.int k t') := by
  intro E w v hr
  rw [hr.int_inv]
  exact .int h.symm
theorem leBool {t t' : BT} (h : t.den = t'.den) : LeV (.bool t) (.bool t') := by
  intro E w v hr
  rw [hr.bool_inv]
  exact .bool h.symm
end Go.Sx
