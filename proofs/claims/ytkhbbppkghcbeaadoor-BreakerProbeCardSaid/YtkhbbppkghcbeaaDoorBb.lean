/- Part of the proofs of the statements about the breaker (layer 17): contracts of functions; it has no conditions of its own. -/
import Derived.Test.YtkhbbppkghcbeaaDoorBa
set_option linter.unusedVariables false
set_option linter.unusedSimpArgs false
namespace Go.Proofs.YtkhbbppkghcbeaaDoor
open Go.Sx
def withinF (n a b : Int) : Bool := decide (a ≤ n ∧ n ≤ b)
def spWithin : FSpec := fun _ xs ls K => ∃ (n a b : Int), xs = [.int .i64 (.a n), .int .i64 (.a a), .int .i64 (.a b)] ∧ ls = [] ∧ ∀ r, r = withinF n a b → K (.bool (.a r)) []
set_option maxRecDepth 10000
theorem within_ok : FnOk Tryd.prog gl 37 spWithin := by
  refine fnOk (gh := []) mixed cxOk tabNil Tryd.func37 (by kernel_rfl) (by kernel_rfl) ?_
  intro xs ls K h
  unfold spWithin at h
  obtain ⟨n, a, b, rfl, rfl, h⟩ := h
  obtain ⟨r, hr⟩ : ∃ r, r = withinF n a b := ⟨_, rfl⟩
  refine ⟨_, _, h r hr, fun D hD => ?_⟩
  clear h
  cbv
  refine finBool hD ?_
  rw [hr, withinF]
  simp [BT.den, cmpDen]
  congr
end Go.Proofs.YtkhbbppkghcbeaaDoor
namespace Go.Proofs.YtkhbbppkghcbeaaDoor
open Go.Sx
def failuresJ (l : List Bool) (f : Nat → List SV) (m : Nat) (vs : List (Option SV)) (hp : List Hl) : Prop :=
  ∃ (i : Nat) (nl' : BT) (n' : Sx.ST) (c I : Int), vs = [some (.sl nl' n' 1 f), some (.int .i64 (.a c)), some (.int .i64 (.a I))] ∧ hp = [] ∧ FInv l i n'.den c l.length I m
set_option maxRecDepth 10000
theorem failures_ok : FnOk Tryd.prog gl 36 spFailed := by
  refine fnOk (gh := []) mixed cxOk tabNil Tryd.func36 (by kernel_rfl) (by kernel_rfl) ?_
  intro xs ls K h
  unfold spFailed at h
  obtain ⟨nl, n, f, l, rfl, rfl, R, hl, h⟩ := h
  obtain ⟨r, hr⟩ : ∃ r, r = failsF l := ⟨_, rfl⟩
  refine ⟨_, _, h r hr, fun D hD => ?_⟩
  clear h
  cbv
  obtain ⟨J, hJ⟩ : ∃ J, J = failuresJ l f := ⟨_, rfl⟩
  refine ⟨[0, 3, 4], J, ⟨rfl, l.length, ?_⟩, ?_⟩
  · cbv
    rw [hJ]
    subst hD
    exact ⟨0, _, _, _, _, rfl, rfl, ⟨Nat.zero_le _, R.n, rfl, rfl, rfl, rfl⟩⟩
  intro m vs hp h
  rw [hJ] at h
  unfold failuresJ at h
  obtain ⟨i, nl', n', c, I, rfl, rfl, V⟩ := h
  cbv
  refine br hD (fun h => ?_) (fun h => ?_) <;> cbv
  · simp at h
    have hlt : i < l.length := by have := V.I; have := V.n; omega
    refine ⟨?_, fun j hj => ?_⟩
    · subst hD; have := V.I; have := V.n; exact ⟨by simp [dn]; omega, by simp [dn]; omega⟩
    have hji : j = i := by have := isJ hD hj; have := V.I; omega
    have hfi := R.f i l[i] (List.getElem?_eq_getElem hlt)
    have hstep := failsF_step l i l[i] (List.getElem?_eq_getElem hlt)
    generalize l[i] = b at hfi hstep
    rw [hji, hfi, encB]
    cbv
    refine br hD (fun h => ?_) (fun h => ?_) <;> cbv
    all_goals
      simp at h
      subst h
      refine ⟨l.length - (i + 1), ?_, ?_⟩
      · have := V.m; omega
      cbv
      rw [hJ]
      subst hD
      refine ⟨i + 1, _, _, _, _, rfl, rfl, ?_⟩
      have h1 := V.c; have h3 := V.I; have h4 := V.n
      have hfl := failsF_le (l.take i)
      have hlen : (l.take i).length = i := by simp; omega
      rw [hlen] at hfl
      refine ⟨by omega, h4, ?_, rfl, ?_, rfl⟩
      all_goals simp [dn] at hstep ⊢
      all_goals first | omega | (rw [wrap64 (by omega) (by omega)]; omega)
  · simp at h
    refine finInt hD ?_
    have h1 := V.c; have h3 := V.I; have h4 := V.le; have h5 := V.n
    have : i = l.length := by omega
    simp [hr, h1, this]

def changedF (s : BS) (st since : Int) : BS := ⟨s.w, s.fl, s.op, s.pr, st, since, s.now, IntKind.i64.wrap (s.ep + 1), true, [], 0, 0⟩
def spChanged : FSpec := fun _ xs ls K => ∃ (s : BS) (n : Int) (f : Nat → List SV) (st since : Int), xs = [.agg (stC s n f), .int .i64 (.a st), .int .i64 (.a since)] ∧ ls = [] ∧
  ∀ (s' : BS) (n' : Int) (f' : Nat → List SV), s' = turnF s st since → Rows encB s'.outs n' f' → K (.agg (stC s' n' f')) []
theorem changed_ok : FnOk Tryd.prog gl 41 spChanged := by
  refine fnOk (gh := []) mixed cxOk tabNil Tryd.func41 (by kernel_rfl) (by kernel_rfl) ?_
  intro xs ls K h
  unfold spChanged at h
  obtain ⟨s, n, f, st, since, rfl, rfl, h⟩ := h
  obtain ⟨s', hs'⟩ : ∃ s', s' = turnF s st since := ⟨_, rfl⟩
  refine ⟨_, _, h s' 0 (fun _ => []) hs' ⟨by simp [hs', turnF], by simp [hs', turnF]⟩, fun D hD => ?_⟩
  clear h
  cbv
  subst hD hs'
  exact fin_eq rfl rfl
def passedF (s : BS) (now : Int) : BS :=
  if s.st = 1 ∧ s.op ≤ IntKind.i64.wrap (now - s.since) then turnF ⟨s.w, s.fl, s.op, s.pr, s.st, s.since, now, s.ep, s.nl, s.outs, s.good, s.probe⟩ 2 (IntKind.i64.wrap (s.since + s.op)) else ⟨s.w, s.fl, s.op, s.pr, s.st, s.since, now, s.ep, s.nl, s.outs, s.good, s.probe⟩
def spPassed : FSpec := fun _ xs ls K => ∃ (s : BS) (n : Int) (f : Nat → List SV) (now : Int), xs = [.agg (stC s n f), .int .i64 (.a now)] ∧ ls = [] ∧ Rows encB s.outs n f ∧
  ∀ (s' : BS) (n' : Int) (f' : Nat → List SV), s' = passedF s now → Rows encB s'.outs n' f' → K (.agg (stC s' n' f')) []
theorem passed_ok : FnOk Tryd.prog gl 33 spPassed := by
  refine fnOk (gh := []) mixed cxOk (tabCons changed_ok tabNil) Tryd.func33 (by kernel_rfl) (by kernel_rfl) ?_
  intro xs ls K h
  unfold spPassed at h
  obtain ⟨⟨w, fl, op, pr, st, si, nw, ep, nl, outs, good, probe⟩, n, f, now, rfl, rfl, R, h⟩ := h
  obtain ⟨s', hs'⟩ : ∃ s', s' = passedF ⟨w, fl, op, pr, st, si, nw, ep, nl, outs, good, probe⟩ now := ⟨_, rfl⟩
  obtain ⟨n', f', R'⟩ : ∃ n' f', Rows encB s'.outs n' f' := ⟨_, _, rowF_ok _⟩
  refine ⟨_, _, h s' n' f' hs' R', fun D hD => ?_⟩
  clear h
  cbv
  refine br hD (fun h => ?_) (fun h => ?_) <;> cbv
  · refine ⟨⟨_, _, _, _, _, _, _, _, _, outs, _, _⟩, _, _, _, _, rfl, rfl, fun s2 n2 f2 hs2 R2 => ?_⟩
    simp at h
    cbv
    have hs2 : s2 = s' := by subst hD; rw [hs', passedF, if_pos (by simpa using h)]; exact hs2
    subst hs2
    subst hD
    exact finV (.agg (leSt rfl rfl rfl rfl rfl rfl rfl rfl rfl R2 R' rfl rfl))
  · simp at h
    rw [passedF, if_neg (by simp; omega)] at hs'
    subst hs' hD
    exact finV (.agg (leSt (s := ⟨w, fl, op, pr, st, si, now, ep, nl, outs, good, probe⟩) rfl rfl rfl rfl rfl rfl rfl rfl rfl R R' rfl rfl))
end Go.Proofs.YtkhbbppkghcbeaaDoor
namespace Go.Proofs.YtkhbbppkghcbeaaDoor
open Go.Sx
set_option maxRecDepth 10000
set_option maxHeartbeats 1000000
def cutF (s : BS) (l : List Bool) : List Bool := if s.w < (l.length : Int) then l.drop 1 else l
def endedF (s : BS) (e : BE) : BS × Int :=
  if s.st = 1 ∨ (s.st = 2 ∧ e.att ≠ s.probe) then (s, 4)
  else if s.st = 2 then
    (if e.kind = 2 then
      (if IntKind.i64.wrap (s.good + 1) = s.pr then (turnF ⟨s.w, s.fl, s.op, s.pr, s.st, s.since, s.now, s.ep, s.nl, s.outs, IntKind.i64.wrap (s.good + 1), 0⟩ 0 s.now, 0)
       else (⟨s.w, s.fl, s.op, s.pr, s.st, s.since, s.now, s.ep, s.nl, s.outs, IntKind.i64.wrap (s.good + 1), 0⟩, 0))
    else if e.kind = 3 then (turnF ⟨s.w, s.fl, s.op, s.pr, s.st, s.since, s.now, s.ep, s.nl, s.outs, s.good, 0⟩ 1 s.now, 0)
    else (⟨s.w, s.fl, s.op, s.pr, s.st, s.since, s.now, s.ep, s.nl, s.outs, s.good, 0⟩, 0))
  else if e.kind = 4 then (s, 0)
  else if failsF (cutF s (s.outs ++ [e.kind == 2])) = s.fl then (turnF ⟨s.w, s.fl, s.op, s.pr, s.st, s.since, s.now, s.ep, false, cutF s (s.outs ++ [e.kind == 2]), s.good, s.probe⟩ 1 s.now, 0)
  else (⟨s.w, s.fl, s.op, s.pr, s.st, s.since, s.now, s.ep, false, cutF s (s.outs ++ [e.kind == 2]), s.good, s.probe⟩, 0)
def spEnded : FSpec := fun _ xs ls K => ∃ (s : BS) (n : Int) (f : Nat → List SV) (e : BE), xs = [.agg (stC s n f), .agg (evC e)] ∧ ls = [] ∧ Rows encB s.outs n f ∧ s.outs.length ≤ 1000000 ∧
  ∀ (s' : BS) (r : Int) (n' : Int) (f' : Nat → List SV), s' = (endedF s e).1 → r = (endedF s e).2 → Rows encB s'.outs n' f' → K (.tup [.agg (stC s' n' f'), .int .i64 (.a r)]) []
theorem ended_ok : FnOk Tryd.prog gl 34 spEnded := by
  refine fnOk (gh := []) mixed cxOk (tabCons changed_ok (tabCons failures_ok tabNil)) Tryd.func34 (by kernel_rfl) (by kernel_rfl) ?_
  intro xs ls K h
  unfold spEnded at h
  obtain ⟨⟨w, fl, op, pr, st, si, nw, ep, nl, outs, good, probe⟩, n, f, ⟨ek, en, ea, ee⟩, rfl, rfl, R, hl, h⟩ := h
  obtain ⟨s', hs'⟩ : ∃ s', s' = (endedF ⟨w, fl, op, pr, st, si, nw, ep, nl, outs, good, probe⟩ ⟨ek, en, ea, ee⟩).1 := ⟨_, rfl⟩
  obtain ⟨r, hr⟩ : ∃ r, r = (endedF ⟨w, fl, op, pr, st, si, nw, ep, nl, outs, good, probe⟩ ⟨ek, en, ea, ee⟩).2 := ⟨_, rfl⟩
  obtain ⟨n', f', R'⟩ : ∃ n' f', Rows encB s'.outs n' f' := ⟨_, _, rowF_ok _⟩
  refine ⟨_, _, h s' r n' f' hs' hr R', fun D hD => ?_⟩
  clear h
  cbv
  refine br hD (fun h1 => ?_) (fun h1 => ?_) <;> cbv
  · have hc : st = 1 ∨ (st = 2 ∧ ea ≠ probe) := by simp at h1; omega
    have e1 : s' = ⟨w, fl, op, pr, st, si, nw, ep, nl, outs, good, probe⟩ := by rw [hs', endedF, if_pos hc]
    have e2 : r = 4 := by rw [hr, endedF, if_pos hc]
    subst hD e1 e2
    exact finV (.tup (.cons (.agg (leSt (s := ⟨w, fl, op, pr, st, si, nw, ep, nl, outs, good, probe⟩) rfl rfl rfl rfl rfl rfl rfl rfl rfl R R' rfl rfl)) (.cons (leInt rfl) .nil)))
  have hc : ¬ (st = 1 ∨ (st = 2 ∧ ea ≠ probe)) := by simp at h1; omega
  rw [endedF, if_neg hc] at hs' hr
  clear h1 hc
  refine br hD (fun h2 => ?_) (fun h2 => ?_) <;> cbv
  · have hc : st = 2 := by simp at h2; exact h2
    rw [if_pos hc] at hs' hr
    clear h2
    refine br hD (fun h3 => ?_) (fun h3 => ?_) <;> cbv
    · have hk : ek = 2 := by simp at h3; exact h3
      rw [if_pos hk] at hs' hr
      refine br hD (fun h4 => ?_) (fun h4 => ?_) <;> cbv
      · have hg : IntKind.i64.wrap (good + 1) = pr := by simpa using h4
        rw [if_pos hg] at hs' hr
        refine ⟨⟨_, _, _, _, _, _, _, _, _, outs, _, _⟩, _, _, _, _, rfl, rfl, fun s2 n2 f2 hs2 R2 => ?_⟩
        cbv
        have hs2 : s2 = s' := by subst hD; rw [hs']; exact hs2
        subst hs2 hr hD
        exact finV (.tup (.cons (.agg (leSt rfl rfl rfl rfl rfl rfl rfl rfl rfl R2 R' rfl rfl)) (.cons (leInt rfl) .nil)))
      · have hg : ¬ IntKind.i64.wrap (good + 1) = pr := by simpa using h4
        rw [if_neg hg] at hs' hr
        subst hs' hr hD
        exact finV (.tup (.cons (.agg (leSt (s := ⟨w, fl, op, pr, st, si, nw, ep, nl, outs, IntKind.i64.wrap (good + 1), 0⟩) rfl rfl rfl rfl rfl rfl rfl rfl rfl R R' rfl rfl)) (.cons (leInt rfl) .nil)))
    · have hk : ¬ ek = 2 := by simp at h3; exact h3
      rw [if_neg hk] at hs' hr
      refine br hD (fun h4 => ?_) (fun h4 => ?_) <;> cbv
      · have hg : ek = 3 := by simpa using h4
        rw [if_pos hg] at hs' hr
        refine ⟨⟨_, _, _, _, _, _, _, _, _, outs, _, _⟩, _, _, _, _, rfl, rfl, fun s2 n2 f2 hs2 R2 => ?_⟩
        cbv
        have hs2 : s2 = s' := by subst hD; rw [hs']; exact hs2
        subst hs2 hr hD
        exact finV (.tup (.cons (.agg (leSt rfl rfl rfl rfl rfl rfl rfl rfl rfl R2 R' rfl rfl)) (.cons (leInt rfl) .nil)))
      · have hg : ¬ ek = 3 := by simpa using h4
        rw [if_neg hg] at hs' hr
        subst hs' hr hD
        exact finV (.tup (.cons (.agg (leSt (s := ⟨w, fl, op, pr, st, si, nw, ep, nl, outs, good, 0⟩) rfl rfl rfl rfl rfl rfl rfl rfl rfl R R' rfl rfl)) (.cons (leInt rfl) .nil)))
  have hc : ¬ st = 2 := by simp at h2; exact h2
  rw [if_neg hc] at hs' hr
  clear h2
  refine br hD (fun h3 => ?_) (fun h3 => ?_) <;> cbv
  · have hk : ek = 4 := by simp at h3; exact h3
    rw [if_pos hk] at hs' hr
    subst hs' hr hD
    exact finV (.tup (.cons (.agg (leSt (s := ⟨w, fl, op, pr, st, si, nw, ep, nl, outs, good, probe⟩) rfl rfl rfl rfl rfl rfl rfl rfl rfl R R' rfl rfl)) (.cons (leInt rfl) .nil)))
  have hk : ¬ ek = 4 := by simp at h3; exact h3
  rw [if_neg hk] at hs' hr
  clear h3
  intro f1 hb1
  cbv
  refine ⟨?_, fun f2 n2 h2 => ?_⟩
  · have hl : outs.length ≤ 1000000 := hl; have hn : n = outs.length := R.n; subst hD; exact ⟨by simp [dn], by simp [dn]; omega, by simp [dn]; omega⟩
  have hn2 : n = n2 := by have := h2.len; subst hD; simpa [dn] using this.symm
  subst hn2
  cbv
  intro f3 hb3
  cbv
  refine ⟨?_, fun f4 n4 h4 => ?_⟩
  · have hl : outs.length ≤ 1000000 := hl; have hn : n = outs.length := R.n; subst hD; exact ⟨by simp [dn], by simp [dn]; omega, by simp [dn]; omega⟩
  obtain ⟨l4, hl4⟩ : ∃ l, l = outs ++ [ek == 2] := ⟨_, rfl⟩
  have R2 : Rows encB outs n f2 := by
    subst hD
    refine ⟨R.n, fun i x hx => ?_⟩
    have hlt : i < outs.length := (List.getElem?_eq_some_iff.1 hx).1
    rw [h2.hi i i (by simp [dn]) (by have hn : n = outs.length := R.n; show (i : Int) < n; omega)]
    exact R.f i x hx
  have R4 : Rows encB l4 n4 f4 := by
    rw [hl4]
    subst hD
    refine rows_snoc R2 h4 ?_
    have := hb3.h 0 _ rfl
    rw [this]
    simp [dn, encB, BT.den, cmpDen]
  have hll : l4.length ≤ 1000001 := by have hl : outs.length ≤ 1000000 := hl; rw [hl4]; simp; omega
  rw [← hl4] at hs' hr
  clear hb1 h2 hb3 h4
  cbv
  refine br hD (fun h3 => ?_) (fun h3 => ?_) <;> cbv
  · have hw : w < (l4.length : Int) := by have := R4.n; simp at h3; omega
    have hc5 : cutF ⟨w, fl, op, pr, st, si, nw, ep, nl, outs, good, probe⟩ l4 = l4.drop 1 := if_pos hw
    rw [hc5] at hs' hr
    refine ⟨?_, fun f6 n6 h6 => ?_⟩
    · have h0 : 1 ≤ l4.length := by rw [hl4]; simp
      have := R4.n
      subst hD; exact ⟨by simp [dn], by simp [dn]; omega, by simp [dn]⟩
    have R6 : Rows encB (l4.drop 1) n6 f6 := rows_drop R4 (by subst hD; exact h6) (by rw [hl4]; simp)
    have hl5 : (l4.drop 1).length ≤ 1000001 := by simp; omega
    clear hw hc5 h6
    generalize l4.drop 1 = l5 at R6 hl5 hs' hr
    cbv
    refine ⟨_, _, _, l5, rfl, rfl, by subst hD; exact R6, by omega, fun c hcc => ?_⟩
    cbv
    refine br hD (fun h5 => ?_) (fun h5 => ?_) <;> cbv
    · have hf : failsF l5 = fl := by simp at h5; rw [← hcc]; exact h5
      rw [if_pos hf] at hs' hr
      refine ⟨⟨_, _, _, _, _, _, _, _, _, l5, _, _⟩, _, _, _, _, rfl, rfl, fun s2 n5 f5 hs2 R2 => ?_⟩
      cbv
      have hs2 : s2 = s' := by subst hD; rw [hs']; exact hs2
      subst hs2 hr hD
      exact finV (.tup (.cons (.agg (leSt rfl rfl rfl rfl rfl rfl rfl rfl rfl R2 R' rfl rfl)) (.cons (leInt rfl) .nil)))
    · have hf : ¬ failsF l5 = fl := by simp at h5; rw [← hcc]; exact h5
      rw [if_neg hf] at hs' hr
      subst hs' hr
      subst hD
      exact finV (.tup (.cons (.agg (leSt (s := ⟨w, fl, op, pr, st, si, nw, ep, false, l5, good, probe⟩) rfl rfl rfl rfl rfl rfl rfl rfl rfl R6 R' rfl rfl)) (.cons (leInt rfl) .nil)))
  · have hw : ¬ w < (l4.length : Int) := by have := R4.n; simp at h3; omega
    have hc5 : cutF ⟨w, fl, op, pr, st, si, nw, ep, nl, outs, good, probe⟩ l4 = l4 := if_neg hw
    rw [hc5] at hs' hr
    clear hl4 hw hc5
    generalize l4 = l5 at R4 hll hs' hr
    refine ⟨_, _, _, l5, rfl, rfl, by subst hD; exact R4, by omega, fun c hcc => ?_⟩
    cbv
    refine br hD (fun h5 => ?_) (fun h5 => ?_) <;> cbv
    · have hf : failsF l5 = fl := by simp at h5; rw [← hcc]; exact h5
      rw [if_pos hf] at hs' hr
      refine ⟨⟨_, _, _, _, _, _, _, _, _, l5, _, _⟩, _, _, _, _, rfl, rfl, fun s2 n5 f5 hs2 R2 => ?_⟩
      cbv
      have hs2 : s2 = s' := by subst hD; rw [hs']; exact hs2
      subst hs2 hr hD
      exact finV (.tup (.cons (.agg (leSt rfl rfl rfl rfl rfl rfl rfl rfl rfl R2 R' rfl rfl)) (.cons (leInt rfl) .nil)))
    · have hf : ¬ failsF l5 = fl := by simp at h5; rw [← hcc]; exact h5
      rw [if_neg hf] at hs' hr
      subst hs' hr
      have R6 := R4
      subst hD
      exact finV (.tup (.cons (.agg (leSt (s := ⟨w, fl, op, pr, st, si, nw, ep, false, l5, good, probe⟩) rfl rfl rfl rfl rfl rfl rfl rfl rfl R6 R' rfl rfl)) (.cons (leInt rfl) .nil)))
end Go.Proofs.YtkhbbppkghcbeaaDoor
namespace Go.Proofs.YtkhbbppkghcbeaaDoor
open Go.Sx
set_option maxRecDepth 10000
set_option maxHeartbeats 1000000
theorem within_iff (n a b : Int) : withinF n a b = true ↔ a ≤ n ∧ n ≤ b := by simp [withinF]
theorem within_iff' (n a b : Int) : withinF n a b = false ↔ ¬ (a ≤ n ∧ n ≤ b) := by simp [withinF]
theorem event_ok : FnOk Tryd.prog gl 32 spCheckEv := by
  refine fnOk (gh := []) mixed cxOk (tabCons within_ok tabNil) Tryd.func32 (by kernel_rfl) (by kernel_rfl) ?_
  intro xs ls K h
  unfold spCheckEv at h
  obtain ⟨⟨ek, en, ea, ee⟩, rfl, rfl, h⟩ := h
  obtain ⟨r, hr⟩ : ∃ r, r = checkEvF ⟨ek, en, ea, ee⟩ := ⟨_, rfl⟩
  refine ⟨_, _, h r hr, fun D hD => ?_⟩
  clear h
  cbv
  refine br hD (fun h => ?_) (fun h => ?_) <;> cbv
  · refine finInt hD ?_
    simp at h
    rw [hr, checkEvF]
    simp only [den_l]
    (repeat' split) <;> omega
  · refine ⟨_, _, _, rfl, rfl, fun c1 h1 => ?_⟩
    cbv
    refine ⟨_, _, _, rfl, rfl, fun c2 h2 => ?_⟩
    cbv
    refine ⟨_, _, _, rfl, rfl, fun c3 h3 => ?_⟩
    cbv
    have g1 := within_iff en 0 1000000000000
    have g2 := within_iff ea 1 1000000000
    have g3 := within_iff ee 1 1000000000
    have h1 : c1 = withinF en 0 1000000000000 := by subst hD; exact h1
    have h2 : c2 = withinF ea 1 1000000000 := by subst hD; exact h2
    have h3 : c3 = withinF ee 1 1000000000 := by subst hD; exact h3
    rw [← h1] at g1
    rw [← h2] at g2
    rw [← h3] at g3
    clear h1 h2 h3
    refine br hD (fun h4 => ?_) (fun h4 => ?_) <;> cbv
    all_goals
      refine finInt hD ?_
      simp at h h4
      rw [hr, checkEvF]
      simp only [den_l]
      cases c1 <;> cases c2 <;> cases c3 <;> simp at g1 g2 g3 h4 <;> (repeat' split) <;> omega
theorem rcc_ok : FnOk Tryd.prog gl 26 spCC := by
  refine fnOk (gh := []) mixed cxOk (tabCons within_ok tabNil) Tryd.func26 (by kernel_rfl) (by kernel_rfl) ?_
  intro xs ls K h
  unfold spCC at h
  obtain ⟨a, b, c, d, rfl, rfl, h⟩ := h
  obtain ⟨r, hr⟩ : ∃ r, r = ccF a b c d := ⟨_, rfl⟩
  refine ⟨_, _, h r hr, fun D hD => ?_⟩
  clear h
  cbv
  refine ⟨_, _, _, rfl, rfl, fun c1 h1 => ?_⟩
  cbv
  have g1 := within_iff c 1 1000000000000
  have h1 : c1 = withinF c 1 1000000000000 := by subst hD; exact h1
  rw [← h1] at g1
  clear h1
  refine br hD (fun h4 => ?_) (fun h4 => ?_) <;> cbv
  all_goals
    refine finInt hD ?_
    simp at h4
    rw [hr, ccF]
    simp only [den_l]
    cases c1 <;> simp at g1 h4 <;> (repeat' split) <;> omega
end Go.Proofs.YtkhbbppkghcbeaaDoor
namespace Go.Proofs.YtkhbbppkghcbeaaDoor
open Go.Sx
set_option maxRecDepth 10000
set_option maxHeartbeats 2000000
theorem rcheck_ok : FnOk Tryd.prog gl 27 spCheck := by
  refine fnOk (gh := []) mixed cxOk (tabCons rcc_ok (tabCons failures_ok (tabCons within_ok tabNil))) Tryd.func27 (by kernel_rfl) (by kernel_rfl) ?_
  intro xs ls K h
  unfold spCheck at h
  obtain ⟨⟨w, fl, op, pr, st, si, nw, ep, nl, outs, good, probe⟩, n, f, rfl, rfl, R, hl, h⟩ := h
  obtain ⟨r, hr⟩ : ∃ r, r = checkF ⟨w, fl, op, pr, st, si, nw, ep, nl, outs, good, probe⟩ := ⟨_, rfl⟩
  refine ⟨_, _, h r hr, fun D hD => ?_⟩
  clear h
  cbv
  refine ⟨_, _, _, _, rfl, rfl, fun c hc => ?_⟩
  have hc : c = ccF w fl op pr := by subst hD; exact hc
  have hck : r = if c ≠ 0 then c else if rightF ⟨w, fl, op, pr, st, si, nw, ep, nl, outs, good, probe⟩ then 0 else 6 := by rw [hr, checkF, ← hc]
  have hop : c = 0 → 1 ≤ op ∧ op ≤ 1000000000000 := fun e => by have := ccF_ok (hc ▸ e : ccF w fl op pr = 0); omega
  clear hr hc
  cbv
  refine br hD (fun h => ?_) (fun h => ?_) <;> cbv
  · refine finInt hD ?_
    simp at h ⊢
    rw [hck, if_pos h]
  simp at h
  rw [if_neg (by omega)] at hck
  have hop := hop h
  refine ⟨_, _, _, rfl, rfl, fun c1 h1 => ?_⟩
  have h1 : c1 = withinF ep 1 1000000000 := by subst hD; exact h1
  have g1 := within_iff ep 1 1000000000
  rw [← h1] at g1
  clear h1
  have w1 : 0 ≤ si ∧ si ≤ nw ∧ nw ≤ 1000000000000 → IntKind.i64.wrap (nw - si) = nw - si ∧ IntKind.i64.wrap (si + op) = si + op := fun e => ⟨wrap64 (by omega) (by omega), wrap64 (by omega) (by omega)⟩
  cbv
  repeat' (first
    | (refine br hD (fun h => ?_) (fun h => ?_) <;> cbv)
    | (refine ⟨_, _, _, outs, rfl, rfl, (by subst hD; exact R), (by have : outs.length ≤ 1000000 := hl; omega), fun c2 h2 => ?_⟩; cbv)
    | (refine ⟨_, _, _, rfl, rfl, fun c3 h3 => ?_⟩; cbv))
  all_goals
    refine finInt hD ?_
    have hn : n = (outs.length : Int) := R.n
    subst hD
    simp only [dn, den_a, withinF] at *
    simp at *
    simp only [rightF] at hck
    rw [hck]
    clear hck
    (repeat' split) <;> first | omega | grind
end Go.Proofs.YtkhbbppkghcbeaaDoor
namespace Go.Proofs.YtkhbbppkghcbeaaDoor
open Go.Sx
set_option maxRecDepth 10000
set_option maxHeartbeats 4000000
def openF (s : BS) : BS := ⟨s.w, s.fl, s.op, s.pr, s.st, s.since, s.now, s.ep, false, s.outs, s.good, s.probe⟩
def lastF (t : BS) (adm : Bool) (f : Int) : BS × Bool × Int :=
  if 1000000000 < t.ep then (zeroBS, false, 3) else if f ≠ 0 then (zeroBS, false, f) else (openF t, adm, 0)
def midF (t : BS) (e : BE) : BS × Bool × Int :=
  if e.kind = 1 then
    (if t.st = 0 then lastF t true 0 else if t.st = 2 ∧ t.probe = 0 then lastF ⟨t.w, t.fl, t.op, t.pr, t.st, t.since, t.now, t.ep, t.nl, t.outs, t.good, e.att⟩ true 0 else lastF t false 0)
  else if e.kind = 2 ∨ e.kind = 3 ∨ e.kind = 4 then
    (if e.ep = t.ep then lastF (endedF t e).1 false (endedF t e).2 else lastF t false 0)
  else lastF t false 0
def rstepF (s : BS) (e : BE) : BS × Bool × Int :=
  if checkF s ≠ 0 then (zeroBS, false, checkF s)
  else if checkEvF e ≠ 0 then (zeroBS, false, checkEvF e)
  else if e.now < s.now then (zeroBS, false, 9)
  else midF (passedF s e.now) e
def spRStep : FSpec := fun _ xs ls K => ∃ (s : BS) (n : Int) (f : Nat → List SV) (e : BE), xs = [.agg (stC s n f), .agg (evC e)] ∧ ls = [] ∧ Rows encB s.outs n f ∧ s.outs.length ≤ 1000 ∧
  ∀ (s' : BS) (b : Bool) (r : Int) (n' : Int) (f' : Nat → List SV), s' = (rstepF s e).1 → b = (rstepF s e).2.1 → r = (rstepF s e).2.2 → Rows encB s'.outs n' f' → K (.tup [.agg (stC s' n' f'), .bool (.a b), .int .i64 (.a r)]) []
theorem endedF_len (s : BS) (e : BE) : (endedF s e).1.outs.length ≤ s.outs.length + 1 := by
  have h : (cutF s (s.outs ++ [e.kind == 2])).length ≤ s.outs.length + 1 := by
    unfold cutF; split <;> simp
  unfold endedF
  repeat' split
  all_goals simp [turnF]
  all_goals omega
theorem passedF_len (s : BS) (now : Int) : (passedF s now).outs.length ≤ s.outs.length := by
  unfold passedF
  split <;> simp [turnF]
theorem rstep_ok : FnOk Tryd.prog gl 17 spRStep := by
  refine fnOk (gh := []) mixed cxOk (tabCons rcheck_ok (tabCons event_ok (tabCons passed_ok (tabCons ended_ok tabNil)))) Tryd.func17 (by kernel_rfl) (by kernel_rfl) ?_
  intro xs ls K h
  unfold spRStep at h
  obtain ⟨⟨w, fl, op, pr, st, si, nw, ep, nl, outs, good, probe⟩, n, f, ⟨ek, en, ea, ee⟩, rfl, rfl, R, hl, h⟩ := h
  obtain ⟨s', hs'⟩ : ∃ s', s' = (rstepF ⟨w, fl, op, pr, st, si, nw, ep, nl, outs, good, probe⟩ ⟨ek, en, ea, ee⟩).1 := ⟨_, rfl⟩
  obtain ⟨b, hb⟩ : ∃ b, b = (rstepF ⟨w, fl, op, pr, st, si, nw, ep, nl, outs, good, probe⟩ ⟨ek, en, ea, ee⟩).2.1 := ⟨_, rfl⟩
  obtain ⟨r, hr⟩ : ∃ r, r = (rstepF ⟨w, fl, op, pr, st, si, nw, ep, nl, outs, good, probe⟩ ⟨ek, en, ea, ee⟩).2.2 := ⟨_, rfl⟩
  obtain ⟨n', f', R'⟩ : ∃ n' f', Rows encB s'.outs n' f' := ⟨_, _, rowF_ok _⟩
  refine ⟨_, _, h s' b r n' f' hs' hb hr R', fun D hD => ?_⟩
  clear h
  cbv
  refine ⟨⟨_, _, _, _, _, _, _, _, _, outs, _, _⟩, _, _, rfl, rfl, by subst hD; exact R, by have : outs.length ≤ 1000 := hl; show outs.length ≤ 1000000; omega, fun c hc => ?_⟩
  have hc : c = checkF ⟨w, fl, op, pr, st, si, nw, ep, nl, outs, good, probe⟩ := by subst hD; exact hc
  rw [rstepF, ← hc] at hs' hb hr
  clear hc
  cbv
  refine br hD (fun h1 => ?_) (fun h1 => ?_) <;> cbv
  rotate_left
  · simp at h1
    rw [if_pos h1] at hs' hb hr
    refine br hD (fun h2 => ?_) (fun h2 => ?_) <;> cbv
    · simp [h1] at h2
    refine br hD (fun h3 => ?_) (fun h3 => ?_) <;> cbv
    · subst hD hs' hb hr
      exact finV (.tup (.cons (.agg (leSt (s := zeroBS) rfl rfl rfl rfl rfl rfl rfl rfl rfl ⟨rfl, by intro i x hx; simp [zeroBS] at hx⟩ R' rfl rfl)) (.cons (leBool rfl) (.cons (leInt rfl) .nil))))
    · simp at h3; exact absurd h3 h1
  simp at h1
  rw [if_neg (by omega)] at hs' hb hr
  refine ⟨⟨_, _, _, _⟩, rfl, rfl, fun c2 hc2 => ?_⟩
  have hc2 : c2 = checkEvF ⟨ek, en, ea, ee⟩ := by subst hD; exact hc2
  rw [← hc2] at hs' hb hr
  clear hc2
  cbv
  refine br hD (fun h2 => ?_) (fun h2 => ?_) <;> cbv
  · simp at h2
    have g1 : ¬ c2 ≠ 0 := by omega
    have g2 : en < nw := by omega
    rw [if_neg g1, if_pos g2] at hs' hb hr
    subst hD hs' hb hr
    exact finV (.tup (.cons (.agg (leSt (s := zeroBS) rfl rfl rfl rfl rfl rfl rfl rfl rfl ⟨rfl, by intro i x hx; simp [zeroBS] at hx⟩ R' rfl rfl)) (.cons (leBool rfl) (.cons (leInt rfl) .nil))))
  refine br hD (fun h3 => ?_) (fun h3 => ?_) <;> cbv
  · simp at h3
    rw [if_pos h3] at hs' hb hr
    subst hD hs' hb hr
    exact finV (.tup (.cons (.agg (leSt (s := zeroBS) rfl rfl rfl rfl rfl rfl rfl rfl rfl ⟨rfl, by intro i x hx; simp [zeroBS] at hx⟩ R' rfl rfl)) (.cons (leBool rfl) (.cons (leInt rfl) .nil))))
  have g1 : ¬ c2 ≠ 0 := by simp at h3; omega
  have g2 : ¬ en < nw := by simp at h2 h3; have := h2 h3; omega
  rw [if_neg g1, if_neg g2] at hs' hb hr
  have hok := g1
  clear h1 h2 h3 g1 g2
  refine ⟨⟨_, _, _, _, _, _, _, _, _, outs, _, _⟩, _, _, _, rfl, rfl, by subst hD; exact R, fun s2 n2 f2 hs2 R2 => ?_⟩
  have hs2 : s2 = passedF ⟨w, fl, op, pr, st, si, nw, ep, nl, outs, good, probe⟩ en := by subst hD; exact hs2
  have hl2 : s2.outs.length ≤ 1000 := by have := passedF_len ⟨w, fl, op, pr, st, si, nw, ep, nl, outs, good, probe⟩ en; rw [hs2]; exact Nat.le_trans this hl
  rw [← hs2, midF] at hs' hb hr
  clear hs2 R hl
  obtain ⟨w2, fl2, op2, pr2, st2, si2, nw2, ep2, nl2, outs2, good2, probe2⟩ := s2
  cbv
  refine br hD (fun h1 => ?_) (fun h1 => ?_) <;> cbv
  · have h1 : ek = 1 := by simpa using h1
    rw [if_pos h1] at hs' hb hr
    refine br hD (fun h2 => ?_) (fun h2 => ?_) <;> cbv
    · have hst : ¬ st2 = 0 := by simp at h2; omega
      have hst2 : st2 = 2 ∧ probe2 = 0 := by simp at h2; omega
      rw [if_neg hst, if_pos hst2] at hs' hb hr
      have hadm : ((st2 == 0) || ((st2 == 2) && (probe2 == 0))) = true := by simp; omega
      clear h2 hst hst2
      rw [lastF] at hs' hb hr
      refine br hD (fun g1 => ?_) (fun g1 => ?_) <;> cbv
      · have g1 : 1000000000 < ep2 := by simpa using g1
        rw [if_pos g1] at hs' hb hr
        subst hD hs' hb hr
        exact finV (.tup (.cons (.agg (leSt (s := zeroBS) rfl rfl rfl rfl rfl rfl rfl rfl rfl ⟨rfl, by intro i x hx; simp [zeroBS] at hx⟩ R' rfl rfl)) (.cons (leBool rfl) (.cons (leInt rfl) .nil))))
      have g1 : ¬ 1000000000 < ep2 := by simp at g1; show ¬ 1000000000 < ep2; omega
      rw [if_neg g1] at hs' hb hr
      refine br hD (fun g2 => ?_) (fun g2 => ?_) <;> cbv
      · simp at g2
        exact absurd g2 hok
      rw [if_neg (fun h => h rfl)] at hs' hb hr
      intro f6 hb6
      cbv
      refine ⟨?_, fun f7 n7 h7 => ?_⟩
      · have hl9 : outs2.length ≤ 1001 := (by have : outs2.length ≤ 1000 := hl2; omega); have hn9 := R2.n; subst hD; exact ⟨by simp [dn], by simp [dn]; simp at hn9; omega, by simp [dn]; simp at hn9; omega⟩
      have R7 : Rows encB outs2 n7 f7 := by
        subst hD
        refine ⟨by have := h7.len; have := R2.n; simp [dn] at *; omega, fun i x hx => ?_⟩
        have hlt : i < outs2.length := (List.getElem?_eq_some_iff.1 hx).1
        rw [h7.hi i i (by simp [dn]) (by have := R2.n; simp [dn] at *; omega)]
        exact R2.f i x hx
      cbv
      subst hs' hb hr hD
      exact finV (.tup (.cons (.agg (leSt (s := ⟨w2, fl2, op2, pr2, st2, si2, nw2, ep2, false, outs2, good2, ea⟩) rfl rfl rfl rfl rfl rfl rfl rfl rfl R7 R' rfl rfl)) (.cons (leBool (by simpa [dn, BT.den, cmpDen] using hadm)) (.cons (leInt rfl) .nil))))
    by_cases hst : st2 = 0
    · rw [if_pos hst] at hs' hb hr
      have hadm : ((st2 == 0) || ((st2 == 2) && (probe2 == 0))) = true := by simp; omega
      clear h2 hst
      rw [lastF] at hs' hb hr
      refine br hD (fun g1 => ?_) (fun g1 => ?_) <;> cbv
      · have g1 : 1000000000 < ep2 := by simpa using g1
        rw [if_pos g1] at hs' hb hr
        subst hD hs' hb hr
        exact finV (.tup (.cons (.agg (leSt (s := zeroBS) rfl rfl rfl rfl rfl rfl rfl rfl rfl ⟨rfl, by intro i x hx; simp [zeroBS] at hx⟩ R' rfl rfl)) (.cons (leBool rfl) (.cons (leInt rfl) .nil))))
      have g1 : ¬ 1000000000 < ep2 := by simp at g1; show ¬ 1000000000 < ep2; omega
      rw [if_neg g1] at hs' hb hr
      refine br hD (fun g2 => ?_) (fun g2 => ?_) <;> cbv
      · simp at g2
        exact absurd g2 hok
      rw [if_neg (fun h => h rfl)] at hs' hb hr
      intro f6 hb6
      cbv
      refine ⟨?_, fun f7 n7 h7 => ?_⟩
      · have hl9 : outs2.length ≤ 1001 := (by have : outs2.length ≤ 1000 := hl2; omega); have hn9 := R2.n; subst hD; exact ⟨by simp [dn], by simp [dn]; simp at hn9; omega, by simp [dn]; simp at hn9; omega⟩
      have R7 : Rows encB outs2 n7 f7 := by
        subst hD
        refine ⟨by have := h7.len; have := R2.n; simp [dn] at *; omega, fun i x hx => ?_⟩
        have hlt : i < outs2.length := (List.getElem?_eq_some_iff.1 hx).1
        rw [h7.hi i i (by simp [dn]) (by have := R2.n; simp [dn] at *; omega)]
        exact R2.f i x hx
      cbv
      subst hs' hb hr hD
      exact finV (.tup (.cons (.agg (leSt (s := ⟨w2, fl2, op2, pr2, st2, si2, nw2, ep2, false, outs2, good2, probe2⟩) rfl rfl rfl rfl rfl rfl rfl rfl rfl R7 R' rfl rfl)) (.cons (leBool (by simpa [dn, BT.den, cmpDen] using hadm)) (.cons (leInt rfl) .nil))))
    have hst2 : ¬ (st2 = 2 ∧ probe2 = 0) := by simp at h2; omega
    rw [if_neg hst, if_neg hst2] at hs' hb hr
    have hadm : ((st2 == 0) || ((st2 == 2) && (probe2 == 0))) = false := by simp; omega
    clear h2 hst hst2
    rw [lastF] at hs' hb hr
    refine br hD (fun g1 => ?_) (fun g1 => ?_) <;> cbv
    · have g1 : 1000000000 < ep2 := by simpa using g1
      rw [if_pos g1] at hs' hb hr
      subst hD hs' hb hr
      exact finV (.tup (.cons (.agg (leSt (s := zeroBS) rfl rfl rfl rfl rfl rfl rfl rfl rfl ⟨rfl, by intro i x hx; simp [zeroBS] at hx⟩ R' rfl rfl)) (.cons (leBool rfl) (.cons (leInt rfl) .nil))))
    have g1 : ¬ 1000000000 < ep2 := by simp at g1; show ¬ 1000000000 < ep2; omega
    rw [if_neg g1] at hs' hb hr
    refine br hD (fun g2 => ?_) (fun g2 => ?_) <;> cbv
    · simp at g2
      exact absurd g2 hok
    rw [if_neg (fun h => h rfl)] at hs' hb hr
    intro f6 hb6
    cbv
    refine ⟨?_, fun f7 n7 h7 => ?_⟩
    · have hl9 : outs2.length ≤ 1001 := (by have : outs2.length ≤ 1000 := hl2; omega); have hn9 := R2.n; subst hD; exact ⟨by simp [dn], by simp [dn]; simp at hn9; omega, by simp [dn]; simp at hn9; omega⟩
    have R7 : Rows encB outs2 n7 f7 := by
      subst hD
      refine ⟨by have := h7.len; have := R2.n; simp [dn] at *; omega, fun i x hx => ?_⟩
      have hlt : i < outs2.length := (List.getElem?_eq_some_iff.1 hx).1
      rw [h7.hi i i (by simp [dn]) (by have := R2.n; simp [dn] at *; omega)]
      exact R2.f i x hx
    cbv
    subst hs' hb hr hD
    exact finV (.tup (.cons (.agg (leSt (s := ⟨w2, fl2, op2, pr2, st2, si2, nw2, ep2, false, outs2, good2, probe2⟩) rfl rfl rfl rfl rfl rfl rfl rfl rfl R7 R' rfl rfl)) (.cons (leBool (by simpa [dn, BT.den, cmpDen] using hadm)) (.cons (leInt rfl) .nil))))
  have h1 : ¬ ek = 1 := by simpa using h1
  rw [if_neg h1] at hs' hb hr
  refine br hD (fun h2 => ?_) (fun h2 => ?_) <;> cbv
  · have h2 : ek = 2 := by simpa using h2
    rw [if_pos (show ek = 2 ∨ ek = 3 ∨ ek = 4 by omega)] at hs' hb hr
    refine br hD (fun h3 => ?_) (fun h3 => ?_) <;> cbv
    · have h3 : ee = ep2 := by simpa using h3
      rw [if_pos h3] at hs' hb hr
      refine ⟨⟨_, _, _, _, _, _, _, _, _, outs2, _, _⟩, _, _, ⟨_, _, _, _⟩, rfl, rfl, by subst hD; exact R2, by have : outs2.length ≤ 1000 := hl2; show outs2.length ≤ 1000000; omega, fun s3 c3 n3 f3 hs3 hc3 R3 => ?_⟩
      have hs3 : s3 = (endedF ⟨w2, fl2, op2, pr2, st2, si2, nw2, ep2, nl2, outs2, good2, probe2⟩ ⟨ek, en, ea, ee⟩).1 := by subst hD; exact hs3
      have hc3 : c3 = (endedF ⟨w2, fl2, op2, pr2, st2, si2, nw2, ep2, nl2, outs2, good2, probe2⟩ ⟨ek, en, ea, ee⟩).2 := by subst hD; exact hc3
      have hl3 : s3.outs.length ≤ 1001 := by have := endedF_len ⟨w2, fl2, op2, pr2, st2, si2, nw2, ep2, nl2, outs2, good2, probe2⟩ ⟨ek, en, ea, ee⟩; rw [hs3]; have : outs2.length ≤ 1000 := hl2; simp at *; omega
      rw [← hs3, ← hc3] at hs' hb hr
      clear hs3 hc3 h1 h2 h3 R2 hl2
      obtain ⟨w3, fl3, op3, pr3, st3, si3, nw3, ep3, nl3, outs3, good3, probe3⟩ := s3
      cbv
      rw [lastF] at hs' hb hr
      refine br hD (fun g1 => ?_) (fun g1 => ?_) <;> cbv
      · have g1 : 1000000000 < ep3 := by simpa using g1
        rw [if_pos g1] at hs' hb hr
        subst hD hs' hb hr
        exact finV (.tup (.cons (.agg (leSt (s := zeroBS) rfl rfl rfl rfl rfl rfl rfl rfl rfl ⟨rfl, by intro i x hx; simp [zeroBS] at hx⟩ R' rfl rfl)) (.cons (leBool rfl) (.cons (leInt rfl) .nil))))
      have g1 : ¬ 1000000000 < ep3 := by simp at g1; show ¬ 1000000000 < ep3; omega
      rw [if_neg g1] at hs' hb hr
      refine br hD (fun g2 => ?_) (fun g2 => ?_) <;> cbv
      · have g2 : c3 ≠ 0 := by simpa using g2
        rw [if_pos g2] at hs' hb hr
        subst hD hs' hb hr
        exact finV (.tup (.cons (.agg (leSt (s := zeroBS) rfl rfl rfl rfl rfl rfl rfl rfl rfl ⟨rfl, by intro i x hx; simp [zeroBS] at hx⟩ R' rfl rfl)) (.cons (leBool rfl) (.cons (leInt rfl) .nil))))
      have g2 : ¬ c3 ≠ 0 := by simpa using g2
      rw [if_neg g2] at hs' hb hr
      intro f6 hb6
      cbv
      refine ⟨?_, fun f7 n7 h7 => ?_⟩
      · have hl9 : outs3.length ≤ 1001 := hl3; have hn9 := R3.n; subst hD; exact ⟨by simp [dn], by simp [dn]; simp at hn9; omega, by simp [dn]; simp at hn9; omega⟩
      have R7 : Rows encB outs3 n7 f7 := by
        subst hD
        refine ⟨by have := h7.len; have := R3.n; simp [dn] at *; omega, fun i x hx => ?_⟩
        have hlt : i < outs3.length := (List.getElem?_eq_some_iff.1 hx).1
        rw [h7.hi i i (by simp [dn]) (by have := R3.n; simp [dn] at *; omega)]
        exact R3.f i x hx
      cbv
      subst hs' hb hr hD
      exact finV (.tup (.cons (.agg (leSt (s := ⟨w3, fl3, op3, pr3, st3, si3, nw3, ep3, false, outs3, good3, probe3⟩) rfl rfl rfl rfl rfl rfl rfl rfl rfl R7 R' rfl rfl)) (.cons (leBool rfl) (.cons (leInt rfl) .nil))))
    have h3 : ¬ ee = ep2 := by simpa using h3
    rw [if_neg h3] at hs' hb hr
    clear h1 h2 h3
    rw [lastF] at hs' hb hr
    refine br hD (fun g1 => ?_) (fun g1 => ?_) <;> cbv
    · have g1 : 1000000000 < ep2 := by simpa using g1
      rw [if_pos g1] at hs' hb hr
      subst hD hs' hb hr
      exact finV (.tup (.cons (.agg (leSt (s := zeroBS) rfl rfl rfl rfl rfl rfl rfl rfl rfl ⟨rfl, by intro i x hx; simp [zeroBS] at hx⟩ R' rfl rfl)) (.cons (leBool rfl) (.cons (leInt rfl) .nil))))
    have g1 : ¬ 1000000000 < ep2 := by simp at g1; show ¬ 1000000000 < ep2; omega
    rw [if_neg g1] at hs' hb hr
    refine br hD (fun g2 => ?_) (fun g2 => ?_) <;> cbv
    · simp at g2
      exact absurd g2 hok
    rw [if_neg (fun h => h rfl)] at hs' hb hr
    intro f6 hb6
    cbv
    refine ⟨?_, fun f7 n7 h7 => ?_⟩
    · have hl9 : outs2.length ≤ 1001 := (by have : outs2.length ≤ 1000 := hl2; omega); have hn9 := R2.n; subst hD; exact ⟨by simp [dn], by simp [dn]; simp at hn9; omega, by simp [dn]; simp at hn9; omega⟩
    have R7 : Rows encB outs2 n7 f7 := by
      subst hD
      refine ⟨by have := h7.len; have := R2.n; simp [dn] at *; omega, fun i x hx => ?_⟩
      have hlt : i < outs2.length := (List.getElem?_eq_some_iff.1 hx).1
      rw [h7.hi i i (by simp [dn]) (by have := R2.n; simp [dn] at *; omega)]
      exact R2.f i x hx
    cbv
    subst hs' hb hr hD
    exact finV (.tup (.cons (.agg (leSt (s := ⟨w2, fl2, op2, pr2, st2, si2, nw2, ep2, false, outs2, good2, probe2⟩) rfl rfl rfl rfl rfl rfl rfl rfl rfl R7 R' rfl rfl)) (.cons (leBool rfl) (.cons (leInt rfl) .nil))))
  have h22 : ¬ ek = 2 := by simpa using h2
  clear h2
  refine br hD (fun h2 => ?_) (fun h2 => ?_) <;> cbv
  · have h2 : ek = 3 := by simpa using h2
    rw [if_pos (show ek = 2 ∨ ek = 3 ∨ ek = 4 by omega)] at hs' hb hr
    refine br hD (fun h3 => ?_) (fun h3 => ?_) <;> cbv
    · have h3 : ee = ep2 := by simpa using h3
      rw [if_pos h3] at hs' hb hr
      refine ⟨⟨_, _, _, _, _, _, _, _, _, outs2, _, _⟩, _, _, ⟨_, _, _, _⟩, rfl, rfl, by subst hD; exact R2, by have : outs2.length ≤ 1000 := hl2; show outs2.length ≤ 1000000; omega, fun s3 c3 n3 f3 hs3 hc3 R3 => ?_⟩
      have hs3 : s3 = (endedF ⟨w2, fl2, op2, pr2, st2, si2, nw2, ep2, nl2, outs2, good2, probe2⟩ ⟨ek, en, ea, ee⟩).1 := by subst hD; exact hs3
      have hc3 : c3 = (endedF ⟨w2, fl2, op2, pr2, st2, si2, nw2, ep2, nl2, outs2, good2, probe2⟩ ⟨ek, en, ea, ee⟩).2 := by subst hD; exact hc3
      have hl3 : s3.outs.length ≤ 1001 := by have := endedF_len ⟨w2, fl2, op2, pr2, st2, si2, nw2, ep2, nl2, outs2, good2, probe2⟩ ⟨ek, en, ea, ee⟩; rw [hs3]; have : outs2.length ≤ 1000 := hl2; simp at *; omega
      rw [← hs3, ← hc3] at hs' hb hr
      clear hs3 hc3 h1 h2 h3 R2 hl2
      obtain ⟨w3, fl3, op3, pr3, st3, si3, nw3, ep3, nl3, outs3, good3, probe3⟩ := s3
      cbv
      rw [lastF] at hs' hb hr
      refine br hD (fun g1 => ?_) (fun g1 => ?_) <;> cbv
      · have g1 : 1000000000 < ep3 := by simpa using g1
        rw [if_pos g1] at hs' hb hr
        subst hD hs' hb hr
        exact finV (.tup (.cons (.agg (leSt (s := zeroBS) rfl rfl rfl rfl rfl rfl rfl rfl rfl ⟨rfl, by intro i x hx; simp [zeroBS] at hx⟩ R' rfl rfl)) (.cons (leBool rfl) (.cons (leInt rfl) .nil))))
      have g1 : ¬ 1000000000 < ep3 := by simp at g1; show ¬ 1000000000 < ep3; omega
      rw [if_neg g1] at hs' hb hr
      refine br hD (fun g2 => ?_) (fun g2 => ?_) <;> cbv
      · have g2 : c3 ≠ 0 := by simpa using g2
        rw [if_pos g2] at hs' hb hr
        subst hD hs' hb hr
        exact finV (.tup (.cons (.agg (leSt (s := zeroBS) rfl rfl rfl rfl rfl rfl rfl rfl rfl ⟨rfl, by intro i x hx; simp [zeroBS] at hx⟩ R' rfl rfl)) (.cons (leBool rfl) (.cons (leInt rfl) .nil))))
      have g2 : ¬ c3 ≠ 0 := by simpa using g2
      rw [if_neg g2] at hs' hb hr
      intro f6 hb6
      cbv
      refine ⟨?_, fun f7 n7 h7 => ?_⟩
      · have hl9 : outs3.length ≤ 1001 := hl3; have hn9 := R3.n; subst hD; exact ⟨by simp [dn], by simp [dn]; simp at hn9; omega, by simp [dn]; simp at hn9; omega⟩
      have R7 : Rows encB outs3 n7 f7 := by
        subst hD
        refine ⟨by have := h7.len; have := R3.n; simp [dn] at *; omega, fun i x hx => ?_⟩
        have hlt : i < outs3.length := (List.getElem?_eq_some_iff.1 hx).1
        rw [h7.hi i i (by simp [dn]) (by have := R3.n; simp [dn] at *; omega)]
        exact R3.f i x hx
      cbv
      subst hs' hb hr hD
      exact finV (.tup (.cons (.agg (leSt (s := ⟨w3, fl3, op3, pr3, st3, si3, nw3, ep3, false, outs3, good3, probe3⟩) rfl rfl rfl rfl rfl rfl rfl rfl rfl R7 R' rfl rfl)) (.cons (leBool rfl) (.cons (leInt rfl) .nil))))
    have h3 : ¬ ee = ep2 := by simpa using h3
    rw [if_neg h3] at hs' hb hr
    clear h1 h2 h3
    rw [lastF] at hs' hb hr
    refine br hD (fun g1 => ?_) (fun g1 => ?_) <;> cbv
    · have g1 : 1000000000 < ep2 := by simpa using g1
      rw [if_pos g1] at hs' hb hr
      subst hD hs' hb hr
      exact finV (.tup (.cons (.agg (leSt (s := zeroBS) rfl rfl rfl rfl rfl rfl rfl rfl rfl ⟨rfl, by intro i x hx; simp [zeroBS] at hx⟩ R' rfl rfl)) (.cons (leBool rfl) (.cons (leInt rfl) .nil))))
    have g1 : ¬ 1000000000 < ep2 := by simp at g1; show ¬ 1000000000 < ep2; omega
    rw [if_neg g1] at hs' hb hr
    refine br hD (fun g2 => ?_) (fun g2 => ?_) <;> cbv
    · simp at g2
      exact absurd g2 hok
    rw [if_neg (fun h => h rfl)] at hs' hb hr
    intro f6 hb6
    cbv
    refine ⟨?_, fun f7 n7 h7 => ?_⟩
    · have hl9 : outs2.length ≤ 1001 := (by have : outs2.length ≤ 1000 := hl2; omega); have hn9 := R2.n; subst hD; exact ⟨by simp [dn], by simp [dn]; simp at hn9; omega, by simp [dn]; simp at hn9; omega⟩
    have R7 : Rows encB outs2 n7 f7 := by
      subst hD
      refine ⟨by have := h7.len; have := R2.n; simp [dn] at *; omega, fun i x hx => ?_⟩
      have hlt : i < outs2.length := (List.getElem?_eq_some_iff.1 hx).1
      rw [h7.hi i i (by simp [dn]) (by have := R2.n; simp [dn] at *; omega)]
      exact R2.f i x hx
    cbv
    subst hs' hb hr hD
    exact finV (.tup (.cons (.agg (leSt (s := ⟨w2, fl2, op2, pr2, st2, si2, nw2, ep2, false, outs2, good2, probe2⟩) rfl rfl rfl rfl rfl rfl rfl rfl rfl R7 R' rfl rfl)) (.cons (leBool rfl) (.cons (leInt rfl) .nil))))
  have h23 : ¬ ek = 3 := by simpa using h2
  clear h2
  refine br hD (fun h2 => ?_) (fun h2 => ?_) <;> cbv
  · have h2 : ek = 4 := by simpa using h2
    rw [if_pos (show ek = 2 ∨ ek = 3 ∨ ek = 4 by omega)] at hs' hb hr
    refine br hD (fun h3 => ?_) (fun h3 => ?_) <;> cbv
    · have h3 : ee = ep2 := by simpa using h3
      rw [if_pos h3] at hs' hb hr
      refine ⟨⟨_, _, _, _, _, _, _, _, _, outs2, _, _⟩, _, _, ⟨_, _, _, _⟩, rfl, rfl, by subst hD; exact R2, by have : outs2.length ≤ 1000 := hl2; show outs2.length ≤ 1000000; omega, fun s3 c3 n3 f3 hs3 hc3 R3 => ?_⟩
      have hs3 : s3 = (endedF ⟨w2, fl2, op2, pr2, st2, si2, nw2, ep2, nl2, outs2, good2, probe2⟩ ⟨ek, en, ea, ee⟩).1 := by subst hD; exact hs3
      have hc3 : c3 = (endedF ⟨w2, fl2, op2, pr2, st2, si2, nw2, ep2, nl2, outs2, good2, probe2⟩ ⟨ek, en, ea, ee⟩).2 := by subst hD; exact hc3
      have hl3 : s3.outs.length ≤ 1001 := by have := endedF_len ⟨w2, fl2, op2, pr2, st2, si2, nw2, ep2, nl2, outs2, good2, probe2⟩ ⟨ek, en, ea, ee⟩; rw [hs3]; have : outs2.length ≤ 1000 := hl2; simp at *; omega
      rw [← hs3, ← hc3] at hs' hb hr
      clear hs3 hc3 h1 h2 h3 R2 hl2
      obtain ⟨w3, fl3, op3, pr3, st3, si3, nw3, ep3, nl3, outs3, good3, probe3⟩ := s3
      cbv
      rw [lastF] at hs' hb hr
      refine br hD (fun g1 => ?_) (fun g1 => ?_) <;> cbv
      · have g1 : 1000000000 < ep3 := by simpa using g1
        rw [if_pos g1] at hs' hb hr
        subst hD hs' hb hr
        exact finV (.tup (.cons (.agg (leSt (s := zeroBS) rfl rfl rfl rfl rfl rfl rfl rfl rfl ⟨rfl, by intro i x hx; simp [zeroBS] at hx⟩ R' rfl rfl)) (.cons (leBool rfl) (.cons (leInt rfl) .nil))))
      have g1 : ¬ 1000000000 < ep3 := by simp at g1; show ¬ 1000000000 < ep3; omega
      rw [if_neg g1] at hs' hb hr
      refine br hD (fun g2 => ?_) (fun g2 => ?_) <;> cbv
      · have g2 : c3 ≠ 0 := by simpa using g2
        rw [if_pos g2] at hs' hb hr
        subst hD hs' hb hr
        exact finV (.tup (.cons (.agg (leSt (s := zeroBS) rfl rfl rfl rfl rfl rfl rfl rfl rfl ⟨rfl, by intro i x hx; simp [zeroBS] at hx⟩ R' rfl rfl)) (.cons (leBool rfl) (.cons (leInt rfl) .nil))))
      have g2 : ¬ c3 ≠ 0 := by simpa using g2
      rw [if_neg g2] at hs' hb hr
      intro f6 hb6
      cbv
      refine ⟨?_, fun f7 n7 h7 => ?_⟩
      · have hl9 : outs3.length ≤ 1001 := hl3; have hn9 := R3.n; subst hD; exact ⟨by simp [dn], by simp [dn]; simp at hn9; omega, by simp [dn]; simp at hn9; omega⟩
      have R7 : Rows encB outs3 n7 f7 := by
        subst hD
        refine ⟨by have := h7.len; have := R3.n; simp [dn] at *; omega, fun i x hx => ?_⟩
        have hlt : i < outs3.length := (List.getElem?_eq_some_iff.1 hx).1
        rw [h7.hi i i (by simp [dn]) (by have := R3.n; simp [dn] at *; omega)]
        exact R3.f i x hx
      cbv
      subst hs' hb hr hD
      exact finV (.tup (.cons (.agg (leSt (s := ⟨w3, fl3, op3, pr3, st3, si3, nw3, ep3, false, outs3, good3, probe3⟩) rfl rfl rfl rfl rfl rfl rfl rfl rfl R7 R' rfl rfl)) (.cons (leBool rfl) (.cons (leInt rfl) .nil))))
    have h3 : ¬ ee = ep2 := by simpa using h3
    rw [if_neg h3] at hs' hb hr
    clear h1 h2 h3
    rw [lastF] at hs' hb hr
    refine br hD (fun g1 => ?_) (fun g1 => ?_) <;> cbv
    · have g1 : 1000000000 < ep2 := by simpa using g1
      rw [if_pos g1] at hs' hb hr
      subst hD hs' hb hr
      exact finV (.tup (.cons (.agg (leSt (s := zeroBS) rfl rfl rfl rfl rfl rfl rfl rfl rfl ⟨rfl, by intro i x hx; simp [zeroBS] at hx⟩ R' rfl rfl)) (.cons (leBool rfl) (.cons (leInt rfl) .nil))))
    have g1 : ¬ 1000000000 < ep2 := by simp at g1; show ¬ 1000000000 < ep2; omega
    rw [if_neg g1] at hs' hb hr
    refine br hD (fun g2 => ?_) (fun g2 => ?_) <;> cbv
    · simp at g2
      exact absurd g2 hok
    rw [if_neg (fun h => h rfl)] at hs' hb hr
    intro f6 hb6
    cbv
    refine ⟨?_, fun f7 n7 h7 => ?_⟩
    · have hl9 : outs2.length ≤ 1001 := (by have : outs2.length ≤ 1000 := hl2; omega); have hn9 := R2.n; subst hD; exact ⟨by simp [dn], by simp [dn]; simp at hn9; omega, by simp [dn]; simp at hn9; omega⟩
    have R7 : Rows encB outs2 n7 f7 := by
      subst hD
      refine ⟨by have := h7.len; have := R2.n; simp [dn] at *; omega, fun i x hx => ?_⟩
      have hlt : i < outs2.length := (List.getElem?_eq_some_iff.1 hx).1
      rw [h7.hi i i (by simp [dn]) (by have := R2.n; simp [dn] at *; omega)]
      exact R2.f i x hx
    cbv
    subst hs' hb hr hD
    exact finV (.tup (.cons (.agg (leSt (s := ⟨w2, fl2, op2, pr2, st2, si2, nw2, ep2, false, outs2, good2, probe2⟩) rfl rfl rfl rfl rfl rfl rfl rfl rfl R7 R' rfl rfl)) (.cons (leBool rfl) (.cons (leInt rfl) .nil))))
  have h24 : ¬ ek = 4 := by simpa using h2
  clear h2
  rw [if_neg (show ¬ (ek = 2 ∨ ek = 3 ∨ ek = 4) by omega)] at hs' hb hr
  clear h1 h22 h23 h24
  rw [lastF] at hs' hb hr
  refine br hD (fun g1 => ?_) (fun g1 => ?_) <;> cbv
  · have g1 : 1000000000 < ep2 := by simpa using g1
    rw [if_pos g1] at hs' hb hr
    subst hD hs' hb hr
    exact finV (.tup (.cons (.agg (leSt (s := zeroBS) rfl rfl rfl rfl rfl rfl rfl rfl rfl ⟨rfl, by intro i x hx; simp [zeroBS] at hx⟩ R' rfl rfl)) (.cons (leBool rfl) (.cons (leInt rfl) .nil))))
  have g1 : ¬ 1000000000 < ep2 := by simp at g1; show ¬ 1000000000 < ep2; omega
  rw [if_neg g1] at hs' hb hr
  refine br hD (fun g2 => ?_) (fun g2 => ?_) <;> cbv
  · simp at g2
    exact absurd g2 hok
  rw [if_neg (fun h => h rfl)] at hs' hb hr
  intro f6 hb6
  cbv
  refine ⟨?_, fun f7 n7 h7 => ?_⟩
  · have hl9 : outs2.length ≤ 1001 := (by have : outs2.length ≤ 1000 := hl2; omega); have hn9 := R2.n; subst hD; exact ⟨by simp [dn], by simp [dn]; simp at hn9; omega, by simp [dn]; simp at hn9; omega⟩
  have R7 : Rows encB outs2 n7 f7 := by
    subst hD
    refine ⟨by have := h7.len; have := R2.n; simp [dn] at *; omega, fun i x hx => ?_⟩
    have hlt : i < outs2.length := (List.getElem?_eq_some_iff.1 hx).1
    rw [h7.hi i i (by simp [dn]) (by have := R2.n; simp [dn] at *; omega)]
    exact R2.f i x hx
  cbv
  subst hs' hb hr hD
  exact finV (.tup (.cons (.agg (leSt (s := ⟨w2, fl2, op2, pr2, st2, si2, nw2, ep2, false, outs2, good2, probe2⟩) rfl rfl rfl rfl rfl rfl rfl rfl rfl R7 R' rfl rfl)) (.cons (leBool rfl) (.cons (leInt rfl) .nil))))
end Go.Proofs.YtkhbbppkghcbeaaDoor
namespace Go.Proofs.YtkhbbppkghcbeaaDoor
open Go.Sx
set_option maxHeartbeats 1000000
theorem openF_turn (s : BS) (a b : Int) (h : True) : openF (turnF s a b) = ⟨s.w, s.fl, s.op, s.pr, a, b, s.now, IntKind.i64.wrap (s.ep + 1), false, [], 0, 0⟩ := rfl
theorem cut_drop (l : List Bool) (g : Bool) (w : Int) (hw : 1 ≤ w) (hl : (l.length : Int) ≤ w) :
    (if w < ((l ++ [g]).length : Int) then (l ++ [g]).drop 1 else l ++ [g]) = (if (l.length : Int) = w then l.drop 1 else l) ++ [g] := by
  by_cases h : (l.length : Int) = w
  · rw [if_pos h, if_pos (by simp; omega), List.drop_append_of_le_length (by omega)]
  · rw [if_neg h, if_neg (by simp; omega)]
theorem ended_end (s : BS) (nl : Bool) (e : BE) (hs : s.st = 0 → (s.outs.length : Int) ≤ s.w ∧ 1 ≤ s.w) (hst : 0 ≤ s.st ∧ s.st ≤ 2) (hgd : s.st = 2 → s.good < s.pr) (hk : e.kind = 2 ∨ e.kind = 3 ∨ e.kind = 4) :
    (endedF s e).2 = (endF ⟨s.w, s.fl, s.op, s.pr, s.st, s.since, s.now, s.ep, nl, s.outs, s.good, s.probe⟩ e).2 ∧
    openF (endedF s e).1 = openF (endF ⟨s.w, s.fl, s.op, s.pr, s.st, s.since, s.now, s.ep, nl, s.outs, s.good, s.probe⟩ e).1 := by
  obtain ⟨w, fl, op, pr, st, si, nw, ep, nl0, outs, good, probe⟩ := s
  obtain ⟨ek, en, ea, ee⟩ := e
  simp only at hs hst hk hgd
  by_cases h0 : st = 0
  · subst h0
    obtain ⟨h1, h2⟩ := hs rfl
    by_cases h4 : ek = 4
    · simp [endedF, endF, h4, openF]
    · have hc := cut_drop outs (ek == 2) w h2 h1
      simp only [endedF, endF, outcomeF, cutF, hc, h4]
      simp only [turnF, openF]
      generalize (if (outs.length : Int) = w then outs.drop 1 else outs) ++ [ek == 2] = l
      by_cases hf : failsF l = fl <;> simp [hf]
  · by_cases h1 : st = 1
    · simp [endedF, endF, h1, openF]
    · have h2 : st = 2 := by omega
      subst h2
      by_cases hp : ea = probe
      · subst hp
        have hgd := hgd rfl
        rcases hk with hk | hk | hk <;> subst hk <;> simp [endedF, endF]
        · split <;> simp_all [openF, turnF]
        · simp [openF, turnF]
        · rw [if_neg (by omega)]
          simp [openF]
      · have hp' : ¬ probe = ea := fun h => hp h.symm
        simp [endedF, endF, hp, hp', openF]
theorem ended_ep (s : BS) (e : BE) (h : (endedF s e).2 ≠ 0) : (endedF s e).1.ep = s.ep := by
  unfold endedF at *
  repeat' split
  all_goals simp_all
theorem rstep_same (s : BS) (e : BE) : (rstepF s e).2 = (stepF s e).2 ∧ openF (rstepF s e).1 = openF (stepF s e).1 := by
  unfold rstepF stepF
  by_cases hc : checkF s = 0
  · obtain ⟨h1, h2⟩ := checkF_ok hc
    have h3 := ccF_ok h1
    simp only [hc, ne_eq, not_true_eq_false, if_false, applyF]
    by_cases he : checkEvF e = 0
    · simp only [he, not_true_eq_false, if_false]
      have he1 : 0 ≤ e.now ∧ e.now ≤ 1000000000000 ∧ 1 ≤ e.kind ∧ e.kind ≤ 5 ∧ (2 ≤ e.kind ∧ e.kind ≤ 4 → e.ep ≤ 1000000000) := by
        unfold checkEvF at he
        repeat' split at he
        all_goals omega
      by_cases hn : e.now < s.now
      · have : e.now < (ownF s).now := hn
        simp [hn, this]
      · have hn' : ¬ e.now < (ownF s).now := hn
        simp only [hn, hn', if_false]
        obtain ⟨w, fl, op, pr, st, si, nw, ep, nl, outs, good, probe⟩ := s
        obtain ⟨ek, en, ea, ee⟩ := e
        simp only [rightF] at h2
        simp only at h3 hn he1
        have w1 : IntKind.i64.wrap (en - si) = en - si := wrap64 (by omega) (by omega)
        have w2 : IntKind.i64.wrap (si + op) = si + op := wrap64 (by omega) (by omega)
        have hp : ∃ (t : BS) (b : Bool), passedF ⟨w, fl, op, pr, st, si, nw, ep, nl, outs, good, probe⟩ en = t ∧ passF (ownF ⟨w, fl, op, pr, st, si, nw, ep, nl, outs, good, probe⟩) en = ⟨t.w, t.fl, t.op, t.pr, t.st, t.since, t.now, t.ep, b, t.outs, t.good, t.probe⟩ ∧
            (t.st = 0 → (t.outs.length : Int) ≤ t.w ∧ 1 ≤ t.w) ∧ (0 ≤ t.st ∧ t.st ≤ 2) ∧ (t.st = 2 → t.good < t.pr) := by
          refine ⟨_, (passF (ownF ⟨w, fl, op, pr, st, si, nw, ep, nl, outs, good, probe⟩) en).nl, rfl, ?_, ?_⟩
          · simp only [passedF, passF, ownF, w1, w2]
            by_cases hst : st = 1 ∧ op ≤ en - si
            · rw [if_pos hst, if_pos (by omega)]; simp [turnF]
            · rw [if_neg hst, if_neg (by omega)]
          · simp only [passedF, w1, w2]
            split
            · simp [turnF]; omega
            · simp only; omega
        obtain ⟨t, b, e1, e2, e3, e4, e5⟩ := hp
        rw [e1, e2]
        clear e1 e2 w1 w2 h1 h2 h3 hc he hn hn'
        have hk5 := he1.2.2
        unfold midF restF
        simp only
        by_cases k1 : ek = 1
        · simp only [k1, if_true, true_and]
          unfold lastF
          simp only
          by_cases g1 : 1000000000 < t.ep
          · simp [g1]
          · by_cases g2 : t.st = 0
            · simp [g1, g2, openF]
            · by_cases g3 : t.st = 2
              · by_cases g4 : t.probe = 0
                · simp [g1, g3, g4, openF]
                · simp [g1, g3, g4, openF]
              · simp [g1, g2, g3, openF]
        · by_cases k5 : ek = 5
          · subst k5
            simp [lastF]
            by_cases g1 : 1000000000 < t.ep <;> simp [g1, openF]
          · have hk : ek = 2 ∨ ek = 3 ∨ ek = 4 := by omega
            have hend := ended_end t b ⟨ek, en, ea, ee⟩ e3 e4 e5 hk
            simp only [k1, k5, hk, if_true, if_false, false_and]
            by_cases g2 : ee = t.ep
            · have g1 : ¬ 1000000000 < t.ep := by omega
              subst g2
              obtain ⟨f1, f2⟩ := hend
              have hf := ended_ep t ⟨ek, en, ea, t.ep⟩
              generalize endedF t ⟨ek, en, ea, t.ep⟩ = x at *
              generalize endF ⟨t.w, t.fl, t.op, t.pr, t.st, t.since, t.now, t.ep, b, t.outs, t.good, t.probe⟩ ⟨ek, en, ea, t.ep⟩ = y at *
              have f3 : (openF x.1).ep = (openF y.1).ep := congrArg BS.ep f2
              have f3 : x.1.ep = y.1.ep := f3
              simp only [g1, if_true, if_false]
              unfold lastF
              rw [← f1, ← f3]
              by_cases f4 : x.2 = 0
              · by_cases f5 : 1000000000 < x.1.ep
                · simp [f4, f5]
                · simp [f4, f5]; exact f2
              · have := hf f4
                simp [f4, this, g1]
            · simp only [g2, if_false, lastF]
              by_cases g1 : 1000000000 < t.ep <;> simp [g1, openF]
    · have he' : checkEvF e ≠ 0 := he
      simp [he]
  · simp [hc]
end Go.Proofs.YtkhbbppkghcbeaaDoor
namespace Go.Proofs.YtkhbbppkghcbeaaDoor
open Go.Sx
set_option maxRecDepth 10000
set_option maxHeartbeats 1000000
theorem rnew_ok : FnOk Tryd.prog gl 20 spNew := by
  refine fnOk (gh := []) mixed cxOk (tabCons rcc_ok tabNil) Tryd.func20 (by kernel_rfl) (by kernel_rfl) ?_
  intro xs ls K h
  unfold spNew at h
  obtain ⟨a, b, c, d, rfl, rfl, h⟩ := h
  obtain ⟨s', hs'⟩ : ∃ s', s' = (newF a b c d).1 := ⟨_, rfl⟩
  obtain ⟨r, hr⟩ : ∃ r, r = (newF a b c d).2 := ⟨_, rfl⟩
  obtain ⟨n', f', R'⟩ : ∃ n' f', Rows encB s'.outs n' f' := ⟨_, _, rowF_ok _⟩
  refine ⟨_, _, h s' r n' f' hs' hr R', fun D hD => ?_⟩
  clear h
  cbv
  refine ⟨_, _, _, _, rfl, rfl, fun c1 hc => ?_⟩
  have hc : c1 = ccF a b c d := by subst hD; exact hc
  cbv
  refine br hD (fun h => ?_) (fun h => ?_) <;> cbv
  · simp at h
    rw [newF, ← hc, if_pos h] at hs' hr
    subst hD hs' hr
    exact finV (.tup (.cons (.agg (leSt (s := zeroBS) rfl rfl rfl rfl rfl rfl rfl rfl rfl ⟨rfl, by intro i x hx; simp [zeroBS] at hx⟩ R' rfl rfl)) (.cons (leInt rfl) .nil)))
  · simp at h
    rw [newF, ← hc, if_neg (by omega)] at hs' hr
    subst hD hs' hr
    exact finV (.tup (.cons (.agg (leSt (s := ⟨a, b, c, d, 0, 0, 0, 1, true, [], 0, 0⟩) rfl rfl rfl rfl rfl rfl rfl rfl rfl ⟨rfl, by intro i x hx; simp at hx⟩ R' rfl rfl)) (.cons (leInt rfl) .nil)))
theorem rnext_ok : FnOk Tryd.prog gl 22 spNext := by
  refine fnOk (gh := []) mixed cxOk (tabCons rcheck_ok tabNil) Tryd.func22 (by kernel_rfl) (by kernel_rfl) ?_
  intro xs ls K h
  unfold spNext at h
  obtain ⟨⟨w, fl, op, pr, st, si, nw, ep, nl, outs, good, probe⟩, n, f, rfl, rfl, R, hl, h⟩ := h
  obtain ⟨x, hx⟩ : ∃ x, x = (nextF ⟨w, fl, op, pr, st, si, nw, ep, nl, outs, good, probe⟩).1 := ⟨_, rfl⟩
  obtain ⟨r, hr⟩ : ∃ r, r = (nextF ⟨w, fl, op, pr, st, si, nw, ep, nl, outs, good, probe⟩).2 := ⟨_, rfl⟩
  refine ⟨_, _, h x r hx hr, fun D hD => ?_⟩
  clear h
  cbv
  refine ⟨⟨_, _, _, _, _, _, _, _, _, outs, _, _⟩, _, _, rfl, rfl, by subst hD; exact R, hl, fun c hc => ?_⟩
  have hc : c = checkF ⟨w, fl, op, pr, st, si, nw, ep, nl, outs, good, probe⟩ := by subst hD; exact hc
  rw [nextF, ← hc] at hx hr
  clear hc
  cbv
  refine br hD (fun h => ?_) (fun h => ?_) <;> cbv
  · simp at h
    rw [if_neg (by omega), if_pos (by show st ≠ 1; omega)] at hx hr
    subst hD hx hr
    exact finV (.tup (.cons (leInt rfl) (.cons (leInt rfl) .nil)))
  simp at h
  refine br hD (fun h2 => ?_) (fun h2 => ?_) <;> cbv
  · simp at h2
    rw [if_pos h2] at hx hr
    subst hD hx hr
    exact finV (.tup (.cons (leInt rfl) (.cons (leInt rfl) .nil)))
  · simp at h2
    rw [if_neg (by omega), if_neg (by show ¬ st ≠ 1; omega)] at hx hr
    subst hD hx hr
    exact finV (.tup (.cons (leInt rfl) (.cons (leInt rfl) .nil)))
theorem rshare_ok : FnOk Tryd.prog gl 24 spShare := by
  refine fnOk (gh := []) mixed cxOk (tabCons rcheck_ok (tabCons failures_ok tabNil)) Tryd.func24 (by kernel_rfl) (by kernel_rfl) ?_
  intro xs ls K h
  unfold spShare at h
  obtain ⟨⟨w, fl, op, pr, st, si, nw, ep, nl, outs, good, probe⟩, n, f, rfl, rfl, R, hl, h⟩ := h
  obtain ⟨x, hx⟩ : ∃ x, x = (shareF ⟨w, fl, op, pr, st, si, nw, ep, nl, outs, good, probe⟩).1 := ⟨_, rfl⟩
  obtain ⟨y, hy⟩ : ∃ y, y = (shareF ⟨w, fl, op, pr, st, si, nw, ep, nl, outs, good, probe⟩).2.1 := ⟨_, rfl⟩
  obtain ⟨r, hr⟩ : ∃ r, r = (shareF ⟨w, fl, op, pr, st, si, nw, ep, nl, outs, good, probe⟩).2.2 := ⟨_, rfl⟩
  refine ⟨_, _, h x y r hx hy hr, fun D hD => ?_⟩
  clear h
  cbv
  refine ⟨⟨_, _, _, _, _, _, _, _, _, outs, _, _⟩, _, _, rfl, rfl, by subst hD; exact R, hl, fun c hc => ?_⟩
  have hc : c = checkF ⟨w, fl, op, pr, st, si, nw, ep, nl, outs, good, probe⟩ := by subst hD; exact hc
  cbv
  refine br hD (fun h => ?_) (fun h => ?_) <;> cbv
  · simp at h
    rw [shareF, ← hc, if_pos h] at hx hy hr
    subst hD hx hy hr
    exact finV (.tup (.cons (leInt rfl) (.cons (leInt rfl) (.cons (leInt rfl) .nil))))
  simp at h
  rw [shareF, ← hc, if_neg (by omega)] at hx hy hr
  refine ⟨_, _, _, outs, rfl, rfl, by subst hD; exact R, by have : outs.length ≤ 1000000 := hl; omega, fun c2 hc2 => ?_⟩
  cbv
  have hn := R.n
  subst hD hx hy hr hc2
  exact finV (.tup (.cons (leInt rfl) (.cons (leInt hn) (.cons (leInt rfl) .nil))))
end Go.Proofs.YtkhbbppkghcbeaaDoor
namespace Go.Proofs.YtkhbbppkghcbeaaDoor
open Go.Sx
set_option maxRecDepth 10000
set_option maxHeartbeats 1000000
def spSame : FSpec := fun _ xs ls K => ∃ (s t : BS) (n : Int) (f : Nat → List SV) (m : Int) (g : Nat → List SV), xs = [.agg (stC s n f), .agg (stC t m g)] ∧ ls = [] ∧ Rows encB s.outs n f ∧ Rows encB t.outs m g ∧ s.outs.length ≤ 1000000 ∧ openF s = openF t ∧ K (.bool (.a true)) []
structure IInv (l : Nat) (i : Nat) (I : Int) (m : Nat) : Prop where
  le : i ≤ l
  I : I = i
  m : m = l - i
def sameJ (s t : BS) (n : Int) (f : Nat → List SV) (k : Int) (g : Nat → List SV) (m : Nat) (vs : List (Option SV)) (hp : List Hl) : Prop :=
  ∃ (i : Nat) (I : Int), vs = [some (.ptr 0 0), some (.ptr 1 0), some (.int .i64 (.a I))] ∧ hp = [.blk 26 (stC s n f), .blk 26 (stC t k g)] ∧ IInv s.outs.length i I m
theorem same_ok : FnOk Tryd.prog gl 15 spSame := by
  refine fnOk (gh := []) mixed cxOk tabNil Tryd.func15 (by kernel_rfl) (by kernel_rfl) ?_
  intro xs ls K h
  unfold spSame at h
  obtain ⟨⟨w, fl, op, pr, st, si, nw, ep, nl, outs, good, probe⟩, ⟨w2, fl2, op2, pr2, st2, si2, nw2, ep2, nl2, outs2, good2, probe2⟩, n, f, k, g, rfl, rfl, R, R2, hl, he, h⟩ := h
  simp only [openF, BS.mk.injEq] at he
  obtain ⟨rfl, rfl, rfl, rfl, rfl, rfl, rfl, rfl, -, rfl, rfl, rfl⟩ := he
  refine ⟨_, _, h, fun D hD => ?_⟩
  clear h
  have hnk : n = k := R.n.trans R2.n.symm
  subst hnk
  cbv
  refine br hD (fun h => ?_) (fun h => ?_) <;> cbv
  · simp at h
  clear h
  obtain ⟨J, hJ⟩ : ∃ J, J = sameJ ⟨w, fl, op, pr, st, si, nw, ep, nl, outs, good, probe⟩ ⟨w, fl, op, pr, st, si, nw, ep, nl2, outs, good, probe⟩ n f n g := ⟨_, rfl⟩
  refine ⟨[2, 3, 5], J, ⟨rfl, outs.length, ?_⟩, ?_⟩
  · cbv
    rw [hJ]
    subst hD
    exact ⟨0, _, rfl, rfl, ⟨Nat.zero_le _, rfl, rfl⟩⟩
  intro m vs hp h
  rw [hJ] at h
  unfold sameJ at h
  obtain ⟨i, I, rfl, rfl, V⟩ := h
  cbv
  refine br hD (fun h => ?_) (fun h => ?_) <;> cbv
  · have hlt : i < outs.length := by simp at h; have := V.I; have := R.n; simp at this; omega
    refine ⟨?_, fun j hj => ?_⟩
    · have hn := R.n; have hI := V.I; subst hD; exact ⟨by simp [dn]; omega, by simp [dn]; simp at hn; omega⟩
    have hji : j = i := by have := isJ hD hj; have := V.I; omega
    have hfi := R.f i outs[i] (List.getElem?_eq_getElem hlt)
    have hgi := R2.f i outs[i] (List.getElem?_eq_getElem hlt)
    generalize outs[i] = b at hfi hgi
    clear hj
    subst hji
    cbv
    rw [hfi, encB]
    cbv
    refine ⟨?_, fun j2 hj2 => ?_⟩
    · have hn := R.n; have hI := V.I; subst hD; exact ⟨by simp [dn]; omega, by simp [dn]; simp at hn; omega⟩
    have hji : j2 = j := by have := isJ hD hj2; have := V.I; omega
    subst hji
    cbv
    rw [hgi, encB]
    cbv
    refine br hD (fun h => ?_) (fun h => ?_) <;> cbv
    · simp at h
    refine ⟨outs.length - (j2 + 1), ?_, ?_⟩
    · have := V.m; simp at this; omega
    cbv
    rw [hJ]
    subst hD
    refine ⟨j2 + 1, _, rfl, rfl, ⟨hlt, ?_, rfl⟩⟩
    have h3 := V.I
    have : outs.length ≤ 1000000 := hl
    simp [dn]
    rw [wrap64 (by omega) (by omega)]; omega
  · refine finBool hD ?_
    simp [BT.den, cmpDen]
end Go.Proofs.YtkhbbppkghcbeaaDoor
