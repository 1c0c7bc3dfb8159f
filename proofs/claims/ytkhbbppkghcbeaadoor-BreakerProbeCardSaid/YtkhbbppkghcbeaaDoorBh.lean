/- Part of the proofs of the statements about the breaker (layer 17): contracts of functions; it has no conditions of its own. -/
import Derived.Test.YtkhbbppkghcbeaaDoorBg
import Derived.Test.YtkhbbppkghcbeaaDoorBf
set_option linter.unusedVariables false
set_option linter.unusedSimpArgs false
namespace Go.Proofs.YtkhbbppkghcbeaaDoor
open Go.Sx
set_option maxRecDepth 10000
set_option maxHeartbeats 2000000
/-- A flight: attempt, epoch. -/
abbrev Fl := Int × Int
def cntF (l : List Fl) (e : Int) : Int := ((l.filter fun a => a.2 == e).length : Nat)
theorem cntF_app (l m : List Fl) (e : Int) : cntF (l ++ m) e = cntF l e + cntF m e := by simp [cntF]
theorem cntF_nn (l : List Fl) (e : Int) : 0 ≤ cntF l e := by simp [cntF]
theorem cntF_le (l : List Fl) (e : Int) : cntF l e ≤ l.length := by have := List.length_filter_le (fun a : Fl => a.2 == e) l; simp only [cntF]; omega
theorem cntF_zero {l : List Fl} {e : Int} (h : ∀ a ∈ l, a.2 ≠ e) : cntF l e = 0 := by
  have : l.filter (fun a => a.2 == e) = [] := by
    rw [List.filter_eq_nil_iff]
    intro a ha
    simpa using h a ha
  simp [cntF, this]
theorem cntF_one (a : Fl) (e : Int) : cntF [a] e = if a.2 = e then 1 else 0 := by
  simp only [cntF, List.filter_cons, List.filter_nil]
  by_cases h : a.2 = e <;> simp [h]
def outF (l : List Fl) (k : Nat) : List Fl := l.take k ++ l.drop (k + 1)
theorem outF_cnt (l : List Fl) (k : Nat) (a : Fl) (h : l[k]? = some a) (e : Int) : cntF (outF l k) e + (if a.2 = e then 1 else 0) = cntF l e := by
  have hk : k < l.length := (List.getElem?_eq_some_iff.1 h).1
  have hl : l = l.take k ++ [a] ++ l.drop (k + 1) := by
    have h1 : l.take (k + 1) = l.take k ++ [a] := by rw [List.take_add_one, h]; rfl
    rw [← h1, List.take_append_drop]
  have h2 : cntF l e = cntF (l.take k) e + cntF [a] e + cntF (l.drop (k + 1)) e := by
    rw [← cntF_app, ← cntF_app, ← hl]
  rw [h2, outF, cntF_app, cntF_one]
  omega
theorem outF_mem {l : List Fl} {k : Nat} {a : Fl} (h : a ∈ outF l k) : a ∈ l := by
  rcases List.mem_append.1 h with h | h
  · exact List.mem_of_mem_take h
  · exact List.mem_of_mem_drop h
structure PInv (i : Int) (s : BS) (air : List Fl) : Prop where
  good : Good s
  ep : s.ep ≤ 2 * i + 1
  mem : ∀ a ∈ air, 1 ≤ a.1 ∧ a.1 ≤ i ∧ 1 ≤ a.2 ∧ a.2 ≤ s.ep
  opn : s.st = 1 → ∀ a ∈ air, a.2 ≠ s.ep
  half : s.st = 2 → cntF air s.ep ≤ 1 ∧ ∀ a ∈ air, a.2 = s.ep → a.1 = s.probe
  len : (air.length : Int) ≤ i
theorem PInv.own {i : Int} {s : BS} {air : List Fl} (h : PInv i s air) : PInv i (ownF s) air := ⟨h.good, h.ep, h.mem, h.opn, h.half, h.len⟩
/-- Time passes. -/
theorem PInv.pass {i : Int} {s : BS} {air : List Fl} (h : PInv i s air) (hi : 0 ≤ i) (hi2 : i ≤ 1000) {now : Int} (h1 : s.now ≤ now) (h2 : now ≤ 1000000000000) :
    Good (passF s now) ∧ (passF s now).now = now ∧ s.ep ≤ (passF s now).ep ∧ (passF s now).ep ≤ 2 * i + 2 ∧ (∀ a ∈ air, a.2 ≤ (passF s now).ep) ∧
    ((passF s now).st = 1 → ∀ a ∈ air, a.2 ≠ (passF s now).ep) ∧
    ((passF s now).st = 2 → cntF air (passF s now).ep ≤ 1 ∧ ∀ a ∈ air, a.2 = (passF s now).ep → a.1 = (passF s now).probe) := by
  have hg := h.good
  obtain ⟨hc, hr⟩ := hg
  simp only [rightF] at hr
  have hep := h.ep
  by_cases g : s.st = 1 ∧ IntKind.i64.wrap (s.since + s.op) ≤ now
  · have hp : passF s now = turnF ⟨s.w, s.fl, s.op, s.pr, s.st, s.since, now, s.ep, s.nl, s.outs, s.good, s.probe⟩ 2 (IntKind.i64.wrap (s.since + s.op)) := if_pos g
    have w1 : IntKind.i64.wrap (s.ep + 1) = s.ep + 1 := wrap64 (by omega) (by omega)
    have hne : ¬ 1000000000 < (passF s now).ep := by rw [hp]; simp only [turnF, w1]; omega
    refine ⟨pass_good h.good h1 h2 hne, by rw [hp]; rfl, ?_⟩
    rw [hp]
    simp only [turnF, w1]
    have hlt : ∀ a ∈ air, a.2 ≠ s.ep + 1 := fun a ha => by have := (h.mem a ha).2.2.2; omega
    refine ⟨by omega, by omega, fun a ha => by have := (h.mem a ha).2.2.2; omega, fun h => by omega, fun _ => ⟨by rw [cntF_zero hlt]; omega, fun a ha e => absurd e (hlt a ha)⟩⟩
  · have hp := passF_no g
    have hne : ¬ 1000000000 < (passF s now).ep := by rw [hp]; simp only; omega
    refine ⟨pass_good h.good h1 h2 hne, by rw [hp], ?_⟩
    rw [hp]
    simp only
    exact ⟨by omega, by omega, fun a ha => (h.mem a ha).2.2.2, h.opn, h.half⟩
theorem step_apply {s : BS} (hg : Good s) (e : BE) (h : (applyF (ownF s) e).2.2 = 0) : stepF s e = ((applyF (ownF s) e).1, (applyF (ownF s) e).2.1, 0) := by
  unfold stepF
  rw [if_neg (by simpa using (good_iff s).2 hg), if_neg (by simpa using h)]
theorem probe_ask {i : Int} {s : BS} {air : List Fl} (h : PInv i s air) (hi : 0 ≤ i) (hi2 : i ≤ 1000) {now : Int} (h1 : s.now ≤ now) (h2 : now ≤ 1000000000000) :
    (stepF s ⟨1, now, i + 1, 0⟩).2.2 = 0 ∧ ((stepF s ⟨1, now, i + 1, 0⟩).2.1 = true → (stepF s ⟨1, now, i + 1, 0⟩).1.st ≠ 1) ∧ (stepF s ⟨1, now, i + 1, 0⟩).1.now = now ∧
    PInv (i + 1) (stepF s ⟨1, now, i + 1, 0⟩).1 (if (stepF s ⟨1, now, i + 1, 0⟩).2.1 = true then air ++ [(i + 1, (stepF s ⟨1, now, i + 1, 0⟩).1.ep)] else air) := by
  have hg := h.good
  have h0 : 0 ≤ s.now := by have := hg.2; simp only [rightF] at this; omega
  have he : checkEvF ⟨1, now, i + 1, 0⟩ = 0 := by
    unfold checkEvF; simp only; repeat' split
    all_goals omega
  obtain ⟨p1, p2, p3, p4, p5, p6, p7⟩ := h.own.pass hi hi2 (now := now) h1 h2
  have happ : applyF (ownF s) ⟨1, now, i + 1, 0⟩ = restF (passF (ownF s) now) ⟨1, now, i + 1, 0⟩ := by
    unfold applyF
    rw [if_neg (by simpa using he), if_neg (by simp only [ownF]; omega)]
  have hair := h.mem
  have hlen := h.len
  have hep0 : (ownF s).ep = s.ep := rfl
  rw [hep0] at p3
  generalize passF (ownF s) now = t at *
  have hge : ∀ (u : BS) (b : Bool), restF t ⟨1, now, i + 1, 0⟩ = (u, b, 0) → Good u → (b = true → u.st ≠ 1) → u.now = now → PInv (i + 1) u (if b = true then air ++ [(i + 1, u.ep)] else air) →
      (stepF s ⟨1, now, i + 1, 0⟩).2.2 = 0 ∧ ((stepF s ⟨1, now, i + 1, 0⟩).2.1 = true → (stepF s ⟨1, now, i + 1, 0⟩).1.st ≠ 1) ∧ (stepF s ⟨1, now, i + 1, 0⟩).1.now = now ∧
      PInv (i + 1) (stepF s ⟨1, now, i + 1, 0⟩).1 (if (stepF s ⟨1, now, i + 1, 0⟩).2.1 = true then air ++ [(i + 1, (stepF s ⟨1, now, i + 1, 0⟩).1.ep)] else air) := by
    intro u b hr hgu hb hn hp
    have hs := step_apply hg ⟨1, now, i + 1, 0⟩ (by rw [happ, hr])
    rw [happ, hr] at hs
    rw [hs]
    exact ⟨rfl, hb, hn, hp⟩
  have hlt : ¬ 1000000000 < t.ep := by omega
  have hin : ∀ a ∈ air, 1 ≤ a.1 ∧ a.1 ≤ i + 1 ∧ 1 ≤ a.2 ∧ a.2 ≤ t.ep := fun a ha => by have := hair a ha; have := p5 a ha; omega
  have hep1 : 1 ≤ t.ep := by have := p1.2; simp only [rightF] at this; omega
  have hinc : ∀ a ∈ air ++ [(i + 1, t.ep)], 1 ≤ a.1 ∧ a.1 ≤ i + 1 ∧ 1 ≤ a.2 ∧ a.2 ≤ t.ep := by
    intro a ha
    rcases List.mem_append.1 ha with ha | ha
    · exact hin a ha
    · simp at ha; subst ha; simp only; omega
  by_cases g2 : t.st = 2
  · by_cases g3 : t.probe ≠ 0
    · refine hge t false ?_ p1 (fun h => by cases h) p2 ?_
      · unfold restF
        rw [if_neg hlt, if_neg (by simp), if_pos ⟨rfl, g2⟩, if_pos g3]
      · exact ⟨p1, by omega, hin, p6, p7, by simp only [Bool.false_eq_true, if_false]; omega⟩
    · have hnone : ∀ a ∈ air, a.2 ≠ t.ep := fun a ha e => by
        have h3 := (p7 g2).2 a ha e
        have h4 := (hair a ha).1
        omega
      have hgu : Good ⟨t.w, t.fl, t.op, t.pr, t.st, t.since, t.now, t.ep, t.nl, t.outs, t.good, i + 1⟩ := by
        obtain ⟨hc, hr⟩ := p1
        refine ⟨hc, ?_⟩
        simp only [rightF] at hr ⊢
        omega
      refine hge _ true ?_ hgu (fun _ => by show t.st ≠ 1; omega) p2 ?_
      · unfold restF
        rw [if_neg hlt, if_neg (by simp), if_pos ⟨rfl, g2⟩, if_neg g3]
      · refine ⟨hgu, by show t.ep ≤ _; omega, hinc, fun h => by have : t.st = 1 := h; omega, fun _ => ⟨?_, ?_⟩, by simp; omega⟩
        · show cntF (air ++ [(i + 1, t.ep)]) t.ep ≤ 1
          rw [cntF_app, cntF_zero hnone, cntF_one, if_pos rfl]; omega
        · intro a ha e
          rcases List.mem_append.1 ha with ha | ha
          · exact absurd e (hnone a ha)
          · simp at ha; subst ha; rfl
  · by_cases g0 : t.st = 0
    · refine hge t true ?_ p1 (fun _ => by omega) p2 ?_
      · unfold restF
        rw [if_neg hlt, if_neg (by simp), if_neg (by simp [g2]), if_pos rfl]
        simp [g0]
      · exact ⟨p1, by omega, hinc, fun h => by omega, fun h => absurd h g2, by simp; omega⟩
    · refine hge t false ?_ p1 (fun h => by cases h) p2 ?_
      · unfold restF
        rw [if_neg hlt, if_neg (by simp), if_neg (by simp [g2]), if_pos rfl]
        simp [g0]
      · exact ⟨p1, by omega, hin, p6, fun h => absurd h g2, by simp only [Bool.false_eq_true, if_false]; omega⟩
end Go.Proofs.YtkhbbppkghcbeaaDoor
namespace Go.Proofs.YtkhbbppkghcbeaaDoor
open Go.Sx
set_option maxRecDepth 10000
set_option maxHeartbeats 2000000
/-- What the end of an attempt does, besides being let. -/
theorem end_ways {t : BS} {e : BE} (hg : Good t) (hep : t.ep ≤ 2100) (hk : e.kind = 2 ∨ e.kind = 3 ∨ e.kind = 4) (h1 : t.st ≠ 1) (h2 : t.st = 2 → e.att = t.probe) :
    (endF t e).2 = 0 ∧ (endF t e).1.now = t.now ∧ ((endF t e).1.ep = t.ep + 1 ∨ ((endF t e).1.ep = t.ep ∧ (endF t e).1.st = t.st)) ∧ ((endF t e).1.st = 1 → (endF t e).1.ep = t.ep + 1) := by
  obtain ⟨hc, hr⟩ := hg
  simp only [rightF] at hr
  have w1 : IntKind.i64.wrap (t.ep + 1) = t.ep + 1 := wrap64 (by omega) (by omega)
  unfold endF
  by_cases g0 : t.st = 0
  · rw [if_pos g0]
    by_cases g4 : e.kind = 4
    · rw [if_pos g4]
      exact ⟨rfl, rfl, .inr ⟨rfl, rfl⟩, fun h => absurd h h1⟩
    · rw [if_neg g4, outcomeF_eq t (e.kind == 2) _ rfl]
      generalize (if (t.outs.length : Int) = t.w then t.outs.drop 1 else t.outs) ++ [e.kind == 2] = q
      by_cases gq : failsF q = t.fl
      · rw [if_pos gq]
        simp only [turnF, w1]
        exact ⟨trivial, trivial, .inl trivial, fun _ => trivial⟩
      · rw [if_neg gq]
        exact ⟨rfl, rfl, .inr ⟨rfl, rfl⟩, fun h => absurd h h1⟩
  · have g2 : t.st = 2 := by omega
    have ha := h2 g2
    rw [if_neg g0, if_neg (by omega)]
    by_cases g3 : e.kind = 3
    · rw [if_pos g3]
      simp only [turnF, w1]
      exact ⟨trivial, trivial, .inl trivial, fun _ => trivial⟩
    · rw [if_neg g3]
      simp only
      generalize (if e.kind = 2 then IntKind.i64.wrap (t.good + 1) else t.good) = q
      by_cases gq : q = t.pr
      · rw [if_pos gq]
        simp only [turnF, w1]
        exact ⟨trivial, trivial, .inl trivial, fun h => by simp at h⟩
      · rw [if_neg gq]
        exact ⟨rfl, rfl, .inr ⟨rfl, rfl⟩, fun h => absurd h h1⟩
theorem probe_end {i : Int} {s : BS} {air : List Fl} (h : PInv i s air) (hi : 0 ≤ i) (hi2 : i ≤ 1000) {now : Int} (h1 : s.now ≤ now) (h2 : now ≤ 1000000000000) {k : Nat} {a : Fl} (ha : air[k]? = some a) {q : Int} (hq : q = 2 ∨ q = 3 ∨ q = 4) :
    (stepF s ⟨q, now, a.1, a.2⟩).2.2 = 0 ∧ (stepF s ⟨q, now, a.1, a.2⟩).2.1 = false ∧ (stepF s ⟨q, now, a.1, a.2⟩).1.now = now ∧ PInv (i + 1) (stepF s ⟨q, now, a.1, a.2⟩).1 (outF air k) := by
  have hg := h.good
  have h0 : 0 ≤ s.now := by have := hg.2; simp only [rightF] at this; omega
  have hma := h.mem a (List.mem_of_getElem? ha)
  have hsep := h.ep
  have he : checkEvF ⟨q, now, a.1, a.2⟩ = 0 := by
    unfold checkEvF; simp only; repeat' split
    all_goals omega
  obtain ⟨p1, p2, p3, p4, p5, p6, p7⟩ := h.own.pass hi hi2 (now := now) h1 h2
  have happ : applyF (ownF s) ⟨q, now, a.1, a.2⟩ = restF (passF (ownF s) now) ⟨q, now, a.1, a.2⟩ := by
    unfold applyF
    rw [if_neg (by simpa using he), if_neg (by simp only [ownF]; omega)]
  have hair := h.mem
  have hlen := h.len
  have hep0 : (ownF s).ep = s.ep := rfl
  rw [hep0] at p3
  generalize passF (ownF s) now = t at *
  have hk : k < air.length := (List.getElem?_eq_some_iff.1 ha).1
  have hol : ((outF air k).length : Int) ≤ i + 1 := by simp [outF]; omega
  have hep1 : 1 ≤ t.ep := by have := p1.2; simp only [rightF] at this; omega
  have hge : ∀ (u : BS), restF t ⟨q, now, a.1, a.2⟩ = (u, false, 0) → Good u → u.now = now → u.ep ≤ 2 * i + 3 → t.ep ≤ u.ep → (u.st = 1 → ∀ x ∈ outF air k, x.2 ≠ u.ep) →
      (u.st = 2 → cntF (outF air k) u.ep ≤ 1 ∧ ∀ x ∈ outF air k, x.2 = u.ep → x.1 = u.probe) →
      (stepF s ⟨q, now, a.1, a.2⟩).2.2 = 0 ∧ (stepF s ⟨q, now, a.1, a.2⟩).2.1 = false ∧ (stepF s ⟨q, now, a.1, a.2⟩).1.now = now ∧ PInv (i + 1) (stepF s ⟨q, now, a.1, a.2⟩).1 (outF air k) := by
    intro u hr hgu hn hue hte ho hh
    have hs := step_apply hg ⟨q, now, a.1, a.2⟩ (by rw [happ, hr])
    rw [happ, hr] at hs
    rw [hs]
    refine ⟨rfl, rfl, hn, ⟨hgu, by simp only; omega, fun x hx => ?_, ho, hh, hol⟩⟩
    have hm := outF_mem hx
    have := hair x hm; have := p5 x hm
    simp only; omega
  have hlt : ¬ 1000000000 < t.ep := by omega
  have hcnt := outF_cnt air k a ha
  by_cases g : a.2 = t.ep
  · have ho1 : t.st ≠ 1 := fun h => p6 h a (List.mem_of_getElem? ha) g
    have hp2 : t.st = 2 → a.1 = t.probe := fun h => (p7 h).2 a (List.mem_of_getElem? ha) g
    obtain ⟨e1, e2, e3, e4⟩ := end_ways (e := ⟨q, now, a.1, a.2⟩) p1 (by omega) hq ho1 hp2
    have hne : ¬ 1000000000 < (endF t ⟨q, now, a.1, a.2⟩).1.ep := by omega
    have hgd := end_good (e := ⟨q, now, a.1, a.2⟩) p1 e1 hne
    have hr : restF t ⟨q, now, a.1, a.2⟩ = ((endF t ⟨q, now, a.1, a.2⟩).1, false, 0) := by
      unfold restF
      simp only
      rw [if_neg hlt, if_neg (by omega), if_neg (by omega), if_neg (by omega), if_pos g, if_neg (by simp [e1]), if_neg hne]
    have hz : t.st = 2 → cntF (outF air k) t.ep = 0 := fun h => by
      have h3 := (p7 h).1
      have h4 := hcnt t.ep
      rw [if_pos g] at h4
      have := cntF_nn (outF air k) t.ep
      omega
    refine hge _ hr hgd (by rw [e2]; exact p2) (by omega) (by omega) (fun h5 x hx => ?_) (fun h5 => ?_)
    · have := p5 x (outF_mem hx); have := e4 h5; omega
    · rcases e3 with e3 | ⟨e3, e5⟩
      · have hlt2 : ∀ x ∈ outF air k, x.2 ≠ (endF t ⟨q, now, a.1, a.2⟩).1.ep := fun x hx => by have := p5 x (outF_mem hx); omega
        exact ⟨by rw [cntF_zero hlt2]; omega, fun x hx e => absurd e (hlt2 x hx)⟩
      · rw [e5] at h5
        have h6 := hz h5
        rw [e3]
        refine ⟨by omega, fun x hx e => ?_⟩
        exfalso
        have : cntF (outF air k) t.ep ≠ 0 := by
          intro h0
          simp only [cntF] at h0
          have h7 : (outF air k).filter (fun a => a.2 == t.ep) = [] := List.eq_nil_of_length_eq_zero (by omega)
          rw [List.filter_eq_nil_iff] at h7
          have := h7 x hx
          simp at this
          exact this e
        exact this h6
  · have hr : restF t ⟨q, now, a.1, a.2⟩ = (t, false, 0) := by
      unfold restF
      simp only
      rw [if_neg hlt, if_neg (by omega), if_neg (by omega), if_neg (by omega), if_neg g]
    refine hge t hr p1 p2 (by omega) (by omega) (fun h5 x hx => p6 h5 x (outF_mem hx)) (fun h5 => ⟨?_, fun x hx => (p7 h5).2 x (outF_mem hx)⟩)
    have h4 := hcnt t.ep
    rw [if_neg g] at h4
    have := (p7 h5).1
    omega
end Go.Proofs.YtkhbbppkghcbeaaDoor
namespace Go.Proofs.YtkhbbppkghcbeaaDoor
open Go.Sx
set_option maxRecDepth 10000
set_option maxHeartbeats 40000000
structure TU where
  wait : Int
  what : Int
  which : Int
  h : (0 ≤ wait ∧ wait ≤ 65535) ∧ (0 ≤ what ∧ what ≤ 255) ∧ (0 ≤ which ∧ which ≤ 255)
def tuC (t : TU) : List SV := [.int .u16 (.a t.wait), .int .u8 (.a t.what), .int .u8 (.a t.which)]
def flC (a : Fl) : List SV := [.int .i64 (.a a.1), .int .i64 (.a a.2)]
structure PrI (l : List TU) (i : Nat) (I : Int) (s : BS) (n : Int) (f : Nat → List SV) (air : List Fl) (N : Int) (F : Nat → List SV) (m : Nat) : Prop where
  le : i ≤ l.length
  I : I = i
  inv : PInv i s air
  R : Rows encB s.outs n f
  A : Rows flC air N F
  m : m = l.length - i
def prJ (w fl op pr : Int) (l : List TU) (nl0 : Bool) (n0 : Int) (f0 : Nat → List SV) (m : Nat) (vs : List (Option SV)) (hp : List Hl) : Prop :=
  ∃ (i : Nat) (I : Int) (s : BS) (n : Int) (f : Nat → List SV) (air : List Fl) (nlA : Bool) (N : Int) (F : Nat → List SV), vs = [some (.sl (.a nl0) (.a n0) 3 f0), some (.ptr 1 0), some (.gsl (.a nlA) (.a N) 2 F 2), some (.int .i64 (.a I))] ∧
    hp = [.blk 23 [.int .i64 (.a w), .int .i64 (.a fl), .int .i64 (.a op), .int .i64 (.a pr)], .blk 26 (stC s n f), .tail 50 (.a N) 2] ∧ PrI l i I s n f air N F m
structure CnI (air : List Fl) (e : Int) (k : Nat) (K c : Int) (m : Nat) : Prop where
  le : k ≤ air.length
  K : K = k
  c : c = cntF (air.take k) e
  m : m = air.length - k
def cnJ (w fl op pr : Int) (nl0 : Bool) (n0 : Int) (f0 : Nat → List SV) (I : Int) (s : BS) (n : Int) (f : Nat → List SV) (air : List Fl) (N : Int) (F : Nat → List SV) (t : BS) (n3 : Int) (f3 : Nat → List SV) (rest : List Hl) (m : Nat) (vs : List (Option SV)) (hp : List Hl) : Prop :=
  ∃ (k : Nat) (nb : Bool) (K c x1 x2 x3 x4 : Int), vs = [some (.sl (.a nl0) (.a n0) 3 f0), some (.ptr 1 0), some (.gsl (.a nb) (.a N) 2 F 2), some (.int .i64 (.a I)), some (.ptr 4 0), some (.int .i64 (.a c)), some (.int .i64 (.a K))] ∧
    hp = .blk 23 [.int .i64 (.a w), .int .i64 (.a fl), .int .i64 (.a op), .int .i64 (.a pr)] :: .blk 26 (stC s n f) :: .tail 50 (.a N) 2 :: .blk 38 [.int .i64 (.a x1), .int .i64 (.a x2), .int .i64 (.a x3), .int .i64 (.a x4)] :: .blk 26 (stC t n3 f3) :: rest ∧ CnI air t.ep k K c m
theorem cnt_step (l : List Fl) (k : Nat) (a : Fl) (e : Int) (h : l[k]? = some a) : cntF (l.take (k + 1)) e = cntF (l.take k) e + if a.2 = e then 1 else 0 := by
  rw [List.take_add_one, h]
  simp only [Option.toList_some]
  rw [cntF_app, cntF_one]
theorem good_len {s : BS} (h : Good s) : s.outs.length ≤ 64 := by
  have h1 := ccF_ok h.1
  have h2 := h.2
  simp only [rightF] at h2
  omega
theorem rows_sub {α : Type} {enc : α → List SV} {l : List α} {n n' : Int} {f f' : Nat → List SV} (R : Rows enc l n f) {a b : Nat} (h : SubRow f' n' f a b) (hab : a ≤ b) (hb : b ≤ l.length) : Rows enc ((l.take b).drop a) n' f' := by
  refine ⟨by have := h.len; simp; omega, fun i x hx => ?_⟩
  rw [List.getElem?_drop, List.getElem?_take] at hx
  split at hx
  · rw [h.row i (a + i) (by omega)]
    exact R.f _ x hx
  · cases hx
theorem rows_new {α : Type} {enc : α → List SV} {l : List α} {n n' : Int} {f f' g : Nat → List SV} (R : Rows enc l n f) (h : MoreRow f' n' 0 n g f) : Rows enc l n' f' := by
  have hn := R.n
  refine ⟨by have := h.len; omega, fun i x hx => ?_⟩
  have hlt : i < l.length := (List.getElem?_eq_some_iff.1 hx).1
  rw [h.hi i i (by omega) (by omega)]
  exact R.f i x hx
def spLawProbe : FSpec := fun _ xs ls K => ∃ (w fl op pr : Int) (l : List TU) (nl : Bool) (n : Int) (f : Nat → List SV), xs = [.agg [.int .i64 (.a w), .int .i64 (.a fl), .int .i64 (.a op), .int .i64 (.a pr)], .sl (.a nl) (.a n) 3 f] ∧ ls = [] ∧ Rows tuC l n f ∧ K (.bool (.a true)) []
theorem probe_ok : FnOk Tryd.prog gl 6 spLawProbe := by
  refine fnOk (gh := [(4, [.attach 7 50]), (19, [.hold 7 2])]) mixed cxOk (tabCons shown_ok (tabCons new_ok (tabCons step_ok (tabCons checkL_ok tabNil)))) Tryd.func6 (by kernel_rfl) (by kernel_rfl) ?_
  intro xs ls K h
  unfold spLawProbe at h
  obtain ⟨w, fl, op, pr, l, nl, n, f, rfl, rfl, R, h⟩ := h
  refine ⟨_, _, h, fun D hD => ?_⟩
  clear h
  cbv
  refine ⟨_, _, _, _, rfl, rfl, fun s r n1 f1 hs hr R1 => ?_⟩
  have hs : s = (newF w fl op pr).1 := by subst hD; exact hs
  have hr : r = (newF w fl op pr).2 := by subst hD; exact hr
  by_cases hcc : ccF w fl op pr = 0
  rotate_left
  · have hr7 : r = 7 := by
      rw [hr, newF, if_pos hcc]
      unfold ccF at hcc ⊢
      split at hcc
      · rw [if_pos (by assumption)]
      · simp at hcc
    subst hr7
    clear hr hs
    obtain ⟨w1, fl1, op1, pr1, st1, si1, nw1, ep1, nl1, outs1, good1, probe1⟩ := s
    cbv
    refine br hD (fun h => ?_) (fun h => ?_) <;> cbv
    · refine finBool hD ?_
      simp [BT.den, cmpDen]
    · simp at h
  have hnew : newF w fl op pr = (⟨w, fl, op, pr, 0, 0, 0, 1, true, [], 0, 0⟩, 0) := by rw [newF, if_neg (by simpa using hcc)]
  rw [hnew] at hs hr
  subst hs hr
  clear hnew
  have hc := ccF_ok hcc
  cbv
  refine br hD (fun h => ?_) (fun h => ?_) <;> cbv
  · refine finBool hD ?_
    simp [BT.den, cmpDen]
  have hl : l.length ≤ 200 := by have := R.n; simp at h; omega
  clear h
  have hinv0 : PInv 0 ⟨w, fl, op, pr, 0, 0, 0, 1, true, [], 0, 0⟩ [] := by
    refine ⟨⟨hcc, ?_⟩, by simp, by simp, fun h => by simp at h, fun h => by simp at h, by simp⟩
    simp only [rightF]
    refine ⟨by omega, .inl ?_⟩
    simp [failsF]
    omega
  obtain ⟨J, hJ⟩ : ∃ J, J = prJ w fl op pr l nl n f := ⟨_, rfl⟩
  refine ⟨[1, 5, 7, 8], J, ⟨rfl, l.length, ?_⟩, ?_⟩
  · rw [hJ]
    subst hD
    exact ⟨0, _, ⟨w, fl, op, pr, 0, 0, 0, 1, true, [], 0, 0⟩, n1, f1, [], true, 0, _, rfl, rfl, ⟨Nat.zero_le _, rfl, hinv0, R1, ⟨rfl, by intro i x hx; simp at hx⟩, rfl⟩⟩
  intro m vs hp hv
  rw [hJ] at hv
  unfold prJ at hv
  obtain ⟨i, I, ⟨w1, fl1, op1, pr1, st1, si1, nw1, ep1, nl1, outs1, good1, probe1⟩, n2, f2, air, nlA, N, F, rfl, rfl, V⟩ := hv
  cbv
  refine br hD (fun h => ?_) (fun h => ?_) <;> cbv
  rotate_left
  · exact finBool hD rfl
  have hlt : i < l.length := by simp at h; have := V.I; have := R.n; omega
  clear h
  have hinb : InB (D.i (.a I)) (D.i (.a n)) := by have hn := R.n; have hI := V.I; subst hD; exact ⟨by simp [dn]; omega, by simp [dn]; omega⟩
  have hjs : ∀ j, IsJ j (D.i (.a I)) → j = i := fun j hj => by have := isJ hD hj; have := V.I; omega
  obtain ⟨tu, htu⟩ : ∃ tu, l[i]? = some tu := ⟨_, List.getElem?_eq_getElem hlt⟩
  have hfi := R.f i tu htu
  obtain ⟨wait, what, which, hb⟩ := tu
  have hrow : f i = [.int .u16 (.a wait), .int .u8 (.a what), .int .u8 (.a which)] := hfi
  clear hfi
  have hg1 := V.inv.good
  have hnw : 0 ≤ nw1 ∧ nw1 ≤ 1000000000000 := by have h1 := hg1.2; simp only [rightF] at h1; omega
  have hlen1 : outs1.length ≤ 64 := good_len hg1
  have hlen1' : outs1.length ≤ 1000000 := by omega
  have w3 : IntKind.i64.wrap wait = wait := wrap64 (by omega) (by omega)
  have w4 : IntKind.i64.wrap (nw1 + wait) = nw1 + wait := wrap64 (by omega) (by omega)
  have w5 : IntKind.i64.wrap (I + 1) = I + 1 := by have := V.I; exact wrap64 (by omega) (by omega)
  have hi200 : (i : Int) ≤ 200 := by omega
  have hI := V.I
  have hairl : air.length ≤ 200 := by have := V.inv.len; omega
  refine ⟨hinb, fun j hj => ?_⟩
  have := hjs j hj
  subst this
  clear hj
  cbv
  rw [hrow]
  cbv
  refine ⟨hinb, fun j2 hj2 => ?_⟩
  have := hjs j2 hj2
  subst this
  clear hj2
  cbv
  rw [hrow]
  cbv
  refine ⟨by subst hD; exact ⟨by simp [dn]⟩, ?_⟩
  cbv
  refine br hD (fun h => ?_) (fun h => ?_) <;> cbv
  · have hq : 1 < what.tmod 5 ∧ 0 < N := by simp at h; exact h
    clear h
    have hq5 : what.tmod 5 = what % 5 := Int.tmod_eq_emod_of_nonneg (by omega)
    obtain ⟨q, hqq⟩ : ∃ q, q = what.tmod 5 := ⟨_, rfl⟩
    have hq2 : q = 2 ∨ q = 3 ∨ q = 4 := by omega
    have wq : IntKind.u8.wrap 5 = 5 := by kernel_rfl
    have w6 : IntKind.i64.wrap (what.tmod 5) = q := by rw [← hqq]; exact wrap64 (by omega) (by omega)
    have w7 : IntKind.i64.wrap (1 + q) = 1 + q := wrap64 (by omega) (by omega)
    have w8 : IntKind.i64.wrap (1 + q - 1) = q := by rw [wrap64 (by omega) (by omega)]; omega
    have w9 : IntKind.i64.wrap which = which := wrap64 (by omega) (by omega)
    obtain ⟨kf, hkf⟩ : ∃ kf, kf = which.tmod N := ⟨_, rfl⟩
    have hkr : 0 ≤ kf ∧ kf < N := by rw [hkf, Int.tmod_eq_emod_of_nonneg (by omega)]; exact ⟨Int.emod_nonneg _ (by omega), Int.emod_lt_of_pos _ (by omega)⟩
    refine ⟨hinb, fun j3 hj3 => ?_⟩
    rw [hjs j3 hj3]
    clear hj3
    cbv
    rw [hrow]
    cbv
    refine ⟨by subst hD; exact ⟨by simp [dn]; omega⟩, ?_⟩
    cbv
    refine ⟨hinb, fun j3 hj3 => ?_⟩
    rw [hjs j3 hj3]
    clear hj3
    cbv
    rw [hrow]
    cbv
    refine ⟨by subst hD; exact ⟨by simp [dn]⟩, ?_⟩
    cbv
    have hkD : D.i (ST.bin BinOp.rem IntKind.i64 (ST.cv IntKind.i64 (ST.a which)) (ST.a N)) = kf := by subst hD; show (IntKind.i64.wrap which).tmod N = kf; rw [w9, hkf]
    have hkb : InB (D.i (ST.bin BinOp.rem IntKind.i64 (ST.cv IntKind.i64 (ST.a which)) (ST.a N))) (D.i (ST.a N)) := by rw [hkD]; subst hD; exact ⟨hkr.1, hkr.2⟩
    have hkj : ∀ j, IsJ j (D.i (ST.bin BinOp.rem IntKind.i64 (ST.cv IntKind.i64 (ST.a which)) (ST.a N))) → j = kf.toNat := fun j hj => by rw [hkD] at hj; have := hj.h; omega
    obtain ⟨ab, hab⟩ : ∃ ab, air[kf.toNat]? = some ab := ⟨_, List.getElem?_eq_getElem (by have := V.A.n; omega)⟩
    have hrk : F kf.toNat = [.int .i64 (.a ab.1), .int .i64 (.a ab.2)] := V.A.f _ _ hab
    refine ⟨hkb, fun j4 hj4 => ?_⟩
    rw [hkj j4 hj4]
    clear hj4
    cbv
    rw [hrk]
    cbv
    refine ⟨hkb, fun j4 hj4 => ?_⟩
    rw [hkj j4 hj4]
    clear hj4
    cbv
    rw [hrk]
    cbv
    refine br hD (fun h => ?_) (fun h => ?_) <;> cbv
    · exact finBool hD rfl
    have hmx : nw1 + wait ≤ 1000000000000 := by simp [w3, w4] at h; exact h
    clear h
    refine ⟨⟨_, _, _, _, _, _, _, _, _, outs1, _, _⟩, _, _, ⟨_, _, _, _⟩, rfl, rfl, by subst hD; exact V.R, hlen1', fun t tb tr n3 f3 ht htb htr R3 => ?_⟩
    obtain ⟨q1, q2, q3, q4⟩ := probe_end V.inv (by omega) (by omega) (now := nw1 + wait) (by simp only; omega) hmx hab hq2
    have kst : stepF ⟨w1, fl1, op1, pr1, st1, si1, nw1, ep1, nl1, outs1, good1, probe1⟩ ⟨IntKind.i64.wrap (IntKind.i64.wrap (1 + IntKind.i64.wrap (what.tmod 5)) - 1), IntKind.i64.wrap (nw1 + IntKind.i64.wrap wait), ab.1, ab.2⟩ = stepF ⟨w1, fl1, op1, pr1, st1, si1, nw1, ep1, nl1, outs1, good1, probe1⟩ ⟨q, nw1 + wait, ab.1, ab.2⟩ := by rw [w6, w7, w8, w3, w4]
    have ht : t = (stepF ⟨w1, fl1, op1, pr1, st1, si1, nw1, ep1, nl1, outs1, good1, probe1⟩ ⟨q, nw1 + wait, ab.1, ab.2⟩).1 := by subst hD; exact ht.trans (congrArg Prod.fst kst)
    have htb : tb = false := by subst hD; exact (htb.trans (congrArg (fun x => x.2.1) kst)).trans q2
    have htr : tr = 0 := by subst hD; exact (htr.trans (congrArg (fun x => x.2.2) kst)).trans q1
    rw [← ht] at q4
    clear ht kst q1 q2 q3
    subst htb htr
    have hck := (good_iff t).2 q4.good
    have hl4 := good_len q4.good
    obtain ⟨w4, fl4, op4, pr4, st4, si4, nw4, ep4, nl4, outs4, good4, probe4⟩ := t
    cbv
    refine ⟨⟨_, _, _, _, _, _, _, _, _, outs4, _, _⟩, _, _, rfl, rfl, by subst hD; exact R3, by show outs4.length ≤ 9223372036854775807; have : outs4.length ≤ 64 := hl4; omega, fun c4 hc4 => ?_⟩
    have hc4 : c4 = 0 := by subst hD; exact hc4.trans hck
    subst hc4
    cbv
    refine br hD (fun h => ?_) (fun h => ?_) <;> cbv
    · simp at h
    clear h
    refine br hD (fun h => ?_) (fun h => ?_)
    rotate_left
    · exfalso; simp [w9] at h; omega
    clear h
    cbv
    intro f5 hb5
    cbv
    refine ⟨?_, fun f6 n6 h6 => ?_⟩
    · show SubB (D.i (ST.l 0)) (D.i (ST.bin BinOp.rem IntKind.i64 (ST.cv IntKind.i64 (ST.a which)) (ST.a N))) (D.i (ST.a N)); rw [hkD]; subst hD; exact ⟨by simp [dn], hkr.1, by simp [dn]; omega⟩
    have R6 : Rows flC ((air.take kf.toNat).drop 0) n6 f6 := by
      refine rows_sub (a := 0) (b := kf.toNat) V.A ?_ (Nat.zero_le _) (by have := V.A.n; omega)
      have e1 : ((kf.toNat : Nat) : Int) = kf := by omega
      rw [e1, ← hkD]
      subst hD; exact h6
    clear h6
    simp only [List.drop_zero] at R6
    have hn6 : n6 ≤ 200 ∧ 0 ≤ n6 := by have := R6.n; simp at this; omega
    cbv
    refine ⟨?_, fun f7 n7 h7 => ?_⟩
    · subst hD; exact ⟨by simp [dn], by simp [dn]; omega, by simp [dn]; omega⟩
    have R7 : Rows flC (air.take kf.toNat) n7 f7 := by subst hD; exact rows_new R6 h7
    clear h7 hb5
    cbv
    have hkD1 : D.i (ST.bin BinOp.add IntKind.i64 (ST.bin BinOp.rem IntKind.i64 (ST.cv IntKind.i64 (ST.a which)) (ST.a N)) (ST.l 1)) = kf + 1 := by subst hD; show IntKind.i64.wrap ((IntKind.i64.wrap which).tmod N + 1) = kf + 1; rw [w9, ← hkf]; exact wrap64 (by omega) (by have := V.A.n; omega)
    refine ⟨?_, fun f8 n8 h8 => ?_⟩
    · show SubB (D.i (ST.bin BinOp.add IntKind.i64 (ST.bin BinOp.rem IntKind.i64 (ST.cv IntKind.i64 (ST.a which)) (ST.a N)) (ST.l 1))) (D.i (ST.a N)) (D.i (ST.a N)); rw [hkD1]; subst hD; exact ⟨by omega, by simp [dn]; omega, by simp [dn]⟩
    have R8 : Rows flC ((air.take air.length).drop (kf.toNat + 1)) n8 f8 := by
      refine rows_sub (a := kf.toNat + 1) (b := air.length) V.A ?_ (by have := V.A.n; omega) (Nat.le_refl _)
      have e1 : ((kf.toNat + 1 : Nat) : Int) = kf + 1 := by omega
      rw [e1, ← hkD1, ← V.A.n]
      subst hD; exact h8
    clear h8
    rw [List.take_length] at R8
    have hn7 : n7 ≤ 200 ∧ 0 ≤ n7 := by have := R7.n; simp at this; omega
    have hn8 : n8 ≤ 200 ∧ 0 ≤ n8 := by have := R8.n; simp at this; omega
    cbv
    refine ⟨?_, fun f9 n9 h9 => ?_⟩
    · subst hD; exact ⟨by simp [dn], by simp [dn]; omega, by simp [dn]; omega⟩
    have A9 : Rows flC (outF air kf.toNat) n9 f9 := by subst hD; exact rows_app R7 R8 h9
    clear h9 R7 R8
    have hol9 : (outF air kf.toNat).length ≤ 200 := by simp [outF]; omega
    cbv
    refine br hD (fun h => ?_) (fun h => ?_) <;> cbv
    · simp at h
    clear h
    obtain ⟨J2, hJ2⟩ : ∃ J2, J2 = cnJ w fl op pr nl n f I ⟨w1, fl1, op1, pr1, st1, si1, nw1, ep1, nl1, outs1, good1, probe1⟩ n2 f2 (outF air kf.toNat) n9 f9 ⟨w4, fl4, op4, pr4, st4, si4, nw4, ep4, nl4, outs4, good4, probe4⟩ n3 f3 [.gone] := ⟨_, rfl⟩
    refine ⟨[1, 5, 7, 8, 11, 14, 15], J2, ⟨rfl, (outF air kf.toNat).length, ?_⟩, ?_⟩
    · rw [hJ2]
      subst hD
      exact ⟨0, _, _, _, _, _, _, _, rfl, rfl, ⟨Nat.zero_le _, rfl, rfl, rfl⟩⟩
    intro m2 vs2 hp2 hv2
    rw [hJ2] at hv2
    unfold cnJ at hv2
    obtain ⟨kk, nb, K2, c2, x1, x2, x3, x4, rfl, rfl, V3⟩ := hv2
    cbv
    refine br hD (fun h => ?_) (fun h => ?_) <;> cbv
    · have hk3 : kk < (outF air kf.toNat).length := by simp at h; have h1 := A9.n; have h2 := V3.K; omega
      clear h
      refine ⟨?_, fun j3 hj3 => ?_⟩
      · have hn := A9.n; have hI3 := V3.K; subst hD; exact ⟨by simp [dn]; omega, by simp [dn]; omega⟩
      have hji : j3 = kk := by have := isJ hD hj3; have := V3.K; omega
      obtain ⟨b, hbb⟩ : ∃ b, (outF air kf.toNat)[kk]? = some b := ⟨_, List.getElem?_eq_getElem hk3⟩
      have hfk : f9 kk = [.int .i64 (.a b.1), .int .i64 (.a b.2)] := A9.f kk b hbb
      have hst := cnt_step (outF air kf.toNat) kk b ep4 hbb
      have hcl := cntF_le ((outF air kf.toNat).take kk) ep4
      have hcn := cntF_nn ((outF air kf.toNat).take kk) ep4
      have hal2 : ((outF air kf.toNat).take kk).length ≤ 201 := by rw [List.length_take]; omega
      have hc2 : c2 = cntF ((outF air kf.toNat).take kk) ep4 := V3.c
      rw [← hc2] at hst hcl hcn
      have hcb : 0 ≤ c2 ∧ c2 ≤ 201 := by omega
      clear hcl hcn hal2 hc2
      subst hji
      clear hj3
      cbv
      rw [hfk]
      obtain ⟨b1, b2⟩ := b
      cbv
      refine br hD (fun h => ?_) (fun h => ?_) <;> cbv
      all_goals
        simp at h
        simp [h] at hst
        refine ⟨(outF air kf.toNat).length - (j3 + 1), (by have h1 := V3.m; omega), ?_⟩
        rw [hJ2]
        subst hD
        have h1 := V3.K
        refine ⟨j3 + 1, nb, _, _, x1, x2, x3, x4, rfl, rfl, ⟨by omega, ?_, ?_, rfl⟩⟩
        · simp [dn]; rw [wrap64 (by omega) (by omega)]; omega
        · simp [dn] at hst ⊢; first | omega | (rw [wrap64 (by omega) (by omega)]; omega)
    have hk3 : kk = (outF air kf.toNat).length := by simp at h; have h1 := A9.n; have h2 := V3.K; have h3 := V3.le; omega
    clear h
    have hc2 : c2 = cntF (outF air kf.toNat) ep4 := by rw [V3.c, hk3, List.take_length]
    have hop := q4.opn
    have hha := q4.half
    simp only at hop hha
    have hz1 : st4 = 1 → c2 = 0 := fun e => by rw [hc2]; exact cntF_zero (hop e)
    have hz2 : st4 = 2 → c2 ≤ 1 := fun e => by rw [hc2]; exact (hha e).1
    refine br hD (fun h => ?_) (fun h => ?_) <;> cbv
    · exfalso
      simp at h
      clear V3 hc2 hop hha
      omega
    clear h hop hha hc2 hz1 hz2
    refine ⟨l.length - (j2 + 1), (by have := V.m; omega), ?_⟩
    rw [hJ]
    subst hD
    refine ⟨j2 + 1, _, ⟨w4, fl4, op4, pr4, st4, si4, nw4, ep4, nl4, outs4, good4, probe4⟩, n3, f3, outF air kf.toNat, nb, n9, f9, rfl, rfl, ⟨by omega, ?_, ?_, R3, A9, rfl⟩⟩
    · have h1 := V.I; simp [dn]; rw [wrap64 (by omega) (by omega)]; omega
    · have := q4; simpa using this
  · clear h
    refine br hD (fun h => ?_) (fun h => ?_) <;> cbv
    · exact finBool hD rfl
    have hmx : nw1 + wait ≤ 1000000000000 := by simp [w3, w4] at h; exact h
    clear h
    refine ⟨⟨_, _, _, _, _, _, _, _, _, outs1, _, _⟩, _, _, ⟨_, _, _, _⟩, rfl, rfl, by subst hD; exact V.R, hlen1', fun t tb tr n3 f3 ht htb htr R3 => ?_⟩
    obtain ⟨q1, q2, q3, q4⟩ := probe_ask V.inv (by omega) (by omega) (now := nw1 + wait) (by simp only; omega) hmx
    have kst : stepF ⟨w1, fl1, op1, pr1, st1, si1, nw1, ep1, nl1, outs1, good1, probe1⟩ ⟨1, IntKind.i64.wrap (nw1 + IntKind.i64.wrap wait), IntKind.i64.wrap (I + 1), 0⟩ = stepF ⟨w1, fl1, op1, pr1, st1, si1, nw1, ep1, nl1, outs1, good1, probe1⟩ ⟨1, nw1 + wait, (j2 : Int) + 1, 0⟩ := by rw [w3, w4, w5, hI]
    have ht : t = (stepF ⟨w1, fl1, op1, pr1, st1, si1, nw1, ep1, nl1, outs1, good1, probe1⟩ ⟨1, nw1 + wait, (j2 : Int) + 1, 0⟩).1 := by subst hD; exact ht.trans (congrArg Prod.fst kst)
    have htb : tb = (stepF ⟨w1, fl1, op1, pr1, st1, si1, nw1, ep1, nl1, outs1, good1, probe1⟩ ⟨1, nw1 + wait, (j2 : Int) + 1, 0⟩).2.1 := by subst hD; exact htb.trans (congrArg (fun x => x.2.1) kst)
    have htr : tr = 0 := by subst hD; exact (htr.trans (congrArg (fun x => x.2.2) kst)).trans q1
    rw [← ht, ← htb] at q4 q2
    clear ht htb kst q1 q3
    subst htr
    have hck := (good_iff t).2 q4.good
    have hl4 := good_len q4.good
    obtain ⟨w4, fl4, op4, pr4, st4, si4, nw4, ep4, nl4, outs4, good4, probe4⟩ := t
    cbv
    refine ⟨⟨_, _, _, _, _, _, _, _, _, outs4, _, _⟩, _, _, rfl, rfl, by subst hD; exact R3, by show outs4.length ≤ 9223372036854775807; have : outs4.length ≤ 64 := hl4; omega, fun c4 hc4 => ?_⟩
    have hc4 : c4 = 0 := by subst hD; exact hc4.trans hck
    subst hc4
    cbv
    refine br hD (fun h => ?_) (fun h => ?_) <;> cbv
    · exfalso; simp at h; exact q2 h.1 h.2
    clear h
    refine br hD (fun h => ?_) (fun h => ?_) <;> cbv
    · have htb : tb = true := by simpa using h
      subst htb
      clear h
      rw [if_pos rfl] at q4
      simp only at q4
      obtain ⟨air2, hair2⟩ : ∃ air2, air2 = air ++ [((j2 : Int) + 1, ep4)] := ⟨_, rfl⟩
      have q4 : PInv (j2 + 1) ⟨w4, fl4, op4, pr4, st4, si4, nw4, ep4, nl4, outs4, good4, probe4⟩ air2 := by rw [hair2]; exact q4
      have hal6 : air2.length ≤ 201 := by rw [hair2]; simp; omega
      intro f5 hb5
      cbv
      refine ⟨?_, fun f6 n6 hM => ?_⟩
      · have hAn := V.A.n; subst hD; exact ⟨by simp [dn], by simp [dn]; omega, by simp [dn]; omega⟩
      have A6 : Rows flC air2 n6 f6 := by
        rw [hair2]
        subst hD
        refine rows_snoc V.A hM ?_
        rw [hb5.h 0 _ rfl]
        show [SV.int .i64 (.a (IntKind.i64.wrap (I + 1))), SV.int .i64 (.a ep4)] = _
        rw [w5, hI]
        rfl
      clear hb5 hM hair2
      cbv
      obtain ⟨J2, hJ2⟩ : ∃ J2, J2 = cnJ w fl op pr nl n f I ⟨w1, fl1, op1, pr1, st1, si1, nw1, ep1, nl1, outs1, good1, probe1⟩ n2 f2 (air2) n6 f6 ⟨w4, fl4, op4, pr4, st4, si4, nw4, ep4, nl4, outs4, good4, probe4⟩ n3 f3 [.tail 50 (.a 1) 2] := ⟨_, rfl⟩
      refine ⟨[1, 5, 7, 8, 11, 14, 15], J2, ⟨rfl, (air2).length, ?_⟩, ?_⟩
      · rw [hJ2]
        subst hD
        exact ⟨0, _, _, _, _, _, _, _, rfl, rfl, ⟨Nat.zero_le _, rfl, rfl, rfl⟩⟩
      intro m2 vs2 hp2 hv2
      rw [hJ2] at hv2
      unfold cnJ at hv2
      obtain ⟨kk, nb, K2, c2, x1, x2, x3, x4, rfl, rfl, V3⟩ := hv2
      cbv
      refine br hD (fun h => ?_) (fun h => ?_) <;> cbv
      · have hk3 : kk < (air2).length := by simp at h; have h1 := A6.n; have h2 := V3.K; omega
        clear h
        refine ⟨?_, fun j3 hj3 => ?_⟩
        · have hn := A6.n; have hI3 := V3.K; subst hD; exact ⟨by simp [dn]; omega, by simp [dn]; omega⟩
        have hji : j3 = kk := by have := isJ hD hj3; have := V3.K; omega
        obtain ⟨b, hbb⟩ : ∃ b, (air2)[kk]? = some b := ⟨_, List.getElem?_eq_getElem hk3⟩
        have hfk : f6 kk = [.int .i64 (.a b.1), .int .i64 (.a b.2)] := A6.f kk b hbb
        have hst := cnt_step (air2) kk b ep4 hbb
        have hcl := cntF_le ((air2).take kk) ep4
        have hcn := cntF_nn ((air2).take kk) ep4
        have hal2 : ((air2).take kk).length ≤ 201 := by rw [List.length_take]; omega
        have hc2 : c2 = cntF ((air2).take kk) ep4 := V3.c
        rw [← hc2] at hst hcl hcn
        have hcb : 0 ≤ c2 ∧ c2 ≤ 201 := by omega
        clear hcl hcn hal2 hc2
        subst hji
        clear hj3
        cbv
        rw [hfk]
        obtain ⟨b1, b2⟩ := b
        cbv
        refine br hD (fun h => ?_) (fun h => ?_) <;> cbv
        all_goals
          simp at h
          simp [h] at hst
          refine ⟨(air2).length - (j3 + 1), (by have h1 := V3.m; omega), ?_⟩
          rw [hJ2]
          subst hD
          have h1 := V3.K
          refine ⟨j3 + 1, nb, _, _, x1, x2, x3, x4, rfl, rfl, ⟨by omega, ?_, ?_, rfl⟩⟩
          · simp [dn]; rw [wrap64 (by omega) (by omega)]; omega
          · simp [dn] at hst ⊢; first | omega | (rw [wrap64 (by omega) (by omega)]; omega)
      have hk3 : kk = (air2).length := by simp at h; have h1 := A6.n; have h2 := V3.K; have h3 := V3.le; omega
      clear h
      have hc2 : c2 = cntF (air2) ep4 := by rw [V3.c, hk3, List.take_length]
      have hop := q4.opn
      have hha := q4.half
      simp only at hop hha
      have hz1 : st4 = 1 → c2 = 0 := fun e => by rw [hc2]; exact cntF_zero (hop e)
      have hz2 : st4 = 2 → c2 ≤ 1 := fun e => by rw [hc2]; exact (hha e).1
      refine br hD (fun h => ?_) (fun h => ?_) <;> cbv
      · exfalso
        simp at h
        clear V3 hc2 hop hha
        omega
      clear h hop hha hc2 hz1 hz2
      refine ⟨l.length - (j2 + 1), (by have := V.m; omega), ?_⟩
      rw [hJ]
      subst hD
      refine ⟨j2 + 1, _, ⟨w4, fl4, op4, pr4, st4, si4, nw4, ep4, nl4, outs4, good4, probe4⟩, n3, f3, air2, nb, n6, f6, rfl, rfl, ⟨by omega, ?_, ?_, R3, A6, rfl⟩⟩
      · have h1 := V.I; simp [dn]; rw [wrap64 (by omega) (by omega)]; omega
      · have := q4; simpa using this
    · have htb : tb = false := by simpa using h
      subst htb
      clear h
      rw [if_neg (by simp)] at q4
      have A6 := V.A
      obtain ⟨J2, hJ2⟩ : ∃ J2, J2 = cnJ w fl op pr nl n f I ⟨w1, fl1, op1, pr1, st1, si1, nw1, ep1, nl1, outs1, good1, probe1⟩ n2 f2 (air) N F ⟨w4, fl4, op4, pr4, st4, si4, nw4, ep4, nl4, outs4, good4, probe4⟩ n3 f3 [] := ⟨_, rfl⟩
      refine ⟨[1, 5, 7, 8, 11, 14, 15], J2, ⟨rfl, (air).length, ?_⟩, ?_⟩
      · rw [hJ2]
        subst hD
        exact ⟨0, _, _, _, _, _, _, _, rfl, rfl, ⟨Nat.zero_le _, rfl, rfl, rfl⟩⟩
      intro m2 vs2 hp2 hv2
      rw [hJ2] at hv2
      unfold cnJ at hv2
      obtain ⟨kk, nb, K2, c2, x1, x2, x3, x4, rfl, rfl, V3⟩ := hv2
      cbv
      refine br hD (fun h => ?_) (fun h => ?_) <;> cbv
      · have hk3 : kk < (air).length := by simp at h; have h1 := A6.n; have h2 := V3.K; omega
        clear h
        refine ⟨?_, fun j3 hj3 => ?_⟩
        · have hn := A6.n; have hI3 := V3.K; subst hD; exact ⟨by simp [dn]; omega, by simp [dn]; omega⟩
        have hji : j3 = kk := by have := isJ hD hj3; have := V3.K; omega
        obtain ⟨b, hbb⟩ : ∃ b, (air)[kk]? = some b := ⟨_, List.getElem?_eq_getElem hk3⟩
        have hfk : F kk = [.int .i64 (.a b.1), .int .i64 (.a b.2)] := A6.f kk b hbb
        have hst := cnt_step (air) kk b ep4 hbb
        have hcl := cntF_le ((air).take kk) ep4
        have hcn := cntF_nn ((air).take kk) ep4
        have hal2 : ((air).take kk).length ≤ 201 := by rw [List.length_take]; omega
        have hc2 : c2 = cntF ((air).take kk) ep4 := V3.c
        rw [← hc2] at hst hcl hcn
        have hcb : 0 ≤ c2 ∧ c2 ≤ 201 := by omega
        clear hcl hcn hal2 hc2
        subst hji
        clear hj3
        cbv
        rw [hfk]
        obtain ⟨b1, b2⟩ := b
        cbv
        refine br hD (fun h => ?_) (fun h => ?_) <;> cbv
        all_goals
          simp at h
          simp [h] at hst
          refine ⟨(air).length - (j3 + 1), (by have h1 := V3.m; omega), ?_⟩
          rw [hJ2]
          subst hD
          have h1 := V3.K
          refine ⟨j3 + 1, nb, _, _, x1, x2, x3, x4, rfl, rfl, ⟨by omega, ?_, ?_, rfl⟩⟩
          · simp [dn]; rw [wrap64 (by omega) (by omega)]; omega
          · simp [dn] at hst ⊢; first | omega | (rw [wrap64 (by omega) (by omega)]; omega)
      have hk3 : kk = (air).length := by simp at h; have h1 := A6.n; have h2 := V3.K; have h3 := V3.le; omega
      clear h
      have hc2 : c2 = cntF (air) ep4 := by rw [V3.c, hk3, List.take_length]
      have hop := q4.opn
      have hha := q4.half
      simp only at hop hha
      have hz1 : st4 = 1 → c2 = 0 := fun e => by rw [hc2]; exact cntF_zero (hop e)
      have hz2 : st4 = 2 → c2 ≤ 1 := fun e => by rw [hc2]; exact (hha e).1
      refine br hD (fun h => ?_) (fun h => ?_) <;> cbv
      · exfalso
        simp at h
        clear V3 hc2 hop hha
        omega
      clear h hop hha hc2 hz1 hz2
      refine ⟨l.length - (j2 + 1), (by have := V.m; omega), ?_⟩
      rw [hJ]
      subst hD
      refine ⟨j2 + 1, _, ⟨w4, fl4, op4, pr4, st4, si4, nw4, ep4, nl4, outs4, good4, probe4⟩, n3, f3, air, nb, N, F, rfl, rfl, ⟨by omega, ?_, ?_, R3, A6, rfl⟩⟩
      · have h1 := V.I; simp [dn]; rw [wrap64 (by omega) (by omega)]; omega
      · have := q4; simpa using this
end Go.Proofs.YtkhbbppkghcbeaaDoor
namespace Go.Proofs.YtkhbbppkghcbeaaDoor
open Go Go.Sx Go.ChangeShapes Go.WideShapes Go.RowKit
set_option maxRecDepth 100000
theorem fields48 : OpenF Tryd.prog [(0, 46), (1, 5), (2, 5)] 0 3 (fun x : {n : Int // 0 ≤ n ∧ n ≤ 65535} × {n : Int // 0 ≤ n ∧ n ≤ 255} × {n : Int // 0 ≤ n ∧ n ≤ 255} × Unit => [SV.int .u16 (.a x.1.1), .int .u8 (.a x.2.1.1), .int .u8 (.a x.2.2.1.1)]) := .cons 0 1 2 (by kernel_rfl) open46 (.cons 1 1 1 (by kernel_rfl) open5 (.cons 2 1 0 (by kernel_rfl) open5 .nil))
theorem open48 : OpenT Tryd.prog 48 tuC :=
  (OpenT.struct Tryd.underlying48 (by kernel_rfl) (by kernel_rfl) fields48).map (fun x => (⟨x.1.1, x.2.1.1, x.2.2.1.1, x.1.2, x.2.1.2, x.2.2.1.2⟩ : TU)) fun _ => rfl
theorem open42 : OpenT Tryd.prog 42 (fun x : {x : Bool × List TU // x.1 = true → x.2 = []} => slC 3 tuC x.1) := .slice Tryd.underlying42 (by kernel_rfl) (by decide) open48
end Go.Proofs.YtkhbbppkghcbeaaDoor
