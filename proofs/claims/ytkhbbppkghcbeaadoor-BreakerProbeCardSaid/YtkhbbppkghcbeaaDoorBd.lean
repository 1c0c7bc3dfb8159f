/- Part of the proofs of the statements about the breaker (layer 17): contracts of functions; it has no conditions of its own. -/
import Derived.Test.YtkhbbppkghcbeaaDoorBc
set_option linter.unusedVariables false
set_option linter.unusedSimpArgs false
namespace Go.Proofs.YtkhbbppkghcbeaaDoor
open Go.Sx
set_option maxRecDepth 10000
set_option maxHeartbeats 2000000
theorem stepF_len (s : BS) (e : BE) : (stepF s e).1.outs.length ≤ s.outs.length + 1 := by
  unfold stepF
  split
  · simp [zeroBS]
  · split
    · simp [zeroBS]
    · exact (applyF_keeps (ownF s) e).2
theorem eqv_own (s : BS) : Eqv s (ownF s) := rfl
theorem Eqv.len {s t : BS} (h : Eqv s t) : s.outs.length = t.outs.length := by obtain ⟨b, rfl⟩ := h.out; rfl
theorem one_same {s t : BS} (h : Eqv s t) (hg : Good s) (e : BE) : (oneF s e).2 = (roneF t e).2 ∧ Eqv (oneF s e).1 (roneF t e).1 ∧ Good (oneF s e).1 := by
  have hgt : checkF t = 0 := by rw [← h.check]; exact (good_iff s).2 hg
  obtain ⟨r1, r2⟩ := rstep_same t e
  have hst : stepF t e = if (applyF (ownF t) e).2.2 ≠ 0 then (zeroBS, false, (applyF (ownF t) e).2.2) else ((applyF (ownF t) e).1, (applyF (ownF t) e).2.1, 0) := by
    rw [stepF, if_neg (by simp [hgt])]
  obtain ⟨a1, a2⟩ := applyF_eqv (s := s) (t := ownF t) h e
  rw [← a2] at hst
  unfold oneF roneF
  by_cases hz : (applyF s e).2.2 = 0
  · have hz' : ¬ (applyF s e).2.2 ≠ 0 := by simpa using hz
    rw [if_neg hz'] at hst ⊢
    rw [hst] at r1 r2
    have e1 : (rstepF t e).2.2 = 0 := by rw [r1]
    have e2 : (rstepF t e).2.1 = (applyF s e).2.1 := by rw [r1]
    rw [if_pos e1]
    have hq : Eqv (applyF s e).1 (rstepF t e).1 := a1.trans r2.symm
    refine ⟨?_, hq, apply_good hg hz⟩
    obtain ⟨b, hb⟩ := hq.out
    rw [e2, hb]
  · rw [if_pos hz] at hst ⊢
    rw [hst] at r1
    have e1 : ¬ (rstepF t e).2.2 = 0 := by rw [r1]; exact hz
    rw [if_neg e1]
    refine ⟨?_, h, hg⟩
    obtain ⟨b, rfl⟩ := h.out
    rw [r1]
theorem many_same : ∀ (l : List BE) (s t : BS), Eqv s t → Good s → (manyF s l).2 = (rmanyF t l).2 ∧ Eqv (manyF s l).1 (rmanyF t l).1 ∧ Good (manyF s l).1
  | [], s, t, h, hg => ⟨rfl, h, hg⟩
  | e :: l, s, t, h, hg => by
    obtain ⟨h1, h2, h3⟩ := one_same h hg e
    obtain ⟨k1, k2, k3⟩ := many_same l _ _ h2 h3
    exact ⟨by simp only [manyF, rmanyF, h1, k1], k2, k3⟩
theorem runs_same (s : BS) (l : List BE) : (runF s l).1 = (rrunF s l).1 ∧ Eqv (runF s l).2.1 (rrunF s l).2.1 ∧ (runF s l).2.2 = (rrunF s l).2.2 := by
  unfold runF rrunF
  by_cases h : checkF s = 0
  · have h0 : ¬ checkF s ≠ 0 := by simpa using h
    rw [if_neg h0, if_neg h0]
    by_cases h2 : 500 < l.length
    · rw [if_pos h2, if_pos h2]; exact ⟨rfl, rfl, rfl⟩
    · rw [if_neg h2, if_neg h2]
      obtain ⟨k1, k2, _⟩ := many_same l (ownF s) s rfl ((good_iff _).1 h)
      exact ⟨k1, k2, rfl⟩
  · rw [if_pos h, if_pos h]; exact ⟨rfl, rfl, rfl⟩
theorem runF_len (s : BS) (l : List BE) : (runF s l).2.1.outs.length ≤ s.outs.length + l.length := by
  unfold runF
  split
  · simp [zeroBS]
  · split
    · simp [zeroBS]
    · exact (manyF_keeps l (ownF s)).2
theorem runF_out (s : BS) (l : List BE) : (runF s l).1.length ≤ l.length := by
  unfold runF
  split
  · simp
  · split
    · simp
    · simp [manyF_len]
def spLawRuns : FSpec := fun _ xs ls K => ∃ (s : BS) (n : Int) (f : Nat → List SV) (l : List BE) (nl : Bool) (m : Int) (g : Nat → List SV), xs = [.agg (stC s n f), .sl (.a nl) (.a m) 4 g] ∧ ls = [] ∧ Rows encB s.outs n f ∧ Rows evC l m g ∧ K (.bool (.a true)) []
theorem runs_ok : FnOk Tryd.prog gl 3 spLawRuns := by
  refine fnOk (gh := []) mixed cxOk (tabCons shown_ok (tabCons run_ok (tabCons rrun_ok (tabCons steps_ok (tabCons same_ok tabNil))))) Tryd.func3 (by kernel_rfl) (by kernel_rfl) ?_
  intro xs ls K h
  unfold spLawRuns at h
  obtain ⟨⟨w, fl, op, pr, st, si, nw, ep, nl, outs, good, probe⟩, n, f, l, nl1, m, g, rfl, rfl, R, RL, h⟩ := h
  refine ⟨_, _, h, fun D hD => ?_⟩
  clear h
  cbv
  refine br hD (fun h => ?_) (fun h => ?_) <;> cbv
  · exact finBool hD rfl
  have hl : outs.length ≤ 100 ∧ l.length ≤ 510 := by simp at h; have hn := R.n; have hm := RL.n; simp at hn; omega
  have hl2 : outs.length ≤ 1000000 := by omega
  clear h
  refine ⟨⟨_, _, _, _, _, _, _, _, _, outs, _, _⟩, _, _, l, _, _, _, rfl, rfl, by subst hD; exact R, hl2, by subst hD; exact RL, fun a s1 r1 an af n1 f1 ha hs1 hr1 RA R1 => ?_⟩
  have ha : a = (runF ⟨w, fl, op, pr, st, si, nw, ep, nl, outs, good, probe⟩ l).1 := by subst hD; exact ha
  have hs1 : s1 = (runF ⟨w, fl, op, pr, st, si, nw, ep, nl, outs, good, probe⟩ l).2.1 := by subst hD; exact hs1
  have hr1 : r1 = (runF ⟨w, fl, op, pr, st, si, nw, ep, nl, outs, good, probe⟩ l).2.2 := by subst hD; exact hr1
  have hlen : s1.outs.length ≤ 1000000 := by have := runF_len ⟨w, fl, op, pr, st, si, nw, ep, nl, outs, good, probe⟩ l; rw [hs1]; simp only at this; omega
  have hla : a.length ≤ 1000000 := by have := runF_out ⟨w, fl, op, pr, st, si, nw, ep, nl, outs, good, probe⟩ l; rw [ha]; omega
  obtain ⟨w1, fl1, op1, pr1, st1, si1, nw1, ep1, nl2, outs1, good1, probe1⟩ := s1
  generalize a.isEmpty = ae
  cbv
  refine ⟨⟨_, _, _, _, _, _, _, _, _, outs, _, _⟩, _, _, l, _, _, _, rfl, rfl, by subst hD; exact R, by show outs.length ≤ 200; omega, by subst hD; exact RL, fun b s2 r2 bn bf n2 f2 hb hs2 hr2 RB R2 => ?_⟩
  have hsame := runs_same ⟨w, fl, op, pr, st, si, nw, ep, nl, outs, good, probe⟩ l
  have hb : b = a := by subst hD; exact (hb.trans hsame.1.symm).trans ha.symm
  have hq : Eqv ⟨w1, fl1, op1, pr1, st1, si1, nw1, ep1, nl2, outs1, good1, probe1⟩ s2 := by subst hD; rw [hs1]; refine hsame.2.1.trans ?_; rw [hs2]; rfl
  have hr2 : r2 = r1 := by subst hD; exact (hr2.trans hsame.2.2.symm).trans hr1.symm
  subst hb hr2
  clear ha hs1 hr1 hsame
  obtain ⟨w2, fl2, op2, pr2, st2, si2, nw2, ep2, nl3, outs2, good2, probe2⟩ := s2
  generalize b.isEmpty = be
  cbv
  refine ⟨b, _, _, _, _, _, _, rfl, rfl, by subst hD; exact RA, by subst hD; exact RB, hla, ?_⟩
  cbv
  refine ⟨⟨_, _, _, _, _, _, _, _, _, outs1, _, _⟩, ⟨_, _, _, _, _, _, _, _, _, outs2, _, _⟩, _, _, _, _, rfl, rfl, by subst hD; exact R1, by subst hD; exact R2, hlen, by subst hD; exact hq, ?_⟩
  cbv
  refine finBool hD ?_
  simp [BT.den, cmpDen]
end Go.Proofs.YtkhbbppkghcbeaaDoor
namespace Go.Proofs.YtkhbbppkghcbeaaDoor
open Go.Sx
set_option maxRecDepth 10000
set_option maxHeartbeats 2000000
def spLawSteps : FSpec := fun _ xs ls K => ∃ (s : BS) (n : Int) (f : Nat → List SV) (e : BE), xs = [.agg (stC s n f), .agg (evC e)] ∧ ls = [] ∧ Rows encB s.outs n f ∧ K (.bool (.a true)) []
def lstepsJ (s : BS) (n : Int) (f : Nat → List SV) (e : BE) (n2 : Int) (f2 : Nat → List SV) (s1 : BS) (n3 : Int) (f3 : Nat → List SV) (s2 : BS) (n4 : Int) (f4 : Nat → List SV) (b : Bool) (r : Int) (m : Nat) (vs : List (Option SV)) (hp : List Hl) : Prop :=
  ∃ (i : Nat) (I : Int), vs = [some (.ptr 0 0), some (.ptr 1 0), some (.gsl (.a false) (.a n2) 1 f2 2), some (.ptr 3 0), some (.bool (.a b)), some (.int .i64 (.a r)), some (.ptr 4 0), some (.bool (.a b)), some (.int .i64 (.a r)), some (.int .i64 (.a I))] ∧
    hp = [.blk 26 (stC s n f), .blk 38 (evC e), .tail 4 (.a n2) 1, .blk 26 (stC s1 n3 f3), .blk 26 (stC s2 n4 f4)] ∧ IInv s.outs.length i I m
theorem lsteps_ok : FnOk Tryd.prog gl 5 spLawSteps := by
  refine fnOk (gh := []) mixed cxOk (tabCons shown_ok (tabCons step_ok (tabCons rstep_ok (tabCons same_ok tabNil)))) Tryd.func5 (by kernel_rfl) (by kernel_rfl) ?_
  intro xs ls K h
  unfold spLawSteps at h
  obtain ⟨⟨w, fl, op, pr, st, si, nw, ep, nl, outs, good, probe⟩, n, f, ⟨ek, en, ea, ee⟩, rfl, rfl, R, h⟩ := h
  refine ⟨_, _, h, fun D hD => ?_⟩
  clear h
  cbv
  refine br hD (fun h => ?_) (fun h => ?_) <;> cbv
  · exact finBool hD rfl
  have hl : outs.length ≤ 100 := by simp at h; have hn := R.n; simp at hn; omega
  have hl2 : outs.length ≤ 1000000 := by omega
  clear h
  intro f1 hb1
  cbv
  refine ⟨?_, fun f2 n2 h2 => ?_⟩
  · have hn : n = outs.length := R.n; subst hD; exact ⟨by simp [dn], by simp [dn]; omega, by simp [dn]; omega⟩
  have R2 : Rows encB outs n2 f2 := by
    subst hD
    refine ⟨by have hn : n = outs.length := R.n; have := h2.len; simp [dn] at this; omega, fun i x hx => ?_⟩
    have hlt : i < outs.length := (List.getElem?_eq_some_iff.1 hx).1
    have hn : n = outs.length := R.n
    rw [h2.hi i i (by simp [dn]) (by show (i : Int) < n; omega)]
    exact R.f i x hx
  clear hb1 h2
  cbv
  refine ⟨⟨_, _, _, _, _, _, _, _, _, outs, _, _⟩, _, _, ⟨_, _, _, _⟩, rfl, rfl, by subst hD; exact R, hl2, fun s1 b1 r1 n3 f3 hs1 hb1 hr1 R3 => ?_⟩
  have hs1 : s1 = (stepF ⟨w, fl, op, pr, st, si, nw, ep, nl, outs, good, probe⟩ ⟨ek, en, ea, ee⟩).1 := by subst hD; exact hs1
  have hb1 : b1 = (stepF ⟨w, fl, op, pr, st, si, nw, ep, nl, outs, good, probe⟩ ⟨ek, en, ea, ee⟩).2.1 := by subst hD; exact hb1
  have hr1 : r1 = (stepF ⟨w, fl, op, pr, st, si, nw, ep, nl, outs, good, probe⟩ ⟨ek, en, ea, ee⟩).2.2 := by subst hD; exact hr1
  have hlen : s1.outs.length ≤ 1000000 := by have := stepF_len ⟨w, fl, op, pr, st, si, nw, ep, nl, outs, good, probe⟩ ⟨ek, en, ea, ee⟩; rw [hs1]; simp only at this; omega
  obtain ⟨w1, fl1, op1, pr1, st1, si1, nw1, ep1, nl1, outs1, good1, probe1⟩ := s1
  cbv
  refine ⟨⟨_, _, _, _, _, _, _, _, _, outs, _, _⟩, _, _, ⟨_, _, _, _⟩, rfl, rfl, by subst hD; exact R, by show outs.length ≤ 1000; omega, fun s2 b2 r2 n4 f4 hs2 hb2 hr2 R4 => ?_⟩
  obtain ⟨k1, k2⟩ := rstep_same ⟨w, fl, op, pr, st, si, nw, ep, nl, outs, good, probe⟩ ⟨ek, en, ea, ee⟩
  have hb2 : b2 = b1 := by subst hD; exact (hb2.trans (congrArg Prod.fst k1)).trans hb1.symm
  have hr2 : r2 = r1 := by subst hD; exact (hr2.trans (congrArg Prod.snd k1)).trans hr1.symm
  have hq : Eqv ⟨w1, fl1, op1, pr1, st1, si1, nw1, ep1, nl1, outs1, good1, probe1⟩ s2 := by subst hD; rw [hs1]; refine k2.symm.trans ?_; rw [hs2]; rfl
  subst hb2 hr2
  clear hs1 hb1 hr1 k1 k2 hs2
  obtain ⟨w2, fl2, op2, pr2, st2, si2, nw2, ep2, nl2, outs2, good2, probe2⟩ := s2
  cbv
  obtain ⟨J, hJ⟩ : ∃ J, J = lstepsJ ⟨w, fl, op, pr, st, si, nw, ep, nl, outs, good, probe⟩ n f ⟨ek, en, ea, ee⟩ n2 f2 ⟨w1, fl1, op1, pr1, st1, si1, nw1, ep1, nl1, outs1, good1, probe1⟩ n3 f3 ⟨w2, fl2, op2, pr2, st2, si2, nw2, ep2, nl2, outs2, good2, probe2⟩ n4 f4 b2 r2 := ⟨_, rfl⟩
  refine ⟨[2, 3, 5, 6, 7, 8, 9, 10, 11, 12], J, ⟨rfl, outs.length, ?_⟩, ?_⟩
  · rw [hJ]
    subst hD
    exact ⟨0, _, rfl, rfl, ⟨Nat.zero_le _, rfl, rfl⟩⟩
  intro m vs hp h
  rw [hJ] at h
  unfold lstepsJ at h
  obtain ⟨i, I, rfl, rfl, V⟩ := h
  cbv
  refine br hD (fun h => ?_) (fun h => ?_) <;> cbv
  · have hlt : i < outs.length := by simp at h; have := V.I; have := R2.n; omega
    refine ⟨?_, fun j hj => ?_⟩
    · have hn := R.n; have hI := V.I; subst hD; exact ⟨by simp [dn]; omega, by simp [dn]; simp at hn; omega⟩
    have hji : j = i := by have := isJ hD hj; have := V.I; omega
    have hfi := R.f i outs[i] (List.getElem?_eq_getElem hlt)
    have hgi := R2.f i outs[i] (List.getElem?_eq_getElem hlt)
    generalize outs[i] = b at hfi hgi
    clear hj
    subst hji
    cbv
    rw [hfi, encB]
    cbv
    refine ⟨?_, fun j2 hj2 => ?_⟩
    · have hn := R2.n; have hI := V.I; subst hD; exact ⟨by simp [dn]; omega, by simp [dn]; omega⟩
    have hji : j2 = j := by have := isJ hD hj2; have := V.I; omega
    subst hji
    cbv
    rw [hgi, encB]
    cbv
    refine br hD (fun h => ?_) (fun h => ?_) <;> cbv
    · simp at h
    refine ⟨outs.length - (j2 + 1), ?_, ?_⟩
    · have := V.m; simp at this; omega
    rw [hJ]
    subst hD
    refine ⟨j2 + 1, _, rfl, rfl, ⟨hlt, ?_, rfl⟩⟩
    have h3 := V.I
    simp [dn]
    rw [wrap64 (by omega) (by omega)]; omega
  · refine ⟨⟨_, _, _, _, _, _, _, _, _, outs1, _, _⟩, ⟨_, _, _, _, _, _, _, _, _, outs2, _, _⟩, _, _, _, _, rfl, rfl, by subst hD; exact R3, by subst hD; exact R4, hlen, by subst hD; exact hq, ?_⟩
    cbv
    refine finBool hD ?_
    simp [BT.den, cmpDen]
end Go.Proofs.YtkhbbppkghcbeaaDoor
