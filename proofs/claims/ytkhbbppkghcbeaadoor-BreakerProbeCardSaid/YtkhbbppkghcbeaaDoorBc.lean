/- Part of the proofs of the statements about the breaker (layer 17): contracts of functions; it has no conditions of its own. -/
import Derived.Test.YtkhbbppkghcbeaaDoorCards
import Derived.Test.YtkhbbppkghcbeaaDoorTie
import Derived.LaidLaws
import Derived.LaidHandle
import Derived.LaidMore
import Derived.Stop.Joined
import Derived.Test.YtkhbbppkghcbeaaDoorBb
import Derived.Test.YtkhbbppkghcbeaaDoorSc
set_option linter.unusedVariables false
set_option linter.unusedSimpArgs false
namespace Go.Proofs.YtkhbbppkghcbeaaDoor
open Go.Sx
set_option maxRecDepth 10000
set_option maxHeartbeats 2000000
def roneF (s : BS) (e : BE) : BS × RS := if (rstepF s e).2.2 = 0 then ((rstepF s e).1, ⟨0, (rstepF s e).2.1, (rstepF s e).1.st, (rstepF s e).1.ep⟩) else (s, ⟨(rstepF s e).2.2, (rstepF s e).2.1, s.st, s.ep⟩)
def rmanyF (s : BS) : List BE → BS × List RS
  | [] => (s, [])
  | e :: l => ((rmanyF (roneF s e).1 l).1, (roneF s e).2 :: (rmanyF (roneF s e).1 l).2)
theorem rmanyF_snoc (e : BE) : ∀ (l : List BE) (s : BS), rmanyF s (l ++ [e]) = ((roneF (rmanyF s l).1 e).1, (rmanyF s l).2 ++ [(roneF (rmanyF s l).1 e).2])
  | [], s => by simp [rmanyF]
  | x :: l, s => by simp [rmanyF, rmanyF_snoc e l]
theorem rmanyF_len : ∀ (l : List BE) (s : BS), (rmanyF s l).2.length = l.length
  | [], s => rfl
  | x :: l, s => by simp [rmanyF, rmanyF_len l]
theorem lastF_len (t : BS) (a : Bool) (f : Int) : (lastF t a f).1.outs.length ≤ t.outs.length := by
  unfold lastF; repeat' split
  all_goals simp [zeroBS, openF]
theorem rstepF_len (s : BS) (e : BE) : (rstepF s e).1.outs.length ≤ s.outs.length + 1 := by
  unfold rstepF
  repeat' split
  · simp [zeroBS]
  · simp [zeroBS]
  · simp [zeroBS]
  · have h := passedF_len s e.now
    generalize passedF s e.now = t at h
    have h2 := endedF_len t e
    unfold midF
    repeat' split
    all_goals refine Nat.le_trans (lastF_len _ _ _) ?_
    all_goals first | omega | (simp only; omega)
theorem roneF_len (s : BS) (e : BE) : (roneF s e).1.outs.length ≤ s.outs.length + 1 := by
  unfold roneF
  split
  · exact rstepF_len s e
  · simp
theorem rmanyF_keeps : ∀ (l : List BE) (s : BS), (rmanyF s l).1.outs.length ≤ s.outs.length + l.length
  | [], s => by simp [rmanyF]
  | x :: l, s => by
    have h1 := roneF_len s x
    have h2 := rmanyF_keeps l (roneF s x).1
    simp only [rmanyF, List.length_cons]
    omega
def rrunF (s : BS) (l : List BE) : List RS × BS × Int :=
  if checkF s ≠ 0 then ([], zeroBS, checkF s)
  else if 500 < l.length then ([], zeroBS, 3)
  else ((rmanyF s l).2, (rmanyF s l).1, 0)
def spRRun : FSpec := fun _ xs ls K => ∃ (s : BS) (n : Int) (f : Nat → List SV) (l : List BE) (nl : Bool) (m : Int) (g : Nat → List SV), xs = [.agg (stC s n f), .sl (.a nl) (.a m) 4 g] ∧ ls = [] ∧ Rows encB s.outs n f ∧ s.outs.length ≤ 200 ∧ Rows evC l m g ∧
  ∀ (a : List RS) (s' : BS) (r : Int) (an : Int) (af : Nat → List SV) (n' : Int) (f' : Nat → List SV), a = (rrunF s l).1 → s' = (rrunF s l).2.1 → r = (rrunF s l).2.2 → Rows rsC a an af → Rows encB s'.outs n' f' →
    K (.tup [.sl (.a a.isEmpty) (.a an) 4 af, .agg (stC s' n' f'), .int .i64 (.a r)]) []
structure RRInv (s0 : BS) (l : List BE) (i : Nat) (s : BS) (n : Int) (f : Nat → List SV) (out : List RS) (nl : Bool) (N : Int) (F : Nat → List SV) (I : Int) (m : Nat) : Prop where
  le : i ≤ l.length
  run : rmanyF s0 (l.take i) = (s, out)
  rows : Rows encB s.outs n f
  outs : Rows rsC out N F
  nl : nl = decide (i = 0)
  I : I = i
  m : m = l.length - i
def rrunJ (s0 : BS) (l : List BE) (nl1 : Bool) (m1 : Int) (g : Nat → List SV) (m : Nat) (vs : List (Option SV)) (hp : List Hl) : Prop :=
  ∃ (i : Nat) (s : BS) (n : Int) (f : Nat → List SV) (out : List RS) (nl : Bool) (N : Int) (F : Nat → List SV) (I : Int),
    vs = [some (.sl (.a nl1) (.a m1) 4 g), some (.ptr 0 0), some (.ptr 1 0), some (.gsl (.a nl) (.a N) 4 F 2), some (.int .i64 (.a I))] ∧
    hp = [.blk 26 (stC s n f), Hl.blk 26 (stC zeroBS 0 fun _ => []), .tail 64 (.a N) 4] ∧ RRInv s0 l i s n f out nl N F I m
theorem rrun_ok : FnOk Tryd.prog gl 13 spRRun := by
  refine fnOk (gh := [(6, [.attach 8 64])]) mixed cxOk (tabCons rcheck_ok (tabCons rstep_ok tabNil)) Tryd.func13 (by kernel_rfl) (by kernel_rfl) ?_
  intro xs ls K h
  unfold spRRun at h
  obtain ⟨⟨w, fl, op, pr, st, si, nw, ep, nl, outs, good, probe⟩, n, f, l, nl1, m1, g, rfl, rfl, R, hl, RL, h⟩ := h
  obtain ⟨a, ha⟩ : ∃ a, a = (rrunF ⟨w, fl, op, pr, st, si, nw, ep, nl, outs, good, probe⟩ l).1 := ⟨_, rfl⟩
  obtain ⟨s', hs'⟩ : ∃ s', s' = (rrunF ⟨w, fl, op, pr, st, si, nw, ep, nl, outs, good, probe⟩ l).2.1 := ⟨_, rfl⟩
  obtain ⟨r, hr⟩ : ∃ r, r = (rrunF ⟨w, fl, op, pr, st, si, nw, ep, nl, outs, good, probe⟩ l).2.2 := ⟨_, rfl⟩
  obtain ⟨an, af, RA⟩ : ∃ n' f', Rows rsC a n' f' := ⟨_, _, rowS_ok _⟩
  obtain ⟨n', f', R'⟩ : ∃ n' f', Rows encB s'.outs n' f' := ⟨_, _, rowF_ok _⟩
  obtain ⟨an0, han⟩ : ∃ b, b = a.isEmpty := ⟨_, rfl⟩
  refine ⟨.tup [.sl (.a an0) (.a an) 4 af, .agg (stC s' n' f'), .int .i64 (.a r)], _, by rw [han]; exact h a s' r an af n' f' ha hs' hr RA R', fun D hD => ?_⟩
  clear h
  cbv
  refine ⟨⟨_, _, _, _, _, _, _, _, _, outs, _, _⟩, _, _, rfl, rfl, by subst hD; exact R, by have : outs.length ≤ 200 := hl; show outs.length ≤ 1000000; omega, fun c hc => ?_⟩
  have hc : c = checkF ⟨w, fl, op, pr, st, si, nw, ep, nl, outs, good, probe⟩ := by subst hD; exact hc
  rw [rrunF, ← hc] at ha hs' hr
  clear hc
  cbv
  refine br hD (fun h => ?_) (fun h => ?_) <;> cbv
  · have h2 : c = 0 ∧ 500 < l.length := by simp at h; have := RL.n; omega
    rw [if_neg (by omega), if_pos h2.2] at ha hs' hr
    subst hD ha hs' hr
    exact finV (.tup (.cons (leRow (l := ([] : List RS)) (by rw [han]; rfl) ⟨rfl, by intro i x hx; simp at hx⟩ RA) (.cons (.agg (leSt (s := zeroBS) rfl rfl rfl rfl rfl rfl rfl rfl rfl ⟨rfl, by intro i x hx; simp [zeroBS] at hx⟩ R' rfl rfl)) (.cons (leInt rfl) .nil))))
  refine br hD (fun h2 => ?_) (fun h2 => ?_) <;> cbv
  · simp at h2
    rw [if_pos h2] at ha hs' hr
    subst hD ha hs' hr
    exact finV (.tup (.cons (leRow (l := ([] : List RS)) (by rw [han]; rfl) ⟨rfl, by intro i x hx; simp at hx⟩ RA) (.cons (.agg (leSt (s := zeroBS) rfl rfl rfl rfl rfl rfl rfl rfl rfl ⟨rfl, by intro i x hx; simp [zeroBS] at hx⟩ R' rfl rfl)) (.cons (leInt rfl) .nil))))
  have hc : c = 0 := by simpa using h2
  have h500 : l.length ≤ 500 := by simp at h; have := RL.n; have := h hc; omega
  rw [if_neg (by omega), if_neg (by omega)] at ha hs' hr
  clear h h2 hc
  obtain ⟨J, hJ⟩ : ∃ J, J = rrunJ ⟨w, fl, op, pr, st, si, nw, ep, nl, outs, good, probe⟩ l nl1 m1 g := ⟨_, rfl⟩
  refine ⟨[1, 2, 5, 8, 9], J, ⟨rfl, l.length, ?_⟩, ?_⟩
  · cbv
    rw [hJ]
    subst hD
    exact ⟨0, ⟨w, fl, op, pr, st, si, nw, ep, nl, outs, good, probe⟩, n, f, [], true, 0, _, 0, rfl, rfl, ⟨Nat.zero_le _, rfl, R, ⟨rfl, by intro i x hx; simp at hx⟩, rfl, rfl, rfl⟩⟩
  intro m vs hp hv
  rw [hJ] at hv
  unfold rrunJ at hv
  obtain ⟨i, s, n2, f2, out, nl2, N, F, I, rfl, rfl, V⟩ := hv
  obtain ⟨w2, fl2, op2, pr2, st2, si2, nw2, ep2, nl4, outs2, good2, probe2⟩ := s
  cbv
  refine br hD (fun h5 => ?_) (fun h5 => ?_) <;> cbv
  · simp at h5
    have hlt : i < l.length := by have := V.I; have := RL.n; omega
    refine ⟨?_, fun j hj => ?_⟩
    · subst hD; have := V.I; have := RL.n; exact ⟨by simp [dn]; omega, by simp [dn]; omega⟩
    have hji : j = i := by have := isJ hD hj; have := V.I; omega
    have hgi := RL.f i l[i] (List.getElem?_eq_getElem hlt)
    have htk : l.take (i + 1) = l.take i ++ [l[i]] := by rw [List.take_add_one, List.getElem?_eq_getElem hlt]; rfl
    have hmany := rmanyF_snoc l[i] (l.take i) ⟨w, fl, op, pr, st, si, nw, ep, nl, outs, good, probe⟩
    rw [V.run, ← htk] at hmany
    obtain ⟨⟨ek, en, ea, ee⟩, hev⟩ : ∃ e : BE, e = l[i] := ⟨_, rfl⟩
    rw [← hev] at hgi hmany
    have hgj : g j = [.int .i64 (.a ek), .int .i64 (.a en), .int .i64 (.a ea), .int .i64 (.a ee)] := by rw [hji, hgi]; rfl
    clear hgi hev htk hji hj
    cbv
    rw [hgj]
    cbv
    have hk := rmanyF_keeps (l.take i) ⟨w, fl, op, pr, st, si, nw, ep, nl, outs, good, probe⟩
    rw [V.run] at hk
    have hk2 : outs2.length ≤ outs.length + (l.take i).length := hk
    have hk3 : (l.take i).length ≤ 500 := by have := List.length_take_le i l; omega
    have hl1 : outs.length ≤ 200 := hl
    refine ⟨⟨_, _, _, _, _, _, _, _, _, outs2, _, _⟩, _, _, ⟨_, _, _, _⟩, rfl, rfl, by subst hD; exact V.rows, by show outs2.length ≤ 1000; omega, fun s3 b3 r3 n3 f3 hs3 hb3 hr3 R3 => ?_⟩
    have e1 : s3 = (rstepF ⟨w2, fl2, op2, pr2, st2, si2, nw2, ep2, nl4, outs2, good2, probe2⟩ ⟨ek, en, ea, ee⟩).1 := by subst hD; exact hs3
    have e2 : b3 = (rstepF ⟨w2, fl2, op2, pr2, st2, si2, nw2, ep2, nl4, outs2, good2, probe2⟩ ⟨ek, en, ea, ee⟩).2.1 := by subst hD; exact hb3
    have e3 : r3 = (rstepF ⟨w2, fl2, op2, pr2, st2, si2, nw2, ep2, nl4, outs2, good2, probe2⟩ ⟨ek, en, ea, ee⟩).2.2 := by subst hD; exact hr3
    have hone : roneF ⟨w2, fl2, op2, pr2, st2, si2, nw2, ep2, nl4, outs2, good2, probe2⟩ ⟨ek, en, ea, ee⟩ = if r3 = 0 then (s3, ⟨0, b3, s3.st, s3.ep⟩) else (⟨w2, fl2, op2, pr2, st2, si2, nw2, ep2, nl4, outs2, good2, probe2⟩, ⟨r3, b3, st2, ep2⟩) := by rw [roneF, e1, e2, e3]
    dsimp only at hmany
    rw [hone] at hmany
    clear e1 e2 e3 hone hs3 hb3 hr3 hk hk2 hk3 hl1
    obtain ⟨w3, fl3, op3, pr3, st3, si3, nw3, ep3, nl5, outs3, good3, probe3⟩ := s3
    cbv
    refine br hD (fun h6 => ?_) (fun h6 => ?_) <;> cbv
    · simp at h6
      intro f4 hf4
      cbv
      refine ⟨?_, fun F' N' hM => ?_⟩
      · subst hD; have := V.outs.n; have hlen := rmanyF_len (l.take i) ⟨w, fl, op, pr, st, si, nw, ep, nl, outs, good, probe⟩; rw [V.run] at hlen; have hk3 : (l.take i).length ≤ 500 := (by have := List.length_take_le i l; omega); have hlen : out.length = (l.take i).length := hlen; exact ⟨rfl, by simp [dn]; omega, by simp [dn]; omega⟩
      have RO1 : Rows rsC (out ++ [⟨r3, b3, st3, ep3⟩]) N' F' := by subst hD; exact rows_snoc V.outs hM (hf4.h 0 _ rfl)
      cbv
      refine ⟨l.length - (i + 1), by have := V.m; omega, ?_⟩
      rw [hJ]
      subst hD
      rw [if_pos h6] at hmany
      subst h6
      refine ⟨i + 1, ⟨w3, fl3, op3, pr3, st3, si3, nw3, ep3, nl5, outs3, good3, probe3⟩, n3, f3, _, _, N', F', _, rfl, rfl, ⟨hlt, hmany, R3, RO1, ?_, ?_, rfl⟩⟩
      · simp [dn]
      · have := V.I; simp [dn]; rw [wrap64 (by omega) (by omega)]; omega
    · simp at h6
      intro f4 hf4
      cbv
      refine ⟨?_, fun F' N' hM => ?_⟩
      · subst hD; have := V.outs.n; have hlen := rmanyF_len (l.take i) ⟨w, fl, op, pr, st, si, nw, ep, nl, outs, good, probe⟩; rw [V.run] at hlen; have hk3 : (l.take i).length ≤ 500 := (by have := List.length_take_le i l; omega); have hlen : out.length = (l.take i).length := hlen; exact ⟨rfl, by simp [dn]; omega, by simp [dn]; omega⟩
      have RO1 : Rows rsC (out ++ [⟨r3, b3, st2, ep2⟩]) N' F' := by subst hD; exact rows_snoc V.outs hM (hf4.h 0 _ rfl)
      cbv
      refine ⟨l.length - (i + 1), by have := V.m; omega, ?_⟩
      rw [hJ]
      subst hD
      rw [if_neg h6] at hmany
      refine ⟨i + 1, ⟨w2, fl2, op2, pr2, st2, si2, nw2, ep2, nl4, outs2, good2, probe2⟩, n2, f2, _, _, N', F', _, rfl, rfl, ⟨hlt, hmany, V.rows, RO1, ?_, ?_, rfl⟩⟩
      · simp [dn]
      · have := V.I; simp [dn]; rw [wrap64 (by omega) (by omega)]; omega
  · simp at h5
    have hi : i = l.length := by have := V.I; have := V.le; have := RL.n; omega
    have hrun := V.run
    rw [hi, List.take_length] at hrun
    rw [hrun] at ha hs' 
    have hnl := V.nl
    have hout := V.outs
    have hrows := V.rows
    have hlen := rmanyF_len l ⟨w, fl, op, pr, st, si, nw, ep, nl, outs, good, probe⟩
    rw [hrun] at hlen
    subst hD ha hs' hr
    exact finV (.tup (.cons (leRow (by rw [han]; show nl2 = _; rw [hnl, hi, ← hlen]; exact isEmpty_dec _) hout RA) (.cons (.agg (leSt (s := ⟨w2, fl2, op2, pr2, st2, si2, nw2, ep2, nl4, outs2, good2, probe2⟩) rfl rfl rfl rfl rfl rfl rfl rfl rfl hrows R' rfl rfl)) (.cons (leInt rfl) .nil))))
end Go.Proofs.YtkhbbppkghcbeaaDoor
namespace Go.Proofs.YtkhbbppkghcbeaaDoor
open Go.Sx
set_option maxHeartbeats 2000000
/-- Equal but for how nothing is kept. -/
def Eqv (s t : BS) : Prop := openF s = openF t
theorem Eqv.out {s t : BS} (h : Eqv s t) : ∃ b, t = ⟨s.w, s.fl, s.op, s.pr, s.st, s.since, s.now, s.ep, b, s.outs, s.good, s.probe⟩ := by
  obtain ⟨w, fl, op, pr, st, si, nw, ep, nl, outs, good, probe⟩ := s
  obtain ⟨w2, fl2, op2, pr2, st2, si2, nw2, ep2, nl2, outs2, good2, probe2⟩ := t
  simp only [Eqv, openF, BS.mk.injEq] at h
  obtain ⟨rfl, rfl, rfl, rfl, rfl, rfl, rfl, rfl, -, rfl, rfl, rfl⟩ := h
  exact ⟨_, rfl⟩
theorem Eqv.check {s t : BS} (h : Eqv s t) : checkF s = checkF t := by
  obtain ⟨b, rfl⟩ := h.out
  rfl
theorem outcomeF_eqv (s : BS) (b g : Bool) : outcomeF ⟨s.w, s.fl, s.op, s.pr, s.st, s.since, s.now, s.ep, b, s.outs, s.good, s.probe⟩ g = outcomeF s g := rfl
theorem endF_eqv (s : BS) (b : Bool) (e : BE) : Eqv (endF s e).1 (endF ⟨s.w, s.fl, s.op, s.pr, s.st, s.since, s.now, s.ep, b, s.outs, s.good, s.probe⟩ e).1 ∧ (endF s e).2 = (endF ⟨s.w, s.fl, s.op, s.pr, s.st, s.since, s.now, s.ep, b, s.outs, s.good, s.probe⟩ e).2 := by
  unfold endF
  simp only [outcomeF_eqv]
  (repeat' split) <;> simp_all [Eqv, openF, turnF]
theorem restF_eqv (s : BS) (b : Bool) (e : BE) : Eqv (restF s e).1 (restF ⟨s.w, s.fl, s.op, s.pr, s.st, s.since, s.now, s.ep, b, s.outs, s.good, s.probe⟩ e).1 ∧ (restF s e).2 = (restF ⟨s.w, s.fl, s.op, s.pr, s.st, s.since, s.now, s.ep, b, s.outs, s.good, s.probe⟩ e).2 := by
  have h := endF_eqv s b e
  unfold restF
  generalize endF s e = x at *
  generalize endF ⟨s.w, s.fl, s.op, s.pr, s.st, s.since, s.now, s.ep, b, s.outs, s.good, s.probe⟩ e = y at *
  obtain ⟨h1, h2⟩ := h
  have h3 : x.1.ep = y.1.ep := by obtain ⟨c, hc⟩ := h1.out; rw [hc]
  simp only [h2, h3]
  (repeat' split) <;> simp_all [Eqv, openF, turnF]
theorem applyF_eqv {s t : BS} (h : Eqv s t) (e : BE) : Eqv (applyF s e).1 (applyF t e).1 ∧ (applyF s e).2 = (applyF t e).2 := by
  obtain ⟨b, rfl⟩ := h.out
  unfold applyF
  by_cases g1 : checkEvF e ≠ 0
  · rw [if_pos g1, if_pos g1]; exact ⟨h, rfl⟩
  by_cases g2 : e.now < s.now
  · rw [if_neg g1, if_neg g1, if_pos g2, if_pos g2]; exact ⟨h, rfl⟩
  rw [if_neg g1, if_neg g1, if_neg g2, if_neg g2]
  by_cases g3 : s.st = 1 ∧ IntKind.i64.wrap (s.since + s.op) ≤ e.now
  · unfold passF
    dsimp only
    rw [if_pos g3, if_pos g3]
    exact ⟨rfl, rfl⟩
  · unfold passF
    dsimp only
    rw [if_neg g3, if_neg g3]
    exact restF_eqv ⟨s.w, s.fl, s.op, s.pr, s.st, s.since, e.now, s.ep, s.nl, s.outs, s.good, s.probe⟩ b e
/-- Valid states stay valid. -/
theorem failsF_snoc (l : List Bool) (g : Bool) : failsF (l ++ [g]) = failsF l + if g then 0 else 1 := by
  simp only [failsF, List.filter_append, List.length_append]
  cases g <;> simp
theorem failsF_drop (l : List Bool) : failsF (l.drop 1) ≤ failsF l := by
  cases l with
  | nil => simp
  | cons x l => simp only [failsF, List.drop_succ_cons, List.drop_zero, List.filter_cons]; split <;> simp <;> omega
def Good (s : BS) : Prop := ccF s.w s.fl s.op s.pr = 0 ∧ rightF s
theorem good_iff (s : BS) : checkF s = 0 ↔ Good s := by
  constructor
  · exact checkF_ok
  · rintro ⟨h1, h2⟩
    simp [checkF, h1, h2]
theorem turn_good {s : BS} {st si : Int} (hc : ccF s.w s.fl s.op s.pr = 0) (h0 : 0 ≤ si) (h1 : si ≤ s.now) (h2 : s.now ≤ 1000000000000) (h3 : 1 ≤ s.ep) (h4 : s.ep < 1000000000) (h5 : st = 0 ∨ (st = 1 ∧ si = s.now) ∨ st = 2) : Good (turnF s st si) := by
  have hcc := ccF_ok hc
  refine ⟨hc, ?_⟩
  have w1 : IntKind.i64.wrap (s.ep + 1) = s.ep + 1 := wrap64 (by omega) (by omega)
  have w2 : IntKind.i64.wrap (si + s.op) = si + s.op := wrap64 (by omega) (by omega)
  simp only [rightF, turnF, w1, w2]
  refine ⟨by omega, ?_⟩
  rcases h5 with rfl | ⟨rfl, rfl⟩ | rfl
  · left; simp [failsF]; omega
  · right; left; simp; omega
  · right; right; simp; omega
theorem turn_ep {s : BS} {st si : Int} (h3 : 1 ≤ s.ep) (h4 : s.ep ≤ 1000000000) : (turnF s st si).ep = s.ep + 1 := by
  simp only [turnF]
  exact wrap64 (by omega) (by omega)
theorem end_good {s : BS} {e : BE} (h : Good s) (h1 : (endF s e).2 = 0) (h2 : ¬ 1000000000 < (endF s e).1.ep) : Good (endF s e).1 := by
  obtain ⟨hc, hr⟩ := h
  have hcc := ccF_ok hc
  have hr' := hr
  simp only [rightF] at hr
  have tg : ∀ (s2 : BS) (st : Int), s2.w = s.w → s2.fl = s.fl → s2.op = s.op → s2.pr = s.pr → s2.now = s.now → s2.ep = s.ep → (st = 0 ∨ st = 1) → ¬ 1000000000 < (turnF s2 st s.now).ep → Good (turnF s2 st s.now) := by
    intro s2 st e1 e2 e3 e4 e5 e6 hst hep
    rw [turn_ep (by omega) (by omega)] at hep
    exact turn_good (by rw [e1, e2, e3, e4]; exact hc) (by omega) (by omega) (by omega) (by omega) (by omega) (by rcases hst with h | h; exact .inl h; exact .inr (.inl ⟨h, e5.symm⟩))
  unfold endF at h1 h2 ⊢
  by_cases g1 : s.st = 0
  · simp only [g1, if_true] at h2 ⊢
    by_cases g2 : e.kind = 4
    · simp only [g2, if_true]; exact ⟨hc, hr'⟩
    · simp only [g2, if_false] at h2 ⊢
      obtain ⟨l1, hl1⟩ : ∃ l1, l1 = if (s.outs.length : Int) = s.w then s.outs.drop 1 else s.outs := ⟨_, rfl⟩
      have hlen : (l1.length : Int) + 1 ≤ s.w := by
        rw [hl1]; split
        · simp; omega
        · omega
      have hf : failsF l1 < s.fl := by
        have := failsF_drop s.outs
        rw [hl1]; split <;> omega
      rw [outcomeF_eq s _ l1 hl1] at h2 ⊢
      by_cases g3 : failsF (l1 ++ [e.kind == 2]) = s.fl
      · simp only [g3, if_true] at h2 ⊢
        exact tg _ 1 rfl rfl rfl rfl rfl rfl (.inr rfl) h2
      · simp only [g3, if_false] at h2 ⊢
        refine ⟨hc, ?_⟩
        have := failsF_snoc l1 (e.kind == 2)
        simp only [rightF]
        refine ⟨by omega, .inl ⟨g1, by omega, by omega, by simp; omega, ?_⟩⟩
        rw [this] at g3 ⊢
        split at g3 <;> simp_all <;> omega
  · by_cases g2 : s.st = 1 ∨ s.probe ≠ e.att
    · simp [g1, g2] at h1
    · simp only [g1, g2, if_false] at h1 h2 ⊢
      by_cases g3 : e.kind = 3
      · simp only [g3, if_true] at h2 ⊢
        exact tg _ 1 rfl rfl rfl rfl rfl rfl (.inr rfl) h2
      · simp only [g3, if_false] at h2 ⊢
        have w1 : IntKind.i64.wrap (s.good + 1) = s.good + 1 := wrap64 (by omega) (by omega)
        rw [w1] at h2 ⊢
        obtain ⟨q, hq⟩ : ∃ q, q = (if e.kind = 2 then s.good + 1 else s.good) := ⟨_, rfl⟩
        rw [← hq] at h2 ⊢
        by_cases g4 : q = s.pr
        · simp only [g4, if_true] at h2 ⊢
          exact tg _ 0 rfl rfl rfl rfl rfl rfl (.inl rfl) h2
        · simp only [g4, if_false] at h2 ⊢
          refine ⟨hc, ?_⟩
          simp only [rightF]
          split at hq <;> omega
theorem pass_good {s : BS} {now : Int} (h : Good s) (h1 : s.now ≤ now) (h2 : now ≤ 1000000000000) (h3 : ¬ 1000000000 < (passF s now).ep) : Good (passF s now) := by
  obtain ⟨hc, hr⟩ := h
  have hcc := ccF_ok hc
  simp only [rightF] at hr
  have w2 : IntKind.i64.wrap (s.since + s.op) = s.since + s.op := wrap64 (by omega) (by omega)
  unfold passF at h3 ⊢
  simp only [w2] at h3 ⊢
  by_cases g : s.st = 1 ∧ s.since + s.op ≤ now
  · simp only [g, and_self, if_true] at h3 ⊢
    have he := turn_ep (s := ⟨s.w, s.fl, s.op, s.pr, s.st, s.since, now, s.ep, s.nl, s.outs, s.good, s.probe⟩) (st := 2) (si := s.since + s.op) (by simp only; omega) (by simp only; omega)
    rw [g.1] at he
    rw [he] at h3
    exact turn_good hc (by omega) (by simp only; omega) (by simp only; omega) (by simp only; omega) (by simp only at h3 ⊢; omega) (.inr (.inr rfl))
  · simp only [g, if_false] at h3 ⊢
    refine ⟨hc, ?_⟩
    simp only [rightF, w2]
    rw [w2] at hr
    omega
theorem apply_good {s : BS} {e : BE} (h : Good s) (h1 : (applyF s e).2.2 = 0) : Good (applyF s e).1 := by
  unfold applyF at h1 ⊢
  by_cases g1 : checkEvF e = 0
  · simp only [g1, ne_eq, not_true_eq_false, if_false] at h1 ⊢
    have he1 : 0 ≤ e.now ∧ e.now ≤ 1000000000000 ∧ 1 ≤ e.kind ∧ e.kind ≤ 5 ∧ (1 ≤ e.kind ∧ e.kind ≤ 4 → 1 ≤ e.att ∧ e.att ≤ 1000000000) := by
      unfold checkEvF at g1
      repeat' split at g1
      all_goals omega
    by_cases g2 : e.now < s.now
    · simp [g2] at h1
    · simp only [g2, if_false] at h1 ⊢
      by_cases g3 : 1000000000 < (passF s e.now).ep
      · simp [restF, g3] at h1
      · have hp := pass_good h (by omega) (by omega) g3
        generalize passF s e.now = t at *
        unfold restF at h1 ⊢
        simp only [g3, if_false] at h1 ⊢
        by_cases k5 : e.kind = 5
        · simp only [k5, if_true]; exact hp
        simp only [k5, if_false] at h1 ⊢
        by_cases k1 : e.kind = 1 ∧ t.st = 2
        · rw [if_pos k1] at h1 ⊢
          by_cases g4 : t.probe ≠ 0
          · rw [if_pos g4]; exact hp
          · rw [if_neg g4]
            obtain ⟨hc, hr⟩ := hp
            refine ⟨hc, ?_⟩
            have hee := he1.2.2.2.2 (by omega)
            simp only [rightF] at hr ⊢
            omega
        rw [if_neg k1] at h1 ⊢
        by_cases k2 : e.kind = 1
        · simp only [k2, if_true]; exact hp
        simp only [k2, if_false] at h1 ⊢
        by_cases k3 : e.ep = t.ep
        · simp only [k3, if_true] at h1 ⊢
          by_cases k4 : (endF t e).2 ≠ 0
          · simp [k4] at h1
          · simp only [k4, if_false] at h1 ⊢
            by_cases k6 : 1000000000 < (endF t e).1.ep
            · simp [k6] at h1
            · simp only [k6, if_false]
              exact end_good hp (by simpa using k4) k6
        · simp only [k3, if_false]; exact hp
  · simp [g1] at h1
end Go.Proofs.YtkhbbppkghcbeaaDoor
namespace Go.Proofs.YtkhbbppkghcbeaaDoor
open Go.Sx
set_option maxRecDepth 10000
set_option maxHeartbeats 1000000
def spSteps : FSpec := fun _ xs ls K => ∃ (l : List RS) (nl : Bool) (n : Int) (f : Nat → List SV) (nl2 : Bool) (m : Int) (g : Nat → List SV), xs = [.sl (.a nl) (.a n) 4 f, .sl (.a nl2) (.a m) 4 g] ∧ ls = [] ∧ Rows rsC l n f ∧ Rows rsC l m g ∧ l.length ≤ 1000000 ∧ K (.bool (.a true)) []
def stepsJ (l : List RS) (nl : Bool) (n : Int) (f : Nat → List SV) (nl2 : Bool) (k : Int) (g : Nat → List SV) (m : Nat) (vs : List (Option SV)) (hp : List Hl) : Prop :=
  ∃ (i : Nat) (I : Int), vs = [some (.sl (.a nl) (.a n) 4 f), some (.sl (.a nl2) (.a k) 4 g), some (.int .i64 (.a I))] ∧ hp = [] ∧ IInv l.length i I m
theorem steps_ok : FnOk Tryd.prog gl 14 spSteps := by
  refine fnOk (gh := []) mixed cxOk tabNil Tryd.func14 (by kernel_rfl) (by kernel_rfl) ?_
  intro xs ls K h
  unfold spSteps at h
  obtain ⟨l, nl, n, f, nl2, k, g, rfl, rfl, R, R2, hl, h⟩ := h
  refine ⟨_, _, h, fun D hD => ?_⟩
  clear h
  have hnk : n = k := R.n.trans R2.n.symm
  subst hnk
  cbv
  refine br hD (fun h => ?_) (fun h => ?_) <;> cbv
  · simp at h
  clear h
  obtain ⟨J, hJ⟩ : ∃ J, J = stepsJ l nl n f nl2 n g := ⟨_, rfl⟩
  refine ⟨[0, 1, 5], J, ⟨rfl, l.length, ?_⟩, ?_⟩
  · cbv
    rw [hJ]
    subst hD
    exact ⟨0, _, rfl, rfl, ⟨Nat.zero_le _, rfl, rfl⟩⟩
  intro m vs hp h
  rw [hJ] at h
  unfold stepsJ at h
  obtain ⟨i, I, rfl, rfl, V⟩ := h
  cbv
  refine br hD (fun h => ?_) (fun h => ?_) <;> cbv
  · have hlt : i < l.length := by simp at h; have := V.I; have := R.n; omega
    refine ⟨?_, fun j hj => ?_⟩
    · have hn := R.n; have hI := V.I; subst hD; exact ⟨by simp [dn]; omega, by simp [dn]; omega⟩
    have hji : j = i := by have := isJ hD hj; have := V.I; omega
    have hfi := R.f i l[i] (List.getElem?_eq_getElem hlt)
    have hgi := R2.f i l[i] (List.getElem?_eq_getElem hlt)
    generalize l[i] = b at hfi hgi
    obtain ⟨b1, b2, b3, b4⟩ := b
    clear hj
    subst hji
    cbv
    rw [hfi, rsC]
    cbv
    refine ⟨?_, fun j2 hj2 => ?_⟩
    · have hn := R.n; have hI := V.I; subst hD; exact ⟨by simp [dn]; omega, by simp [dn]; omega⟩
    have hji : j2 = j := by have := isJ hD hj2; have := V.I; omega
    subst hji
    cbv
    rw [hgi, rsC]
    cbv
    refine br hD (fun h => ?_) (fun h => ?_) <;> cbv
    · simp at h
    refine ⟨l.length - (j2 + 1), ?_, ?_⟩
    · have := V.m; omega
    cbv
    rw [hJ]
    subst hD
    refine ⟨j2 + 1, _, rfl, rfl, ⟨hlt, ?_, rfl⟩⟩
    have h3 := V.I
    simp [dn]
    rw [wrap64 (by omega) (by omega)]; omega
  · refine finBool hD ?_
    rfl
def spExample : FSpec := fun _ xs ls K => xs = [] ∧ ls = [] ∧ K (.agg [.int .i64 (.a 3), .int .i64 (.a 2), .int .i64 (.a 100), .int .i64 (.a 1)]) []
theorem example_ok : FnOk Tryd.prog gl 29 spExample := by
  refine fnOk (gh := []) mixed cxOk tabNil Tryd.func29 (by kernel_rfl) (by kernel_rfl) ?_
  intro xs ls K h
  unfold spExample at h
  obtain ⟨rfl, rfl, h⟩ := h
  refine ⟨_, _, h, fun D hD => ?_⟩
  clear h
  cbv
  subst hD
  exact fin_eq rfl rfl
def exEvents : List BE := [⟨1, 0, 1, 0⟩, ⟨3, 5, 1, 1⟩, ⟨2, 6, 2, 1⟩, ⟨3, 7, 3, 1⟩, ⟨1, 106, 4, 0⟩, ⟨1, 107, 5, 0⟩, ⟨1, 108, 6, 0⟩, ⟨2, 109, 1, 1⟩, ⟨2, 110, 6, 3⟩, ⟨2, 111, 5, 3⟩]
def spEvents : FSpec := fun _ xs ls K => xs = [] ∧ ls = [] ∧ ∀ (n : Int) (f : Nat → List SV), Rows evC exEvents n f → K (.sl (.a false) (.a n) 4 f) []
def rowE (l : List BE) (i : Nat) : List SV := evC (l.getD i ⟨0, 0, 0, 0⟩)
theorem rowE_ok (l : List BE) : Rows evC l l.length (rowE l) := ⟨rfl, fun i x h => by simp [rowE, List.getD_eq_getElem?_getD, h]⟩
theorem events_ok : FnOk Tryd.prog gl 30 spEvents := by
  refine fnOk (gh := []) mixed cxOk tabNil Tryd.func30 (by kernel_rfl) (by kernel_rfl) ?_
  intro xs ls K h
  unfold spEvents at h
  obtain ⟨rfl, rfl, h⟩ := h
  refine ⟨_, _, h 10 (rowE exEvents) (rowE_ok exEvents), fun D hD => ?_⟩
  clear h
  cbv
  intro f hf
  cbv
  subst hD
  refine finV (leRow (l := exEvents) rfl ⟨rfl, fun i x hx => ?_⟩ (rowE_ok exEvents))
  have hlt : i < 10 := (List.getElem?_eq_some_iff.1 hx).1
  rcases (by omega : i = 0 ∨ i = 1 ∨ i = 2 ∨ i = 3 ∨ i = 4 ∨ i = 5 ∨ i = 6 ∨ i = 7 ∨ i = 8 ∨ i = 9) with rfl | rfl | rfl | rfl | rfl | rfl | rfl | rfl | rfl | rfl
  all_goals
    rw [hf.h _ _ rfl]
    simp only [exEvents] at hx
    simp at hx
    subst hx
    rfl
end Go.Proofs.YtkhbbppkghcbeaaDoor
namespace Go.Proofs.YtkhbbppkghcbeaaDoor
open Go.Sx
set_option maxRecDepth 10000
set_option maxHeartbeats 2000000
def spTrue : FSpec := fun _ xs ls K => xs = [] ∧ ls = [] ∧ K (.bool (.a true)) []
def exSteps : List RS := [⟨0, true, 0, 1⟩, ⟨0, false, 0, 1⟩, ⟨0, false, 0, 1⟩, ⟨0, false, 1, 2⟩, ⟨0, false, 1, 2⟩, ⟨0, true, 2, 3⟩, ⟨0, false, 2, 3⟩, ⟨0, false, 2, 3⟩, ⟨4, false, 2, 3⟩, ⟨0, false, 0, 4⟩]
theorem exNew : newF 3 2 100 1 = (⟨3, 2, 100, 1, 0, 0, 0, 1, true, [], 0, 0⟩, 0) := by kernel_rfl
theorem exRun : ∃ s, runF ⟨3, 2, 100, 1, 0, 0, 0, 1, true, [], 0, 0⟩ exEvents = (exSteps, s, 0) ∧ s.since = 111 ∧ s.now = 111 := ⟨⟨3, 2, 100, 1, 0, 111, 111, 4, true, [], 0, 0⟩, by kernel_rfl, rfl, rfl⟩
def shownJ (nl : Bool) (n : Int) (f : Nat → List SV) (H : List Hl) (m : Nat) (vs : List (Option SV)) (hp : List Hl) : Prop :=
  ∃ (i : Nat) (I : Int), vs = [some (.sl (.a nl) (.a n) 4 f), some (.ptr 2 0), some (.int .i64 (.a I))] ∧ hp = H ∧ IInv 10 i I m
theorem shown_ok : FnOk Tryd.prog gl 11 spTrue := by
  refine fnOk (gh := []) mixed cxOk (tabCons example_ok (tabCons events_ok (tabCons new_ok (tabCons run_ok tabNil)))) Tryd.func11 (by kernel_rfl) (by kernel_rfl) ?_
  intro xs ls K h
  unfold spTrue at h
  obtain ⟨rfl, rfl, h⟩ := h
  refine ⟨_, _, h, fun D hD => ?_⟩
  clear h
  cbv
  refine ⟨_, _, _, _, rfl, rfl, fun s1 r1 n1 f1 hs1 hr1 R1 => ?_⟩
  have e1 := exNew
  have hs1 : s1 = ⟨3, 2, 100, 1, 0, 0, 0, 1, true, [], 0, 0⟩ := by subst hD; exact hs1.trans (congrArg Prod.fst e1)
  have hr1 : r1 = 0 := by subst hD; exact hr1.trans (congrArg Prod.snd e1)
  subst hs1 hr1
  clear e1
  cbv
  intro m g RE
  cbv
  refine ⟨⟨_, _, _, _, _, _, _, _, _, [], _, _⟩, _, _, exEvents, _, _, _, rfl, rfl, by subst hD; exact R1, by simp, by subst hD; exact RE, fun a s2 r2 an af n2 f2 ha hs2 hr2 RA R2 => ?_⟩
  obtain ⟨s, hx1, hx2, hx3⟩ := exRun
  have ha : a = exSteps := by subst hD; exact ha.trans (congrArg Prod.fst hx1)
  have hs2 : s2 = s := by subst hD; exact hs2.trans (congrArg (fun x => x.2.1) hx1)
  have hr2 : r2 = 0 := by subst hD; exact hr2.trans (congrArg (fun x => x.2.2) hx1)
  subst hs2 hr2
  obtain ⟨b, hb⟩ : ∃ b, b = a.isEmpty := ⟨_, rfl⟩
  rw [← hb]
  subst ha
  clear hx1
  obtain ⟨w2, fl2, op2, pr2, st2, si2, nw2, ep2, nl2, outs2, good2, probe2⟩ := s2
  have hx2 : si2 = 111 := hx2
  have hx3 : nw2 = 111 := hx3
  subst hx2 hx3
  clear RE R1 hb
  cbv
  have hn : an = 10 := RA.n
  refine br hD (fun h => ?_) (fun h => ?_) <;> cbv
  · simp [hn] at h
  clear h
  obtain ⟨H, hH⟩ : ∃ H, H = [Hl.blk 26 (stC ⟨3, 2, 100, 1, 0, 0, 0, 1, true, [], 0, 0⟩ n1 f1), .blk 26 (stC ⟨w2, fl2, op2, pr2, st2, 111, 111, ep2, nl2, outs2, good2, probe2⟩ n2 f2), .blk 65 (exSteps.flatMap rsC)] := ⟨_, rfl⟩
  obtain ⟨J, hJ⟩ : ∃ J, J = shownJ b an af H := ⟨_, rfl⟩
  refine ⟨[3, 6, 7], J, ⟨rfl, 10, ?_⟩, ?_⟩
  · cbv
    rw [hJ, hH]
    subst hD
    exact ⟨0, _, rfl, rfl, ⟨Nat.zero_le _, rfl, rfl⟩⟩
  intro m vs hp h
  rw [hJ] at h
  unfold shownJ at h
  obtain ⟨i, I, rfl, rfl, V⟩ := h
  subst hH
  cbv
  refine br hD (fun h => ?_) (fun h => ?_) <;> cbv
  · have hlt : i < 10 := by simp at h; have := V.I; omega
    refine ⟨?_, fun j hj => ?_⟩
    · have hI := V.I; subst hD; exact ⟨by simp [dn]; omega, by simp [dn]; omega⟩
    have hji : j = i := by have := isJ hD hj; have := V.I; omega
    have key : ∀ k, IsJ k (D.i (.a I)) → k = i := fun k hk => by have := isJ hD hk; have := V.I; omega
    have hb10 : InB (D.i (.a I)) 10 := by have hI := V.I; subst hD; exact ⟨by simp [dn]; omega, by simp [dn]; omega⟩
    clear hj
    have hlj : j < 10 := by omega
    obtain ⟨x, hx⟩ : ∃ x, exSteps[j]? = some x := ⟨exSteps[j]'(by simpa [exSteps] using hlj), List.getElem?_eq_getElem _⟩
    have hf := RA.f j x hx
    rcases (by omega : j = 0 ∨ j = 1 ∨ j = 2 ∨ j = 3 ∨ j = 4 ∨ j = 5 ∨ j = 6 ∨ j = 7 ∨ j = 8 ∨ j = 9) with rfl | rfl | rfl | rfl | rfl | rfl | rfl | rfl | rfl | rfl
    all_goals
      simp [exSteps] at hx
      subst hx
      rw [hf, rsC]
      clear hf
      cbv
      refine ⟨?_, fun h => ?_, fun h => ?_, fun h => ?_, fun h => ?_, fun h => ?_, fun h => ?_, fun h => ?_, fun h => ?_, fun h => ?_, fun h => ?_, trivial⟩
      · exact hb10
      all_goals
        have hk := key _ h
        first
        | (exfalso; omega)
        | skip
      clear h hk
      cbv
      refine br hD (fun h => ?_) (fun h => ?_) <;> cbv
      · simp at h
      refine ⟨10 - (i + 1), by have := V.m; omega, ?_⟩
      cbv
      rw [hJ]
      subst hD
      refine ⟨i + 1, _, rfl, rfl, ⟨hlt, ?_, rfl⟩⟩
      have h3 := V.I
      simp [dn]
      rw [wrap64 (by omega) (by omega)]; omega
  · refine finBool hD ?_
    rfl
end Go.Proofs.YtkhbbppkghcbeaaDoor
namespace Go.Proofs.YtkhbbppkghcbeaaDoor
open Go.Sx
set_option maxRecDepth 10000
set_option maxHeartbeats 2000000
def s0 : BS := ⟨3, 2, 100, 1, 0, 0, 0, 1, true, [], 0, 0⟩
theorem kn1 : (stepF s0 ⟨5, 0, 1, 0⟩).2.2 = 2 := by kernel_rfl
theorem kn2 : (stepF s0 ⟨1, 0, 0, 0⟩).2.2 = 7 := by kernel_rfl
theorem kn3 : (stepF s0 ⟨6, 0, 0, 0⟩).2.2 = 2 := by kernel_rfl
theorem kn4 : (nextF s0).2 = 4 := by kernel_rfl
theorem kn5 : (newF 3 4 1 1).2 = 7 := by kernel_rfl
theorem known_ok : FnOk Tryd.prog gl 10 spTrue := by
  refine fnOk (gh := []) mixed cxOk (tabCons shown_ok (tabCons example_ok (tabCons new_ok (tabCons step_ok (tabCons next_ok tabNil))))) Tryd.func10 (by kernel_rfl) (by kernel_rfl) ?_
  intro xs ls K h
  unfold spTrue at h
  obtain ⟨rfl, rfl, h⟩ := h
  refine ⟨_, _, h, fun D hD => ?_⟩
  clear h
  cbv
  refine ⟨_, _, _, _, rfl, rfl, fun s1 r1 n1 f1 hs1 hr1 R1 => ?_⟩
  have e1 := exNew
  have hs1 : s1 = s0 := by subst hD; exact hs1.trans (congrArg Prod.fst e1)
  have hr1 : r1 = 0 := by subst hD; exact hr1.trans (congrArg Prod.snd e1)
  subst hs1 hr1
  clear e1
  cbv
  refine ⟨⟨_, _, _, _, _, _, _, _, _, [], _, _⟩, _, _, ⟨_, _, _, _⟩, rfl, rfl, by subst hD; exact R1, by simp, fun s2 b2 r2 n2 f2 _ _ hr2 R2 => ?_⟩
  have hr2 : r2 = 2 := by subst hD; exact hr2.trans kn1
  subst hr2
  cbv
  refine ⟨⟨_, _, _, _, _, _, _, _, _, [], _, _⟩, _, _, ⟨_, _, _, _⟩, rfl, rfl, by subst hD; exact R1, by simp, fun s3 b3 r3 n3 f3 _ _ hr3 R3 => ?_⟩
  have hr3 : r3 = 7 := by subst hD; exact hr3.trans kn2
  subst hr3
  cbv
  refine ⟨⟨_, _, _, _, _, _, _, _, _, [], _, _⟩, _, _, ⟨_, _, _, _⟩, rfl, rfl, by subst hD; exact R1, by simp, fun s4 b4 r4 n4 f4 _ _ hr4 R4 => ?_⟩
  have hr4 : r4 = 2 := by subst hD; exact hr4.trans kn3
  subst hr4
  cbv
  refine ⟨⟨_, _, _, _, _, _, _, _, _, [], _, _⟩, _, _, rfl, rfl, by subst hD; exact R1, by simp, fun x5 r5 _ hr5 => ?_⟩
  have hr5 : r5 = 4 := by subst hD; exact hr5.trans kn4
  subst hr5
  cbv
  refine ⟨_, _, _, _, rfl, rfl, fun s6 r6 n6 f6 _ hr6 R6 => ?_⟩
  have hr6 : r6 = 7 := by subst hD; exact hr6.trans kn5
  subst hr6
  cbv
  refine finBool hD ?_
  simp [BT.den, cmpDen]
end Go.Proofs.YtkhbbppkghcbeaaDoor
namespace Go.Proofs.YtkhbbppkghcbeaaDoor
open Go.Sx
set_option maxRecDepth 10000
set_option maxHeartbeats 2000000
def spLawS : FSpec := fun _ xs ls K => ∃ (s : BS) (n : Int) (f : Nat → List SV), xs = [.agg (stC s n f)] ∧ ls = [] ∧ Rows encB s.outs n f ∧ K (.bool (.a true)) []
theorem newF_outs (a b c d : Int) : (newF a b c d).1.outs = [] := by unfold newF; split <;> rfl
theorem checks_ok : FnOk Tryd.prog gl 8 spLawS := by
  refine fnOk (gh := []) mixed cxOk (tabCons shown_ok (tabCons new_ok (tabCons rnew_ok (tabCons next_ok (tabCons rnext_ok (tabCons share_ok (tabCons rshare_ok (tabCons cc_ok (tabCons rcc_ok (tabCons check_ok (tabCons rcheck_ok (tabCons same_ok tabNil)))))))))))) Tryd.func8 (by kernel_rfl) (by kernel_rfl) ?_
  intro xs ls K h
  unfold spLawS at h
  obtain ⟨⟨w, fl, op, pr, st, si, nw, ep, nl, outs, good, probe⟩, n, f, rfl, rfl, R, h⟩ := h
  refine ⟨_, _, h, fun D hD => ?_⟩
  clear h
  cbv
  refine br hD (fun h => ?_) (fun h => ?_) <;> cbv
  · exact finBool hD rfl
  have hl : outs.length ≤ 100 := by simp at h; have hn := R.n; simp at hn; omega
  have hl2 : outs.length ≤ 1000000 := by omega
  clear h
  refine ⟨_, _, _, _, rfl, rfl, fun s1 r1 n1 f1 hs1 hr1 R1 => ?_⟩
  obtain ⟨w1, fl1, op1, pr1, st1, si1, nw1, ep1, nl1, outs1, good1, probe1⟩ := s1
  cbv
  refine ⟨_, _, _, _, rfl, rfl, fun s2 r2 n2 f2 hs2 hr2 R2 => ?_⟩
  have he : r2 = r1 := hr2.trans hr1.symm
  have he2 := hs1.trans hs2.symm
  have ho : outs1.length ≤ 1000000 := by have := newF_outs (D.1 (ST.a w)) (D.1 (ST.a fl)) (D.1 (ST.a op)) (D.1 (ST.a pr)); rw [← hs1] at this; have : outs1 = [] := this; rw [this]; simp
  subst he
  clear hs1 hr1 hs2 hr2
  obtain ⟨w2, fl2, op2, pr2, st2, si2, nw2, ep2, nl2, outs2, good2, probe2⟩ := s2
  cbv
  refine ⟨⟨_, _, _, _, _, _, _, _, _, outs, _, _⟩, _, _, rfl, rfl, by subst hD; exact R, hl2, fun x1 y1 hx1 hy1 => ?_⟩
  cbv
  refine ⟨⟨_, _, _, _, _, _, _, _, _, outs, _, _⟩, _, _, rfl, rfl, by subst hD; exact R, hl2, fun x2 y2 hx2 hy2 => ?_⟩
  have e1 : x2 = x1 := hx2.trans hx1.symm
  have e2 : y2 = y1 := hy2.trans hy1.symm
  subst e1 e2
  clear hx1 hy1 hx2 hy2
  cbv
  refine ⟨⟨_, _, _, _, _, _, _, _, _, outs, _, _⟩, _, _, rfl, rfl, by subst hD; exact R, hl2, fun u1 v1 z1 hu1 hv1 hz1 => ?_⟩
  cbv
  refine ⟨⟨_, _, _, _, _, _, _, _, _, outs, _, _⟩, _, _, rfl, rfl, by subst hD; exact R, hl2, fun u2 v2 z2 hu2 hv2 hz2 => ?_⟩
  have e1 : u2 = u1 := hu2.trans hu1.symm
  have e2 : v2 = v1 := hv2.trans hv1.symm
  have e3 : z2 = z1 := hz2.trans hz1.symm
  subst e1 e2 e3
  clear hu1 hv1 hz1 hu2 hv2 hz2
  cbv
  refine ⟨_, _, _, _, rfl, rfl, fun c1 hc1 => ?_⟩
  cbv
  refine ⟨_, _, _, _, rfl, rfl, fun c2 hc2 => ?_⟩
  have e1 : c2 = c1 := hc2.trans hc1.symm
  subst e1
  clear hc1 hc2
  cbv
  refine ⟨⟨_, _, _, _, _, _, _, _, _, outs, _, _⟩, _, _, rfl, rfl, by subst hD; exact R, hl2, fun k1 hk1 => ?_⟩
  cbv
  refine ⟨⟨_, _, _, _, _, _, _, _, _, outs, _, _⟩, _, _, rfl, rfl, by subst hD; exact R, hl2, fun k2 hk2 => ?_⟩
  have e1 : k2 = k1 := hk2.trans hk1.symm
  subst e1
  clear hk1 hk2
  cbv
  simp only [BS.mk.injEq] at he2
  obtain ⟨rfl, rfl, rfl, rfl, rfl, rfl, rfl, rfl, rfl, rfl, rfl, rfl⟩ := he2
  refine ⟨⟨_, _, _, _, _, _, _, _, _, outs1, _, _⟩, ⟨_, _, _, _, _, _, _, _, _, outs1, _, _⟩, _, _, _, _, rfl, rfl, by subst hD; exact R1, by subst hD; exact R2, ho, rfl, ?_⟩
  cbv
  refine ⟨⟨by kernel_rfl⟩, ?_⟩
  cbv
  refine finBool hD ?_
  simp [BT.den, cmpDen]
end Go.Proofs.YtkhbbppkghcbeaaDoor
namespace Go.Proofs.YtkhbbppkghcbeaaDoor
open Go Go.Sx Go.ChangeShapes Go.WideShapes Go.RowKit
set_option maxRecDepth 100000
theorem kOwn : ownKnob Tryd.prog.godebug = none := by kernel_rfl
theorem kLaidOut : laidOutB Tryd.prog = true := by kernel_rfl
theorem kUses : Tryd.prog.globalNamed "spillway/breaker.uses" = some 0 := by kernel_rfl
theorem kUsesT : (Tryd.prog.globals[0]?).map (·.type) = some 78 := by kernel_rfl
theorem kC77 : Tryd.prog.cellsOf 77 = 2 := by kernel_rfl
theorem kC4 : Tryd.prog.cellsOf 4 = 1 := by kernel_rfl
theorem kF77 : (match Tryd.prog.underlying 77 with | some (.struct fs) => fs.toList.map (fun f => (f.offset, f.type)) | _ => []) = [(0, 4), (1, 4)] := by kernel_rfl
abbrev laidV : List (String × DataW Unit) := [("spillway/breaker.uses", Rows.laid_spillway_breaker_uses)]
theorem door_met (os : Os) (args : Array Value) : laidMetH Tryd.prog laidV ((World.doorLaid Tryd.prog 400 os).forCall (fun _ _ => 0) ⟨#[], args, []⟩).memory :=
  laidMetH_of_parts3 (fuel := 8) (laidMet_of_run' 8 (by kernel_rfl) (by kernel_rfl)) (by kernel_rfl) (by kernel_rfl)

/-- Two bools. -/
theorem bool2 {H : Type} {tok : TypeId × Value → H} {W : World} {base : Nat} {spare : Nat → Bool} {held : Bool} {fuel : Nat} {cs : List Value} {a b : Bool} {ps : List MemPlace} (h : DataW.trod tok Tryd.prog W base spare held fuel 77 cs = some (.agg [.lit (.bool a), .lit (.bool b)], ps)) : cs = [.bool a, .bool b] := by
  cases hu : Tryd.prog.underlying 77 with
  | none => have := kF77; rw [hu] at this; cases this
  | some d =>
    cases d with
    | struct fs =>
      have hf := kF77
      rw [hu] at hf
      simp only at hf
      obtain ⟨xs, n, _, hx, hl, hxl, hel⟩ := DataW.trod_struct hu h
      rw [kC77] at hl
      have hs : fs.size = 2 := by have := congrArg List.length hf; simpa using this
      match cs, hl with
      | [c0, c1], _ =>
        have h0 : fs[0]? = some fs[0] := by simp [hs]
        have h1 : fs[1]? = some fs[1] := by simp [hs]
        have f0 : fs[0].offset = 0 ∧ fs[0].type = 4 := by
          have := congrArg (fun l => l[0]?) hf
          simp [hs] at this
          exact this
        have f1 : fs[1].offset = 1 ∧ fs[1].type = 4 := by
          have := congrArg (fun l => l[1]?) hf
          simp [hs] at this
          exact this
        have e0 := hel 0 _ h0
        have e1 := hel 1 _ h1
        rw [f0.1, f0.2, kC4] at e0
        rw [f1.1, f1.2, kC4] at e1
        match xs, hxl, hx, e0, e1 with
        | [x0, x1], _, hx, e0, e1 =>
          simp only [Prod.mk.injEq, DataW.agg.injEq, List.map_cons, List.map_nil, List.cons.injEq] at hx
          simp at e0 e1
          obtain ⟨b0, q0, r0⟩ := DataW.trod_bool Tryd.underlying4 e0
          obtain ⟨b1, q1, r1⟩ := DataW.trod_bool Tryd.underlying4 e1
          simp at q0 q1
          subst q0 q1 r0 r1
          simp at hx
          rw [hx.1.1, hx.1.2]
        | [], hxl, _, _, _ => simp [hs] at hxl
        | [_], hxl, _, _, _ => simp [hs] at hxl
        | _ :: _ :: _ :: _, hxl, _, _, _ => simp [hs] at hxl
    | _ => have := kF77; rw [hu] at this; cases this

theorem gl_of_laid {W : World} (h : laidMetH Tryd.prog laidV W) : ∀ g s, Sx.look g gl = some s → RO (oldI W) W s (.pointer (some ⟨g, 0, none⟩)) := by
  rw [MakeChecks.laidMetH_plain _ _ _ (by kernel_rfl)] at h
  obtain ⟨ps, ⟨g0, t0, cs0, f0, p0, q0, hg0, ht0, hv0, hd0, _, _⟩, _, _⟩ := h
  obtain rfl := Option.some.inj (kUses.symm.trans hg0)
  obtain rfl := Option.some.inj (kUsesT.symm.trans ht0)
  have hcell := World.var?_cell hg0 hv0
  obtain ⟨xs, m1, rfl, hx1, hlen, hn3, hel⟩ := DataW.trod_array Tryd.underlying78 hd0
  rw [kC77] at hel
  simp only [Prod.mk.injEq, Rows.laid_spillway_breaker_uses, DataW.agg.injEq] at hx1
  have hget : ∀ (i : Nat) (d : DataW Unit), [DataW.agg [.lit (.bool false), .lit (.bool false)], .agg [.lit (.bool true), .lit (.bool false)], .agg [.lit (.bool true), .lit (.bool true)], .agg [.lit (.bool true), .lit (.bool true)], .agg [.lit (.bool true), .lit (.bool true)], .agg [.lit (.bool false), .lit (.bool false)]][i]? = some d → i < 6 → ∃ q, xs[i]? = some (d, q) := by
    intro i d hi h6
    rw [hx1.1, List.getElem?_map] at hi
    cases hxi : xs[i]? with
    | none => rw [hxi] at hi; cases hi
    | some x => rw [hxi] at hi; simp at hi; exact ⟨x.2, by rw [← hi]⟩
  have hrow : ∀ i, i < 6 → ∃ a b, (cs0.toList.drop (i * 2)).take 2 = [.bool a, .bool b] ∧ a = decide (1 ≤ i ∧ i ≤ 4) ∧ b = decide (2 ≤ i ∧ i ≤ 4) := by
    intro i hi
    have key : ∀ a b, xs[i]?.map (·.1) = some (.agg [.lit (.bool a), .lit (.bool b)]) → (cs0.toList.drop (i * 2)).take 2 = [.bool a, .bool b] := by
      intro a b hx
      have := hel i hi
      cases hxi : xs[i]? with
      | none => rw [hxi] at hx; cases hx
      | some x =>
        rw [hxi] at hx this
        obtain ⟨x1, x2⟩ := x
        simp at hx
        subst hx
        exact bool2 this
    rcases (by omega : i = 0 ∨ i = 1 ∨ i = 2 ∨ i = 3 ∨ i = 4 ∨ i = 5) with rfl | rfl | rfl | rfl | rfl | rfl
    all_goals
      obtain ⟨q, hq⟩ := hget _ _ rfl hi
      exact ⟨_, _, key _ _ (by rw [hq]; rfl), by decide, by decide⟩
  intro g s hs
  simp only [Sx.look, gl] at hs
  split at hs
  · rename_i e
    have e : 0 = g := by simpa using e
    subst e
    cases hs
    have hc : ∀ i j, i < 6 → j < 2 → cs0[i * 2 + j]? = some (if j = 0 then .bool (decide (1 ≤ i ∧ i ≤ 4)) else .bool (decide (2 ≤ i ∧ i ≤ 4))) := by
      intro i j hi hj
      obtain ⟨a, b, h1, h2, h3⟩ := hrow i hi
      have : ((cs0.toList.drop (i * 2)).take 2)[j]? = cs0[i * 2 + j]? := by
        rw [List.getElem?_take, if_pos hj, List.getElem?_drop, Array.getElem?_toList]
      rw [← this, h1, ← h2, ← h3]
      rcases (by omega : j = 0 ∨ j = 1) with rfl | rfl <;> rfl
    refine .rarr (fun i j => if j = 0 then .bool (decide (1 ≤ i ∧ i ≤ 4)) else .bool (decide (2 ≤ i ∧ i ≤ 4))) rfl (fun i _ => rfl) (fun i j _ _ => by split <;> rfl) (fun i j hi hj => ?_) (fun i j s hi hs => ?_)
    · have := hcell (i * 2 + j)
      rw [hc i j hi hj] at this
      refine ⟨by simpa using this, (cell_lt this).1⟩
    · simp only [usesF] at hs
      match j, hs with
      | 0, hs => simp at hs; subst hs; exact .bool (by simp [BT.den])
      | 1, hs => simp at hs; subst hs; exact .bool (by simp [BT.den])
      | _ + 2, hs => simp at hs
  · cases hs
end Go.Proofs.YtkhbbppkghcbeaaDoor
namespace Go.Proofs.YtkhbbppkghcbeaaDoor
open Go Go.Sx Go.ChangeShapes Go.WideShapes Go.RowKit
set_option maxRecDepth 100000
theorem rowOfL_ok {α : Type} (enc : α → List SV) (l : List α) : Rows enc l l.length (rowOfL enc l) := ⟨rfl, fun i x h => by simp [rowOfL, h]⟩
theorem open2 : OpenT Tryd.prog 2 (fun n : Int => [.int .i64 (.a n)]) := .int Tryd.underlying2
theorem open3 : OpenT Tryd.prog 3 (fun n : Int => [.int .i64 (.a n)]) := .int Tryd.underlying3
theorem open4 : OpenT Tryd.prog 4 encB := .bool Tryd.underlying4
theorem open24 : OpenT Tryd.prog 24 (fun x : {x : Bool × List Bool // x.1 = true → x.2 = []} => slC 1 encB x.1) := .slice Tryd.underlying24 (by kernel_rfl) (by decide) open4
theorem fields23 : OpenF Tryd.prog [(0, 3), (1, 3), (2, 2), (3, 3)] 0 4 (fun x : Int × Int × Int × Int × Unit => [SV.int .i64 (.a x.1), .int .i64 (.a x.2.1), .int .i64 (.a x.2.2.1), .int .i64 (.a x.2.2.2.1)]) := .cons 0 1 3 (by kernel_rfl) open3 (.cons 1 1 2 (by kernel_rfl) open3 (.cons 2 1 1 (by kernel_rfl) open2 (.cons 3 1 0 (by kernel_rfl) open3 .nil)))
theorem open23 : OpenT Tryd.prog 23 (fun x : Int × Int × Int × Int × Unit => [SV.int .i64 (.a x.1), .int .i64 (.a x.2.1), .int .i64 (.a x.2.2.1), .int .i64 (.a x.2.2.2.1)]) := .struct Tryd.underlying23 (by kernel_rfl) (by kernel_rfl) fields23
def ofFields (x : (Int × Int × Int × Int × Unit) × Int × Int × Int × Int × {x : Bool × List Bool // x.1 = true → x.2 = []} × Int × Int × Unit) : BS := ⟨x.1.1, x.1.2.1, x.1.2.2.1, x.1.2.2.2.1, x.2.1, x.2.2.1, x.2.2.2.1, x.2.2.2.2.1, x.2.2.2.2.2.1.1.1, x.2.2.2.2.2.1.1.2, x.2.2.2.2.2.2.1, x.2.2.2.2.2.2.2.1⟩
theorem fields26 : OpenF Tryd.prog [(0, 23), (4, 3), (5, 2), (6, 2), (7, 2), (8, 24), (9, 3), (10, 2)] 0 11 (fun x => stC (ofFields x) (ofFields x).outs.length (rowOfL encB (ofFields x).outs)) := .cons 0 4 7 (by kernel_rfl) open23 (.cons 4 1 6 (by kernel_rfl) open3 (.cons 5 1 5 (by kernel_rfl) open2 (.cons 6 1 4 (by kernel_rfl) open2 (.cons 7 1 3 (by kernel_rfl) open2 (.cons 8 1 2 (by kernel_rfl) open24 (.cons 9 1 1 (by kernel_rfl) open3 (.cons 10 1 0 (by kernel_rfl) open2 .nil)))))))
theorem open26 : OpenT Tryd.prog 26 (fun s : BS => stC s s.outs.length (rowOfL encB s.outs)) :=
  (OpenT.struct Tryd.underlying26 (by kernel_rfl) (by kernel_rfl) fields26).map ofFields fun _ => rfl
theorem fields38 : OpenF Tryd.prog [(0, 3), (1, 2), (2, 2), (3, 2)] 0 4 (fun x : Int × Int × Int × Int × Unit => evC ⟨x.1, x.2.1, x.2.2.1, x.2.2.2.1⟩) := .cons 0 1 3 (by kernel_rfl) open3 (.cons 1 1 2 (by kernel_rfl) open2 (.cons 2 1 1 (by kernel_rfl) open2 (.cons 3 1 0 (by kernel_rfl) open2 .nil)))
theorem open38 : OpenT Tryd.prog 38 evC :=
  (OpenT.struct Tryd.underlying38 (by kernel_rfl) (by kernel_rfl) fields38).map (fun x => (⟨x.1, x.2.1, x.2.2.1, x.2.2.2.1⟩ : BE)) fun _ => rfl
theorem open27 : OpenT Tryd.prog 27 (fun x : {x : Bool × List BE // x.1 = true → x.2 = []} => slC 4 evC x.1) := .slice Tryd.underlying27 (by kernel_rfl) (by decide) open38
theorem ro1 {I : Nat → Nat → Prop} {W : World} {s : SV} {v : Value} (h : RO I W s v) : ∀ (i : Nat) (s' : SV) (v' : Value), [s][i]? = some s' → [v][i]? = some v' → RO I W s' v'
  | 0, _, _, a, b => by simp at a b; subst a b; exact h
  | _ + 1, _, _, a, _ => by simp at a
theorem ro2 {I : Nat → Nat → Prop} {W : World} {s t : SV} {v u : Value} (h : RO I W s v) (k : RO I W t u) : ∀ (i : Nat) (s' : SV) (v' : Value), [s, t][i]? = some s' → [v, u][i]? = some v' → RO I W s' v'
  | 0, _, _, a, b => by simp at a b; subst a b; exact h
  | 1, _, _, a, b => by simp at a b; subst a b; exact k
  | _ + 2, _, _, a, _ => by simp at a
theorem ro3 {I : Nat → Nat → Prop} {W : World} {s t r : SV} {v u x : Value} (h : RO I W s v) (k : RO I W t u) (l : RO I W r x) : ∀ (i : Nat) (s' : SV) (v' : Value), [s, t, r][i]? = some s' → [v, u, x][i]? = some v' → RO I W s' v'
  | 0, _, _, a, b => by simp at a b; subst a b; exact h
  | 1, _, _, a, b => by simp at a b; subst a b; exact k
  | 2, _, _, a, b => by simp at a b; subst a b; exact l
  | _ + 3, _, _, a, _ => by simp at a
end Go.Proofs.YtkhbbppkghcbeaaDoor
