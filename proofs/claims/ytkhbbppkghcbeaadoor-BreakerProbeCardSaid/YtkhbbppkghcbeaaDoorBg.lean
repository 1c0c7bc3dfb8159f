/- Part of the proofs of the statements about the breaker (layer 17): contracts of functions; it has no conditions of its own. -/
import Derived.Test.YtkhbbppkghcbeaaDoorBf
set_option linter.unusedVariables false
set_option linter.unusedSimpArgs false
namespace Go.Proofs.YtkhbbppkghcbeaaDoor
open Go.Sx
set_option maxRecDepth 10000
set_option maxHeartbeats 2000000
def lastW (w : Int) (l : List Bool) : List Bool := l.drop (l.length - w.toNat)
theorem lastW_len (w : Int) (hw : 1 ≤ w) (l : List Bool) : ((lastW w l).length : Int) ≤ w := by
  simp only [lastW, List.length_drop]; omega
theorem lastW_snoc (w : Int) (hw : 1 ≤ w) (m : List Bool) (g : Bool) : lastW w (m ++ [g]) = (if ((lastW w m).length : Int) = w then (lastW w m).drop 1 else lastW w m) ++ [g] := by
  by_cases h : w ≤ (m.length : Int)
  · have h1 : ((lastW w m).length : Int) = w := by simp only [lastW, List.length_drop]; omega
    rw [if_pos h1]
    simp only [lastW, List.drop_drop, List.length_append, List.length_cons, List.length_nil]
    rw [List.drop_append_of_le_length (by omega)]
    congr 2
    omega
  · have h1 : ¬ ((lastW w m).length : Int) = w := by simp only [lastW, List.length_drop]; omega
    rw [if_neg h1]
    simp only [lastW, List.length_append, List.length_cons, List.length_nil]
    rw [show m.length + (0 + 1) - w.toNat = 0 by omega, show m.length - w.toNat = 0 by omega]
    rfl
theorem nextW_len (w : Int) (hw : 1 ≤ w) (m : List Bool) (h : (m.length : Int) ≤ w) : (((if (m.length : Int) = w then m.drop 1 else m).length : Nat) : Int) + 1 ≤ w := by
  split
  · simp; omega
  · omega
theorem passF_no {s : BS} {now : Int} (h : ¬ (s.st = 1 ∧ IntKind.i64.wrap (s.since + s.op) ≤ now)) : passF s now = ⟨s.w, s.fl, s.op, s.pr, s.st, s.since, now, s.ep, s.nl, s.outs, s.good, s.probe⟩ := by
  unfold passF; dsimp only; rw [if_neg h]
theorem open_step {w fl op pr T wait : Int} {nl : Bool} {outs : List Bool} {g : Bool} (hcc : ccF w fl op pr = 0) (hT : 0 ≤ T) (hw0 : 0 ≤ wait) (hT2 : T + wait ≤ 1000000000000) (hf : failsF outs < fl) (hl : (outs.length : Int) ≤ w) :
    stepF ⟨w, fl, op, pr, 0, 0, T, 1, nl, outs, 0, 0⟩ ⟨if g then 2 else 3, T + wait, 1, 1⟩ =
      (if failsF ((if (outs.length : Int) = w then outs.drop 1 else outs) ++ [g]) = fl then ⟨w, fl, op, pr, 1, T + wait, T + wait, 2, true, [], 0, 0⟩ else ⟨w, fl, op, pr, 0, 0, T + wait, 1, false, (if (outs.length : Int) = w then outs.drop 1 else outs) ++ [g], 0, 0⟩, false, 0) := by
  have hc := ccF_ok hcc
  obtain ⟨k, hk⟩ : ∃ k : Int, k = if g then 2 else 3 := ⟨_, rfl⟩
  have hk2 : (k = 2 ∨ k = 3) ∧ (k == 2) = g := by rw [hk]; cases g <;> simp
  rw [← hk]
  have hck : checkF ⟨w, fl, op, pr, 0, 0, T, 1, nl, outs, 0, 0⟩ = 0 := by
    refine (good_iff _).2 ⟨hcc, ?_⟩
    simp only [rightF]
    refine ⟨by omega, .inl ⟨trivial, trivial, trivial, hl, hf⟩⟩
  have he : checkEvF ⟨k, T + wait, 1, 1⟩ = 0 := by
    unfold checkEvF; simp only; repeat' split
    all_goals omega
  have hout := outcomeF_eq ⟨w, fl, op, pr, 0, 0, T + wait, 1, decide (outs.length = 0), outs, 0, 0⟩ g _ rfl
  have hend : endF ⟨w, fl, op, pr, 0, 0, T + wait, 1, decide (outs.length = 0), outs, 0, 0⟩ ⟨k, T + wait, 1, 1⟩ =
      (if failsF ((if (outs.length : Int) = w then outs.drop 1 else outs) ++ [g]) = fl then ⟨w, fl, op, pr, 1, T + wait, T + wait, 2, true, [], 0, 0⟩ else ⟨w, fl, op, pr, 0, 0, T + wait, 1, false, (if (outs.length : Int) = w then outs.drop 1 else outs) ++ [g], 0, 0⟩, 0) := by
    unfold endF
    simp only
    rw [if_pos trivial, if_neg (by omega), hk2.2, hout]
    rfl
  have hep : (endF ⟨w, fl, op, pr, 0, 0, T + wait, 1, decide (outs.length = 0), outs, 0, 0⟩ ⟨k, T + wait, 1, 1⟩).1.ep ≤ 2 := by
    rw [hend]; simp only
    generalize (if (outs.length : Int) = w then outs.drop 1 else outs) ++ [g] = q
    by_cases hq : failsF q = fl
    · rw [if_pos hq]; exact Int.le_refl _
    · rw [if_neg hq]; show (1 : Int) ≤ 2; omega
  have hr : applyF (ownF ⟨w, fl, op, pr, 0, 0, T, 1, nl, outs, 0, 0⟩) ⟨k, T + wait, 1, 1⟩ = ((endF ⟨w, fl, op, pr, 0, 0, T + wait, 1, decide (outs.length = 0), outs, 0, 0⟩ ⟨k, T + wait, 1, 1⟩).1, false, 0) := by
    unfold applyF
    rw [if_neg (by simpa using he), if_neg (by simp only [ownF]; omega)]
    have hpass : passF (ownF ⟨w, fl, op, pr, 0, 0, T, 1, nl, outs, 0, 0⟩) (T + wait) = ⟨w, fl, op, pr, 0, 0, T + wait, 1, decide (outs.length = 0), outs, 0, 0⟩ := passF_no (fun h => absurd (show (0 : Int) = 1 from h.1) (by decide))
    simp only [hpass]
    unfold restF
    simp only
    rw [if_neg (by omega), if_neg (by omega), if_neg (by omega), if_neg (by omega), if_pos trivial, if_neg (by rw [hend]; simp), if_neg (by omega)]
  unfold stepF
  rw [if_neg (by simpa using hck), hr]
  simp only
  rw [if_neg (by simp), hend]
theorem fails_snoc_le (outs : List Bool) (w fl : Int) (g : Bool) (h : failsF outs < fl) : failsF ((if (outs.length : Int) = w then outs.drop 1 else outs) ++ [g]) ≤ fl := by
  have h1 : failsF (if (outs.length : Int) = w then outs.drop 1 else outs) ≤ failsF outs := by
    split
    · exact failsF_drop outs
    · exact Int.le_refl _
  rw [failsF_snoc]
  generalize failsF (if (outs.length : Int) = w then outs.drop 1 else outs) = q at h1
  cases g <;> simp <;> omega
/-- An open breaker, asked. -/
theorem asked {w fl op pr T at_ : Int} {b : Bool} (hcc : ccF w fl op pr = 0) (hT : 0 ≤ T) (hT2 : T ≤ at_) (ha : at_ ≤ 1000000000000) :
    stepF ⟨w, fl, op, pr, 1, T, T, 2, b, [], 0, 0⟩ ⟨1, at_, 7, 0⟩ = if T + op ≤ at_ then (⟨w, fl, op, pr, 2, T + op, at_, 3, true, [], 0, 7⟩, true, 0) else (⟨w, fl, op, pr, 1, T, at_, 2, true, [], 0, 0⟩, false, 0) := by
  have hc := ccF_ok hcc
  have w1 : IntKind.i64.wrap (T + op) = T + op := wrap64 (by omega) (by omega)
  have hck : checkF ⟨w, fl, op, pr, 1, T, T, 2, b, [], 0, 0⟩ = 0 := by
    refine (good_iff _).2 ⟨hcc, ?_⟩
    simp only [rightF, w1]
    refine ⟨by omega, .inr (.inl ?_)⟩
    simp
    omega
  have he : checkEvF ⟨1, at_, 7, 0⟩ = 0 := by
    unfold checkEvF; simp only; repeat' split
    all_goals omega
  have hr : applyF (ownF ⟨w, fl, op, pr, 1, T, T, 2, b, [], 0, 0⟩) ⟨1, at_, 7, 0⟩ = if T + op ≤ at_ then (⟨w, fl, op, pr, 2, T + op, at_, 3, true, [], 0, 7⟩, true, 0) else (⟨w, fl, op, pr, 1, T, at_, 2, true, [], 0, 0⟩, false, 0) := by
    unfold applyF
    rw [if_neg (by simpa using he), if_neg (by simp only [ownF]; omega)]
    by_cases h : T + op ≤ at_
    · have hpass : passF (ownF ⟨w, fl, op, pr, 1, T, T, 2, b, [], 0, 0⟩) at_ = turnF ⟨w, fl, op, pr, 1, T, at_, 2, true, [], 0, 0⟩ 2 (IntKind.i64.wrap (T + op)) := if_pos ⟨rfl, by show IntKind.i64.wrap (T + op) ≤ at_; rw [w1]; exact h⟩
      have hep : IntKind.i64.wrap (2 + 1) = 3 := by kernel_rfl
      simp only [hpass, w1, if_pos h]
      simp only [turnF, hep]
      unfold restF
      simp only
      rw [if_neg (by omega), if_neg (by omega), if_pos ⟨trivial, trivial⟩, if_neg (by omega)]
    · have hpass : passF (ownF ⟨w, fl, op, pr, 1, T, T, 2, b, [], 0, 0⟩) at_ = ⟨w, fl, op, pr, 1, T, at_, 2, true, [], 0, 0⟩ := if_neg (fun k => h (by have := k.2; change IntKind.i64.wrap (T + op) ≤ at_ at this; rw [w1] at this; exact this))
      simp only [hpass, if_neg h]
      unfold restF
      simp only
      rw [if_neg (by omega), if_neg (by omega), if_neg (by omega), if_pos trivial]
      rfl
  unfold stepF
  rw [if_neg (by simpa using hck), hr]
  split <;> rfl
theorem asked_next {w fl op pr T : Int} {b : Bool} (hcc : ccF w fl op pr = 0) (hT : 0 ≤ T) (ha : T ≤ 1000000000000) : nextF ⟨w, fl, op, pr, 1, T, T, 2, b, [], 0, 0⟩ = (T + op, 0) := by
  have hc := ccF_ok hcc
  have w1 : IntKind.i64.wrap (T + op) = T + op := wrap64 (by omega) (by omega)
  have hck : checkF ⟨w, fl, op, pr, 1, T, T, 2, b, [], 0, 0⟩ = 0 := by
    refine (good_iff _).2 ⟨hcc, ?_⟩
    simp only [rightF, w1]
    refine ⟨by omega, .inr (.inl ?_)⟩
    simp
    omega
  unfold nextF
  rw [if_neg (by simpa using hck), if_neg (by simp), w1]
end Go.Proofs.YtkhbbppkghcbeaaDoor
namespace Go.Proofs.YtkhbbppkghcbeaaDoor
open Go.Sx
set_option maxRecDepth 10000
set_option maxHeartbeats 2000000
def spOpened : FSpec := fun _ xs ls K => ∃ (w fl op pr T : Int) (b : Bool) (n : Int) (f : Nat → List SV), xs = [.agg (stC ⟨w, fl, op, pr, 1, T, T, 2, b, [], 0, 0⟩ n f)] ∧ ls = [] ∧ Rows encB ([] : List Bool) n f ∧ ccF w fl op pr = 0 ∧ 0 ≤ T ∧ T ≤ 1000000000000 ∧ K (.bool (.a true)) []
theorem opened_ok : FnOk Tryd.prog gl 28 spOpened := by
  refine fnOk (gh := []) mixed cxOk (tabCons next_ok (tabCons step_ok tabNil)) Tryd.func28 (by kernel_rfl) (by kernel_rfl) ?_
  intro xs ls K h
  unfold spOpened at h
  obtain ⟨w, fl, op, pr, T, b, n, f, rfl, rfl, R, hcc, hT, hT2, h⟩ := h
  refine ⟨_, _, h, fun D hD => ?_⟩
  clear h
  have hc := ccF_ok hcc
  have w1 : IntKind.i64.wrap (T + op) = T + op := wrap64 (by omega) (by omega)
  have w2 : IntKind.i64.wrap (T + op - 1) = T + op - 1 := wrap64 (by omega) (by omega)
  cbv
  refine ⟨⟨_, _, _, _, _, _, _, _, _, [], _, _⟩, _, _, rfl, rfl, by subst hD; exact R, by simp, fun x r hx hr => ?_⟩
  have nx := asked_next (b := b) hcc hT hT2
  have hx : x = T + op := by subst hD; exact hx.trans (congrArg Prod.fst nx)
  have hr : r = 0 := by subst hD; exact hr.trans (congrArg Prod.snd nx)
  subst hr
  clear nx
  cbv
  refine br hD (fun h => ?_) (fun h => ?_) <;> cbv
  · refine finBool hD ?_
    simp [BT.den, cmpDen, ST.den, binDen, w1, hx]
  have hat : T + op ≤ 1000000000000 := by simp [w1, hx] at h; omega
  clear h
  refine ⟨⟨_, _, _, _, _, _, _, _, _, [], _, _⟩, _, _, ⟨_, _, _, _⟩, rfl, rfl, by subst hD; exact R, by simp, fun s1 b1 r1 n1 f1 hs1 hb1 hr1 R1 => ?_⟩
  have a1 := asked (b := b) (at_ := T + op - 1) hcc hT (by omega) (by omega)
  rw [if_neg (by omega)] at a1
  have hb1 : b1 = false := by
    subst hD; refine Eq.trans hb1 ?_
    show (stepF ⟨w, fl, op, pr, 1, T, T, 2, b, [], 0, 0⟩ ⟨1, IntKind.i64.wrap (IntKind.i64.wrap (T + op) - 1), 7, 0⟩).2.1 = false
    rw [w1, w2, a1]
  have hr1 : r1 = 0 := by
    subst hD; refine Eq.trans hr1 ?_
    show (stepF ⟨w, fl, op, pr, 1, T, T, 2, b, [], 0, 0⟩ ⟨1, IntKind.i64.wrap (IntKind.i64.wrap (T + op) - 1), 7, 0⟩).2.2 = 0
    rw [w1, w2, a1]
  subst hb1 hr1
  clear hs1 a1
  obtain ⟨w3, fl3, op3, pr3, st3, si3, nw3, ep3, nl3, outs3, good3, probe3⟩ := s1
  cbv
  refine ⟨⟨_, _, _, _, _, _, _, _, _, [], _, _⟩, _, _, ⟨_, _, _, _⟩, rfl, rfl, by subst hD; exact R, by simp, fun s4 b4 r4 n4 f4 hs4 hb4 hr4 R4 => ?_⟩
  have a4 := asked (b := b) (at_ := T + op) hcc hT (by omega) (by omega)
  rw [if_pos (by omega)] at a4
  have k4 : stepF ⟨w, fl, op, pr, 1, T, T, 2, b, [], 0, 0⟩ ⟨1, IntKind.i64.wrap (T + op), 7, 0⟩ = (⟨w, fl, op, pr, 2, T + op, T + op, 3, true, [], 0, 7⟩, true, 0) := by rw [w1, a4]
  have hs4 : s4 = ⟨w, fl, op, pr, 2, T + op, T + op, 3, true, [], 0, 7⟩ := by subst hD; exact hs4.trans (congrArg Prod.fst k4)
  have hb4 : b4 = true := by subst hD; exact hb4.trans (congrArg (fun x => x.2.1) k4)
  have hr4 : r4 = 0 := by subst hD; exact hr4.trans (congrArg (fun x => x.2.2) k4)
  subst hs4 hb4 hr4
  clear a4 k4
  obtain ⟨q, hq⟩ : ∃ q, q = T + op := ⟨_, rfl⟩
  rw [← hq]
  cbv
  refine ⟨⟨_, _, _, _, _, _, _, _, _, [], _, _⟩, _, _, ⟨_, _, _, _⟩, rfl, rfl, by subst hD; exact R, by simp, fun s5 b5 r5 n5 f5 hs5 hb5 hr5 R5 => ?_⟩
  have a5 := asked (b := b) (at_ := 1000000000000) hcc hT (by omega) (by omega)
  rw [if_pos (by omega)] at a5
  have hs5 : s5 = ⟨w, fl, op, pr, 2, T + op, 1000000000000, 3, true, [], 0, 7⟩ := by subst hD; exact hs5.trans (congrArg Prod.fst a5)
  have hb5 : b5 = true := by subst hD; exact hb5.trans (congrArg (fun x => x.2.1) a5)
  have hr5 : r5 = 0 := by subst hD; exact hr5.trans (congrArg (fun x => x.2.2) a5)
  subst hs5 hb5 hr5
  clear a5
  rw [← hq]
  cbv
  refine finBool hD ?_
  simp [BT.den, cmpDen, ST.den, binDen, w1, hq]
end Go.Proofs.YtkhbbppkghcbeaaDoor
namespace Go.Proofs.YtkhbbppkghcbeaaDoor
open Go.Sx
set_option maxRecDepth 10000
set_option maxHeartbeats 40000000
structure OpI (w fl op pr wait : Int) (l : List Bool) (i : Nat) (I T : Int) (nl : Bool) (n : Int) (f : Nat → List SV) (m : Nat) : Prop where
  le : i ≤ l.length
  I : I = i
  T : T = i * wait
  fl : failsF (lastW w (l.take i)) < fl
  R : Rows encB (lastW w (l.take i)) n f
  m : m = l.length - i
def opJ (w fl op pr wait : Int) (l : List Bool) (nl0 : Bool) (n0 : Int) (f0 : Nat → List SV) (m : Nat) (vs : List (Option SV)) (hp : List Hl) : Prop :=
  ∃ (i : Nat) (I T : Int) (nl : Bool) (n : Int) (f : Nat → List SV), vs = [some (.sl (.a nl0) (.a n0) 1 f0), some (.int .u16 (.a wait)), some (.ptr 0 0), some (.ptr 1 0), some (.int .i64 (.a I))] ∧
    hp = [.blk 23 [.int .i64 (.a w), .int .i64 (.a fl), .int .i64 (.a op), .int .i64 (.a pr)], .blk 26 (stC ⟨w, fl, op, pr, 0, 0, T, 1, nl, lastW w (l.take i), 0, 0⟩ n f)] ∧ OpI w fl op pr wait l i I T nl n f m
structure InI (l : List Bool) (k0 : Int) (i : Nat) (k : Nat) (K bad : Int) (m : Nat) : Prop where
  lo : k0 ≤ k
  hi : k ≤ i + 1
  K : K = k
  bad : bad = failsF ((l.take k).drop k0.toNat)
  m : m = i + 1 - k
def inJ (w fl op pr wait : Int) (l : List Bool) (nl0 : Bool) (n0 : Int) (f0 : Nat → List SV) (s : BS) (n : Int) (f : Nat → List SV) (t : BS) (n1 : Int) (f1 : Nat → List SV) (i : Nat) (I : Int) (k0 : Int) (m : Nat) (vs : List (Option SV)) (hp : List Hl) : Prop :=
  ∃ (k : Nat) (K bad : Int), vs = [some (.sl (.a nl0) (.a n0) 1 f0), some (.int .u16 (.a wait)), some (.ptr 0 0), some (.ptr 1 0), some (.int .i64 (.a I)), some (.ptr 2 0), some (.int .i64 (.a bad)), some (.int .i64 (.a K))] ∧
    hp = [.blk 23 [.int .i64 (.a w), .int .i64 (.a fl), .int .i64 (.a op), .int .i64 (.a pr)], .blk 26 (stC s n f), .blk 26 (stC t n1 f1)] ∧ InI l k0 i k K bad m
theorem fails_step (l : List Bool) (k : Nat) (k0 : Nat) (b : Bool) (h0 : k0 ≤ k) (h : l[k]? = some b) : failsF ((l.take (k + 1)).drop k0) = failsF ((l.take k).drop k0) + if b then 0 else 1 := by
  have hlt : k < l.length := (List.getElem?_eq_some_iff.1 h).1
  rw [List.take_add_one, h, List.drop_append_of_le_length (by simp; omega)]
  exact failsF_snoc _ b
theorem take_snoc (l : List Bool) (i : Nat) (b : Bool) (h : l[i]? = some b) : l.take (i + 1) = l.take i ++ [b] := by rw [List.take_add_one, h]; rfl
def spLawOpens : FSpec := fun _ xs ls K => ∃ (w fl op pr wait : Int) (l : List Bool) (nl : Bool) (n : Int) (f : Nat → List SV), xs = [.agg [.int .i64 (.a w), .int .i64 (.a fl), .int .i64 (.a op), .int .i64 (.a pr)], .sl (.a nl) (.a n) 1 f, .int .u16 (.a wait)] ∧ ls = [] ∧ Rows encB l n f ∧ 0 ≤ wait ∧ wait ≤ 65535 ∧ K (.bool (.a true)) []
def spOpened2 : FSpec := fun _ xs ls K => ∃ (s : BS) (n : Int) (f : Nat → List SV) (w fl op pr T : Int) (b : Bool), xs = [.agg (stC s n f)] ∧ ls = [] ∧ s = ⟨w, fl, op, pr, 1, T, T, 2, b, [], 0, 0⟩ ∧ Rows encB ([] : List Bool) n f ∧ ccF w fl op pr = 0 ∧ 0 ≤ T ∧ T ≤ 1000000000000 ∧ K (.bool (.a true)) []
theorem opened2_ok : FnOk Tryd.prog gl 28 spOpened2 := by
  refine fnOk_le opened_ok fun xs ls K h => ?_
  obtain ⟨s, n, f, w, fl, op, pr, T, b, rfl, rfl, rfl, R, h1, h2, h3, h⟩ := h
  exact ⟨w, fl, op, pr, T, b, n, f, rfl, rfl, R, h1, h2, h3, _, LeV.refl _, h⟩
theorem opens_ok : FnOk Tryd.prog gl 9 spLawOpens := by
  refine fnOk (gh := []) mixed cxOk (tabCons shown_ok (tabCons new_ok (tabCons step_ok (tabCons opened2_ok tabNil)))) Tryd.func9 (by kernel_rfl) (by kernel_rfl) ?_
  intro xs ls K h
  unfold spLawOpens at h
  obtain ⟨w, fl, op, pr, wait, l, nl, n, f, rfl, rfl, R, hw0, hw1, h⟩ := h
  refine ⟨_, _, h, fun D hD => ?_⟩
  clear h
  cbv
  refine ⟨_, _, _, _, rfl, rfl, fun s r n1 f1 hs hr R1 => ?_⟩
  have hs : s = (newF w fl op pr).1 := by subst hD; exact hs
  have hr : r = (newF w fl op pr).2 := by subst hD; exact hr
  by_cases hcc : ccF w fl op pr = 0
  rotate_left
  · have hr7 : r = 7 := by
      rw [hr, newF, if_pos hcc]
      unfold ccF at hcc ⊢
      split at hcc
      · rw [if_pos (by assumption)]
      · simp at hcc
    subst hr7
    clear hr hs
    obtain ⟨w1, fl1, op1, pr1, st1, si1, nw1, ep1, nl1, outs1, good1, probe1⟩ := s
    cbv
    refine br hD (fun h => ?_) (fun h => ?_) <;> cbv
    · refine finBool hD ?_
      simp [BT.den, cmpDen]
    · simp at h
  have hnew : newF w fl op pr = (⟨w, fl, op, pr, 0, 0, 0, 1, true, [], 0, 0⟩, 0) := by rw [newF, if_neg (by simpa using hcc)]
  rw [hnew] at hs hr
  subst hs hr
  clear hnew
  have hc := ccF_ok hcc
  cbv
  refine br hD (fun h => ?_) (fun h => ?_) <;> cbv
  · refine finBool hD ?_
    simp [BT.den, cmpDen]
  have hl : l.length ≤ 200 := by have := R.n; simp at h; omega
  clear h
  obtain ⟨J, hJ⟩ : ∃ J, J = opJ w fl op pr wait l nl n f := ⟨_, rfl⟩
  refine ⟨[1, 2, 3, 7, 9], J, ⟨rfl, l.length, ?_⟩, ?_⟩
  · rw [hJ]
    subst hD
    exact ⟨0, _, 0, true, n1, f1, rfl, rfl, ⟨Nat.zero_le _, rfl, by simp, by simp [lastW, failsF]; omega, (by have e0 : lastW w (l.take 0) = [] := (by simp [lastW]); rw [e0]; exact R1), rfl⟩⟩
  intro m vs hp hv
  rw [hJ] at hv
  unfold opJ at hv
  obtain ⟨i, I, T, nl2, n2, f2, rfl, rfl, V⟩ := hv
  obtain ⟨o, ho⟩ : ∃ o, o = lastW w (l.take i) := ⟨_, rfl⟩
  have R2 := V.R
  have hfo := V.fl
  rw [← ho] at R2 hfo
  rw [← ho]
  have hlo : (o.length : Int) ≤ w := by rw [ho]; exact lastW_len w hc.1 _
  have hT : 0 ≤ T ∧ T + wait ≤ 1000000000000 := by
    have h1 := V.T
    have h2 := V.le
    have h3 : (i : Int) * wait ≤ 200 * 65535 := Int.mul_le_mul (by omega) hw1 hw0 (by omega)
    have h4 : 0 ≤ (i : Int) * wait := Int.mul_nonneg (by omega) hw0
    omega
  have w3 : IntKind.i64.wrap wait = wait := wrap64 (by omega) (by omega)
  have w4 : IntKind.i64.wrap (T + wait) = T + wait := wrap64 (by omega) (by omega)
  have hlo5 : o.length ≤ 1000000 := by omega
  cbv
  refine br hD (fun h => ?_) (fun h => ?_) <;> cbv
  rotate_left
  · exact finBool hD rfl
  have hlt : i < l.length := by simp at h; have := V.I; have := R.n; omega
  clear h
  refine ⟨?_, fun j hj => ?_⟩
  · have hn := R.n; have hI := V.I; subst hD; exact ⟨by simp [dn]; omega, by simp [dn]; omega⟩
  have hji : j = i := by have := isJ hD hj; have := V.I; omega
  obtain ⟨g, hg⟩ : ∃ g, l[i]? = some g := ⟨_, List.getElem?_eq_getElem hlt⟩
  have hfi := R.f i g hg
  subst hji
  clear hj
  cbv
  rw [hfi, encB]
  cbv
  refine br hD (fun h => ?_) (fun h => ?_) <;> cbv
  · skip
    have hgt : g = true := by simpa using h
    subst hgt
    clear h
    refine ⟨⟨_, _, _, _, _, _, _, _, _, o, _, _⟩, _, _, ⟨_, _, _, _⟩, rfl, rfl, by subst hD; exact R2, hlo5, fun t tb tr n3 f3 ht _ htr R3 => ?_⟩
    have stp := open_step (pr := pr) (op := op) (nl := nl2) (g := true) hcc hT.1 hw0 hT.2 hfo hlo
    have hsn := lastW_snoc w hc.1 (l.take j) true
    have hle := fails_snoc_le o w fl true hfo
    rw [← ho, ← take_snoc l j _ hg] at hsn
    rw [← hsn] at stp hle
    have kst : stepF ⟨w, fl, op, pr, 0, 0, T, 1, nl2, o, 0, 0⟩ ⟨2, IntKind.i64.wrap (T + IntKind.i64.wrap wait), 1, 1⟩ = (if failsF (lastW w (l.take (j + 1))) = fl then ⟨w, fl, op, pr, 1, T + wait, T + wait, 2, true, [], 0, 0⟩ else ⟨w, fl, op, pr, 0, 0, T + wait, 1, false, lastW w (l.take (j + 1)), 0, 0⟩, false, 0) := by
      rw [w3, w4]; exact stp
    have ht : t = (if failsF (lastW w (l.take (j + 1))) = fl then ⟨w, fl, op, pr, 1, T + wait, T + wait, 2, true, [], 0, 0⟩ else ⟨w, fl, op, pr, 0, 0, T + wait, 1, false, lastW w (l.take (j + 1)), 0, 0⟩) := by subst hD; exact ht.trans (congrArg Prod.fst kst)
    have htr : tr = 0 := by subst hD; exact htr.trans (congrArg (fun x => x.2.2) kst)
    subst htr
    clear stp kst hsn
    obtain ⟨w1, fl1, op1, pr1, st1, si1, nw1, ep1, nl1, outs1, good1, probe1⟩ := t
    cbv
    refine br hD (fun h => ?_) (fun h => ?_) <;> cbv
    · simp at h
    clear h
    intro k0 hk0
    have hk0 : k0 = max 0 ((j : Int) + 1 - w) := by
      have h1 := hk0.h
      have h2 : I = (j : Int) := V.I
      have w5 : IntKind.i64.wrap (I + 1) = I + 1 := wrap64 (by omega) (by omega)
      have w6 : IntKind.i64.wrap (I + 1 - w) = I + 1 - w := wrap64 (by omega) (by omega)
      subst hD
      have h1 : k0 = max 0 (IntKind.i64.wrap (IntKind.i64.wrap (I + 1) - w)) := h1
      rw [w5, w6] at h1
      omega
    have hk1 : 0 ≤ k0 ∧ k0 ≤ (j : Int) + 1 ∧ k0.toNat = j + 1 - w.toNat := by omega
    cbv
    obtain ⟨J2, hJ2⟩ : ∃ J2, J2 = inJ w fl op pr wait l nl n f ⟨w, fl, op, pr, 0, 0, T, 1, nl2, o, 0, 0⟩ n2 f2 ⟨w1, fl1, op1, pr1, st1, si1, nw1, ep1, nl1, outs1, good1, probe1⟩ n3 f3 j I k0 := ⟨_, rfl⟩
    refine ⟨[1, 2, 3, 7, 9, 11, 14, 15], J2, ⟨rfl, j + 1 - k0.toNat, ?_⟩, ?_⟩
    · rw [hJ2]
      subst hD
      refine ⟨k0.toNat, _, _, rfl, rfl, ⟨by omega, by omega, ?_, ?_, rfl⟩⟩
      · simp [dn]; omega
      · rw [List.drop_of_length_le (by simp; omega)]; rfl
    intro m2 vs2 hp2 hv2
    rw [hJ2] at hv2
    unfold inJ at hv2
    obtain ⟨kk, K2, bad, rfl, rfl, V3⟩ := hv2
    cbv
    refine br hD (fun h => ?_) (fun h => ?_) <;> cbv
    · have hk3 : kk < j + 1 := by simp at h; have h1 := V.I; have h2 := V3.K; omega
      clear h
      refine ⟨?_, fun j2 hj2 => ?_⟩
      · have hn := R.n; have hI := V3.K; subst hD; exact ⟨by simp [dn]; omega, by simp [dn]; omega⟩
      have hji : j2 = kk := by have := isJ hD hj2; have := V3.K; omega
      obtain ⟨b, hb⟩ : ∃ b, l[kk]? = some b := ⟨_, List.getElem?_eq_getElem (by omega)⟩
      have hfk := R.f kk b hb
      have hst := fails_step l kk k0.toNat b (by have := V3.lo; omega) hb
      have hbl := failsF_le ((l.take kk).drop k0.toNat)
      have hbl2 : ((l.take kk).drop k0.toNat).length ≤ 200 := by simp; omega
      rw [← V3.bad] at hst hbl
      have hbl3 : 0 ≤ bad ∧ bad ≤ 200 := by omega
      clear hbl hbl2
      subst hji
      clear hj2
      cbv
      rw [hfk, encB]
      cbv
      refine br hD (fun h => ?_) (fun h => ?_) <;> cbv
      all_goals
        simp at h
        subst h
        refine ⟨j + 1 - (j2 + 1), (by have h1 := V3.m; omega), ?_⟩
        rw [hJ2]
        subst hD
        have h1 := V3.K
        have h2 := V3.lo
        refine ⟨j2 + 1, _, _, rfl, rfl, ⟨by omega, by omega, ?_, ?_, rfl⟩⟩
        · simp [dn]; rw [wrap64 (by omega) (by omega)]; omega
        · simp [dn] at hst ⊢; first | omega | (rw [wrap64 (by omega) (by omega)]; omega)
    have hk3 : kk = j + 1 := by simp at h; have h1 := V.I; have h2 := V3.K; have h3 := V3.hi; omega
    clear h
    have hbad : bad = failsF (lastW w (l.take (j + 1))) := by
      rw [V3.bad, hk3, hk1.2.2, lastW]
      congr 2
      rw [List.length_take]
      omega
    rw [← hbad] at ht hle
    refine br hD (fun h => ?_) (fun h => ?_) <;> cbv
    · have hlt2 : bad < fl := by simpa using h
      rw [if_neg (by omega)] at ht
      simp only [BS.mk.injEq] at ht
      obtain ⟨rfl, rfl, rfl, rfl, rfl, rfl, rfl, rfl, rfl, rfl, rfl, rfl⟩ := ht
      clear h
      refine br hD (fun h => ?_) (fun h => ?_) <;> cbv
      · simp at h
      clear h
      refine ⟨l.length - (j + 1), (by have := V.m; omega), ?_⟩
      rw [hJ]
      subst hD
      refine ⟨j + 1, _, _, false, n3, f3, rfl, rfl, ⟨by omega, ?_, ?_, by rw [← hbad]; exact hlt2, R3, rfl⟩⟩
      · have h1 := V.I; simp [dn]; rw [wrap64 (by omega) (by omega)]; omega
      · have h1 := V.T
        show T + wait = ((j + 1 : Nat) : Int) * wait
        rw [h1, Int.natCast_add, Int.add_mul]
        simp
    · have hge : bad = fl := by simp at h; omega
      rw [if_pos hge] at ht
      simp only [BS.mk.injEq] at ht
      obtain ⟨e1, e2, e3, e4, rfl, e6, e7, rfl, rfl, rfl, rfl, rfl⟩ := ht
      have e67 : si1 = nw1 := e6.trans e7.symm
      have hcc1 : ccF w1 fl1 op1 pr1 = 0 := by rw [e1, e2, e3, e4]; exact hcc
      have hsi : 0 ≤ si1 ∧ si1 ≤ 1000000000000 := by omega
      clear e1 e2 e3 e4 e6 e7 h
      subst e67
      refine ⟨⟨_, _, _, _, _, _, _, _, _, [], _, _⟩, _, _, w1, fl1, op1, pr1, si1, true, rfl, rfl, by subst hD; rfl, by subst hD; exact R3, by subst hD; exact hcc1, by subst hD; exact hsi.1, by subst hD; exact hsi.2, ?_⟩
      cbv
      refine finBool hD ?_
      simp [BT.den, cmpDen]
  · skip
    have hgt : g = false := by simpa using h
    subst hgt
    clear h
    refine ⟨⟨_, _, _, _, _, _, _, _, _, o, _, _⟩, _, _, ⟨_, _, _, _⟩, rfl, rfl, by subst hD; exact R2, hlo5, fun t tb tr n3 f3 ht _ htr R3 => ?_⟩
    have stp := open_step (pr := pr) (op := op) (nl := nl2) (g := false) hcc hT.1 hw0 hT.2 hfo hlo
    have hsn := lastW_snoc w hc.1 (l.take j) false
    have hle := fails_snoc_le o w fl false hfo
    rw [← ho, ← take_snoc l j _ hg] at hsn
    rw [← hsn] at stp hle
    have kst : stepF ⟨w, fl, op, pr, 0, 0, T, 1, nl2, o, 0, 0⟩ ⟨3, IntKind.i64.wrap (T + IntKind.i64.wrap wait), 1, 1⟩ = (if failsF (lastW w (l.take (j + 1))) = fl then ⟨w, fl, op, pr, 1, T + wait, T + wait, 2, true, [], 0, 0⟩ else ⟨w, fl, op, pr, 0, 0, T + wait, 1, false, lastW w (l.take (j + 1)), 0, 0⟩, false, 0) := by
      rw [w3, w4]; exact stp
    have ht : t = (if failsF (lastW w (l.take (j + 1))) = fl then ⟨w, fl, op, pr, 1, T + wait, T + wait, 2, true, [], 0, 0⟩ else ⟨w, fl, op, pr, 0, 0, T + wait, 1, false, lastW w (l.take (j + 1)), 0, 0⟩) := by subst hD; exact ht.trans (congrArg Prod.fst kst)
    have htr : tr = 0 := by subst hD; exact htr.trans (congrArg (fun x => x.2.2) kst)
    subst htr
    clear stp kst hsn
    obtain ⟨w1, fl1, op1, pr1, st1, si1, nw1, ep1, nl1, outs1, good1, probe1⟩ := t
    cbv
    refine br hD (fun h => ?_) (fun h => ?_) <;> cbv
    · simp at h
    clear h
    intro k0 hk0
    have hk0 : k0 = max 0 ((j : Int) + 1 - w) := by
      have h1 := hk0.h
      have h2 : I = (j : Int) := V.I
      have w5 : IntKind.i64.wrap (I + 1) = I + 1 := wrap64 (by omega) (by omega)
      have w6 : IntKind.i64.wrap (I + 1 - w) = I + 1 - w := wrap64 (by omega) (by omega)
      subst hD
      have h1 : k0 = max 0 (IntKind.i64.wrap (IntKind.i64.wrap (I + 1) - w)) := h1
      rw [w5, w6] at h1
      omega
    have hk1 : 0 ≤ k0 ∧ k0 ≤ (j : Int) + 1 ∧ k0.toNat = j + 1 - w.toNat := by omega
    cbv
    obtain ⟨J2, hJ2⟩ : ∃ J2, J2 = inJ w fl op pr wait l nl n f ⟨w, fl, op, pr, 0, 0, T, 1, nl2, o, 0, 0⟩ n2 f2 ⟨w1, fl1, op1, pr1, st1, si1, nw1, ep1, nl1, outs1, good1, probe1⟩ n3 f3 j I k0 := ⟨_, rfl⟩
    refine ⟨[1, 2, 3, 7, 9, 11, 14, 15], J2, ⟨rfl, j + 1 - k0.toNat, ?_⟩, ?_⟩
    · rw [hJ2]
      subst hD
      refine ⟨k0.toNat, _, _, rfl, rfl, ⟨by omega, by omega, ?_, ?_, rfl⟩⟩
      · simp [dn]; omega
      · rw [List.drop_of_length_le (by simp; omega)]; rfl
    intro m2 vs2 hp2 hv2
    rw [hJ2] at hv2
    unfold inJ at hv2
    obtain ⟨kk, K2, bad, rfl, rfl, V3⟩ := hv2
    cbv
    refine br hD (fun h => ?_) (fun h => ?_) <;> cbv
    · have hk3 : kk < j + 1 := by simp at h; have h1 := V.I; have h2 := V3.K; omega
      clear h
      refine ⟨?_, fun j2 hj2 => ?_⟩
      · have hn := R.n; have hI := V3.K; subst hD; exact ⟨by simp [dn]; omega, by simp [dn]; omega⟩
      have hji : j2 = kk := by have := isJ hD hj2; have := V3.K; omega
      obtain ⟨b, hb⟩ : ∃ b, l[kk]? = some b := ⟨_, List.getElem?_eq_getElem (by omega)⟩
      have hfk := R.f kk b hb
      have hst := fails_step l kk k0.toNat b (by have := V3.lo; omega) hb
      have hbl := failsF_le ((l.take kk).drop k0.toNat)
      have hbl2 : ((l.take kk).drop k0.toNat).length ≤ 200 := by simp; omega
      rw [← V3.bad] at hst hbl
      have hbl3 : 0 ≤ bad ∧ bad ≤ 200 := by omega
      clear hbl hbl2
      subst hji
      clear hj2
      cbv
      rw [hfk, encB]
      cbv
      refine br hD (fun h => ?_) (fun h => ?_) <;> cbv
      all_goals
        simp at h
        subst h
        refine ⟨j + 1 - (j2 + 1), (by have h1 := V3.m; omega), ?_⟩
        rw [hJ2]
        subst hD
        have h1 := V3.K
        have h2 := V3.lo
        refine ⟨j2 + 1, _, _, rfl, rfl, ⟨by omega, by omega, ?_, ?_, rfl⟩⟩
        · simp [dn]; rw [wrap64 (by omega) (by omega)]; omega
        · simp [dn] at hst ⊢; first | omega | (rw [wrap64 (by omega) (by omega)]; omega)
    have hk3 : kk = j + 1 := by simp at h; have h1 := V.I; have h2 := V3.K; have h3 := V3.hi; omega
    clear h
    have hbad : bad = failsF (lastW w (l.take (j + 1))) := by
      rw [V3.bad, hk3, hk1.2.2, lastW]
      congr 2
      rw [List.length_take]
      omega
    rw [← hbad] at ht hle
    refine br hD (fun h => ?_) (fun h => ?_) <;> cbv
    · have hlt2 : bad < fl := by simpa using h
      rw [if_neg (by omega)] at ht
      simp only [BS.mk.injEq] at ht
      obtain ⟨rfl, rfl, rfl, rfl, rfl, rfl, rfl, rfl, rfl, rfl, rfl, rfl⟩ := ht
      clear h
      refine br hD (fun h => ?_) (fun h => ?_) <;> cbv
      · simp at h
      clear h
      refine ⟨l.length - (j + 1), (by have := V.m; omega), ?_⟩
      rw [hJ]
      subst hD
      refine ⟨j + 1, _, _, false, n3, f3, rfl, rfl, ⟨by omega, ?_, ?_, by rw [← hbad]; exact hlt2, R3, rfl⟩⟩
      · have h1 := V.I; simp [dn]; rw [wrap64 (by omega) (by omega)]; omega
      · have h1 := V.T
        show T + wait = ((j + 1 : Nat) : Int) * wait
        rw [h1, Int.natCast_add, Int.add_mul]
        simp
    · have hge : bad = fl := by simp at h; omega
      rw [if_pos hge] at ht
      simp only [BS.mk.injEq] at ht
      obtain ⟨e1, e2, e3, e4, rfl, e6, e7, rfl, rfl, rfl, rfl, rfl⟩ := ht
      have e67 : si1 = nw1 := e6.trans e7.symm
      have hcc1 : ccF w1 fl1 op1 pr1 = 0 := by rw [e1, e2, e3, e4]; exact hcc
      have hsi : 0 ≤ si1 ∧ si1 ≤ 1000000000000 := by omega
      clear e1 e2 e3 e4 e6 e7 h
      subst e67
      refine ⟨⟨_, _, _, _, _, _, _, _, _, [], _, _⟩, _, _, w1, fl1, op1, pr1, si1, true, rfl, rfl, by subst hD; rfl, by subst hD; exact R3, by subst hD; exact hcc1, by subst hD; exact hsi.1, by subst hD; exact hsi.2, ?_⟩
      cbv
      refine finBool hD ?_
      simp [BT.den, cmpDen]
end Go.Proofs.YtkhbbppkghcbeaaDoor
namespace Go.Proofs.YtkhbbppkghcbeaaDoor
open Go Go.Sx Go.ChangeShapes Go.WideShapes Go.RowKit
set_option maxRecDepth 100000
theorem wf16 {n : Int} (h : (Lit.int IntKind.u16 n).wf = true) : 0 ≤ n ∧ n ≤ 65535 := by
  simp only [Lit.wf, Bool.and_eq_true, decide_eq_true_eq] at h
  have h1 : IntKind.u16.min = 0 := by kernel_rfl
  have h2 : IntKind.u16.max = 65535 := by kernel_rfl
  omega
theorem wf8 {n : Int} (h : (Lit.int IntKind.u8 n).wf = true) : 0 ≤ n ∧ n ≤ 255 := by
  simp only [Lit.wf, Bool.and_eq_true, decide_eq_true_eq] at h
  have h1 : IntKind.u8.min = 0 := by kernel_rfl
  have h2 : IntKind.u8.max = 255 := by kernel_rfl
  omega
theorem open46 : OpenT Tryd.prog 46 (fun n : {n : Int // 0 ≤ n ∧ n ≤ 65535} => [SV.int .u16 (.a n.1)]) := (OpenT.intB Tryd.underlying46).map (fun n => ⟨n.1, wf16 n.2⟩) fun _ => rfl
theorem open5 : OpenT Tryd.prog 5 (fun n : {n : Int // 0 ≤ n ∧ n ≤ 255} => [SV.int .u8 (.a n.1)]) := (OpenT.intB Tryd.underlying5).map (fun n => ⟨n.1, wf8 n.2⟩) fun _ => rfl
end Go.Proofs.YtkhbbppkghcbeaaDoor
