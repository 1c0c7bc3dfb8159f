/- Part of the proofs of the statements about the breaker (layer 17): contracts of functions; it has no conditions of its own. -/
import Derived.Test.YtkhbbppkghcbeaaDoorSc
import Derived.Test.YtkhbbppkghcbeaaDoorBe
import Derived.Test.YtkhbbppkghcbeaaDoorBc
set_option linter.unusedVariables false
set_option linter.unusedSimpArgs false
/- Slices with the bound of their length. -/
namespace Go.Sx
open Go Go.ChangeShapes Go.WideShapes Go.RowKit
section
variable {P : Program}
theorem OpenT.sliceL {t e : TypeId} {α : Type} {sz : Nat} {enc : α → List SV} (ht : P.underlying t = some (.slice e)) (hz : P.cellsOf e = sz) (h0 : 0 < sz) (he : OpenT P e enc) : OpenT P t (fun x : {x : Bool × List α // x.2.length ≤ maxLen} => slC sz enc x.1) := by
  intro H tok W spare held fuel cs x h
  rcases DataW.trod_slice ht h with ⟨rfl, _⟩ | ⟨a, len, cap, elems, rest, n, _, rfl, _, _, hle, hcap, hlen, hel, _, _⟩
  · exact ⟨⟨(true, []), Nat.zero_le _⟩, .one (.slnil rfl rfl) rfl⟩
  · rw [hz] at hel
    have key : ∀ i, i < len → ∃ (al : α) (vs : List Value), ROL (oldI W) W (enc al) vs ∧ vs.length = sz ∧ ∀ j, j < sz → W.cell? ((a.add (i * sz)).add j) = vs[j]? := by
      intro i hi
      have h1 := hel i hi
      rw [List.getElem?_eq_getElem (by omega)] at h1
      cases hc : W.cells? 0 (a.add (i * sz)) sz with
      | none => rw [hc] at h1; cases h1
      | some vs =>
        rw [hc] at h1
        obtain ⟨al, hal⟩ := he H tok W _ _ _ vs _ h1
        have hg := cells_get hc
        exact ⟨al, vs, hal, hg.1, hg.2⟩
    have gen : ∀ len : Nat, (∀ i, i < len → ∃ (al : α) (vs : List Value), ROL (oldI W) W (enc al) vs ∧ vs.length = sz ∧ ∀ j, j < sz → W.cell? ((a.add (i * sz)).add j) = vs[j]?) → ∃ (l : List α) (g : Nat → Nat → Value), l.length = len ∧ ∀ i al, l[i]? = some al → (enc al).length = sz ∧ (∀ j, j < sz → W.cell? ((a.add (i * sz)).add j) = some (g i j) ∧ (g i j).oneCell' = true) ∧ ∀ j s, (enc al)[j]? = some s → RO (oldI W) W s (g i j) := by
      clear key hel hlen hcap hle h
      intro len key
      induction len with
      | zero => exact ⟨[], fun _ _ => undef, rfl, by simp⟩
      | succ len ih =>
        obtain ⟨l, g, hl, hg⟩ := ih (fun i hi => key i (by omega))
        obtain ⟨al, vs, k1, k2, k3⟩ := key len (by omega)
        refine ⟨l ++ [al], fun i j => if i = len then vs.getD j undef else g i j, by simp [hl], fun i al' hi => ?_⟩
        rw [List.getElem?_append] at hi
        split at hi
        · rename_i hlt
          have hne : i ≠ len := by omega
          obtain ⟨g1, g2, g3⟩ := hg i al' hi
          exact ⟨g1, fun j hj => by simpa only [if_neg hne] using g2 j hj, fun j s hs => by simpa only [if_neg hne] using g3 j s hs⟩
        · rename_i hlt
          have hil : i = len := by
            have := (List.getElem?_eq_some_iff.1 hi).1
            simp at this; omega
          subst hil
          have h00 : i - l.length = 0 := by omega
          rw [h00] at hi
          simp at hi
          subst hi
          refine ⟨by rw [k1.1, k2], fun j hj => ?_, fun j s hs => ?_⟩
          · simp only [if_pos]
            have hjv : vs[j]? = some vs[j] := List.getElem?_eq_getElem (by omega)
            rw [k3 j hj, hjv]
            simp only [List.getD_eq_getElem?_getD, hjv, Option.getD_some, true_and]
            exact k1.2.2 _ (List.getElem_mem _)
          · simp only [if_pos]
            have hjl : j < vs.length := by rw [← k1.1]; exact (List.getElem?_eq_some_iff.1 hs).1
            have hjv : vs[j]? = some vs[j] := List.getElem?_eq_getElem hjl
            simp only [List.getD_eq_getElem?_getD, hjv, Option.getD_some]
            exact k1.2.1 j s _ hs hjv
    obtain ⟨l, g, hl, hg⟩ := gen len key
    have hspot : 0 < len → a.spot = none := fun hpos => by
      obtain ⟨al, hal⟩ : ∃ al, l[0]? = some al := ⟨_, List.getElem?_eq_getElem (by omega)⟩
      obtain ⟨_, g2, _⟩ := hg 0 al hal
      have := (g2 0 h0).1
      obtain ⟨b, o, sp⟩ := a
      simp only [Nat.zero_mul, Addr.add, if_pos] at this
      exact (cell_lt this).2
    refine ⟨⟨(false, l), by simp only [hl]; omega⟩, .one (.sl g rfl (by simp [ST.den, hl]) hle hcap hspot (fun i hi => ?_) (fun i j hi hj => ?_) (fun i j hi hj => ?_) (fun i j s hi hs => ?_)) rfl⟩
    · obtain ⟨al, hal⟩ : ∃ al, l[i]? = some al := ⟨_, List.getElem?_eq_getElem (by omega)⟩
      simp only [rowOfL, hal]
      exact (hg i al hal).1
    · obtain ⟨al, hal⟩ : ∃ al, l[i]? = some al := ⟨_, List.getElem?_eq_getElem (by omega)⟩
      exact ((hg i al hal).2.1 j hj).2
    · obtain ⟨al, hal⟩ : ∃ al, l[i]? = some al := ⟨_, List.getElem?_eq_getElem (by omega)⟩
      have hc := ((hg i al hal).2.1 j hj).1
      have e : (a.add (i * sz)).add j = ⟨a.block, a.off + (i * sz + j), none⟩ := by
        have hs := hspot (by omega)
        obtain ⟨b, o, sp⟩ := a
        simp only at hs
        subst hs
        simp only [add_lit]
        congr 1
        omega
      rw [e] at hc
      exact ⟨hc, (cell_lt hc).1⟩
    · obtain ⟨al, hal⟩ : ∃ al, l[i]? = some al := ⟨_, List.getElem?_eq_getElem (by omega)⟩
      simp only [rowOfL, hal] at hs
      exact (hg i al hal).2.2 j s hs

end
end Go.Sx
namespace Go.Proofs.YtkhbbppkghcbeaaDoor
open Go.Sx
set_option maxRecDepth 10000
set_option maxHeartbeats 2000000
structure HalfV (w fl op pr si nw ep : Int) : Prop where
  cc : ccF w fl op pr = 0
  h0 : 0 ≤ si
  le : si ≤ nw
  h1 : nw ≤ 1000000000000
  e1 : 1 ≤ ep
  e2 : ep < 1000000000
theorem half_check {w fl op pr si nw ep : Int} (V : HalfV w fl op pr si nw ep) (b : Bool) (i p : Int) (h0 : 0 ≤ i) (h1 : i < pr) (h2 : 0 ≤ p) (h3 : p ≤ 1000000000) : checkF ⟨w, fl, op, pr, 2, si, nw, ep, b, [], i, p⟩ = 0 := by
  refine (good_iff _).2 ⟨V.cc, ?_⟩
  have := V.h0; have := V.le; have := V.h1; have := V.e1; have := V.e2
  simp only [rightF]
  refine ⟨by omega, .inr (.inr ?_)⟩
  simp
  omega
theorem half_step {w fl op pr si nw ep : Int} (V : HalfV w fl op pr si nw ep) (b : Bool) (i p : Int) (h0 : 0 ≤ i) (h1 : i < pr) (h2 : 0 ≤ p) (h3 : p ≤ 1000000000) (e : BE) (he : checkEvF e = 0) (hn : e.now = nw) :
    stepF ⟨w, fl, op, pr, 2, si, nw, ep, b, [], i, p⟩ e = if (restF ⟨w, fl, op, pr, 2, si, nw, ep, true, [], i, p⟩ e).2.2 ≠ 0 then (zeroBS, false, (restF ⟨w, fl, op, pr, 2, si, nw, ep, true, [], i, p⟩ e).2.2) else ((restF ⟨w, fl, op, pr, 2, si, nw, ep, true, [], i, p⟩ e).1, (restF ⟨w, fl, op, pr, 2, si, nw, ep, true, [], i, p⟩ e).2.1, 0) := by
  have hc := half_check V b i p h0 h1 h2 h3
  have hown : ownF ⟨w, fl, op, pr, 2, si, nw, ep, b, [], i, p⟩ = ⟨w, fl, op, pr, 2, si, nw, ep, true, [], i, p⟩ := rfl
  have hpass : passF ⟨w, fl, op, pr, 2, si, nw, ep, true, [], i, p⟩ e.now = ⟨w, fl, op, pr, 2, si, nw, ep, true, [], i, p⟩ := by
    unfold passF
    dsimp only
    rw [if_neg (by omega), hn]
  have happ : applyF ⟨w, fl, op, pr, 2, si, nw, ep, true, [], i, p⟩ e = restF ⟨w, fl, op, pr, 2, si, nw, ep, true, [], i, p⟩ e := by
    unfold applyF
    rw [if_neg (by simpa using he), if_neg (by simp only; omega), hpass]
  unfold stepF
  rw [if_neg (by simpa using hc), hown, happ]
theorem half_ask {w fl op pr si nw ep : Int} (V : HalfV w fl op pr si nw ep) (b : Bool) (i : Int) (h0 : 0 ≤ i) (h1 : i < pr) :
    stepF ⟨w, fl, op, pr, 2, si, nw, ep, b, [], i, 0⟩ ⟨1, nw, 5, 0⟩ = (⟨w, fl, op, pr, 2, si, nw, ep, true, [], i, 5⟩, true, 0) := by
  have := V.h0; have := V.le; have := V.h1; have := V.e1; have := V.e2
  have he : checkEvF ⟨1, nw, 5, 0⟩ = 0 := by
    unfold checkEvF; simp only; repeat' split
    all_goals omega
  rw [half_step V b i 0 h0 h1 (by omega) (by omega) _ he rfl]
  have hr : restF ⟨w, fl, op, pr, 2, si, nw, ep, true, [], i, 0⟩ ⟨1, nw, 5, 0⟩ = (⟨w, fl, op, pr, 2, si, nw, ep, true, [], i, 5⟩, true, 0) := by
    unfold restF
    simp only
    rw [if_neg (by omega), if_neg (by omega), if_pos ⟨trivial, trivial⟩, if_neg (by omega)]
  rw [hr]
  rfl
theorem half_other {w fl op pr si nw ep x : Int} (V : HalfV w fl op pr si nw ep) (b : Bool) (i : Int) (h0 : 0 ≤ i) (h1 : i < pr) (hx1 : 1 ≤ x) (hx2 : x ≤ 1000000000) (hx : x ≠ ep) :
    stepF ⟨w, fl, op, pr, 2, si, nw, ep, b, [], i, 5⟩ ⟨3, nw, 5, x⟩ = (⟨w, fl, op, pr, 2, si, nw, ep, true, [], i, 5⟩, false, 0) := by
  have := V.h0; have := V.le; have := V.h1; have := V.e1; have := V.e2
  have he : checkEvF ⟨3, nw, 5, x⟩ = 0 := by
    unfold checkEvF; simp only; repeat' split
    all_goals omega
  rw [half_step V b i 5 h0 h1 (by omega) (by omega) _ he rfl]
  have hr : restF ⟨w, fl, op, pr, 2, si, nw, ep, true, [], i, 5⟩ ⟨3, nw, 5, x⟩ = (⟨w, fl, op, pr, 2, si, nw, ep, true, [], i, 5⟩, false, 0) := by
    unfold restF
    simp only
    rw [if_neg (by omega), if_neg (by omega), if_neg (by omega), if_neg (by omega), if_neg (by omega)]
  rw [hr]
  rfl
theorem half_good {w fl op pr si nw ep : Int} (V : HalfV w fl op pr si nw ep) (b : Bool) (i : Int) (h0 : 0 ≤ i) (h1 : i < pr) :
    stepF ⟨w, fl, op, pr, 2, si, nw, ep, b, [], i, 5⟩ ⟨2, nw, 5, ep⟩ = (if i + 1 = pr then ⟨w, fl, op, pr, 0, nw, nw, ep + 1, true, [], 0, 0⟩ else ⟨w, fl, op, pr, 2, si, nw, ep, true, [], i + 1, 0⟩, false, 0) := by
  have := V.h0; have := V.le; have := V.h1; have := V.e1; have := V.e2
  have hcc := ccF_ok V.cc
  have he : checkEvF ⟨2, nw, 5, ep⟩ = 0 := by
    unfold checkEvF; simp only; repeat' split
    all_goals omega
  rw [half_step V b i 5 h0 h1 (by omega) (by omega) _ he rfl]
  have w1 : IntKind.i64.wrap (i + 1) = i + 1 := wrap64 (by omega) (by omega)
  have w2 : IntKind.i64.wrap (ep + 1) = ep + 1 := wrap64 (by omega) (by omega)
  have hend : endF ⟨w, fl, op, pr, 2, si, nw, ep, true, [], i, 5⟩ ⟨2, nw, 5, ep⟩ = (if i + 1 = pr then ⟨w, fl, op, pr, 0, nw, nw, ep + 1, true, [], 0, 0⟩ else ⟨w, fl, op, pr, 2, si, nw, ep, true, [], i + 1, 0⟩, 0) := by
    unfold endF
    simp only
    rw [if_neg (by omega), if_neg (by omega), if_neg (by omega), if_pos trivial, w1]
    split
    · simp only [turnF, w2]
    · rfl
  have hr : restF ⟨w, fl, op, pr, 2, si, nw, ep, true, [], i, 5⟩ ⟨2, nw, 5, ep⟩ = (if i + 1 = pr then ⟨w, fl, op, pr, 0, nw, nw, ep + 1, true, [], 0, 0⟩ else ⟨w, fl, op, pr, 2, si, nw, ep, true, [], i + 1, 0⟩, false, 0) := by
    unfold restF
    rw [hend]
    simp only
    rw [if_neg (by omega), if_neg (by omega), if_neg (by omega), if_neg (by omega), if_pos trivial, if_neg (by simp)]
    rw [if_neg]
    split <;> simp only <;> omega
  rw [hr]
  rfl
theorem half_bad {w fl op pr si nw ep : Int} (V : HalfV w fl op pr si nw ep) (b : Bool) (i : Int) (h0 : 0 ≤ i) (h1 : i < pr) :
    stepF ⟨w, fl, op, pr, 2, si, nw, ep, b, [], i, 5⟩ ⟨3, nw, 5, ep⟩ = (⟨w, fl, op, pr, 1, nw, nw, ep + 1, true, [], 0, 0⟩, false, 0) := by
  have := V.h0; have := V.le; have := V.h1; have := V.e1; have := V.e2
  have he : checkEvF ⟨3, nw, 5, ep⟩ = 0 := by
    unfold checkEvF; simp only; repeat' split
    all_goals omega
  rw [half_step V b i 5 h0 h1 (by omega) (by omega) _ he rfl]
  have w2 : IntKind.i64.wrap (ep + 1) = ep + 1 := wrap64 (by omega) (by omega)
  have hend : endF ⟨w, fl, op, pr, 2, si, nw, ep, true, [], i, 5⟩ ⟨3, nw, 5, ep⟩ = (⟨w, fl, op, pr, 1, nw, nw, ep + 1, true, [], 0, 0⟩, 0) := by
    unfold endF
    simp only
    rw [if_neg (by omega), if_neg (by omega), if_pos trivial]
    simp only [turnF, w2]
  have hr : restF ⟨w, fl, op, pr, 2, si, nw, ep, true, [], i, 5⟩ ⟨3, nw, 5, ep⟩ = (⟨w, fl, op, pr, 1, nw, nw, ep + 1, true, [], 0, 0⟩, false, 0) := by
    unfold restF
    rw [hend]
    simp only
    rw [if_neg (by omega), if_neg (by omega), if_neg (by omega), if_neg (by omega), if_pos trivial, if_neg (by simp), if_neg (by omega)]
  rw [hr]
  rfl
end Go.Proofs.YtkhbbppkghcbeaaDoor
namespace Go.Proofs.YtkhbbppkghcbeaaDoor
open Go.Sx
set_option maxRecDepth 10000
def spCheckL : FSpec := fun _ xs ls K => ∃ (s : BS) (n : Int) (f : Nat → List SV), xs = [.agg (stC s n f)] ∧ ls = [] ∧ Rows encB s.outs n f ∧ s.outs.length ≤ 9223372036854775807 ∧ ∀ r, r = checkF s → K (.int .i64 (.a r)) []
set_option maxHeartbeats 1000000
theorem checkL_ok : FnOk Tryd.prog gl 19 spCheckL := by
  refine fnOk (gh := []) mixed cxOk (tabCons cc_ok (tabCons failed_ok tabNil)) Tryd.func19 (by kernel_rfl) (by kernel_rfl) ?_
  intro xs ls K h
  unfold spCheckL at h
  obtain ⟨⟨w, fl, op, pr, st, si, nw, ep, nl, outs, good, probe⟩, n, f, rfl, rfl, R, hl, h⟩ := h
  obtain ⟨r, hr⟩ : ∃ r, r = checkF ⟨w, fl, op, pr, st, si, nw, ep, nl, outs, good, probe⟩ := ⟨_, rfl⟩
  refine ⟨_, _, h r hr, fun D hD => ?_⟩
  clear h
  cbv
  refine ⟨_, _, _, _, rfl, rfl, fun c hc => ?_⟩
  have hc : c = ccF w fl op pr := by subst hD; exact hc
  have hck : r = if c ≠ 0 then c else if rightF ⟨w, fl, op, pr, st, si, nw, ep, nl, outs, good, probe⟩ then 0 else 6 := by rw [hr, checkF, ← hc]
  clear hr hc
  cbv
  refine br hD (fun h => ?_) (fun h => ?_) <;> cbv
  · refine finInt hD ?_
    simp at h ⊢
    rw [hck, if_pos h]
  simp at h
  rw [if_neg (by omega)] at hck
  refine br hD (fun h1 => ?_) (fun h1 => ?_) <;> cbv
  · simp at h1
    refine ⟨_, _, _, outs, rfl, rfl, by subst hD; exact R, hl, fun c1 hc1 => ?_⟩
    cbv
    refine br hD (fun h3 => ?_) (fun h3 => ?_) <;> cbv
    all_goals
      refine finInt hD ?_
      have hrf : rightF ⟨w, fl, op, pr, st, si, nw, ep, nl, outs, good, probe⟩ ↔ (0 ≤ si ∧ si ≤ nw ∧ nw ≤ 1000000000000 ∧ 1 ≤ ep ∧ ep ≤ 1000000000) ∧ good = 0 ∧ probe = 0 ∧ outs.length ≤ w ∧ c1 < fl := by simp [rightF, h1, hc1]
      have hn := R.n
      simp only [hrf] at hck
      simp at h3 hn ⊢
      rw [hck]
      split <;> omega
  simp at h1
  refine br hD (fun h2 => ?_) (fun h2 => ?_) <;> cbv
  · simp at h2
    have hrf : rightF ⟨w, fl, op, pr, st, si, nw, ep, nl, outs, good, probe⟩ ↔ (0 ≤ si ∧ si ≤ nw ∧ nw ≤ 1000000000000 ∧ 1 ≤ ep ∧ ep ≤ 1000000000) ∧ good = 0 ∧ probe = 0 ∧ outs.length = 0 ∧ nw < IntKind.i64.wrap (si + op) := by simp [rightF, h2]
    refine br hD (fun h3 => ?_) (fun h3 => ?_) <;> cbv
    all_goals
      refine finInt hD ?_
      have hn := R.n
      simp only [hrf] at hck
      simp at h3 hn ⊢
      rw [hck]
      split <;> omega
  simp at h2
  refine br hD (fun h4 => ?_) (fun h4 => ?_) <;> cbv
  · simp at h4
    have hrf : rightF ⟨w, fl, op, pr, st, si, nw, ep, nl, outs, good, probe⟩ ↔ (0 ≤ si ∧ si ≤ nw ∧ nw ≤ 1000000000000 ∧ 1 ≤ ep ∧ ep ≤ 1000000000) ∧ outs.length = 0 ∧ 0 ≤ good ∧ good < pr ∧ 0 ≤ probe ∧ probe ≤ 1000000000 := by simp [rightF, h4]
    refine br hD (fun h3 => ?_) (fun h3 => ?_) <;> cbv
    all_goals
      refine finInt hD ?_
      have hn := R.n
      simp only [hrf] at hck
      simp at h3 hn ⊢
      rw [hck]
      split <;> omega
  simp at h4
  have hrf : ¬ rightF ⟨w, fl, op, pr, st, si, nw, ep, nl, outs, good, probe⟩ := by simp [rightF, h1, h2, h4]
  rw [if_neg hrf] at hck
  refine finInt hD ?_
  simp [hck]
end Go.Proofs.YtkhbbppkghcbeaaDoor
namespace Go.Proofs.YtkhbbppkghcbeaaDoor
open Go.Sx
set_option maxRecDepth 10000
set_option maxHeartbeats 4000000
/-- Where the breaker stands after so many successes. -/
structure BackT (w fl op pr si nw ep : Int) (bad : Bool) (i : Int) (t : BS) : Prop where
  on : i < pr → t.w = w ∧ t.fl = fl ∧ t.op = op ∧ t.pr = pr ∧ t.st = 2 ∧ t.since = si ∧ t.now = nw ∧ t.ep = ep ∧ t.outs = [] ∧ t.good = i ∧ t.probe = 0
  off : i = pr → t.st = (if bad then 1 else 0) ∧ t.since = nw ∧ t.ep = ep + 1 ∧ t.outs = []
structure BackI (w fl op pr si nw ep good : Int) (bad : Bool) (i : Int) (I : Int) (t : BS) (n : Int) (f : Nat → List SV) (m : Nat) : Prop where
  lo : good ≤ i
  hi : i ≤ pr
  I : I = i
  T : BackT w fl op pr si nw ep bad i t
  R : Rows encB t.outs n f
  m : (m : Int) = pr - i
def backJ (s : BS) (n0 : Int) (f0 : Nat → List SV) (bad : Bool) (x : Int) (m : Nat) (vs : List (Option SV)) (hp : List Hl) : Prop :=
  ∃ (i I : Int) (t : BS) (n : Int) (f : Nat → List SV), vs = [some (.bool (.a bad)), some (.int .i64 (.a x)), some (.ptr 0 0), some (.ptr 1 0), some (.int .i64 (.a I))] ∧
    hp = [.blk 26 (stC s n0 f0), .blk 26 (stC t n f)] ∧ BackI s.w s.fl s.op s.pr s.since s.now s.ep s.good bad i I t n f m
def spLawBack : FSpec := fun _ xs ls K => ∃ (s : BS) (n : Int) (f : Nat → List SV) (bad : Bool) (x : Int), xs = [.agg (stC s n f), .bool (.a bad), .int .i64 (.a x)] ∧ ls = [] ∧ Rows encB s.outs n f ∧ s.outs.length ≤ 9223372036854775807 ∧ K (.bool (.a true)) []
theorem back_ok : FnOk Tryd.prog gl 7 spLawBack := by
  refine fnOk (gh := []) mixed cxOk (tabCons shown_ok (tabCons checkL_ok (tabCons step_ok (tabCons same_ok tabNil)))) Tryd.func7 (by kernel_rfl) (by kernel_rfl) ?_
  intro xs ls K h
  unfold spLawBack at h
  obtain ⟨⟨w, fl, op, pr, st, si, nw, ep, nl, outs, good, probe⟩, n, f, bad, x, rfl, rfl, R, hl, h⟩ := h
  refine ⟨_, _, h, fun D hD => ?_⟩
  clear h
  cbv
  refine ⟨⟨_, _, _, _, _, _, _, _, _, outs, _, _⟩, _, _, rfl, rfl, by subst hD; exact R, hl, fun c hc => ?_⟩
  have hc : c = checkF ⟨w, fl, op, pr, st, si, nw, ep, nl, outs, good, probe⟩ := by subst hD; exact hc
  cbv
  refine br hD (fun h => ?_) (fun h => ?_) <;> cbv
  · exact finBool hD rfl
  have hs : c = 0 ∧ st = 2 ∧ probe = 0 ∧ ep < 1000000000 := by simp at h; omega
  obtain ⟨rfl, rfl, rfl, hep⟩ := hs
  obtain ⟨hcc, hrf⟩ := checkF_ok hc.symm
  simp only [rightF] at hrf
  have V : HalfV w fl op pr si nw ep := ⟨hcc, by omega, by omega, by omega, by omega, hep⟩
  have hout : outs = [] := by have : outs.length = 0 := by omega
                              exact List.eq_nil_of_length_eq_zero this
  subst hout
  have hg0 : 0 ≤ good := by omega
  have hg1 : good < pr := by omega
  have hpr : pr ≤ 8 := (ccF_ok hcc).2.2.2.2.2.2.2
  clear h hc hcc hrf hep hl
  obtain ⟨J, hJ⟩ : ∃ J, J = backJ ⟨w, fl, op, pr, 2, si, nw, ep, nl, [], good, 0⟩ n f bad x := ⟨_, rfl⟩
  refine ⟨[1, 2, 3, 7, 8], J, ⟨rfl, (pr - good).toNat, ?_⟩, ?_⟩
  · rw [hJ]
    subst hD
    exact ⟨good, _, ⟨w, fl, op, pr, 2, si, nw, ep, nl, [], good, 0⟩, n, f, rfl, rfl, ⟨Int.le_refl _, by simp only; omega, rfl, ⟨fun _ => ⟨rfl, rfl, rfl, rfl, rfl, rfl, rfl, rfl, rfl, rfl, rfl⟩, fun h => by simp only at h; omega⟩, R, by simp only; omega⟩⟩
  intro m vs hp hv
  rw [hJ] at hv
  unfold backJ at hv
  obtain ⟨i, I, ⟨w2, fl2, op2, pr2, st2, si2, nw2, ep2, nl2, outs2, good2, probe2⟩, n2, f2, rfl, rfl, V2⟩ := hv
  cbv
  refine br hD (fun h => ?_) (fun h => ?_) <;> cbv
  · have hip : i < pr := by have := V2.I; simp at h; omega
    obtain ⟨e1, e2, e3, e4, e5, e6, e7, e8, e9, e10, e11⟩ := V2.T.on hip
    simp only at e1 e2 e3 e4 e5 e6 e7 e8 e9 e10 e11
    have hI := V2.I
    subst hI
    subst e1 e2 e3 e4 e5 e6 e7 e8 e9 e10 e11
    have hlo : 0 ≤ good2 := by have := V2.lo; simp only at this; omega
    have R2 := V2.R
    have hlo2 := V2.lo
    clear h
    refine ⟨⟨_, _, _, _, _, _, _, _, _, [], _, _⟩, _, _, ⟨_, _, _, _⟩, rfl, rfl, by subst hD; exact R2, by simp, fun u ub ur n3 f3 hu hub hur R3 => ?_⟩
    have ask := half_ask V nl2 good2 hlo hip
    have hu : u = ⟨w2, fl2, op2, pr2, 2, si2, nw2, ep2, true, [], good2, 5⟩ := by subst hD; exact hu.trans (congrArg Prod.fst ask)
    have hub : ub = true := by subst hD; exact hub.trans (congrArg (fun x => x.2.1) ask)
    have hur : ur = 0 := by subst hD; exact hur.trans (congrArg (fun x => x.2.2) ask)
    subst hu hub hur
    clear ask
    cbv
    refine br hD (fun h => ?_) (fun h => ?_) <;> cbv
    · simp at h
    clear h
    refine br hD (fun h => ?_) (fun h => ?_) <;> cbv
    · have hx : 1 ≤ x ∧ x ≤ 1000000000 ∧ x ≠ ep2 := by simp at h; omega
      clear h
      refine ⟨⟨_, _, _, _, _, _, _, _, _, [], _, _⟩, _, _, ⟨_, _, _, _⟩, rfl, rfl, by subst hD; exact R3, by simp, fun y yb yr n4 f4 hy hyb hyr R4 => ?_⟩
      have oth := half_other V true good2 hlo hip hx.1 hx.2.1 hx.2.2
      have hy : y = ⟨w2, fl2, op2, pr2, 2, si2, nw2, ep2, true, [], good2, 5⟩ := by subst hD; exact hy.trans (congrArg Prod.fst oth)
      have hyr : yr = 0 := by subst hD; exact hyr.trans (congrArg (fun x => x.2.2) oth)
      subst hy hyr
      clear oth hyb
      cbv
      refine ⟨⟨_, _, _, _, _, _, _, _, _, [], _, _⟩, ⟨_, _, _, _, _, _, _, _, _, [], _, _⟩, _, _, _, _, rfl, rfl, by subst hD; exact R3, by subst hD; exact R4, by simp, by subst hD; rfl, ?_⟩
      cbv
      refine br hD (fun h => ?_) (fun h => ?_) <;> cbv
      · simp at h
      clear h R4
      refine br hD (fun h => ?_) (fun h => ?_) <;> cbv
      · have hk : bad = true ∧ good2 + 1 = pr2 := by
          have w1 : IntKind.i64.wrap (pr2 - 1) = pr2 - 1 := wrap64 (by omega) (by omega)
          simp [w1] at h
          exact ⟨h.1, by omega⟩
        clear h
        refine ⟨⟨_, _, _, _, _, _, _, _, _, [], _, _⟩, _, _, ⟨_, _, _, _⟩, rfl, rfl, by subst hD; exact R3, by simp, fun v vb vr n5 f5 hv hvb hvr R5 => ?_⟩
        have stp := half_bad V true good2 hlo hip
        have hv : v = ⟨w2, fl2, op2, pr2, 1, nw2, nw2, ep2 + 1, true, [], 0, 0⟩ := by subst hD; exact hv.trans (congrArg Prod.fst stp)
        have hvr : vr = 0 := by subst hD; exact hvr.trans (congrArg (fun x => x.2.2) stp)
        subst hvr
        clear stp hvb
        have hT : BackT w2 fl2 op2 pr2 si2 nw2 ep2 bad (good2 + 1) v := by
          rw [hv]
          refine ⟨fun h => ?_, fun h => ?_⟩
          · omega
          · have hb : bad = true := hk.1
            subst hb
            exact ⟨rfl, rfl, rfl, rfl⟩
        clear hv
        obtain ⟨w5, fl5, op5, pr5, st5, si5, nw5, ep5, nl5, outs5, good5, probe5⟩ := v
        cbv
        refine br hD (fun h => ?_) (fun h => ?_) <;> cbv
        · simp at h
        refine ⟨(pr2 - (good2 + 1)).toNat, (by have hm : (m : Int) = pr2 - good2 := V2.m; omega), ?_⟩
        rw [hJ]
        subst hD
        refine ⟨good2 + 1, _, ⟨w5, fl5, op5, pr5, st5, si5, nw5, ep5, nl5, outs5, good5, probe5⟩, n5, f5, rfl, rfl, ⟨by simp only at hlo2 ⊢; omega, by simp only; omega, ?_, hT, R5, by simp only; omega⟩⟩
        simp [dn]
        exact wrap64 (by omega) (by omega)
      · have hk : bad = true → good2 + 1 ≠ pr2 := by
          have w1 : IntKind.i64.wrap (pr2 - 1) = pr2 - 1 := wrap64 (by omega) (by omega)
          simp [w1] at h
          intro hb
          have := h hb
          omega
        clear h
        refine ⟨⟨_, _, _, _, _, _, _, _, _, [], _, _⟩, _, _, ⟨_, _, _, _⟩, rfl, rfl, by subst hD; exact R3, by simp, fun v vb vr n5 f5 hv hvb hvr R5 => ?_⟩
        have stp := half_good V true good2 hlo hip
        have hv : v = (if good2 + 1 = pr2 then ⟨w2, fl2, op2, pr2, 0, nw2, nw2, ep2 + 1, true, [], 0, 0⟩ else ⟨w2, fl2, op2, pr2, 2, si2, nw2, ep2, true, [], good2 + 1, 0⟩) := by subst hD; exact hv.trans (congrArg Prod.fst stp)
        have hvr : vr = 0 := by subst hD; exact hvr.trans (congrArg (fun x => x.2.2) stp)
        subst hvr
        clear stp hvb
        have hT : BackT w2 fl2 op2 pr2 si2 nw2 ep2 bad (good2 + 1) v := by
          rw [hv]
          refine ⟨fun h => ?_, fun h => ?_⟩
          · rw [if_neg (by omega)]; exact ⟨rfl, rfl, rfl, rfl, rfl, rfl, rfl, rfl, rfl, rfl, rfl⟩
          · rw [if_pos h]
            have hb : bad = false := by cases bad; rfl; exact absurd (hk rfl) (by omega)
            subst hb
            exact ⟨rfl, rfl, rfl, rfl⟩
        clear hv
        obtain ⟨w5, fl5, op5, pr5, st5, si5, nw5, ep5, nl5, outs5, good5, probe5⟩ := v
        cbv
        refine br hD (fun h => ?_) (fun h => ?_) <;> cbv
        · simp at h
        refine ⟨(pr2 - (good2 + 1)).toNat, (by have hm : (m : Int) = pr2 - good2 := V2.m; omega), ?_⟩
        rw [hJ]
        subst hD
        refine ⟨good2 + 1, _, ⟨w5, fl5, op5, pr5, st5, si5, nw5, ep5, nl5, outs5, good5, probe5⟩, n5, f5, rfl, rfl, ⟨by simp only at hlo2 ⊢; omega, by simp only; omega, ?_, hT, R5, by simp only; omega⟩⟩
        simp [dn]
        exact wrap64 (by omega) (by omega)
    · clear h
      refine br hD (fun h => ?_) (fun h => ?_) <;> cbv
      · have hk : bad = true ∧ good2 + 1 = pr2 := by
          have w1 : IntKind.i64.wrap (pr2 - 1) = pr2 - 1 := wrap64 (by omega) (by omega)
          simp [w1] at h
          exact ⟨h.1, by omega⟩
        clear h
        refine ⟨⟨_, _, _, _, _, _, _, _, _, [], _, _⟩, _, _, ⟨_, _, _, _⟩, rfl, rfl, by subst hD; exact R3, by simp, fun v vb vr n5 f5 hv hvb hvr R5 => ?_⟩
        have stp := half_bad V true good2 hlo hip
        have hv : v = ⟨w2, fl2, op2, pr2, 1, nw2, nw2, ep2 + 1, true, [], 0, 0⟩ := by subst hD; exact hv.trans (congrArg Prod.fst stp)
        have hvr : vr = 0 := by subst hD; exact hvr.trans (congrArg (fun x => x.2.2) stp)
        subst hvr
        clear stp hvb
        have hT : BackT w2 fl2 op2 pr2 si2 nw2 ep2 bad (good2 + 1) v := by
          rw [hv]
          refine ⟨fun h => ?_, fun h => ?_⟩
          · omega
          · have hb : bad = true := hk.1
            subst hb
            exact ⟨rfl, rfl, rfl, rfl⟩
        clear hv
        obtain ⟨w5, fl5, op5, pr5, st5, si5, nw5, ep5, nl5, outs5, good5, probe5⟩ := v
        cbv
        refine br hD (fun h => ?_) (fun h => ?_) <;> cbv
        · simp at h
        refine ⟨(pr2 - (good2 + 1)).toNat, (by have hm : (m : Int) = pr2 - good2 := V2.m; omega), ?_⟩
        rw [hJ]
        subst hD
        refine ⟨good2 + 1, _, ⟨w5, fl5, op5, pr5, st5, si5, nw5, ep5, nl5, outs5, good5, probe5⟩, n5, f5, rfl, rfl, ⟨by simp only at hlo2 ⊢; omega, by simp only; omega, ?_, hT, R5, by simp only; omega⟩⟩
        simp [dn]
        exact wrap64 (by omega) (by omega)
      · have hk : bad = true → good2 + 1 ≠ pr2 := by
          have w1 : IntKind.i64.wrap (pr2 - 1) = pr2 - 1 := wrap64 (by omega) (by omega)
          simp [w1] at h
          intro hb
          have := h hb
          omega
        clear h
        refine ⟨⟨_, _, _, _, _, _, _, _, _, [], _, _⟩, _, _, ⟨_, _, _, _⟩, rfl, rfl, by subst hD; exact R3, by simp, fun v vb vr n5 f5 hv hvb hvr R5 => ?_⟩
        have stp := half_good V true good2 hlo hip
        have hv : v = (if good2 + 1 = pr2 then ⟨w2, fl2, op2, pr2, 0, nw2, nw2, ep2 + 1, true, [], 0, 0⟩ else ⟨w2, fl2, op2, pr2, 2, si2, nw2, ep2, true, [], good2 + 1, 0⟩) := by subst hD; exact hv.trans (congrArg Prod.fst stp)
        have hvr : vr = 0 := by subst hD; exact hvr.trans (congrArg (fun x => x.2.2) stp)
        subst hvr
        clear stp hvb
        have hT : BackT w2 fl2 op2 pr2 si2 nw2 ep2 bad (good2 + 1) v := by
          rw [hv]
          refine ⟨fun h => ?_, fun h => ?_⟩
          · rw [if_neg (by omega)]; exact ⟨rfl, rfl, rfl, rfl, rfl, rfl, rfl, rfl, rfl, rfl, rfl⟩
          · rw [if_pos h]
            have hb : bad = false := by cases bad; rfl; exact absurd (hk rfl) (by omega)
            subst hb
            exact ⟨rfl, rfl, rfl, rfl⟩
        clear hv
        obtain ⟨w5, fl5, op5, pr5, st5, si5, nw5, ep5, nl5, outs5, good5, probe5⟩ := v
        cbv
        refine br hD (fun h => ?_) (fun h => ?_) <;> cbv
        · simp at h
        refine ⟨(pr2 - (good2 + 1)).toNat, (by have hm : (m : Int) = pr2 - good2 := V2.m; omega), ?_⟩
        rw [hJ]
        subst hD
        refine ⟨good2 + 1, _, ⟨w5, fl5, op5, pr5, st5, si5, nw5, ep5, nl5, outs5, good5, probe5⟩, n5, f5, rfl, rfl, ⟨by simp only at hlo2 ⊢; omega, by simp only; omega, ?_, hT, R5, by simp only; omega⟩⟩
        simp [dn]
        exact wrap64 (by omega) (by omega)
  · have hip : i = pr := by have := V2.I; have := V2.hi; simp at h; simp only at *; omega
    obtain ⟨e1, e2, e3, e4⟩ := V2.T.off hip
    simp only at e1 e2 e3 e4
    have hn2 := V2.R.n
    simp only [e4] at hn2
    have w1 : IntKind.i64.wrap (ep + 1) = ep + 1 := wrap64 (by have := V.e1; omega) (by have := V.e2; omega)
    have hn2 : n2 = 0 := hn2
    refine br hD (fun h => ?_) (fun h => ?_) <;> cbv
    · have hb : bad = true := by simpa using h
      subst hb
      refine finBool hD ?_
      simp [BT.den, cmpDen, ST.den, binDen, e1, e2, e3, w1]
    · have hb : bad = false := by simpa using h
      subst hb
      refine finBool hD ?_
      simp [BT.den, cmpDen, ST.den, binDen, e1, e3, hn2, w1]
end Go.Proofs.YtkhbbppkghcbeaaDoor
namespace Go.Proofs.YtkhbbppkghcbeaaDoor
open Go Go.Sx Go.ChangeShapes Go.WideShapes Go.RowKit
set_option maxRecDepth 100000
theorem open24L : OpenT Tryd.prog 24 (fun x : {x : Bool × List Bool // x.2.length ≤ maxLen} => slC 1 encB x.1) := .sliceL Tryd.underlying24 (by kernel_rfl) (by decide) open4
def ofFieldsL (x : (Int × Int × Int × Int × Unit) × Int × Int × Int × Int × {x : Bool × List Bool // x.2.length ≤ maxLen} × Int × Int × Unit) : BS := ⟨x.1.1, x.1.2.1, x.1.2.2.1, x.1.2.2.2.1, x.2.1, x.2.2.1, x.2.2.2.1, x.2.2.2.2.1, x.2.2.2.2.2.1.1.1, x.2.2.2.2.2.1.1.2, x.2.2.2.2.2.2.1, x.2.2.2.2.2.2.2.1⟩
theorem fields26L : OpenF Tryd.prog [(0, 23), (4, 3), (5, 2), (6, 2), (7, 2), (8, 24), (9, 3), (10, 2)] 0 11 (fun x => stC (ofFieldsL x) (ofFieldsL x).outs.length (rowOfL encB (ofFieldsL x).outs)) := .cons 0 4 7 (by kernel_rfl) open23 (.cons 4 1 6 (by kernel_rfl) open3 (.cons 5 1 5 (by kernel_rfl) open2 (.cons 6 1 4 (by kernel_rfl) open2 (.cons 7 1 3 (by kernel_rfl) open2 (.cons 8 1 2 (by kernel_rfl) open24L (.cons 9 1 1 (by kernel_rfl) open3 (.cons 10 1 0 (by kernel_rfl) open2 .nil)))))))
theorem open26L : OpenT Tryd.prog 26 (fun s : {s : BS // s.outs.length ≤ 9223372036854775807} => stC s.1 s.1.outs.length (rowOfL encB s.1.outs)) :=
  (OpenT.struct Tryd.underlying26 (by kernel_rfl) (by kernel_rfl) fields26L).map (fun x => ⟨ofFieldsL x, by have := x.2.2.2.2.2.1.2; unfold maxLen at this; exact this⟩) fun _ => rfl
end Go.Proofs.YtkhbbppkghcbeaaDoor
