/- Part of the proof of the statement: an evaluator of the code at closed data, run by the kernel, and that it is sound; it has no conditions of its own. -/
import Derived.Test.YtljlcljlnhaniaaGreatDoorSpSxDr
set_option linter.unusedVariables false
set_option linter.unusedSimpArgs false
/- Slices with the bound of their length. -/
namespace Go.Sx
open Go Go.ChangeShapes Go.WideShapes Go.RowKit
section
variable {P : Program}
theorem OpenT.sliceL {t e : TypeId} {α : Type} {sz : Nat} {enc : α → List SV} (ht : P.underlying t = some (.slice e)) (hz : P.cellsOf e = sz) (h0 : 0 < sz) (he : OpenT P e enc) : OpenT P t (fun x : {x : Bool × List α // x.2.length ≤ maxLen} => slC sz enc x.1) := by
  intro H tok W spare held fuel cs x h
  rcases DataW.trod_slice ht h with ⟨rfl, _⟩ | ⟨a, len, cap, elems, rest, n, _, rfl, _, _, hle, hcap, hlen, hel, _, _⟩
  · exact ⟨⟨(true, []), Nat.zero_le _⟩, .one (.slnil rfl rfl) rfl⟩
  · rw [hz] at hel
    have key : ∀ i, i < len → ∃ (al : α) (vs : List Value), ROL (oldI W) W (enc al) vs ∧ vs.length = sz ∧ ∀ j, j < sz → W.cell? ((a.add (i * sz)).add j) = vs[j]? := by
      intro i hi
      have h1 := hel i hi
      rw [List.getElem?_eq_getElem (by omega)] at h1
      cases hc : W.cells? 0 (a.add (i * sz)) sz with
      | none => rw [hc] at h1; cases h1
      | some vs =>
        rw [hc] at h1
        obtain ⟨al, hal⟩ := he H tok W _ _ _ vs _ h1
        have hg := cells_get hc
        exact ⟨al, vs, hal, hg.1, hg.2⟩
    have gen : ∀ len : Nat, (∀ i, i < len → ∃ (al : α) (vs : List Value), ROL (oldI W) W (enc al) vs ∧ vs.length = sz ∧ ∀ j, j < sz → W.cell? ((a.add (i * sz)).add j) = vs[j]?) → ∃ (l : List α) (g : Nat → Nat → Value), l.length = len ∧ ∀ i al, l[i]? = some al → (enc al).length = sz ∧ (∀ j, j < sz → W.cell? ((a.add (i * sz)).add j) = some (g i j) ∧ (g i j).oneCell' = true) ∧ ∀ j s, (enc al)[j]? = some s → RO (oldI W) W s (g i j) := by
      clear key hel hlen hcap hle h
      intro len key
      induction len with
      | zero => exact ⟨[], fun _ _ => undef, rfl, by simp⟩
      | succ len ih =>
        obtain ⟨l, g, hl, hg⟩ := ih (fun i hi => key i (by omega))
        obtain ⟨al, vs, k1, k2, k3⟩ := key len (by omega)
        refine ⟨l ++ [al], fun i j => if i = len then vs.getD j undef else g i j, by simp [hl], fun i al' hi => ?_⟩
        rw [List.getElem?_append] at hi
        split at hi
        · rename_i hlt
          have hne : i ≠ len := by omega
          obtain ⟨g1, g2, g3⟩ := hg i al' hi
          exact ⟨g1, fun j hj => by simpa only [if_neg hne] using g2 j hj, fun j s hs => by simpa only [if_neg hne] using g3 j s hs⟩
        · rename_i hlt
          have hil : i = len := by
            have := (List.getElem?_eq_some_iff.1 hi).1
            simp at this; omega
          subst hil
          have h00 : i - l.length = 0 := by omega
          rw [h00] at hi
          simp at hi
          subst hi
          refine ⟨by rw [k1.1, k2], fun j hj => ?_, fun j s hs => ?_⟩
          · simp only [if_pos]
            have hjv : vs[j]? = some vs[j] := List.getElem?_eq_getElem (by omega)
            rw [k3 j hj, hjv]
            simp only [List.getD_eq_getElem?_getD, hjv, Option.getD_some, true_and]
            exact k1.2.2 _ (List.getElem_mem _)
          · simp only [if_pos]
            have hjl : j < vs.length := by rw [← k1.1]; exact (List.getElem?_eq_some_iff.1 hs).1
            have hjv : vs[j]? = some vs[j] := List.getElem?_eq_getElem hjl
            simp only [List.getD_eq_getElem?_getD, hjv, Option.getD_some]
            exact k1.2.1 j s _ hs hjv
    obtain ⟨l, g, hl, hg⟩ := gen len key
    have hspot : 0 < len → a.spot = none := fun hpos => by
      obtain ⟨al, hal⟩ : ∃ al, l[0]? = some al := ⟨_, List.getElem?_eq_getElem (by omega)⟩
      obtain ⟨_, g2, _⟩ := hg 0 al hal
      have := (g2 0 h0).1
      obtain ⟨b, o, sp⟩ := a
      simp only [Nat.zero_mul, Addr.add, if_pos] at this
      exact (cell_lt this).2
    refine ⟨⟨(false, l), by simp only [hl]; omega⟩, .one (.sl g rfl (by simp [ST.den, hl]) hle hcap hspot (fun i hi => ?_) (fun i j hi hj => ?_) (fun i j hi hj => ?_) (fun i j s hi hs => ?_)) rfl⟩
    · obtain ⟨al, hal⟩ : ∃ al, l[i]? = some al := ⟨_, List.getElem?_eq_getElem (by omega)⟩
      simp only [rowOfL, hal]
      exact (hg i al hal).1
    · obtain ⟨al, hal⟩ : ∃ al, l[i]? = some al := ⟨_, List.getElem?_eq_getElem (by omega)⟩
      exact ((hg i al hal).2.1 j hj).2
    · obtain ⟨al, hal⟩ : ∃ al, l[i]? = some al := ⟨_, List.getElem?_eq_getElem (by omega)⟩
      have hc := ((hg i al hal).2.1 j hj).1
      have e : (a.add (i * sz)).add j = ⟨a.block, a.off + (i * sz + j), none⟩ := by
        have hs := hspot (by omega)
        obtain ⟨b, o, sp⟩ := a
        simp only at hs
        subst hs
        simp only [add_lit]
        congr 1
        omega
      rw [e] at hc
      exact ⟨hc, (cell_lt hc).1⟩
    · obtain ⟨al, hal⟩ : ∃ al, l[i]? = some al := ⟨_, List.getElem?_eq_getElem (by omega)⟩
      simp only [rowOfL, hal] at hs
      exact (hg i al hal).2.2 j s hs

end
end Go.Sx
