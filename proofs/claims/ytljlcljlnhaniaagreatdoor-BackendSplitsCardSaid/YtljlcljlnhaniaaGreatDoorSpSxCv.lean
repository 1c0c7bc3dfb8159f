/- Part of the proof of the statement: an evaluator of the code at closed data, run by the kernel, and that it is sound; it has no conditions of its own. -/
import Derived.Test.YtljlcljlnhaniaaGreatDoorSxg
import Derived.Test.YtljlcljlnhaniaaGreatDoorSpSxDr
import Derived.Test.YtljlcljlnhaniaaGreatDoorCvg
set_option linter.unusedVariables false
set_option linter.unusedSimpArgs false
/- The evaluator's facts beside the executor's contracts. -/
namespace Go.Sx
open Go Go.RowKit
/-- A variable that is laid: its cells. -/
def rawRow (vs : List Value) : SV := .rarr vs.length 1 fun i => [.raw (vs.getD i undef)]
theorem raw_of_laid {P : Program} {nm : String} {d : DataW Unit} {r : List (String × DataW Unit)} {W : World} {g t : Nat} {vs : List Value} (h : laidMet P ((nm, d) :: r) W) (hg : P.globalNamed nm = some g) (ht : (P.globals[g]?).map (·.type) = some t) (hf : Cv.flatC P 10 t d = some vs) (h1 : vs.all (·.oneCell') = true) :
    RO (oldI W) W (rawRow vs) (.pointer (some ⟨g, 0, none⟩)) ∧ g < W.heap.size ∧ glBlk W g (rawRow vs) := by
  obtain ⟨arr, ty, fz, hh, ha⟩ := Cv.laid_flat h hg ht hf
  have hlt : g < W.heap.size := (Array.getElem?_eq_some_iff.1 hh).1
  have hget : ∀ i, i < vs.length → vs[i]? = some (vs.getD i undef) := fun i hi => by
    rw [List.getD_eq_getElem?_getD, List.getElem?_eq_getElem hi]; rfl
  refine ⟨.rarr (fun i _ => vs.getD i undef) rfl (fun i _ => rfl) (fun i j hi _ => List.all_eq_true.1 h1 _ (List.mem_of_getElem? (hget i hi))) (fun i j hi hj => ⟨?_, hlt⟩) (fun i j s hi hs => ?_), hlt, arr, ty, fz, hh, ?_⟩
  · have e : 0 + (i * 1 + j) = i := by omega
    show W.cell? ⟨g, 0 + (i * 1 + j), none⟩ = _
    rw [e]
    have := hget i hi
    rw [← ha, Array.getElem?_toList, ha] at this
    simp [World.cell?, hh, this]
  · cases j with
    | zero => cases hs; exact .raw rfl
    | succ j => cases hs
  · rw [← ha]; simp
theorem ghas_of_gl {B : Bs} {gl : List (Nat × SV)} {g : Nat} {vs : List Value} {cs : List Cv.CV} (h : glOk B gl) (hl : look g gl = some (rawRow vs)) (hc : Cv.cellsB cs vs = true) :
    g < B.w0.heap.size ∧ ∃ arr fz us, B.w0.heap[g]? = some (.cells arr (Cv.tyAt B.w0 g) fz) ∧ Cv.VRL (fun _ _ => none) cs us ∧ (∀ u ∈ us, u.oneCell' = true) ∧ ∀ (i : Nat) (u : Value), us[i]? = some u → arr[i]? = some u := by
  obtain ⟨hro, hlt, _, h4⟩ := h g _ hl
  have h4 : ∃ (C : Array Value) (t : TypeId) (fr : Nat × Nat), B.w0.heap[g]? = some (.cells C t fr) ∧ C.size = vs.length * 1 := h4
  obtain ⟨C, t, fr, hh, hsz⟩ := h4
  obtain ⟨q1, q2⟩ := Cv.cellsB_ok (ι := fun _ _ => none) hc
  refine ⟨hlt, C, fr, vs, by unfold Cv.tyAt; rw [hh], q1, q2, fun i u hu => ?_⟩
  have hro : RO B.I0 B.w0 (.rarr vs.length 1 fun i => [.raw (vs.getD i undef)]) (.pointer (some ⟨g, 0, none⟩)) := hro
  cases hro with
  | rarr g' hs hl1 h1 hcell hrel =>
    have hi : i < vs.length := (List.getElem?_eq_some_iff.1 hu).1
    have h5 := (hcell i 0 hi (by omega)).1
    have h6 := hrel i 0 _ hi rfl
    have e : 0 + (i * 1 + 0) = i := by omega
    have h5 : B.w0.cell? ⟨g, 0 + (i * 1 + 0), none⟩ = some (g' i 0) := h5
    rw [e] at h5
    cases h6 with
    | raw h7 =>
      rw [h7, List.getD_eq_getElem?_getD, hu] at h5
      simpa [World.cell?, hh] using h5
/-- A function without arguments that answers true. -/
theorem fnOk_fact {P : Program} {gl : List (Nat × SV)} {f : FuncId} {sp : FSpec} (hsp : ∀ D xs ls K, sp D xs ls K → xs = [] ∧ ls = [] ∧ K (.bool (.a true)) []) (hg : FnGood P f) (h : ∀ B : Bs, glOk B gl → Cv.Fact P B.w0.heap.size B.w0 f [] (.b true)) : FnOk P gl f sp :=
  ⟨hg, fun as ls K hs => by
    obtain ⟨rfl, rfl, hk⟩ := hsp _ _ _ _ hs
    refine ⟨_, _, hk, callsTo_below fun E B w vals hgl hb hw0 hr => ?_⟩
    have hv : vals = [] := List.eq_nil_of_length_eq_zero hr.1.symm
    subst hv
    have hf := h B hgl
    rw [hw0] at hf
    exact (Cv.law_fact hf).mono fun e w' hq => ⟨_, hq.1, fun E => .ro (.bool rfl), hq.2⟩⟩
end Go.Sx
