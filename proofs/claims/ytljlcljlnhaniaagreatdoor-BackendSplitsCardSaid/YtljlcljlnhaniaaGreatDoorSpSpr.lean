/- Part of the proof of the statement: an evaluator of the code at closed data, run by the kernel, and that it is sound; it has no conditions of its own. -/
import Derived.Test.YtljlcljlnhaniaaGreatDoorSpSpm1
set_option linter.unusedVariables false
set_option linter.unusedSimpArgs false
namespace Go.Proofs.YtljlcljlnhaniaaGreatDoor
open Go Go.Cv
set_option maxRecDepth 100000
/-- The whole law: 50884 steps. -/
theorem backendSplits_fact {W : World} (τ : Nat → Nat) (hw : GHas W (gl τ)) (hb : ∀ x ∈ gl τ, x.1 < W.heap.size) : Fact Tryz.prog W.heap.size W 13 [] (.b true) :=
  fact_run (S := sg M1) (H0 := H0 τ) (nx0 := nx0) (q := 10000000) (sokM _) (fokM _) (xokM _) rfl (facts1 τ hw hb) (initM _ τ hw hb) (by kernel_rfl)
end Go.Proofs.YtljlcljlnhaniaaGreatDoor
