/- Part of the proof of the statement: an evaluator of the code at closed data, run by the kernel, and that it is sound; it has no conditions of its own. -/
import Derived.Test.YtljlcljlnhaniaaGreatDoorMsm3
set_option linter.unusedVariables false
set_option linter.unusedSimpArgs false
namespace Go.Proofs.YtljlcljlnhaniaaGreatDoor
open Go Go.Cv
set_option maxRecDepth 100000
/-- spillway/spillwaylaw10.shown: 42726 steps. -/
def a26 : List CV := []
def v26 : CV := .b true
theorem fact26 {W : World} (τ : Nat → Nat) (h : Facts Tryz.prog W.heap.size W M3) (hw : GHas W (gl τ)) (hb : ∀ x ∈ gl τ, x.1 < W.heap.size) : Fact Tryz.prog W.heap.size W 10 a26 v26 :=
  fact_run (S := sg M3) (H0 := H0 τ) (nx0 := nx0) (q := 10000000) (sokM _) (fokM _) (xokM _) rfl h (initM _ τ hw hb) (by kernel_rfl)
end Go.Proofs.YtljlcljlnhaniaaGreatDoor
