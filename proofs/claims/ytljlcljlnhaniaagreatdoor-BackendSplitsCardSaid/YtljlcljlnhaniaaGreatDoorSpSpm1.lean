/- Part of the proof of the statement: an evaluator of the code at closed data, run by the kernel, and that it is sound; it has no conditions of its own. -/
import Derived.Test.YtljlcljlnhaniaaGreatDoorSpSp1
set_option linter.unusedVariables false
set_option linter.unusedSimpArgs false
namespace Go.Proofs.YtljlcljlnhaniaaGreatDoor
open Go Go.Cv
set_option maxRecDepth 100000
def M1 : MT := [(181, [(a0, v0)])]
theorem facts1 {W : World} (τ : Nat → Nat) (hw : GHas W (gl τ)) (hb : ∀ x ∈ gl τ, x.1 < W.heap.size) : Facts Tryz.prog W.heap.size W M1 := by
  have h0 : Facts Tryz.prog W.heap.size W M0 := Facts.nil
  exact (Facts.cons (fcons (fact0 τ h0 hw hb) fnil) Facts.nil)
end Go.Proofs.YtljlcljlnhaniaaGreatDoor
