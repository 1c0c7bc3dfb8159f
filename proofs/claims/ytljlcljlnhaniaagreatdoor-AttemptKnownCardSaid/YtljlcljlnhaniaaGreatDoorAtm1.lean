/- Part of the proof of the statement: an evaluator of the code at closed data, run by the kernel, and that it is sound; it has no conditions of its own. -/
import Derived.Test.YtljlcljlnhaniaaGreatDoorAt1
set_option linter.unusedVariables false
set_option linter.unusedSimpArgs false
namespace Go.Proofs.YtljlcljlnhaniaaGreatDoor
open Go Go.Cv
set_option maxRecDepth 100000
def M1 : MT := [(115, [(a1, v1), (a2, v2), (a3, v3)]), (31, [(a0, v0)]), (119, [(a4, v4)]), (183, [(a5, v5)]), (220, [(a6, v6)])]
theorem facts1 {W : World} (τ : Nat → Nat) (hw : GHas W (gl τ)) (hb : ∀ x ∈ gl τ, x.1 < W.heap.size) : Facts Tryz.prog W.heap.size W M1 := by
  have h0 : Facts Tryz.prog W.heap.size W M0 := Facts.nil
  exact (Facts.cons (fcons (fact1 τ h0 hw hb) (fcons (fact2 τ h0 hw hb) (fcons (fact3 τ h0 hw hb) fnil))) (Facts.cons (fcons (fact0 τ h0 hw hb) fnil) (Facts.cons (fcons (fact4 τ h0 hw hb) fnil) (Facts.cons (fcons (fact5 τ h0 hw hb) fnil) (Facts.cons (fcons (fact6 τ h0 hw hb) fnil) Facts.nil)))))
end Go.Proofs.YtljlcljlnhaniaaGreatDoor
