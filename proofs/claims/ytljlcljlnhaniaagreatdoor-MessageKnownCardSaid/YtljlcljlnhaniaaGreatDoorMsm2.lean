/- Part of the proof of the statement: an evaluator of the code at closed data, run by the kernel, and that it is sound; it has no conditions of its own. -/
import Derived.Test.YtljlcljlnhaniaaGreatDoorMsm1
import Derived.Test.YtljlcljlnhaniaaGreatDoorMs2
set_option linter.unusedVariables false
set_option linter.unusedSimpArgs false
namespace Go.Proofs.YtljlcljlnhaniaaGreatDoor
open Go Go.Cv
set_option maxRecDepth 100000
def M2 : MT := [(115, [(a0, v0), (a1, v1), (a2, v2), (a3, v3)]), (119, [(a4, v4), (a5, v5), (a6, v6)]), (220, [(a13, v13), (a14, v14), (a15, v15)]), (96, [(a18, v18), (a19, v19), (a20, v20)]), (186, [(a9, v9), (a10, v10)]), (183, [(a22, v22), (a23, v23)]), (150, [(a7, v7)]), (151, [(a8, v8)]), (218, [(a11, v11)]), (219, [(a12, v12)]), (240, [(a16, v16)]), (31, [(a17, v17)]), (152, [(a21, v21)])]
theorem facts2 {W : World} (τ : Nat → Nat) (hw : GHas W (gl τ)) (hb : ∀ x ∈ gl τ, x.1 < W.heap.size) : Facts Tryz.prog W.heap.size W M2 := by
  have h0 : Facts Tryz.prog W.heap.size W M0 := Facts.nil
  have h1 := facts1 (W := W) τ hw hb
  exact (Facts.cons (fcons (fact0 τ h0 hw hb) (fcons (fact1 τ h0 hw hb) (fcons (fact2 τ h0 hw hb) (fcons (fact3 τ h0 hw hb) fnil)))) (Facts.cons (fcons (fact4 τ h0 hw hb) (fcons (fact5 τ h0 hw hb) (fcons (fact6 τ h0 hw hb) fnil))) (Facts.cons (fcons (fact13 τ h0 hw hb) (fcons (fact14 τ h0 hw hb) (fcons (fact15 τ h0 hw hb) fnil))) (Facts.cons (fcons (fact18 τ h1 hw hb) (fcons (fact19 τ h1 hw hb) (fcons (fact20 τ h1 hw hb) fnil))) (Facts.cons (fcons (fact9 τ h0 hw hb) (fcons (fact10 τ h0 hw hb) fnil)) (Facts.cons (fcons (fact22 τ h1 hw hb) (fcons (fact23 τ h1 hw hb) fnil)) (Facts.cons (fcons (fact7 τ h0 hw hb) fnil) (Facts.cons (fcons (fact8 τ h0 hw hb) fnil) (Facts.cons (fcons (fact11 τ h0 hw hb) fnil) (Facts.cons (fcons (fact12 τ h0 hw hb) fnil) (Facts.cons (fcons (fact16 τ h0 hw hb) fnil) (Facts.cons (fcons (fact17 τ h1 hw hb) fnil) (Facts.cons (fcons (fact21 τ h1 hw hb) fnil) Facts.nil)))))))))))))
end Go.Proofs.YtljlcljlnhaniaaGreatDoor
