/- Part of the proof of the statement: an evaluator of the code at closed data, run by the kernel, and that it is sound; it has no conditions of its own. -/
import Derived.Test.YtljlcljlnhaniaaGreatDoorCards
import Derived.Test.YtljlcljlnhaniaaGreatDoorTie
import Derived.Test.YtljlcljlnhaniaaGreatDoorCvg
set_option linter.unusedVariables false
set_option linter.unusedSimpArgs false
namespace Go.Proofs.YtljlcljlnhaniaaGreatDoor
open Go Go.Cv Go.ChangeShapes Go.WideShapes Go.RowKit
set_option maxRecDepth 100000
/-! BackendKnown: the closed facts of its row. -/
theorem backendKnown_ka : (Rows.backendKnownRow.inPlace == Tryz.pinned.checked.prog.inPlace 6) = true := by kernel_rfl
theorem backendKnown_kb : (Rows.backendKnownRow.unfollowed == Tryz.pinned.checked.prog.unfollowed 6) = true := by kernel_rfl
theorem backendKnown_kc : (Rows.backendKnownRow.recurses == Tryz.pinned.checked.prog.recurses 6) = true := by kernel_rfl
theorem backendKnown_kd : (Rows.backendKnownRow.named == Tryz.pinned.checked.prog.varsNamed 6) = true := by kernel_rfl
theorem backendKnown_ke : (Rows.backendKnownRow.wf (OpenSpec.ofChange Rows.backendKnownSpec) && laidOutB Tryz.pinned.checked.prog && mapsRowed Tryz.pinned.checked.prog) = true := by kernel_rfl
theorem backendKnown_joined : joinedFacts Tryz.pinned.checked.prog 6 Tryz.f6 Rows.backendKnownSpec Rows.backendKnownRow = true := by
  unfold joinedFacts
  rw [backendKnown_ka, backendKnown_kb, backendKnown_kc, backendKnown_kd, backendKnown_ke]
  kernel_rfl
end Go.Proofs.YtljlcljlnhaniaaGreatDoor
