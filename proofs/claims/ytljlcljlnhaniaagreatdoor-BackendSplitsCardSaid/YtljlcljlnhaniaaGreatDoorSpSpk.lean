/- Part of the proof of the statement: an evaluator of the code at closed data, run by the kernel, and that it is sound; it has no conditions of its own. -/
import Derived.Test.YtljlcljlnhaniaaGreatDoorCards
import Derived.Test.YtljlcljlnhaniaaGreatDoorTie
import Derived.Test.YtljlcljlnhaniaaGreatDoorCvg
set_option linter.unusedVariables false
set_option linter.unusedSimpArgs false
namespace Go.Proofs.YtljlcljlnhaniaaGreatDoor
open Go Go.Cv Go.ChangeShapes Go.WideShapes Go.RowKit
set_option maxRecDepth 100000
/-! BackendSplits: the closed facts of its row. -/
theorem backendSplits_ka : (Rows.backendSplitsRow.inPlace == Tryz.pinned.checked.prog.inPlace 5) = true := by kernel_rfl
theorem backendSplits_kb : (Rows.backendSplitsRow.unfollowed == Tryz.pinned.checked.prog.unfollowed 5) = true := by kernel_rfl
theorem backendSplits_kc : (Rows.backendSplitsRow.recurses == Tryz.pinned.checked.prog.recurses 5) = true := by kernel_rfl
theorem backendSplits_kd : (Rows.backendSplitsRow.named == Tryz.pinned.checked.prog.varsNamed 5) = true := by kernel_rfl
theorem backendSplits_ke : (Rows.backendSplitsRow.wf (OpenSpec.ofChange Rows.backendSplitsSpec) && laidOutB Tryz.pinned.checked.prog && mapsRowed Tryz.pinned.checked.prog) = true := by kernel_rfl
theorem backendSplits_joined : joinedFacts Tryz.pinned.checked.prog 5 Tryz.f5 Rows.backendSplitsSpec Rows.backendSplitsRow = true := by
  unfold joinedFacts
  rw [backendSplits_ka, backendSplits_kb, backendSplits_kc, backendSplits_kd, backendSplits_ke]
  kernel_rfl
end Go.Proofs.YtljlcljlnhaniaaGreatDoor
