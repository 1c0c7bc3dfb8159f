/- Part of the proof of the statement: an evaluator of the code at closed data, run by the kernel, and that it is sound; it has no conditions of its own. -/
import Derived.Test.YtljlcljlnhaniaaGreatDoorCards
import Derived.Test.YtljlcljlnhaniaaGreatDoorTie
import Derived.Test.YtljlcljlnhaniaaGreatDoorCvg
set_option linter.unusedVariables false
set_option linter.unusedSimpArgs false
namespace Go.Proofs.YtljlcljlnhaniaaGreatDoor
open Go Go.Cv Go.ChangeShapes Go.WideShapes Go.RowKit
set_option maxRecDepth 100000
/-! AttemptKnown: the closed facts of its row. -/
theorem attemptKnown_ka : (Rows.attemptKnownRow.inPlace == Tryz.pinned.checked.prog.inPlace 4) = true := by kernel_rfl
theorem attemptKnown_kb : (Rows.attemptKnownRow.unfollowed == Tryz.pinned.checked.prog.unfollowed 4) = true := by kernel_rfl
theorem attemptKnown_kc : (Rows.attemptKnownRow.recurses == Tryz.pinned.checked.prog.recurses 4) = true := by kernel_rfl
theorem attemptKnown_kd : (Rows.attemptKnownRow.named == Tryz.pinned.checked.prog.varsNamed 4) = true := by kernel_rfl
theorem attemptKnown_ke : (Rows.attemptKnownRow.wf (OpenSpec.ofChange Rows.attemptKnownSpec) && laidOutB Tryz.pinned.checked.prog && mapsRowed Tryz.pinned.checked.prog) = true := by kernel_rfl
theorem attemptKnown_joined : joinedFacts Tryz.pinned.checked.prog 4 Tryz.f4 Rows.attemptKnownSpec Rows.attemptKnownRow = true := by
  unfold joinedFacts
  rw [attemptKnown_ka, attemptKnown_kb, attemptKnown_kc, attemptKnown_kd, attemptKnown_ke]
  kernel_rfl
end Go.Proofs.YtljlcljlnhaniaaGreatDoor
