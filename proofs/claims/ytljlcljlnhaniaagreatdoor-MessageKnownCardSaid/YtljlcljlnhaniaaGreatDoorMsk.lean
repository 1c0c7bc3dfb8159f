/- Part of the proof of the statement: an evaluator of the code at closed data, run by the kernel, and that it is sound; it has no conditions of its own. -/
import Derived.Test.YtljlcljlnhaniaaGreatDoorCards
import Derived.Test.YtljlcljlnhaniaaGreatDoorTie
import Derived.Test.YtljlcljlnhaniaaGreatDoorCvg
set_option linter.unusedVariables false
set_option linter.unusedSimpArgs false
namespace Go.Proofs.YtljlcljlnhaniaaGreatDoor
open Go Go.Cv Go.ChangeShapes Go.WideShapes Go.RowKit
set_option maxRecDepth 100000
/-! MessageKnown: the closed facts of its row. -/
theorem messageKnown_ka : (Rows.messageKnownRow.inPlace == Tryz.pinned.checked.prog.inPlace 3) = true := by kernel_rfl
theorem messageKnown_kb : (Rows.messageKnownRow.unfollowed == Tryz.pinned.checked.prog.unfollowed 3) = true := by kernel_rfl
theorem messageKnown_kc : (Rows.messageKnownRow.recurses == Tryz.pinned.checked.prog.recurses 3) = true := by kernel_rfl
theorem messageKnown_kd : (Rows.messageKnownRow.named == Tryz.pinned.checked.prog.varsNamed 3) = true := by kernel_rfl
theorem messageKnown_ke : (Rows.messageKnownRow.wf (OpenSpec.ofChange Rows.messageKnownSpec) && laidOutB Tryz.pinned.checked.prog && mapsRowed Tryz.pinned.checked.prog) = true := by kernel_rfl
theorem messageKnown_joined : joinedFacts Tryz.pinned.checked.prog 3 Tryz.f3 Rows.messageKnownSpec Rows.messageKnownRow = true := by
  unfold joinedFacts
  rw [messageKnown_ka, messageKnown_kb, messageKnown_kc, messageKnown_kd, messageKnown_ke]
  kernel_rfl
end Go.Proofs.YtljlcljlnhaniaaGreatDoor
