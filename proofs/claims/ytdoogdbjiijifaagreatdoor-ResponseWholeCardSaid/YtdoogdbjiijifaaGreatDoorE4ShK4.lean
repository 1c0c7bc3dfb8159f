/- Part of the proofs of the statements about responses and messages (layers 9 and 10): a symbolic executor over the code, that it is sound, and contracts of functions; it has no conditions of its own. -/
import Derived.Test.YtdoogdbjiijifaaGreatDoorE4Paz
namespace Go.Proofs.YtdoogdbjiijifaaGreatDoor
open Go Go.Sx Go.ChangeShapes Go.WideShapes Go.RowKit
set_option maxRecDepth 100000
theorem responseWhole_ka : (Rows.responseWholeRow.inPlace == Tryz.pinned.checked.prog.inPlace 4) = true:=by kernel_rfl
theorem responseWhole_kb : (Rows.responseWholeRow.unfollowed == Tryz.pinned.checked.prog.unfollowed 4) = true:=by kernel_rfl
theorem responseWhole_kc : (Rows.responseWholeRow.recurses == Tryz.pinned.checked.prog.recurses 4) = true:=by kernel_rfl
theorem responseWhole_kd : (Rows.responseWholeRow.named == Tryz.pinned.checked.prog.varsNamed 4) = true:=by kernel_rfl
theorem responseWhole_ke : (Rows.responseWholeRow.wf (OpenSpec.ofChange Rows.responseWholeSpec) && laidOutB Tryz.pinned.checked.prog && mapsRowed Tryz.pinned.checked.prog) = true:=by kernel_rfl
theorem responseWhole_joined : joinedFacts Tryz.pinned.checked.prog 4 Tryz.f4 Rows.responseWholeSpec Rows.responseWholeRow = true:=by
 unfold joinedFacts
 rw [responseWhole_ka,responseWhole_kb,responseWhole_kc,responseWhole_kd,responseWhole_ke]
 kernel_rfl
end Go.Proofs.YtdoogdbjiijifaaGreatDoor
