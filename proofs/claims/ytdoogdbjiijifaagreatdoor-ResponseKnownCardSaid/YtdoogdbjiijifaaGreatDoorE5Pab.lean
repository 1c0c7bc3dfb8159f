/- Part of the proofs of the statements about responses and messages (layers 9 and 10): a symbolic executor over the code, that it is sound, and contracts of functions; it has no conditions of its own. -/
import Derived.Test.YtdoogdbjiijifaaGreatDoorSzPay
namespace Go.Proofs.YtdoogdbjiijifaaGreatDoor
open Go Go.Sx Go.ChangeShapes Go.WideShapes Go.RowKit
set_option maxRecDepth 100000
theorem responseKnown_ka : (Rows.responseKnownRow.inPlace == Tryz.pinned.checked.prog.inPlace 5) = true:=by kernel_rfl
theorem responseKnown_kb : (Rows.responseKnownRow.unfollowed == Tryz.pinned.checked.prog.unfollowed 5) = true:=by kernel_rfl
theorem responseKnown_kc : (Rows.responseKnownRow.recurses == Tryz.pinned.checked.prog.recurses 5) = true:=by kernel_rfl
theorem responseKnown_kd : (Rows.responseKnownRow.named == Tryz.pinned.checked.prog.varsNamed 5) = true:=by kernel_rfl
theorem responseKnown_ke : (Rows.responseKnownRow.wf (OpenSpec.ofChange Rows.responseKnownSpec) && laidOutB Tryz.pinned.checked.prog && mapsRowed Tryz.pinned.checked.prog) = true:=by kernel_rfl
theorem responseKnown_joined : joinedFacts Tryz.pinned.checked.prog 5 Tryz.f5 Rows.responseKnownSpec Rows.responseKnownRow = true:=by
 unfold joinedFacts
 rw [responseKnown_ka,responseKnown_kb,responseKnown_kc,responseKnown_kd,responseKnown_ke]
 kernel_rfl
end Go.Proofs.YtdoogdbjiijifaaGreatDoor
