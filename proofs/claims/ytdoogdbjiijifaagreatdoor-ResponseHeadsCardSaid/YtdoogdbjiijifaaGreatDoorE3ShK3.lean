/- Part of the proofs of the statements about responses and messages (layers 9 and 10): a symbolic executor over the code, that it is sound, and contracts of functions; it has no conditions of its own. -/
import Derived.Test.YtdoogdbjiijifaaGreatDoorE3Pba
namespace Go.Proofs.YtdoogdbjiijifaaGreatDoor
open Go Go.Sx Go.ChangeShapes Go.WideShapes Go.RowKit
set_option maxRecDepth 100000
theorem responseHeads_ka:(Rows.responseHeadsRow.inPlace==Tryz.pinned.checked.prog.inPlace 3)=true:=by kernel_rfl
theorem responseHeads_kb:(Rows.responseHeadsRow.unfollowed==Tryz.pinned.checked.prog.unfollowed 3)=true:=by kernel_rfl
theorem responseHeads_kc:(Rows.responseHeadsRow.recurses==Tryz.pinned.checked.prog.recurses 3)=true:=by kernel_rfl
theorem responseHeads_kd:(Rows.responseHeadsRow.named==Tryz.pinned.checked.prog.varsNamed 3)=true:=by kernel_rfl
theorem responseHeads_ke:(Rows.responseHeadsRow.wf (OpenSpec.ofChange Rows.responseHeadsSpec)&&laidOutB Tryz.pinned.checked.prog&&mapsRowed Tryz.pinned.checked.prog)=true:=by kernel_rfl
theorem responseHeads_joined:joinedFacts Tryz.pinned.checked.prog 3 Tryz.f3 Rows.responseHeadsSpec Rows.responseHeadsRow=true:=by
 unfold joinedFacts;rw[responseHeads_ka,responseHeads_kb,responseHeads_kc,responseHeads_kd,responseHeads_ke]
 kernel_rfl
end Go.Proofs.YtdoogdbjiijifaaGreatDoor
