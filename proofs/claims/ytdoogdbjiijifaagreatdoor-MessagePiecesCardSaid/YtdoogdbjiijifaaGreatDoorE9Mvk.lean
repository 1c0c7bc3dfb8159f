/- Lemmas of the proof; no conditions. -/
import Derived.Test.YtdoogdbjiijifaaGreatDoorE9Pas
namespace Go.Proofs.YtdoogdbjiijifaaGreatDoor
open Go Go.Sx Go.ChangeShapes Go.WideShapes Go.RowKit
set_option maxRecDepth 100000
theorem messagePieces_ka:(Rows.messagePiecesRow.inPlace==Tryz.pinned.checked.prog.inPlace 12)=true:=by kernel_rfl
theorem messagePieces_kb:(Rows.messagePiecesRow.unfollowed==Tryz.pinned.checked.prog.unfollowed 12)=true:=by kernel_rfl
theorem messagePieces_kc:(Rows.messagePiecesRow.recurses==Tryz.pinned.checked.prog.recurses 12)=true:=by kernel_rfl
theorem messagePieces_kd:(Rows.messagePiecesRow.named==Tryz.pinned.checked.prog.varsNamed 12)=true:=by kernel_rfl
theorem messagePieces_ke:(Rows.messagePiecesRow.wf (OpenSpec.ofChange Rows.messagePiecesSpec)&&laidOutB Tryz.pinned.checked.prog&&mapsRowed Tryz.pinned.checked.prog)=true:=by kernel_rfl
theorem messagePieces_joined:joinedFacts Tryz.pinned.checked.prog 12 Tryz.f12 Rows.messagePiecesSpec Rows.messagePiecesRow=true:=by
 unfold joinedFacts;rw[messagePieces_ka,messagePieces_kb,messagePieces_kc,messagePieces_kd,messagePieces_ke]
 kernel_rfl
end Go.Proofs.YtdoogdbjiijifaaGreatDoor
