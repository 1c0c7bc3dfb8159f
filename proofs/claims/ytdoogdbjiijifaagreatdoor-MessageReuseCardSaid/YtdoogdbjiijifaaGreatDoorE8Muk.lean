/- A part of the proof: contracts of functions, or the executor and its soundness. No conditions. -/
import Derived.Test.YtdoogdbjiijifaaGreatDoorCards
import Derived.Test.YtdoogdbjiijifaaGreatDoorE8Pas
import Derived.Test.YtdoogdbjiijifaaGreatDoorE8MuT
namespace Go.Proofs.YtdoogdbjiijifaaGreatDoor
open Go Go.Sx Go.ChangeShapes Go.WideShapes Go.RowKit
set_option maxRecDepth 100000
theorem messageReuse_ka:(Rows.messageReuseRow.inPlace==Tryz.pinned.checked.prog.inPlace 13)=true:=by kernel_rfl
theorem messageReuse_kb:(Rows.messageReuseRow.unfollowed==Tryz.pinned.checked.prog.unfollowed 13)=true:=by kernel_rfl
theorem messageReuse_kc:(Rows.messageReuseRow.recurses==Tryz.pinned.checked.prog.recurses 13)=true:=by kernel_rfl
theorem messageReuse_kd:(Rows.messageReuseRow.named==Tryz.pinned.checked.prog.varsNamed 13)=true:=by kernel_rfl
theorem messageReuse_ke:(Rows.messageReuseRow.wf (OpenSpec.ofChange Rows.messageReuseSpec)&&laidOutB Tryz.pinned.checked.prog&&mapsRowed Tryz.pinned.checked.prog)=true:=by kernel_rfl
theorem messageReuse_joined:joinedFacts Tryz.pinned.checked.prog 13 Tryz.f13 Rows.messageReuseSpec Rows.messageReuseRow=true:=by
 unfold joinedFacts;rw[messageReuse_ka,messageReuse_kb,messageReuse_kc,messageReuse_kd,messageReuse_ke]
 kernel_rfl
end Go.Proofs.YtdoogdbjiijifaaGreatDoor
