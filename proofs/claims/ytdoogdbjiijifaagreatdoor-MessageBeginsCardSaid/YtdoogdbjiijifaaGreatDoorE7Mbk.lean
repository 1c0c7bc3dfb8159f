/- A part of the proof: contracts of functions, or the executor and its soundness. No conditions. -/
import Derived.Test.YtdoogdbjiijifaaGreatDoorCards
import Derived.Test.YtdoogdbjiijifaaGreatDoorE7Pay
import Derived.Test.YtdoogdbjiijifaaGreatDoorE7MaT
namespace Go.Proofs.YtdoogdbjiijifaaGreatDoor
open Go Go.Sx Go.ChangeShapes Go.WideShapes Go.RowKit
set_option maxRecDepth 100000
theorem messageBegins_ka:(Rows.messageBeginsRow.inPlace==Tryz.pinned.checked.prog.inPlace 7)=true:=by kernel_rfl
theorem messageBegins_kb:(Rows.messageBeginsRow.unfollowed==Tryz.pinned.checked.prog.unfollowed 7)=true:=by kernel_rfl
theorem messageBegins_kc:(Rows.messageBeginsRow.recurses==Tryz.pinned.checked.prog.recurses 7)=true:=by kernel_rfl
theorem messageBegins_kd:(Rows.messageBeginsRow.named==Tryz.pinned.checked.prog.varsNamed 7)=true:=by kernel_rfl
theorem messageBegins_ke:(Rows.messageBeginsRow.wf (OpenSpec.ofChange Rows.messageBeginsSpec)&&laidOutB Tryz.pinned.checked.prog&&mapsRowed Tryz.pinned.checked.prog)=true:=by kernel_rfl
theorem messageBegins_joined:joinedFacts Tryz.pinned.checked.prog 7 Tryz.f7 Rows.messageBeginsSpec Rows.messageBeginsRow=true:=by
 unfold joinedFacts;rw[messageBegins_ka,messageBegins_kb,messageBegins_kc,messageBegins_kd,messageBegins_ke]
 kernel_rfl
end Go.Proofs.YtdoogdbjiijifaaGreatDoor
