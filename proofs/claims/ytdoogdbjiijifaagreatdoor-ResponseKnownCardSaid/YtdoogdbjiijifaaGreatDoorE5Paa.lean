/- Part of the proofs of the statements about responses and messages (layers 9 and 10): a symbolic executor over the code, that it is sound, and contracts of functions; it has no conditions of its own. -/
import Derived.Test.YtdoogdbjiijifaaGreatDoorSzPbk
namespace Go.Proofs.YtdoogdbjiijifaaGreatDoor
open Go Go.Sx
set_option maxRecDepth 100000
theorem Aft : A2 Tryz.prog gl 5 spT:=by
 refine Dg (gh:=[]) mixed Dd (Ah Aew Aw) Tryz.func5 (by kernel_rfl) (by kernel_rfl) ?_
 intro xs ls K h
 unfold spT at h
 obtain ⟨rfl,rfl,h⟩:=h
 refine ⟨_,_,h,fun D hD=>?_⟩
 cbv
 exact Bg hD rfl
end Go.Proofs.YtdoogdbjiijifaaGreatDoor
