/- A part of the proof: contracts of functions, or the executor and its soundness. No conditions. -/
import Derived.Test.YtdoogdbjiijifaaGreatDoorE7Mbm2
namespace Go.Proofs.YtdoogdbjiijifaaGreatDoor
open Go Go.Cv
set_option maxRecDepth 100000
theorem messageBegins_fact{W:World}(τ:Nat->Nat)(hw:Ly W (jX τ))(hb:∀x∈jX τ,x.1<W.heap.size):Fact Tryz.prog W.heap.size W 30 [] (.b true) :=
 Eg (S:=sg M2) (H0:=H0 τ) (nx0:=nx0) (q:=10000000) (Xa _) (Xr _) (W3 _) rfl (yd τ hw hb) (Mw _ τ hw hb) (by kernel_rfl)
end Go.Proofs.YtdoogdbjiijifaaGreatDoor
