/- A part of the proof: contracts of functions, or the executor and its soundness. No conditions. -/
import Derived.Test.YtdoogdbjiijifaaGreatDoorE7Mbm1
namespace Go.Proofs.YtdoogdbjiijifaaGreatDoor
open Go Go.Cv
set_option maxRecDepth 100000
def a8:List CV:=[.agg [.i .i64 7,.s 3 0x544547,.s 1 0x2f,.s 1 0x68,.ns,.s 0 0]]
def v8:CV:=.tup [.s 44 0x0a0d0a0d37203a64492d747365757165522d580a0d68203a74736f480a0d312e312f50545448202f20544547,.i .i64 0]
theorem KD{W:World}(τ:Nat->Nat)(h:Bv Tryz.prog W.heap.size W M1)(hw:Ly W (jX τ))(hb:∀x∈jX τ,x.1<W.heap.size):Fact Tryz.prog W.heap.size W 90 a8 v8 :=
 Eg (S:=sg M1) (H0:=H0 τ) (nx0:=nx0) (q:=10000000) (Xa _) (Xr _) (W3 _) rfl h (Mw _ τ hw hb) (by kernel_rfl)
end Go.Proofs.YtdoogdbjiijifaaGreatDoor
