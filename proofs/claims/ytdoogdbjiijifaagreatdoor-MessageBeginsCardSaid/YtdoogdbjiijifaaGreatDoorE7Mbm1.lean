/- A part of the proof: contracts of functions, or the executor and its soundness. No conditions. -/
import Derived.Test.YtdoogdbjiijifaaGreatDoorE7Mb1
namespace Go.Proofs.YtdoogdbjiijifaaGreatDoor
open Go Go.Cv
set_option maxRecDepth 100000
def M1:MT:=[(61,[(a2,v2),(a3,v3),(a4,v4),(a5,v5)]),(57,[(a0,v0),(a1,v1)]),(116,[(a6,v6)]),(128,[(a7,v7)])]
theorem ye{W:World}(τ:Nat->Nat)(hw:Ly W (jX τ))(hb:∀x∈jX τ,x.1<W.heap.size):Bv Tryz.prog W.heap.size W M1:=by
 have h0:Bv Tryz.prog W.heap.size W M0:=Bv.nil;exact (Bv.cons (Gi (qo τ h0 hw hb) (Gi (qn τ h0 hw hb) (Gi (ql τ h0 hw hb) (Gi (qk τ h0 hw hb) mr)))) (Bv.cons (Gi (qq τ h0 hw hb) (Gi (qp τ h0 hw hb) mr)) (Bv.cons (Gi (qj τ h0 hw hb) mr) (Bv.cons (Gi (qg τ h0 hw hb) mr) Bv.nil))))
end Go.Proofs.YtdoogdbjiijifaaGreatDoor
