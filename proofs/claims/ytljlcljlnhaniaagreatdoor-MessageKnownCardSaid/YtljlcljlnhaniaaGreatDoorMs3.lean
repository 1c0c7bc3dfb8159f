/- Part of the proof of the statement: an evaluator of the code at closed data, run by the kernel, and that it is sound; it has no conditions of its own. -/
import Derived.Test.YtljlcljlnhaniaaGreatDoorMsm2
set_option linter.unusedVariables false
set_option linter.unusedSimpArgs false
namespace Go.Proofs.YtljlcljlnhaniaaGreatDoor
open Go Go.Cv
set_option maxRecDepth 100000
/-- spillway/message.Verdict: 1971 steps. -/
def a24 : List CV := [.agg [.i .i64 7, .s 3 0x544547, .s 1 0x2f, .s 1 0x68, .ns, .s 0 0, .s 44 0x0a0d0a0d37203a64492d747365757165522d580a0d68203a74736f480a0d312e312f50545448202f20544547, .i .i64 44, .s 3 0x544547, .i .i64 2, .i .i64 0, .s 0 0, .i .i64 0, .i .i64 200, .s 2 0x4b4f, .ns, .i .i64 3, .s 2 0x6261, .i .i64 0, .i .i64 0, .s 0 0, .s 0 0, .i .i64 0, .ns, .i .i64 100, .i .i64 10, .i .i64 1, .b true, .i .i64 0]]
def v24 : CV := .tup [.agg [.i .i64 0, .i .i64 200, .s 2 0x4b4f, .ns, .i .i64 3, .s 2 0x6261, .ns, .b false, .b false, .i .i64 0], .i .i64 0]
theorem fact24 {W : World} (τ : Nat → Nat) (h : Facts Tryz.prog W.heap.size W M2) (hw : GHas W (gl τ)) (hb : ∀ x ∈ gl τ, x.1 < W.heap.size) : Fact Tryz.prog W.heap.size W 25 a24 v24 :=
  fact_run (S := sg M2) (H0 := H0 τ) (nx0 := nx0) (q := 10000000) (sokM _) (fokM _) (xokM _) rfl h (initM _ τ hw hb) (by kernel_rfl)
/-- spillway/message.Check: 356 steps. -/
def a25 : List CV := [.agg [.i .i64 7, .s 3 0x544547, .s 1 0x2f, .s 1 0x68, .ns, .s 0 0, .s 44 0x0a0d0a0d37203a64492d747365757165522d580a0d68203a74736f480a0d312e312f50545448202f20544547, .i .i64 0, .s 3 0x544547, .i .i64 0, .i .i64 0, .s 0 0, .i .i64 0, .i .i64 0, .s 0 0, .ns, .i .i64 0, .s 0 0, .i .i64 0, .i .i64 0, .s 0 0, .s 0 0, .i .i64 0, .ns, .i .i64 100, .i .i64 10, .i .i64 0, .b false, .i .i64 0]]
def v25 : CV := .i .i64 0
theorem fact25 {W : World} (τ : Nat → Nat) (h : Facts Tryz.prog W.heap.size W M2) (hw : GHas W (gl τ)) (hb : ∀ x ∈ gl τ, x.1 < W.heap.size) : Fact Tryz.prog W.heap.size W 50 a25 v25 :=
  fact_run (S := sg M2) (H0 := H0 τ) (nx0 := nx0) (q := 10000000) (sokM _) (fokM _) (xokM _) rfl h (initM _ τ hw hb) (by kernel_rfl)
end Go.Proofs.YtljlcljlnhaniaaGreatDoor
