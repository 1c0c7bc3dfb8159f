/- Part of the proof of the statement: an evaluator of the code at closed data, run by the kernel, and that it is sound; it has no conditions of its own. -/
import Derived.Test.YtljlcljlnhaniaaGreatDoorMsm1
set_option linter.unusedVariables false
set_option linter.unusedSimpArgs false
namespace Go.Proofs.YtljlcljlnhaniaaGreatDoor
open Go Go.Cv
set_option maxRecDepth 100000
/-- spillway/request.Encode: 28080 steps. -/
def a17 : List CV := [.agg [.i .i64 7, .s 3 0x544547, .s 1 0x2f, .s 1 0x68, .ns, .s 0 0]]
def v17 : CV := .tup [.s 44 0x0a0d0a0d37203a64492d747365757165522d580a0d68203a74736f480a0d312e312f50545448202f20544547, .i .i64 0]
theorem fact17 {W : World} (τ : Nat → Nat) (h : Facts Tryz.prog W.heap.size W M1) (hw : GHas W (gl τ)) (hb : ∀ x ∈ gl τ, x.1 < W.heap.size) : Fact Tryz.prog W.heap.size W 31 a17 v17 :=
  fact_run (S := sg M1) (H0 := H0 τ) (nx0 := nx0) (q := 10000000) (sokM _) (fokM _) (xokM _) rfl h (initM _ τ hw hb) (by kernel_rfl)
/-- spillway/response.valid: 164 steps. -/
def a18 : List CV := [.agg [.s 3 0x544547, .i .i64 0, .i .i64 0, .s 0 0, .i .i64 0, .i .i64 0, .s 0 0, .ns, .i .i64 0, .s 0 0, .i .i64 0, .i .i64 0, .s 0 0, .s 0 0, .i .i64 0, .ns]]
def v18 : CV := .b true
theorem fact18 {W : World} (τ : Nat → Nat) (h : Facts Tryz.prog W.heap.size W M1) (hw : GHas W (gl τ)) (hb : ∀ x ∈ gl τ, x.1 < W.heap.size) : Fact Tryz.prog W.heap.size W 96 a18 v18 :=
  fact_run (S := sg M1) (H0 := H0 τ) (nx0 := nx0) (q := 10000000) (sokM _) (fokM _) (xokM _) rfl h (initM _ τ hw hb) (by kernel_rfl)
/-- spillway/response.valid: 981 steps. -/
def a19 : List CV := [.agg [.s 3 0x544547, .i .i64 0, .i .i64 0, .s 37 0x0a0d3131203a6874676e654c2d746e65746e6f430a0d4b4f2030303220312e312f50545448, .i .i64 0, .i .i64 0, .s 0 0, .ns, .i .i64 0, .s 0 0, .i .i64 0, .i .i64 0, .s 0 0, .s 0 0, .i .i64 0, .ns]]
def v19 : CV := .b true
theorem fact19 {W : World} (τ : Nat → Nat) (h : Facts Tryz.prog W.heap.size W M1) (hw : GHas W (gl τ)) (hb : ∀ x ∈ gl τ, x.1 < W.heap.size) : Fact Tryz.prog W.heap.size W 96 a19 v19 :=
  fact_run (S := sg M1) (H0 := H0 τ) (nx0 := nx0) (q := 10000000) (sokM _) (fokM _) (xokM _) rfl h (initM _ τ hw hb) (by kernel_rfl)
/-- spillway/response.valid: 981 steps. -/
def a20 : List CV := [.agg [.s 3 0x544547, .i .i64 0, .i .i64 0, .s 38 0x0d0a0d3131203a6874676e654c2d746e65746e6f430a0d4b4f2030303220312e312f50545448, .i .i64 0, .i .i64 0, .s 0 0, .ns, .i .i64 0, .s 0 0, .i .i64 0, .i .i64 0, .s 0 0, .s 0 0, .i .i64 0, .ns]]
def v20 : CV := .b true
theorem fact20 {W : World} (τ : Nat → Nat) (h : Facts Tryz.prog W.heap.size W M1) (hw : GHas W (gl τ)) (hb : ∀ x ∈ gl τ, x.1 < W.heap.size) : Fact Tryz.prog W.heap.size W 96 a20 v20 :=
  fact_run (S := sg M1) (H0 := H0 τ) (nx0 := nx0) (q := 10000000) (sokM _) (fokM _) (xokM _) rfl h (initM _ τ hw hb) (by kernel_rfl)
/-- spillway/response.Framing: 788 steps. -/
def a21 : List CV := [.s 3 0x544547, .agg [.i .i64 0, .i .i64 200, .s 2 0x4b4f, .ns]]
def v21 : CV := .tup [.i .i64 3, .i .i64 0, .i .i64 0]
theorem fact21 {W : World} (τ : Nat → Nat) (h : Facts Tryz.prog W.heap.size W M1) (hw : GHas W (gl τ)) (hb : ∀ x ∈ gl τ, x.1 < W.heap.size) : Fact Tryz.prog W.heap.size W 152 a21 v21 :=
  fact_run (S := sg M1) (H0 := H0 τ) (nx0 := nx0) (q := 10000000) (sokM _) (fokM _) (xokM _) rfl h (initM _ τ hw hb) (by kernel_rfl)
/-- strings.Trim: 160 steps. -/
def a22 : List CV := [.s 1 0x32, .s 2 0x0920]
def v22 : CV := .s 1 0x32
theorem fact22 {W : World} (τ : Nat → Nat) (h : Facts Tryz.prog W.heap.size W M1) (hw : GHas W (gl τ)) (hb : ∀ x ∈ gl τ, x.1 < W.heap.size) : Fact Tryz.prog W.heap.size W 183 a22 v22 :=
  fact_run (S := sg M1) (H0 := H0 τ) (nx0 := nx0) (q := 10000000) (sokM _) (fokM _) (xokM _) rfl h (initM _ τ hw hb) (by kernel_rfl)
/-- strings.Trim: 160 steps. -/
def a23 : List CV := [.s 2 0x3131, .s 2 0x0920]
def v23 : CV := .s 2 0x3131
theorem fact23 {W : World} (τ : Nat → Nat) (h : Facts Tryz.prog W.heap.size W M1) (hw : GHas W (gl τ)) (hb : ∀ x ∈ gl τ, x.1 < W.heap.size) : Fact Tryz.prog W.heap.size W 183 a23 v23 :=
  fact_run (S := sg M1) (H0 := H0 τ) (nx0 := nx0) (q := 10000000) (sokM _) (fokM _) (xokM _) rfl h (initM _ τ hw hb) (by kernel_rfl)
end Go.Proofs.YtljlcljlnhaniaaGreatDoor
