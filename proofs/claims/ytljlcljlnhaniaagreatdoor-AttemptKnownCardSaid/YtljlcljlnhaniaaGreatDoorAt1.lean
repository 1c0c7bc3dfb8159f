/- Part of the proof of the statement: an evaluator of the code at closed data, run by the kernel, and that it is sound; it has no conditions of its own. -/
import Derived.Test.YtljlcljlnhaniaaGreatDoorAtt
set_option linter.unusedVariables false
set_option linter.unusedSimpArgs false
namespace Go.Proofs.YtljlcljlnhaniaaGreatDoor
open Go Go.Cv
set_option maxRecDepth 100000
def M0 : MT := []
/-- spillway/request.Encode: 28698 steps. -/
def a0 : List CV := [.agg [.i .i64 7, .s 3 0x544547, .s 1 0x2f, .s 1 0x68, .ns, .s 0 0]]
def v0 : CV := .tup [.s 44 0x0a0d0a0d37203a64492d747365757165522d580a0d68203a74736f480a0d312e312f50545448202f20544547, .i .i64 0]
theorem fact0 {W : World} (τ : Nat → Nat) (h : Facts Tryz.prog W.heap.size W M0) (hw : GHas W (gl τ)) (hb : ∀ x ∈ gl τ, x.1 < W.heap.size) : Fact Tryz.prog W.heap.size W 31 a0 v0 :=
  fact_run (S := sg M0) (H0 := H0 τ) (nx0 := nx0) (q := 10000000) (sokM _) (fokM _) (xokM _) rfl h (initM _ τ hw hb) (by kernel_rfl)
/-- spillway/tokens.Token: 763 steps. -/
def a1 : List CV := [.s 14 0x6874676e654c2d746e65746e6f43]
def v1 : CV := .b true
theorem fact1 {W : World} (τ : Nat → Nat) (h : Facts Tryz.prog W.heap.size W M0) (hw : GHas W (gl τ)) (hb : ∀ x ∈ gl τ, x.1 < W.heap.size) : Fact Tryz.prog W.heap.size W 115 a1 v1 :=
  fact_run (S := sg M0) (H0 := H0 τ) (nx0 := nx0) (q := 10000000) (sokM _) (fokM _) (xokM _) rfl h (initM _ τ hw hb) (by kernel_rfl)
/-- spillway/tokens.Token: 919 steps. -/
def a2 : List CV := [.s 17 0x676e69646f636e652d726566736e617274]
def v2 : CV := .b true
theorem fact2 {W : World} (τ : Nat → Nat) (h : Facts Tryz.prog W.heap.size W M0) (hw : GHas W (gl τ)) (hb : ∀ x ∈ gl τ, x.1 < W.heap.size) : Fact Tryz.prog W.heap.size W 115 a2 v2 :=
  fact_run (S := sg M0) (H0 := H0 τ) (nx0 := nx0) (q := 10000000) (sokM _) (fokM _) (xokM _) rfl h (initM _ τ hw hb) (by kernel_rfl)
/-- spillway/tokens.Token: 763 steps. -/
def a3 : List CV := [.s 14 0x6874676e656c2d746e65746e6f63]
def v3 : CV := .b true
theorem fact3 {W : World} (τ : Nat → Nat) (h : Facts Tryz.prog W.heap.size W M0) (hw : GHas W (gl τ)) (hb : ∀ x ∈ gl τ, x.1 < W.heap.size) : Fact Tryz.prog W.heap.size W 115 a3 v3 :=
  fact_run (S := sg M0) (H0 := H0 τ) (nx0 := nx0) (q := 10000000) (sokM _) (fokM _) (xokM _) rfl h (initM _ τ hw hb) (by kernel_rfl)
/-- spillway/tokens.Fold: 524 steps. -/
def a4 : List CV := [.s 14 0x6874676e654c2d746e65746e6f43]
def v4 : CV := .s 14 0x6874676e656c2d746e65746e6f63
theorem fact4 {W : World} (τ : Nat → Nat) (h : Facts Tryz.prog W.heap.size W M0) (hw : GHas W (gl τ)) (hb : ∀ x ∈ gl τ, x.1 < W.heap.size) : Fact Tryz.prog W.heap.size W 119 a4 v4 :=
  fact_run (S := sg M0) (H0 := H0 τ) (nx0 := nx0) (q := 10000000) (sokM _) (fokM _) (xokM _) rfl h (initM _ τ hw hb) (by kernel_rfl)
/-- strings.Trim: 267 steps. -/
def a5 : List CV := [.s 1 0x32, .s 2 0x0920]
def v5 : CV := .s 1 0x32
theorem fact5 {W : World} (τ : Nat → Nat) (h : Facts Tryz.prog W.heap.size W M0) (hw : GHas W (gl τ)) (hb : ∀ x ∈ gl τ, x.1 < W.heap.size) : Fact Tryz.prog W.heap.size W 183 a5 v5 :=
  fact_run (S := sg M0) (H0 := H0 τ) (nx0 := nx0) (q := 10000000) (sokM _) (fokM _) (xokM _) rfl h (initM _ τ hw hb) (by kernel_rfl)
/-- spillway/response.decimal: 776 steps. -/
def a6 : List CV := [.s 1 0x32]
def v6 : CV := .i .i64 2
theorem fact6 {W : World} (τ : Nat → Nat) (h : Facts Tryz.prog W.heap.size W M0) (hw : GHas W (gl τ)) (hb : ∀ x ∈ gl τ, x.1 < W.heap.size) : Fact Tryz.prog W.heap.size W 220 a6 v6 :=
  fact_run (S := sg M0) (H0 := H0 τ) (nx0 := nx0) (q := 10000000) (sokM _) (fokM _) (xokM _) rfl h (initM _ τ hw hb) (by kernel_rfl)
end Go.Proofs.YtljlcljlnhaniaaGreatDoor
