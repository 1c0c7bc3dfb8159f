/- Part of the proof of the statement: an evaluator of the code at closed data, run by the kernel, and that it is sound; it has no conditions of its own. -/
import Derived.Test.YtljlcljlnhaniaaGreatDoorMst
set_option linter.unusedVariables false
set_option linter.unusedSimpArgs false
namespace Go.Proofs.YtljlcljlnhaniaaGreatDoor
open Go Go.Cv
set_option maxRecDepth 100000
def M0 : MT := []
/-- spillway/tokens.Token: 191 steps. -/
def a0 : List CV := [.s 3 0x544547]
def v0 : CV := .b true
theorem fact0 {W : World} (τ : Nat → Nat) (h : Facts Tryz.prog W.heap.size W M0) (hw : GHas W (gl τ)) (hb : ∀ x ∈ gl τ, x.1 < W.heap.size) : Fact Tryz.prog W.heap.size W 115 a0 v0 :=
  fact_run (S := sg M0) (H0 := H0 τ) (nx0 := nx0) (q := 10000000) (sokM _) (fokM _) (xokM _) rfl h (initM _ τ hw hb) (by kernel_rfl)
/-- spillway/tokens.Token: 763 steps. -/
def a1 : List CV := [.s 14 0x6874676e654c2d746e65746e6f43]
def v1 : CV := .b true
theorem fact1 {W : World} (τ : Nat → Nat) (h : Facts Tryz.prog W.heap.size W M0) (hw : GHas W (gl τ)) (hb : ∀ x ∈ gl τ, x.1 < W.heap.size) : Fact Tryz.prog W.heap.size W 115 a1 v1 :=
  fact_run (S := sg M0) (H0 := H0 τ) (nx0 := nx0) (q := 10000000) (sokM _) (fokM _) (xokM _) rfl h (initM _ τ hw hb) (by kernel_rfl)
/-- spillway/tokens.Token: 919 steps. -/
def a2 : List CV := [.s 17 0x676e69646f636e652d726566736e617274]
def v2 : CV := .b true
theorem fact2 {W : World} (τ : Nat → Nat) (h : Facts Tryz.prog W.heap.size W M0) (hw : GHas W (gl τ)) (hb : ∀ x ∈ gl τ, x.1 < W.heap.size) : Fact Tryz.prog W.heap.size W 115 a2 v2 :=
  fact_run (S := sg M0) (H0 := H0 τ) (nx0 := nx0) (q := 10000000) (sokM _) (fokM _) (xokM _) rfl h (initM _ τ hw hb) (by kernel_rfl)
/-- spillway/tokens.Token: 763 steps. -/
def a3 : List CV := [.s 14 0x6874676e656c2d746e65746e6f63]
def v3 : CV := .b true
theorem fact3 {W : World} (τ : Nat → Nat) (h : Facts Tryz.prog W.heap.size W M0) (hw : GHas W (gl τ)) (hb : ∀ x ∈ gl τ, x.1 < W.heap.size) : Fact Tryz.prog W.heap.size W 115 a3 v3 :=
  fact_run (S := sg M0) (H0 := H0 τ) (nx0 := nx0) (q := 10000000) (sokM _) (fokM _) (xokM _) rfl h (initM _ τ hw hb) (by kernel_rfl)
/-- spillway/tokens.Fold: 524 steps. -/
def a4 : List CV := [.s 14 0x6874676e654c2d746e65746e6f43]
def v4 : CV := .s 14 0x6874676e656c2d746e65746e6f63
theorem fact4 {W : World} (τ : Nat → Nat) (h : Facts Tryz.prog W.heap.size W M0) (hw : GHas W (gl τ)) (hb : ∀ x ∈ gl τ, x.1 < W.heap.size) : Fact Tryz.prog W.heap.size W 119 a4 v4 :=
  fact_run (S := sg M0) (H0 := H0 τ) (nx0 := nx0) (q := 10000000) (sokM _) (fokM _) (xokM _) rfl h (initM _ τ hw hb) (by kernel_rfl)
/-- spillway/tokens.Fold: 612 steps. -/
def a5 : List CV := [.s 17 0x676e69646f636e652d726566736e617274]
def v5 : CV := .s 17 0x676e69646f636e652d726566736e617274
theorem fact5 {W : World} (τ : Nat → Nat) (h : Facts Tryz.prog W.heap.size W M0) (hw : GHas W (gl τ)) (hb : ∀ x ∈ gl τ, x.1 < W.heap.size) : Fact Tryz.prog W.heap.size W 119 a5 v5 :=
  fact_run (S := sg M0) (H0 := H0 τ) (nx0 := nx0) (q := 10000000) (sokM _) (fokM _) (xokM _) rfl h (initM _ τ hw hb) (by kernel_rfl)
/-- spillway/tokens.Fold: 510 steps. -/
def a6 : List CV := [.s 14 0x6874676e656c2d746e65746e6f63]
def v6 : CV := .s 14 0x6874676e656c2d746e65746e6f63
theorem fact6 {W : World} (τ : Nat → Nat) (h : Facts Tryz.prog W.heap.size W M0) (hw : GHas W (gl τ)) (hb : ∀ x ∈ gl τ, x.1 < W.heap.size) : Fact Tryz.prog W.heap.size W 119 a6 v6 :=
  fact_run (S := sg M0) (H0 := H0 τ) (nx0 := nx0) (q := 10000000) (sokM _) (fokM _) (xokM _) rfl h (initM _ τ hw hb) (by kernel_rfl)
/-- spillway/response.zero: 35 steps. -/
def a7 : List CV := [.agg [.i .i64 0, .s 0 0, .s 0 0, .i .i64 0, .ns]]
def v7 : CV := .b true
theorem fact7 {W : World} (τ : Nat → Nat) (h : Facts Tryz.prog W.heap.size W M0) (hw : GHas W (gl τ)) (hb : ∀ x ∈ gl τ, x.1 < W.heap.size) : Fact Tryz.prog W.heap.size W 150 a7 v7 :=
  fact_run (S := sg M0) (H0 := H0 τ) (nx0 := nx0) (q := 10000000) (sokM _) (fokM _) (xokM _) rfl h (initM _ τ hw hb) (by kernel_rfl)
/-- spillway/response.text: 148 steps. -/
def a8 : List CV := [.s 2 0x4b4f]
def v8 : CV := .b true
theorem fact8 {W : World} (τ : Nat → Nat) (h : Facts Tryz.prog W.heap.size W M0) (hw : GHas W (gl τ)) (hb : ∀ x ∈ gl τ, x.1 < W.heap.size) : Fact Tryz.prog W.heap.size W 151 a8 v8 :=
  fact_run (S := sg M0) (H0 := H0 τ) (nx0 := nx0) (q := 10000000) (sokM _) (fokM _) (xokM _) rfl h (initM _ τ hw hb) (by kernel_rfl)
/-- spillway/headers.plain: 210 steps. -/
def a9 : List CV := [.s 3 0x313120]
def v9 : CV := .b true
theorem fact9 {W : World} (τ : Nat → Nat) (h : Facts Tryz.prog W.heap.size W M0) (hw : GHas W (gl τ)) (hb : ∀ x ∈ gl τ, x.1 < W.heap.size) : Fact Tryz.prog W.heap.size W 186 a9 v9 :=
  fact_run (S := sg M0) (H0 := H0 τ) (nx0 := nx0) (q := 10000000) (sokM _) (fokM _) (xokM _) rfl h (initM _ τ hw hb) (by kernel_rfl)
/-- spillway/headers.plain: 162 steps. -/
def a10 : List CV := [.s 2 0x3131]
def v10 : CV := .b true
theorem fact10 {W : World} (τ : Nat → Nat) (h : Facts Tryz.prog W.heap.size W M0) (hw : GHas W (gl τ)) (hb : ∀ x ∈ gl τ, x.1 < W.heap.size) : Fact Tryz.prog W.heap.size W 186 a10 v10 :=
  fact_run (S := sg M0) (H0 := H0 τ) (nx0 := nx0) (q := 10000000) (sokM _) (fokM _) (xokM _) rfl h (initM _ τ hw hb) (by kernel_rfl)
/-- strings.CutSuffix: 72 steps. -/
def a11 : List CV := [.s 16 0x0d4b4f2030303220312e312f50545448, .s 1 0x0d]
def v11 : CV := .tup [.s 15 0x4b4f2030303220312e312f50545448, .b true]
theorem fact11 {W : World} (τ : Nat → Nat) (h : Facts Tryz.prog W.heap.size W M0) (hw : GHas W (gl τ)) (hb : ∀ x ∈ gl τ, x.1 < W.heap.size) : Fact Tryz.prog W.heap.size W 218 a11 v11 :=
  fact_run (S := sg M0) (H0 := H0 τ) (nx0 := nx0) (q := 10000000) (sokM _) (fokM _) (xokM _) rfl h (initM _ τ hw hb) (by kernel_rfl)
/-- strings.CutPrefix: 66 steps. -/
def a12 : List CV := [.s 15 0x4b4f2030303220312e312f50545448, .s 7 0x2e312f50545448]
def v12 : CV := .tup [.s 8 0x4b4f203030322031, .b true]
theorem fact12 {W : World} (τ : Nat → Nat) (h : Facts Tryz.prog W.heap.size W M0) (hw : GHas W (gl τ)) (hb : ∀ x ∈ gl τ, x.1 < W.heap.size) : Fact Tryz.prog W.heap.size W 219 a12 v12 :=
  fact_run (S := sg M0) (H0 := H0 τ) (nx0 := nx0) (q := 10000000) (sokM _) (fokM _) (xokM _) rfl h (initM _ τ hw hb) (by kernel_rfl)
/-- spillway/response.decimal: 960 steps. -/
def a13 : List CV := [.s 3 0x303032]
def v13 : CV := .i .i64 200
theorem fact13 {W : World} (τ : Nat → Nat) (h : Facts Tryz.prog W.heap.size W M0) (hw : GHas W (gl τ)) (hb : ∀ x ∈ gl τ, x.1 < W.heap.size) : Fact Tryz.prog W.heap.size W 220 a13 v13 :=
  fact_run (S := sg M0) (H0 := H0 τ) (nx0 := nx0) (q := 10000000) (sokM _) (fokM _) (xokM _) rfl h (initM _ τ hw hb) (by kernel_rfl)
/-- spillway/response.decimal: 776 steps. -/
def a14 : List CV := [.s 1 0x32]
def v14 : CV := .i .i64 2
theorem fact14 {W : World} (τ : Nat → Nat) (h : Facts Tryz.prog W.heap.size W M0) (hw : GHas W (gl τ)) (hb : ∀ x ∈ gl τ, x.1 < W.heap.size) : Fact Tryz.prog W.heap.size W 220 a14 v14 :=
  fact_run (S := sg M0) (H0 := H0 τ) (nx0 := nx0) (q := 10000000) (sokM _) (fokM _) (xokM _) rfl h (initM _ τ hw hb) (by kernel_rfl)
/-- spillway/response.decimal: 868 steps. -/
def a15 : List CV := [.s 2 0x3131]
def v15 : CV := .i .i64 11
theorem fact15 {W : World} (τ : Nat → Nat) (h : Facts Tryz.prog W.heap.size W M0) (hw : GHas W (gl τ)) (hb : ∀ x ∈ gl τ, x.1 < W.heap.size) : Fact Tryz.prog W.heap.size W 220 a15 v15 :=
  fact_run (S := sg M0) (H0 := H0 τ) (nx0 := nx0) (q := 10000000) (sokM _) (fokM _) (xokM _) rfl h (initM _ τ hw hb) (by kernel_rfl)
/-- strings.makeASCIISet: 108 steps. -/
def a16 : List CV := [.s 2 0x0920]
def v16 : CV := .tup [.agg [.b false, .b false, .b false, .b false, .b false, .b false, .b false, .b false, .b false, .b true, .b false, .b false, .b false, .b false, .b false, .b false, .b false, .b false, .b false, .b false, .b false, .b false, .b false, .b false, .b false, .b false, .b false, .b false, .b false, .b false, .b false, .b false, .b true, .b false, .b false, .b false, .b false, .b false, .b false, .b false, .b false, .b false, .b false, .b false, .b false, .b false, .b false, .b false, .b false, .b false, .b false, .b false, .b false, .b false, .b false, .b false, .b false, .b false, .b false, .b false, .b false, .b false, .b false, .b false, .b false, .b false, .b false, .b false, .b false, .b false, .b false, .b false, .b false, .b false, .b false, .b false, .b false, .b false, .b false, .b false, .b false, .b false, .b false, .b false, .b false, .b false, .b false, .b false, .b false, .b false, .b false, .b false, .b false, .b false, .b false, .b false, .b false, .b false, .b false, .b false, .b false, .b false, .b false, .b false, .b false, .b false, .b false, .b false, .b false, .b false, .b false, .b false, .b false, .b false, .b false, .b false, .b false, .b false, .b false, .b false, .b false, .b false, .b false, .b false, .b false, .b false, .b false, .b false, .b false, .b false, .b false, .b false, .b false, .b false, .b false, .b false, .b false, .b false, .b false, .b false, .b false, .b false, .b false, .b false, .b false, .b false, .b false, .b false, .b false, .b false, .b false, .b false, .b false, .b false, .b false, .b false, .b false, .b false, .b false, .b false, .b false, .b false, .b false, .b false, .b false, .b false, .b false, .b false, .b false, .b false, .b false, .b false, .b false, .b false, .b false, .b false, .b false, .b false, .b false, .b false, .b false, .b false, .b false, .b false, .b false, .b false, .b false, .b false, .b false, .b false, .b false, .b false, .b false, .b false, .b false, .b false, .b false, .b false, .b false, .b false, .b false, .b false, .b false, .b false, .b false, .b false, .b false, .b false, .b false, .b false, .b false, .b false, .b false, .b false, .b false, .b false, .b false, .b false, .b false, .b false, .b false, .b false, .b false, .b false, .b false, .b false, .b false, .b false, .b false, .b false, .b false, .b false, .b false, .b false, .b false, .b false, .b false, .b false, .b false, .b false, .b false, .b false, .b false, .b false, .b false, .b false, .b false, .b false, .b false, .b false, .b false, .b false, .b false, .b false, .b false, .b false], .b true]
theorem fact16 {W : World} (τ : Nat → Nat) (h : Facts Tryz.prog W.heap.size W M0) (hw : GHas W (gl τ)) (hb : ∀ x ∈ gl τ, x.1 < W.heap.size) : Fact Tryz.prog W.heap.size W 240 a16 v16 :=
  fact_run (S := sg M0) (H0 := H0 τ) (nx0 := nx0) (q := 10000000) (sokM _) (fokM _) (xokM _) rfl h (initM _ τ hw hb) (by kernel_rfl)
end Go.Proofs.YtljlcljlnhaniaaGreatDoor
