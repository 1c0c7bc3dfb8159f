/- Part of the proof of the statement: an evaluator of the code at closed data, run by the kernel, and that it is sound; it has no conditions of its own. -/
import Derived.Test.YtljlcljlnhaniaaGreatDoorProg
import Derived.Test.YtljlcljlnhaniaaGreatDoorSxg
import Derived.Test.YtljlcljlnhaniaaGreatDoorSpBp1
set_option linter.unusedVariables false
set_option linter.unusedSimpArgs false
namespace Go.Proofs.YtljlcljlnhaniaaGreatDoor
open Go.Sx
set_option maxRecDepth 10000
/-! Split of backends: what the executor knows of the program; rows of strings. -/
def stt : List (Nat × TI) := [
  (3, ⟨.int .i64, 1, 8, [.int .i64 (.l 0)]⟩),
  (4, ⟨.bool, 1, 1, [.bool (.l false)]⟩),
  (9, ⟨.string, 1, 16, [.str []]⟩),
  (50, ⟨.slice 9, 1, 24, [(.sl (.l true) (.l 0) 1 fun _ => [])]⟩),
  (51, ⟨.int .i64, 1, 8, [.int .i64 (.l 0)]⟩)]
theorem stt_ok : ttB Tryz.prog stt = true := by kernel_rfl
theorem smixed : Tryz.prog.follows .mixedOrders = true := by kernel_rfl
theorem scxOk {tab : List (Nat × FSpec)} {gl : List (Nat × SV)} {gh : List (Nat × List Gh)} : CxOk Tryz.prog ⟨dn, stt, tab, gl, [], gh⟩ := by
  refine ⟨rfl, stt_ok, fun t ht => ?_⟩
  cases ht
structure RowS (f : Nat → List SV) (n : Int) (a : List (List UInt8)) : Prop where
  n : n = a.length
  f : ∀ i, i < a.length → f i = [.str (a.getD i [])]
  len : a.length ≤ 9223372036854775807
theorem RowS.more {f f' g : Nat → List SV} {n n' : Int} {a : List (List UInt8)} {x : List UInt8} (R : RowS f n a) (hg : g 0 = [.str x]) (h : MoreRow f' n' n 1 f g) (hl : a.length < 9223372036854775807) : RowS f' n' (a ++ [x]) := by
  have h1 := R.n
  refine ⟨by rw [h.len, h1]; simp, fun i hi => ?_, by simp; omega⟩
  simp only [List.length_append, List.length_singleton] at hi
  by_cases e : i < a.length
  · rw [h.lo i (by omega), R.f i e, List.getD_eq_getElem?_getD, List.getD_eq_getElem?_getD, List.getElem?_append_left e]
  · have : i = a.length := by omega
    subst this
    rw [h.hi a.length 0 (by rw [h1]; simp) (by simp), hg]
    simp
theorem RowS.nil : RowS (fun _ => []) 0 [] := ⟨rfl, by simp, by simp⟩
def strRow (l : List (List UInt8)) (i : Nat) : List SV := [.str (l.getD i [])]
theorem RowS.row {l : List (List UInt8)} (h : l.length ≤ 9223372036854775807) : RowS (strRow l) l.length l := ⟨rfl, fun _ _ => rfl, h⟩
theorem sub_of {D : Dn} (hD : D = dn) {r s : List UInt8} {i j : Nat} {a b : ST} (ha : a.den = (i : Int)) (hb : b.den = (j : Int)) (hr : SubOf r s (D.i a) (D.i b)) : r = (s.drop i).take (j - i) := by
  subst hD
  have hr := hr.h
  have e1 : dn.i a = (i : Int) := ha
  have e2 : dn.i b = (j : Int) := hb
  rw [hr, e1, e2, Int.toNat_natCast, Int.toNat_natCast]
theorem subS_of {s : List UInt8} {i j : Nat} {a b : ST} (ha : a.den = (i : Int)) (hb : b.den = (j : Int)) (h : i ≤ j) (h2 : j ≤ s.length) : SubS (dn.i a) (dn.i b) s := ⟨by show 0 ≤ a.den; omega, by show a.den ≤ b.den; omega, by show b.den ≤ _; omega⟩
/-- What both functions give. -/
def splF (s : List UInt8) (p : Int) : List (List UInt8) × Int := if p < 1 ∨ 50 < p then ([], 7) else (Pcs.pcs p.toNat s, 0)
def spSpl : FSpec := fun _ xs ls K => ∃ (s : List UInt8) (p : Int), xs = [.str s, .int .i64 (.a p)] ∧ ls = [] ∧ s.length ≤ 100000 ∧ ∀ l e n nb, (l, e) = splF s p → n = (l.length : Int) → nb = l.isEmpty → K (.tup [.sl (.a nb) (.a n) 1 (strRow l), .int .i64 (.a e)]) []
theorem finSpl {D : Dn} (hD : D = dn) {l l' : List (List UInt8)} {ke kn e' : Int} {knb : Bool} {kr f : Nat → List SV} (hk : (l, ke) = (l', e')) (hkn : kn = (l.length : Int)) (hkr : kr = strRow l)
    {n : Int} (R : RowS f n l') {x : BT} {y z : ST} (hy : y.den = n) (hx : x.den = knb) (hz : z.den = e') : Fin (.tup [.sl (.a (D.b x)) (.a (D.i y)) 1 f, .int .i64 (.a (D.i z))]) (.tup [.sl (.a knb) (.a kn) 1 kr, .int .i64 (.a ke)]) [] [] := by
  subst hD
  simp only [Prod.mk.injEq] at hk
  obtain ⟨rfl, rfl⟩ := hk
  refine finV (.tup (.cons (.sl hx ?_ ?_) (.cons (leInt hz) .nil)))
  · rw [hkn]; show y.den = _; rw [hy]; exact R.n
  · intro i hi
    have hi : (i : Int) < y.den := hi
    rw [R.f i (by have := R.n; omega), hkr]; rfl
end Go.Proofs.YtljlcljlnhaniaaGreatDoor
