/- Part of the proofs of the statements about tokens (layer 5): contracts of functions; it has no conditions of its own. -/
import Derived.Test.YtfchfhjpldppjaaGreatDoorProg
import Derived.Test.YtfchfhjpldppjaaGreatDoorSc
namespace Go.Proofs.YtfchfhjpldppjaaGreatDoor
open Go.Sx
set_option maxRecDepth 10000
def tt : List (Nat × TI) := [
  (2, ⟨.int .i64, 1, 8, [.int .i64 (.l 0)]⟩),
  (3, ⟨.int .i64, 1, 8, [.int .i64 (.l 0)]⟩),
  (4, ⟨.bool, 1, 1, [.bool (.l false)]⟩),
  (5, ⟨.int .u8, 1, 1, [.int .u8 (.l 0)]⟩),
  (9, ⟨.string, 1, 16, [.str []]⟩),
  (23, ⟨.int .i64, 1, 8, [.int .i64 (.l 0)]⟩),
  (28, ⟨.slice 9, 1, 24, [(.sl (.l true) (.l 0) 1 fun _ => [])]⟩),
  (35, ⟨.slice 49, 1, 24, [(.sl (.l true) (.l 0) 2 fun _ => [])]⟩),
  (38, ⟨.slice 51, 1, 24, [(.sl (.l true) (.l 0) 2 fun _ => [])]⟩),
  (43, ⟨.slice 5, 1, 24, [(.sl (.l true) (.l 0) 1 fun _ => [])]⟩),
  (47, ⟨.slice 53, 1, 24, [(.sl (.l true) (.l 0) 2 fun _ => [])]⟩),
  (49, ⟨.struct [(0, 9), (1, 47)], 2, 40, [.str [], (.sl (.l true) (.l 0) 2 fun _ => [])]⟩),
  (51, ⟨.struct [(0, 9), (1, 3)], 2, 24, [.str [], .int .i64 (.l 0)]⟩),
  (53, ⟨.struct [(0, 9), (1, 9)], 2, 32, [.str [], .str []]⟩),
  (60, ⟨.pointer 62, 1, 8, [.nilp]⟩),
  (62, ⟨.struct [(0, 60), (1, 43)], 2, 32, [.nilp, (.sl (.l true) (.l 0) 1 fun _ => [])]⟩),
  (82, ⟨.array 8 9, 8, 128, [.str [], .str [], .str [], .str [], .str [], .str [], .str [], .str []]⟩)]

def eqs : List TypeId := [51, 53]
def gl : List (Nat × SV) := []
theorem tt_ok : ttB Tryz.prog tt = true := by kernel_rfl
theorem mixed : Tryz.prog.follows .mixedOrders = true := by kernel_rfl
theorem cxOk {tab : List (Nat × FSpec)} {gl : List (Nat × SV)} {gh : List (Nat × List Gh)} : CxOk Tryz.prog ⟨dn, tt, tab, gl, eqs, gh⟩ := by
  refine ⟨rfl, tt_ok, fun t ht => ?_⟩
  simp only [eqs, List.mem_cons, List.mem_nil_iff, or_false] at ht
  rcases ht with rfl | rfl
  all_goals
    refine ⟨?_, ?_, ?_⟩
    · kernel_rfl
    · kernel_rfl
    · decide
end Go.Proofs.YtfchfhjpldppjaaGreatDoor
namespace Go.Proofs.YtfchfhjpldppjaaGreatDoor
open Go.Sx
set_option maxRecDepth 10000
set_option maxHeartbeats 2000000
def kindsL : List UInt8 := [48, 48, 48, 48, 48, 48, 48, 48, 48, 50, 48, 48, 48, 48, 48, 48, 48, 48, 48, 48, 48, 48, 48, 48, 48, 48, 48, 48, 48, 48, 48, 48, 50, 51, 49, 51, 51, 51, 51, 51, 49, 49, 51, 51, 49, 51, 51, 49, 51, 51, 51, 51, 51, 51, 51, 51, 51, 51, 49, 49, 49, 49, 49, 49, 49, 51, 51, 51, 51, 51, 51, 51, 51, 51, 51, 51, 51, 51, 51, 51, 51, 51, 51, 51, 51, 51, 51, 51, 51, 51, 51, 49, 49, 49, 51, 51, 51, 51, 51, 51, 51, 51, 51, 51, 51, 51, 51, 51, 51, 51, 51, 51, 51, 51, 51, 51, 51, 51, 51, 51, 51, 51, 51, 49, 51, 49, 51, 48]
def kindI (c : Int) : Int := if 128 ≤ c then 0 else ((kindsL.getD c.toNat 48).toNat : Int) - 48
def spKind : FSpec := fun _ xs ls K => ∃ (c : Int), xs = [.int .u8 (.a c)] ∧ ls = [] ∧ (0 ≤ c ∧ c ≤ 255) ∧ ∀ r, r = kindI c → K (.int .i64 (.a r)) []
theorem kindsL_ok : ∀ i : Fin 128, 48 ≤ (kindsL.getD i.1 0).toNat ∧ (kindsL.getD i.1 0).toNat ≤ 51 ∧ kindsL.getD i.1 0 = kindsL.getD i.1 48 := by decide
theorem wrap8 {n : Int} (h1 : 0 ≤ n) (h2 : n ≤ 255) : IntKind.u8.wrap n = n := IntWalk.u8_in _ ⟨by omega, by omega⟩
theorem kind_ok : FnOk Tryz.prog gl 47 spKind := by
  refine fnOk (gh := []) mixed cxOk tabNil Tryz.func47 (by kernel_rfl) (by kernel_rfl) ?_
  intro xs ls K h
  unfold spKind at h
  obtain ⟨c, rfl, rfl, hb, h⟩ := h
  obtain ⟨k, hk⟩ : ∃ k, k = kindI c := ⟨_, rfl⟩
  refine ⟨_, _, h k hk, fun D hD => ?_⟩
  clear h
  have w : IntKind.i64.wrap c = c := wrap64 (by omega) (by omega)
  cbv
  refine br hD (fun h => ?_) (fun h => ?_) <;> cbv
  · refine finInt hD ?_
    simp [w] at h
    rw [hk, kindI, if_pos h]
    rfl
  · have hc : c < 128 := by simp [BT.den, cmpDen, ST.den, w] at h; omega
    clear h
    refine ⟨by subst hD; exact ⟨hb.1, hc⟩, fun c' hc' => ?_⟩
    cbv
    refine finInt hD ?_
    have e1 : c' = ((kindsL.getD c.toNat 0).toNat : Int) := by subst hD; exact hc'.h
    obtain ⟨t1, t2, t3⟩ := kindsL_ok ⟨c.toNat, by omega⟩
    simp only at t1 t2 t3
    show IntKind.i64.wrap (IntKind.u8.wrap (c' - 48)) = k
    rw [wrap8 (by omega) (by omega), wrap64 (by omega) (by omega), hk, kindI, if_neg (by omega), ← t3, e1]
def plainI (c : Int) : Bool := c == 9 || (decide (32 ≤ c) && decide (c ≤ 126))
def spPlain : FSpec := fun _ xs ls K => ∃ (c : Int), xs = [.int .u8 (.a c)] ∧ ls = [] ∧ ∀ r, r = plainI c → K (.bool (.a r)) []
theorem plain_ok : FnOk Tryz.prog gl 78 spPlain := by
  refine fnOk (gh := []) mixed cxOk tabNil Tryz.func78 (by kernel_rfl) (by kernel_rfl) ?_
  intro xs ls K h
  unfold spPlain at h
  obtain ⟨c, rfl, rfl, h⟩ := h
  obtain ⟨k, hk⟩ : ∃ k, k = plainI c := ⟨_, rfl⟩
  refine ⟨_, _, h k hk, fun D hD => ?_⟩
  clear h
  cbv
  refine finBool hD ?_
  rw [hk]
  simp [BT.den, cmpDen, ST.den, plainI]
  rfl
structure CharAt (c : Int) (s : List UInt8) (i : Nat) : Prop where
  h : c = ((s.getD i 0).toNat : Int)
theorem isJ {D : Dn} (hD : D = dn) {j : Nat} {I : Int} (h : IsJ j (D.i (.a I))) : (j : Int) = I := by subst hD; exact h.h
structure TokI (s : List UInt8) (i : Nat) (I L : Int) (m : Nat) : Prop where
  L : L = s.length
  le : i ≤ s.length
  I : I = i
  all : ∀ j : Nat, j < i → kindI ((s.getD j 0).toNat : Int) = 3
  m : m = s.length - i
def tokenF (s : List UInt8) : Bool := (s.all fun c => kindI (c.toNat : Int) == 3) && (decide (0 < s.length) && decide (s.length ≤ 64))
theorem tokenF_no {s : List UInt8} {j : Nat} (hj : j < s.length) (h : kindI ((s.getD j 0).toNat : Int) ≠ 3) : tokenF s = false := by
  unfold tokenF
  rw [Bool.and_eq_false_iff]
  left
  rw [List.all_eq_false]
  refine ⟨s[j], List.getElem_mem hj, ?_⟩
  rw [List.getD_eq_getElem?_getD, List.getElem?_eq_getElem hj] at h
  simpa using h
theorem tokenF_yes {s : List UInt8} (h : ∀ j : Nat, j < s.length → kindI ((s.getD j 0).toNat : Int) = 3) : tokenF s = (decide (0 < s.length) && decide (s.length ≤ 64)) := by
  unfold tokenF
  have : (s.all fun c => kindI (c.toNat : Int) == 3) = true := by
    rw [List.all_eq_true]
    intro c hc
    obtain ⟨j, hj, rfl⟩ := List.mem_iff_getElem.1 hc
    have := h j hj
    rw [List.getD_eq_getElem?_getD, List.getElem?_eq_getElem hj] at this
    simpa using this
  rw [this]; simp
def spToken : FSpec := fun _ xs ls K => ∃ (s : List UInt8), xs = [.str s] ∧ ls = [] ∧ s.length ≤ 9223372036854775807 ∧ ∀ r, r = tokenF s → K (.bool (.a r)) []
def tokJ (s : List UInt8) (f : Nat → List SV) (m : Nat) (vs : List (Option SV)) (hp : List Hl) : Prop :=
  ∃ (i : Nat) (I L : Int), vs = [some (.str s), some (.sl (.a false) (.a L) 1 f), some (.int .i64 (.a L)), some (.int .i64 (.a I))] ∧ hp = [] ∧ TokI s i I L m
theorem token_ok : FnOk Tryz.prog gl 16 spToken := by
  refine fnOk (gh := []) mixed cxOk (tabCons kind_ok tabNil) Tryz.func16 (by kernel_rfl) (by kernel_rfl) ?_
  intro xs ls K h
  unfold spToken at h
  obtain ⟨s, rfl, rfl, hl, h⟩ := h
  obtain ⟨k, hk⟩ : ∃ k, k = tokenF s := ⟨_, rfl⟩
  refine ⟨_, _, h k hk, fun D hD => ?_⟩
  clear h
  cbv
  refine ⟨⟨hl⟩, fun f hf => ?_⟩
  cbv
  obtain ⟨J, hJ⟩ : ∃ J, J = tokJ s f := ⟨_, rfl⟩
  refine ⟨[0, 6, 7, 8], J, ⟨rfl, s.length, ?_⟩, ?_⟩
  · rw [hJ]
    subst hD
    exact ⟨0, 0, _, rfl, rfl, ⟨rfl, Nat.zero_le _, rfl, by omega, rfl⟩⟩
  intro m vs hp hv
  rw [hJ] at hv
  unfold tokJ at hv
  obtain ⟨i, I, L, rfl, rfl, V⟩ := hv
  cbv
  refine br hD (fun h => ?_) (fun h => ?_) <;> cbv
  · have hlt : i < s.length := by simp at h; have := V.I; have := V.L; omega
    clear h
    refine ⟨?_, fun j hj => ?_⟩
    · have := V.I; have := V.L; subst hD; exact ⟨by simp [dn]; omega, by simp [dn]; omega⟩
    have hji : j = i := by have := isJ hD hj; have := V.I; omega
    obtain ⟨c, hc⟩ : ∃ c : Int, c = ((s.getD i 0).toNat : Int) := ⟨_, rfl⟩
    have hb : 0 ≤ c ∧ c ≤ 255 := by have := (s.getD i 0).toNat_lt; omega
    have hfj : f i = [.int .u8 (.a c)] := by rw [hf.h, hc]; rfl
    have hc : CharAt c s i := ⟨hc⟩
    subst hji
    clear hj
    cbv
    rw [hfj]
    cbv
    refine ⟨_, rfl, rfl, by subst hD; exact hb, fun r hr => ?_⟩
    have hr : r = kindI c := by subst hD; exact hr
    cbv
    refine br hD (fun h => ?_) (fun h => ?_) <;> cbv
    · refine finBool hD ?_
      have : r ≠ 3 := by simpa [BT.den, cmpDen, ST.den] using h
      rw [hk, tokenF_no hlt (by rw [← hc.h, ← hr]; exact this)]
      rfl
    · have h3 : r = 3 := by simpa [BT.den, cmpDen, ST.den] using h
      refine ⟨s.length - (j + 1), by have := V.m; omega, ?_⟩
      rw [hJ]
      subst hD
      have hI := V.I
      refine ⟨j + 1, _, _, rfl, rfl, ⟨V.L, by omega, ?_, fun q hq => ?_, rfl⟩⟩
      · simp [dn]
        rw [wrap64 (by omega) (by omega)]
        omega
      · by_cases hqj : q = j
        · subst hqj
          rw [← hc.h]
          exact hr.symm.trans h3
        · exact V.all q (by omega)
  · have hi : i = s.length := by simp at h; have := V.I; have := V.L; have := V.le; omega
    clear h
    have hy := tokenF_yes (s := s) (fun j hj => V.all j (by omega))
    refine finBool hD ?_
    rw [hk, hy]
    show (decide ((0 : Int) < (s.length : Int)) && decide ((s.length : Int) ≤ 64)) = _
    congr 1 <;> exact decide_eq_decide.2 (by omega)
end Go.Proofs.YtfchfhjpldppjaaGreatDoor
namespace Go.Proofs.YtfchfhjpldppjaaGreatDoor
open Go.Sx
set_option maxRecDepth 10000
set_option maxHeartbeats 2000000
/-- A predicate of bytes. -/
def spPredB (p : Int → Bool) : FSpec := fun _ xs ls K => ∃ (c : Int), xs = [.int .u8 (.a c)] ∧ ls = [] ∧ (0 ≤ c ∧ c ≤ 255) ∧ ∀ r, r = p c → K (.bool (.a r)) []
def noneI (c : Int) : Bool := kindI c == 0
theorem plain1_ok : FnOk Tryz.prog gl 76 (spPredB noneI) := by
  refine fnOk (gh := []) mixed cxOk (tabCons kind_ok tabNil) Tryz.func76 (by kernel_rfl) (by kernel_rfl) ?_
  intro xs ls K h
  unfold spPredB at h
  obtain ⟨c, rfl, rfl, hb, h⟩ := h
  obtain ⟨k, hk⟩ : ∃ k, k = noneI c := ⟨_, rfl⟩
  refine ⟨_, _, h k hk, fun D hD => ?_⟩
  clear h
  cbv
  refine ⟨_, rfl, rfl, by subst hD; exact hb, fun r hr => ?_⟩
  have hr : r = kindI c := by subst hD; exact hr
  cbv
  refine finBool hD ?_
  rw [hk, noneI, ← hr]
  rfl
def anyB (p : Int → Bool) (s : List UInt8) : Bool := s.any fun c => p (c.toNat : Int)
structure IdxI (p : Int → Bool) (s : List UInt8) (i : Nat) (I L : Int) (m : Nat) : Prop where
  L : L = s.length
  le : i ≤ s.length
  I : I = i
  all : ∀ j : Nat, j < i → p ((s.getD j 0).toNat : Int) = false
  m : m = s.length - i
def idxF (p : Int → Bool) (s : List UInt8) : Int := match s.findIdx? fun c => p (c.toNat : Int) with
  | some i => (i : Int)
  | none => -1
theorem getD_lt {s : List UInt8} {j : Nat} (hj : j < s.length) : s.getD j 0 = s[j] := by
  rw [List.getD_eq_getElem?_getD, List.getElem?_eq_getElem hj]
  rfl
theorem idxF_at {p : Int → Bool} {s : List UInt8} {i : Nat} (hi : i < s.length) (h : p ((s.getD i 0).toNat : Int) = true) (hall : ∀ j : Nat, j < i → p ((s.getD j 0).toNat : Int) = false) : idxF p s = (i : Int) := by
  have : s.findIdx? (fun c => p (c.toNat : Int)) = some i := by
    rw [List.findIdx?_eq_some_iff_getElem]
    refine ⟨hi, by rwa [getD_lt hi] at h, fun j hj => ?_⟩
    have := hall j hj
    rw [getD_lt (by omega)] at this
    simp [this]
  rw [idxF, this]
theorem idxF_none {p : Int → Bool} {s : List UInt8} (hall : ∀ j : Nat, j < s.length → p ((s.getD j 0).toNat : Int) = false) : idxF p s = -1 := by
  have : s.findIdx? (fun c => p (c.toNat : Int)) = none := by
    rw [List.findIdx?_eq_none_iff]
    intro c hc
    obtain ⟨j, hj, rfl⟩ := List.mem_iff_getElem.1 hc
    have := hall j hj
    rwa [getD_lt hj] at this
  rw [idxF, this]
theorem idxF_any (p : Int → Bool) (s : List UInt8) : decide (0 ≤ idxF p s) = anyB p s := by
  unfold idxF anyB
  cases h : s.findIdx? (fun c => p (c.toNat : Int)) with
  | none =>
    rw [List.findIdx?_eq_none_iff] at h
    symm
    simp only [Int.reduceNeg, Int.reduceLE, decide_false]
    rw [List.any_eq_false]
    intro c hc
    simp [h c hc]
  | some i =>
    rw [List.findIdx?_eq_some_iff_getElem] at h
    obtain ⟨hi, h1, _⟩ := h
    symm
    have h0 : (0 : Int) ≤ (i : Int) := by omega
    simp only [h0, decide_true]
    rw [List.any_eq_true]
    exact ⟨s[i], List.getElem_mem hi, h1⟩
def idxJ (p : Int → Bool) (s : List UInt8) (f : Nat → List SV) (nl : Bool) (n : Int) (m : Nat) (vs : List (Option SV)) (hp : List Hl) : Prop :=
  ∃ (i : Nat) (I L : Int), vs = [some (.sl (.a nl) (.a n) 1 f), some (.fn 76), some (.int .i64 (.a L)), some (.int .i64 (.a I))] ∧ hp = [] ∧ IdxI p s i I L m
structure RowB (f : Nat → List SV) (n : Int) (s : List UInt8) : Prop where
  n : n = s.length
  f : f = byteRow s
  len : s.length ≤ 9223372036854775807
def spIdxB (p : Int → Bool) : FSpec := fun _ xs ls K => ∃ (s : List UInt8) (nl : Bool) (n : Int) (f : Nat → List SV), xs = [.sl (.a nl) (.a n) 1 f, .fn 76] ∧ ls = [] ∧ RowB f n s ∧ ∀ r : Int, r = idxF p s → K (.int .i64 (.a r)) []
theorem index76_ok : FnOk Tryz.prog gl 101 (spIdxB noneI) := by
  refine fnOk (gh := []) mixed cxOk (tabCons plain1_ok tabNil) Tryz.func101 (by kernel_rfl) (by kernel_rfl) ?_
  intro xs ls K h
  unfold spIdxB at h
  obtain ⟨s, nl, n, f, rfl, rfl, R, h⟩ := h
  obtain ⟨k, hk⟩ : ∃ k, k = idxF noneI s := ⟨_, rfl⟩
  refine ⟨_, _, h k hk, fun D hD => ?_⟩
  clear h
  obtain ⟨p, hp⟩ : ∃ p, p = noneI := ⟨_, rfl⟩
  rw [← hp] at hk ⊢
  cbv
  obtain ⟨J, hJ⟩ : ∃ J, J = idxJ p s f nl n := ⟨_, rfl⟩
  refine ⟨[0, 1, 7, 8], J, ⟨rfl, s.length, ?_⟩, ?_⟩
  · rw [hJ]
    subst hD
    exact ⟨0, 0, _, rfl, rfl, ⟨R.n, Nat.zero_le _, rfl, by omega, rfl⟩⟩
  intro m vs hp' hv
  rw [hJ] at hv
  unfold idxJ at hv
  obtain ⟨i, I, L, rfl, rfl, V⟩ := hv
  cbv
  refine br hD (fun h => ?_) (fun h => ?_) <;> cbv
  · have hlt : i < s.length := by simp at h; have := V.I; have := V.L; omega
    clear h
    refine ⟨?_, fun j hj => ?_⟩
    · have := V.I; have := R.n; subst hD; exact ⟨by simp [dn]; omega, by simp [dn]; omega⟩
    have hji : j = i := by have := isJ hD hj; have := V.I; omega
    obtain ⟨c, hc⟩ : ∃ c : Int, c = ((s.getD i 0).toNat : Int) := ⟨_, rfl⟩
    have hb : 0 ≤ c ∧ c ≤ 255 := by have := (s.getD i 0).toNat_lt; omega
    have hfj : f i = [.int .u8 (.a c)] := by rw [R.f, hc]; rfl
    have hc : CharAt c s i := ⟨hc⟩
    subst hji
    clear hj
    cbv
    rw [hfj]
    cbv
    refine ⟨_, rfl, rfl, by subst hD; exact hb, fun r hr => ?_⟩
    have hr : r = p c := by subst hD; exact hr
    cbv
    refine br hD (fun h => ?_) (fun h => ?_) <;> cbv
    · have h3 : r = true := by simpa using h
      refine finInt hD ?_
      have := V.I
      rw [hk, idxF_at (p := p) hlt (by rw [← hc.h]; exact hr.symm.trans h3) V.all]
      simp [ST.den]; omega
    · have h3 : r = false := by simpa using h
      have hm := V.m
      refine ⟨s.length - (j + 1), by omega, ?_⟩
      rw [hJ]
      subst hD
      have hI := V.I
      have := R.len
      refine ⟨j + 1, _, _, rfl, rfl, ⟨V.L, by omega, ?_, fun q hq => ?_, rfl⟩⟩
      · simp [dn]
        rw [wrap64 (by omega) (by omega)]
        omega
      · by_cases hqj : q = j
        · subst hqj
          rw [← hc.h]; exact hr.symm.trans h3
        · exact V.all q (by omega)
  · have hi : i = s.length := by simp at h; have := V.I; have := V.L; have := V.le; omega
    clear h
    refine finInt hD ?_
    rw [hk, idxF_none (p := p) (fun j hj => V.all j (by omega))]
    rfl
end Go.Proofs.YtfchfhjpldppjaaGreatDoor
namespace Go.Proofs.YtfchfhjpldppjaaGreatDoor
open Go.Sx
set_option maxRecDepth 10000
set_option maxHeartbeats 2000000
def spAnyB (p : Int → Bool) : FSpec := fun _ xs ls K => ∃ (s : List UInt8) (nl : Bool) (n : Int) (f : Nat → List SV), xs = [.sl (.a nl) (.a n) 1 f, .fn 76] ∧ ls = [] ∧ RowB f n s ∧ ∀ r : Bool, r = anyB p s → K (.bool (.a r)) []
theorem contains76_ok : FnOk Tryz.prog gl 75 (spAnyB noneI) := by
  refine fnOk (gh := []) mixed cxOk (tabCons index76_ok tabNil) Tryz.func75 (by kernel_rfl) (by kernel_rfl) ?_
  intro xs ls K h
  unfold spAnyB at h
  obtain ⟨s, nl, n, f, rfl, rfl, R, h⟩ := h
  obtain ⟨k, hk⟩ : ∃ k, k = anyB noneI s := ⟨_, rfl⟩
  refine ⟨_, _, h k hk, fun D hD => ?_⟩
  clear h
  cbv
  refine ⟨s, _, _, _, rfl, rfl, by subst hD; exact R, fun r hr => ?_⟩
  cbv
  refine finBool hD ?_
  rw [hk, ← idxF_any, hr]
  rfl
def plainF (s : List UInt8) : Bool := !anyB noneI s
def spPlainF : FSpec := fun _ xs ls K => ∃ (s : List UInt8), xs = [.str s] ∧ ls = [] ∧ s.length ≤ 9223372036854775807 ∧ ∀ r, r = plainF s → K (.bool (.a r)) []
theorem plainS_ok : FnOk Tryz.prog gl 40 spPlainF := by
  refine fnOk (gh := []) mixed cxOk (tabCons contains76_ok tabNil) Tryz.func40 (by kernel_rfl) (by kernel_rfl) ?_
  intro xs ls K h
  unfold spPlainF at h
  obtain ⟨s, rfl, rfl, hl, h⟩ := h
  obtain ⟨k, hk⟩ : ∃ k, k = plainF s := ⟨_, rfl⟩
  refine ⟨_, _, h k hk, fun D hD => ?_⟩
  clear h
  cbv
  refine ⟨⟨hl⟩, fun f hf => ?_⟩
  cbv
  refine ⟨s, _, _, _, rfl, rfl, by subst hD; exact ⟨rfl, hf.h, hl⟩, fun r hr => ?_⟩
  cbv
  refine finBool hD ?_
  rw [hk, plainF, ← hr]
  rfl
end Go.Proofs.YtfchfhjpldppjaaGreatDoor
namespace Go.Proofs.YtfchfhjpldppjaaGreatDoor
open Go.Sx
set_option maxRecDepth 10000
set_option maxHeartbeats 2000000
def plainsF (s : List UInt8) : Bool := s.all fun c => plainI (c.toNat : Int)
theorem all_no {p : Int → Bool} {s : List UInt8} {j : Nat} (hj : j < s.length) (h : p ((s.getD j 0).toNat : Int) = false) : (s.all fun c => p (c.toNat : Int)) = false := by
  rw [List.all_eq_false]
  refine ⟨s[j], List.getElem_mem hj, ?_⟩
  rw [getD_lt hj] at h
  simp [h]
theorem all_yes {p : Int → Bool} {s : List UInt8} (h : ∀ j : Nat, j < s.length → p ((s.getD j 0).toNat : Int) = true) : (s.all fun c => p (c.toNat : Int)) = true := by
  rw [List.all_eq_true]
  intro c hc
  obtain ⟨j, hj, rfl⟩ := List.mem_iff_getElem.1 hc
  have := h j hj
  rwa [getD_lt hj] at this
structure AllI (p : Int → Bool) (s : List UInt8) (i : Nat) (I : Int) (m : Nat) : Prop where
  le : i ≤ s.length
  I : I = i
  all : ∀ j : Nat, j < i → p ((s.getD j 0).toNat : Int) = true
  m : m = s.length - i
  len : s.length ≤ 9223372036854775807
theorem charOf {D : Dn} (hD : D = dn) {c I : Int} {s : List UInt8} {i : Nat} (hI : I = i) (h : ByteOf c s (D.i (.a I))) : CharAt c s i := by
  subst hD
  refine ⟨?_⟩
  have h := h.h
  show c = _
  rw [h]
  show (((s.getD I.toNat 0).toNat : Nat) : Int) = _
  rw [hI, Int.toNat_natCast]
theorem CharAt.le {c : Int} {s : List UInt8} {i : Nat} (h : CharAt c s i) : 0 ≤ c ∧ c ≤ 255 := by
  have h1 := h.h
  have := (s.getD i 0).toNat_lt
  omega
def plainsJ (p : Int → Bool) (s : List UInt8) (m : Nat) (vs : List (Option SV)) (hp : List Hl) : Prop :=
  ∃ (i : Nat) (I : Int), vs = [some (.str s), some (.int .i64 (.a I))] ∧ hp = [] ∧ AllI p s i I m
def spPlainsF : FSpec := fun _ xs ls K => ∃ (s : List UInt8), xs = [.str s] ∧ ls = [] ∧ s.length ≤ 9223372036854775807 ∧ ∀ r, r = plainsF s → K (.bool (.a r)) []
theorem plains_ok : FnOk Tryz.prog gl 43 spPlainsF := by
  refine fnOk (gh := []) mixed cxOk (tabCons plain_ok tabNil) Tryz.func43 (by kernel_rfl) (by kernel_rfl) ?_
  intro xs ls K h
  unfold spPlainsF at h
  obtain ⟨s, rfl, rfl, hl, h⟩ := h
  obtain ⟨k, hk⟩ : ∃ k, k = plainsF s := ⟨_, rfl⟩
  refine ⟨_, _, h k hk, fun D hD => ?_⟩
  clear h
  rw [plainsF] at hk
  obtain ⟨p, hp⟩ : ∃ p, p = plainI := ⟨_, rfl⟩
  rw [← hp] at hk
  cbv
  obtain ⟨J, hJ⟩ : ∃ J, J = plainsJ p s := ⟨_, rfl⟩
  refine ⟨[0, 3], J, ⟨rfl, s.length, ?_⟩, ?_⟩
  · rw [hJ]
    subst hD
    exact ⟨0, 0, rfl, rfl, ⟨Nat.zero_le _, rfl, by omega, rfl, hl⟩⟩
  intro m vs hp' hv
  rw [hJ] at hv
  unfold plainsJ at hv
  obtain ⟨i, I, rfl, rfl, V⟩ := hv
  cbv
  refine br hD (fun h => ?_) (fun h => ?_) <;> cbv
  · have hlt : i < s.length := by have := V.I; have h := of_decide_eq_true (p := I < (s.length : Int)) h
                                  omega
    clear h
    refine ⟨?_, fun c hc => ?_⟩
    · have := V.I; subst hD; exact ⟨by simp [dn]; omega, by simp [dn]; omega⟩
    have hc := charOf hD V.I hc
    have hb := hc.le
    cbv
    refine ⟨_, rfl, rfl, fun r hr => ?_⟩
    have hr2 : r = p c := by subst hD hp; exact hr
    clear hr
    cbv
    refine br hD (fun h => ?_) (fun h => ?_) <;> cbv
    · have h3 : r = false := by simpa [BT.den] using h
      refine finBool hD ?_
      rw [hk, all_no (p := p) hlt (by rw [← hc.h]; exact hr2.symm.trans h3)]
      rfl
    · have h3 : r = true := by simpa [BT.den] using h
      have hm := V.m
      refine ⟨s.length - (i + 1), by omega, ?_⟩
      rw [hJ]
      subst hD
      have hI := V.I
      have := V.len
      refine ⟨i + 1, _, rfl, rfl, ⟨by omega, ?_, fun q hq => ?_, rfl, hl⟩⟩
      · simp [dn]
        rw [wrap64 (by omega) (by omega)]
        omega
      · by_cases hqj : q = i
        · subst hqj
          rw [← hc.h]; exact hr2.symm.trans h3
        · exact V.all q (by omega)
  · have hi : i = s.length := by have := V.I; have := V.le; have h := of_decide_eq_false (p := I < (s.length : Int)) h
                                 omega
    clear h
    refine finBool hD ?_
    rw [hk, all_yes (p := p) (fun j hj => V.all j (by omega))]
    rfl
end Go.Proofs.YtfchfhjpldppjaaGreatDoor
namespace Go.Proofs.YtfchfhjpldppjaaGreatDoor
open Go.Sx
set_option maxRecDepth 10000
set_option maxHeartbeats 2000000
/-! ### a place in a string -/
structure At (s : List UInt8) (i : Nat) (I : Int) (m : Nat) : Prop where
  le : i ≤ s.length
  I : I = i
  m : m = s.length - i
  len : s.length ≤ 9223372036854775807
theorem At.zero {s : List UInt8} (h : s.length ≤ 9223372036854775807) : At s 0 0 s.length := ⟨Nat.zero_le _, rfl, by omega, h⟩
theorem drop_at {s : List UInt8} {i : Nat} (h : i < s.length) : s.drop i = s.getD i 0 :: s.drop (i + 1) := by
  rw [getD_lt h]; exact List.drop_eq_getElem_cons h
theorem At.lt {s : List UInt8} {i : Nat} {I : Int} {m : Nat} (V : At s i I m) (h : I < (s.length : Int)) : i < s.length := by have := V.I; omega
theorem At.eq {s : List UInt8} {i : Nat} {I : Int} {m : Nat} (V : At s i I m) (h : ¬ I < (s.length : Int)) : i = s.length := by have := V.I; have := V.le; omega
theorem At.inS {D : Dn} (hD : D = dn) {s : List UInt8} {i : Nat} {I : Int} {m : Nat} (V : At s i I m) (h : i < s.length) : InS (D.i (.a I)) s := by
  have := V.I; subst hD; exact ⟨by show 0 ≤ I; omega, by show I < s.length; omega⟩
/-- One further. -/
theorem At.step {D : Dn} (hD : D = dn) {s : List UInt8} {i : Nat} {I : Int} {m : Nat} (V : At s i I m) (h : i < s.length) : s.length - (i + 1) < m ∧ At s (i + 1) (D.i (.bin .add .i64 (.a I) (.l 1))) (s.length - (i + 1)) := by
  have h1 := V.I; have h2 := V.len; have h3 := V.m
  subst hD
  refine ⟨by omega, by omega, ?_, rfl, h2⟩
  show IntKind.i64.wrap (I + 1) = _
  rw [wrap64 (by omega) (by omega)]; omega
theorem CharAt.of {c : Int} {s : List UInt8} {i : Nat} (h : CharAt c s i) : ((s.getD i 0).toNat : Int) = c := h.h.symm
def lettersL : List UInt8 := [33, 35, 36, 37, 38, 39, 42, 43, 45, 46, 94, 95, 96, 124, 126]
def rangeI (c : Int) : Bool := ((decide (97 ≤ c) && decide (c ≤ 122)) || (decide (65 ≤ c) && decide (c ≤ 90))) || (decide (48 ≤ c) && decide (c ≤ 57))
def letterI (c : Int) : Bool := rangeI c || anyB (fun x => x == c) lettersL
theorem anyB_cons {p : Int → Bool} {s : List UInt8} {i : Nat} (h : i < s.length) : anyB p (s.drop i) = (p ((s.getD i 0).toNat : Int) || anyB p (s.drop (i + 1))) := by
  rw [drop_at h]; rfl
theorem anyB_end {p : Int → Bool} {s : List UInt8} {i : Nat} (h : i = s.length) : anyB p (s.drop i) = false := by
  rw [h, List.drop_length]; rfl
def letJ (c : Int) (k : Bool) (s : List UInt8) (m : Nat) (vs : List (Option SV)) (hp : List Hl) : Prop :=
  ∃ (i : Nat) (I : Int), vs = [some (.int .u8 (.a c)), some (.str s), some (.int .i64 (.a I))] ∧ hp = [] ∧ At s i I m ∧ k = anyB (fun x => x == c) (s.drop i)
def spLetter : FSpec := fun _ xs ls K => ∃ (c : Int), xs = [.int .u8 (.a c)] ∧ ls = [] ∧ ∀ r, r = letterI c → K (.bool (.a r)) []
theorem letter_ok : FnOk Tryz.prog gl 48 spLetter := by
  refine fnOk (gh := []) mixed cxOk tabNil Tryz.func48 (by kernel_rfl) (by kernel_rfl) ?_
  intro xs ls K h
  unfold spLetter at h
  obtain ⟨c, rfl, rfl, h⟩ := h
  obtain ⟨k, hk⟩ : ∃ k, k = letterI c := ⟨_, rfl⟩
  refine ⟨_, _, h k hk, fun D hD => ?_⟩
  clear h
  cbv
  refine br hD (fun h => ?_) (fun h => ?_) <;> cbv
  · refine finBool hD ?_
    have h2 : rangeI c = true := h
    rw [hk, letterI, h2]; rfl
  have hr : rangeI c = false := h
  clear h
  obtain ⟨J, hJ⟩ : ∃ J, J = letJ c k lettersL := ⟨_, rfl⟩
  refine ⟨[0, 3, 4], J, ⟨rfl, 15, ?_⟩, ?_⟩
  · rw [hJ]
    subst hD
    refine ⟨0, 0, rfl, rfl, At.zero (by decide), ?_⟩
    rw [hk, letterI, hr]; rfl
  intro m vs hp' hv
  rw [hJ] at hv
  unfold letJ at hv
  obtain ⟨i, I, rfl, rfl, V, hk2⟩ := hv
  clear hk
  obtain ⟨s, hs⟩ : ∃ s, s = lettersL := ⟨_, rfl⟩
  rw [← hs] at hk2 V hJ ⊢
  clear hs
  cbv
  refine br hD (fun h => ?_) (fun h => ?_) <;> cbv
  · have hlt := V.lt (of_decide_eq_true (p := I < (s.length : Int)) h)
    clear h
    refine ⟨V.inS hD hlt, fun b hc => ?_⟩
    have hc := charOf hD V.I hc
    rw [anyB_cons hlt, hc.of] at hk2
    cbv
    refine br hD (fun h => ?_) (fun h => ?_) <;> cbv
    · have h3 : (b == c) = true := h
      refine finBool hD ?_
      rw [hk2, h3]; rfl
    · have h3 : (b == c) = false := h
      refine ⟨_, (V.step hD hlt).1, ?_⟩
      rw [hJ]
      subst hD
      exact ⟨i + 1, _, rfl, rfl, (V.step rfl hlt).2, by rw [hk2, h3]; rfl⟩
  · have hi := V.eq (of_decide_eq_false (p := I < (s.length : Int)) h)
    refine finBool hD ?_
    rw [hk2, anyB_end hi]; rfl
end Go.Proofs.YtfchfhjpldppjaaGreatDoor
namespace Go.Proofs.YtfchfhjpldppjaaGreatDoor
open Go.Sx
set_option maxRecDepth 10000
set_option maxHeartbeats 2000000
def allI (p : Int → Bool) (s : List UInt8) : Bool := s.all fun c => p (c.toNat : Int)
theorem allI_cons {p : Int → Bool} {s : List UInt8} {i : Nat} (h : i < s.length) : allI p (s.drop i) = (p ((s.getD i 0).toNat : Int) && allI p (s.drop (i + 1))) := by
  rw [drop_at h]; rfl
theorem allI_end {p : Int → Bool} {s : List UInt8} {i : Nat} (h : i = s.length) : allI p (s.drop i) = true := by
  rw [h, List.drop_length]; rfl
def refTokenF (s : List UInt8) : Bool := !(decide ((s.length : Int) < 1) || decide (64 < (s.length : Int))) && allI letterI s
def spStrB (F : List UInt8 → Bool) : FSpec := fun _ xs ls K => ∃ (s : List UInt8), xs = [.str s] ∧ ls = [] ∧ s.length ≤ 9223372036854775807 ∧ ∀ r, r = F s → K (.bool (.a r)) []
def allJ1 (p : Int → Bool) (k : Bool) (s : List UInt8) (m : Nat) (vs : List (Option SV)) (hp : List Hl) : Prop :=
  ∃ (i : Nat) (I : Int), vs = [some (.str s), some (.int .i64 (.a I))] ∧ hp = [] ∧ At s i I m ∧ k = allI p (s.drop i)
theorem refToken_ok : FnOk Tryz.prog gl 17 (spStrB refTokenF) := by
  refine fnOk (gh := []) mixed cxOk (tabCons letter_ok tabNil) Tryz.func17 (by kernel_rfl) (by kernel_rfl) ?_
  intro xs ls K h
  unfold spStrB at h
  obtain ⟨s, rfl, rfl, hl, h⟩ := h
  obtain ⟨k, hk⟩ : ∃ k, k = refTokenF s := ⟨_, rfl⟩
  refine ⟨_, _, h k hk, fun D hD => ?_⟩
  clear h
  obtain ⟨p, hp⟩ : ∃ p, p = letterI := ⟨_, rfl⟩
  rw [refTokenF, ← hp] at hk
  cbv
  refine br hD (fun h => ?_) (fun h => ?_) <;> cbv
  · have h2 : (decide ((s.length : Int) < 1) || decide (64 < (s.length : Int))) = true := h
    rw [h2] at hk
    exact finBool hD hk.symm
  have h2 : (decide ((s.length : Int) < 1) || decide (64 < (s.length : Int))) = false := h
  rw [h2] at hk
  clear h h2
  obtain ⟨J, hJ⟩ : ∃ J, J = allJ1 p k s := ⟨_, rfl⟩
  refine ⟨[0, 3], J, ⟨rfl, s.length, ?_⟩, ?_⟩
  · rw [hJ]
    subst hD
    exact ⟨0, 0, rfl, rfl, At.zero hl, hk⟩
  intro m vs hp' hv
  rw [hJ] at hv
  unfold allJ1 at hv
  obtain ⟨i, I, rfl, rfl, V, hk2⟩ := hv
  clear hk
  cbv
  refine br hD (fun h => ?_) (fun h => ?_) <;> cbv
  · have hlt := V.lt (of_decide_eq_true (p := I < (s.length : Int)) h)
    clear h
    refine ⟨V.inS hD hlt, fun b hc => ?_⟩
    have hc := charOf hD V.I hc
    rw [allI_cons hlt, hc.of] at hk2
    cbv
    refine ⟨_, rfl, rfl, fun r hr => ?_⟩
    have hr2 : r = p b := by subst hD hp; exact hr
    clear hr
    rw [← hr2] at hk2
    cbv
    refine br hD (fun h => ?_) (fun h => ?_) <;> cbv
    · have h3 : r = false := by simpa [BT.den] using h
      rw [h3] at hk2
      exact finBool hD hk2.symm
    · have h3 : r = true := by simpa [BT.den] using h
      rw [h3] at hk2
      refine ⟨_, (V.step hD hlt).1, ?_⟩
      rw [hJ]
      subst hD
      exact ⟨i + 1, _, rfl, rfl, (V.step rfl hlt).2, hk2⟩
  · have hi := V.eq (of_decide_eq_false (p := I < (s.length : Int)) h)
    rw [allI_end hi] at hk2
    exact finBool hD hk2.symm
/-- A row of strings. -/
structure RowS (f : Nat → List SV) (n : Int) (a : List (List UInt8)) : Prop where
  n : n = a.length
  f : ∀ i, i < a.length → f i = [.str (a.getD i [])]
  len : a.length ≤ 9223372036854775807
structure AtR {α : Type} (s : List α) (i : Nat) (I : Int) (m : Nat) : Prop where
  le : i ≤ s.length
  I : I = i
  m : m = s.length - i
  len : s.length ≤ 9223372036854775807
theorem AtR.zero {α : Type} {s : List α} (h : s.length ≤ 9223372036854775807) : AtR s 0 0 s.length := ⟨Nat.zero_le _, rfl, by omega, h⟩
theorem AtR.lt {α : Type} {s : List α} {i : Nat} {I n : Int} {m : Nat} (V : AtR s i I m) (hn : n = s.length) (h : I < n) : i < s.length := by have := V.I; omega
theorem AtR.eq {α : Type} {s : List α} {i : Nat} {I n : Int} {m : Nat} (V : AtR s i I m) (hn : n = s.length) (h : ¬ I < n) : i = s.length := by have := V.I; have := V.le; omega
theorem AtR.inB {D : Dn} (hD : D = dn) {α : Type} {s : List α} {i : Nat} {I n : Int} {m : Nat} (V : AtR s i I m) (hn : n = s.length) (h : i < s.length) : InB (D.i (.a I)) (D.i (.a n)) := by
  have := V.I; subst hD; exact ⟨by show 0 ≤ I; omega, by show I < n; omega⟩
theorem AtR.step {D : Dn} (hD : D = dn) {α : Type} {s : List α} {i : Nat} {I : Int} {m : Nat} (V : AtR s i I m) (h : i < s.length) : s.length - (i + 1) < m ∧ AtR s (i + 1) (D.i (.bin .add .i64 (.a I) (.l 1))) (s.length - (i + 1)) := by
  have h1 := V.I; have h2 := V.len; have h3 := V.m
  subst hD
  refine ⟨by omega, by omega, ?_, rfl, h2⟩
  show IntKind.i64.wrap (I + 1) = _
  rw [wrap64 (by omega) (by omega)]; omega
theorem AtR.j {D : Dn} (hD : D = dn) {α : Type} {s : List α} {i j : Nat} {I : Int} {m : Nat} (V : AtR s i I m) (h : IsJ j (D.i (.a I))) : j = i := by
  have := isJ hD h; have := V.I; omega
theorem dropR {α : Type} {s : List α} {i : Nat} {d : α} (h : i < s.length) : s.drop i = s.getD i d :: s.drop (i + 1) := by
  rw [List.drop_eq_getElem_cons h, List.getD_eq_getElem?_getD, List.getElem?_eq_getElem h]; rfl
def strsJ (k : Bool) (a b : List (List UInt8)) (na nb : Bool) (A B : Int) (f g : Nat → List SV) (m : Nat) (vs : List (Option SV)) (hp : List Hl) : Prop :=
  ∃ (i : Nat) (I : Int), vs = [some (.sl (.a na) (.a A) 1 f), some (.sl (.a nb) (.a B) 1 g), some (.int .i64 (.a I))] ∧ hp = [] ∧ AtR a i I m ∧ k = (a.drop i == b.drop i)
def spStrings : FSpec := fun _ xs ls K => ∃ (a b : List (List UInt8)) (na nb : Bool) (A B : Int) (f g : Nat → List SV), xs = [.sl (.a na) (.a A) 1 f, .sl (.a nb) (.a B) 1 g] ∧ ls = [] ∧ RowS f A a ∧ RowS g B b ∧ ∀ r, r = (a == b) → K (.bool (.a r)) []
theorem strings_ok : FnOk Tryz.prog gl 24 spStrings := by
  refine fnOk (gh := []) mixed cxOk tabNil Tryz.func24 (by kernel_rfl) (by kernel_rfl) ?_
  intro xs ls K h
  unfold spStrings at h
  obtain ⟨a, b, na, nb, A, B, f, g, rfl, rfl, RA, RB, h⟩ := h
  obtain ⟨k, hk⟩ : ∃ k, k = (a == b) := ⟨_, rfl⟩
  refine ⟨_, _, h k hk, fun D hD => ?_⟩
  clear h
  cbv
  refine br hD (fun h => ?_) (fun h => ?_) <;> cbv
  · have h2 : A ≠ B := by simpa using h
    refine finBool hD ?_
    rw [hk]
    have h3 : a ≠ b := fun e => h2 (by rw [RA.n, RB.n, e])
    show false = _
    symm
    simpa using h3
  have h2 : A = B := by simpa using h
  have hlab : a.length = b.length := by have := RA.n; have := RB.n; omega
  clear h
  obtain ⟨J, hJ⟩ : ∃ J, J = strsJ k a b na nb A B f g := ⟨_, rfl⟩
  refine ⟨[0, 1, 5], J, ⟨rfl, a.length, ?_⟩, ?_⟩
  · rw [hJ]
    subst hD
    exact ⟨0, 0, rfl, rfl, AtR.zero RA.len, hk⟩
  intro m vs hp' hv
  rw [hJ] at hv
  unfold strsJ at hv
  obtain ⟨i, I, rfl, rfl, V, hk2⟩ := hv
  clear hk
  cbv
  refine br hD (fun h => ?_) (fun h => ?_) <;> cbv
  · have hlt := V.lt RA.n (of_decide_eq_true (p := I < A) h)
    clear h
    have hltb : i < b.length := by omega
    refine ⟨V.inB hD RA.n hlt, fun j hj => ?_⟩
    obtain rfl := V.j hD hj
    clear hj
    have e1 := RA.f j hlt
    have e2 := RB.f j hltb
    rw [dropR (d := []) hlt, dropR (d := []) hltb] at hk2
    obtain ⟨x, hx⟩ : ∃ x, x = a.getD j [] := ⟨_, rfl⟩
    obtain ⟨y, hy⟩ : ∃ y, y = b.getD j [] := ⟨_, rfl⟩
    rw [← hx] at e1 hk2
    rw [← hy] at e2 hk2
    cbv
    rw [e1]
    cbv
    refine ⟨?_, fun j' hj' => ?_⟩
    · have := V.I; have := RB.n; subst hD; exact ⟨by show 0 ≤ I; omega, by show I < B; omega⟩
    obtain rfl := V.j hD hj'
    clear hj'
    cbv
    rw [e2]
    cbv
    refine br hD (fun h => ?_) (fun h => ?_) <;> cbv
    · have h3 : x ≠ y := by simpa using h
      refine finBool hD ?_
      rw [hk2]
      show false = _
      symm
      simp [h3]
    · have h3 : x = y := by simpa using h
      refine ⟨_, (V.step hD hlt).1, ?_⟩
      rw [hJ]
      subst hD
      refine ⟨j' + 1, _, rfl, rfl, (V.step rfl hlt).2, ?_⟩
      rw [hk2, h3]
      simp
  · have hi := V.eq RA.n (of_decide_eq_false (p := I < A) h)
    refine finBool hD ?_
    rw [hk2, hi, List.drop_length, hlab, List.drop_length]; rfl
end Go.Proofs.YtfchfhjpldppjaaGreatDoor
namespace Go.Proofs.YtfchfhjpldppjaaGreatDoor
open Go.Sx
set_option maxRecDepth 10000
set_option maxHeartbeats 2000000
def foldI (c : Int) : Int := if 65 ≤ c ∧ c ≤ 90 then c + 32 else c
def foldB (b : UInt8) : UInt8 := if 65 ≤ b.toNat ∧ b.toNat ≤ 90 then b + 32 else b
def foldF (s : List UInt8) : List UInt8 := s.map foldB
theorem foldB_nat (b : UInt8) : ((foldB b).toNat : Int) = foldI (b.toNat : Int) := by
  unfold foldB foldI
  have := b.toNat_lt
  by_cases h : 65 ≤ b.toNat ∧ b.toNat ≤ 90
  · rw [if_pos h, if_pos (by omega)]
    rw [UInt8.toNat_add]
    simp; omega
  · rw [if_neg h, if_neg (by omega)]
structure FoldI (s : List UInt8) (f : Nat → List SV) (i : Nat) (L : Int) : Prop where
  L : L = s.length
  f : ∀ j, f j = [.int .u8 (.a (if j < i then foldI ((s.getD j 0).toNat : Int) else ((s.getD j 0).toNat : Int)))]
theorem FoldI.zero {s : List UInt8} {f : Nat → List SV} (h : f = byteRow s) : FoldI s f 0 s.length := by
  refine ⟨rfl, fun j => ?_⟩
  rw [h]; simp [byteRow]
theorem FoldI.same {s : List UInt8} {f : Nat → List SV} {i : Nat} {L : Int} (V : FoldI s f i L) (h : ¬ (65 ≤ ((s.getD i 0).toNat : Int) ∧ ((s.getD i 0).toNat : Int) ≤ 90)) : FoldI s f (i + 1) L := by
  refine ⟨V.L, fun j => ?_⟩
  rw [V.f j]
  by_cases e : j = i
  · subst e
    rw [if_neg (Nat.lt_irrefl _), if_pos (Nat.lt_succ_self _), foldI, if_neg h]
  · have : (j < i) = (j < i + 1) := by simp; omega
    simp only [this]
theorem FoldI.set {s : List UInt8} {f f' : Nat → List SV} {i : Nat} {L v : Int} (V : FoldI s f i L) (h : SetAt f' f i [.int .u8 (.a v)]) (hv : v = foldI ((s.getD i 0).toNat : Int)) : FoldI s f' (i + 1) L := by
  refine ⟨V.L, fun j => ?_⟩
  by_cases e : j = i
  · subst e
    rw [h.at_, if_pos (Nat.lt_succ_self _), hv]
  · rw [h.other j e, V.f j]
    have : (j < i) = (j < i + 1) := by simp; omega
    simp only [this]
theorem FoldI.byteRow {s : List UInt8} {f : Nat → List SV} {i : Nat} {L : Int} (V : FoldI s f i L) : ByteRow L f := by
  refine ⟨by have := V.L; omega, fun j _ => ⟨_, V.f j, ?_⟩⟩
  show 0 ≤ (if j < i then foldI ((s.getD j 0).toNat : Int) else ((s.getD j 0).toNat : Int)) ∧ (if j < i then foldI ((s.getD j 0).toNat : Int) else ((s.getD j 0).toNat : Int)) < 256
  have := (s.getD j 0).toNat_lt
  unfold foldI
  split
  · split <;> omega
  · omega
theorem FoldI.str {s r : List UInt8} {f : Nat → List SV} {i : Nat} {L : Int} (V : FoldI s f i L) (hi : i = s.length) (h : StrRow r L f) : r = foldF s := by
  have hl : r.length = s.length := by have := h.len; have := V.L; omega
  refine List.ext_getElem (by simp [foldF, hl]) fun j h1 h2 => ?_
  have hj : j < s.length := by omega
  have := h.row j _ (by rw [V.L]; omega) (V.f j)
  rw [if_pos (by omega), getD_lt h1, getD_lt hj] at this
  simp only [foldF, List.getElem_map]
  refine UInt8.toNat_inj.1 ?_
  have e2 := foldB_nat s[j]
  have e3 : ((r[j].toNat : Nat) : Int) = foldI (s[j].toNat : Int) := this
  omega
def spFold : FSpec := fun _ xs ls K => ∃ (s : List UInt8), xs = [.str s] ∧ ls = [] ∧ s.length ≤ 9223372036854775807 ∧ ∀ r, r = foldF s → K (.str r) []
def refFoldJ (s : List UInt8) (m : Nat) (vs : List (Option SV)) (hp : List Hl) : Prop :=
  ∃ (i : Nat) (I L : Int) (nl : Bool) (f : Nat → List SV), vs = [some (.osl (.a nl) (.a L) 0), some (.int .i64 (.a I))] ∧ hp = [.own 5 (.a L) 1 false f] ∧ At s i I m ∧ FoldI s f i L
theorem up8 : ∀ n : Fin 26, binDen .or .u8 (65 + (n.1 : Int)) 32 = 65 + (n.1 : Int) + 32 := by decide
theorem or8 {c : Int} (h1 : 65 ≤ c) (h2 : c ≤ 90) : binDen .or .u8 c 32 = c + 32 := by
  have := up8 ⟨(c - 65).toNat, by omega⟩
  have e : 65 + (((c - 65).toNat : Nat) : Int) = c := by omega
  simp only [e] at this
  exact this
theorem and_false {c : Int} (h : (decide (65 ≤ c) && decide (c ≤ 90)) = false) : ¬ (65 ≤ c ∧ c ≤ 90) := by simpa using h
theorem refFold_ok : FnOk Tryz.prog gl 19 spFold := by
  refine fnOk (gh := [(999983, [])]) mixed cxOk tabNil Tryz.func19 (by kernel_rfl) (by kernel_rfl) ?_
  intro xs ls K h
  unfold spFold at h
  obtain ⟨s, rfl, rfl, hl, h⟩ := h
  obtain ⟨k, hk⟩ : ∃ k, k = foldF s := ⟨_, rfl⟩
  refine ⟨_, _, h k hk, fun D hD => ?_⟩
  clear h
  cbv
  refine ⟨⟨hl⟩, fun f hf => ?_⟩
  cbv
  obtain ⟨J, hJ⟩ : ∃ J, J = refFoldJ s := ⟨_, rfl⟩
  refine ⟨[3, 4], J, ⟨rfl, s.length, ?_⟩, ?_⟩
  · rw [hJ]
    subst hD
    exact ⟨0, 0, _, _, f, rfl, rfl, At.zero hl, FoldI.zero hf.h⟩
  clear hf
  intro m vs hp' hv
  rw [hJ] at hv
  unfold refFoldJ at hv
  obtain ⟨i, I, L, nl, f, rfl, rfl, V, F⟩ := hv
  cbv
  refine br hD (fun h => ?_) (fun h => ?_) <;> cbv
  · have hlt := V.lt (by have h := of_decide_eq_true (p := I < L) h; have := F.L; omega)
    clear h
    refine ⟨⟨rfl⟩, ?_, fun j hj => ?_⟩
    · have := V.I; have := F.L; subst hD; exact ⟨by show 0 ≤ I; omega, by show I < L; omega⟩
    have hji : j = i := by have := isJ hD hj; have := V.I; omega
    subst hji
    clear hj
    obtain ⟨c, hc⟩ : ∃ c : Int, c = ((s.getD j 0).toNat : Int) := ⟨_, rfl⟩
    have hfj : f j = [.int .u8 (.a c)] := by rw [F.f j, if_neg (Nat.lt_irrefl _), hc]
    have hc : CharAt c s j := ⟨hc⟩
    have hb := hc.le
    cbv
    refine ⟨⟨rfl⟩, ?_, ?_⟩
    · have := V.I; have := F.L; subst hD; exact ⟨by show (j : Int) < L; omega⟩
    rw [hfj]
    cbv
    refine ⟨fun _ => ⟨rfl⟩, fun _ => ?_, fun j2 hj2 => ?_⟩
    · have := V.I; have := F.L; subst hD; exact ⟨by show 0 ≤ I; omega, by show I < L; omega⟩
    obtain ⟨c2, hc2⟩ : ∃ c2 : Int, f j2 = [.int .u8 (.a c2)] := ⟨_, F.f j2⟩
    refine ⟨fun _ => ⟨rfl⟩, fun hg => ?_, ?_⟩
    · have hji := isJ hD (hj2 hg); have := V.I; have := F.L; subst hD; exact ⟨by show (j2 : Int) < L; omega⟩
    rw [hc2]
    cbv
    refine br hD (fun h => ?_) (fun h => ?_) <;> cbv
    · have hcc : 65 ≤ c ∧ c2 ≤ 90 := by
        have h : (decide (65 ≤ c) && decide (c2 ≤ 90)) = true := h
        simpa using h
      have hj2' : j2 = j := by
        have := isJ hD (hj2 (by subst hD; show decide (65 ≤ c) = true; simpa using hcc.1)); have := V.I; omega
      rw [hj2', hfj] at hc2
      have hc2' : c = c2 := by simpa using hc2
      have h90 : c ≤ 90 := by omega
      clear hc2 hj2' hj2 h
      refine ⟨⟨rfl⟩, ?_, fun j3 hj3 => ?_⟩
      · have := V.I; have := F.L; subst hD; exact ⟨by show 0 ≤ I; omega, by show I < L; omega⟩
      have hj3' : j3 = j := by have := isJ hD hj3; have := V.I; omega
      clear hj3
      subst hj3'
      cbv
      refine ⟨⟨rfl⟩, ?_, ?_⟩
      · have := V.I; have := F.L; subst hD; exact ⟨by show (j3 : Int) < L; omega⟩
      rw [hfj]
      cbv
      refine ⟨⟨rfl⟩, ?_, fun j4 hj4 => ?_⟩
      · have := V.I; have := F.L; subst hD; exact ⟨by show 0 ≤ I; omega, by show I < L; omega⟩
      have hj4' : j4 = j3 := by have := isJ hD hj4; have := V.I; omega
      clear hj4
      subst hj4'
      cbv
      refine ⟨⟨rfl⟩, ?_, ?_⟩
      · have := V.I; have := F.L; subst hD; exact ⟨by show (j4 : Int) < L; omega⟩
      rw [hfj]
      cbv
      intro f' hf'
      cbv
      refine ⟨_, (V.step hD hlt).1, ?_⟩
      rw [hJ]
      subst hD
      refine ⟨j4 + 1, _, _, _, f', rfl, rfl, (V.step rfl hlt).2, F.set hf' ?_⟩
      rw [hc.of, foldI, if_pos ⟨hcc.1, h90⟩]
      show IntKind.u8.wrap (IntKind.u8.wrap (c + 97) - 65) = _
      rw [wrap8 (n := c + 97) (by omega) (by omega), wrap8 (by omega) (by omega)]
      omega
    · have hn : ¬ (65 ≤ ((s.getD j 0).toNat : Int) ∧ ((s.getD j 0).toNat : Int) ≤ 90) := by
        rw [hc.of]
        rintro ⟨h1, h2⟩
        have hj2' : j2 = j := by
          have := isJ hD (hj2 (by subst hD; show decide (65 ≤ c) = true; simpa using h1)); have := V.I; omega
        rw [hj2', hfj] at hc2
        have hc2' : c = c2 := by simpa using hc2
        have h3 : ¬ (65 ≤ c ∧ c2 ≤ 90) := by
          have h : (decide (65 ≤ c) && decide (c2 ≤ 90)) = false := h
          simpa using h
        exact h3 ⟨h1, by omega⟩
      refine ⟨_, (V.step hD hlt).1, ?_⟩
      rw [hJ]
      subst hD
      exact ⟨j + 1, _, _, _, f, rfl, rfl, (V.step rfl hlt).2, F.same hn⟩
  · have hi := V.eq (fun h' => by have h := of_decide_eq_false (p := I < L) h; have := F.L; omega)
    clear h
    refine ⟨⟨rfl⟩, by subst hD; exact F.byteRow, fun r hr => ?_⟩
    cbv
    have hr2 : r = k := by subst hD; rw [hk]; exact F.str hi hr
    rw [hr2]
    exact finV (LeV.refl _)
def foldJ (s : List UInt8) (m : Nat) (vs : List (Option SV)) (hp : List Hl) : Prop :=
  ∃ (i : Nat) (I L : Int) (nl : Bool) (f : Nat → List SV), vs = [some (.osl (.a nl) (.a L) 0), some (.osl (.a nl) (.a L) 0), some (.int .i64 (.a L)), some (.int .i64 (.a I))] ∧ hp = [.own 5 (.a L) 1 false f] ∧ At s i I m ∧ FoldI s f i L
theorem fold_ok : FnOk Tryz.prog gl 18 spFold := by
  refine fnOk (gh := [(999983, [])]) mixed cxOk tabNil Tryz.func18 (by kernel_rfl) (by kernel_rfl) ?_
  intro xs ls K h
  unfold spFold at h
  obtain ⟨s, rfl, rfl, hl, h⟩ := h
  obtain ⟨k, hk⟩ : ∃ k, k = foldF s := ⟨_, rfl⟩
  refine ⟨_, _, h k hk, fun D hD => ?_⟩
  clear h
  cbv
  refine ⟨⟨hl⟩, fun f hf => ?_⟩
  cbv
  obtain ⟨J, hJ⟩ : ∃ J, J = foldJ s := ⟨_, rfl⟩
  refine ⟨[3, 8, 9, 10], J, ⟨rfl, s.length, ?_⟩, ?_⟩
  · rw [hJ]
    subst hD
    exact ⟨0, 0, _, _, f, rfl, rfl, At.zero hl, FoldI.zero hf.h⟩
  clear hf
  intro m vs hp' hv
  rw [hJ] at hv
  unfold foldJ at hv
  obtain ⟨i, I, L, nl, f, rfl, rfl, V, F⟩ := hv
  cbv
  refine br hD (fun h => ?_) (fun h => ?_) <;> cbv
  · have hlt := V.lt (by have h := of_decide_eq_true (p := I < L) h; have := F.L; omega)
    clear h
    refine ⟨⟨rfl⟩, ?_, fun j hj => ?_⟩
    · have := V.I; have := F.L; subst hD; exact ⟨by show 0 ≤ I; omega, by show I < L; omega⟩
    have hji : j = i := by have := isJ hD hj; have := V.I; omega
    subst hji
    clear hj
    obtain ⟨c, hc⟩ : ∃ c : Int, c = ((s.getD j 0).toNat : Int) := ⟨_, rfl⟩
    have hfj : f j = [.int .u8 (.a c)] := by rw [F.f j, if_neg (Nat.lt_irrefl _), hc]
    have hc : CharAt c s j := ⟨hc⟩
    have hb := hc.le
    cbv
    refine ⟨⟨rfl⟩, ?_, ?_⟩
    · have := V.I; have := F.L; subst hD; exact ⟨by show (j : Int) < L; omega⟩
    rw [hfj]
    cbv
    refine br hD (fun h => ?_) (fun h => ?_) <;> cbv
    · have hcc : 65 ≤ c ∧ c ≤ 90 := by
        have h : (decide (65 ≤ c) && decide (c ≤ 90)) = true := h
        simpa using h
      clear h
      refine ⟨⟨rfl⟩, ?_, fun j3 hj3 => ?_⟩
      · have := V.I; have := F.L; subst hD; exact ⟨by show 0 ≤ I; omega, by show I < L; omega⟩
      have hj3' : j3 = j := by have := isJ hD hj3; have := V.I; omega
      clear hj3
      subst hj3'
      cbv
      refine ⟨⟨rfl⟩, ?_, ?_⟩
      · have := V.I; have := F.L; subst hD; exact ⟨by show (j3 : Int) < L; omega⟩
      rw [hfj]
      cbv
      intro f' hf'
      cbv
      refine ⟨_, (V.step hD hlt).1, ?_⟩
      rw [hJ]
      subst hD
      refine ⟨j3 + 1, _, _, _, f', rfl, rfl, (V.step rfl hlt).2, F.set hf' ?_⟩
      rw [hc.of, foldI, if_pos hcc]
      exact or8 hcc.1 hcc.2
    · have hn : ¬ (65 ≤ ((s.getD j 0).toNat : Int) ∧ ((s.getD j 0).toNat : Int) ≤ 90) := by
        rw [hc.of]
        exact and_false h
      refine ⟨_, (V.step hD hlt).1, ?_⟩
      rw [hJ]
      subst hD
      exact ⟨j + 1, _, _, _, f, rfl, rfl, (V.step rfl hlt).2, F.same hn⟩
  · have hi := V.eq (fun h' => by have h := of_decide_eq_false (p := I < L) h; have := F.L; omega)
    clear h
    refine ⟨⟨rfl⟩, by subst hD; exact F.byteRow, fun r hr => ?_⟩
    cbv
    have hr2 : r = k := by subst hD; rw [hk]; exact F.str hi hr
    rw [hr2]
    exact finV (LeV.refl _)
end Go.Proofs.YtfchfhjpldppjaaGreatDoor
namespace Go.Proofs.YtfchfhjpldppjaaGreatDoor
open Go.Sx
set_option maxRecDepth 10000
set_option maxHeartbeats 2000000
/-- What stands behind an opening quote: how many bytes, the closing one with them, and the text. -/
def qdF (p : Int → Bool) : List UInt8 → Option (Nat × List UInt8)
  | [] => none
  | c :: r =>
    if !p (c.toNat : Int) then none
    else if (c.toNat : Int) = 34 then some (1, [])
    else if (c.toNat : Int) = 92 then (match r with
      | [] => none
      | d :: r' => if !p (d.toNat : Int) then none else (qdF p r').map fun x => (x.1 + 2, d :: x.2))
    else (qdF p r).map fun x => (x.1 + 1, c :: x.2)
def charI (s : List UInt8) (i : Nat) : Int := ((s.getD i 0).toNat : Int)
theorem qdF_cons (p : Int → Bool) (c : UInt8) (r : List UInt8) : qdF p (c :: r) = (if !p (c.toNat : Int) then none
    else if (c.toNat : Int) = 34 then some (1, [])
    else if (c.toNat : Int) = 92 then (match r with
      | [] => none
      | d :: r' => if !p (d.toNat : Int) then none else (qdF p r').map fun x => (x.1 + 2, d :: x.2))
    else (qdF p r).map fun x => (x.1 + 1, c :: x.2)) := by rw [qdF.eq_def]
theorem qdF_bad {p : Int → Bool} {s : List UInt8} {i : Nat} (h : i < s.length) (hb : p (charI s i) = false) : qdF p (s.drop i) = none := by
  rw [drop_at h, qdF_cons]
  unfold charI at hb
  rw [hb]; rfl
theorem qdF_end {p : Int → Bool} {s : List UInt8} {i : Nat} (h : s.length ≤ i) : qdF p (s.drop i) = none := by
  rw [List.drop_eq_nil_of_le h]; rfl
theorem qdF_quote {p : Int → Bool} {s : List UInt8} {i : Nat} (h : i < s.length) (hb : p (charI s i) = true) (hq : charI s i = 34) : qdF p (s.drop i) = some (1, []) := by
  rw [drop_at h, qdF_cons]
  unfold charI at hb hq
  rw [hb, if_neg (by simp), if_pos hq]
theorem qdF_esc {p : Int → Bool} {s : List UInt8} {i : Nat} (h : i < s.length) (hb : p (charI s i) = true) (hq : charI s i = 92) (h2 : i + 1 < s.length) (hb2 : p (charI s (i + 1)) = true) : qdF p (s.drop i) = (qdF p (s.drop (i + 2))).map fun x => (x.1 + 2, s.getD (i + 1) 0 :: x.2) := by
  rw [drop_at h, drop_at h2, qdF_cons]
  unfold charI at hb hq hb2
  rw [hb, if_neg (by simp), if_neg (by omega), if_pos hq]
  simp only
  rw [hb2]
  simp
theorem qdF_esc0 {p : Int → Bool} {s : List UInt8} {i : Nat} (h : i < s.length) (hb : p (charI s i) = true) (hq : charI s i = 92) (h2 : ¬ (i + 1 < s.length ∧ p (charI s (i + 1)) = true)) : qdF p (s.drop i) = none := by
  by_cases h3 : i + 1 < s.length
  · have hb2 : p (charI s (i + 1)) = false := by simpa [h3] using h2
    rw [drop_at h, drop_at h3, qdF_cons]
    unfold charI at hb hq hb2
    rw [hb, if_neg (by simp), if_neg (by omega), if_pos hq]
    simp only
    rw [hb2]
    simp
  · rw [drop_at h, List.drop_eq_nil_of_le (by omega), qdF_cons]
    unfold charI at hb hq
    rw [hb, if_neg (by simp), if_neg (by omega), if_pos hq]
theorem qdF_more {p : Int → Bool} {s : List UInt8} {i : Nat} (h : i < s.length) (hb : p (charI s i) = true) (hq : charI s i ≠ 34) (hq2 : charI s i ≠ 92) : qdF p (s.drop i) = (qdF p (s.drop (i + 1))).map fun x => (x.1 + 1, s.getD i 0 :: x.2) := by
  rw [drop_at h, qdF_cons]
  unfold charI at hb hq hq2
  rw [hb, if_neg (by simp), if_neg hq, if_neg hq2]
def someI (c : Int) : Bool := !(kindI c == 0)
/-- Where the quoted string ends whose bytes up to i have been read; 0: nowhere. -/
def qAt (p : Int → Bool) (s : List UInt8) (i : Nat) : Int := match qdF p (s.drop (i + 1)) with
  | none => 0
  | some x => ((i + 1 + x.1 : Nat) : Int)
def quotedF (s : List UInt8) : Int := qAt someI s 0
theorem qAt_none {p : Int → Bool} {s : List UInt8} {i : Nat} (h : qdF p (s.drop (i + 1)) = none) : qAt p s i = 0 := by rw [qAt, h]
theorem qAt_quote {p : Int → Bool} {s : List UInt8} {i : Nat} (h : i + 1 < s.length) (hb : p (charI s (i + 1)) = true) (hq : charI s (i + 1) = 34) : qAt p s i = ((i + 2 : Nat) : Int) := by
  rw [qAt, qdF_quote h hb hq]; rfl
theorem qAt_esc {p : Int → Bool} {s : List UInt8} {i : Nat} (h : i + 1 < s.length) (hb : p (charI s (i + 1)) = true) (hq : charI s (i + 1) = 92) (h2 : i + 2 < s.length) (hb2 : p (charI s (i + 2)) = true) : qAt p s i = qAt p s (i + 2) := by
  rw [qAt, qdF_esc h hb hq h2 hb2, qAt]
  cases qdF p (s.drop (i + 1 + 2)) with
  | none => rfl
  | some x => simp only [Option.map_some]; congr 1; omega
theorem qAt_more {p : Int → Bool} {s : List UInt8} {i : Nat} (h : i + 1 < s.length) (hb : p (charI s (i + 1)) = true) (hq : charI s (i + 1) ≠ 34) (hq2 : charI s (i + 1) ≠ 92) : qAt p s i = qAt p s (i + 1) := by
  rw [qAt, qdF_more h hb hq hq2, qAt]
  cases qdF p (s.drop (i + 1 + 1)) with
  | none => rfl
  | some x => simp only [Option.map_some]; congr 1; omega
structure QI (s : List UInt8) (i : Nat) (I : Int) (m : Nat) : Prop where
  I : I = i
  lt : i < s.length ∨ i = 0
  m : m = s.length - i
  len : s.length ≤ 9223372036854775807
def quotedJ (s : List UInt8) (k : Int) (m : Nat) (vs : List (Option SV)) (hp : List Hl) : Prop :=
  ∃ (i : Nat) (I : Int), vs = [some (.str s), some (.int .i64 (.a I))] ∧ hp = [] ∧ QI s i I m ∧ k = qAt someI s i
def spStrI (F : List UInt8 → Int) : FSpec := fun _ xs ls K => ∃ (s : List UInt8), xs = [.str s] ∧ ls = [] ∧ s.length ≤ 9223372036854775807 ∧ ∀ r, r = F s → K (.int .i64 (.a r)) []
noncomputable def qPre : Code := match Tryz.f44.body with
  | some (.seq a (.scope _)) => a
  | _ => .skip
noncomputable def qScope : Code := match Tryz.f44.body with
  | some (.seq _ (.scope c)) => c
  | _ => .skip
noncomputable def qRest : Code := (findLabel qScope 0).getD .skip
theorem QI.one {s : List UInt8} {i : Nat} {I : Int} {m : Nat} (V : QI s i I m) : ST.den (.bin .add .i64 (.a I) (.l 1)) = ((i + 1 : Nat) : Int) := by
  have h1 := V.I; have h2 := V.len; have h3 := V.lt
  show IntKind.i64.wrap (I + 1) = _
  rw [wrap64 (by omega) (by omega)]; omega
theorem QI.two {s : List UInt8} {i : Nat} {I : Int} {m : Nat} (V : QI s i I m) (h : i + 1 < s.length) : ST.den (.bin .add .i64 (.bin .add .i64 (.a I) (.l 1)) (.l 1)) = ((i + 2 : Nat) : Int) := by
  have h0 := V.one; have h2 := V.len
  show IntKind.i64.wrap (ST.den (.bin .add .i64 (.a I) (.l 1)) + 1) = _
  rw [h0, wrap64 (by omega) (by omega)]; omega
theorem inS_of {s : List UInt8} {i : Nat} {e : ST} (he : e.den = (i : Int)) (h : i < s.length) : InS (dn.i e) s := ⟨by show 0 ≤ e.den; omega, by show e.den < s.length; omega⟩
theorem byteAt {D : Dn} (hD : D = dn) {c : Int} {s : List UInt8} {i : Nat} {e : ST} (he : e.den = (i : Int)) (h : ByteOf c s (D.i e)) : CharAt c s i := by
  subst hD
  refine ⟨?_⟩
  have h := h.h
  have e2 : dn.i e = (i : Int) := he
  rw [e2] at h
  rw [h, Int.toNat_natCast]
theorem CharAt.charI {c : Int} {s : List UInt8} {i : Nat} (h : CharAt c s i) : c = charI s i := h.h
theorem qd_stop {c : Int} {s : List UInt8} {i : Nat} (hc : CharAt c s i) (h : (decide ((s.length : Int) ≤ ((i : Nat) : Int)) || kindI c == 0) = true) : qdF someI (s.drop i) = none := by
  by_cases hlt : i < s.length
  · refine qdF_bad hlt ?_
    rw [← hc.charI, someI]
    have : ¬ ((s.length : Int) ≤ (i : Int)) := by omega
    simp [this] at h
    simp [h]
  · exact qdF_end (by omega)
theorem qd_stop2 {c : Int} {s : List UInt8} {i : Nat} (hc : CharAt c s i) (h : (decide ((s.length : Int) ≤ ((i : Nat) : Int)) || kindI c == 0) = true) : ¬ (i < s.length ∧ someI (charI s i) = true) := by
  rintro ⟨h1, h2⟩
  rw [← hc.charI, someI] at h2
  have : ¬ ((s.length : Int) ≤ (i : Int)) := by omega
  simp [this] at h
  simp [h] at h2
theorem qd_go {c : Int} {s : List UInt8} {i : Nat} (hc : CharAt c s i) (h : (decide ((s.length : Int) ≤ ((i : Nat) : Int)) || kindI c == 0) = false) : i < s.length ∧ someI (charI s i) = true := by
  rw [← hc.charI, someI]
  simp at h
  refine ⟨by omega, ?_⟩
  simp [h.2]
theorem quoted_ok : FnOk Tryz.prog gl 44 (spStrI quotedF) := by
  refine fnOkJ (gh := []) mixed cxOk (tabCons kind_ok tabNil) Tryz.func44 (l := 0) (pre := qPre) (c := qScope) (rest := qRest) (by kernel_rfl) (by kernel_rfl) (by kernel_rfl) ?_
  intro xs ls K h
  unfold spStrI at h
  obtain ⟨s, rfl, rfl, hl, h⟩ := h
  obtain ⟨k, hk⟩ : ∃ k, k = quotedF s := ⟨_, rfl⟩
  refine ⟨_, _, h k hk, fun D hD => ?_⟩
  clear h
  rw [quotedF] at hk
  obtain ⟨J, hJ⟩ : ∃ J, J = quotedJ s k := ⟨_, rfl⟩
  refine ⟨[0, 3], J, ?_, ?_⟩
  · cbv
    have V : QI s 0 0 s.length := ⟨rfl, .inr rfl, rfl, hl⟩
    have hk2 := hk
    have hE1 : ST.den (.l 1) = ((0 + 1 : Nat) : Int) := rfl
    refine ⟨fun hg => ?_, fun c hc => ?_⟩
    · subst hD; exact inS_of hE1 (by have hg : (!decide ((s.length : Int) ≤ ST.den (.l 1))) = true := hg; rw [hE1] at hg; simp only [Bool.not_eq_true', decide_eq_false_iff_not] at hg; omega)
    have hc2 := byteAt hD hE1 hc
    clear hc
    cbv
    refine ⟨_, rfl, rfl, by subst hD; exact hc2.le, fun r hr => ?_⟩
    have hr2 : r = kindI c := by subst hD; exact hr
    clear hr
    cbv
    refine br hD (fun h => ?_) (fun h => ?_) <;> cbv
    · have h : (decide ((s.length : Int) ≤ ST.den (.l 1)) || r == 0) = true := h
      rw [hE1, hr2] at h
      refine finInt hD ?_
      rw [hk2, qAt_none (qd_stop hc2 h)]
      rfl
    have h : (decide ((s.length : Int) ≤ ST.den (.l 1)) || r == 0) = false := h
    rw [hE1, hr2] at h
    obtain ⟨hlt, hp⟩ := qd_go hc2 h
    clear h
    refine ⟨by subst hD; exact inS_of hE1 hlt, fun c' hc' => ?_⟩
    have hcc : c' = c := by have := byteAt hD hE1 hc'; rw [this.h, hc2.h]
    subst hcc
    clear hc'
    cbv
    refine br hD (fun h => ?_) (fun h => ?_) <;> cbv
    · have h34 : c' = 34 := by have h : (c' == 34) = true := h; simpa using h
      refine finInt hD ?_
      rw [hk2, qAt_quote hlt hp (by rw [← hc2.charI]; exact h34)]
      exact rfl
    have h34 : charI s (0 + 1) ≠ 34 := by rw [← hc2.charI]; have h : (c' == 34) = false := h; simpa using h
    clear h
    refine br hD (fun h => ?_) (fun h => ?_) <;> cbv
    · have h92 : charI s (0 + 1) = 92 := by rw [← hc2.charI]; have h : (c' == 92) = true := h; simpa using h
      clear h
      have hE2' : ST.den (.l 2) = ((0 + 2 : Nat) : Int) := rfl
      refine ⟨fun hg => ?_, fun d hd => ?_⟩
      · subst hD; exact inS_of hE2' (by have hg : (!decide ((s.length : Int) ≤ ST.den (.l 2))) = true := hg; rw [hE2'] at hg; simp only [Bool.not_eq_true', decide_eq_false_iff_not] at hg; omega)
      have hd2 := byteAt hD hE2' hd
      clear hd
      cbv
      refine ⟨_, rfl, rfl, by subst hD; exact hd2.le, fun q hq => ?_⟩
      have hq2 : q = kindI d := by subst hD; exact hq
      clear hq
      cbv
      refine br hD (fun h => ?_) (fun h => ?_) <;> cbv
      · have h : (decide ((s.length : Int) ≤ ST.den (.l 2)) || q == 0) = true := h
        rw [hE2', hq2] at h
        refine finInt hD ?_
        rw [hk2, qAt_none (qdF_esc0 hlt hp h92 (qd_stop2 hd2 h))]
        rfl
      have h : (decide ((s.length : Int) ≤ ST.den (.l 2)) || q == 0) = false := h
      rw [hE2', hq2] at h
      obtain ⟨hlt2, hp2⟩ := qd_go hd2 h
      refine ⟨s.length - (0 + 2), ?_⟩
      rw [hJ]
      subst hD
      exact ⟨0 + 2, _, rfl, rfl, ⟨hE2', .inl hlt2, rfl, hl⟩, by rw [hk2, qAt_esc hlt hp h92 hlt2 hp2]⟩
    · have h92 : charI s (0 + 1) ≠ 92 := by rw [← hc2.charI]; have h : (c' == 92) = false := h; simpa using h
      refine ⟨s.length - (0 + 1), ?_⟩
      rw [hJ]
      subst hD
      exact ⟨0 + 1, _, rfl, rfl, ⟨hE1, .inl hlt, rfl, hl⟩, by rw [hk2, qAt_more hlt hp h34 h92]⟩
  · intro m vs hp' hv
    rw [hJ] at hv
    unfold quotedJ at hv
    obtain ⟨i, I, hvs, hhp, V, hk2⟩ := hv
    rw [hvs, hhp]
    clear hvs hhp vs hp' hk
    cbv
    have hE1 : ST.den (.bin .add .i64 (.a I) (.l 1)) = ((i + 1 : Nat) : Int) := V.one
    refine ⟨fun hg => ?_, fun c hc => ?_⟩
    · subst hD; exact inS_of hE1 (by have hg : (!decide ((s.length : Int) ≤ ST.den (.bin .add .i64 (.a I) (.l 1)))) = true := hg; rw [hE1] at hg; simp only [Bool.not_eq_true', decide_eq_false_iff_not] at hg; omega)
    have hc2 := byteAt hD hE1 hc
    clear hc
    cbv
    refine ⟨_, rfl, rfl, by subst hD; exact hc2.le, fun r hr => ?_⟩
    have hr2 : r = kindI c := by subst hD; exact hr
    clear hr
    cbv
    refine br hD (fun h => ?_) (fun h => ?_) <;> cbv
    · have h : (decide ((s.length : Int) ≤ ST.den (.bin .add .i64 (.a I) (.l 1))) || r == 0) = true := h
      rw [hE1, hr2] at h
      refine finInt hD ?_
      rw [hk2, qAt_none (qd_stop hc2 h)]
      rfl
    have h : (decide ((s.length : Int) ≤ ST.den (.bin .add .i64 (.a I) (.l 1))) || r == 0) = false := h
    rw [hE1, hr2] at h
    obtain ⟨hlt, hp⟩ := qd_go hc2 h
    clear h
    refine ⟨by subst hD; exact inS_of hE1 hlt, fun c' hc' => ?_⟩
    have hcc : c' = c := by have := byteAt hD hE1 hc'; rw [this.h, hc2.h]
    subst hcc
    clear hc'
    cbv
    refine br hD (fun h => ?_) (fun h => ?_) <;> cbv
    · have h34 : c' = 34 := by have h : (c' == 34) = true := h; simpa using h
      refine finInt hD ?_
      rw [hk2, qAt_quote hlt hp (by rw [← hc2.charI]; exact h34)]
      exact V.two hlt
    have h34 : charI s (i + 1) ≠ 34 := by rw [← hc2.charI]; have h : (c' == 34) = false := h; simpa using h
    clear h
    refine br hD (fun h => ?_) (fun h => ?_) <;> cbv
    · have h92 : charI s (i + 1) = 92 := by rw [← hc2.charI]; have h : (c' == 92) = true := h; simpa using h
      clear h
      have hE2' : ST.den (.bin .add .i64 (.bin .add .i64 (.a I) (.l 1)) (.l 1)) = ((i + 2 : Nat) : Int) := V.two hlt
      refine ⟨fun hg => ?_, fun d hd => ?_⟩
      · subst hD; exact inS_of hE2' (by have hg : (!decide ((s.length : Int) ≤ ST.den (.bin .add .i64 (.bin .add .i64 (.a I) (.l 1)) (.l 1)))) = true := hg; rw [hE2'] at hg; simp only [Bool.not_eq_true', decide_eq_false_iff_not] at hg; omega)
      have hd2 := byteAt hD hE2' hd
      clear hd
      cbv
      refine ⟨_, rfl, rfl, by subst hD; exact hd2.le, fun q hq => ?_⟩
      have hq2 : q = kindI d := by subst hD; exact hq
      clear hq
      cbv
      refine br hD (fun h => ?_) (fun h => ?_) <;> cbv
      · have h : (decide ((s.length : Int) ≤ ST.den (.bin .add .i64 (.bin .add .i64 (.a I) (.l 1)) (.l 1))) || q == 0) = true := h
        rw [hE2', hq2] at h
        refine finInt hD ?_
        rw [hk2, qAt_none (qdF_esc0 hlt hp h92 (qd_stop2 hd2 h))]
        rfl
      have h : (decide ((s.length : Int) ≤ ST.den (.bin .add .i64 (.bin .add .i64 (.a I) (.l 1)) (.l 1))) || q == 0) = false := h
      rw [hE2', hq2] at h
      obtain ⟨hlt2, hp2⟩ := qd_go hd2 h
      refine ⟨s.length - (i + 2), by have := V.m; omega, ?_⟩
      rw [hJ]
      subst hD
      exact ⟨i + 2, _, rfl, rfl, ⟨hE2', .inl hlt2, rfl, hl⟩, by rw [hk2, qAt_esc hlt hp h92 hlt2 hp2]⟩
    · have h92 : charI s (i + 1) ≠ 92 := by rw [← hc2.charI]; have h : (c' == 92) = false := h; simpa using h
      refine ⟨s.length - (i + 1), by have := V.m; omega, ?_⟩
      rw [hJ]
      subst hD
      exact ⟨i + 1, _, rfl, rfl, ⟨hE1, .inl hlt, rfl, hl⟩, by rw [hk2, qAt_more hlt hp h34 h92]⟩
end Go.Proofs.YtfchfhjpldppjaaGreatDoor
namespace Go.Proofs.YtfchfhjpldppjaaGreatDoor
open Go.Sx
set_option maxRecDepth 10000
set_option maxHeartbeats 2000000
def qRes (t s : List UInt8) (i : Nat) : Int × List UInt8 × Bool := match qdF plainI (s.drop i) with
  | none => (0, [], false)
  | some x => (((i + x.1 : Nat) : Int), t ++ x.2, true)
def refQuotedF (s : List UInt8) (j : Nat) : Int × List UInt8 × Bool := qRes [] s (j + 1)
theorem qRes_none {t s : List UInt8} {i : Nat} (h : qdF plainI (s.drop i) = none) : qRes t s i = (0, [], false) := by rw [qRes, h]
theorem qRes_quote {t s : List UInt8} {i : Nat} (h : i < s.length) (hb : plainI (charI s i) = true) (hq : charI s i = 34) : qRes t s i = (((i + 1 : Nat) : Int), t, true) := by
  rw [qRes, qdF_quote h hb hq]; simp
theorem qRes_esc {t s : List UInt8} {i : Nat} (h : i < s.length) (hb : plainI (charI s i) = true) (hq : charI s i = 92) (h2 : i + 1 < s.length) (hb2 : plainI (charI s (i + 1)) = true) : qRes t s i = qRes (t ++ [s.getD (i + 1) 0]) s (i + 2) := by
  rw [qRes, qdF_esc h hb hq h2 hb2, qRes]
  cases qdF plainI (s.drop (i + 2)) with
  | none => rfl
  | some x =>
    simp only [Option.map_some, List.append_assoc, List.singleton_append]
    congr 2; omega
theorem qRes_more {t s : List UInt8} {i : Nat} (h : i < s.length) (hb : plainI (charI s i) = true) (hq : charI s i ≠ 34) (hq2 : charI s i ≠ 92) : qRes t s i = qRes (t ++ [s.getD i 0]) s (i + 1) := by
  rw [qRes, qdF_more h hb hq hq2, qRes]
  cases qdF plainI (s.drop (i + 1)) with
  | none => rfl
  | some x =>
    simp only [Option.map_some, List.append_assoc, List.singleton_append]
    congr 2; omega
structure RqI (s t : List UInt8) (i : Nat) (I : Int) (m : Nat) : Prop where
  at_ : At s i I m
  t : t.length ≤ i
theorem At.one {s : List UInt8} {i : Nat} {I : Int} {m : Nat} (V : At s i I m) (h : i < s.length) : ST.den (.bin .add .i64 (.a I) (.l 1)) = ((i + 1 : Nat) : Int) := by
  have h1 := V.I; have h2 := V.len
  show IntKind.i64.wrap (I + 1) = _
  rw [wrap64 (by omega) (by omega)]; omega
theorem At.two {s : List UInt8} {i : Nat} {I : Int} {m : Nat} (V : At s i I m) (h : i + 1 < s.length) : ST.den (.bin .add .i64 (.bin .add .i64 (.a I) (.l 1)) (.l 1)) = ((i + 2 : Nat) : Int) := by
  have h0 := V.one (by omega); have h2 := V.len
  show IntKind.i64.wrap (ST.den (.bin .add .i64 (.a I) (.l 1)) + 1) = _
  rw [h0, wrap64 (by omega) (by omega)]; omega
theorem At.den {s : List UInt8} {i : Nat} {I : Int} {m : Nat} (V : At s i I m) : ST.den (.a I) = (i : Int) := V.I
/-- One byte as a string. -/
theorem sub_one {D : Dn} (hD : D = dn) {r s : List UInt8} {i : Nat} {a b : ST} (ha : a.den = (i : Int)) (hb : b.den = ((i + 1 : Nat) : Int)) (h : i < s.length) (hr : SubOf r s (D.i a) (D.i b)) : r = [s.getD i 0] := by
  subst hD
  have hr := hr.h
  have e1 : dn.i a = (i : Int) := ha
  have e2 : dn.i b = ((i + 1 : Nat) : Int) := hb
  rw [hr, e1, e2, Int.toNat_natCast, Int.toNat_natCast, drop_at h]
  simp
theorem subS_of {s : List UInt8} {i j : Nat} {a b : ST} (ha : a.den = (i : Int)) (hb : b.den = (j : Int)) (h : i ≤ j) (h2 : j ≤ s.length) : SubS (dn.i a) (dn.i b) s := ⟨by show 0 ≤ a.den; omega, by show a.den ≤ b.den; omega, by show b.den ≤ _; omega⟩
theorem qd_goP {c : Int} {s : List UInt8} {i : Nat} (hc : CharAt c s i) {r : Bool} (hr : r = plainI c) (h : r = true) : plainI (charI s i) = true := by rw [← hc.charI, ← hr, h]
def rqJ (s : List UInt8) (k : Int × List UInt8 × Bool) (m : Nat) (vs : List (Option SV)) (hp : List Hl) : Prop :=
  ∃ (i : Nat) (I : Int) (t : List UInt8), vs = [some (.str s), some (.str t), some (.int .i64 (.a I))] ∧ hp = [] ∧ RqI s t i I m ∧ k = qRes t s i
def spRq : FSpec := fun _ xs ls K => ∃ (s : List UInt8) (j : Nat) (I : Int), xs = [.str s, .int .i64 (.a I)] ∧ ls = [] ∧ At s j I (s.length - j) ∧ j < s.length ∧ ∀ e t b, (e, t, b) = refQuotedF s j → K (.tup [.int .i64 (.a e), .str t, .bool (.a b)]) []
theorem finRq {D : Dn} (hD : D = dn) {e : Int} {x : ST} {t u : List UInt8} {b : Bool} {y : BT} (h1 : x.den = e) (h2 : t = u) (h3 : y.den = b) : Fin (.tup [.int .i64 (.a (D.i x)), .str t, .bool (.a (D.b y))]) (.tup [.int .i64 (.a e), .str u, .bool (.a b)]) [] [] := by
  subst hD h1 h2 h3; exact finV (LeV.refl _)
theorem refQuoted_ok : FnOk Tryz.prog gl 46 spRq := by
  refine fnOk (gh := []) mixed cxOk (tabCons plain_ok tabNil) Tryz.func46 (by kernel_rfl) (by kernel_rfl) ?_
  intro xs ls K h
  unfold spRq at h
  obtain ⟨s, j0, I0, rfl, rfl, V0, hj0, h⟩ := h
  obtain ⟨k, hk⟩ : ∃ k, k = refQuotedF s j0 := ⟨_, rfl⟩
  obtain ⟨ke, kt, kb⟩ := k
  refine ⟨_, _, h ke kt kb hk, fun D hD => ?_⟩
  clear h
  rw [refQuotedF] at hk
  cbv
  obtain ⟨J, hJ⟩ : ∃ J, J = rqJ s (ke, kt, kb) := ⟨_, rfl⟩
  refine ⟨[0, 7, 8], J, ⟨rfl, s.length - (j0 + 1), ?_⟩, ?_⟩
  · rw [hJ]
    subst hD
    exact ⟨j0 + 1, _, [], rfl, rfl, ⟨(V0.step rfl hj0).2, Nat.zero_le _⟩, hk⟩
  intro m vs hp' hv
  rw [hJ] at hv
  unfold rqJ at hv
  obtain ⟨i, I, t, rfl, rfl, V, hk2⟩ := hv
  clear hk
  cbv
  refine ⟨fun hg => ?_, fun c hc => ?_⟩
  · subst hD; exact inS_of V.at_.den (by have hg : decide (I < (s.length : Int)) = true := hg; have := V.at_.I; simp only [decide_eq_true_eq] at hg; omega)
  have hc2 := byteAt hD V.at_.den hc
  clear hc
  cbv
  refine ⟨_, rfl, rfl, fun r hr => ?_⟩
  have hr2 : r = plainI c := by subst hD; exact hr
  clear hr
  cbv
  refine br hD (fun h => ?_) (fun h => ?_) <;> cbv
  · have h : (decide (I < (s.length : Int)) && r) = true := h
    have hlt : i < s.length := by
      have := V.at_.I
      simp only [Bool.and_eq_true, decide_eq_true_eq] at h
      omega
    have hp := qd_goP hc2 hr2 (by simp only [Bool.and_eq_true] at h; exact h.2)
    clear h
    refine ⟨by subst hD; exact inS_of V.at_.den hlt, fun c' hc' => ?_⟩
    have hcc : c' = c := by have := byteAt hD V.at_.den hc'; rw [this.h, hc2.h]
    subst hcc
    clear hc'
    cbv
    refine br hD (fun h => ?_) (fun h => ?_) <;> cbv
    · have h34 : c' = 34 := by have h : (c' == 34) = true := h; simpa using h
      rw [qRes_quote hlt hp (by rw [← hc2.charI]; exact h34)] at hk2
      simp only [Prod.mk.injEq] at hk2
      obtain ⟨e1, e2, e3⟩ := hk2
      exact finRq hD (by rw [e1]; exact V.at_.one hlt) e2.symm e3.symm
    have h34 : charI s i ≠ 34 := by rw [← hc2.charI]; have h : (c' == 34) = false := h; simpa using h
    clear h
    refine ⟨by subst hD; exact inS_of V.at_.den hlt, fun c3 hc3 => ?_⟩
    have hcc : c3 = c' := by have := byteAt hD V.at_.den hc3; rw [this.h, hc2.h]
    subst hcc
    clear hc3
    cbv
    refine br hD (fun h => ?_) (fun h => ?_) <;> cbv
    · have h92 : charI s i = 92 := by rw [← hc2.charI]; have h : (c3 == 92) = true := h; simpa using h
      clear h
      refine ⟨fun hg => ?_, fun d hd => ?_⟩
      · subst hD; exact inS_of (V.at_.one hlt) (by
          have hg : (!(ST.den (.bin .add .i64 (.a I) (.l 1)) == (s.length : Int))) = true := hg
          rw [V.at_.one hlt] at hg
          simp only [Bool.not_eq_true', beq_eq_false_iff_ne, ne_eq] at hg
          omega)
      have hd2 := byteAt hD (V.at_.one hlt) hd
      clear hd
      cbv
      refine ⟨_, rfl, rfl, fun q hq => ?_⟩
      have hq2 : q = plainI d := by subst hD; exact hq
      clear hq
      cbv
      refine br hD (fun h => ?_) (fun h => ?_) <;> cbv
      · have h : ((ST.den (.bin .add .i64 (.a I) (.l 1)) == (s.length : Int)) || !q) = true := h
        rw [V.at_.one hlt] at h
        rw [qRes_none (qdF_esc0 hlt hp h92 (by
          rintro ⟨h1, h2⟩
          rw [← hd2.charI, ← hq2] at h2
          simp only [h2, Bool.not_true, Bool.or_false, beq_iff_eq] at h
          omega))] at hk2
        simp only [Prod.mk.injEq] at hk2
        obtain ⟨e1, e2, e3⟩ := hk2
        exact finRq hD (by rw [e1]; rfl) e2.symm e3.symm
      have h : ((ST.den (.bin .add .i64 (.a I) (.l 1)) == (s.length : Int)) || !q) = false := h
      rw [V.at_.one hlt] at h
      simp only [Bool.or_eq_false_iff, beq_eq_false_iff_ne, ne_eq, Bool.not_eq_false'] at h
      have hlt2 : i + 1 < s.length := by omega
      have hp2 := qd_goP hd2 hq2 h.2
      clear h
      have hE3 := V.at_.two hlt2
      refine ⟨by subst hD; exact subS_of (V.at_.one hlt) hE3 (by omega) (by omega), fun r1 hr1 => ?_⟩
      have hr1' := sub_one hD (V.at_.one hlt) hE3 hlt2 hr1
      clear hr1
      cbv
      refine ⟨⟨?_⟩, fun r3 hr3 => ?_⟩
      · have := V.t; have := V.at_.len; rw [hr1']; simp only [List.length_singleton]; omega
      have hr3' : r3 = t ++ [s.getD (i + 1) 0] := by rw [hr3.h, hr1']
      clear hr3
      cbv
      refine ⟨s.length - (i + 2), by have := V.at_.m; omega, ?_⟩
      rw [hJ]
      subst hD
      refine ⟨i + 2, _, r3, rfl, rfl, ⟨⟨by omega, V.at_.two hlt2, rfl, V.at_.len⟩, ?_⟩, ?_⟩
      · have := V.t; rw [hr3']; simp only [List.length_append, List.length_singleton]; omega
      · rw [hk2, qRes_esc hlt hp h92 hlt2 hp2, hr3']
    · have h92 : charI s i ≠ 92 := by rw [← hc2.charI]; have h : (c3 == 92) = false := h; simpa using h
      clear h
      refine ⟨by subst hD; exact subS_of V.at_.den (V.at_.one hlt) (by omega) (by omega), fun r1 hr1 => ?_⟩
      have hr1' := sub_one hD V.at_.den (V.at_.one hlt) hlt hr1
      clear hr1
      cbv
      refine ⟨⟨?_⟩, fun r3 hr3 => ?_⟩
      · have := V.t; have := V.at_.len; rw [hr1']; simp only [List.length_singleton]; omega
      have hr3' : r3 = t ++ [s.getD i 0] := by rw [hr3.h, hr1']
      clear hr3
      cbv
      refine ⟨s.length - (i + 1), by have := V.at_.m; omega, ?_⟩
      rw [hJ]
      subst hD
      refine ⟨i + 1, _, r3, rfl, rfl, ⟨(V.at_.step rfl hlt).2, ?_⟩, ?_⟩
      · have := V.t; rw [hr3']; simp only [List.length_append, List.length_singleton]; omega
      · rw [hk2, qRes_more hlt hp h34 h92, hr3']
  · have h : (decide (I < (s.length : Int)) && r) = false := h
    rw [qRes_none (by
      by_cases hlt : i < s.length
      · refine qdF_bad hlt ?_
        rw [← hc2.charI, ← hr2]
        have := V.at_.I
        have e : decide (I < (s.length : Int)) = true := by simp only [decide_eq_true_eq]; omega
        rw [e] at h; simpa using h
      · exact qdF_end (by omega))] at hk2
    simp only [Prod.mk.injEq] at hk2
    obtain ⟨e1, e2, e3⟩ := hk2
    exact finRq hD (by rw [e1]; rfl) e2.symm e3.symm
end Go.Proofs.YtfchfhjpldppjaaGreatDoor
namespace Go.Proofs.YtfchfhjpldppjaaGreatDoor
open Go.Sx
set_option maxRecDepth 10000
set_option maxHeartbeats 2000000
def escB (c : UInt8) : List UInt8 := if (c.toNat : Int) = 34 ∨ (c.toNat : Int) = 92 then [92, c] else [c]
def escF (s : List UInt8) : List UInt8 := s.flatMap escB
theorem escF_cons {s : List UInt8} {i : Nat} (h : i < s.length) : escF (s.drop i) = escB (s.getD i 0) ++ escF (s.drop (i + 1)) := by
  rw [drop_at h]; rfl
theorem escF_end {s : List UInt8} {i : Nat} (h : i = s.length) : escF (s.drop i) = [] := by
  rw [h, List.drop_length]; rfl
theorem escB_yes {s : List UInt8} {i : Nat} (h : charI s i = 34 ∨ charI s i = 92) : escB (s.getD i 0) = [92, s.getD i 0] := if_pos h
theorem escB_no {s : List UInt8} {i : Nat} (h : ¬ (charI s i = 34 ∨ charI s i = 92)) : escB (s.getD i 0) = [s.getD i 0] := if_neg h
def refQuoteF (s : List UInt8) : List UInt8 × Int :=
  if 500 < (s.length : Int) then ([], 3) else if !plainsF s then ([], 6) else if refTokenF s then (s, 0) else ([34] ++ escF s ++ [34], 0)
def spStrSE (F : List UInt8 → List UInt8 × Int) : FSpec := fun _ xs ls K => ∃ (s : List UInt8), xs = [.str s] ∧ ls = [] ∧ s.length ≤ 9223372036854775807 ∧ ∀ t e, (t, e) = F s → K (.tup [.str t, .int .i64 (.a e)]) []
theorem finSE {D : Dn} (hD : D = dn) {e : Int} {x : ST} {t u : List UInt8} (h : (u, e) = (t, x.den)) : Fin (.tup [.str t, .int .i64 (.a (D.i x))]) (.tup [.str u, .int .i64 (.a e)]) [] [] := by
  subst hD
  simp only [Prod.mk.injEq] at h
  obtain ⟨rfl, rfl⟩ := h
  exact finV (LeV.refl _)
structure QuI (s t : List UInt8) (i : Nat) (I : Int) (m : Nat) : Prop where
  at_ : At s i I m
  t : t.length ≤ 2 * i + 1
  s : s.length ≤ 500
def quJ (s : List UInt8) (k : List UInt8) (m : Nat) (vs : List (Option SV)) (hp : List Hl) : Prop :=
  ∃ (i : Nat) (I : Int) (t : List UInt8), vs = [some (.str s), some (.str t), some (.int .i64 (.a I))] ∧ hp = [] ∧ QuI s t i I m ∧ k = t ++ escF (s.drop i) ++ [34]
theorem refQuote_ok : FnOk Tryz.prog gl 13 (spStrSE refQuoteF) := by
  refine fnOk (gh := []) mixed cxOk (tabCons plains_ok (tabCons refToken_ok tabNil)) Tryz.func13 (by kernel_rfl) (by kernel_rfl) ?_
  intro xs ls K h
  unfold spStrSE at h
  obtain ⟨s, rfl, rfl, hl, h⟩ := h
  obtain ⟨k, hk⟩ : ∃ k, k = refQuoteF s := ⟨_, rfl⟩
  obtain ⟨kt, ke⟩ := k
  refine ⟨_, _, h kt ke hk, fun D hD => ?_⟩
  clear h
  rw [refQuoteF] at hk
  cbv
  refine br hD (fun h => ?_) (fun h => ?_) <;> cbv
  · have h : decide (500 < (s.length : Int)) = true := h
    rw [if_pos (by simpa using h)] at hk
    exact finSE hD hk
  have h5 : ¬ (500 < (s.length : Int)) := by have h : decide (500 < (s.length : Int)) = false := h; simpa using h
  rw [if_neg h5] at hk
  have hs5 : s.length ≤ 500 := by omega
  clear h
  refine ⟨_, rfl, rfl, hl, fun r hr => ?_⟩
  have hr2 : r = plainsF s := by subst hD; exact hr
  clear hr
  rw [← hr2] at hk
  cbv
  refine br hD (fun h => ?_) (fun h => ?_) <;> cbv
  · have h : (!r) = true := h
    rw [if_pos h] at hk
    exact finSE hD hk
  have h : (!r) = false := h
  rw [if_neg (by rw [h]; simp)] at hk
  clear h hr2
  refine ⟨_, rfl, rfl, hl, fun q hq => ?_⟩
  have hq2 : q = refTokenF s := by subst hD; exact hq
  clear hq
  rw [← hq2] at hk
  cbv
  refine br hD (fun h => ?_) (fun h => ?_) <;> cbv
  · have h : q = true := h
    rw [if_pos h] at hk
    exact finSE hD hk
  have h : q = false := h
  rw [if_neg (by rw [h]; simp)] at hk
  simp only [Prod.mk.injEq] at hk
  obtain ⟨hk, hke⟩ := hk
  clear h hq2
  obtain ⟨J, hJ⟩ : ∃ J, J = quJ s kt := ⟨_, rfl⟩
  refine ⟨[0, 4, 5], J, ⟨rfl, s.length, ?_⟩, ?_⟩
  · rw [hJ]
    subst hD
    exact ⟨0, 0, [34], rfl, rfl, ⟨At.zero hl, by simp, hs5⟩, hk⟩
  intro m vs hp' hv
  rw [hJ] at hv
  unfold quJ at hv
  obtain ⟨i, I, t, rfl, rfl, V, hk2⟩ := hv
  clear hk h5
  cbv
  refine br hD (fun h => ?_) (fun h => ?_) <;> cbv
  · have hlt := V.at_.lt (of_decide_eq_true (p := I < (s.length : Int)) h)
    clear h
    refine ⟨V.at_.inS hD hlt, fun c hc => ?_⟩
    have hc2 := byteAt hD V.at_.den hc
    clear hc
    cbv
    refine ⟨fun _ => V.at_.inS hD hlt, fun d hd => ?_⟩
    have hd2 := byteAt hD V.at_.den hd
    clear hd
    obtain rfl : d = c := by rw [hd2.h, hc2.h]
    cbv
    have tail : ∀ (u : List UInt8), u.length ≤ 2 * i + 2 → kt = u ++ [s.getD i 0] ++ escF (s.drop (i + 1)) ++ [34] → ∀ r3, CatOf r3 u [s.getD i 0] → QuI s r3 (i + 1) (D.i (.bin .add .i64 (.a I) (.l 1))) (s.length - (i + 1)) ∧ kt = r3 ++ escF (s.drop (i + 1)) ++ [34] := by
      intro u hu hk3 r3 hr3
      rw [hr3.h]
      exact ⟨⟨(V.at_.step hD hlt).2, by simp only [List.length_append, List.length_singleton]; omega, V.s⟩, hk3⟩
    rw [escF_cons hlt] at hk2
    refine br hD (fun h => ?_) (fun h => ?_) <;> cbv
    · have h : (d == 34 || d == 92) = true := h
      rw [escB_yes (by rw [← hc2.charI]; simpa using h)] at hk2
      clear h
      refine ⟨⟨?_⟩, fun r1 hr1 => ?_⟩
      · have := V.t; have := V.s; simp only [List.length_singleton]; omega
      have hr1' : r1 = t ++ [92] := hr1.h
      clear hr1
      cbv
      refine ⟨by subst hD; exact subS_of V.at_.den (V.at_.one hlt) (by omega) (by omega), fun r2 hr2 => ?_⟩
      have hr2' := sub_one hD V.at_.den (V.at_.one hlt) hlt hr2
      clear hr2
      cbv
      refine ⟨⟨?_⟩, fun r3 hr3 => ?_⟩
      · have := V.t; have := V.s; rw [hr1', hr2']; simp only [List.length_append, List.length_singleton]; omega
      rw [hr2'] at hr3
      obtain ⟨t1, t2⟩ := tail r1 (by have := V.t; rw [hr1']; simp only [List.length_append, List.length_singleton]; omega) (by rw [hr1', hk2]; simp) r3 hr3
      cbv
      refine ⟨_, (V.at_.step hD hlt).1, ?_⟩
      rw [hJ]
      subst hD
      exact ⟨i + 1, _, r3, rfl, rfl, t1, t2⟩
    · have h : (d == 34 || d == 92) = false := h
      rw [escB_no (by rw [← hc2.charI]; simpa using h)] at hk2
      clear h
      refine ⟨by subst hD; exact subS_of V.at_.den (V.at_.one hlt) (by omega) (by omega), fun r2 hr2 => ?_⟩
      have hr2' := sub_one hD V.at_.den (V.at_.one hlt) hlt hr2
      clear hr2
      cbv
      refine ⟨⟨?_⟩, fun r3 hr3 => ?_⟩
      · have := V.t; have := V.s; rw [hr2']; simp only [List.length_singleton]; omega
      rw [hr2'] at hr3
      obtain ⟨t1, t2⟩ := tail t (by have := V.t; omega) (by rw [hk2]; simp) r3 hr3
      cbv
      refine ⟨_, (V.at_.step hD hlt).1, ?_⟩
      rw [hJ]
      subst hD
      exact ⟨i + 1, _, r3, rfl, rfl, t1, t2⟩
  · have hi := V.at_.eq (of_decide_eq_false (p := I < (s.length : Int)) h)
    rw [escF_end hi, List.append_nil] at hk2
    clear h
    refine ⟨⟨?_⟩, fun r1 hr1 => ?_⟩
    · have := V.t; have := V.s; simp only [List.length_singleton]; omega
    have hr1' : r1 = t ++ [34] := hr1.h
    clear hr1
    cbv
    exact finSE hD (by rw [hr1', ← hk2, hke]; rfl)
def refUnquoteF (s : List UInt8) : List UInt8 × Int :=
  if refTokenF s then (s, 0) else if s.length = 0 ∨ charI s 0 ≠ 34 then ([], 6)
  else if (refQuotedF s 0).2.2 = false ∨ (refQuotedF s 0).1 ≠ s.length then ([], 6)
  else if 500 < (((refQuotedF s 0).2.1.length : Nat) : Int) then ([], 3) else ((refQuotedF s 0).2.1, 0)
theorem refUnquote_ok : FnOk Tryz.prog gl 15 (spStrSE refUnquoteF) := by
  refine fnOk (gh := []) mixed cxOk (tabCons refToken_ok (tabCons refQuoted_ok tabNil)) Tryz.func15 (by kernel_rfl) (by kernel_rfl) ?_
  intro xs ls K h
  unfold spStrSE at h
  obtain ⟨s, rfl, rfl, hl, h⟩ := h
  obtain ⟨k, hk⟩ : ∃ k, k = refUnquoteF s := ⟨_, rfl⟩
  obtain ⟨kt, ke⟩ := k
  refine ⟨_, _, h kt ke hk, fun D hD => ?_⟩
  clear h
  rw [refUnquoteF] at hk
  cbv
  refine ⟨_, rfl, rfl, hl, fun q hq => ?_⟩
  have hq2 : q = refTokenF s := by subst hD; exact hq
  clear hq
  rw [← hq2] at hk
  cbv
  refine br hD (fun h => ?_) (fun h => ?_) <;> cbv
  · have h : q = true := h
    rw [if_pos h] at hk
    exact finSE hD hk
  have h : q = false := h
  rw [if_neg (by rw [h]; simp)] at hk
  clear h hq2
  refine ⟨fun hg => ?_, fun c hc => ?_⟩
  · subst hD
    have hg : (!((s.length : Int) == 0)) = true := hg
    simp only [Bool.not_eq_true', beq_eq_false_iff_ne, ne_eq] at hg
    exact inS_of (e := .l 0) (i := 0) rfl (by omega)
  have hc2 := byteAt (e := .l 0) (i := 0) hD rfl hc
  clear hc
  cbv
  refine br hD (fun h => ?_) (fun h => ?_) <;> cbv
  · have h : (((s.length : Int) == 0) || c != 34) = true := h
    rw [if_pos (by rw [← hc2.charI]; simpa using h)] at hk
    exact finSE hD hk
  have h : (((s.length : Int) == 0) || c != 34) = false := h
  have h0 : 0 < s.length := by
    simp only [Bool.or_eq_false_iff, beq_eq_false_iff_ne, ne_eq] at h
    have := h.1
    omega
  rw [if_neg (by
    rw [← hc2.charI]
    rintro (h1 | h1)
    · omega
    · simp [h1] at h)] at hk
  clear h
  refine ⟨s, 0, _, rfl, rfl, by subst hD; exact At.zero hl, h0, fun e t b he => ?_⟩
  rw [← he] at hk
  simp only at hk
  clear he
  cbv
  refine br hD (fun h => ?_) (fun h => ?_) <;> cbv
  · have h : ((!b) || e != (s.length : Int)) = true := h
    rw [if_pos (by simpa using h)] at hk
    exact finSE hD hk
  have h : ((!b) || e != (s.length : Int)) = false := h
  rw [if_neg (by
    simp only [Bool.or_eq_false_iff, Bool.not_eq_false'] at h
    rintro (h1 | h1)
    · rw [h.1] at h1; cases h1
    · have := h.2; simp [h1] at this)] at hk
  clear h
  refine br hD (fun h => ?_) (fun h => ?_) <;> cbv
  · have h : decide (500 < (t.length : Int)) = true := h
    rw [if_pos (by simpa using h)] at hk
    exact finSE hD hk
  · have h : decide (500 < (t.length : Int)) = false := h
    rw [if_neg (by simpa using h)] at hk
    exact finSE hD hk
end Go.Proofs.YtfchfhjpldppjaaGreatDoor
namespace Go.Proofs.YtfchfhjpldppjaaGreatDoor
open Go.Sx
set_option maxRecDepth 10000
set_option maxHeartbeats 2000000
def blankI (c : Int) : Bool := c == 9 || c == 32
def spPredAll (p : Int → Bool) : FSpec := fun _ xs ls K => ∃ (c : Int), xs = [.int .u8 (.a c)] ∧ ls = [] ∧ ∀ r, r = p c → K (.bool (.a r)) []
theorem blank_ok : FnOk Tryz.prog gl 81 (spPredAll blankI) := by
  refine fnOk (gh := []) mixed cxOk tabNil Tryz.func81 (by kernel_rfl) (by kernel_rfl) ?_
  intro xs ls K h
  unfold spPredAll at h
  obtain ⟨c, rfl, rfl, h⟩ := h
  obtain ⟨k, hk⟩ : ∃ k, k = blankI c := ⟨_, rfl⟩
  refine ⟨_, _, h k hk, fun D hD => ?_⟩
  clear h
  cbv
  exact finBool hD hk.symm
def blankB (c : UInt8) : Bool := blankI (c.toNat : Int)
def trimL (s : List UInt8) : List UInt8 := s.dropWhile blankB
def trimR (s : List UInt8) : List UInt8 := (s.reverse.dropWhile blankB).reverse
def trimF (s : List UInt8) : List UInt8 := trimR (trimL s)
theorem trimL_cons {c : UInt8} {r : List UInt8} (h : blankB c = true) : trimL (c :: r) = trimL r := by
  rw [trimL, List.dropWhile_cons_of_pos h]; rfl
theorem trimL_stop {s : List UInt8} (h : s = [] ∨ blankI (charI s 0) = false) : trimL s = s := by
  rcases h with rfl | h
  · rfl
  · cases s with
    | nil => rfl
    | cons c r => exact List.dropWhile_cons_of_neg (by rw [show blankB c = false from h]; simp)
theorem trimR_snoc {c : UInt8} {r : List UInt8} (h : blankB c = true) : trimR (r ++ [c]) = trimR r := by
  rw [trimR, List.reverse_append, List.reverse_singleton, List.singleton_append, List.dropWhile_cons_of_pos h]; rfl
theorem trimR_stop {s : List UInt8} (h : s = [] ∨ blankI (charI s (s.length - 1)) = false) : trimR s = s := by
  rcases h with rfl | h
  · rfl
  · rcases List.eq_nil_or_concat s with rfl | ⟨r, c, rfl⟩
    · rfl
    · have : charI (r ++ [c]) ((r ++ [c]).length - 1) = (c.toNat : Int) := by simp [charI]
      rw [List.concat_eq_append] at *
      rw [this] at h
      rw [trimR, List.reverse_append, List.reverse_singleton, List.singleton_append, List.dropWhile_cons_of_neg (by rw [show blankB c = false from h]; simp)]
      simp
theorem drop1 {s : List UInt8} (h : 0 < s.length) : s = s.getD 0 0 :: s.drop 1 := by
  have := drop_at (i := 0) h
  simpa using this
theorem take_last {s : List UInt8} (h : 0 < s.length) : s = s.take (s.length - 1) ++ [s.getD (s.length - 1) 0] := by
  rw [getD_lt (show s.length - 1 < s.length by omega)]
  conv => lhs; rw [← List.take_append_drop (s.length - 1) s]
  congr 1
  rw [List.drop_eq_getElem_cons (by omega), show s.length - 1 + 1 = s.length by omega, List.drop_length]
theorem sub_of {D : Dn} (hD : D = dn) {r s : List UInt8} {i j : Nat} {a b : ST} (ha : a.den = (i : Int)) (hb : b.den = (j : Int)) (hr : SubOf r s (D.i a) (D.i b)) : r = (s.drop i).take (j - i) := by
  subst hD
  have hr := hr.h
  have e1 : dn.i a = (i : Int) := ha
  have e2 : dn.i b = (j : Int) := hb
  rw [hr, e1, e2, Int.toNat_natCast, Int.toNat_natCast]
structure TrI (s : List UInt8) (m : Nat) : Prop where
  m : m = s.length
  len : s.length ≤ 9223372036854775807
def trJ (F : List UInt8 → List UInt8) (k : List UInt8) (m : Nat) (vs : List (Option SV)) (hp : List Hl) : Prop :=
  ∃ (s : List UInt8), vs = [some (.str s)] ∧ hp = [] ∧ TrI s m ∧ k = F s
def spStrS (F : List UInt8 → List UInt8) : FSpec := fun _ xs ls K => ∃ (s : List UInt8), xs = [.str s] ∧ ls = [] ∧ s.length ≤ 9223372036854775807 ∧ ∀ r, r = F s → K (.str r) []
theorem finStr {r k : List UInt8} (h : r = k) : Fin (.str r) (.str k) [] [] := by subst h; exact finV (LeV.refl _)
theorem refTrim_ok : FnOk Tryz.prog gl 53 (spStrS trimF) := by
  refine fnOk (gh := []) mixed cxOk (tabCons blank_ok tabNil) Tryz.func53 (by kernel_rfl) (by kernel_rfl) ?_
  intro xs ls K h
  unfold spStrS at h
  obtain ⟨s0, rfl, rfl, hl, h⟩ := h
  obtain ⟨k, hk⟩ : ∃ k, k = trimF s0 := ⟨_, rfl⟩
  refine ⟨_, _, h k hk, fun D hD => ?_⟩
  clear h
  cbv
  obtain ⟨J, hJ⟩ : ∃ J, J = trJ trimF k := ⟨_, rfl⟩
  refine ⟨[0], J, ⟨rfl, s0.length, ?_⟩, ?_⟩
  · rw [hJ]
    subst hD
    exact ⟨s0, rfl, rfl, ⟨rfl, hl⟩, hk⟩
  clear hk hl
  intro m vs hp' hv
  rw [hJ] at hv
  unfold trJ at hv
  obtain ⟨s, rfl, rfl, V, hk⟩ := hv
  cbv
  refine ⟨fun hg => ?_, fun c hc => ?_⟩
  · subst hD
    have hg : decide (0 < (s.length : Int)) = true := hg
    simp only [decide_eq_true_eq] at hg
    exact inS_of (e := .l 0) (i := 0) rfl (by omega)
  have hc2 := byteAt (e := .l 0) (i := 0) hD rfl hc
  clear hc
  cbv
  refine ⟨_, rfl, rfl, fun q hq => ?_⟩
  have hq2 : q = blankI c := by subst hD; exact hq
  clear hq
  cbv
  refine br hD (fun h => ?_) (fun h => ?_) <;> cbv
  · have h : (decide (0 < (s.length : Int)) && q) = true := h
    simp only [Bool.and_eq_true, decide_eq_true_eq] at h
    have h0 : 0 < s.length := by have := h.1; omega
    have hb : blankB (s.getD 0 0) = true := by rw [blankB, hc2.of, ← hq2]; exact h.2
    clear h
    refine ⟨by subst hD; exact subS_of (i := 1) (j := s.length) (a := .l 1) (b := .len s) rfl rfl (by omega) (by omega), fun r hr => ?_⟩
    have hr2 : r = s.drop 1 := by
      rw [sub_of (i := 1) (j := s.length) hD rfl rfl hr]
      exact List.take_of_length_le (by simp)
    clear hr
    cbv
    refine ⟨s.length - 1, by have := V.m; omega, ?_⟩
    rw [hJ]
    subst hD
    refine ⟨r, rfl, rfl, ⟨by rw [hr2]; simp, by rw [hr2]; have := V.len; simp; omega⟩, ?_⟩
    rw [hk, trimF, drop1 h0, trimL_cons hb, hr2]; rfl
  have h : (decide (0 < (s.length : Int)) && q) = false := h
  have hk3 : k = trimR s := by
    rw [hk, trimF, trimL_stop]
    by_cases h0 : 0 < s.length
    · right
      rw [← hc2.charI, ← hq2]
      have e : decide (0 < (s.length : Int)) = true := by simp only [decide_eq_true_eq]; omega
      rw [e] at h; simpa using h
    · left; exact List.eq_nil_of_length_eq_zero (by omega)
  clear hk h hc2 hq2 hJ J
  obtain ⟨J, hJ⟩ : ∃ J, J = trJ trimR k := ⟨_, rfl⟩
  refine ⟨[0], J, ⟨rfl, s.length, ?_⟩, ?_⟩
  · rw [hJ]
    subst hD
    exact ⟨s, rfl, rfl, ⟨rfl, V.len⟩, hk3⟩
  clear hk3 V
  intro m vs hp' hv
  rw [hJ] at hv
  unfold trJ at hv
  obtain ⟨s, rfl, rfl, V, hk⟩ := hv
  have hE : 0 < s.length → ST.den (.bin .sub .i64 (.len s) (.l 1)) = ((s.length - 1 : Nat) : Int) := by
    intro h0
    have := V.len
    show IntKind.i64.wrap ((s.length : Int) - 1) = _
    rw [wrap64 (by omega) (by omega)]; omega
  cbv
  refine ⟨fun hg => ?_, fun c hc => ?_⟩
  · subst hD
    have hg : decide (0 < (s.length : Int)) = true := hg
    simp only [decide_eq_true_eq] at hg
    exact inS_of (i := s.length - 1) (hE (by omega)) (by omega)
  by_cases h0 : 0 < s.length
  · have hc2 := byteAt (i := s.length - 1) hD (hE h0) hc
    clear hc
    cbv
    refine ⟨_, rfl, rfl, fun q hq => ?_⟩
    have hq2 : q = blankI c := by subst hD; exact hq
    clear hq
    cbv
    refine br hD (fun h => ?_) (fun h => ?_) <;> cbv
    · have h : (decide (0 < (s.length : Int)) && q) = true := h
      simp only [Bool.and_eq_true, decide_eq_true_eq] at h
      have hb : blankB (s.getD (s.length - 1) 0) = true := by rw [blankB, hc2.of, ← hq2]; exact h.2
      clear h
      have hE2 := hE h0
      refine ⟨by subst hD; exact subS_of (i := 0) (j := s.length - 1) (a := .l 0) rfl hE2 (by omega) (by omega), fun r hr => ?_⟩
      have hr2 : r = s.take (s.length - 1) := by
        rw [sub_of (i := 0) (j := s.length - 1) hD rfl hE2 hr]; rfl
      clear hr
      cbv
      refine ⟨s.length - 1, by have := V.m; omega, ?_⟩
      rw [hJ]
      subst hD
      refine ⟨r, rfl, rfl, ⟨by rw [hr2]; simp, by rw [hr2]; have := V.len; simp; omega⟩, ?_⟩
      rw [hk, take_last h0, trimR_snoc hb, hr2]
    · have h : (decide (0 < (s.length : Int)) && q) = false := h
      refine finStr ?_
      rw [hk, trimR_stop]
      right
      rw [← hc2.charI, ← hq2]
      have e : decide (0 < (s.length : Int)) = true := by simp only [decide_eq_true_eq]; omega
      rw [e] at h; simpa using h
  · have hs : s = [] := List.eq_nil_of_length_eq_zero (by omega)
    subst hs
    clear hc hE
    cbv
    refine ⟨_, rfl, rfl, fun q hq => ?_⟩
    cbv
    refine br hD (fun h => ?_) (fun h => ?_) <;> cbv
    · have h : (decide ((0 : Int) < 0) && q) = true := h
      simp at h
    · refine finStr ?_
      rw [hk]; rfl
end Go.Proofs.YtfchfhjpldppjaaGreatDoor
namespace Go.Proofs.YtfchfhjpldppjaaGreatDoor
open Go.Sx
set_option maxRecDepth 10000
set_option maxHeartbeats 2000000
/-- What stands between separators that are in no quoted strings. The mode: 0 outside, 1 in quotes, 2 behind a backslash. -/
def partsM (p : Int → Bool) (y : Int) : List UInt8 → Nat → List UInt8 → Option (List (List UInt8))
  | [], md, cur => if md = 0 then some [cur] else none
  | c :: r, md, cur =>
    if !p (c.toNat : Int) then none
    else if md = 0 then
      (if (c.toNat : Int) = 34 then partsM p y r 1 (cur ++ [c])
       else if (c.toNat : Int) = y then (partsM p y r 0 []).map (cur :: ·)
       else partsM p y r 0 (cur ++ [c]))
    else if md = 1 then
      (if (c.toNat : Int) = 34 then partsM p y r 0 (cur ++ [c])
       else if (c.toNat : Int) = 92 then partsM p y r 2 (cur ++ [c])
       else partsM p y r 1 (cur ++ [c]))
    else partsM p y r 1 (cur ++ [c])
theorem partsM_q (p : Int → Bool) (y : Int) : ∀ (n : Nat) (r cur : List UInt8), r.length ≤ n → partsM p y r 1 cur = match qdF p r with
    | none => none
    | some x => partsM p y (r.drop x.1) 0 (cur ++ r.take x.1)
  | n, [], cur, _ => by simp [partsM, qdF]
  | 0, c :: r, cur, h => by simp at h
  | n + 1, c :: r, cur, h => by
    simp only [List.length_cons] at h
    rw [qdF_cons]
    simp only [partsM]
    by_cases h1 : p (c.toNat : Int) = true
    · rw [h1]
      simp only [Bool.not_true, Bool.false_eq_true, if_false, if_true, Nat.one_ne_zero]
      by_cases h2 : (c.toNat : Int) = 34
      · simp only [if_pos h2, List.drop_succ_cons, List.drop_zero, List.take_succ_cons, List.take_zero]
      · simp only [if_neg h2]
        by_cases h3 : (c.toNat : Int) = 92
        · simp only [if_pos h3]
          cases r with
          | nil => simp [partsM]
          | cons d r' =>
            simp only [partsM]
            by_cases h4 : p (d.toNat : Int) = true
            · rw [h4]
              simp only [Bool.not_true, Bool.false_eq_true, if_false, (by decide : ¬ (2 : Nat) = 0), (by decide : ¬ (2 : Nat) = 1)]
              rw [partsM_q p y n r' _ (by simp at h; omega)]
              cases qdF p r' with
              | none => rfl
              | some x => simp
            · have h4 : p (d.toNat : Int) = false := by simpa using h4
              rw [h4]; simp
        · simp only [if_neg h3]
          rw [partsM_q p y n r _ (by omega)]
          cases qdF p r with
          | none => rfl
          | some x => simp
    · have h1 : p (c.toNat : Int) = false := by simpa using h1
      rw [h1]; simp
/-- The bytes from one place to another. -/
def cut (s : List UInt8) (a b : Nat) : List UInt8 := (s.drop a).take (b - a)
theorem cut_snoc {s : List UInt8} {a i : Nat} (h : i < s.length) (ha : a ≤ i) : cut s a i ++ [s.getD i 0] = cut s a (i + 1) := by
  unfold cut
  rw [show i + 1 - a = (i - a) + 1 by omega, List.take_add_one]
  congr 1
  rw [List.getElem?_drop, show a + (i - a) = i by omega, List.getElem?_eq_getElem h, getD_lt h]; rfl
theorem cut_app {s : List UInt8} {a i n : Nat} (ha : a ≤ i) : cut s a i ++ (s.drop i).take n = cut s a (i + n) := by
  unfold cut
  rw [show i + n - a = (i - a) + n by omega, List.take_add, List.drop_drop, show a + (i - a) = i by omega]
theorem cut_self {s : List UInt8} {a : Nat} : cut s a a = [] := by simp [cut]
theorem cut_all {s : List UInt8} {a : Nat} : cut s a s.length = s.drop a := by
  unfold cut; exact List.take_of_length_le (by simp)
def pAt (y : Int) (s : List UInt8) (out : List (List UInt8)) (a i : Nat) : Option (List (List UInt8)) := (partsM plainI y (s.drop i) 0 (cut s a i)).map (out ++ ·)
theorem pAt_bad {y : Int} {s : List UInt8} {out : List (List UInt8)} {a i : Nat} (h : i < s.length) (hb : plainI (charI s i) = false) : pAt y s out a i = none := by
  unfold charI at hb
  rw [pAt, drop_at h, partsM, hb]; rfl
theorem pAt_sep {y : Int} {s : List UInt8} {out : List (List UInt8)} {a i : Nat} (h : i < s.length) (hb : plainI (charI s i) = true) (h34 : charI s i ≠ 34) (hy : charI s i = y) : pAt y s out a i = pAt y s (out ++ [cut s a i]) (i + 1) (i + 1) := by
  unfold charI at hb h34 hy
  rw [pAt, pAt, drop_at h, partsM, hb, cut_self]
  simp only [Bool.not_true, Bool.false_eq_true, if_false, if_true, if_neg h34, if_pos hy]
  cases partsM plainI y (s.drop (i + 1)) 0 [] <;> simp
theorem pAt_more {y : Int} {s : List UInt8} {out : List (List UInt8)} {a i : Nat} (h : i < s.length) (ha : a ≤ i) (hb : plainI (charI s i) = true) (h34 : charI s i ≠ 34) (hy : charI s i ≠ y) : pAt y s out a i = pAt y s out a (i + 1) := by
  have e := cut_snoc h ha
  unfold charI at hb h34 hy
  rw [pAt, pAt, drop_at h, partsM, hb]
  simp only [Bool.not_true, Bool.false_eq_true, if_false, if_true, if_neg h34, if_neg hy]
  rw [e]
theorem pAt_quote {y : Int} {s : List UInt8} {out : List (List UInt8)} {a i : Nat} (h : i < s.length) (ha : a ≤ i) (hb : plainI (charI s i) = true) (h34 : charI s i = 34) : pAt y s out a i = match qdF plainI (s.drop (i + 1)) with
    | none => none
    | some x => pAt y s out a (i + 1 + x.1) := by
  have e := cut_snoc h ha
  unfold charI at hb h34
  rw [pAt, drop_at h, partsM, hb]
  simp only [Bool.not_true, Bool.false_eq_true, if_false, if_true, if_pos h34]
  rw [e, partsM_q plainI y _ _ _ (Nat.le_refl _)]
  cases qdF plainI (s.drop (i + 1)) with
  | none => rfl
  | some x =>
    simp only [pAt]
    rw [List.drop_drop, cut_app (by omega)]
theorem pAt_end {y : Int} {s : List UInt8} {out : List (List UInt8)} {a i : Nat} (h : i = s.length) : pAt y s out a i = some (out ++ [s.drop a]) := by
  rw [pAt, h, List.drop_length, cut_all]; rfl
theorem qdF_len {p : Int → Bool} : ∀ (n : Nat) (r : List UInt8) (x : Nat × List UInt8), r.length ≤ n → qdF p r = some x → 0 < x.1 ∧ x.1 ≤ r.length
  | n, [], x, _, h => by simp [qdF] at h
  | 0, c :: r, x, hl, h => by simp at hl
  | n + 1, c :: r, x, hl, h => by
    simp only [List.length_cons] at hl ⊢
    rw [qdF_cons] at h
    split at h
    · cases h
    split at h
    · cases h; exact ⟨by omega, by simp⟩
    split at h
    · cases r with
      | nil => cases h
      | cons d r' =>
        simp only at h
        split at h
        · cases h
        · obtain ⟨z, hz, rfl⟩ := Option.map_eq_some_iff.1 h
          have := qdF_len n r' z (by simp at hl; omega) hz
          simp only [List.length_cons]
          omega
    · obtain ⟨z, hz, rfl⟩ := Option.map_eq_some_iff.1 h
      have := qdF_len n r z (by omega) hz
      omega
theorem RowS.more {f f' g : Nat → List SV} {n n' : Int} {a : List (List UInt8)} {x : List UInt8} (R : RowS f n a) (hg : g 0 = [.str x]) (h : MoreRow f' n' n 1 f g) (hl : a.length < 9223372036854775807) : RowS f' n' (a ++ [x]) := by
  have h1 := R.n
  refine ⟨by rw [h.len, h1]; simp, fun i hi => ?_, by simp; omega⟩
  simp only [List.length_append, List.length_singleton] at hi
  by_cases e : i < a.length
  · rw [h.lo i (by omega), R.f i e, List.getD_eq_getElem?_getD, List.getD_eq_getElem?_getD, List.getElem?_append_left e]
  · have : i = a.length := by omega
    subst this
    rw [h.hi a.length 0 (by rw [h1]; simp) (by simp), hg]
    simp
theorem RowS.nil : RowS (fun _ => []) 0 [] := ⟨rfl, by simp, by simp⟩
/-- The row of a list of strings. -/
def strRow (l : List (List UInt8)) (i : Nat) : List SV := [.str (l.getD i [])]
theorem RowS.row {l : List (List UInt8)} (h : l.length ≤ 9223372036854775807) : RowS (strRow l) l.length l := ⟨rfl, fun _ _ => rfl, h⟩
structure PaI (s : List UInt8) (out : List (List UInt8)) (a i : Nat) (A I : Int) (m : Nat) : Prop where
  at_ : At s i I m
  ale : a ≤ i
  A : ST.den (.a A) = (a : Int)
  out : out.length ≤ i
  s : s.length ≤ 100000
def paJ (s : List UInt8) (y : Int) (k : Option (List (List UInt8))) (m : Nat) (vs : List (Option SV)) (hp : List Hl) : Prop :=
  ∃ (i a : Nat) (I A n : Int) (nl : Bool) (f : Nat → List SV) (out : List (List UInt8)), vs = [some (.str s), some (.int .u8 (.a y)), some (.gsl (.a nl) (.a n) 1 f 0), some (.int .i64 (.a A)), some (.int .i64 (.a I))] ∧ hp = [.tail 9 (.a n) 1] ∧
    PaI s out a i A I m ∧ RowS f n out ∧ k = pAt y s out a i
def partsF (y : Int) (s : List UInt8) : Option (List (List UInt8)) := partsM plainI y s 0 []
def spParts (F : Int → List UInt8 → Option (List (List UInt8))) : FSpec := fun _ xs ls K => ∃ (s : List UInt8) (y : Int), xs = [.str s, .int .u8 (.a y)] ∧ ls = [] ∧ s.length ≤ 100000 ∧ ∀ (k : Option (List (List UInt8))) (n : Int) (b nb : Bool), k = F y s → n = ((k.getD []).length : Int) → b = k.isSome → nb = k.isNone → K (.tup [.sl (.a nb) (.a n) 1 (strRow (k.getD [])), .bool (.a b)]) []
theorem finParts0 {D : Dn} (hD : D = dn) {k : Option (List (List UInt8))} {kn : Int} {kb knb : Bool} {kr g : Nat → List SV} (hk : k = none) (hkn : kn = ((k.getD []).length : Int)) (hkb : kb = k.isSome) (hknb : knb = k.isNone) (_hkr : kr = strRow (k.getD [])) :
    Fin (.tup [.sl (.a (D.b (.l true))) (.a (D.i (.l 0))) 1 g, .bool (.a (D.b (.l false)))]) (.tup [.sl (.a knb) (.a kn) 1 kr, .bool (.a kb)]) [] [] := by
  subst hD hk
  refine finV (.tup (.cons (.sl ?_ ?_ ?_) (.cons (leBool ?_) .nil)))
  · rw [hknb]; rfl
  · rw [hkn]; rfl
  · intro i hi
    have hi : (i : Int) < 0 := hi
    omega
  · rw [hkb]; rfl
theorem finParts1 {D : Dn} (hD : D = dn) {k : Option (List (List UInt8))} {l : List (List UInt8)} {kn : Int} {kb knb : Bool} {kr f : Nat → List SV} (hk : k = some l) (hkn : kn = ((k.getD []).length : Int)) (hkb : kb = k.isSome) (hknb : knb = k.isNone) (hkr : kr = strRow (k.getD []))
    {n : Int} (R : RowS f n l) {x : BT} {y : ST} (hy : y.den = n) (hx : x.den = false) : Fin (.tup [.sl (.a (D.b x)) (.a (D.i y)) 1 f, .bool (.a (D.b (.l true)))]) (.tup [.sl (.a knb) (.a kn) 1 kr, .bool (.a kb)]) [] [] := by
  subst hD hk
  refine finV (.tup (.cons (.sl ?_ ?_ ?_) (.cons (leBool ?_) .nil)))
  · rw [hknb]; exact hx
  · rw [hkn]; show y.den = _; rw [hy]; exact R.n
  · intro i hi
    have hi : (i : Int) < y.den := hi
    rw [R.f i (by have := R.n; omega), hkr]; rfl
  · rw [hkb]; rfl
theorem parts_ok : FnOk Tryz.prog gl 52 (spParts partsF) := by
  refine fnOk (gh := [(1, [.attach 6 9])]) mixed cxOk (tabCons plain_ok (tabCons refQuoted_ok tabNil)) Tryz.func52 (by kernel_rfl) (by kernel_rfl) ?_
  intro xs ls K h
  unfold spParts at h
  obtain ⟨s, y, rfl, rfl, hl, h⟩ := h
  obtain ⟨k, hk⟩ : ∃ k, k = partsF y s := ⟨_, rfl⟩
  obtain ⟨kn, hkn⟩ : ∃ kn : Int, kn = ((k.getD []).length : Int) := ⟨_, rfl⟩
  obtain ⟨kb, hkb⟩ : ∃ kb, kb = k.isSome := ⟨_, rfl⟩
  obtain ⟨knb, hknb⟩ : ∃ knb, knb = k.isNone := ⟨_, rfl⟩
  refine ⟨_, _, h k kn kb knb hk hkn hkb hknb, fun D hD => ?_⟩
  clear h
  obtain ⟨kr, hkr⟩ : ∃ kr, kr = strRow (k.getD []) := ⟨_, rfl⟩
  rw [← hkr]
  have hk : k = pAt y s [] 0 0 := by
    rw [hk, partsF, pAt, cut_self]
    simp
  cbv
  obtain ⟨J, hJ⟩ : ∃ J, J = paJ s y k := ⟨_, rfl⟩
  refine ⟨[0, 1, 6, 7, 8], J, ⟨rfl, s.length, ?_⟩, ?_⟩
  · rw [hJ]
    subst hD
    exact ⟨0, 0, _, _, _, _, _, [], rfl, rfl, ⟨At.zero (by omega), by omega, rfl, by simp, hl⟩, RowS.nil, hk⟩
  clear hk
  intro m vs hp' hv
  rw [hJ] at hv
  unfold paJ at hv
  obtain ⟨i, a, I, A, n, nl, f, out, rfl, rfl, V, R, hk⟩ := hv
  cbv
  refine br hD (fun h => ?_) (fun h => ?_) <;> cbv
  · have hlt := V.at_.lt (of_decide_eq_true (p := I < (s.length : Int)) h)
    clear h
    refine ⟨V.at_.inS hD hlt, fun c hc => ?_⟩
    have hc2 := byteAt hD V.at_.den hc
    clear hc
    cbv
    refine ⟨_, rfl, rfl, fun r hr => ?_⟩
    have hr2 : r = plainI c := by subst hD; exact hr
    clear hr
    cbv
    refine br hD (fun h => ?_) (fun h => ?_) <;> cbv
    · have h : (!r) = true := h
      rw [pAt_bad hlt (by rw [← hc2.charI, ← hr2]; simpa using h)] at hk
      exact finParts0 hD hk hkn hkb hknb hkr
    have hp : plainI (charI s i) = true := by have h : (!r) = false := h; rw [← hc2.charI, ← hr2]; simpa using h
    clear h
    refine ⟨V.at_.inS hD hlt, fun c' hc' => ?_⟩
    obtain rfl : c' = c := by have := byteAt hD V.at_.den hc'; rw [this.h, hc2.h]
    clear hc'
    cbv
    refine br hD (fun h => ?_) (fun h => ?_) <;> cbv
    · have h34 : charI s i = 34 := by rw [← hc2.charI]; have h : (c' == 34) = true := h; simpa using h
      clear h
      refine ⟨s, i, _, rfl, rfl, by subst hD; exact ⟨V.at_.le, V.at_.I, rfl, V.at_.len⟩, hlt, fun e t b he => ?_⟩
      rw [pAt_quote hlt V.ale hp h34] at hk
      cbv
      refine br hD (fun h => ?_) (fun h => ?_) <;> cbv
      · have h : (!b) = true := h
        have hn : qdF plainI (s.drop (i + 1)) = none := by
          cases hq : qdF plainI (s.drop (i + 1)) with
          | none => rfl
          | some x =>
            rw [refQuotedF, qRes, hq] at he
            simp only [Prod.mk.injEq] at he
            rw [he.2.2] at h; cases h
        rw [hn] at hk
        exact finParts0 hD hk hkn hkb hknb hkr
      · have h : (!b) = false := h
        obtain ⟨x, hx⟩ : ∃ x, qdF plainI (s.drop (i + 1)) = some x := by
          cases hq : qdF plainI (s.drop (i + 1)) with
          | none =>
            rw [refQuotedF, qRes, hq] at he
            simp only [Prod.mk.injEq] at he
            rw [he.2.2] at h; cases h
          | some x => exact ⟨x, rfl⟩
        rw [hx] at hk
        simp only at hk
        rw [refQuotedF, qRes, hx] at he
        simp only [Prod.mk.injEq] at he
        have hlen := qdF_len _ _ x (Nat.le_refl _) hx
        rw [List.length_drop] at hlen
        have he1 : ST.den (.a e) = ((i + 1 + x.1 : Nat) : Int) := he.1
        clear he h
        refine ⟨s.length - (i + 1 + x.1), by have := V.at_.m; omega, ?_⟩
        rw [hJ]
        subst hD
        refine ⟨i + 1 + x.1, a, _, _, _, _, f, out, rfl, rfl, ⟨⟨by omega, he1, rfl, V.at_.len⟩, by have := V.ale; omega, V.A, by have := V.out; omega, V.s⟩, R, hk⟩
    have h34 : charI s i ≠ 34 := by rw [← hc2.charI]; have h : (c' == 34) = false := h; simpa using h
    clear h
    refine br hD (fun h => ?_) (fun h => ?_) <;> cbv
    · have hy : charI s i = y := by rw [← hc2.charI]; have h : (c' == y) = true := h; simpa using h
      clear h
      rw [pAt_sep hlt hp h34 hy] at hk
      refine ⟨by subst hD; exact subS_of V.A V.at_.den V.ale (by omega), fun r1 hr1 => ?_⟩
      have hr1' : r1 = cut s a i := sub_of hD V.A V.at_.den hr1
      clear hr1
      cbv
      intro g hg
      have hg0 : g 0 = [.str r1] := hg.h 0 _ rfl
      clear hg
      cbv
      refine ⟨?_, fun f' n' hf' => ?_⟩
      · have := V.out; have := V.s; have := R.n; subst hD; exact ⟨rfl, by show (n + 1) * 16 ≤ _; omega, by show n + 1 ≤ _; omega⟩
      have R' : RowS f' n' (out ++ [cut s a i]) := by
        subst hD
        exact R.more (by rw [hg0, hr1']) hf' (by have := V.out; have := V.s; omega)
      clear hf' hg0
      cbv
      refine ⟨s.length - (i + 1), (V.at_.step hD hlt).1, ?_⟩
      rw [hJ]
      subst hD
      exact ⟨i + 1, i + 1, _, _, _, _, f', _, rfl, rfl, ⟨(V.at_.step rfl hlt).2, Nat.le_refl _, (V.at_.step rfl hlt).2.I, by have := V.out; simp; omega, V.s⟩, R', hk⟩
    · have hy : charI s i ≠ y := by rw [← hc2.charI]; have h : (c' == y) = false := h; simpa using h
      clear h
      rw [pAt_more hlt V.ale hp h34 hy] at hk
      refine ⟨s.length - (i + 1), (V.at_.step hD hlt).1, ?_⟩
      rw [hJ]
      subst hD
      exact ⟨i + 1, a, _, _, _, _, f, out, rfl, rfl, ⟨(V.at_.step rfl hlt).2, by have := V.ale; omega, V.A, by have := V.out; omega, V.s⟩, R, hk⟩
  · have hi := V.at_.eq (of_decide_eq_false (p := I < (s.length : Int)) h)
    clear h
    rw [pAt_end hi] at hk
    refine ⟨by subst hD; exact subS_of (s := s) (j := s.length) (b := .len s) V.A rfl (by have := V.ale; omega) (Nat.le_refl _), fun r1 hr1 => ?_⟩
    have hr1' : r1 = s.drop a := by
      have := sub_of (j := s.length) (b := .len s) hD V.A rfl hr1
      rw [this]; exact List.take_of_length_le (by simp)
    clear hr1
    cbv
    intro g hg
    have hg0 : g 0 = [.str r1] := hg.h 0 _ rfl
    clear hg
    cbv
    refine ⟨?_, fun f' n' hf' => ?_⟩
    · have := V.out; have := V.s; have := R.n; subst hD; exact ⟨rfl, by show (n + 1) * 16 ≤ _; omega, by show n + 1 ≤ _; omega⟩
    have R' : RowS f' n' (out ++ [s.drop a]) := by
      subst hD
      exact R.more (by rw [hg0, hr1']) hf' (by have := V.out; have := V.s; omega)
    clear hf' hg0
    cbv
    refine finParts1 hD hk hkn hkb hknb hkr R' rfl ?_
    show (nl && false) = false
    simp
end Go.Proofs.YtfchfhjpldppjaaGreatDoor
namespace Go.Proofs.YtfchfhjpldppjaaGreatDoor
open Go.Sx
set_option maxRecDepth 10000
set_option maxHeartbeats 2000000
theorem partsM_len (p : Int → Bool) (y : Int) : ∀ (r : List UInt8) (md : Nat) (cur : List UInt8) (l : List (List UInt8)), partsM p y r md cur = some l → l.length ≤ r.length + 1 ∧ 0 < l.length ∧ ∀ x ∈ l, x.length ≤ cur.length + r.length
  | [], md, cur, l, h => by
    simp only [partsM] at h
    split at h
    · cases h; simp
    · cases h
  | c :: r, md, cur, l, h => by
    have push : ∀ md', partsM p y r md' (cur ++ [c]) = some l → l.length ≤ (c :: r).length + 1 ∧ 0 < l.length ∧ ∀ x ∈ l, x.length ≤ cur.length + (c :: r).length := by
      intro md' h
      obtain ⟨h1, h2, h3⟩ := partsM_len p y r md' _ l h
      refine ⟨by simp; omega, h2, fun x hx => ?_⟩
      have := h3 x hx
      simp at this ⊢; omega
    simp only [partsM] at h
    split at h
    · cases h
    split at h
    · split at h
      · exact push _ h
      · split at h
        · obtain ⟨l', h', rfl⟩ := Option.map_eq_some_iff.1 h
          obtain ⟨h1, h2, h3⟩ := partsM_len p y r 0 [] l' h'
          refine ⟨by simp; omega, by simp, fun x hx => ?_⟩
          rcases List.mem_cons.1 hx with rfl | hx
          · simp
          · have := h3 x hx; simp at this ⊢; omega
        · exact push _ h
    · split at h
      · split at h
        · exact push _ h
        · split at h
          · exact push _ h
          · exact push _ h
      · exact push _ h
theorem partsF_len {y : Int} {s : List UInt8} {l : List (List UInt8)} (h : partsF y s = some l) : l.length ≤ s.length + 1 ∧ 0 < l.length ∧ ∀ x ∈ l, x.length ≤ s.length := by
  have := partsM_len _ _ _ _ _ _ h
  simpa using this
theorem dropWhile_len {p : UInt8 → Bool} (s : List UInt8) : (s.dropWhile p).length ≤ s.length := by
  induction s with
  | nil => simp
  | cons c r ih =>
    rw [List.dropWhile_cons]
    split
    · simp; omega
    · simp
theorem trimF_len (s : List UInt8) : (trimF s).length ≤ s.length := by
  unfold trimF trimR trimL
  rw [List.length_reverse]
  refine Nat.le_trans (dropWhile_len _) ?_
  rw [List.length_reverse]
  exact dropWhile_len _
def neB (x : List UInt8) : Bool := !(x == [])
def keepF (l : List (List UInt8)) : List (List UInt8) := (l.map trimF).filter neB
theorem keepF_cons {l : List (List UInt8)} {i : Nat} (h : i < l.length) : keepF (l.drop i) = (if neB (trimF (l.getD i [])) then [trimF (l.getD i [])] else []) ++ keepF (l.drop (i + 1)) := by
  rw [dropR (d := []) h, keepF, List.map_cons, List.filter_cons]
  split <;> rfl
def refElementsF (s : List UInt8) : List (List UInt8) × Int :=
  if 2000 < (s.length : Int) then ([], 3) else match partsF 44 s with
    | none => ([], 6)
    | some l => (keepF l, 0)
theorem refElementsF_len (s : List UInt8) : (refElementsF s).1.length ≤ 2001 ∧ ∀ x ∈ (refElementsF s).1, x.length ≤ 2000 := by
  unfold refElementsF
  split
  · simp
  · rename_i h
    cases hp : partsF 44 s with
    | none => simp
    | some l =>
      obtain ⟨h1, h2, h3⟩ := partsF_len hp
      have h4 : (keepF l).length ≤ l.length := by
        unfold keepF
        refine Nat.le_trans (List.length_filter_le _ _) (by simp)
      refine ⟨by show (keepF l).length ≤ _; omega, fun x hx => ?_⟩
      have hx : x ∈ keepF l := hx
      unfold keepF at hx
      obtain ⟨z, hz, rfl⟩ := List.mem_map.1 (List.mem_filter.1 hx).1
      have := trimF_len z
      have := h3 z hz
      omega
def spElems (F : List UInt8 → List (List UInt8) × Int) (N : List UInt8 → Bool) : FSpec := fun _ xs ls K => ∃ (s : List UInt8), xs = [.str s] ∧ ls = [] ∧ s.length ≤ 9223372036854775807 ∧ ∀ l e n nb, (l, e) = F s → n = (l.length : Int) → nb = N s → K (.tup [.sl (.a nb) (.a n) 1 (strRow l), .int .i64 (.a e)]) []
theorem finEl {D : Dn} (hD : D = dn) {l l' : List (List UInt8)} {ke kn e' : Int} {knb : Bool} {kr f : Nat → List SV} (hk : (l, ke) = (l', e')) (hkn : kn = (l.length : Int)) (hkr : kr = strRow l)
    {n : Int} (R : RowS f n l') {x : BT} {y z : ST} (hy : y.den = n) (hx : x.den = knb) (hz : z.den = e') : Fin (.tup [.sl (.a (D.b x)) (.a (D.i y)) 1 f, .int .i64 (.a (D.i z))]) (.tup [.sl (.a knb) (.a kn) 1 kr, .int .i64 (.a ke)]) [] [] := by
  subst hD
  simp only [Prod.mk.injEq] at hk
  obtain ⟨rfl, rfl⟩ := hk
  refine finV (.tup (.cons (.sl hx ?_ ?_) (.cons (leInt hz) .nil)))
  · rw [hkn]; show y.den = _; rw [hy]; exact R.n
  · intro i hi
    have hi : (i : Int) < y.den := hi
    rw [R.f i (by have := R.n; omega), hkr]; rfl
structure ElI (l out : List (List UInt8)) (i : Nat) (I : Int) (nl : Bool) (m : Nat) : Prop where
  at_ : AtR l i I m
  ol : out.length ≤ i
  nl : nl = out.isEmpty
  ll : l.length ≤ 100001
  el : ∀ x ∈ l, x.length ≤ 9223372036854775807
def elJ (l : List (List UInt8)) (k : List (List UInt8)) (nb : Bool) (nn : Int) (g : Nat → List SV) (m : Nat) (vs : List (Option SV)) (hp : List Hl) : Prop :=
  ∃ (i : Nat) (I n : Int) (nl : Bool) (f : Nat → List SV) (out : List (List UInt8)), vs = [some (.sl (.a nb) (.a nn) 1 g), some (.gsl (.a nl) (.a n) 1 f 0), some (.int .i64 (.a I))] ∧ hp = [.tail 9 (.a n) 1] ∧
    ElI l out i I nl m ∧ RowS f n out ∧ k = out ++ keepF (l.drop i)
theorem refElements_ok : FnOk Tryz.prog gl 21 (spElems refElementsF fun s => (refElementsF s).1.isEmpty) := by
  refine fnOk (gh := [(6, [.attach 6 9])]) mixed cxOk (tabCons parts_ok (tabCons refTrim_ok tabNil)) Tryz.func21 (by kernel_rfl) (by kernel_rfl) ?_
  intro xs ls K h
  unfold spElems at h
  obtain ⟨s, rfl, rfl, hl, h⟩ := h
  obtain ⟨k, hk⟩ : ∃ k, k = refElementsF s := ⟨_, rfl⟩
  obtain ⟨kl, ke⟩ := k
  obtain ⟨kn, hkn⟩ : ∃ kn : Int, kn = (kl.length : Int) := ⟨_, rfl⟩
  obtain ⟨knb, hknb⟩ : ∃ knb : Bool, knb = kl.isEmpty := ⟨_, rfl⟩
  refine ⟨_, _, h kl ke kn knb hk hkn (by rw [hknb]; show _ = (refElementsF s).1.isEmpty; rw [← hk]), fun D hD => ?_⟩
  clear h
  obtain ⟨kr, hkr⟩ : ∃ kr, kr = strRow kl := ⟨_, rfl⟩
  rw [← hkr]
  rw [refElementsF] at hk
  cbv
  refine br hD (fun h => ?_) (fun h => ?_) <;> cbv
  · have h : decide (2000 < (s.length : Int)) = true := h
    rw [if_pos (by simpa using h)] at hk
    exact finEl (f := fun _ => []) hD hk hkn hkr RowS.nil rfl (by simp only [Prod.mk.injEq] at hk; rw [hknb, hk.1]; rfl) rfl
  have h : decide (2000 < (s.length : Int)) = false := h
  have h2 : ¬ (2000 < (s.length : Int)) := by simpa using h
  rw [if_neg h2] at hk
  have hs : s.length ≤ 2000 := by omega
  clear h h2
  refine ⟨s, _, rfl, rfl, by omega, fun k n b nb hp hn hb hnb => ?_⟩
  have hp2 : k = partsF 44 s := by subst hD; exact hp
  clear hp
  rw [← hp2] at hk
  obtain ⟨g, hg⟩ : ∃ g, g = strRow (k.getD []) := ⟨_, rfl⟩
  rw [← hg]
  cbv
  refine br hD (fun h => ?_) (fun h => ?_) <;> cbv
  · have h : (!b) = true := h
    have hn0 : k = none := by
      cases k with
      | none => rfl
      | some l => rw [hb] at h; cases h
    rw [hn0] at hk
    exact finEl (f := fun _ => []) hD hk hkn hkr RowS.nil rfl (by simp only [Prod.mk.injEq] at hk; rw [hknb, hk.1]; rfl) rfl
  have h : (!b) = false := h
  obtain ⟨l, rfl⟩ : ∃ l, k = some l := by
    cases k with
    | none => rw [hb] at h; cases h
    | some l => exact ⟨l, rfl⟩
  clear h
  simp only [Option.getD_some] at hg hn
  obtain ⟨h1, h2, h3⟩ := partsF_len hp2.symm
  have RL : RowS g n l := by rw [hg, hn]; exact RowS.row (by omega)
  simp only [Prod.mk.injEq] at hk
  obtain ⟨hk, hke⟩ := hk
  have hll : l.length ≤ 100001 := by omega
  have hle : ∀ x ∈ l, x.length ≤ 9223372036854775807 := fun x hx => by have := h3 x hx; omega
  clear h1 h2 h3 hg hn hb hnb hp2
  obtain ⟨J, hJ⟩ : ∃ J, J = elJ l kl nb n g := ⟨_, rfl⟩
  refine ⟨[4, 6, 7], J, ⟨rfl, l.length, ?_⟩, ?_⟩
  · rw [hJ]
    subst hD
    exact ⟨0, _, _, _, _, [], rfl, rfl, ⟨AtR.zero (by omega), by simp, rfl, hll, hle⟩, RowS.nil, by rw [hk]; rfl⟩
  clear hk
  intro m vs hp' hv
  rw [hJ] at hv
  unfold elJ at hv
  obtain ⟨i, I, on, nl, f, out, rfl, rfl, V, R, hk⟩ := hv
  cbv
  refine br hD (fun h => ?_) (fun h => ?_) <;> cbv
  · have hlt := V.at_.lt RL.n (of_decide_eq_true (p := I < n) h)
    clear h
    refine ⟨V.at_.inB hD RL.n hlt, fun j hj => ?_⟩
    obtain rfl := V.at_.j hD hj
    clear hj
    have e1 := RL.f j hlt
    rw [keepF_cons hlt] at hk
    have hxl := V.el (l.getD j []) (by rw [List.getD_eq_getElem?_getD, List.getElem?_eq_getElem hlt]; exact List.getElem_mem hlt)
    obtain ⟨x, hx⟩ : ∃ x, x = l.getD j [] := ⟨_, rfl⟩
    rw [← hx] at e1 hk hxl
    cbv
    rw [e1]
    cbv
    refine ⟨x, rfl, rfl, hxl, fun t ht => ?_⟩
    rw [← ht] at hk
    cbv
    refine br hD (fun h => ?_) (fun h => ?_) <;> cbv
    · have hne : neB t = true := h
      clear h
      rw [if_pos hne] at hk
      refine ⟨V.at_.inB hD RL.n hlt, fun j' hj' => ?_⟩
      obtain rfl := V.at_.j hD hj'
      clear hj'
      cbv
      rw [e1]
      cbv
      refine ⟨x, rfl, rfl, hxl, fun t' ht' => ?_⟩
      obtain rfl : t' = t := by rw [ht', ht]
      clear ht'
      cbv
      intro g1 hg1
      have hg0 : g1 0 = [.str t'] := hg1.h 0 _ rfl
      clear hg1
      cbv
      refine ⟨?_, fun f' n' hf' => ?_⟩
      · have := V.ol; have := V.ll; have := V.at_.le; have := R.n; subst hD; exact ⟨rfl, by show (on + 1) * 16 ≤ _; omega, by show on + 1 ≤ _; omega⟩
      have R' : RowS f' n' (out ++ [t']) := by
        subst hD
        exact R.more hg0 hf' (by have := V.ol; have := V.ll; have := V.at_.le; omega)
      clear hf' hg0
      cbv
      refine ⟨l.length - (j' + 1), (V.at_.step hD hlt).1, ?_⟩
      rw [hJ]
      subst hD
      exact ⟨j' + 1, _, _, _, f', _, rfl, rfl, ⟨(V.at_.step rfl hlt).2, by have := V.ol; simp; omega, by show (nl && false) = _; simp, V.ll, V.el⟩, R', by rw [hk]; simp⟩
    · have hne : neB t = false := h
      clear h
      rw [if_neg (by rw [hne]; simp)] at hk
      refine ⟨l.length - (j + 1), (V.at_.step hD hlt).1, ?_⟩
      rw [hJ]
      subst hD
      exact ⟨j + 1, _, _, _, f, out, rfl, rfl, ⟨(V.at_.step rfl hlt).2, by have := V.ol; omega, V.nl, V.ll, V.el⟩, R, by rw [hk]; simp⟩
  · have hi := V.at_.eq RL.n (of_decide_eq_false (p := I < n) h)
    clear h
    have hk2 : kl = out := by rw [hk, hi, List.drop_length]; simp [keepF]
    exact finEl (f := f) (l' := out) (e' := 0) hD (by rw [hk2, hke]) hkn hkr R rfl (by show nl = _; rw [V.nl, hknb, hk2]) rfl
end Go.Proofs.YtfchfhjpldppjaaGreatDoor
