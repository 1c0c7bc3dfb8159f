/- Part of the proof of the statement: an evaluator of the code at closed data, run by the kernel, and that it is sound; it has no conditions of its own. -/
import Derived.Test.YtljlcljlnhaniaaGreatDoorSpBs1
set_option linter.unusedVariables false
set_option linter.unusedSimpArgs false
namespace Go.Proofs.YtljlcljlnhaniaaGreatDoor
open Go.Sx
set_option maxRecDepth 10000
set_option maxHeartbeats 2000000
/-! Split of the reference. -/
structure DenN (t : ST) (n : Nat) : Prop where
  d : t.den = (n : Int)
structure RsI (s : List UInt8) (p : Int) (P q r : Nat) (out : List (List UInt8)) (j at_ : Nat) (I A : Int) (nl : Bool) (m : Nat) : Prop where
  pe : p = (P : Int)
  P1 : 1 ≤ P
  P50 : P ≤ 50
  I : I = (j : Int)
  A : A = (at_ : Int)
  le : j ≤ P
  m : m = P - j
  ol : out.length ≤ j
  sl : s.length ≤ 100000
  nl : nl = out.isEmpty
  sum : at_ + (q * (P - j) + (r - j)) = s.length
def rsJ (k : List (List UInt8)) (s : List UInt8) (p : Int) (P q r : Nat) (m : Nat) (vs : List (Option SV)) (hp : List Hl) : Prop :=
  ∃ (j at_ : Nat) (I A n : Int) (nl : Bool) (f : Nat → List SV) (out : List (List UInt8)), vs = [some (.str s), some (.int .i64 (.a p)), some (.gsl (.a nl) (.a n) 1 f 0), some (.int .i64 (.a A)), some (.int .i64 (.a I))] ∧ hp = [.tail 9 (.a n) 1] ∧
    RsI s p P q r out j at_ I A nl m ∧ RowS f n out ∧ k = out ++ Pcs.prs q r (P - j) j (s.drop at_)
theorem quoDen {s : List UInt8} {p : Int} {P : Nat} (hp : p = (P : Int)) (hs : s.length ≤ 100000) : DenN (.bin .quo .i64 (.len s) (.a p)) (s.length / P) := by
  constructor
  show IntKind.i64.wrap (Int.tdiv (s.length : Int) p) = _
  have h := Nat.div_le_self s.length P
  rw [hp]
  have e : Int.tdiv ((s.length : Nat) : Int) ((P : Nat) : Int) = ((s.length / P : Nat) : Int) := rfl
  rw [e]
  generalize s.length / P = q at h
  rw [wrap64 (by omega) (by omega)]
theorem remDen {s : List UInt8} {p : Int} {P : Nat} (hp : p = (P : Int)) : DenN (.bin .rem .i64 (.len s) (.a p)) (s.length % P) := by
  constructor
  show Int.tmod (s.length : Int) p = _
  rw [hp]
  rfl
theorem addDen {x y : ST} {a b : Nat} (hx : DenN x a) (hy : DenN y b) (h : a + b ≤ 1000000) : DenN (.bin .add .i64 x y) (a + b) := by
  constructor
  show IntKind.i64.wrap (x.den + y.den) = _
  rw [hx.d, hy.d, wrap64 (by omega) (by omega)]; omega
theorem ltDen {D : Dn} (hD : D = dn) {x y : ST} {a b : Nat} (hx : DenN x a) (hy : DenN y b) {c : Bool} (h : BT.den (.cmp .lss x y) = c) : c = decide (a < b) := by
  rw [← h]
  show decide (x.den < y.den) = _
  rw [hx.d, hy.d]
  exact decide_eq_decide.2 (by omega)
theorem gtDen {x : ST} {a : Nat} (hx : DenN x a) {c : Bool} (h : BT.den (.cmp .gtr x (.l 0)) = c) : c = decide (0 < a) := by
  rw [← h]
  show decide (0 < x.den) = _
  rw [hx.d]
  exact decide_eq_decide.2 (by omega)
/-- What is to be true of the piece that comes next. -/
structure NxI (s : List UInt8) (P q r j at_ c nn : Nat) : Prop where
  ce : P - j = c + 1
  ne : nn = q + (if j < r then 1 else 0)
  mx : at_ + nn ≤ s.length
  se : at_ + nn + (q * c + (r - (j + 1))) = s.length
theorem rsplit_ok {gl : List (Nat × SV)} : FnOk Tryz.prog gl 15 spSpl := by
  refine fnOk (gh := [(3, [.attach 6 9])]) smixed scxOk tabNil Tryz.func15 (by kernel_rfl) (by kernel_rfl) ?_
  intro xs ls K h
  unfold spSpl at h
  obtain ⟨s, p, rfl, rfl, hl, h⟩ := h
  obtain ⟨k, hk⟩ : ∃ k, k = splF s p := ⟨_, rfl⟩
  obtain ⟨kl, ke⟩ := k
  obtain ⟨kn, hkn⟩ : ∃ kn : Int, kn = (kl.length : Int) := ⟨_, rfl⟩
  obtain ⟨knb, hknb⟩ : ∃ knb : Bool, knb = kl.isEmpty := ⟨_, rfl⟩
  refine ⟨_, _, h kl ke kn knb hk hkn hknb, fun D hD => ?_⟩
  clear h
  obtain ⟨kr, hkr⟩ : ∃ kr, kr = strRow kl := ⟨_, rfl⟩
  rw [← hkr]
  cbv
  refine br hD (fun h => ?_) (fun h => ?_) <;> cbv
  · have h : (decide (p < 1) || decide (50 < p)) = true := h
    have hc : p < 1 ∨ 50 < p := by simpa using h
    rw [splF, if_pos hc] at hk
    exact finSpl (f := fun _ => []) hD hk hkn hkr RowS.nil rfl (by simp only [Prod.mk.injEq] at hk; rw [hknb, hk.1]; rfl) rfl
  have h : (decide (p < 1) || decide (50 < p)) = false := h
  have hc : ¬ (p < 1 ∨ 50 < p) := by simpa using h
  rw [splF, if_neg hc] at hk
  clear h
  simp only [Prod.mk.injEq] at hk
  obtain ⟨hk, hke⟩ := hk
  obtain ⟨P, hP⟩ : ∃ q, q = p.toNat := ⟨_, rfl⟩
  have hP50 : P ≤ 50 := by omega
  have hP1 : 1 ≤ P := by omega
  have hpP : p = (P : Int) := by omega
  rw [← hP] at hk
  clear hP hc
  have hsum : s.length = s.length / P * P + s.length % P := by rw [Nat.mul_comm]; exact (Nat.div_add_mod s.length P).symm
  have hmod : s.length % P < P := Nat.mod_lt _ (by omega)
  have hQ := quoDen (s := s) hpP hl
  have hR := remDen (s := s) hpP
  generalize s.length / P = q at *
  generalize s.length % P = r at *
  have hV : RsI s p P q r [] 0 0 0 0 true P := ⟨hpP, hP1, hP50, rfl, rfl, Nat.zero_le _, rfl, Nat.zero_le _, hl, rfl, by rw [Nat.zero_add, Nat.sub_zero, Nat.sub_zero]; exact hsum.symm⟩
  have hk0 : kl = [] ++ Pcs.prs q r (P - 0) 0 (s.drop 0) := by
    rw [hk, List.nil_append, List.drop_zero, Nat.sub_zero, Pcs.prs_eq _ _ P 0 s (by rw [Nat.sub_zero]; exact hsum) (by omega)]
  clear hpP hP50 hP1 hsum hmod hk
  obtain ⟨J, hJ⟩ : ∃ J, J = rsJ kl s p P q r := ⟨_, rfl⟩
  refine ⟨[0, 1, 6, 7, 8], J, ⟨rfl, P, ?_⟩, ?_⟩
  · rw [hJ]
    subst hD
    exact ⟨0, 0, _, _, _, _, _, [], rfl, rfl, hV, RowS.nil, hk0⟩
  clear hk0 hV
  intro m vs hp' hv
  rw [hJ] at hv
  unfold rsJ at hv
  obtain ⟨j, at_, I, A, on, nl, f, out, rfl, rfl, V, R, hk⟩ := hv
  cbv
  refine br hD (fun h => ?_) (fun h => ?_) <;> cbv
  · have hIj : DenN (.a I) j := ⟨V.I⟩
    have hAt : DenN (.a A) at_ := ⟨V.A⟩
    have hlt : j < P := of_decide_eq_true (ltDen hD hIj (y := .a p) (b := P) ⟨V.pe⟩ h).symm
    clear h
    obtain ⟨c, nn, hN⟩ : ∃ c nn, NxI s P q r j at_ c nn := by
      obtain ⟨c, hc⟩ : ∃ c, P - j = c + 1 := ⟨P - j - 1, by omega⟩
      have hV := V.sum
      rw [hc, Nat.mul_succ] at hV
      exact ⟨c, _, hc, rfl, by split <;> omega, by split <;> omega⟩
    rw [hN.ce, Pcs.prs, ← hN.ne, List.drop_drop] at hk
    refine ⟨by subst hD; exact ⟨by show p ≠ 0; have := V.pe; have := V.P1; omega⟩, ?_⟩
    cbv
    refine ⟨by subst hD; exact ⟨by show p ≠ 0; have := V.pe; have := V.P1; omega⟩, ?_⟩
    cbv
    refine br hD (fun h => ?_) (fun h => ?_) <;> cbv
    · have hjr : j < r := of_decide_eq_true (ltDen hD hIj hR h).symm
      clear h
      have hNd : DenN (.bin .add .i64 (.bin .quo .i64 (.len s) (.a p)) (.l 1)) nn := by
        have e : nn = q + 1 := by rw [hN.ne, if_pos hjr]
        rw [e]
        exact addDen hQ ⟨rfl⟩ (by have := hN.mx; have := V.sl; omega)
      refine br hD (fun h => ?_) (fun h => ?_) <;> cbv
      · have hpos : 0 < nn := of_decide_eq_true (gtDen hNd h).symm
        clear h
        rw [if_pos hpos] at hk
        have hmx := hN.mx
        have hAN := addDen hAt hNd (by have := V.sl; omega)
        refine ⟨by subst hD; exact subS_of (s := s) (i := at_) (j := at_ + nn) hAt.d hAN.d (Nat.le_add_right _ _) hmx, fun x hx => ?_⟩
        have hx1 : x = (s.drop at_).take nn := by
          have := sub_of (i := at_) (j := at_ + nn) hD hAt.d hAN.d hx
          rw [this, Nat.add_sub_cancel_left]
        clear hx
        cbv
        intro g1 hg1
        have hg0 : g1 0 = [.str x] := hg1.h 0 _ rfl
        clear hg1
        cbv
        refine ⟨?_, fun f' n' hf' => ?_⟩
        · have := R.n; have := V.ol; have := V.le; have := V.P50; subst hD; exact ⟨rfl, by show (on + 1) * 16 ≤ _; omega, by show on + 1 ≤ _; omega⟩
        have R' : RowS f' n' (out ++ [x]) := by
          subst hD
          exact R.more hg0 hf' (by have := V.ol; have := V.le; have := V.P50; omega)
        clear hf' hg0
        cbv
        refine ⟨c, by have := V.m; have := hN.ce; omega, ?_⟩
        rw [hJ]
        have hc := hN.ce
        have hI2 := (addDen hIj (y := .l 1) (b := 1) ⟨rfl⟩ (by have := V.le; have := V.P50; omega)).d
        subst hD
        refine ⟨j + 1, at_ + nn, _, _, _, _, f', out ++ [x], rfl, rfl, ⟨V.pe, V.P1, V.P50, hI2, hAN.d, by omega, by omega, ?_, V.sl, ?_, ?_⟩, R', ?_⟩
        · have := V.ol; simp; omega
        · show (nl && false) = _; simp
        · rw [show P - (j + 1) = c by omega]; exact hN.se
        · rw [show P - (j + 1) = c by omega, hk, hx1]; simp
      · have hpos : ¬ 0 < nn := of_decide_eq_false (gtDen hNd h).symm
        clear h
        rw [if_neg hpos] at hk
        have hAN := addDen hAt hNd (by have := V.sl; have := hN.mx; omega)
        refine ⟨c, by have := V.m; have := hN.ce; omega, ?_⟩
        rw [hJ]
        have hc := hN.ce
        have hI2 := (addDen hIj (y := .l 1) (b := 1) ⟨rfl⟩ (by have := V.le; have := V.P50; omega)).d
        subst hD
        refine ⟨j + 1, at_ + nn, _, _, _, _, f, out, rfl, rfl, ⟨V.pe, V.P1, V.P50, hI2, hAN.d, by omega, by omega, ?_, V.sl, V.nl, ?_⟩, R, ?_⟩
        · have := V.ol; omega
        · rw [show P - (j + 1) = c by omega]; exact hN.se
        · rw [show P - (j + 1) = c by omega, hk]; simp
    · have hjr : ¬ j < r := of_decide_eq_false (ltDen hD hIj hR h).symm
      clear h
      have hNd : DenN (.bin .quo .i64 (.len s) (.a p)) nn := by
        have e : nn = q := by rw [hN.ne, if_neg hjr]; rfl
        rw [e]
        exact hQ
      refine br hD (fun h => ?_) (fun h => ?_) <;> cbv
      · have hpos : 0 < nn := of_decide_eq_true (gtDen hNd h).symm
        clear h
        rw [if_pos hpos] at hk
        have hmx := hN.mx
        have hAN := addDen hAt hNd (by have := V.sl; omega)
        refine ⟨by subst hD; exact subS_of (s := s) (i := at_) (j := at_ + nn) hAt.d hAN.d (Nat.le_add_right _ _) hmx, fun x hx => ?_⟩
        have hx1 : x = (s.drop at_).take nn := by
          have := sub_of (i := at_) (j := at_ + nn) hD hAt.d hAN.d hx
          rw [this, Nat.add_sub_cancel_left]
        clear hx
        cbv
        intro g1 hg1
        have hg0 : g1 0 = [.str x] := hg1.h 0 _ rfl
        clear hg1
        cbv
        refine ⟨?_, fun f' n' hf' => ?_⟩
        · have := R.n; have := V.ol; have := V.le; have := V.P50; subst hD; exact ⟨rfl, by show (on + 1) * 16 ≤ _; omega, by show on + 1 ≤ _; omega⟩
        have R' : RowS f' n' (out ++ [x]) := by
          subst hD
          exact R.more hg0 hf' (by have := V.ol; have := V.le; have := V.P50; omega)
        clear hf' hg0
        cbv
        refine ⟨c, by have := V.m; have := hN.ce; omega, ?_⟩
        rw [hJ]
        have hc := hN.ce
        have hI2 := (addDen hIj (y := .l 1) (b := 1) ⟨rfl⟩ (by have := V.le; have := V.P50; omega)).d
        subst hD
        refine ⟨j + 1, at_ + nn, _, _, _, _, f', out ++ [x], rfl, rfl, ⟨V.pe, V.P1, V.P50, hI2, hAN.d, by omega, by omega, ?_, V.sl, ?_, ?_⟩, R', ?_⟩
        · have := V.ol; simp; omega
        · show (nl && false) = _; simp
        · rw [show P - (j + 1) = c by omega]; exact hN.se
        · rw [show P - (j + 1) = c by omega, hk, hx1]; simp
      · have hpos : ¬ 0 < nn := of_decide_eq_false (gtDen hNd h).symm
        clear h
        rw [if_neg hpos] at hk
        have hAN := addDen hAt hNd (by have := V.sl; have := hN.mx; omega)
        refine ⟨c, by have := V.m; have := hN.ce; omega, ?_⟩
        rw [hJ]
        have hc := hN.ce
        have hI2 := (addDen hIj (y := .l 1) (b := 1) ⟨rfl⟩ (by have := V.le; have := V.P50; omega)).d
        subst hD
        refine ⟨j + 1, at_ + nn, _, _, _, _, f, out, rfl, rfl, ⟨V.pe, V.P1, V.P50, hI2, hAN.d, by omega, by omega, ?_, V.sl, V.nl, ?_⟩, R, ?_⟩
        · have := V.ol; omega
        · rw [show P - (j + 1) = c by omega]; exact hN.se
        · rw [show P - (j + 1) = c by omega, hk]; simp
  · have h : decide (I < p) = false := h
    have hj : j = P := by have := V.I; have := V.pe; have := V.le; have := of_decide_eq_false h; omega
    clear h
    have hk2 : kl = out := by rw [hk, hj, Nat.sub_self]; simp [Pcs.prs]
    exact finSpl (f := f) (l' := out) (e' := 0) hD (by rw [hk2, hke]) hkn hkr R rfl (by show nl = _; rw [V.nl, hknb, hk2]) rfl
end Go.Proofs.YtljlcljlnhaniaaGreatDoor
