/- Part of the proof of the statement: an evaluator of the code at closed data, run by the kernel, and that it is sound; it has no conditions of its own. -/
import Derived.Test.YtljlcljlnhaniaaGreatDoorSpBs0
set_option linter.unusedVariables false
set_option linter.unusedSimpArgs false
namespace Go.Proofs.YtljlcljlnhaniaaGreatDoor
open Go.Sx
set_option maxRecDepth 10000
set_option maxHeartbeats 2000000
/-! backend.Split. -/
structure SlI (b : List UInt8) (out : List (List UInt8)) (i : Nat) (I : Int) (nl : Bool) (m : Nat) : Prop where
  I : I = (i : Int)
  m : m = i
  le : out.length + i ≤ 50
  b : b.length ≤ 100000
  nl : nl = out.isEmpty
def slJ (k : List (List UInt8)) (m : Nat) (vs : List (Option SV)) (hp : List Hl) : Prop :=
  ∃ (i : Nat) (I n : Int) (nl : Bool) (f : Nat → List SV) (out : List (List UInt8)) (b : List UInt8), vs = [some (.str b), some (.gsl (.a nl) (.a n) 1 f 0), some (.int .i64 (.a I))] ∧ hp = [.tail 9 (.a n) 1] ∧
    SlI b out i I nl m ∧ RowS f n out ∧ k = out ++ Pcs.pcs i b
theorem cutDen {b : List UInt8} {i : Nat} {I : Int} (hI : I = ((i + 1 : Nat) : Int)) (hl : b.length ≤ 100000) (hi : i + 1 ≤ 50) :
    ST.den (.bin .quo .i64 (.bin .sub .i64 (.bin .add .i64 (.len b) (.a I)) (.l 1)) (.a I)) = ((Pcs.cut b.length i : Nat) : Int) := by
  show IntKind.i64.wrap (Int.tdiv (IntKind.i64.wrap (IntKind.i64.wrap ((b.length : Int) + I) - 1)) I) = _
  have hc := @Pcs.cut_le b.length i
  rw [wrap64 (n := (b.length : Int) + I) (by omega) (by omega), wrap64 (n := (b.length : Int) + I - 1) (by omega) (by omega)]
  have e : (b.length : Int) + I - 1 = ((b.length + i : Nat) : Int) := by omega
  rw [e, hI]
  have e2 : Int.tdiv ((b.length + i : Nat) : Int) ((i + 1 : Nat) : Int) = ((Pcs.cut b.length i : Nat) : Int) := rfl
  rw [e2, wrap64 (by omega) (by omega)]
theorem split_ok {gl : List (Nat × SV)} : FnOk Tryz.prog gl 14 spSpl := by
  refine fnOk (gh := [(3, [.attach 6 9])]) smixed scxOk tabNil Tryz.func14 (by kernel_rfl) (by kernel_rfl) ?_
  intro xs ls K h
  unfold spSpl at h
  obtain ⟨s, p, rfl, rfl, hl, h⟩ := h
  obtain ⟨k, hk⟩ : ∃ k, k = splF s p := ⟨_, rfl⟩
  obtain ⟨kl, ke⟩ := k
  obtain ⟨kn, hkn⟩ : ∃ kn : Int, kn = (kl.length : Int) := ⟨_, rfl⟩
  obtain ⟨knb, hknb⟩ : ∃ knb : Bool, knb = kl.isEmpty := ⟨_, rfl⟩
  refine ⟨_, _, h kl ke kn knb hk hkn hknb, fun D hD => ?_⟩
  clear h
  obtain ⟨kr, hkr⟩ : ∃ kr, kr = strRow kl := ⟨_, rfl⟩
  rw [← hkr]
  cbv
  refine br hD (fun h => ?_) (fun h => ?_) <;> cbv
  · have h : (decide (p < 1) || decide (50 < p)) = true := h
    have hc : p < 1 ∨ 50 < p := by simpa using h
    rw [splF, if_pos hc] at hk
    exact finSpl (f := fun _ => []) hD hk hkn hkr RowS.nil rfl (by simp only [Prod.mk.injEq] at hk; rw [hknb, hk.1]; rfl) rfl
  have h : (decide (p < 1) || decide (50 < p)) = false := h
  have hc : ¬ (p < 1 ∨ 50 < p) := by simpa using h
  rw [splF, if_neg hc] at hk
  have hp1 : (p.toNat : Int) = p := by omega
  clear h
  simp only [Prod.mk.injEq] at hk
  obtain ⟨hk, hke⟩ := hk
  obtain ⟨q, hq⟩ : ∃ q, q = p.toNat := ⟨_, rfl⟩
  have hq50 : q ≤ 50 := by omega
  have hpq : p = (q : Int) := by omega
  rw [← hq] at hk
  clear hq hc hp1
  have hV : SlI s [] q p true q := ⟨hpq, rfl, by simpa using hq50, hl, rfl⟩
  clear hpq hq50
  obtain ⟨J, hJ⟩ : ∃ J, J = slJ kl := ⟨_, rfl⟩
  refine ⟨[0, 6, 7], J, ⟨rfl, q, ?_⟩, ?_⟩
  · rw [hJ]
    subst hD
    exact ⟨q, p, _, _, _, [], s, rfl, rfl, hV, RowS.nil, by rw [hk]; rfl⟩
  clear hk hV
  intro m vs hp' hv
  rw [hJ] at hv
  unfold slJ at hv
  obtain ⟨i, I, on, nl, f, out, b, rfl, rfl, V, R, hk⟩ := hv
  cbv
  refine br hD (fun h => ?_) (fun h => ?_) <;> cbv
  · have h : (decide (0 < I) && !(b == [])) = true := h
    have hi : 0 < I := by simp at h; exact h.1
    have hb : b ≠ [] := by simp at h; exact h.2
    clear h
    obtain ⟨i, rfl⟩ : ∃ j, i = j + 1 := ⟨i - 1, by have := V.I; omega⟩
    have hle := V.le
    have hden := cutDen V.I V.b (by omega)
    have hcl := @Pcs.cut_le b.length i
    have hpcs : Pcs.pcs (i + 1) b = b.take (Pcs.cut b.length i) :: Pcs.pcs i (b.drop (Pcs.cut b.length i)) := by rw [Pcs.pcs, if_neg hb]
    rw [hpcs] at hk
    have hI := V.I
    refine ⟨by subst hD; exact ⟨by show I ≠ 0; omega⟩, by subst hD; exact subS_of (s := b) (i := 0) (j := Pcs.cut b.length i) (a := .l 0) rfl hden (Nat.zero_le _) hcl, fun r hr => ?_⟩
    have hr1 : r = b.take (Pcs.cut b.length i) := by
      have := sub_of (i := 0) (a := .l 0) hD rfl hden hr
      rw [this, List.drop_zero, Nat.sub_zero]
    clear hr
    cbv
    intro g1 hg1
    have hg0 : g1 0 = [.str r] := hg1.h 0 _ rfl
    clear hg1
    cbv
    refine ⟨?_, fun f' n' hf' => ?_⟩
    · have := R.n; have := V.le; subst hD; exact ⟨rfl, by show (on + 1) * 16 ≤ _; omega, by show on + 1 ≤ _; omega⟩
    have R' : RowS f' n' (out ++ [r]) := by
      subst hD
      exact R.more hg0 hf' (by have := V.le; omega)
    clear hf' hg0
    cbv
    refine ⟨by subst hD; exact subS_of (s := b) (i := Pcs.cut b.length i) (j := b.length) (b := .len b) hden rfl hcl (Nat.le_refl _), fun r2 hr2 => ?_⟩
    have hr3 : r2 = b.drop (Pcs.cut b.length i) := by
      have := sub_of (j := b.length) (b := .len b) hD hden rfl hr2
      rw [this]; exact List.take_of_length_le (by simp)
    clear hr2
    cbv
    refine ⟨i, by have := V.m; omega, ?_⟩
    rw [hJ]
    have hI := V.I
    have hle := V.le
    have hI2 : IntKind.i64.wrap (I - 1) = (i : Int) := by rw [wrap64 (by omega) (by omega)]; omega
    subst hD
    refine ⟨i, _, _, _, f', out ++ [r], r2, rfl, rfl, ⟨hI2, rfl, ?_, ?_, ?_⟩, R', ?_⟩
    · simp; omega
    · rw [hr3, List.length_drop]; have := V.b; omega
    · show (nl && false) = _; simp
    · rw [hk, hr1, hr3]; simp
  · have h : (decide (0 < I) && !(b == [])) = false := h
    have hk2 : kl = out := by
      rw [hk]
      have hI := V.I
      cases i with
      | zero => simp [Pcs.pcs]
      | succ i =>
        have hb : b = [] := by
          have : 0 < I := by omega
          simpa [this] using h
        rw [Pcs.pcs, if_pos hb, List.append_nil]
    clear h
    exact finSpl (f := f) (l' := out) (e' := 0) hD (by rw [hk2, hke]) hkn hkr R rfl (by show nl = _; rw [V.nl, hknb, hk2]) rfl
end Go.Proofs.YtljlcljlnhaniaaGreatDoor
