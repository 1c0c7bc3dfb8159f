/- Part of the proof of the statement: an evaluator of the code at closed data, run by the kernel, and that it is sound; it has no conditions of its own. -/
import Derived.Test.YtljlcljlnhaniaaGreatDoorSpBs2
set_option linter.unusedVariables false
set_option linter.unusedSimpArgs false
namespace Go.Proofs.YtljlcljlnhaniaaGreatDoor
open Go.Sx
set_option maxRecDepth 10000
set_option maxHeartbeats 4000000
/-! BackendSplits. -/
def spT : FSpec := fun _ xs ls K => xs = [] ∧ ls = [] ∧ K (.bool (.a true)) []
def spLaw : FSpec := fun _ xs ls K => ∃ (s : List UInt8) (p : Int), xs = [.str s, .int .i64 (.a p)] ∧ ls = [] ∧ s.length ≤ 9223372036854775807 ∧ K (.bool (.a true)) []
structure LwI (l : List (List UInt8)) (all : List UInt8) (i : Nat) (I : Int) (m : Nat) : Prop where
  I : I = (i : Int)
  le : i ≤ l.length
  m : m = l.length - i
  all : all = (l.take i).flatten
structure LwF (s : List UInt8) (p e n : Int) (l : List (List UInt8)) : Prop where
  le : (l, e) = splF s p
  n : n = (l.length : Int)
  sl : s.length ≤ 3000
def lwJ (s : List UInt8) (nb nb2 : Bool) (n n2 e : Int) (f f2 : Nat → List SV) (l : List (List UInt8)) (m : Nat) (vs : List (Option SV)) (hp : List Hl) : Prop :=
  ∃ (i : Nat) (I : Int) (all : List UInt8), vs = [some (.str s), some (.sl (.a nb) (.a n) 1 f), some (.int .i64 (.a e)), some (.sl (.a nb2) (.a n2) 1 f2), some (.str all), some (.int .i64 (.a I))] ∧ hp = [] ∧ LwI l all i I m
structure PcI (x y : List UInt8) : Prop where
  ne : x ≠ []
  le : x.length ≤ y.length
  ge : y.length ≤ x.length + 1
  sm : y.length ≤ 3000
theorem LwF.pc {s : List UInt8} {p e n : Int} {l : List (List UInt8)} (h : LwF s p e n l) {i : Nat} (hi : i < l.length) : PcI (l.getD i []) (l.getD 0 []) := by
  have hl : l = Pcs.pcs p.toNat s := by
    have := h.le
    rw [splF] at this
    split at this
    · simp only [Prod.mk.injEq] at this
      rw [this.1] at hi; cases hi
    · simp only [Prod.mk.injEq] at this
      exact this.1
  have h1 : l.getD i [] ∈ Pcs.pcs p.toNat s := by
    rw [← hl, List.getD_eq_getElem?_getD, List.getElem?_eq_getElem hi]
    exact List.getElem_mem hi
  have h0 : l[0]? = some (l.getD 0 []) := by rw [List.getD_eq_getElem?_getD, List.getElem?_eq_getElem (by omega)]; rfl
  obtain ⟨a, b, c⟩ := Pcs.pcs_first h1 (y := l.getD 0 []) (by rw [← hl]; exact h0)
  have h2 : l.getD 0 [] ∈ Pcs.pcs p.toNat s := by rw [← hl]; exact List.mem_of_getElem? h0
  exact ⟨a, b, c, by have := Pcs.pcs_le _ _ _ h2; have := h.sl; omega⟩
theorem LwF.all {s : List UInt8} {p e n : Int} {l : List (List UInt8)} (h : LwF s p e n l) : ((l.flatten == s) || (e != 0)) = true := by
  have := h.le
  rw [splF] at this
  split at this
  · simp only [Prod.mk.injEq] at this
    rw [this.2]; simp
  · rename_i hp
    simp only [Prod.mk.injEq] at this
    obtain ⟨q, hq⟩ : ∃ q, p.toNat = q + 1 := ⟨p.toNat - 1, by omega⟩
    rw [this.1, hq, Pcs.pcs_all]; simp
theorem LwF.cnt {s : List UInt8} {p e n : Int} {l : List (List UInt8)} (h : LwF s p e n l) : l.length ≤ 50 := by
  have := h.le
  rw [splF] at this
  split at this
  · simp only [Prod.mk.injEq] at this
    rw [this.1]; simp
  · rename_i hp
    simp only [Prod.mk.injEq] at this
    have hc := Pcs.pcs_count p.toNat s
    rw [this.1]; omega
theorem flat_le {s : List UInt8} {p e n : Int} {l : List (List UInt8)} (h : LwF s p e n l) (i : Nat) : (l.take i).flatten.length ≤ 3000 := by
  have h1 : l.flatten.length ≤ 3000 := by
    have := h.le
    rw [splF] at this
    split at this
    · simp only [Prod.mk.injEq] at this
      rw [this.1]; simp
    · rename_i hp
      simp only [Prod.mk.injEq] at this
      obtain ⟨q, hq⟩ : ∃ q, p.toNat = q + 1 := ⟨p.toNat - 1, by omega⟩
      rw [this.1, hq, Pcs.pcs_all]; exact h.sl
  have h2 : l.flatten.length = (l.take i).flatten.length + (l.drop i).flatten.length := by
    rw [← List.length_append, ← List.flatten_append, List.take_append_drop]
  omega
theorem law_ok {gl : List (Nat × SV)} (shown_ok : FnOk Tryz.prog gl 13 spT) : FnOk Tryz.prog gl 5 spLaw := by
  refine fnOk (gh := []) smixed scxOk (tabCons shown_ok (tabCons split_ok (tabCons rsplit_ok tabNil))) Tryz.func5 (by kernel_rfl) (by kernel_rfl) ?_
  intro xs ls K h
  unfold spLaw at h
  obtain ⟨s, p, rfl, rfl, hl, h⟩ := h
  refine ⟨_, _, h, fun D hD => ?_⟩
  clear h
  cbv
  refine br hD (fun h => ?_) (fun h => ?_) <;> cbv
  · exact finBool hD rfl
  have h : decide (3000 < (s.length : Int)) = false := h
  have hs : s.length ≤ 3000 := by have := of_decide_eq_false h; omega
  clear h
  refine ⟨s, _, rfl, rfl, by omega, fun l e n nb hle0 hn hnb => ?_⟩
  have hle : (l, e) = splF s p := by subst hD; exact hle0
  clear hle0
  obtain ⟨f, hf⟩ : ∃ f, f = strRow l := ⟨_, rfl⟩
  rw [← hf]
  have hF : LwF s p e n l := ⟨hle, hn, hs⟩
  clear hle hn
  cbv
  refine ⟨s, _, rfl, rfl, by have := hF.sl; omega, fun l2 e2 n2 nb2 hle0 hn2 hnb2 => ?_⟩
  have hle2 : (l2, e2) = splF s p := by subst hD; exact hle0
  clear hle0
  obtain ⟨f2, hf2⟩ : ∃ f, f = strRow l2 := ⟨_, rfl⟩
  rw [← hf2]
  have hF2 : LwF s p e2 n2 l2 := ⟨hle2, hn2, hs⟩
  clear hle2 hn2 hs
  have hll : l2 = l ∧ e2 = e := by
    have := hF2.le.trans hF.le.symm
    simpa using this
  obtain ⟨rfl, rfl⟩ := hll
  have hnn : n2 = n := hF2.n.trans hF.n.symm
  have hff : f2 = f := by rw [hf2, hf]
  subst hnn hff
  clear hF2 hf2 hnb2
  cbv
  refine br hD (fun h => ?_) (fun h => ?_) <;> cbv
  · have h : (n2 != n2 || e2 != e2) = true := h
    simp at h
  clear h
  obtain ⟨J, hJ⟩ : ∃ J, J = lwJ s nb nb2 n2 n2 e2 f2 f2 l2 := ⟨_, rfl⟩
  refine ⟨[0, 5, 6, 7, 9, 10], J, ⟨rfl, l2.length, ?_⟩, ?_⟩
  · rw [hJ]
    subst hD
    exact ⟨0, _, _, rfl, rfl, ⟨rfl, Nat.zero_le _, rfl, rfl⟩⟩
  intro m vs hp' hv
  rw [hJ] at hv
  unfold lwJ at hv
  obtain ⟨i, I, all, rfl, rfl, V⟩ := hv
  cbv
  refine br hD (fun h => ?_) (fun h => ?_) <;> cbv
  · have h : decide (I < n2) = true := h
    have hlt : i < l2.length := by have := V.I; have := hF.n; have := of_decide_eq_true h; omega
    clear h
    obtain ⟨x, hx⟩ : ∃ x, x = l2.getD i [] := ⟨_, rfl⟩
    obtain ⟨y, hy⟩ : ∃ y, y = l2.getD 0 [] := ⟨_, rfl⟩
    have e1 : f2 i = [.str x] := by rw [hf, hx]; rfl
    have e0 : f2 0 = [.str y] := by rw [hf, hy]; rfl
    have hb : InB (D.i (.a I)) (D.i (.a n2)) := by have := V.I; have := hF.n; subst hD; exact ⟨by show 0 ≤ I; omega, by show I < n2; omega⟩
    have hb0 : InB (D.i (.l 0)) (D.i (.a n2)) := by have := hF.n; subst hD; exact ⟨by show (0 : Int) ≤ 0; omega, by show 0 < n2; omega⟩
    have hj1 : ∀ j, IsJ j (D.i (.a I)) → j = i := fun j hj => by subst hD; have h : (j : Int) = I := hj.h; have := V.I; omega
    have hj0 : ∀ j, IsJ j (D.i (.l 0)) → j = 0 := fun j hj => by subst hD; have h : (j : Int) = 0 := hj.h; omega
    refine ⟨hb, fun j hj => ?_⟩
    obtain rfl := hj1 j hj
    clear hj
    cbv
    rw [e1]
    cbv
    refine ⟨hb, fun j' hj => ?_⟩
    obtain rfl := hj1 j' hj
    clear hj
    cbv
    rw [e1]
    cbv
    refine ⟨fun _ => hb, fun k1 q1 => ?_⟩
    have q1 : _ → IsJ k1 _ := q1
    obtain ⟨z1, hz1⟩ : ∃ z, z = l2.getD k1 [] := ⟨_, rfl⟩
    have d1 : f2 k1 = [.str z1] := by rw [hf, hz1]; rfl
    cbv
    rw [d1]
    cbv
    refine ⟨fun _ => hb0, fun k2 q2 => ?_⟩
    have q2 : _ → IsJ k2 _ := q2
    obtain ⟨z2, hz2⟩ : ∃ z, z = l2.getD k2 [] := ⟨_, rfl⟩
    have d2 : f2 k2 = [.str z2] := by rw [hf, hz2]; rfl
    cbv
    rw [d2]
    cbv
    refine ⟨fun _ => hb, fun k3 q3 => ?_⟩
    have q3 : _ → IsJ k3 _ := q3
    obtain ⟨z3, hz3⟩ : ∃ z, z = l2.getD k3 [] := ⟨_, rfl⟩
    have d3 : f2 k3 = [.str z3] := by rw [hf, hz3]; rfl
    cbv
    rw [d3]
    cbv
    refine ⟨fun _ => hb0, fun k4 q4 => ?_⟩
    have q4 : _ → IsJ k4 _ := q4
    obtain ⟨z4, hz4⟩ : ∃ z, z = l2.getD k4 [] := ⟨_, rfl⟩
    have d4 : f2 k4 = [.str z4] := by rw [hf, hz4]; rfl
    cbv
    rw [d4]
    cbv
    refine ⟨fun _ => hb, fun k5 q5 => ?_⟩
    have q5 : _ → IsJ k5 _ := q5
    obtain ⟨z5, hz5⟩ : ∃ z, z = l2.getD k5 [] := ⟨_, rfl⟩
    have d5 : f2 k5 = [.str z5] := by rw [hf, hz5]; rfl
    cbv
    rw [d5]
    cbv
    refine ⟨⟨by kernel_rfl⟩, ?_⟩
    have hP := hF.pc hlt
    rw [← hx, ← hy] at hP
    have g1 : D.b (.not (.not (.seq x x))) = true := by subst hD; show (!(!(x == x))) = true; simp
    have r1 : z1 = x := by rw [hz1, hj1 k1 (q1 g1), hx]
    have r2 : z2 = y := by rw [hz2, hj0 k2 (q2 g1), hy]
    rw [r1, r2] at q3 q4 q5 ⊢
    have t1 : decide (((y.length : Nat) : Int) < ((x.length : Nat) : Int)) = false := by have := hP.le; exact decide_eq_false (by omega)
    have g2 : D.b (.not (.or (.not (.seq x x)) (.cmp .gtr (.len x) (.len y)))) = true := by
      subst hD
      show (!((!(x == x)) || decide (((y.length : Nat) : Int) < ((x.length : Nat) : Int)))) = true
      rw [t1]; simp
    have r3 : z3 = x := by rw [hz3, hj1 k3 (q3 g2), hx]
    have r4 : z4 = y := by rw [hz4, hj0 k4 (q4 g2), hy]
    rw [r3, r4] at q5 ⊢
    have t2 : decide (IntKind.i64.wrap (((x.length : Nat) : Int) + 1) < ((y.length : Nat) : Int)) = false := by
      have := hP.le; have := hP.ge; have := hP.sm
      rw [wrap64 (by omega) (by omega)]
      exact decide_eq_false (by omega)
    have g3 : D.b (.not (.or (.or (.not (.seq x x)) (.cmp .gtr (.len x) (.len y))) (.cmp .lss (.bin .add .i64 (.len x) (.l 1)) (.len y)))) = true := by
      subst hD
      show (!(((!(x == x)) || decide (((y.length : Nat) : Int) < ((x.length : Nat) : Int))) || decide (IntKind.i64.wrap (((x.length : Nat) : Int) + 1) < ((y.length : Nat) : Int)))) = true
      rw [t1, t2]; simp
    have r5 : z5 = x := by rw [hz5, hj1 k5 (q5 g3), hx]
    rw [r5]
    have t3 : (x == []) = false := by have := hP.ne; simpa using this
    clear q1 q2 q3 q4 q5 g1 g2 g3
    cbv
    refine br hD (fun h => ?_) (fun h => ?_) <;> cbv
    · have h : ((((!(x == x)) || decide (((y.length : Nat) : Int) < ((x.length : Nat) : Int))) || decide (IntKind.i64.wrap (((x.length : Nat) : Int) + 1) < ((y.length : Nat) : Int))) || (x == [])) = true := h
      rw [t1, t2, t3] at h
      simp at h
    · clear h t1 t2 t3 r1 r2 r3 r4 r5 hz1 hz2 hz3 hz4 hz5 d1 d2 d3 d4 d5
      refine ⟨hb, fun j hj => ?_⟩
      obtain rfl := hj1 j hj
      clear hj
      cbv
      rw [e1]
      cbv
      have hfl := flat_le hF j
      have hxl := hF.pc hlt
      rw [← hx, ← hy] at hxl
      refine ⟨⟨by have := V.all; have := hxl.le; have := hxl.sm; rw [V.all]; omega⟩, fun r hr => ?_⟩
      have hr2 : r = all ++ x := hr.h
      clear hr
      cbv
      refine ⟨l2.length - (j + 1), by have := V.m; omega, ?_⟩
      rw [hJ]
      have hI := V.I
      have hI2 : IntKind.i64.wrap (I + 1) = ((j + 1 : Nat) : Int) := by
        have := hF.n
        have hc : l2.length ≤ 50 := hF.cnt
        rw [wrap64 (by omega) (by omega)]; omega
      subst hD
      refine ⟨j + 1, _, r, rfl, rfl, ⟨hI2, by omega, rfl, ?_⟩⟩
      rw [hr2, V.all, List.take_add_one, List.flatten_append]
      congr 1
      rw [hx, List.getD_eq_getElem?_getD, List.getElem?_eq_getElem hlt]
      simp
  · have h : decide (I < n2) = false := h
    have hi : i = l2.length := by have := V.I; have := V.le; have := hF.n; have := of_decide_eq_false h; omega
    clear h
    refine finBool hD ?_
    show (((all == s) || (e2 != 0)) && true) = true
    have := hF.all
    rw [V.all, hi, List.take_length, this]; rfl
end Go.Proofs.YtljlcljlnhaniaaGreatDoor
