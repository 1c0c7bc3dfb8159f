/- Part of the proofs of the statements about tokens (layer 5): contracts of functions; it has no conditions of its own. -/
import Derived.Test.YtfchfhjpldppjaaGreatDoorTd
namespace Go.Proofs.YtfchfhjpldppjaaGreatDoor
open Go.Sx
set_option maxRecDepth 10000
set_option maxHeartbeats 4000000
/-! The order of weights; insertion sort. -/
abbrev Wt := List UInt8 × Int
def spNan : FSpec := fun _ xs ls K => ∃ (a : Int), xs = [.int .i64 (.a a)] ∧ ls = [] ∧ ∀ r : Bool, r = false → K (.bool (.a r)) []
theorem nan_ok : FnOk Tryz.prog gl 84 spNan := by
  refine fnOk (gh := []) mixed cxOk tabNil Tryz.func84 (by kernel_rfl) (by kernel_rfl) ?_
  intro xs ls K h
  unfold spNan at h
  obtain ⟨a, rfl, rfl, h⟩ := h
  refine ⟨_, _, h false rfl, fun D hD => ?_⟩
  clear h
  cbv
  refine finBool hD ?_
  show (a != a) = false
  simp
def cmpI (a b : Int) : Int := if a < b then -1 else if b < a then 1 else 0
def spCmp : FSpec := fun _ xs ls K => ∃ (a b : Int), xs = [.int .i64 (.a a), .int .i64 (.a b)] ∧ ls = [] ∧ ∀ r : Int, r = cmpI a b → K (.int .i64 (.a r)) []
theorem cmp_ok : FnOk Tryz.prog gl 60 spCmp := by
  refine fnOk (gh := []) mixed cxOk (tabCons nan_ok tabNil) Tryz.func60 (by kernel_rfl) (by kernel_rfl) ?_
  intro xs ls K h
  unfold spCmp at h
  obtain ⟨a, b, rfl, rfl, h⟩ := h
  obtain ⟨k, hk⟩ : ∃ k, k = cmpI a b := ⟨_, rfl⟩
  refine ⟨_, _, h k hk, fun D hD => ?_⟩
  clear h
  rw [cmpI] at hk
  cbv
  refine ⟨_, rfl, rfl, fun x hx => ?_⟩
  cbv
  refine ⟨_, rfl, rfl, fun y hy => ?_⟩
  subst hx hy
  cbv
  refine br hD (fun h => ?_) (fun h => ?_) <;> cbv
  · cases h
  refine br hD (fun h => ?_) (fun h => ?_) <;> cbv
  · cases h
  refine br hD (fun h => ?_) (fun h => ?_) <;> cbv
  · have h := of_decide_eq_true (p := a < b) h
    rw [if_pos h] at hk
    exact finInt hD hk.symm
  have h := of_decide_eq_false (p := a < b) h
  rw [if_neg h] at hk
  refine br hD (fun h => ?_) (fun h => ?_) <;> cbv
  · have h := of_decide_eq_true (p := b < a) h
    rw [if_pos h] at hk
    exact finInt hD hk.symm
  have h := of_decide_eq_false (p := b < a) h
  rw [if_neg h] at hk
  exact finInt hD hk.symm
def spW1 : FSpec := fun _ xs ls K => ∃ (a b : Wt), xs = [.agg [.str a.1, .int .i64 (.a a.2)], .agg [.str b.1, .int .i64 (.a b.2)]] ∧ ls = [] ∧ ∀ r : Int, r = cmpI b.2 a.2 → K (.int .i64 (.a r)) []
theorem w1_ok : FnOk Tryz.prog gl 59 spW1 := by
  refine fnOk (gh := []) mixed cxOk (tabCons cmp_ok tabNil) Tryz.func59 (by kernel_rfl) (by kernel_rfl) ?_
  intro xs ls K h
  unfold spW1 at h
  obtain ⟨⟨av, aq⟩, ⟨bv, bq⟩, rfl, rfl, h⟩ := h
  obtain ⟨k, hk⟩ : ∃ k, k = cmpI bq aq := ⟨_, rfl⟩
  refine ⟨_, _, h k hk, fun D hD => ?_⟩
  clear h
  cbv
  refine ⟨_, _, rfl, rfl, fun r hr => ?_⟩
  cbv
  refine finInt hD ?_
  rw [hk]; subst hD; exact hr
def wtSV (x : Wt) : List SV := [.str x.1, .int .i64 (.a x.2)]
def wtRow (l : List Wt) (i : Nat) : List SV := wtSV (l.getD i ([], 0))
structure RowW (f : Nat → List SV) (n : Int) (a : List Wt) : Prop where
  n : n = a.length
  f : ∀ i, i < a.length → f i = wtSV (a.getD i ([], 0))
  len : a.length ≤ 9223372036854775807
/-- Said of every place. -/
structure RowT (f : Nat → List SV) (n : Int) (a : List Wt) : Prop where
  n : n = a.length
  f : ∀ i, f i = wtSV (a.getD i ([], 0))
  len : a.length ≤ 9223372036854775807
def insR (x : Wt) : List Wt → List Wt
  | [] => [x]
  | y :: r => if y.2 < x.2 then y :: insR x r else x :: y :: r
def insW (S : List Wt) (x : Wt) : List Wt := (insR x S.reverse).reverse
theorem insR_len (x : Wt) (l : List Wt) : (insR x l).length = l.length + 1 := by
  induction l with
  | nil => rfl
  | cons y r ih =>
    rw [insR]
    split
    · simp [ih]
    · simp
theorem insW_len (S : List Wt) (x : Wt) : (insW S x).length = S.length + 1 := by simp [insW, insR_len]
theorem foldW_len : ∀ (R S : List Wt), (R.foldl insW S).length = S.length + R.length
  | [], S => rfl
  | x :: R, S => by rw [List.foldl_cons, foldW_len R, insW_len]; simp; omega
theorem insW_nil (x : Wt) : insW [] x = [x] := rfl
theorem insW_go {P : List Wt} {x y : Wt} (h : y.2 < x.2) : insW (P ++ [y]) x = insW P x ++ [y] := by
  unfold insW
  rw [List.reverse_append, List.reverse_singleton, List.singleton_append, insR, if_pos h, List.reverse_cons]
theorem insW_stop {P : List Wt} {x y : Wt} (h : ¬ y.2 < x.2) : insW (P ++ [y]) x = P ++ [y] ++ [x] := by
  unfold insW
  rw [List.reverse_append, List.reverse_singleton, List.singleton_append, insR, if_neg h]
  simp
theorem swap_set (Q U : List Wt) (x y : Wt) {j : Nat} (hj : j = Q.length + 1) : ((Q ++ [y, x] ++ U).set j y).set (j - 1) x = Q ++ [x, y] ++ U := by
  subst hj
  rw [Nat.add_sub_cancel, List.append_assoc, List.append_assoc, List.set_append_right _ _ (by omega), Nat.add_sub_cancel_left, List.set_append_right _ _ (Nat.le_refl _), Nat.sub_self]
  rfl
theorem RowT.set {f f' : Nat → List SV} {n : Int} {l : List Wt} {j : Nat} {x : Wt} (R : RowT f n l) (hj : j < l.length) (h : SetAt f' f j (wtSV x)) : RowT f' n (l.set j x) := by
  refine ⟨by rw [List.length_set]; exact R.n, fun i => ?_, by rw [List.length_set]; exact R.len⟩
  rw [List.getD_eq_getElem?_getD, List.getElem?_set]
  by_cases e : i = j
  · subst e
    rw [h.at_, if_pos rfl, if_pos hj]; rfl
  · rw [h.other i e, R.f i, if_neg (fun h => e h.symm), List.getD_eq_getElem?_getD]
structure InO (A S T Z : List Wt) (a b i : Nat) (I : Int) (m : Nat) : Prop where
  hA : A.length = a
  hi : (T = [] ∧ b ≤ i) ∨ (A.length + S.length = i ∧ i + T.length = b)
  hI : I = i
  hI2 : i ≤ 9223372036854775807
  hm : m = b - i
  len : A.length + S.length + T.length + Z.length ≤ 9223372036854775807
def inJ (k : List Wt) (a b : Nat) (nl : Bool) (n a0 b0 : Int) (m : Nat) (vs : List (Option SV)) (hp : List Hl) : Prop :=
  ∃ (A S T Z : List Wt) (i : Nat) (I : Int) (f : Nat → List SV), vs = [some (.osl (.a nl) (.a n) 0), some (.int .i64 (.a a0)), some (.int .i64 (.a b0)), some (.fn 59), some (.int .i64 (.a I))] ∧ hp = [.own 51 (.a n) 2 true f] ∧
    InO A S T Z a b i I m ∧ RowT f n (A ++ S ++ T ++ Z) ∧ k = A ++ T.foldl insW S ++ Z
theorem getD_mid {Q U : List Wt} {x : Wt} {j : Nat} (h : j = Q.length) : (Q ++ [x] ++ U).getD j ([], 0) = x := by
  subst h
  rw [List.getD_eq_getElem?_getD, List.append_assoc, List.getElem?_append_right (Nat.le_refl _), Nat.sub_self]; rfl
theorem seg_split {l : List Wt} {a b : Nat} (h1 : a < b) (h2 : b ≤ l.length) : ∃ x T, (l.take b).drop a = x :: T ∧ l = l.take a ++ [x] ++ T ++ l.drop b ∧ a + 1 + T.length = b := by
  obtain ⟨x, T, e⟩ : ∃ x T, (l.take b).drop a = x :: T := by
    cases h : (l.take b).drop a with
    | nil => have := congrArg List.length h; simp at this; omega
    | cons x T => exact ⟨x, T, rfl⟩
  refine ⟨x, T, e, ?_, ?_⟩
  · have h3 : l = l.take b ++ l.drop b := (List.take_append_drop b l).symm
    have h4 : l.take b = (l.take b).take a ++ (l.take b).drop a := (List.take_append_drop a _).symm
    rw [List.take_take, Nat.min_eq_left (by omega), e] at h4
    rw [List.append_assoc (l.take a), List.singleton_append, ← h4]; exact h3
  · have := congrArg List.length e
    simp at this; omega
theorem cmpI_neg {a b : Int} : cmpI a b < 0 ↔ a < b := by
  unfold cmpI
  split
  · simp [*]
  · split <;> simp [*]
structure InI (A P M T Z : List Wt) (a i j : Nat) (X : Int) (m : Nat) : Prop where
  hA : A.length = a
  hj : A.length + P.length = j
  hi : j + M.length = i
  hX : X = j
  hm : m = j
  len : A.length + P.length + 1 + M.length + T.length + Z.length ≤ 9223372036854775807
def inJ2 (k T Z : List Wt) (a _b i : Nat) (nl : Bool) (n a0 b0 I : Int) (m : Nat) (vs : List (Option SV)) (hp : List Hl) : Prop :=
  ∃ (A P M : List Wt) (x : Wt) (j : Nat) (X : Int) (f : Nat → List SV), vs = [some (.osl (.a nl) (.a n) 0), some (.int .i64 (.a a0)), some (.int .i64 (.a b0)), some (.fn 59), some (.int .i64 (.a I)), some (.int .i64 (.a X))] ∧ hp = [.own 51 (.a n) 2 true f] ∧
    InI A P M T Z a i j X m ∧ RowT f n (A ++ P ++ [x] ++ M ++ T ++ Z) ∧ k = A ++ T.foldl insW (insW P x ++ M) ++ Z
structure XB (a j : Nat) (a0 X n : Int) : Prop where
  x1 : Sx.InB (dn.i (.a X)) (dn.i (.a n))
  x2 : Sx.InB (dn.i (.bin .sub .i64 (.a X) (.l 1))) (dn.i (.a n))
  x3 : dn.i (.bin .sub .i64 (.a X) (.l 1)) = ((j - 1 : Nat) : Int)
  x4 : a < j
  x5 : X = (j : Int)
theorem XB.j1 {D : Dn} (hD : D = dn) {a j i : Nat} {a0 X n : Int} (V : XB a j a0 X n) (h : IsJ i (D.i (.a X))) : i = j := by
  subst hD; have h1 : (i : Int) = X := h.h; have := V.x5; omega
theorem XB.j2 {D : Dn} (hD : D = dn) {a j i : Nat} {a0 X n : Int} (V : XB a j a0 X n) (h : IsJ i (D.i (.bin .sub .i64 (.a X) (.l 1)))) : i = j - 1 := by
  subst hD; have h1 := h.h; rw [V.x3] at h1; omega
theorem XB.lt1 {D : Dn} (hD : D = dn) {a j i : Nat} {a0 X n : Int} (V : XB a j a0 X n) (h : IsJ i (D.i (.a X))) : LtB i (D.i (.a n)) := by
  subst hD; exact ⟨by rw [h.h]; exact V.x1.hi⟩
theorem XB.lt2 {D : Dn} (hD : D = dn) {a j i : Nat} {a0 X n : Int} (V : XB a j a0 X n) (h : IsJ i (D.i (.bin .sub .i64 (.a X) (.l 1)))) : LtB i (D.i (.a n)) := by
  subst hD; exact ⟨by rw [h.h]; exact V.x2.hi⟩
structure InB (a b : Nat) (a0 b0 : Int) (l : List Wt) : Prop where
  ha : a0 = a
  hb : b0 = b
  le : a ≤ b
  hi : b ≤ l.length
  len : l.length ≤ 1000000000
def sortSeg (l : List Wt) (a b : Nat) : List Wt := l.take a ++ ((l.take b).drop a).foldl insW [] ++ l.drop b
theorem sortSeg_len {l : List Wt} {a b : Nat} (h1 : a ≤ b) (h2 : b ≤ l.length) : (sortSeg l a b).length = l.length := by
  unfold sortSeg
  simp only [List.length_append, foldW_len, List.length_take, List.length_drop, List.length_nil]
  omega
theorem RowW.row {l : List Wt} {n : Int} (hn : n = l.length) (h : l.length ≤ 9223372036854775807) : RowW (wtRow l) n l := ⟨hn, fun _ _ => rfl, h⟩
theorem RowT.row {l : List Wt} {n : Int} (hn : n = l.length) (h : l.length ≤ 9223372036854775807) : RowT (wtRow l) n l := ⟨hn, fun _ => rfl, h⟩
def spInsT : FSpec := fun _ xs ls K => ∃ (l : List Wt) (nl : Bool) (n a0 b0 : Int) (a b : Nat) (f : Nat → List SV), xs = [.osl (.a nl) (.a n) 0, .int .i64 (.a a0), .int .i64 (.a b0), .fn 59] ∧ ls = [.own 51 (.a n) 2 true f] ∧ RowT f n l ∧ InB a b a0 b0 l ∧
  ∀ (k : List Wt) (f' : Nat → List SV), k = sortSeg l a b → f' = wtRow k → K (.tup []) [.own 51 (.a n) 2 true f']
theorem insT_ok : FnOk Tryz.prog gl 103 spInsT := by
  refine fnOk (gh := []) mixed cxOk (tabCons w1_ok tabNil) Tryz.func103 (by kernel_rfl) (by kernel_rfl) ?_
  intro xs ls K h
  unfold spInsT at h
  obtain ⟨l, nl, n, a0, b0, a, b, f, rfl, rfl, R, B, h⟩ := h
  obtain ⟨k, hk⟩ : ∃ k, k = sortSeg l a b := ⟨_, rfl⟩
  obtain ⟨kf, hkf⟩ : ∃ kf, kf = wtRow k := ⟨_, rfl⟩
  refine ⟨_, _, h k kf hk hkf, fun D hD => ?_⟩
  clear h
  cbv
  obtain ⟨J, hJ⟩ : ∃ J, J = inJ k a b nl n a0 b0 := ⟨_, rfl⟩
  refine ⟨[0, 1, 2, 3, 8], J, ⟨rfl, b - (a + 1), ?_⟩, ?_⟩
  · rw [hJ]
    subst hD
    have h1 := B.ha; have h2 := B.le; have h3 := B.hi; have h4 := B.len
    have e0 : dn.i (.bin .add .i64 (.a a0) (.l 1)) = ((a + 1 : Nat) : Int) := by
      show IntKind.i64.wrap (a0 + 1) = _
      rw [wrap64 (by omega) (by omega)]; omega
    by_cases hab : a < b
    · obtain ⟨x, T, e1, e2, e3⟩ := seg_split hab h3
      refine ⟨l.take a, [x], T, l.drop b, a + 1, _, f, rfl, rfl, ⟨by simp; omega, .inr ⟨by simp; omega, e3⟩, e0, by omega, rfl, by simp; omega⟩, by rw [← e2]; exact R, ?_⟩
      rw [hk, sortSeg, e1, List.foldl_cons, insW_nil]
    · have hab : a = b := by omega
      refine ⟨l.take a, [], [], l.drop b, a + 1, _, f, rfl, rfl, ⟨by simp; omega, .inl ⟨rfl, by omega⟩, e0, by omega, rfl, by simp; omega⟩, ?_, ?_⟩
      · subst hab; simpa using R
      · rw [hk, sortSeg]
        have : (l.take b).drop a = [] := by rw [List.drop_eq_nil_of_le (by simp; omega)]
        rw [this]
  clear hk
  intro m vs hp' hv
  rw [hJ] at hv
  unfold inJ at hv
  obtain ⟨A, S, T, Z, i, I, f, rfl, rfl, V, R, hk⟩ := hv
  cbv
  refine br hD (fun h => ?_) (fun h => ?_) <;> cbv
  · have hlt : i < b := by have h := of_decide_eq_true (p := I < b0) h; have := V.hI; have := B.hb; omega
    clear h
    have hi2 : A.length + S.length = i ∧ i + T.length = b := by
      rcases V.hi with ⟨_, h⟩ | h
      · omega
      · exact h
    obtain ⟨x, T, rfl⟩ : ∃ x T', T = x :: T' := by
      cases T with
      | nil => have := hi2.2; simp at this; omega
      | cons x T' => exact ⟨x, T', rfl⟩
    obtain ⟨J2, hJ2⟩ : ∃ J, J = inJ2 k T Z a b i nl n a0 b0 I := ⟨_, rfl⟩
    refine ⟨[0, 1, 2, 3, 8, 9], J2, ⟨rfl, i, ?_⟩, ?_⟩
    · rw [hJ2]
      subst hD
      have e : A ++ S ++ [x] ++ [] ++ T ++ Z = A ++ S ++ x :: T ++ Z := by simp
      exact ⟨A, S, [], x, i, _, f, rfl, rfl, ⟨V.hA, hi2.1, by simp, V.hI, rfl, by have := V.len; simp at this ⊢; omega⟩, by rw [e]; exact R, by rw [hk, List.append_nil]; rfl⟩
    clear hk
    intro m2 vs2 hp2 hv2
    rw [hJ2] at hv2
    unfold inJ2 at hv2
    obtain ⟨A, P, M, x, j, X, f2, rfl, rfl, W, R2, hk⟩ := hv2
    have hlen := W.len
    cbv
    have inb : a0 < X → XB a j a0 X n := by
      intro hg
      have h1 := W.hX; have h2 := R2.n; have h3 := B.ha; have h4 := W.len; have h5 := W.hj
      simp only [List.length_append, List.length_singleton] at h2
      have e : dn.i (.bin .sub .i64 (.a X) (.l 1)) = ((j - 1 : Nat) : Int) := by
        show IntKind.i64.wrap (X - 1) = _
        rw [wrap64 (by omega) (by omega)]; omega
      exact ⟨⟨by show 0 ≤ X; omega, by show X < n; omega⟩, ⟨by rw [e]; omega, by rw [e]; show _ < n; omega⟩, e, by omega, h1⟩
    refine ⟨fun _ => ⟨rfl⟩, fun hg => by subst hD; exact (inb (of_decide_eq_true (p := a0 < X) hg)).x1, fun j1 hj1 => ?_⟩
    have e1 := R2.f j1
    obtain ⟨u, hu⟩ : ∃ u, u = (A ++ P ++ [x] ++ M ++ T ++ Z).getD j1 ([], 0) := ⟨_, rfl⟩
    rw [← hu] at e1
    obtain ⟨uv, uq⟩ := u
    simp only [wtSV] at e1
    refine ⟨fun _ => ⟨rfl⟩, fun hg => ?_, ?_⟩
    · exact (inb (by subst hD; exact of_decide_eq_true (p := a0 < X) hg)).lt1 hD (hj1 hg)
    rw [e1]
    cbv
    refine ⟨fun _ => ⟨rfl⟩, fun hg => by subst hD; exact (inb (of_decide_eq_true (p := a0 < X) hg)).x2, fun j2 hj2 => ?_⟩
    have e2 := R2.f j2
    obtain ⟨w, hw⟩ : ∃ w, w = (A ++ P ++ [x] ++ M ++ T ++ Z).getD j2 ([], 0) := ⟨_, rfl⟩
    rw [← hw] at e2
    obtain ⟨wv, wq⟩ := w
    simp only [wtSV] at e2
    refine ⟨fun _ => ⟨rfl⟩, fun hg => ?_, ?_⟩
    · exact (inb (by subst hD; exact of_decide_eq_true (p := a0 < X) hg)).lt2 hD (hj2 hg)
    rw [e2]
    cbv
    refine ⟨(uv, _), (wv, _), rfl, rfl, fun r hr0 => ?_⟩
    have hr : r = cmpI wq uq := by subst hD; exact hr0
    clear hr0
    cbv
    refine br hD (fun h => ?_) (fun h => ?_) <;> cbv
    · have h : (decide (a0 < X) && decide (r < 0)) = true := h
      simp only [Bool.and_eq_true, decide_eq_true_eq] at h
      obtain ⟨hg, hr0⟩ := h
      have Q := inb hg
      obtain rfl : j1 = j := Q.j1 hD (hj1 (by subst hD; exact decide_eq_true hg))
      have hj2e : j2 = j1 - 1 := Q.j2 hD (hj2 (by subst hD; exact decide_eq_true hg))
      have i4 := Q.x4
      obtain ⟨P', y, rfl⟩ : ∃ P' y, P = P' ++ [y] := by
        rcases List.eq_nil_or_concat P with e | ⟨L, b, e⟩
        · have h1 := W.hj; have h2 := W.hA; rw [e, List.length_nil] at h1; omega
        · exact ⟨L, b, by simpa using e⟩
      have hjl : j1 = A.length + P'.length + 1 := by have := W.hj; simp at this; omega
      have hux : (uv, uq) = x := by
        rw [hu, show A ++ (P' ++ [y]) ++ [x] ++ M ++ T ++ Z = (A ++ (P' ++ [y])) ++ [x] ++ (M ++ T ++ Z) by simp]
        exact getD_mid (by simp; omega)
      have hwy : (wv, wq) = y := by
        rw [hw, show A ++ (P' ++ [y]) ++ [x] ++ M ++ T ++ Z = (A ++ P') ++ [y] ++ ([x] ++ M ++ T ++ Z) by simp]
        exact getD_mid (by simp; omega)
      subst hux hwy
      have hlt2 : wq < uq := cmpI_neg.1 (by rw [← hr]; exact hr0)
      clear hj1 hj2
      have next : ∀ f3 f4, SetAt f3 f2 j1 (wtSV (wv, wq)) → SetAt f4 f3 j2 (wtSV (uv, uq)) → RowT f4 n (A ++ P' ++ [(uv, uq)] ++ ((wv, wq) :: M) ++ T ++ Z) := by
        intro f3 f4 h3 h4
        have hl : j1 < (A ++ (P' ++ [(wv, wq)]) ++ [(uv, uq)] ++ M ++ T ++ Z).length := by simp; omega
        have := ((R2.set hl h3).set (j := j2) (by rw [List.length_set]; omega) h4)
        rw [hj2e, show A ++ (P' ++ [(wv, wq)]) ++ [(uv, uq)] ++ M ++ T ++ Z = (A ++ P') ++ [(wv, wq), (uv, uq)] ++ (M ++ T ++ Z) by simp, swap_set (A ++ P') (M ++ T ++ Z) (uv, uq) (wv, wq) (by simp; omega)] at this
        simpa using this
      clear h inb hr
      refine ⟨⟨rfl⟩, by subst hD; exact Q.x2, fun j3 hj3 => ?_⟩
      have e3 : f2 j3 = [.str wv, .int .i64 (.a wq)] := by rw [show j3 = j2 by rw [hj2e]; exact Q.j2 hD hj3]; exact e2
      refine ⟨⟨rfl⟩, Q.lt2 hD hj3, ?_⟩
      rw [e3]
      cbv
      refine ⟨⟨rfl⟩, by subst hD; exact Q.x1, fun j4 hj4 => ?_⟩
      have e4 : f2 j4 = [.str uv, .int .i64 (.a uq)] := by rw [show j4 = j1 from Q.j1 hD hj4]; exact e1
      refine ⟨⟨rfl⟩, Q.lt1 hD hj4, ?_⟩
      rw [e4]
      cbv
      refine ⟨⟨rfl⟩, by subst hD; exact Q.x1, fun j5 hj5 => ?_⟩
      have h5 : j5 = j1 := Q.j1 hD hj5
      have e5 : f2 j5 = [.str uv, .int .i64 (.a uq)] := by rw [h5]; exact e1
      refine ⟨⟨rfl⟩, Q.lt1 hD hj5, ?_⟩
      rw [e5]
      cbv
      intro f3 hf3
      have g3 : SetAt f3 f2 j1 (wtSV (wv, wq)) := by subst hD; rw [← h5]; exact hf3
      cbv
      refine ⟨⟨rfl⟩, by subst hD; exact Q.x2, fun j6 hj6 => ?_⟩
      have h6 : j6 = j2 := by rw [hj2e]; exact Q.j2 hD hj6
      have e6 : f3 j6 = [.str wv, .int .i64 (.a wq)] := by rw [g3.other j6 (by omega), h6]; exact e2
      refine ⟨⟨rfl⟩, Q.lt2 hD hj6, ?_⟩
      rw [e6]
      cbv
      intro f4 hf4
      have g4 : SetAt f4 f3 j2 (wtSV (uv, uq)) := by subst hD; rw [← h6]; exact hf4
      have R4 := next f3 f4 g3 g4
      rw [insW_go hlt2] at hk
      have q3 := Q.x3
      cbv
      refine ⟨j1 - 1, by have := W.hm; omega, ?_⟩
      rw [hJ2]
      subst hD
      exact ⟨A, P', (wv, wq) :: M, (uv, uq), j1 - 1, _, f4, rfl, rfl, ⟨W.hA, by omega, by have := W.hi; simp; omega, Q.x3, rfl, by simp at hlen ⊢; omega⟩, R4, by rw [hk]; simp⟩
    · have h : (decide (a0 < X) && decide (r < 0)) = false := h
      have hst : insW P x = P ++ [x] := by
        rcases List.eq_nil_or_concat P with e | ⟨P', y, e⟩
        · rw [e]; rfl
        · have e : P = P' ++ [y] := by simpa using e
          subst e
          have hjl : j = A.length + P'.length + 1 := by have := W.hj; simp at this; omega
          have hg : a0 < X := by have := W.hX; have := B.ha; have := W.hA; omega
          have Q := inb hg
          have hj1e : j1 = j := Q.j1 hD (hj1 (by subst hD; exact decide_eq_true hg))
          have hj2e : j2 = j - 1 := Q.j2 hD (hj2 (by subst hD; exact decide_eq_true hg))
          have hux : (uv, uq) = x := by
            rw [hu, show A ++ (P' ++ [y]) ++ [x] ++ M ++ T ++ Z = (A ++ (P' ++ [y])) ++ [x] ++ (M ++ T ++ Z) by simp]
            exact getD_mid (by simp; omega)
          have hwy : (wv, wq) = y := by
            rw [hw, show A ++ (P' ++ [y]) ++ [x] ++ M ++ T ++ Z = (A ++ P') ++ [y] ++ ([x] ++ M ++ T ++ Z) by simp]
            exact getD_mid (by simp; omega)
          have hn : ¬ r < 0 := by
            intro hr1
            have h1 : decide (a0 < X) = true := decide_eq_true hg
            have h2 : decide (r < 0) = true := decide_eq_true hr1
            rw [h1, h2] at h; cases h
          rw [hr, cmpI_neg] at hn
          exact insW_stop (by rw [← hux, ← hwy]; exact hn)
      rw [hst] at hk
      have hi3 : i + 1 ≤ b := by omega
      have hw1 : dn.i (.bin .add .i64 (.a I) (.l 1)) = ((i + 1 : Nat) : Int) := by
        have h1 := V.hI; have h2 := B.hi; have h3 := B.len
        show IntKind.i64.wrap (I + 1) = _
        rw [wrap64 (by omega) (by omega)]; omega
      refine ⟨b - (i + 1), by have := V.hm; omega, ?_⟩
      rw [hJ]
      subst hD
      have hsum := hi2.2
      refine ⟨A, P ++ [x] ++ M, T, Z, i + 1, _, f2, rfl, rfl, ⟨W.hA, .inr ⟨by have := W.hj; have := W.hi; simp; omega, by simp at hsum; omega⟩, hw1, by have := B.hi; have := B.len; omega, rfl, by simp; omega⟩, by simpa using R2, by rw [hk]⟩
  · have hge : b ≤ i := by have h := of_decide_eq_false (p := I < b0) h; have := V.hI; have := B.hb; omega
    have hT : T = [] := by
      rcases V.hi with ⟨h, _⟩ | ⟨_, h⟩
      · exact h
      · exact List.eq_nil_of_length_eq_zero (by omega)
    subst hT
    have hk2 : k = A ++ S ++ [] ++ Z := by rw [hk]; simp
    refine finOwn (LeV.refl _) (by subst hD; rfl) fun q _ => ?_
    rw [R.f q, hkf, hk2]; rfl
end Go.Proofs.YtfchfhjpldppjaaGreatDoor
namespace Go.Proofs.YtfchfhjpldppjaaGreatDoor
set_option maxRecDepth 10000
set_option maxHeartbeats 4000000
/-! What a stable sort gives: the greater ones first, those with equal ones as they stood; there is one such list alone. -/
def Srt (l : List Wt) : Prop := l.Pairwise fun x y => y.2 ≤ x.2
def Stb (k l : List Wt) : Prop := ∀ q : Int, k.filter (fun x => x.2 == q) = l.filter (fun x => x.2 == q)
theorem Stb.refl (l : List Wt) : Stb l l := fun _ => rfl
theorem Stb.trans {a b c : List Wt} (h : Stb a b) (k : Stb b c) : Stb a c := fun q => (h q).trans (k q)
theorem Stb.symm {a b : List Wt} (h : Stb a b) : Stb b a := fun q => (h q).symm
theorem Stb.append {a b c d : List Wt} (h : Stb a b) (k : Stb c d) : Stb (a ++ c) (b ++ d) := fun q => by rw [List.filter_append, List.filter_append, h q, k q]
theorem Stb.mem {a b : List Wt} (h : Stb a b) {x : Wt} : x ∈ a ↔ x ∈ b := by
  have := h x.2
  have h1 : x ∈ a ↔ x ∈ a.filter (fun y => y.2 == x.2) := by simp
  have h2 : x ∈ b ↔ x ∈ b.filter (fun y => y.2 == x.2) := by simp
  rw [h1, h2, this]
theorem srt_unique : ∀ {a b : List Wt}, Srt a → Srt b → Stb a b → a = b
  | [], [], _, _, _ => rfl
  | [], y :: b, _, _, h => by have := (h.mem (x := y)).2 (by simp); cases this
  | x :: a, [], _, _, h => by have := (h.mem (x := x)).1 (by simp); cases this
  | x :: a, y :: b, ha, hb, h => by
    have hx : x ∈ y :: b := (h.mem).1 (by simp)
    have hy : y ∈ x :: a := (h.mem).2 (by simp)
    have hle1 : x.2 ≤ y.2 := by
      rcases List.mem_cons.1 hx with e | e
      · rw [e]; exact Int.le_refl _
      · exact (List.pairwise_cons.1 hb).1 x e
    have hle2 : y.2 ≤ x.2 := by
      rcases List.mem_cons.1 hy with e | e
      · rw [e]; exact Int.le_refl _
      · exact (List.pairwise_cons.1 ha).1 y e
    have he : x.2 = y.2 := by omega
    have h0 := h x.2
    rw [List.filter_cons_of_pos (by simp), List.filter_cons_of_pos (by simp [he])] at h0
    have hxy : x = y := (List.cons.inj h0).1
    subst hxy
    have hs : Stb a b := by
      intro q
      have := h q
      by_cases e : x.2 = q
      · rw [List.filter_cons_of_pos (by simp [e]), List.filter_cons_of_pos (by simp [e])] at this
        exact (List.cons.inj this).2
      · rw [List.filter_cons_of_neg (by simp [e]), List.filter_cons_of_neg (by simp [e])] at this
        exact this
    rw [srt_unique (List.pairwise_cons.1 ha).2 (List.pairwise_cons.1 hb).2 hs]
def sortF (l : List Wt) : List Wt := l.foldl insW []
theorem insR_mem {x : Wt} : ∀ {l : List Wt} {y : Wt}, y ∈ insR x l → y = x ∨ y ∈ l
  | [], y, h => by simp [insR] at h; exact .inl h
  | z :: r, y, h => by
    rw [insR] at h
    split at h
    · rcases List.mem_cons.1 h with e | e
      · exact .inr (by simp [e])
      · rcases insR_mem e with e | e
        · exact .inl e
        · exact .inr (by simp [e])
    · rcases List.mem_cons.1 h with e | e
      · exact .inl e
      · exact .inr e
theorem insR_srt {x : Wt} : ∀ {l : List Wt}, (l.Pairwise fun x y => x.2 ≤ y.2) → (insR x l).Pairwise fun x y => x.2 ≤ y.2
  | [], _ => by simp [insR]
  | z :: r, h => by
    have h1 := List.pairwise_cons.1 h
    rw [insR]
    split
    · rename_i hlt
      refine List.pairwise_cons.2 ⟨fun y hy => ?_, insR_srt h1.2⟩
      rcases insR_mem hy with e | e
      · rw [e]; omega
      · exact h1.1 y e
    · rename_i hlt
      refine List.pairwise_cons.2 ⟨fun y hy => ?_, h⟩
      rcases List.mem_cons.1 hy with e | e
      · rw [e]; omega
      · have := h1.1 y e; omega
theorem insR_fil {x : Wt} (q : Int) : ∀ (l : List Wt), (l.Pairwise fun x y => x.2 ≤ y.2) → (insR x l).filter (fun y => y.2 == q) = (x :: l).filter (fun y => y.2 == q)
  | [], _ => rfl
  | z :: r, h => by
    rw [insR]
    split
    · rename_i hlt
      have ih := insR_fil (x := x) q r (List.pairwise_cons.1 h).2
      by_cases ez : z.2 = q
      · have ex : ¬ x.2 = q := by omega
        rw [List.filter_cons_of_pos (by simp [ez]), ih, List.filter_cons_of_neg (by simp [ex]), List.filter_cons_of_neg (by simp [ex]), List.filter_cons_of_pos (by simp [ez])]
      · rw [List.filter_cons_of_neg (by simp [ez]), ih]
        by_cases ex : x.2 = q
        · rw [List.filter_cons_of_pos (by simp [ex]), List.filter_cons_of_pos (by simp [ex]), List.filter_cons_of_neg (by simp [ez])]
        · rw [List.filter_cons_of_neg (by simp [ex]), List.filter_cons_of_neg (by simp [ex]), List.filter_cons_of_neg (by simp [ez])]
    · rfl
theorem srt_rev {l : List Wt} : Srt l ↔ l.reverse.Pairwise fun x y => x.2 ≤ y.2 := by
  unfold Srt
  rw [List.pairwise_reverse]
theorem insW_srt {S : List Wt} {x : Wt} (h : Srt S) : Srt (insW S x) := by
  rw [srt_rev, insW, List.reverse_reverse]
  exact insR_srt (srt_rev.1 h)
theorem insW_stb {S : List Wt} {x : Wt} (h : Srt S) : Stb (insW S x) (S ++ [x]) := by
  intro q
  have := insR_fil (x := x) q S.reverse (srt_rev.1 h)
  rw [insW, List.filter_reverse, this, ← List.filter_reverse]
  simp
theorem fold_sort : ∀ (R S : List Wt), Srt S → Srt (R.foldl insW S) ∧ Stb (R.foldl insW S) (S ++ R)
  | [], S, h => ⟨h, by simp; exact Stb.refl S⟩
  | x :: R, S, h => by
    have ih := fold_sort R (insW S x) (insW_srt h)
    refine ⟨ih.1, ih.2.trans ?_⟩
    have := (insW_stb (x := x) h).append (Stb.refl R)
    simpa using this
theorem sortF_srt (l : List Wt) : Srt (sortF l) := (fold_sort l [] List.Pairwise.nil).1
theorem sortF_stb (l : List Wt) : Stb (sortF l) l := by have := (fold_sort l [] List.Pairwise.nil).2; simpa [sortF] using this
theorem sortF_eq {k l : List Wt} (h : Srt k) (hs : Stb k l) : k = sortF l := srt_unique h (sortF_srt l) (hs.trans (sortF_stb l).symm)
theorem sortF_congr {k l : List Wt} (hs : Stb k l) : sortF k = sortF l := sortF_eq (sortF_srt k) ((sortF_stb k).trans hs)
theorem srt_app {a b : List Wt} : Srt (a ++ b) ↔ Srt a ∧ Srt b ∧ ∀ x ∈ a, ∀ y ∈ b, y.2 ≤ x.2 := List.pairwise_append
/-- The step of the symmetric merge: two halves, each sorted, exchanged in the middle. -/
theorem merge_step {A1 A2 B1 B2 : List Wt} (hA : Srt (A1 ++ A2)) (hB : Srt (B1 ++ B2)) (h1 : A1 = [] ∨ B2 = [] ∨ ∃ x ∈ A1.getLast?, ∃ y ∈ B2.head?, y.2 ≤ x.2)
    (h2 : A2 = [] ∨ B1 = [] ∨ ∃ x ∈ A2.head?, ∃ y ∈ B1.getLast?, x.2 < y.2) : sortF (A1 ++ A2 ++ (B1 ++ B2)) = sortF (A1 ++ B1) ++ sortF (A2 ++ B2) := by
  have hA' := srt_app.1 hA
  have hB' := srt_app.1 hB
  have first : ∀ {l : List Wt} {x : Wt}, Srt l → x ∈ l.head? → ∀ y ∈ l, y.2 ≤ x.2 := by
    intro l x hl hx y hy
    cases l with
    | nil => cases hy
    | cons z r =>
      simp at hx; subst hx
      rcases List.mem_cons.1 hy with e | e
      · rw [e]; exact Int.le_refl _
      · exact (List.pairwise_cons.1 hl).1 y e
  have last : ∀ {l : List Wt} {x : Wt}, Srt l → x ∈ l.getLast? → ∀ y ∈ l, x.2 ≤ y.2 := by
    intro l x hl hx y hy
    rcases List.eq_nil_or_concat l with e | ⟨L, b, e⟩
    · rw [e] at hy; cases hy
    · have e : l = L ++ [b] := by simpa using e
      subst e
      simp at hx; subst hx
      rcases List.mem_append.1 hy with e | e
      · exact (srt_app.1 hl).2.2 y e b (by simp)
      · simp at e; rw [e]; exact Int.le_refl _
  have c12 : ∀ x ∈ A1, ∀ y ∈ B2, y.2 ≤ x.2 := by
    intro x hx y hy
    rcases h1 with e | e | ⟨u, hu, v, hv, huv⟩
    · rw [e] at hx; cases hx
    · rw [e] at hy; cases hy
    · have := last hA'.1 hu x hx
      have := first hB'.2.1 hv y hy
      omega
  have c21 : ∀ x ∈ A2, ∀ y ∈ B1, x.2 < y.2 := by
    intro x hx y hy
    rcases h2 with e | e | ⟨u, hu, v, hv, huv⟩
    · rw [e] at hx; cases hx
    · rw [e] at hy; cases hy
    · have := first hA'.2.1 hu x hx
      have := last hB'.1 hv y hy
      omega
  refine (sortF_eq ?_ ?_).symm
  · refine srt_app.2 ⟨sortF_srt _, sortF_srt _, fun x hx y hy => ?_⟩
    rcases List.mem_append.1 ((sortF_stb _).mem.1 hx) with hx | hx <;> rcases List.mem_append.1 ((sortF_stb _).mem.1 hy) with hy | hy
    · exact hA'.2.2 x hx y hy
    · exact c12 x hx y hy
    · exact Int.le_of_lt (c21 y hy x hx)
    · exact hB'.2.2 x hx y hy
  · refine ((sortF_stb (A1 ++ B1)).append (sortF_stb (A2 ++ B2))).trans fun q => ?_
    simp only [List.filter_append, List.append_assoc]
    congr 1
    by_cases e1 : B1.filter (fun x => x.2 == q) = []
    · rw [e1]; simp
    · have e2 : A2.filter (fun x => x.2 == q) = [] := by
        rw [List.filter_eq_nil_iff]
        intro x hx hq
        obtain ⟨y, hy⟩ := List.exists_mem_of_ne_nil _ e1
        simp only [List.mem_filter, beq_iff_eq] at hy hq
        have := c21 x hx y hy.1
        omega
      rw [e2]; simp
/-- One that is brought behind those that are greater. -/
theorem ins_first {x : Wt} {B1 B2 : List Wt} (hB : Srt (B1 ++ B2)) (h1 : B1 = [] ∨ ∃ y ∈ B1.getLast?, x.2 < y.2) (h2 : B2 = [] ∨ ∃ y ∈ B2.head?, y.2 ≤ x.2) : sortF (x :: (B1 ++ B2)) = B1 ++ x :: B2 := by
  have := merge_step (A1 := []) (A2 := [x]) (B1 := B1) (B2 := B2) (List.pairwise_singleton _ _) hB (.inl rfl) (by
    rcases h1 with e | ⟨y, hy, h⟩
    · exact .inr (.inl e)
    · exact .inr (.inr ⟨x, by simp, y, hy, h⟩))
  simp only [List.nil_append, List.singleton_append] at this
  rw [this, ← sortF_eq (srt_app.1 hB).1 (Stb.refl _)]
  congr 1
  refine (sortF_eq ?_ (Stb.refl _)).symm
  refine List.pairwise_cons.2 ⟨fun y hy => ?_, (srt_app.1 hB).2.1⟩
  rcases h2 with e | ⟨z, hz, h⟩
  · rw [e] at hy; cases hy
  · cases B2 with
    | nil => cases hy
    | cons u r =>
      simp at hz; subst hz
      rcases List.mem_cons.1 hy with e | e
      · rw [e]; exact h
      · have := (List.pairwise_cons.1 (srt_app.1 hB).2.1).1 y e
        omega
/-- One that is brought ahead of those that are less. -/
theorem ins_last {x : Wt} {A1 A2 : List Wt} (hA : Srt (A1 ++ A2)) (h1 : A1 = [] ∨ ∃ y ∈ A1.getLast?, x.2 ≤ y.2) (h2 : A2 = [] ∨ ∃ y ∈ A2.head?, y.2 < x.2) : sortF (A1 ++ A2 ++ [x]) = A1 ++ x :: A2 := by
  have h2' : A2 = [] ∨ [x] = [] ∨ ∃ y ∈ A2.head?, ∃ z ∈ [x].getLast?, y.2 < z.2 := by
    rcases h2 with e | ⟨y, hy, h⟩
    · exact .inl e
    · exact .inr (.inr ⟨y, hy, x, by simp, h⟩)
  have := merge_step (A1 := A1) (A2 := A2) (B1 := [x]) (B2 := []) hA (List.pairwise_singleton _ _) (.inr (.inl rfl)) h2'
  simp only [List.append_nil] at this
  rw [this, ← sortF_eq (srt_app.1 hA).2.1 (Stb.refl _)]
  have : sortF (A1 ++ [x]) = A1 ++ [x] := by
    refine (sortF_eq ?_ (Stb.refl _)).symm
    refine srt_app.2 ⟨(srt_app.1 hA).1, List.pairwise_singleton _ _, fun u hu y hy => ?_⟩
    simp at hy; subst hy
    rcases h1 with e | ⟨z, hz, h⟩
    · rw [e] at hu; cases hu
    · rcases List.eq_nil_or_concat A1 with e | ⟨L, b, e⟩
      · rw [e] at hu; cases hu
      · have e : A1 = L ++ [b] := by simpa using e
        subst e
        simp at hz; subst hz
        rcases List.mem_append.1 hu with e | e
        · have := (srt_app.1 (srt_app.1 hA).1).2.2 u e b (by simp); omega
        · simp at e; rw [e]; exact h
  rw [this]; simp
end Go.Proofs.YtfchfhjpldppjaaGreatDoor
namespace Go.Proofs.YtfchfhjpldppjaaGreatDoor
open Go.Sx
set_option maxRecDepth 10000
set_option maxHeartbeats 4000000
/-! Of the stable sort: two ranges are swapped. -/
/-- An index that is known. -/
structure IxB (t : ST) (n : Int) (p : Nat) : Prop where
  e : dn.i t = (p : Int)
  hi : (p : Int) < n
theorem IxB.inB {D : Dn} (hD : D = dn) {t : ST} {n : Int} {p : Nat} (V : IxB t n p) : Sx.InB (D.i t) (D.i (.a n)) := by
  subst hD; exact ⟨by rw [V.e]; omega, by rw [V.e]; exact V.hi⟩
theorem IxB.j {D : Dn} (hD : D = dn) {t : ST} {n : Int} {p i : Nat} (V : IxB t n p) (h : IsJ i (D.i t)) : i = p := by
  subst hD; have h1 := h.h; rw [V.e] at h1; omega
theorem IxB.lt {D : Dn} (hD : D = dn) {t : ST} {n : Int} {p i : Nat} (V : IxB t n p) (h : IsJ i (D.i t)) : LtB i (D.i (.a n)) := by
  subst hD; exact ⟨by rw [h.h, V.e]; exact V.hi⟩
structure SwB (P X M Y Q : List Wt) (a0 b0 c0 : Int) : Prop where
  ha : a0 = (P.length : Int)
  hb : b0 = ((P.length + X.length + M.length : Nat) : Int)
  hc : c0 = (X.length : Int)
  hy : Y.length = X.length
  len : P.length + X.length + M.length + Y.length + Q.length ≤ 1000000000
def spSwap : FSpec := fun _ xs ls K => ∃ (P X M Y Q : List Wt) (nl : Bool) (n a0 b0 c0 : Int) (f : Nat → List SV), xs = [.osl (.a nl) (.a n) 0, .int .i64 (.a a0), .int .i64 (.a b0), .int .i64 (.a c0), .fn 59] ∧ ls = [.own 51 (.a n) 2 true f] ∧
  RowT f n (P ++ X ++ M ++ Y ++ Q) ∧ SwB P X M Y Q a0 b0 c0 ∧ ∀ (k : List Wt) (f' : Nat → List SV), k = P ++ Y ++ M ++ X ++ Q → f' = wtRow k → K (.tup []) [.own 51 (.a n) 2 true f']
structure SwI (P M Q X1 X2 Y1 Y2 : List Wt) (a0 b0 c0 I : Int) (m : Nat) : Prop where
  ha : a0 = (P.length : Int)
  hb : b0 = ((P.length + (Y1.length + X2.length) + M.length : Nat) : Int)
  hc : c0 = ((Y1.length + X2.length : Nat) : Int)
  h1 : X1.length = Y1.length
  h2 : X2.length = Y2.length
  hI : I = (Y1.length : Int)
  hm : m = X2.length
  len : P.length + (Y1.length + X2.length) + M.length + (X1.length + Y2.length) + Q.length ≤ 1000000000
def swJ (k P M Q : List Wt) (nl : Bool) (n a0 b0 c0 : Int) (m : Nat) (vs : List (Option SV)) (hp : List Hl) : Prop :=
  ∃ (X1 X2 Y1 Y2 : List Wt) (I : Int) (f : Nat → List SV), vs = [some (.osl (.a nl) (.a n) 0), some (.int .i64 (.a a0)), some (.int .i64 (.a b0)), some (.int .i64 (.a c0)), some (.int .i64 (.a I))] ∧ hp = [.own 51 (.a n) 2 true f] ∧
    SwI P M Q X1 X2 Y1 Y2 a0 b0 c0 I m ∧ RowT f n (P ++ Y1 ++ X2 ++ M ++ X1 ++ Y2 ++ Q) ∧ k = P ++ (Y1 ++ Y2) ++ M ++ (X1 ++ X2) ++ Q
theorem set_mid {U V : List Wt} {x y : Wt} {j : Nat} (h : j = U.length) : (U ++ [x] ++ V).set j y = U ++ [y] ++ V := by
  subst h
  rw [List.append_assoc, List.set_append_right _ _ (Nat.le_refl _), Nat.sub_self]
  simp
theorem swap_ok : FnOk Tryz.prog gl 133 spSwap := by
  refine fnOk (gh := []) mixed cxOk tabNil Tryz.func133 (by kernel_rfl) (by kernel_rfl) ?_
  intro xs ls K h
  unfold spSwap at h
  obtain ⟨P, X, M, Y, Q, nl, n, a0, b0, c0, f, rfl, rfl, R, B, h⟩ := h
  obtain ⟨k, hk⟩ : ∃ k, k = P ++ Y ++ M ++ X ++ Q := ⟨_, rfl⟩
  obtain ⟨kf, hkf⟩ : ∃ kf, kf = wtRow k := ⟨_, rfl⟩
  refine ⟨_, _, h k kf hk hkf, fun D hD => ?_⟩
  clear h
  cbv
  obtain ⟨J, hJ⟩ : ∃ J, J = swJ k P M Q nl n a0 b0 c0 := ⟨_, rfl⟩
  refine ⟨[0, 1, 2, 3, 10], J, ⟨rfl, X.length, ?_⟩, ?_⟩
  · rw [hJ]
    subst hD
    refine ⟨[], X, [], Y, _, f, rfl, rfl, ⟨B.ha, ?_, ?_, rfl, B.hy.symm, rfl, rfl, ?_⟩, by simpa using R, by simpa using hk⟩
    · rw [B.hb]; simp
    · rw [B.hc]; simp
    · have := B.len; simp; omega
  clear hk R B
  intro m vs hp' hv
  rw [hJ] at hv
  unfold swJ at hv
  obtain ⟨X1, X2, Y1, Y2, I, f, rfl, rfl, V, R, hk⟩ := hv
  cbv
  refine br hD (fun h => ?_) (fun h => ?_) <;> cbv
  · have h : decide (I < c0) = true := h
    have hlt : I < c0 := of_decide_eq_true h
    clear h
    obtain ⟨x, X3, rfl⟩ : ∃ x X', X2 = x :: X' := by
      cases X2 with
      | nil => have h1 := V.hI; have h2 := V.hc; simp at h2; omega
      | cons x X' => exact ⟨x, X', rfl⟩
    obtain ⟨y, Y3, rfl⟩ : ∃ y Y', Y2 = y :: Y' := by
      cases Y2 with
      | nil => have h1 := V.h2; simp at h1
      | cons y Y' => exact ⟨y, Y', rfl⟩
    have ix : IxB (.bin .add .i64 (.a a0) (.a I)) n (P ++ Y1).length := by
      have h1 := V.ha; have h2 := V.hI; have h3 := R.n; have h4 := V.len
      simp only [List.length_append, List.length_cons] at h3 h4 ⊢
      refine ⟨?_, by omega⟩
      show IntKind.i64.wrap (a0 + I) = _
      rw [wrap64 (by omega) (by omega)]; omega
    have iy : IxB (.bin .add .i64 (.a b0) (.a I)) n (P ++ Y1 ++ (x :: X3) ++ M ++ X1).length := by
      have h1 := V.hb; have h2 := V.hI; have h3 := R.n; have h4 := V.len; have h5 := V.h1
      simp only [List.length_append, List.length_cons] at h1 h3 h4 ⊢
      refine ⟨?_, by omega⟩
      show IntKind.i64.wrap (b0 + I) = _
      rw [wrap64 (by omega) (by omega)]; omega
    obtain ⟨p, hp⟩ : ∃ p, p = (P ++ Y1).length := ⟨_, rfl⟩
    obtain ⟨q, hq⟩ : ∃ q, q = (P ++ Y1 ++ (x :: X3) ++ M ++ X1).length := ⟨_, rfl⟩
    have hpq : p ≠ q := by rw [hp, hq]; simp
    rw [← hp] at ix
    rw [← hq] at iy
    have ex : f p = wtSV x := by
      rw [R.f p, show P ++ Y1 ++ (x :: X3) ++ M ++ X1 ++ (y :: Y3) ++ Q = (P ++ Y1) ++ [x] ++ (X3 ++ M ++ X1 ++ (y :: Y3) ++ Q) by simp, getD_mid hp]
    have ey : f q = wtSV y := by
      rw [R.f q, show P ++ Y1 ++ (x :: X3) ++ M ++ X1 ++ (y :: Y3) ++ Q = (P ++ Y1 ++ (x :: X3) ++ M ++ X1) ++ [y] ++ (Y3 ++ Q) by simp, getD_mid hq]
    have next : ∀ f3 f4, SetAt f3 f p (wtSV y) → SetAt f4 f3 q (wtSV x) → RowT f4 n (P ++ (Y1 ++ [y]) ++ X3 ++ M ++ (X1 ++ [x]) ++ Y3 ++ Q) := by
      intro f3 f4 h3 h4
      have e1 : P ++ Y1 ++ (x :: X3) ++ M ++ X1 ++ (y :: Y3) ++ Q = (P ++ Y1) ++ [x] ++ (X3 ++ M ++ X1 ++ (y :: Y3) ++ Q) := by simp
      have R1 := R.set (by rw [hp]; simp <;> omega) h3
      rw [e1, set_mid hp] at R1
      have e2 : (P ++ Y1) ++ [y] ++ (X3 ++ M ++ X1 ++ (y :: Y3) ++ Q) = (P ++ Y1 ++ [y] ++ X3 ++ M ++ X1) ++ [y] ++ (Y3 ++ Q) := by simp
      have R2 := R1.set (j := q) (by rw [hq]; simp <;> omega) h4
      rw [e2, set_mid (by rw [hq]; simp <;> omega)] at R2
      simpa using R2
    obtain ⟨xv, xq⟩ := x
    obtain ⟨yv, yq⟩ := y
    simp only [wtSV] at ex ey
    clear hp hq
    refine ⟨⟨rfl⟩, iy.inB hD, fun j1 hj1 => ?_⟩
    obtain rfl := iy.j hD hj1
    refine ⟨⟨rfl⟩, iy.lt hD hj1, ?_⟩
    rw [ey]
    cbv
    refine ⟨⟨rfl⟩, ix.inB hD, fun j2 hj2 => ?_⟩
    obtain rfl := ix.j hD hj2
    refine ⟨⟨rfl⟩, ix.lt hD hj2, ?_⟩
    rw [ex]
    cbv
    refine ⟨⟨rfl⟩, ix.inB hD, fun j3 hj3 => ?_⟩
    obtain rfl := ix.j hD hj3
    refine ⟨⟨rfl⟩, ix.lt hD hj3, ?_⟩
    rw [ex]
    cbv
    intro f3 hf3
    have g3 : SetAt f3 f j3 (wtSV (yv, yq)) := by subst hD; exact hf3
    clear hf3
    have ey3 : f3 j1 = [.str yv, .int .i64 (.a yq)] := by rw [g3.other j1 (fun e => hpq e.symm)]; exact ey
    cbv
    refine ⟨⟨rfl⟩, iy.inB hD, fun j6 hj6 => ?_⟩
    obtain rfl : j6 = j1 := iy.j hD hj6
    refine ⟨⟨rfl⟩, iy.lt hD hj6, ?_⟩
    rw [ey3]
    cbv
    intro f4 hf4
    have g4 : SetAt f4 f3 j6 (wtSV (xv, xq)) := by subst hD; exact hf4
    have R4 := next f3 f4 g3 g4
    have W : SwI P M Q (X1 ++ [(xv, xq)]) X3 (Y1 ++ [(yv, yq)]) Y3 a0 b0 c0 (dn.i (.bin .add .i64 (.a I) (.l 1))) X3.length := by
      have v1 := V.ha; have v2 := V.hb; have v3 := V.hc; have v4 := V.h1; have v5 := V.h2; have v6 := V.hI; have v7 := V.len
      simp only [List.length_cons] at v2 v3 v5 v7
      refine ⟨v1, ?_, ?_, ?_, ?_, ?_, rfl, ?_⟩
      · simp; omega
      · simp; omega
      · simp; omega
      · omega
      · show IntKind.i64.wrap (I + 1) = _
        rw [wrap64 (by omega) (by omega)]; simp; omega
      · simp; omega
    have hm : X3.length < m := by have := V.hm; simp at this; omega
    clear hf4 next R
    cbv
    refine ⟨X3.length, hm, ?_⟩
    rw [hJ]
    subst hD
    exact ⟨X1 ++ [(xv, xq)], X3, Y1 ++ [(yv, yq)], Y3, _, f4, rfl, rfl, W, by simpa using R4, by rw [hk]; simp⟩
  · have h : decide (I < c0) = false := h
    have hge : ¬ I < c0 := of_decide_eq_false h
    clear h
    have h2 : X2 = [] := by
      have h1 := V.hI; have h2 := V.hc
      exact List.eq_nil_of_length_eq_zero (by omega)
    subst h2
    have h3 : Y2 = [] := List.eq_nil_of_length_eq_zero (by have := V.h2; simpa using this.symm)
    subst h3
    have hk2 : k = P ++ Y1 ++ [] ++ M ++ X1 ++ [] ++ Q := by rw [hk]; simp
    refine finOwn (LeV.refl _) (by subst hD; rfl) fun q _ => ?_
    rw [R.f q, hkf, hk2]; rfl
end Go.Proofs.YtfchfhjpldppjaaGreatDoor
namespace Go.Proofs.YtfchfhjpldppjaaGreatDoor
open Go.Sx
set_option maxRecDepth 10000
set_option maxHeartbeats 4000000
/-! Of the stable sort: a range is rotated. -/
structure RotB (P X Y Q : List Wt) (a0 m0 b0 : Int) : Prop where
  ha : a0 = (P.length : Int)
  hm : m0 = ((P.length + X.length : Nat) : Int)
  hb : b0 = ((P.length + X.length + Y.length : Nat) : Int)
  hx : 0 < X.length
  hy : 0 < Y.length
  len : P.length + X.length + Y.length + Q.length ≤ 1000000000
def spRot : FSpec := fun _ xs ls K => ∃ (P X Y Q : List Wt) (nl : Bool) (n a0 m0 b0 : Int) (f : Nat → List SV), xs = [.osl (.a nl) (.a n) 0, .int .i64 (.a a0), .int .i64 (.a m0), .int .i64 (.a b0), .fn 59] ∧ ls = [.own 51 (.a n) 2 true f] ∧
  RowT f n (P ++ X ++ Y ++ Q) ∧ RotB P X Y Q a0 m0 b0 ∧ ∀ (k : List Wt) (f' : Nat → List SV), k = P ++ Y ++ X ++ Q → f' = wtRow k → K (.tup []) [.own 51 (.a n) 2 true f']
structure RotI (P X Y Q : List Wt) (m0 I J : Int) (m : Nat) : Prop where
  hm : m0 = ((P.length + X.length : Nat) : Int)
  hI : I = (X.length : Int)
  hJ : J = (Y.length : Int)
  hx : 0 < X.length
  hy : 0 < Y.length
  ms : m = X.length + Y.length
  len : P.length + X.length + Y.length + Q.length ≤ 1000000000
def rotJ (k : List Wt) (nl : Bool) (n m0 : Int) (m : Nat) (vs : List (Option SV)) (hp : List Hl) : Prop :=
  ∃ (P X Y Q : List Wt) (I J : Int) (f : Nat → List SV), vs = [some (.osl (.a nl) (.a n) 0), some (.int .i64 (.a m0)), some (.fn 59), some (.int .i64 (.a I)), some (.int .i64 (.a J))] ∧ hp = [.own 51 (.a n) 2 true f] ∧
    RotI P X Y Q m0 I J m ∧ RowT f n (P ++ X ++ Y ++ Q) ∧ k = P ++ Y ++ X ++ Q
theorem rot_ok : FnOk Tryz.prog gl 117 spRot := by
  refine fnOk (gh := []) mixed cxOk (tabCons swap_ok tabNil) Tryz.func117 (by kernel_rfl) (by kernel_rfl) ?_
  intro xs ls K h
  unfold spRot at h
  obtain ⟨P, X, Y, Q, nl, n, a0, m0, b0, f, rfl, rfl, R, B, h⟩ := h
  obtain ⟨k, hk⟩ : ∃ k, k = P ++ Y ++ X ++ Q := ⟨_, rfl⟩
  obtain ⟨kf, hkf⟩ : ∃ kf, kf = wtRow k := ⟨_, rfl⟩
  refine ⟨_, _, h k kf hk hkf, fun D hD => ?_⟩
  clear h
  cbv
  obtain ⟨J, hJ⟩ : ∃ J, J = rotJ k nl n m0 := ⟨_, rfl⟩
  refine ⟨[0, 2, 4, 10, 11], J, ⟨rfl, X.length + Y.length, ?_⟩, ?_⟩
  · rw [hJ]
    subst hD
    have h1 := B.ha; have h2 := B.hm; have h3 := B.hb; have h4 := B.len
    refine ⟨P, X, Y, Q, _, _, f, rfl, rfl, ⟨B.hm, ?_, ?_, B.hx, B.hy, rfl, B.len⟩, R, hk⟩
    · show IntKind.i64.wrap (m0 - a0) = _
      rw [wrap64 (by omega) (by omega)]; omega
    · show IntKind.i64.wrap (b0 - m0) = _
      rw [wrap64 (by omega) (by omega)]; omega
  clear hk R B
  intro m vs hp' hv
  rw [hJ] at hv
  unfold rotJ at hv
  obtain ⟨P, X, Y, Q, I, Jv, f, rfl, rfl, V, R, hk⟩ := hv
  have sub1 : D = dn → D.i (.bin .sub .i64 (.a m0) (.a I)) = (P.length : Int) := by
    intro hD; subst hD
    have h1 := V.hm; have h2 := V.hI; have h3 := V.len
    show IntKind.i64.wrap (m0 - I) = _
    rw [wrap64 (by omega) (by omega)]; omega
  cbv
  refine br hD (fun h => ?_) (fun h => ?_) <;> cbv
  · have h : (I != Jv) = true := h
    have hne : I ≠ Jv := by simpa using h
    clear h
    refine br hD (fun h => ?_) (fun h => ?_) <;> cbv
    · have h : decide (Jv < I) = true := h
      have hlt : Jv < I := of_decide_eq_true h
      clear h
      obtain ⟨X1, X2, hX⟩ : ∃ X1 X2, X = X1 ++ X2 ∧ X1.length = Y.length ∧ 0 < X2.length := ⟨X.take Y.length, X.drop Y.length, (List.take_append_drop _ _).symm, by have := V.hI; have := V.hJ; rw [List.length_take]; omega, by have := V.hI; have := V.hJ; rw [List.length_drop]; omega⟩
      have RX : RowT f n (P ++ X1 ++ X2 ++ Y ++ Q) := by rw [hX.1] at R; simpa using R
      have sb : D = dn → SwB P X1 X2 Y Q (D.i (.bin .sub .i64 (.a m0) (.a I))) (D.i (.a m0)) (D.i (.a Jv)) := by
        intro hD
        have s1 := sub1 hD
        subst hD
        have h1 := V.hm; have h2 := V.hJ; have h3 := V.len; have h4 := hX.1; have h5 := hX.2.1
        subst h4
        simp only [List.length_append] at h1 h3
        exact ⟨s1, by show m0 = _; omega, by show Jv = _; omega, h5.symm, by omega⟩
      refine ⟨P, X1, X2, Y, Q, _, _, _, _, _, f, rfl, rfl, by subst hD; exact RX, sb hD, fun k2 f2 hk2 hf2 => ?_⟩
      have R2 : RowT f2 n (P ++ Y ++ X2 ++ X1 ++ Q) := by
        have hn := R.n; have hl := R.len
        rw [hX.1] at hn hl
        rw [hf2, hk2]
        exact RowT.row (by simp at hn ⊢; omega) (by simp at hl ⊢; omega)
      clear hk2 hf2 sb
      cbv
      have W : RotI (P ++ Y) X2 X1 Q m0 (dn.i (.bin .sub .i64 (.a I) (.a Jv))) Jv (X2.length + X1.length) := by
        have h1 := V.hm; have h2 := V.hJ; have h3 := V.len; have h4 := hX.1; have h5 := hX.2.1; have h6 := hX.2.2; have h7 := V.hI; have h8 := V.hy
        subst h4
        simp only [List.length_append] at h1 h3 h7
        refine ⟨by simp; omega, ?_, by omega, h6, by omega, rfl, by simp; omega⟩
        show IntKind.i64.wrap (I - Jv) = _
        rw [wrap64 (by omega) (by omega)]; omega
      have hm : X2.length + X1.length < m := by
        have h1 := V.ms; have h4 := hX.1; have h8 := V.hy
        subst h4
        simp only [List.length_append] at h1; omega
      have hk2 : k = P ++ Y ++ X1 ++ X2 ++ Q := by rw [hk, hX.1]; simp
      refine ⟨X2.length + X1.length, hm, ?_⟩
      rw [hJ]
      subst hD
      exact ⟨P ++ Y, X2, X1, Q, _, _, f2, rfl, rfl, W, R2, hk2⟩
    · have h : decide (Jv < I) = false := h
      have hlt : I < Jv := by have := of_decide_eq_false h; omega
      clear h
      obtain ⟨Y1, Y2, hY⟩ : ∃ Y1 Y2, Y = Y1 ++ Y2 ∧ Y2.length = X.length ∧ 0 < Y1.length := ⟨Y.take (Y.length - X.length), Y.drop (Y.length - X.length), (List.take_append_drop _ _).symm, by have := V.hI; have := V.hJ; rw [List.length_drop]; omega, by have := V.hI; have := V.hJ; rw [List.length_take]; omega⟩
      have RX : RowT f n (P ++ X ++ Y1 ++ Y2 ++ Q) := by rw [hY.1] at R; simpa using R
      have sb : D = dn → SwB P X Y1 Y2 Q (D.i (.bin .sub .i64 (.a m0) (.a I))) (D.i (.bin .sub .i64 (.bin .add .i64 (.a m0) (.a Jv)) (.a I))) (D.i (.a I)) := by
        intro hD
        have s1 := sub1 hD
        subst hD
        have h1 := V.hm; have h2 := V.hJ; have h3 := V.len; have h4 := hY.1; have h5 := hY.2.1; have h6 := V.hI
        subst h4
        simp only [List.length_append] at h1 h2 h3
        refine ⟨s1, ?_, by show I = _; omega, h5, by omega⟩
        show IntKind.i64.wrap (IntKind.i64.wrap (m0 + Jv) - I) = _
        rw [wrap64 (n := m0 + Jv) (by omega) (by omega), wrap64 (by omega) (by omega)]; omega
      refine ⟨P, X, Y1, Y2, Q, _, _, _, _, _, f, rfl, rfl, by subst hD; exact RX, sb hD, fun k2 f2 hk2 hf2 => ?_⟩
      have R2 : RowT f2 n (P ++ Y2 ++ Y1 ++ (X ++ Q)) := by
        have hn := R.n; have hl := R.len
        rw [hY.1] at hn hl
        have e : P ++ Y2 ++ Y1 ++ X ++ Q = P ++ Y2 ++ Y1 ++ (X ++ Q) := by simp
        rw [hf2, hk2, e]
        exact RowT.row (by simp at hn ⊢; omega) (by simp at hl ⊢; omega)
      clear hk2 hf2 sb
      cbv
      have W : RotI P Y2 Y1 (X ++ Q) m0 I (dn.i (.bin .sub .i64 (.a Jv) (.a I))) (Y2.length + Y1.length) := by
        have h1 := V.hm; have h2 := V.hJ; have h3 := V.len; have h4 := hY.1; have h5 := hY.2.1; have h6 := hY.2.2; have h7 := V.hI; have h8 := V.hx
        subst h4
        simp only [List.length_append] at h2 h3
        refine ⟨by omega, by omega, ?_, by omega, h6, rfl, by simp; omega⟩
        show IntKind.i64.wrap (Jv - I) = _
        rw [wrap64 (by omega) (by omega)]; omega
      have hm : Y2.length + Y1.length < m := by
        have h1 := V.ms; have h4 := hY.1; have h8 := V.hx
        subst h4
        simp only [List.length_append] at h1; omega
      have hk2 : k = P ++ Y1 ++ Y2 ++ (X ++ Q) := by rw [hk, hY.1]; simp
      refine ⟨Y2.length + Y1.length, hm, ?_⟩
      rw [hJ]
      subst hD
      exact ⟨P, Y2, Y1, X ++ Q, _, _, f2, rfl, rfl, W, R2, hk2⟩
  · have h : (I != Jv) = false := h
    have he : I = Jv := by simpa using h
    clear h
    have RX : RowT f n (P ++ X ++ [] ++ Y ++ Q) := by simpa using R
    have sb : D = dn → SwB P X [] Y Q (D.i (.bin .sub .i64 (.a m0) (.a I))) (D.i (.a m0)) (D.i (.a I)) := by
      intro hD
      have s1 := sub1 hD
      subst hD
      have h1 := V.hm; have h2 := V.hJ; have h3 := V.len; have h6 := V.hI
      exact ⟨s1, by show m0 = _; simp; omega, by show I = _; omega, by omega, by simp; omega⟩
    refine ⟨P, X, [], Y, Q, _, _, _, _, _, f, rfl, rfl, by subst hD; exact RX, sb hD, fun k2 f2 hk2 hf2 => ?_⟩
    have hk3 : k2 = k := by rw [hk2, hk]; simp
    cbv
    refine finOwn (LeV.refl _) (by subst hD; rfl) fun q _ => ?_
    rw [hf2, hkf, hk3]
end Go.Proofs.YtfchfhjpldppjaaGreatDoor
namespace Go.Proofs.YtfchfhjpldppjaaGreatDoor
open Go.Sx
set_option maxRecDepth 10000
set_option maxHeartbeats 4000000
/-! Of the stable sort: the symmetric merge; its plain parts. -/
def tt2 : List (Nat × TI) := (129, ⟨.int .u64, 1, 8, [.int .u64 (.l 0)]⟩) :: tt
theorem tt2_ok : ttB Tryz.prog tt2 = true := by kernel_rfl
theorem cxOk2 {tab : List (Nat × FSpec)} {gl : List (Nat × SV)} {gh : List (Nat × List Gh)} : CxOk Tryz.prog ⟨dn, tt2, tab, gl, eqs, gh⟩ := ⟨rfl, tt2_ok, (cxOk (tab := tab) (gl := gl) (gh := gh)).eqs⟩
def wq (l : List Wt) (t : Nat) : Int := (l.getD t ([], 0)).2
theorem half_den {i j : Nat} {I Jv : Int} (hI : I = i) (hj : Jv = j) (h : i + j ≤ 2000000000) : dn.i (.cv .i64 (.bin .shr .u64 (.cv .u64 (.bin .add .i64 (.a I) (.a Jv))) (.l 1))) = (((i + j) / 2 : Nat) : Int) := by
  show IntKind.i64.wrap (Int.fdiv (IntKind.u64.wrap (IntKind.i64.wrap (I + Jv))) 2) = _
  rw [wrap64 (n := I + Jv) (by omega) (by omega), show IntKind.u64.wrap (I + Jv) = I + Jv from IntWalk.u64_in _ ⟨by omega, by omega⟩, Int.fdiv_eq_ediv_of_nonneg _ (by omega)]
  rw [wrap64 (by omega) (by omega)]
  omega
/-- A search between two places: what is known left of it, and at it. -/
structure BsI (lo hi i j : Nat) (pl pr : Nat → Prop) (I Jv : Int) (m : Nat) : Prop where
  hI : I = i
  hJ : Jv = j
  le : lo ≤ i ∧ i ≤ j ∧ j ≤ hi
  L : i = lo ∨ pl (i - 1)
  R : j = hi ∨ pr j
  ms : m = j - i
theorem BsI.right {lo hi i j : Nat} {pl pr : Nat → Prop} {I Jv : Int} {m : Nat} (V : BsI lo hi i j pl pr I Jv m) {h : Nat} (h1 : h = (i + j) / 2) (h2 : i < j) {H : Int} (hH : H = ((h + 1 : Nat) : Int)) (hp : pl h) : BsI lo hi (h + 1) j pl pr H Jv (j - (h + 1)) ∧ j - (h + 1) < m := by
  have := V.le; have := V.ms
  exact ⟨⟨hH, V.hJ, by omega, .inr (by simpa using hp), V.R, rfl⟩, by omega⟩
theorem BsI.left {lo hi i j : Nat} {pl pr : Nat → Prop} {I Jv : Int} {m : Nat} (V : BsI lo hi i j pl pr I Jv m) {h : Nat} (h1 : h = (i + j) / 2) (h2 : i < j) {H : Int} (hH : H = (h : Int)) (hp : pr h) : BsI lo hi i h pl pr I H (h - i) ∧ h - i < m := by
  have := V.le; have := V.ms
  exact ⟨⟨V.hI, hH, by omega, V.L, .inr hp, rfl⟩, by omega⟩
theorem getLast_take {B : List Wt} {c : Nat} (h : 0 < c) (h2 : c ≤ B.length) : ∃ y, y ∈ (B.take c).getLast? ∧ y = B.getD (c - 1) ([], 0) := by
  refine ⟨B.getD (c - 1) ([], 0), ?_, rfl⟩
  rw [List.getD_eq_getElem?_getD, List.getElem?_eq_getElem (by omega)]
  rw [Option.mem_def, List.getLast?_eq_getElem?, List.getElem?_take, if_pos (by rw [List.length_take]; omega), List.length_take, Nat.min_eq_left h2, List.getElem?_eq_getElem (by omega)]
  rfl
theorem head_drop {B : List Wt} {c : Nat} (h2 : c < B.length) : ∃ y, y ∈ (B.drop c).head? ∧ y = B.getD c ([], 0) := by
  refine ⟨B.getD c ([], 0), ?_, rfl⟩
  rw [List.getD_eq_getElem?_getD, List.getElem?_eq_getElem h2, Option.mem_def, List.head?_drop, List.getElem?_eq_getElem h2]
  rfl
theorem getD_at {U B V : List Wt} {t c : Nat} (h : t = U.length + c) (h2 : c < B.length) : (U ++ B ++ V).getD t ([], 0) = B.getD c ([], 0) := by
  subst h
  rw [List.getD_eq_getElem?_getD, List.getD_eq_getElem?_getD, List.append_assoc, List.getElem?_append_right (by omega), Nat.add_sub_cancel_left, List.getElem?_append_left h2]
theorem srt_cut {B : List Wt} (h : Srt B) (c : Nat) : Srt (B.take c ++ B.drop c) := by rw [List.take_append_drop]; exact h
/-- One at the left. -/
theorem first_done {P B Q : List Wt} {x : Wt} {s : Nat} (hB : Srt B) (h1 : P.length + 1 ≤ s) (h2 : s ≤ P.length + 1 + B.length)
    (hl : s = P.length + 1 ∨ x.2 < wq (P ++ [x] ++ B ++ Q) (s - 1)) (hr : s = P.length + 1 + B.length ∨ wq (P ++ [x] ++ B ++ Q) s ≤ x.2) :
    sortF ([x] ++ B) = B.take (s - (P.length + 1)) ++ [x] ++ B.drop (s - (P.length + 1)) := by
  have key := ins_first (x := x) (B1 := B.take (s - (P.length + 1))) (B2 := B.drop (s - (P.length + 1))) (srt_cut hB _) ?_ ?_
  · rw [List.take_append_drop] at key
    rw [List.singleton_append, key]; simp
  · rcases hl with e | e
    · left; rw [e]; simp
    · by_cases e0 : s = P.length + 1
      · left; rw [e0]; simp
      right
      obtain ⟨y, hy, hy2⟩ := getLast_take (B := B) (c := s - (P.length + 1)) (by omega) (by omega)
      refine ⟨y, hy, ?_⟩
      rw [wq, getD_at (U := P ++ [x]) (c := s - (P.length + 1) - 1) (by simp; omega) (by omega)] at e
      rw [hy2]; exact e
  · rcases hr with e | e
    · left; rw [e]; simp
    · by_cases e0 : s = P.length + 1 + B.length
      · left; rw [e0]; simp
      right
      obtain ⟨y, hy, hy2⟩ := head_drop (B := B) (c := s - (P.length + 1)) (by omega)
      refine ⟨y, hy, ?_⟩
      rw [wq, getD_at (U := P ++ [x]) (c := s - (P.length + 1)) (by simp; omega) (by omega)] at e
      rw [hy2]; exact e
/-- One at the right. -/
theorem last_done {P A Q : List Wt} {x : Wt} {s : Nat} (hA : Srt A) (h1 : P.length ≤ s) (h2 : s ≤ P.length + A.length)
    (hl : s = P.length ∨ x.2 ≤ wq (P ++ A ++ [x] ++ Q) (s - 1)) (hr : s = P.length + A.length ∨ wq (P ++ A ++ [x] ++ Q) s < x.2) :
    sortF (A ++ [x]) = A.take (s - P.length) ++ [x] ++ A.drop (s - P.length) := by
  have key := ins_last (x := x) (A1 := A.take (s - P.length)) (A2 := A.drop (s - P.length)) (srt_cut hA _) ?_ ?_
  · rw [List.take_append_drop] at key
    rw [key]; simp
  · rcases hl with e | e
    · left; rw [e]; simp
    · by_cases e0 : s = P.length
      · left; rw [e0]; simp
      right
      obtain ⟨y, hy, hy2⟩ := getLast_take (B := A) (c := s - P.length) (by omega) (by omega)
      refine ⟨y, hy, ?_⟩
      rw [wq, List.append_assoc (P ++ A), getD_at (U := P) (c := s - P.length - 1) (by omega) (by omega)] at e
      rw [hy2]; exact e
  · rcases hr with e | e
    · left; rw [e]; simp
    · by_cases e0 : s = P.length + A.length
      · left; rw [e0]; simp
      right
      obtain ⟨y, hy, hy2⟩ := head_drop (B := A) (c := s - P.length) (by omega)
      refine ⟨y, hy, ?_⟩
      rw [wq, List.append_assoc (P ++ A), getD_at (U := P) (c := s - P.length) (by omega) (by omega)] at e
      rw [hy2]; exact e
/-- The places of the step in the middle. -/
structure Mid (P A B : List Wt) (mid nn lo hi : Nat) : Prop where
  hmid : mid = (P.length + (P.length + A.length + B.length)) / 2
  hn : nn = mid + (P.length + A.length)
  h : (P.length + A.length ≤ mid ∧ lo = P.length ∧ hi = P.length + A.length) ∨ (mid < P.length + A.length ∧ lo + (P.length + A.length + B.length) = nn ∧ hi = mid)
theorem mid_done {P A B Q : List Wt} {mid nn lo hi s : Nat} (M : Mid P A B mid nn lo hi) (hA : Srt A) (hB : Srt B) (h0 : 2 ≤ A.length) (h00 : 2 ≤ B.length) (h1 : lo ≤ s) (h2 : s ≤ hi)
    (hl : s = lo ∨ wq (P ++ A ++ B ++ Q) (nn - 1 - (s - 1)) ≤ wq (P ++ A ++ B ++ Q) (s - 1)) (hr : s = hi ∨ wq (P ++ A ++ B ++ Q) s < wq (P ++ A ++ B ++ Q) (nn - 1 - s)) :
    ∃ A1 A2 B1 B2, A = A1 ++ A2 ∧ B = B1 ++ B2 ∧ s = P.length + A1.length ∧ nn = s + (P.length + A.length + B1.length) ∧ sortF (A ++ B) = sortF (A1 ++ B1) ++ sortF (A2 ++ B2) ∧ P.length + A1.length + B1.length = mid := by
  have e1 := M.hmid; have e2 := M.hn
  have hb : P.length ≤ s ∧ s ≤ P.length + A.length ∧ P.length + A.length + s ≤ nn ∧ nn ≤ s + (P.length + A.length + B.length) := by rcases M.h with h | h <;> omega
  have hq : ∀ t, P.length ≤ t → t < P.length + A.length → wq (P ++ A ++ B ++ Q) t = (A.getD (t - P.length) ([], 0)).2 := by
    intro t ht ht2
    rw [wq, List.append_assoc (P ++ A), getD_at (U := P) (c := t - P.length) (by omega) (by omega)]
  have hq2 : ∀ t, P.length + A.length ≤ t → t < P.length + A.length + B.length → wq (P ++ A ++ B ++ Q) t = (B.getD (t - (P.length + A.length)) ([], 0)).2 := by
    intro t ht ht2
    rw [wq, getD_at (U := P ++ A) (c := t - (P.length + A.length)) (by simp; omega) (by omega)]
  refine ⟨A.take (s - P.length), A.drop (s - P.length), B.take (nn - s - (P.length + A.length)), B.drop (nn - s - (P.length + A.length)), (List.take_append_drop _ _).symm, (List.take_append_drop _ _).symm, by rw [List.length_take]; omega, by rw [List.length_take]; omega, ?_, by rw [List.length_take, List.length_take]; omega⟩
  have key := merge_step (A1 := A.take (s - P.length)) (A2 := A.drop (s - P.length)) (B1 := B.take (nn - s - (P.length + A.length))) (B2 := B.drop (nn - s - (P.length + A.length))) (srt_cut hA _) (srt_cut hB _) ?_ ?_
  · rw [List.take_append_drop, List.take_append_drop] at key; exact key
  · by_cases c1 : s = P.length
    · left; rw [c1]; simp
    by_cases c2 : nn = s + (P.length + A.length + B.length)
    · right; left; rw [List.drop_eq_nil_of_le (by omega)]
    have hl : wq (P ++ A ++ B ++ Q) (nn - 1 - (s - 1)) ≤ wq (P ++ A ++ B ++ Q) (s - 1) := by
      rcases hl with h | h
      · exfalso; rcases M.h with k | k <;> omega
      · exact h
    right; right
    obtain ⟨x, hx, hx2⟩ := getLast_take (B := A) (c := s - P.length) (by omega) (by omega)
    obtain ⟨y, hy, hy2⟩ := head_drop (B := B) (c := nn - s - (P.length + A.length)) (by omega)
    refine ⟨x, hx, y, hy, ?_⟩
    rw [hq (s - 1) (by omega) (by omega), hq2 (nn - 1 - (s - 1)) (by omega) (by omega)] at hl
    rw [hx2, hy2, show s - P.length - 1 = s - 1 - P.length by omega, show nn - s - (P.length + A.length) = nn - 1 - (s - 1) - (P.length + A.length) by omega]
    exact hl
  · by_cases c1 : s = P.length + A.length
    · left; rw [List.drop_eq_nil_of_le (by omega)]
    by_cases c2 : nn = s + (P.length + A.length)
    · right; left; rw [show nn - s - (P.length + A.length) = 0 by omega]; rfl
    have hr : wq (P ++ A ++ B ++ Q) s < wq (P ++ A ++ B ++ Q) (nn - 1 - s) := by
      rcases hr with h | h
      · exfalso; rcases M.h with k | k <;> omega
      · exact h
    right; right
    obtain ⟨y, hy, hy2⟩ := getLast_take (B := B) (c := nn - s - (P.length + A.length)) (by omega) (by omega)
    obtain ⟨x, hx, hx2⟩ := head_drop (B := A) (c := s - P.length) (by omega)
    refine ⟨x, hx, y, hy, ?_⟩
    rw [hq s (by omega) (by omega), hq2 (nn - 1 - s) (by omega) (by omega)] at hr
    rw [hx2, hy2, show nn - s - (P.length + A.length) - 1 = nn - 1 - s - (P.length + A.length) by omega]
    exact hr
end Go.Proofs.YtfchfhjpldppjaaGreatDoor
namespace Go.Proofs.YtfchfhjpldppjaaGreatDoor
open Go.Sx
set_option maxRecDepth 10000
set_option maxHeartbeats 16000000
/-! Of the stable sort: the symmetric merge. -/
structure SymB (P A B Q : List Wt) (a0 m0 b0 : Int) (N : Nat) : Prop where
  ha : a0 = (P.length : Int)
  hm : m0 = ((P.length + A.length : Nat) : Int)
  hb : b0 = ((P.length + A.length + B.length : Nat) : Int)
  hA : 0 < A.length
  hB : 0 < B.length
  hN : A.length + B.length ≤ N
  len : P.length + A.length + B.length + Q.length ≤ 1000000000
  sA : Srt A
  sB : Srt B
def spSym (N : Nat) : FSpec := fun _ xs ls K => ∃ (P A B Q : List Wt) (nl : Bool) (n a0 m0 b0 : Int) (f : Nat → List SV), xs = [.osl (.a nl) (.a n) 0, .int .i64 (.a a0), .int .i64 (.a m0), .int .i64 (.a b0), .fn 59] ∧ ls = [.own 51 (.a n) 2 true f] ∧
  RowT f n (P ++ A ++ B ++ Q) ∧ SymB P A B Q a0 m0 b0 N ∧ ∀ (k : List Wt) (f' : Nat → List SV), k = P ++ sortF (A ++ B) ++ Q → f' = wtRow k → K (.tup []) [.own 51 (.a n) 2 true f']
def bsJ1 (nl : Bool) (n a0 : Int) (f : Nat → List SV) (lo hi : Nat) (pl pr : Nat → Prop) (m : Nat) (vs : List (Option SV)) (hp : List Hl) : Prop :=
  ∃ (i j : Nat) (I Jv : Int), vs = [some (.osl (.a nl) (.a n) 0), some (.int .i64 (.a a0)), some (.fn 59), some (.int .i64 (.a I)), some (.int .i64 (.a Jv))] ∧ hp = [.own 51 (.a n) 2 true f] ∧ BsI lo hi i j pl pr I Jv m
theorem RowT.swap {f f3 f4 : Nat → List SV} {n : Int} {U Z : List Wt} {x y : Wt} {p : Nat} (R : RowT f n (U ++ [x, y] ++ Z)) (hp : p = U.length) (h3 : SetAt f3 f p (wtSV y)) (h4 : SetAt f4 f3 (p + 1) (wtSV x)) : RowT f4 n (U ++ [y, x] ++ Z) := by
  have R1 := R.set (by rw [hp]; simp) h3
  rw [show U ++ [x, y] ++ Z = U ++ [x] ++ ([y] ++ Z) by simp, set_mid hp, show U ++ [y] ++ ([y] ++ Z) = (U ++ [y]) ++ [y] ++ Z by simp] at R1
  have R2 := R1.set (j := p + 1) (by rw [hp]; simp <;> omega) h4
  rw [set_mid (by rw [hp]; simp)] at R2
  simpa using R2
theorem RowT.swap' {f f3 f4 : Nat → List SV} {n : Int} {U Z : List Wt} {x y : Wt} {p : Nat} (R : RowT f n (U ++ [x, y] ++ Z)) (hp : p = U.length) (h3 : SetAt f3 f (p + 1) (wtSV x)) (h4 : SetAt f4 f3 p (wtSV y)) : RowT f4 n (U ++ [y, x] ++ Z) := by
  rw [show U ++ [x, y] ++ Z = (U ++ [x]) ++ [y] ++ Z by simp] at R
  have R1 := R.set (by rw [hp]; simp <;> omega) h3
  rw [set_mid (by rw [hp]; simp), show (U ++ [x]) ++ [x] ++ Z = U ++ [x] ++ ([x] ++ Z) by simp] at R1
  have R2 := R1.set (j := p) (by rw [hp]; simp <;> omega) h4
  rw [set_mid hp] at R2
  simpa using R2
structure Mv1 (P V Z : List Wt) (I Kk : Int) (m : Nat) : Prop where
  hI : I = ((P.length + V.length + 1 : Nat) : Int)
  hK : Kk = (P.length : Int)
  ms : m = V.length
  len : P.length + V.length + 1 + Z.length ≤ 1000000000
def mvJ1 (k Z : List Wt) (x : Wt) (nl : Bool) (n I : Int) (m : Nat) (vs : List (Option SV)) (hp : List Hl) : Prop :=
  ∃ (P V : List Wt) (Kk : Int) (f : Nat → List SV), vs = [some (.osl (.a nl) (.a n) 0), some (.int .i64 (.a I)), some (.int .i64 (.a Kk))] ∧ hp = [.own 51 (.a n) 2 true f] ∧ Mv1 P V Z I Kk m ∧ RowT f n (P ++ [x] ++ V ++ Z) ∧ k = P ++ V ++ [x] ++ Z
structure Mv2 (P V Z : List Wt) (I Kk : Int) (m : Nat) : Prop where
  hI : I = (P.length : Int)
  hK : Kk = ((P.length + V.length : Nat) : Int)
  ms : m = V.length
  len : P.length + V.length + 1 + Z.length ≤ 1000000000
def mvJ2 (k P : List Wt) (x : Wt) (nl : Bool) (n I : Int) (m : Nat) (vs : List (Option SV)) (hp : List Hl) : Prop :=
  ∃ (V Z : List Wt) (Kk : Int) (f : Nat → List SV), vs = [some (.osl (.a nl) (.a n) 0), some (.int .i64 (.a I)), some (.int .i64 (.a Kk))] ∧ hp = [.own 51 (.a n) 2 true f] ∧ Mv2 P V Z I Kk m ∧ RowT f n (P ++ V ++ [x] ++ Z) ∧ k = P ++ [x] ++ V ++ Z
structure MidI (mid nn : Nat) (MID NN PP : Int) : Prop where
  hM : MID = (mid : Int)
  hN : NN = (nn : Int)
  hP : PP = ((nn - 1 : Nat) : Int)
structure MidT (a0 m0 b0 : Int) (mid nn : Nat) : Prop where
  hmid : dn.i (.cv .i64 (.bin .shr .u64 (.cv .u64 (.bin .add .i64 (.a a0) (.a b0))) (.l 1))) = (mid : Int)
  hnn : dn.i (.bin .add .i64 (.cv .i64 (.bin .shr .u64 (.cv .u64 (.bin .add .i64 (.a a0) (.a b0))) (.l 1))) (.a m0)) = (nn : Int)
  hpp : dn.i (.bin .sub .i64 (.bin .add .i64 (.cv .i64 (.bin .shr .u64 (.cv .u64 (.bin .add .i64 (.a a0) (.a b0))) (.l 1))) (.a m0)) (.l 1)) = ((nn - 1 : Nat) : Int)
def bsJ5 (nl : Bool) (n a0 m0 b0 : Int) (f : Nat → List SV) (mid nn lo hi : Nat) (pl pr : Nat → Prop) (m : Nat) (vs : List (Option SV)) (hp : List Hl) : Prop :=
  ∃ (i j : Nat) (I Jv MID NN PP : Int), vs = [some (.osl (.a nl) (.a n) 0), some (.int .i64 (.a a0)), some (.int .i64 (.a m0)), some (.int .i64 (.a b0)), some (.fn 59), some (.int .i64 (.a MID)), some (.int .i64 (.a NN)), some (.int .i64 (.a I)), some (.int .i64 (.a Jv)), some (.int .i64 (.a PP))] ∧ hp = [.own 51 (.a n) 2 true f] ∧ BsI lo hi i j pl pr I Jv m ∧ MidI mid nn MID NN PP
/-- What is known behind the search in the middle. -/
structure SymC (P A1 A2 B1 B2 Q : List Wt) (a0 m0 b0 I MID NN : Int) (N : Nat) : Prop where
  ha : a0 = (P.length : Int)
  hm : m0 = ((P.length + A1.length + A2.length : Nat) : Int)
  hb : b0 = ((P.length + A1.length + A2.length + B1.length + B2.length : Nat) : Int)
  hI : I = ((P.length + A1.length : Nat) : Int)
  hM : MID = ((P.length + A1.length + B1.length : Nat) : Int)
  hE : dn.i (.bin .sub .i64 (.a NN) (.a I)) = ((P.length + A1.length + A2.length + B1.length : Nat) : Int)
  n1 : A1.length + B1.length ≤ N
  n2 : A2.length + B2.length ≤ N
  len : P.length + A1.length + A2.length + B1.length + B2.length + Q.length ≤ 1000000000
  s1 : Srt A1
  s2 : Srt A2
  s3 : Srt B1
  s4 : Srt B2
structure SymK (k P A1 A2 B1 B2 Q : List Wt) : Prop where
  h : k = P ++ (sortF (A1 ++ B1) ++ sortF (A2 ++ B2)) ++ Q
theorem sortF_id {l : List Wt} (h : Srt l) : sortF l = l := (sortF_eq h (Stb.refl _)).symm
theorem sortF_len (l : List Wt) : (sortF l).length = l.length := by rw [sortF, foldW_len]; simp
theorem SymC.t1 {P A1 A2 B1 B2 Q : List Wt} {a0 m0 b0 I MID NN : Int} {N : Nat} (V : SymC P A1 A2 B1 B2 Q a0 m0 b0 I MID NN N) :
    (decide (I < m0) && decide (m0 < dn.i (.bin .sub .i64 (.a NN) (.a I)))) = true ↔ 0 < A2.length ∧ 0 < B1.length := by
  rw [V.hI, V.hm, ← V.hI, V.hE, V.hI]
  simp only [Bool.and_eq_true, decide_eq_true_eq]
  omega
theorem SymC.t2 {P A1 A2 B1 B2 Q : List Wt} {a0 m0 b0 I MID NN : Int} {N : Nat} (V : SymC P A1 A2 B1 B2 Q a0 m0 b0 I MID NN N) :
    (decide (a0 < I) && decide (I < MID)) = true ↔ 0 < A1.length ∧ 0 < B1.length := by
  rw [V.hI, V.ha, V.hM]
  simp only [Bool.and_eq_true, decide_eq_true_eq]
  omega
theorem SymC.t3 {P A1 A2 B1 B2 Q : List Wt} {a0 m0 b0 I MID NN : Int} {N : Nat} (V : SymC P A1 A2 B1 B2 Q a0 m0 b0 I MID NN N) :
    (decide (MID < dn.i (.bin .sub .i64 (.a NN) (.a I))) && decide (dn.i (.bin .sub .i64 (.a NN) (.a I)) < b0)) = true ↔ 0 < A2.length ∧ 0 < B2.length := by
  rw [V.hE, V.hM, V.hb]
  simp only [Bool.and_eq_true, decide_eq_true_eq]
  omega
theorem SymC.rot {P A1 A2 B1 B2 Q : List Wt} {a0 m0 b0 I MID NN : Int} {N : Nat} (V : SymC P A1 A2 B1 B2 Q a0 m0 b0 I MID NN N) (h : 0 < A2.length ∧ 0 < B1.length) :
    RotB (P ++ A1) A2 B1 (B2 ++ Q) I m0 (dn.i (.bin .sub .i64 (.a NN) (.a I))) := by
  have := V.len
  refine ⟨by rw [V.hI]; simp, by rw [V.hm]; simp, by rw [V.hE]; simp, h.1, h.2, by simp; omega⟩
theorem SymC.rec1 {P A1 A2 B1 B2 Q : List Wt} {a0 m0 b0 I MID NN : Int} {N : Nat} (V : SymC P A1 A2 B1 B2 Q a0 m0 b0 I MID NN N) (h : 0 < A1.length ∧ 0 < B1.length) :
    SymB P A1 B1 (A2 ++ B2 ++ Q) a0 I MID N := by
  have := V.len
  exact ⟨V.ha, V.hI, V.hM, h.1, h.2, V.n1, by simp; omega, V.s1, V.s3⟩
theorem SymC.rec2 {P A1 A2 B1 B2 Q S : List Wt} {a0 m0 b0 I MID NN : Int} {N : Nat} (V : SymC P A1 A2 B1 B2 Q a0 m0 b0 I MID NN N) (h : 0 < A2.length ∧ 0 < B2.length) (hS : S.length = A1.length + B1.length) :
    SymB (P ++ S) A2 B2 Q MID (dn.i (.bin .sub .i64 (.a NN) (.a I))) b0 N := by
  have := V.len
  exact ⟨by rw [V.hM]; simp; omega, by rw [V.hE]; simp; omega, by rw [V.hb]; simp; omega, h.1, h.2, V.n2, by simp; omega, V.s2, V.s4⟩
theorem not_both {a b : List Wt} (h : ¬ (0 < a.length ∧ 0 < b.length)) : a = [] ∨ b = [] := by
  by_cases h1 : 0 < a.length
  · right; exact List.eq_nil_of_length_eq_zero (by omega)
  · left; exact List.eq_nil_of_length_eq_zero (by omega)
theorem sort_none {a b : List Wt} (ha : Srt a) (hb : Srt b) (h : a = [] ∨ b = []) : sortF (a ++ b) = a ++ b := by
  rcases h with rfl | rfl
  · rw [List.nil_append, sortF_id hb]
  · rw [List.append_nil, sortF_id ha]
theorem RowT.same {f : Nat → List SV} {n : Int} {l k : List Wt} (R : RowT f n l) (h : l = k) : RowT f n k := by rw [← h]; exact R
theorem RowT.of {f f2 : Nat → List SV} {n : Int} {l k k2 : List Wt} (R : RowT f n l) (hf : f2 = wtRow k2) (hk : k2 = k) (hl : k.length = l.length) : RowT f2 n k := by
  rw [hf, hk]
  exact RowT.row (by rw [hl]; exact R.n) (by rw [hl]; exact R.len)
theorem Mid.range {P A B : List Wt} {mid nn lo hi : Nat} (M : Mid P A B mid nn lo hi) : lo ≤ lo ∧ lo ≤ hi ∧ hi ≤ hi := by
  have := M.hmid; have := M.hn
  rcases M.h with h | h <;> omega
theorem Mid.place {P A B : List Wt} {mid nn lo hi c : Nat} (M : Mid P A B mid nn lo hi) (hA : 2 ≤ A.length) (hB : 2 ≤ B.length) (h1 : lo ≤ c) (h2 : c < hi) : c < P.length + A.length ∧ nn - 1 - c < P.length + A.length + B.length ∧ c ≤ nn - 1 ∧ 1 ≤ nn := by
  have := M.hmid; have := M.hn
  rcases M.h with h | h <;> omega
theorem symC_of {k P A B Q : List Wt} {mid nn lo hi i : Nat} {a0 m0 b0 I Jv MID NN PP : Int} {N m : Nat} (M : Mid P A B mid nn lo hi) (Y : SymB P A B Q a0 m0 b0 (N + 1)) (hA : 2 ≤ A.length) (hB : 2 ≤ B.length)
    (V : BsI lo hi i i (fun t => wq (P ++ A ++ B ++ Q) (nn - 1 - t) ≤ wq (P ++ A ++ B ++ Q) t) (fun t => wq (P ++ A ++ B ++ Q) t < wq (P ++ A ++ B ++ Q) (nn - 1 - t)) I Jv m) (Z : MidI mid nn MID NN PP) (hk : k = P ++ sortF (A ++ B) ++ Q) :
    ∃ A1 A2 B1 B2, (SymC P A1 A2 B1 B2 Q a0 m0 b0 I MID NN N ∧ A = A1 ++ A2 ∧ B = B1 ++ B2) ∧ SymK k P A1 A2 B1 B2 Q := by
  obtain ⟨A1, A2, B1, B2, e1, e2, e3, e4, e5, e6⟩ := mid_done (Q := Q) M Y.sA Y.sB hA hB V.le.1 V.le.2.2 V.L V.R
  refine ⟨A1, A2, B1, B2, ⟨?_, e1, e2⟩, ⟨by rw [hk, e5]⟩⟩
  have hl1 : A.length = A1.length + A2.length := by rw [e1]; simp
  have hl2 : B.length = B1.length + B2.length := by rw [e2]; simp
  have h1 := M.hmid; have h2 := M.hn; have h3 := Y.hm; have h4 := Y.hb; have h5 := Y.len; have h6 := Y.hN; have h7 := V.hI; have h8 := Z.hM; have h9 := Z.hN
  have sA := Y.sA; have sB := Y.sB
  rw [e1] at sA
  rw [e2] at sB
  refine ⟨Y.ha, by omega, by omega, by omega, by omega, ?_, by omega, by omega, by omega, (srt_app.1 sA).1, (srt_app.1 sA).2.1, (srt_app.1 sB).1, (srt_app.1 sB).2.1⟩
  show IntKind.i64.wrap (NN - I) = _
  rw [wrap64 (by omega) (by omega)]; omega
theorem sym_ok (N : Nat) (rec : FnOk Tryz.prog gl 104 (spSym N)) : FnOk Tryz.prog gl 104 (spSym (N + 1)) := by
  refine fnOk (gh := []) mixed cxOk2 (tabCons w1_ok (tabCons rot_ok (tabCons rec tabNil))) Tryz.func104 (by kernel_rfl) (by kernel_rfl) ?_
  intro xs ls K h
  unfold spSym at h
  obtain ⟨P, A, B, Q, nl, n, a0, m0, b0, f, rfl, rfl, R, Y, h⟩ := h
  obtain ⟨k, hk⟩ : ∃ k, k = P ++ sortF (A ++ B) ++ Q := ⟨_, rfl⟩
  obtain ⟨kf, hkf⟩ : ∃ kf, kf = wtRow k := ⟨_, rfl⟩
  refine ⟨_, _, h k kf hk hkf, fun D hD => ?_⟩
  clear h
  cbv
  refine br hD (fun h => ?_) (fun h => ?_) <;> cbv
  · obtain ⟨x, rfl⟩ : ∃ x, A = [x] := by
      have h : (IntKind.i64.wrap (m0 - a0) == 1) = true := h
      rw [wrap64 (by have := Y.hm; have := Y.ha; have := Y.len; omega) (by have := Y.hm; have := Y.ha; have := Y.len; omega), beq_iff_eq] at h
      have hl : A.length = 1 := by have := Y.hm; have := Y.ha; omega
      match A, hl with
      | [x], _ => exact ⟨x, rfl⟩
    clear h
    obtain ⟨J, hJ⟩ : ∃ J, J = bsJ1 nl n a0 f (P.length + 1) (P.length + 1 + B.length) (fun t => x.2 < wq (P ++ [x] ++ B ++ Q) t) (fun t => wq (P ++ [x] ++ B ++ Q) t ≤ x.2) := ⟨_, rfl⟩
    refine ⟨[0, 1, 4, 10, 11], J, ⟨rfl, B.length, ?_⟩, ?_⟩
    · rw [hJ]
      subst hD
      have h2 := Y.hm; have h3 := Y.hb
      simp only [List.length_singleton] at h2 h3
      exact ⟨P.length + 1, P.length + 1 + B.length, _, _, rfl, rfl, ⟨h2, h3, by omega, .inl rfl, .inl rfl, by omega⟩⟩
    intro m vs hp' hv
    rw [hJ] at hv
    unfold bsJ1 at hv
    obtain ⟨i, j, I, Jv, rfl, rfl, V⟩ := hv
    cbv
    refine br hD (fun h => ?_) (fun h => ?_) <;> cbv
    · have h : decide (I < Jv) = true := h
      have hlt : i < j := by have := of_decide_eq_true h; have := V.hI; have := V.hJ; omega
      clear h
      have ih : IxB (.cv .i64 (.bin .shr .u64 (.cv .u64 (.bin .add .i64 (.a I) (.a Jv))) (.l 1))) n ((i + j) / 2) := by
        have h1 := V.le; have h2 := Y.len; have h3 := R.n
        simp only [List.length_append, List.length_singleton] at h2 h3
        exact ⟨half_den V.hI V.hJ (by omega), by omega⟩
      have ia : IxB (.a a0) n P.length := by
        have h3 := R.n
        simp only [List.length_append, List.length_singleton] at h3
        exact ⟨Y.ha, by omega⟩
      obtain ⟨c, hc⟩ : ∃ c, c = (i + j) / 2 := ⟨_, rfl⟩
      rw [← hc] at ih
      obtain ⟨p, hp⟩ : ∃ p, p = P.length := ⟨_, rfl⟩
      rw [← hp] at ia
      have ex : f p = wtSV x := by rw [R.f p, show P ++ [x] ++ B ++ Q = P ++ [x] ++ (B ++ Q) by simp, getD_mid hp]
      have ec := R.f c
      obtain ⟨u, hu⟩ : ∃ u, u = (P ++ [x] ++ B ++ Q).getD c ([], 0) := ⟨_, rfl⟩
      have huq : u.2 = wq (P ++ [x] ++ B ++ Q) c := by rw [hu]; rfl
      rw [← hu] at ec
      obtain ⟨uv, uq⟩ := u
      obtain ⟨xv, xq⟩ := x
      simp only [wtSV] at ec ex
      clear hu hp
      refine ⟨⟨by subst hD; show (0 : Int) ≤ 1; omega⟩, ⟨rfl⟩, ih.inB hD, fun j1 hj1 => ?_⟩
      obtain rfl := ih.j hD hj1
      refine ⟨⟨rfl⟩, ih.lt hD hj1, ?_⟩
      rw [ec]
      cbv
      refine ⟨⟨rfl⟩, ia.inB hD, fun j2 hj2 => ?_⟩
      obtain rfl := ia.j hD hj2
      refine ⟨⟨rfl⟩, ia.lt hD hj2, ?_⟩
      rw [ex]
      cbv
      refine ⟨(uv, _), (xv, _), rfl, rfl, fun r hr0 => ?_⟩
      have hr : r = cmpI xq uq := by subst hD; exact hr0
      clear hr0
      cbv
      refine br hD (fun h => ?_) (fun h => ?_) <;> cbv
      · have h : decide (r < 0) = true := h
        have h2 : xq < uq := cmpI_neg.1 (by rw [← hr]; exact of_decide_eq_true h)
        have hH : dn.i (.bin .add .i64 (.cv .i64 (.bin .shr .u64 (.cv .u64 (.bin .add .i64 (.a I) (.a Jv))) (.l 1))) (.l 1)) = ((j1 + 1 : Nat) : Int) := by
          have e := ih.e
          have h1 := ih.hi; have h3 := R.len; have h4 := R.n
          show IntKind.i64.wrap (dn.i (.cv .i64 (.bin .shr .u64 (.cv .u64 (.bin .add .i64 (.a I) (.a Jv))) (.l 1))) + 1) = _
          rw [e, wrap64 (by omega) (by omega)]; omega
        have W := V.right hc hlt hH (by rw [← huq]; exact h2)
        clear h hr huq
        refine ⟨j - (j1 + 1), W.2, ?_⟩
        rw [hJ]
        subst hD
        exact ⟨j1 + 1, j, _, _, rfl, rfl, W.1⟩
      · have h : decide (r < 0) = false := h
        have h2 : uq ≤ xq := by
          have := of_decide_eq_false h
          rw [hr, cmpI_neg] at this; omega
        have W := V.left hc hlt ih.e (by rw [← huq]; exact h2)
        clear h hr huq
        refine ⟨j1 - i, W.2, ?_⟩
        rw [hJ]
        subst hD
        exact ⟨i, j1, _, _, rfl, rfl, W.1⟩
    · have h : decide (I < Jv) = false := h
      have hij : i = j := by have := of_decide_eq_false h; have := V.hI; have := V.hJ; have := V.le; omega
      clear h
      subst hij
      have hs := first_done (P := P) (B := B) (Q := Q) (x := x) Y.sB V.le.1 V.le.2.2 V.L V.R
      have hI := V.hI
      obtain ⟨c, hc⟩ : ∃ c, c = i - (P.length + 1) := ⟨_, rfl⟩
      have hle := V.le
      rw [← hc] at hs
      obtain ⟨B1, B2, hB, hB1, hs2⟩ : ∃ B1 B2, B = B1 ++ B2 ∧ B1.length = c ∧ sortF ([x] ++ B) = B1 ++ [x] ++ B2 := ⟨B.take c, B.drop c, (List.take_append_drop _ _).symm, by rw [List.length_take]; omega, hs⟩
      rw [hs2] at hk
      clear hs hs2
      subst hB
      obtain ⟨J2, hJ2⟩ : ∃ J, J = mvJ1 k (B2 ++ Q) x nl n I := ⟨_, rfl⟩
      refine ⟨[0, 10, 13], J2, ⟨rfl, B1.length, ?_⟩, ?_⟩
      · rw [hJ2]
        subst hD
        refine ⟨P, B1, _, _, rfl, rfl, ⟨by omega, Y.ha, rfl, ?_⟩, by simpa using R, by rw [hk]; simp⟩
        have h2 := Y.len
        simp only [List.length_append, List.length_singleton] at h2 ⊢; omega
      clear hk hJ V R Y hle hc hB1 hI
      intro m vs hp' hv
      rw [hJ2] at hv
      unfold mvJ1 at hv
      obtain ⟨P, V, Kk, f, rfl, rfl, W, R, hk⟩ := hv
      cbv
      refine br hD (fun h => ?_) (fun h => ?_) <;> cbv
      · have h : decide (Kk < IntKind.i64.wrap (I - 1)) = true := h
        have hlt : Kk < I - 1 := by
          have h1 := W.hI; have h3 := W.len
          rw [wrap64 (by omega) (by omega)] at h
          exact of_decide_eq_true h
        clear h
        obtain ⟨y, V', rfl⟩ : ∃ y V', V = y :: V' := by
          cases V with
          | nil => have h1 := W.hI; have h2 := W.hK; rw [List.length_nil] at h1; omega
          | cons y V' => exact ⟨y, V', rfl⟩
        have hlen := W.len
        have hn := R.n
        simp only [List.length_append, List.length_cons] at hlen hn
        have i0 : IxB (.a Kk) n P.length := ⟨W.hK, by omega⟩
        have i1 : IxB (.bin .add .i64 (.a Kk) (.l 1)) n (P.length + 1) := by
          refine ⟨?_, by omega⟩
          have := W.hK
          show IntKind.i64.wrap (Kk + 1) = _
          rw [wrap64 (by omega) (by omega)]; omega
        have R' : RowT f n (P ++ [x, y] ++ (V' ++ (B2 ++ Q))) := by simpa using R
        obtain ⟨p, hp⟩ : ∃ p, p = P.length := ⟨_, rfl⟩
        rw [← hp] at i0 i1
        have e0 : f p = wtSV x := by rw [R'.f p, show P ++ [x, y] ++ (V' ++ (B2 ++ Q)) = P ++ [x] ++ ([y] ++ (V' ++ (B2 ++ Q))) by simp, getD_mid hp]
        have e1 : f (p + 1) = wtSV y := by rw [R'.f (p + 1), show P ++ [x, y] ++ (V' ++ (B2 ++ Q)) = (P ++ [x]) ++ [y] ++ (V' ++ (B2 ++ Q)) by simp, getD_mid (by rw [hp]; simp)]
        have next : ∀ f3 f4, SetAt f3 f p (wtSV y) → SetAt f4 f3 (p + 1) (wtSV x) → RowT f4 n (P ++ [y, x] ++ (V' ++ (B2 ++ Q))) := fun f3 f4 h3 h4 => R'.swap hp h3 h4
        have W2 : Mv1 (P ++ [y]) V' (B2 ++ Q) I (dn.i (.bin .add .i64 (.a Kk) (.l 1))) V'.length := by
          have h1 := W.hI
          refine ⟨by rw [h1]; simp; omega, by rw [i1.e, hp]; simp, rfl, by simp; omega⟩
        have hm : V'.length < m := by have := W.ms; simp at this; omega
        obtain ⟨q, hq⟩ : ∃ q, q = p + 1 := ⟨_, rfl⟩
        rw [← hq] at i1 e1 next
        have hpq : p ≠ q := by omega
        obtain ⟨xv, xq⟩ := x
        obtain ⟨yv, yq⟩ := y
        simp only [wtSV] at e0 e1
        clear hq hp R R' hn hlen W hlt
        refine ⟨⟨rfl⟩, i1.inB hD, fun j1 hj1 => ?_⟩
        obtain rfl := i1.j hD hj1
        refine ⟨⟨rfl⟩, i1.lt hD hj1, ?_⟩
        rw [e1]
        cbv
        refine ⟨⟨rfl⟩, i0.inB hD, fun j2 hj2 => ?_⟩
        obtain rfl := i0.j hD hj2
        refine ⟨⟨rfl⟩, i0.lt hD hj2, ?_⟩
        rw [e0]
        cbv
        refine ⟨⟨rfl⟩, i0.inB hD, fun j3 hj3 => ?_⟩
        obtain rfl := i0.j hD hj3
        refine ⟨⟨rfl⟩, i0.lt hD hj3, ?_⟩
        rw [e0]
        cbv
        intro f3 hf3
        have g3 : SetAt f3 f j3 (wtSV (yv, yq)) := by subst hD; exact hf3
        clear hf3
        have e13 : f3 j1 = [.str yv, .int .i64 (.a yq)] := by rw [g3.other j1 (fun e => hpq e.symm)]; exact e1
        cbv
        refine ⟨⟨rfl⟩, i1.inB hD, fun j6 hj6 => ?_⟩
        obtain rfl : j6 = j1 := i1.j hD hj6
        refine ⟨⟨rfl⟩, i1.lt hD hj6, ?_⟩
        rw [e13]
        cbv
        intro f4 hf4
        have g4 : SetAt f4 f3 j6 (wtSV (xv, xq)) := by subst hD; exact hf4
        have R4 := next f3 f4 g3 g4
        clear hf4 next
        cbv
        refine ⟨V'.length, hm, ?_⟩
        rw [hJ2]
        subst hD
        exact ⟨P ++ [(yv, yq)], V', _, f4, rfl, rfl, W2, by simpa using R4, by rw [hk]; simp⟩
      · have h : decide (Kk < IntKind.i64.wrap (I - 1)) = false := h
        have hge : ¬ Kk < I - 1 := by
          have h1 := W.hI; have h3 := W.len
          rw [wrap64 (by omega) (by omega)] at h
          exact of_decide_eq_false h
        have hV : V = [] := by
          have := W.hI; have := W.hK
          exact List.eq_nil_of_length_eq_zero (by omega)
        subst hV
        have hk2 : k = P ++ [x] ++ [] ++ (B2 ++ Q) := by rw [hk]; simp
        refine finOwn (LeV.refl _) (by subst hD; rfl) fun q _ => ?_
        rw [R.f q, hkf, hk2]; rfl
  have hA2 : 2 ≤ A.length := by
    have h : (IntKind.i64.wrap (m0 - a0) == 1) = false := h
    rw [wrap64 (by have := Y.hm; have := Y.ha; have := Y.len; omega) (by have := Y.hm; have := Y.ha; have := Y.len; omega), beq_eq_false_iff_ne] at h
    have := Y.hm; have := Y.ha; have := Y.hA; omega
  clear h
  refine br hD (fun h => ?_) (fun h => ?_) <;> cbv
  · obtain ⟨x, rfl⟩ : ∃ x, B = [x] := by
      have h : (IntKind.i64.wrap (b0 - m0) == 1) = true := h
      rw [wrap64 (by have := Y.hm; have := Y.hb; have := Y.len; omega) (by have := Y.hm; have := Y.hb; have := Y.len; omega), beq_iff_eq] at h
      have hl : B.length = 1 := by have := Y.hm; have := Y.hb; omega
      match B, hl with
      | [x], _ => exact ⟨x, rfl⟩
    clear h
    obtain ⟨J, hJ⟩ : ∃ J, J = bsJ1 nl n m0 f P.length (P.length + A.length) (fun t => x.2 ≤ wq (P ++ A ++ [x] ++ Q) t) (fun t => wq (P ++ A ++ [x] ++ Q) t < x.2) := ⟨_, rfl⟩
    refine ⟨[0, 2, 4, 14, 15], J, ⟨rfl, A.length, ?_⟩, ?_⟩
    · rw [hJ]
      subst hD
      exact ⟨P.length, P.length + A.length, _, _, rfl, rfl, ⟨Y.ha, Y.hm, by omega, .inl rfl, .inl rfl, by omega⟩⟩
    intro m vs hp' hv
    rw [hJ] at hv
    unfold bsJ1 at hv
    obtain ⟨i, j, I, Jv, rfl, rfl, V⟩ := hv
    cbv
    refine br hD (fun h => ?_) (fun h => ?_) <;> cbv
    · have h : decide (I < Jv) = true := h
      have hlt : i < j := by have := of_decide_eq_true h; have := V.hI; have := V.hJ; omega
      clear h
      have ih : IxB (.cv .i64 (.bin .shr .u64 (.cv .u64 (.bin .add .i64 (.a I) (.a Jv))) (.l 1))) n ((i + j) / 2) := by
        have h1 := V.le; have h2 := Y.len; have h3 := R.n
        simp only [List.length_append, List.length_singleton] at h2 h3
        exact ⟨half_den V.hI V.hJ (by omega), by omega⟩
      have ia : IxB (.a m0) n (P ++ A).length := by
        have h3 := R.n
        simp only [List.length_append, List.length_singleton] at h3 ⊢
        exact ⟨Y.hm, by omega⟩
      obtain ⟨c, hc⟩ : ∃ c, c = (i + j) / 2 := ⟨_, rfl⟩
      rw [← hc] at ih
      obtain ⟨p, hp⟩ : ∃ p, p = (P ++ A).length := ⟨_, rfl⟩
      rw [← hp] at ia
      have ex : f p = wtSV x := by rw [R.f p, getD_mid hp]
      have ec := R.f c
      obtain ⟨u, hu⟩ : ∃ u, u = (P ++ A ++ [x] ++ Q).getD c ([], 0) := ⟨_, rfl⟩
      have huq : u.2 = wq (P ++ A ++ [x] ++ Q) c := by rw [hu]; rfl
      rw [← hu] at ec
      obtain ⟨uv, uq⟩ := u
      obtain ⟨xv, xq⟩ := x
      simp only [wtSV] at ec ex
      clear hu hp
      refine ⟨⟨by subst hD; show (0 : Int) ≤ 1; omega⟩, ⟨rfl⟩, ia.inB hD, fun j1 hj1 => ?_⟩
      obtain rfl := ia.j hD hj1
      refine ⟨⟨rfl⟩, ia.lt hD hj1, ?_⟩
      rw [ex]
      cbv
      refine ⟨⟨rfl⟩, ih.inB hD, fun j2 hj2 => ?_⟩
      obtain rfl := ih.j hD hj2
      refine ⟨⟨rfl⟩, ih.lt hD hj2, ?_⟩
      rw [ec]
      cbv
      refine ⟨(xv, _), (uv, _), rfl, rfl, fun r hr0 => ?_⟩
      have hr : r = cmpI uq xq := by subst hD; exact hr0
      clear hr0
      cbv
      refine br hD (fun h => ?_) (fun h => ?_) <;> cbv
      · have h : (!decide (r < 0)) = true := h
        have h2 : xq ≤ uq := by
          simp only [Bool.not_eq_true', decide_eq_false_iff_not] at h
          rw [hr, cmpI_neg] at h; omega
        have hH : dn.i (.bin .add .i64 (.cv .i64 (.bin .shr .u64 (.cv .u64 (.bin .add .i64 (.a I) (.a Jv))) (.l 1))) (.l 1)) = ((j2 + 1 : Nat) : Int) := by
          have e := ih.e
          have h1 := ih.hi; have h3 := R.len; have h4 := R.n
          show IntKind.i64.wrap (dn.i (.cv .i64 (.bin .shr .u64 (.cv .u64 (.bin .add .i64 (.a I) (.a Jv))) (.l 1))) + 1) = _
          rw [e, wrap64 (by omega) (by omega)]; omega
        have W := V.right hc hlt hH (by rw [← huq]; exact h2)
        clear h hr huq
        refine ⟨j - (j2 + 1), W.2, ?_⟩
        rw [hJ]
        subst hD
        exact ⟨j2 + 1, j, _, _, rfl, rfl, W.1⟩
      · have h : (!decide (r < 0)) = false := h
        have h2 : uq < xq := by
          simp only [Bool.not_eq_false', decide_eq_true_eq] at h
          exact cmpI_neg.1 (by rw [← hr]; exact h)
        have W := V.left hc hlt ih.e (by rw [← huq]; exact h2)
        clear h hr huq
        refine ⟨j2 - i, W.2, ?_⟩
        rw [hJ]
        subst hD
        exact ⟨i, j2, _, _, rfl, rfl, W.1⟩
    · have h : decide (I < Jv) = false := h
      have hij : i = j := by have := of_decide_eq_false h; have := V.hI; have := V.hJ; have := V.le; omega
      clear h
      subst hij
      have hs := last_done (P := P) (A := A) (Q := Q) (x := x) Y.sA V.le.1 V.le.2.2 V.L V.R
      have hI := V.hI
      obtain ⟨c, hc⟩ : ∃ c, c = i - P.length := ⟨_, rfl⟩
      have hle := V.le
      rw [← hc] at hs
      obtain ⟨A1, A2, hA, hA1, hs2⟩ : ∃ A1 A2, A = A1 ++ A2 ∧ A1.length = c ∧ sortF (A ++ [x]) = A1 ++ [x] ++ A2 := ⟨A.take c, A.drop c, (List.take_append_drop _ _).symm, by rw [List.length_take]; omega, hs⟩
      rw [hs2] at hk
      clear hs hs2
      subst hA
      obtain ⟨J2, hJ2⟩ : ∃ J, J = mvJ2 k (P ++ A1) x nl n I := ⟨_, rfl⟩
      refine ⟨[0, 14, 17], J2, ⟨rfl, A2.length, ?_⟩, ?_⟩
      · rw [hJ2]
        subst hD
        have h1 := Y.hm
        simp only [List.length_append] at h1
        refine ⟨A2, Q, _, _, rfl, rfl, ⟨by rw [hI]; simp; omega, by show m0 = _; simp only [List.length_append]; omega, rfl, ?_⟩, by simpa using R, by rw [hk]; simp⟩
        have h2 := Y.len
        simp only [List.length_append, List.length_singleton] at h2 ⊢; omega
      clear hk hJ V R Y hle hc hA1 hI hA2
      intro m vs hp' hv
      rw [hJ2] at hv
      unfold mvJ2 at hv
      obtain ⟨V, Z, Kk, f, rfl, rfl, W, R, hk⟩ := hv
      cbv
      refine br hD (fun h => ?_) (fun h => ?_) <;> cbv
      · have h : decide (I < Kk) = true := h
        have hlt : I < Kk := of_decide_eq_true h
        clear h
        obtain ⟨V', y, rfl⟩ : ∃ V' y, V = V' ++ [y] := by
          rcases List.eq_nil_or_concat V with e | ⟨L, b, e⟩
          · have h1 := W.hI; have h2 := W.hK; rw [e, List.length_nil] at h2; omega
          · exact ⟨L, b, by simpa using e⟩
        have hlen := W.len
        have hn := R.n
        have hK := W.hK
        obtain ⟨U, hU⟩ : ∃ U, U = P ++ A1 ++ V' := ⟨_, rfl⟩
        have hUl : U.length = (P ++ A1).length + V'.length := by rw [hU]; simp <;> omega
        have R' : RowT f n (U ++ [y, x] ++ Z) := by rw [hU]; simpa using R
        have hn' := R'.n
        simp only [List.length_append, List.length_cons, List.length_nil] at hlen hn' hK hUl
        have i1 : IxB (.a Kk) n (U.length + 1) := ⟨by show Kk = _; omega, by omega⟩
        have i0 : IxB (.bin .sub .i64 (.a Kk) (.l 1)) n U.length := by
          refine ⟨?_, by omega⟩
          show IntKind.i64.wrap (Kk - 1) = _
          rw [wrap64 (by omega) (by omega)]; omega
        obtain ⟨p, hp⟩ : ∃ p, p = U.length := ⟨_, rfl⟩
        rw [← hp] at i0 i1
        have e0 : f p = wtSV y := by rw [R'.f p, show U ++ [y, x] ++ Z = U ++ [y] ++ ([x] ++ Z) by simp, getD_mid hp]
        have e1 : f (p + 1) = wtSV x := by rw [R'.f (p + 1), show U ++ [y, x] ++ Z = (U ++ [y]) ++ [x] ++ Z by simp, getD_mid (by rw [hp]; simp)]
        have next : ∀ f3 f4, SetAt f3 f (p + 1) (wtSV y) → SetAt f4 f3 p (wtSV x) → RowT f4 n (P ++ A1 ++ V' ++ [x] ++ (y :: Z)) := fun f3 f4 h3 h4 => by
          have := R'.swap' hp h3 h4
          rw [hU] at this
          simpa using this
        have W2 : Mv2 (P ++ A1) V' (y :: Z) I (dn.i (.bin .sub .i64 (.a Kk) (.l 1))) V'.length := by
          have h1 := W.hI
          refine ⟨h1, by rw [i0.e, hp, hUl]; simp <;> omega, rfl, by simp; omega⟩
        have hm : V'.length < m := by have := W.ms; simp at this; omega
        obtain ⟨q, hq⟩ : ∃ q, q = p + 1 := ⟨_, rfl⟩
        rw [← hq] at i1 e1 next
        have hpq : p ≠ q := by omega
        obtain ⟨xv, xq⟩ := x
        obtain ⟨yv, yq⟩ := y
        simp only [wtSV] at e0 e1
        clear hq hp R R' hn hn' hlen W hlt hU hUl hK
        refine ⟨⟨rfl⟩, i0.inB hD, fun j1 hj1 => ?_⟩
        obtain rfl := i0.j hD hj1
        refine ⟨⟨rfl⟩, i0.lt hD hj1, ?_⟩
        rw [e0]
        cbv
        refine ⟨⟨rfl⟩, i1.inB hD, fun j2 hj2 => ?_⟩
        obtain rfl := i1.j hD hj2
        refine ⟨⟨rfl⟩, i1.lt hD hj2, ?_⟩
        rw [e1]
        cbv
        refine ⟨⟨rfl⟩, i1.inB hD, fun j3 hj3 => ?_⟩
        obtain rfl := i1.j hD hj3
        refine ⟨⟨rfl⟩, i1.lt hD hj3, ?_⟩
        rw [e1]
        cbv
        intro f3 hf3
        have g3 : SetAt f3 f j3 (wtSV (yv, yq)) := by subst hD; exact hf3
        clear hf3
        have e13 : f3 j1 = [.str yv, .int .i64 (.a yq)] := by rw [g3.other j1 hpq]; exact e0
        cbv
        refine ⟨⟨rfl⟩, i0.inB hD, fun j6 hj6 => ?_⟩
        obtain rfl : j6 = j1 := i0.j hD hj6
        refine ⟨⟨rfl⟩, i0.lt hD hj6, ?_⟩
        rw [e13]
        cbv
        intro f4 hf4
        have g4 : SetAt f4 f3 j6 (wtSV (xv, xq)) := by subst hD; exact hf4
        have R4 := next f3 f4 g3 g4
        clear hf4 next
        cbv
        refine ⟨V'.length, hm, ?_⟩
        rw [hJ2]
        subst hD
        exact ⟨V', (yv, yq) :: Z, _, f4, rfl, rfl, W2, R4, by rw [hk]; simp⟩
      · have h : decide (I < Kk) = false := h
        have hge : ¬ I < Kk := of_decide_eq_false h
        have hV : V = [] := by
          have := W.hI; have := W.hK
          exact List.eq_nil_of_length_eq_zero (by omega)
        subst hV
        have hk2 : k = P ++ A1 ++ [] ++ [x] ++ Z := by rw [hk]; simp
        refine finOwn (LeV.refl _) (by subst hD; rfl) fun q _ => ?_
        rw [R.f q, hkf, hk2]; rfl
  · have hB2 : 2 ≤ B.length := by
      have h : (IntKind.i64.wrap (b0 - m0) == 1) = false := h
      rw [wrap64 (by have := Y.hm; have := Y.hb; have := Y.len; omega) (by have := Y.hm; have := Y.hb; have := Y.len; omega), beq_eq_false_iff_ne] at h
      have := Y.hm; have := Y.hb; have := Y.hB; omega
    clear h
    obtain ⟨mid, hmd⟩ : ∃ mid, mid = (P.length + (P.length + A.length + B.length)) / 2 := ⟨_, rfl⟩
    obtain ⟨nn, hnd⟩ : ∃ nn, nn = mid + (P.length + A.length) := ⟨_, rfl⟩
    have hmid : dn.i (.cv .i64 (.bin .shr .u64 (.cv .u64 (.bin .add .i64 (.a a0) (.a b0))) (.l 1))) = (mid : Int) := by rw [hmd]; exact half_den Y.ha Y.hb (by have := Y.len; omega)
    have hnn : dn.i (.bin .add .i64 (.cv .i64 (.bin .shr .u64 (.cv .u64 (.bin .add .i64 (.a a0) (.a b0))) (.l 1))) (.a m0)) = (nn : Int) := by
      have h1 := Y.len; have h2 := Y.hm
      show IntKind.i64.wrap (dn.i (.cv .i64 (.bin .shr .u64 (.cv .u64 (.bin .add .i64 (.a a0) (.a b0))) (.l 1))) + m0) = _
      rw [hmid, wrap64 (by omega) (by omega)]; omega
    have hpp : dn.i (.bin .sub .i64 (.bin .add .i64 (.cv .i64 (.bin .shr .u64 (.cv .u64 (.bin .add .i64 (.a a0) (.a b0))) (.l 1))) (.a m0)) (.l 1)) = ((nn - 1 : Nat) : Int) := by
      have h1 := Y.len
      show IntKind.i64.wrap (dn.i (.bin .add .i64 (.cv .i64 (.bin .shr .u64 (.cv .u64 (.bin .add .i64 (.a a0) (.a b0))) (.l 1))) (.a m0)) - 1) = _
      rw [hnn, wrap64 (by omega) (by omega)]; omega
    have T : MidT a0 m0 b0 mid nn := ⟨hmid, hnn, hpp⟩
    clear hmid hnn hpp
    refine ⟨⟨by subst hD; show (0 : Int) ≤ 1; omega⟩, ?_⟩
    refine br hD (fun h => ?_) (fun h => ?_) <;> cbv
    · have h : decide (dn.i (.cv .i64 (.bin .shr .u64 (.cv .u64 (.bin .add .i64 (.a a0) (.a b0))) (.l 1))) < m0) = true := h
      obtain ⟨lo, hi, M, hlo, hhi⟩ : ∃ lo hi, Mid P A B mid nn lo hi ∧ dn.i (.bin .sub .i64 (.bin .add .i64 (.cv .i64 (.bin .shr .u64 (.cv .u64 (.bin .add .i64 (.a a0) (.a b0))) (.l 1))) (.a m0)) (.a b0)) = (lo : Int) ∧ dn.i (.cv .i64 (.bin .shr .u64 (.cv .u64 (.bin .add .i64 (.a a0) (.a b0))) (.l 1))) = (hi : Int) := by
        have h := of_decide_eq_true h
        rw [T.hmid] at h
        have h1 := Y.hm; have h2 := Y.hb; have h3 := Y.len
        refine ⟨nn - (P.length + A.length + B.length), mid, ⟨hmd, hnd, .inr ⟨by omega, by omega, rfl⟩⟩, ?_, T.hmid⟩
        show IntKind.i64.wrap (dn.i (.bin .add .i64 (.cv .i64 (.bin .shr .u64 (.cv .u64 (.bin .add .i64 (.a a0) (.a b0))) (.l 1))) (.a m0)) - b0) = _
        rw [T.hnn, wrap64 (by omega) (by omega)]; omega
      clear h hmd hnd
      obtain ⟨J, hJ⟩ : ∃ J, J = bsJ5 nl n a0 m0 b0 f mid nn lo hi (fun t => wq (P ++ A ++ B ++ Q) (nn - 1 - t) ≤ wq (P ++ A ++ B ++ Q) t) (fun t => wq (P ++ A ++ B ++ Q) t < wq (P ++ A ++ B ++ Q) (nn - 1 - t)) := ⟨_, rfl⟩
      refine ⟨[0, 1, 2, 3, 4, 18, 19, 20, 21, 22], J, ⟨rfl, hi - lo, ?_⟩, ?_⟩
      · rw [hJ]
        subst hD
        exact ⟨lo, hi, _, _, _, _, _, rfl, rfl, ⟨hlo, hhi, M.range, .inl rfl, .inl rfl, rfl⟩, ⟨T.hmid, T.hnn, T.hpp⟩⟩
      clear T hlo hhi
      intro m vs hp' hv
      rw [hJ] at hv
      unfold bsJ5 at hv
      obtain ⟨i, j, I, Jv, MID, NN, PP, rfl, rfl, V, Z⟩ := hv
      cbv
      refine br hD (fun h => ?_) (fun h => ?_) <;> cbv
      · have h : decide (I < Jv) = true := h
        have hlt : i < j := by have := of_decide_eq_true h; have := V.hI; have := V.hJ; omega
        clear h
        have hle : i ≤ (i + j) / 2 ∧ (i + j) / 2 < hi ∧ lo ≤ (i + j) / 2 := by have := V.le; omega
        have hpl := M.place (c := (i + j) / 2) hA2 hB2 hle.2.2 hle.2.1
        have ih : IxB (.cv .i64 (.bin .shr .u64 (.cv .u64 (.bin .add .i64 (.a I) (.a Jv))) (.l 1))) n ((i + j) / 2) := by
          have h1 := V.le; have h2 := Y.len; have h3 := R.n
          simp only [List.length_append] at h3
          exact ⟨half_den V.hI V.hJ (by omega), by omega⟩
        have ip : IxB (.bin .sub .i64 (.a PP) (.cv .i64 (.bin .shr .u64 (.cv .u64 (.bin .add .i64 (.a I) (.a Jv))) (.l 1)))) n (nn - 1 - (i + j) / 2) := by
          have h2 := Y.len; have h3 := R.n; have h4 := Z.hP; have h5 := ih.e
          simp only [List.length_append] at h3
          refine ⟨?_, by omega⟩
          show IntKind.i64.wrap (PP - dn.i (.cv .i64 (.bin .shr .u64 (.cv .u64 (.bin .add .i64 (.a I) (.a Jv))) (.l 1)))) = _
          rw [h5, wrap64 (by omega) (by omega)]; omega
        obtain ⟨c, hc⟩ : ∃ c, c = (i + j) / 2 := ⟨_, rfl⟩
        rw [← hc] at ih ip
        obtain ⟨p, hp⟩ : ∃ p, p = nn - 1 - c := ⟨_, rfl⟩
        rw [← hp] at ip
        have ec := R.f c
        obtain ⟨u, hu⟩ : ∃ u, u = (P ++ A ++ B ++ Q).getD c ([], 0) := ⟨_, rfl⟩
        have huq : u.2 = wq (P ++ A ++ B ++ Q) c := by rw [hu]; rfl
        rw [← hu] at ec
        have ex := R.f p
        obtain ⟨x, hx⟩ : ∃ u, u = (P ++ A ++ B ++ Q).getD p ([], 0) := ⟨_, rfl⟩
        have hxq : x.2 = wq (P ++ A ++ B ++ Q) (nn - 1 - c) := by rw [hx, hp]; rfl
        rw [← hx] at ex
        obtain ⟨uv, uq⟩ := u
        obtain ⟨xv, xq⟩ := x
        simp only [wtSV] at ec ex
        clear hu hx hp hle hpl
        refine ⟨⟨by subst hD; show (0 : Int) ≤ 1; omega⟩, ⟨rfl⟩, ip.inB hD, fun j1 hj1 => ?_⟩
        obtain rfl := ip.j hD hj1
        refine ⟨⟨rfl⟩, ip.lt hD hj1, ?_⟩
        rw [ex]
        cbv
        refine ⟨⟨rfl⟩, ih.inB hD, fun j2 hj2 => ?_⟩
        obtain rfl := ih.j hD hj2
        refine ⟨⟨rfl⟩, ih.lt hD hj2, ?_⟩
        rw [ec]
        cbv
        refine ⟨(xv, _), (uv, _), rfl, rfl, fun r hr0 => ?_⟩
        have hr : r = cmpI uq xq := by subst hD; exact hr0
        clear hr0
        cbv
        refine br hD (fun h => ?_) (fun h => ?_) <;> cbv
        · have h : (!decide (r < 0)) = true := h
          have h2 : xq ≤ uq := by
            simp only [Bool.not_eq_true', decide_eq_false_iff_not] at h
            rw [hr, cmpI_neg] at h; omega
          have hH : dn.i (.bin .add .i64 (.cv .i64 (.bin .shr .u64 (.cv .u64 (.bin .add .i64 (.a I) (.a Jv))) (.l 1))) (.l 1)) = ((j2 + 1 : Nat) : Int) := by
            have e := ih.e
            have h1 := ih.hi; have h3 := R.len; have h4 := R.n
            show IntKind.i64.wrap (dn.i (.cv .i64 (.bin .shr .u64 (.cv .u64 (.bin .add .i64 (.a I) (.a Jv))) (.l 1))) + 1) = _
            rw [e, wrap64 (by omega) (by omega)]; omega
          have W := V.right hc hlt hH (by show wq _ (nn - 1 - j2) ≤ wq _ j2; rw [← huq, ← hxq]; exact h2)
          clear h hr huq hxq
          refine ⟨j - (j2 + 1), W.2, ?_⟩
          rw [hJ]
          subst hD
          exact ⟨j2 + 1, j, _, _, _, _, _, rfl, rfl, W.1, Z⟩
        · have h : (!decide (r < 0)) = false := h
          have h2 : uq < xq := by
            simp only [Bool.not_eq_false', decide_eq_true_eq] at h
            exact cmpI_neg.1 (by rw [← hr]; exact h)
          have W := V.left hc hlt ih.e (by show wq _ j2 < wq _ (nn - 1 - j2); rw [← huq, ← hxq]; exact h2)
          clear h hr huq hxq
          refine ⟨j2 - i, W.2, ?_⟩
          rw [hJ]
          subst hD
          exact ⟨i, j2, _, _, _, _, _, rfl, rfl, W.1, Z⟩
      · have h : decide (I < Jv) = false := h
        have hij : i = j := by have := of_decide_eq_false h; have := V.hI; have := V.hJ; have := V.le; omega
        clear h
        subst hij
        obtain ⟨A1, A2, B1, B2, C, hk⟩ := symC_of M Y hA2 hB2 V Z hk
        have R : RowT f n (P ++ A1 ++ A2 ++ B1 ++ B2 ++ Q) := R.same (by rw [C.2.1, C.2.2]; simp)
        obtain ⟨C, -, -⟩ := C
        clear hJ V Y Z M hA2 hB2
        refine br hD (fun h => ?_) (fun h => ?_) <;> cbv
        · have h1 := C.t1.1 h
          have sb := C.rot h1
          have R1 : RowT f n (P ++ A1 ++ A2 ++ B1 ++ (B2 ++ Q)) := R.same (by simp)
          refine ⟨P ++ A1, A2, B1, B2 ++ Q, _, _, _, _, _, f, rfl, by subst hD; rfl, by subst hD; exact R1, by subst hD; exact sb, fun k2 f2 hk2 hf2 => ?_⟩
          have R2 : RowT f2 n (P ++ A1 ++ B1 ++ A2 ++ B2 ++ Q) := R.of hf2 (hk2.trans (by simp)) (by simp; omega)
          clear hk2 hf2 R R1
          cbv
          refine br hD (fun h => ?_) (fun h => ?_) <;> cbv
          · have h2 := C.t2.1 h
            have sb := C.rec1 h2
            have R2' : RowT f2 n (P ++ A1 ++ B1 ++ (A2 ++ B2 ++ Q)) := R2.same (by simp)
            refine ⟨P, A1, B1, A2 ++ B2 ++ Q, _, _, _, _, _, f2, rfl, by subst hD; rfl, by subst hD; exact R2', by subst hD; exact sb, fun k3 f3 hk3 hf3 => ?_⟩
            have R3 : RowT f3 n (P ++ sortF (A1 ++ B1) ++ A2 ++ B2 ++ Q) := R2.of hf3 (hk3.trans (by simp)) (by simp [sortF_len]; omega)
            clear hk3 hf3 R2 R2'
            cbv
            refine br hD (fun h => ?_) (fun h => ?_) <;> cbv
            · have h3 := C.t3.1 h
              have sb := C.rec2 (S := sortF (A1 ++ B1)) h3 (by rw [sortF_len]; simp)
              refine ⟨P ++ sortF (A1 ++ B1), A2, B2, Q, _, _, _, _, _, f3, rfl, by subst hD; rfl, by subst hD; exact R3, by subst hD; exact sb, fun k4 f4 hk4 hf4 => ?_⟩
              have R4 : RowT f4 n (P ++ sortF (A1 ++ B1) ++ sortF (A2 ++ B2) ++ Q) := R3.of hf4 hk4 (by simp [sortF_len]; omega)
              clear hk4 hf4
              cbv
              have hk4 : k = P ++ sortF (A1 ++ B1) ++ sortF (A2 ++ B2) ++ Q := by rw [hk.h]; simp
              refine finOwn (LeV.refl _) (by subst hD; rfl) fun q _ => ?_
              rw [R4.f q, hkf, hk4]; rfl
            · have h3 := not_both (fun x => Bool.noConfusion ((C.t3.2 x).symm.trans h))
              have R4 : RowT f3 n (P ++ sortF (A1 ++ B1) ++ sortF (A2 ++ B2) ++ Q) := R3.same (by rw [sort_none C.s2 C.s4 h3]; simp)
              have hk4 : k = P ++ sortF (A1 ++ B1) ++ sortF (A2 ++ B2) ++ Q := by rw [hk.h]; simp
              refine finOwn (LeV.refl _) (by subst hD; rfl) fun q _ => ?_
              rw [R4.f q, hkf, hk4]; rfl
          · have h2 := not_both (fun x => Bool.noConfusion ((C.t2.2 x).symm.trans h))
            obtain ⟨f3, hf3⟩ : ∃ f3, f3 = f2 := ⟨_, rfl⟩
            rw [← hf3] at R2
            have R3 : RowT f3 n (P ++ sortF (A1 ++ B1) ++ A2 ++ B2 ++ Q) := R2.same (by rw [sort_none C.s1 C.s3 h2]; simp)
            rw [← hf3]
            clear R2 hf3
            refine br hD (fun h => ?_) (fun h => ?_) <;> cbv
            · have h3 := C.t3.1 h
              have sb := C.rec2 (S := sortF (A1 ++ B1)) h3 (by rw [sortF_len]; simp)
              refine ⟨P ++ sortF (A1 ++ B1), A2, B2, Q, _, _, _, _, _, f3, rfl, by subst hD; rfl, by subst hD; exact R3, by subst hD; exact sb, fun k4 f4 hk4 hf4 => ?_⟩
              have R4 : RowT f4 n (P ++ sortF (A1 ++ B1) ++ sortF (A2 ++ B2) ++ Q) := R3.of hf4 hk4 (by simp [sortF_len]; omega)
              clear hk4 hf4
              cbv
              have hk4 : k = P ++ sortF (A1 ++ B1) ++ sortF (A2 ++ B2) ++ Q := by rw [hk.h]; simp
              refine finOwn (LeV.refl _) (by subst hD; rfl) fun q _ => ?_
              rw [R4.f q, hkf, hk4]; rfl
            · have h3 := not_both (fun x => Bool.noConfusion ((C.t3.2 x).symm.trans h))
              have R4 : RowT f3 n (P ++ sortF (A1 ++ B1) ++ sortF (A2 ++ B2) ++ Q) := R3.same (by rw [sort_none C.s2 C.s4 h3]; simp)
              have hk4 : k = P ++ sortF (A1 ++ B1) ++ sortF (A2 ++ B2) ++ Q := by rw [hk.h]; simp
              refine finOwn (LeV.refl _) (by subst hD; rfl) fun q _ => ?_
              rw [R4.f q, hkf, hk4]; rfl
        · have h1 := not_both (fun x => Bool.noConfusion ((C.t1.2 x).symm.trans h))
          obtain ⟨f2, hf2⟩ : ∃ f2, f2 = f := ⟨_, rfl⟩
          rw [← hf2] at R
          have R2 : RowT f2 n (P ++ A1 ++ B1 ++ A2 ++ B2 ++ Q) := R.same (by rcases h1 with e | e <;> rw [e] <;> simp)
          rw [← hf2]
          clear R hf2
          refine br hD (fun h => ?_) (fun h => ?_) <;> cbv
          · have h2 := C.t2.1 h
            have sb := C.rec1 h2
            have R2' : RowT f2 n (P ++ A1 ++ B1 ++ (A2 ++ B2 ++ Q)) := R2.same (by simp)
            refine ⟨P, A1, B1, A2 ++ B2 ++ Q, _, _, _, _, _, f2, rfl, by subst hD; rfl, by subst hD; exact R2', by subst hD; exact sb, fun k3 f3 hk3 hf3 => ?_⟩
            have R3 : RowT f3 n (P ++ sortF (A1 ++ B1) ++ A2 ++ B2 ++ Q) := R2.of hf3 (hk3.trans (by simp)) (by simp [sortF_len]; omega)
            clear hk3 hf3 R2 R2'
            cbv
            refine br hD (fun h => ?_) (fun h => ?_) <;> cbv
            · have h3 := C.t3.1 h
              have sb := C.rec2 (S := sortF (A1 ++ B1)) h3 (by rw [sortF_len]; simp)
              refine ⟨P ++ sortF (A1 ++ B1), A2, B2, Q, _, _, _, _, _, f3, rfl, by subst hD; rfl, by subst hD; exact R3, by subst hD; exact sb, fun k4 f4 hk4 hf4 => ?_⟩
              have R4 : RowT f4 n (P ++ sortF (A1 ++ B1) ++ sortF (A2 ++ B2) ++ Q) := R3.of hf4 hk4 (by simp [sortF_len]; omega)
              clear hk4 hf4
              cbv
              have hk4 : k = P ++ sortF (A1 ++ B1) ++ sortF (A2 ++ B2) ++ Q := by rw [hk.h]; simp
              refine finOwn (LeV.refl _) (by subst hD; rfl) fun q _ => ?_
              rw [R4.f q, hkf, hk4]; rfl
            · have h3 := not_both (fun x => Bool.noConfusion ((C.t3.2 x).symm.trans h))
              have R4 : RowT f3 n (P ++ sortF (A1 ++ B1) ++ sortF (A2 ++ B2) ++ Q) := R3.same (by rw [sort_none C.s2 C.s4 h3]; simp)
              have hk4 : k = P ++ sortF (A1 ++ B1) ++ sortF (A2 ++ B2) ++ Q := by rw [hk.h]; simp
              refine finOwn (LeV.refl _) (by subst hD; rfl) fun q _ => ?_
              rw [R4.f q, hkf, hk4]; rfl
          · have h2 := not_both (fun x => Bool.noConfusion ((C.t2.2 x).symm.trans h))
            obtain ⟨f3, hf3⟩ : ∃ f3, f3 = f2 := ⟨_, rfl⟩
            rw [← hf3] at R2
            have R3 : RowT f3 n (P ++ sortF (A1 ++ B1) ++ A2 ++ B2 ++ Q) := R2.same (by rw [sort_none C.s1 C.s3 h2]; simp)
            rw [← hf3]
            clear R2 hf3
            refine br hD (fun h => ?_) (fun h => ?_) <;> cbv
            · have h3 := C.t3.1 h
              have sb := C.rec2 (S := sortF (A1 ++ B1)) h3 (by rw [sortF_len]; simp)
              refine ⟨P ++ sortF (A1 ++ B1), A2, B2, Q, _, _, _, _, _, f3, rfl, by subst hD; rfl, by subst hD; exact R3, by subst hD; exact sb, fun k4 f4 hk4 hf4 => ?_⟩
              have R4 : RowT f4 n (P ++ sortF (A1 ++ B1) ++ sortF (A2 ++ B2) ++ Q) := R3.of hf4 hk4 (by simp [sortF_len]; omega)
              clear hk4 hf4
              cbv
              have hk4 : k = P ++ sortF (A1 ++ B1) ++ sortF (A2 ++ B2) ++ Q := by rw [hk.h]; simp
              refine finOwn (LeV.refl _) (by subst hD; rfl) fun q _ => ?_
              rw [R4.f q, hkf, hk4]; rfl
            · have h3 := not_both (fun x => Bool.noConfusion ((C.t3.2 x).symm.trans h))
              have R4 : RowT f3 n (P ++ sortF (A1 ++ B1) ++ sortF (A2 ++ B2) ++ Q) := R3.same (by rw [sort_none C.s2 C.s4 h3]; simp)
              have hk4 : k = P ++ sortF (A1 ++ B1) ++ sortF (A2 ++ B2) ++ Q := by rw [hk.h]; simp
              refine finOwn (LeV.refl _) (by subst hD; rfl) fun q _ => ?_
              rw [R4.f q, hkf, hk4]; rfl
    · have h : decide (dn.i (.cv .i64 (.bin .shr .u64 (.cv .u64 (.bin .add .i64 (.a a0) (.a b0))) (.l 1))) < m0) = false := h
      obtain ⟨lo, hi, M, hlo, hhi⟩ : ∃ lo hi, Mid P A B mid nn lo hi ∧ a0 = (lo : Int) ∧ m0 = (hi : Int) := by
        have h := of_decide_eq_false h
        rw [T.hmid] at h
        have h1 := Y.hm; have h2 := Y.hb; have h3 := Y.len
        exact ⟨P.length, P.length + A.length, ⟨hmd, hnd, .inl ⟨by omega, rfl, rfl⟩⟩, Y.ha, Y.hm⟩
      clear h hmd hnd
      obtain ⟨J, hJ⟩ : ∃ J, J = bsJ5 nl n a0 m0 b0 f mid nn lo hi (fun t => wq (P ++ A ++ B ++ Q) (nn - 1 - t) ≤ wq (P ++ A ++ B ++ Q) t) (fun t => wq (P ++ A ++ B ++ Q) t < wq (P ++ A ++ B ++ Q) (nn - 1 - t)) := ⟨_, rfl⟩
      refine ⟨[0, 1, 2, 3, 4, 18, 19, 20, 21, 22], J, ⟨rfl, hi - lo, ?_⟩, ?_⟩
      · rw [hJ]
        subst hD
        exact ⟨lo, hi, _, _, _, _, _, rfl, rfl, ⟨hlo, hhi, M.range, .inl rfl, .inl rfl, rfl⟩, ⟨T.hmid, T.hnn, T.hpp⟩⟩
      clear T hlo hhi
      intro m vs hp' hv
      rw [hJ] at hv
      unfold bsJ5 at hv
      obtain ⟨i, j, I, Jv, MID, NN, PP, rfl, rfl, V, Z⟩ := hv
      cbv
      refine br hD (fun h => ?_) (fun h => ?_) <;> cbv
      · have h : decide (I < Jv) = true := h
        have hlt : i < j := by have := of_decide_eq_true h; have := V.hI; have := V.hJ; omega
        clear h
        have hle : i ≤ (i + j) / 2 ∧ (i + j) / 2 < hi ∧ lo ≤ (i + j) / 2 := by have := V.le; omega
        have hpl := M.place (c := (i + j) / 2) hA2 hB2 hle.2.2 hle.2.1
        have ih : IxB (.cv .i64 (.bin .shr .u64 (.cv .u64 (.bin .add .i64 (.a I) (.a Jv))) (.l 1))) n ((i + j) / 2) := by
          have h1 := V.le; have h2 := Y.len; have h3 := R.n
          simp only [List.length_append] at h3
          exact ⟨half_den V.hI V.hJ (by omega), by omega⟩
        have ip : IxB (.bin .sub .i64 (.a PP) (.cv .i64 (.bin .shr .u64 (.cv .u64 (.bin .add .i64 (.a I) (.a Jv))) (.l 1)))) n (nn - 1 - (i + j) / 2) := by
          have h2 := Y.len; have h3 := R.n; have h4 := Z.hP; have h5 := ih.e
          simp only [List.length_append] at h3
          refine ⟨?_, by omega⟩
          show IntKind.i64.wrap (PP - dn.i (.cv .i64 (.bin .shr .u64 (.cv .u64 (.bin .add .i64 (.a I) (.a Jv))) (.l 1)))) = _
          rw [h5, wrap64 (by omega) (by omega)]; omega
        obtain ⟨c, hc⟩ : ∃ c, c = (i + j) / 2 := ⟨_, rfl⟩
        rw [← hc] at ih ip
        obtain ⟨p, hp⟩ : ∃ p, p = nn - 1 - c := ⟨_, rfl⟩
        rw [← hp] at ip
        have ec := R.f c
        obtain ⟨u, hu⟩ : ∃ u, u = (P ++ A ++ B ++ Q).getD c ([], 0) := ⟨_, rfl⟩
        have huq : u.2 = wq (P ++ A ++ B ++ Q) c := by rw [hu]; rfl
        rw [← hu] at ec
        have ex := R.f p
        obtain ⟨x, hx⟩ : ∃ u, u = (P ++ A ++ B ++ Q).getD p ([], 0) := ⟨_, rfl⟩
        have hxq : x.2 = wq (P ++ A ++ B ++ Q) (nn - 1 - c) := by rw [hx, hp]; rfl
        rw [← hx] at ex
        obtain ⟨uv, uq⟩ := u
        obtain ⟨xv, xq⟩ := x
        simp only [wtSV] at ec ex
        clear hu hx hp hle hpl
        refine ⟨⟨by subst hD; show (0 : Int) ≤ 1; omega⟩, ⟨rfl⟩, ip.inB hD, fun j1 hj1 => ?_⟩
        obtain rfl := ip.j hD hj1
        refine ⟨⟨rfl⟩, ip.lt hD hj1, ?_⟩
        rw [ex]
        cbv
        refine ⟨⟨rfl⟩, ih.inB hD, fun j2 hj2 => ?_⟩
        obtain rfl := ih.j hD hj2
        refine ⟨⟨rfl⟩, ih.lt hD hj2, ?_⟩
        rw [ec]
        cbv
        refine ⟨(xv, _), (uv, _), rfl, rfl, fun r hr0 => ?_⟩
        have hr : r = cmpI uq xq := by subst hD; exact hr0
        clear hr0
        cbv
        refine br hD (fun h => ?_) (fun h => ?_) <;> cbv
        · have h : (!decide (r < 0)) = true := h
          have h2 : xq ≤ uq := by
            simp only [Bool.not_eq_true', decide_eq_false_iff_not] at h
            rw [hr, cmpI_neg] at h; omega
          have hH : dn.i (.bin .add .i64 (.cv .i64 (.bin .shr .u64 (.cv .u64 (.bin .add .i64 (.a I) (.a Jv))) (.l 1))) (.l 1)) = ((j2 + 1 : Nat) : Int) := by
            have e := ih.e
            have h1 := ih.hi; have h3 := R.len; have h4 := R.n
            show IntKind.i64.wrap (dn.i (.cv .i64 (.bin .shr .u64 (.cv .u64 (.bin .add .i64 (.a I) (.a Jv))) (.l 1))) + 1) = _
            rw [e, wrap64 (by omega) (by omega)]; omega
          have W := V.right hc hlt hH (by show wq _ (nn - 1 - j2) ≤ wq _ j2; rw [← huq, ← hxq]; exact h2)
          clear h hr huq hxq
          refine ⟨j - (j2 + 1), W.2, ?_⟩
          rw [hJ]
          subst hD
          exact ⟨j2 + 1, j, _, _, _, _, _, rfl, rfl, W.1, Z⟩
        · have h : (!decide (r < 0)) = false := h
          have h2 : uq < xq := by
            simp only [Bool.not_eq_false', decide_eq_true_eq] at h
            exact cmpI_neg.1 (by rw [← hr]; exact h)
          have W := V.left hc hlt ih.e (by show wq _ j2 < wq _ (nn - 1 - j2); rw [← huq, ← hxq]; exact h2)
          clear h hr huq hxq
          refine ⟨j2 - i, W.2, ?_⟩
          rw [hJ]
          subst hD
          exact ⟨i, j2, _, _, _, _, _, rfl, rfl, W.1, Z⟩
      · have h : decide (I < Jv) = false := h
        have hij : i = j := by have := of_decide_eq_false h; have := V.hI; have := V.hJ; have := V.le; omega
        clear h
        subst hij
        obtain ⟨A1, A2, B1, B2, C, hk⟩ := symC_of M Y hA2 hB2 V Z hk
        have R : RowT f n (P ++ A1 ++ A2 ++ B1 ++ B2 ++ Q) := R.same (by rw [C.2.1, C.2.2]; simp)
        obtain ⟨C, -, -⟩ := C
        clear hJ V Y Z M hA2 hB2
        refine br hD (fun h => ?_) (fun h => ?_) <;> cbv
        · have h1 := C.t1.1 h
          have sb := C.rot h1
          have R1 : RowT f n (P ++ A1 ++ A2 ++ B1 ++ (B2 ++ Q)) := R.same (by simp)
          refine ⟨P ++ A1, A2, B1, B2 ++ Q, _, _, _, _, _, f, rfl, by subst hD; rfl, by subst hD; exact R1, by subst hD; exact sb, fun k2 f2 hk2 hf2 => ?_⟩
          have R2 : RowT f2 n (P ++ A1 ++ B1 ++ A2 ++ B2 ++ Q) := R.of hf2 (hk2.trans (by simp)) (by simp; omega)
          clear hk2 hf2 R R1
          cbv
          refine br hD (fun h => ?_) (fun h => ?_) <;> cbv
          · have h2 := C.t2.1 h
            have sb := C.rec1 h2
            have R2' : RowT f2 n (P ++ A1 ++ B1 ++ (A2 ++ B2 ++ Q)) := R2.same (by simp)
            refine ⟨P, A1, B1, A2 ++ B2 ++ Q, _, _, _, _, _, f2, rfl, by subst hD; rfl, by subst hD; exact R2', by subst hD; exact sb, fun k3 f3 hk3 hf3 => ?_⟩
            have R3 : RowT f3 n (P ++ sortF (A1 ++ B1) ++ A2 ++ B2 ++ Q) := R2.of hf3 (hk3.trans (by simp)) (by simp [sortF_len]; omega)
            clear hk3 hf3 R2 R2'
            cbv
            refine br hD (fun h => ?_) (fun h => ?_) <;> cbv
            · have h3 := C.t3.1 h
              have sb := C.rec2 (S := sortF (A1 ++ B1)) h3 (by rw [sortF_len]; simp)
              refine ⟨P ++ sortF (A1 ++ B1), A2, B2, Q, _, _, _, _, _, f3, rfl, by subst hD; rfl, by subst hD; exact R3, by subst hD; exact sb, fun k4 f4 hk4 hf4 => ?_⟩
              have R4 : RowT f4 n (P ++ sortF (A1 ++ B1) ++ sortF (A2 ++ B2) ++ Q) := R3.of hf4 hk4 (by simp [sortF_len]; omega)
              clear hk4 hf4
              cbv
              have hk4 : k = P ++ sortF (A1 ++ B1) ++ sortF (A2 ++ B2) ++ Q := by rw [hk.h]; simp
              refine finOwn (LeV.refl _) (by subst hD; rfl) fun q _ => ?_
              rw [R4.f q, hkf, hk4]; rfl
            · have h3 := not_both (fun x => Bool.noConfusion ((C.t3.2 x).symm.trans h))
              have R4 : RowT f3 n (P ++ sortF (A1 ++ B1) ++ sortF (A2 ++ B2) ++ Q) := R3.same (by rw [sort_none C.s2 C.s4 h3]; simp)
              have hk4 : k = P ++ sortF (A1 ++ B1) ++ sortF (A2 ++ B2) ++ Q := by rw [hk.h]; simp
              refine finOwn (LeV.refl _) (by subst hD; rfl) fun q _ => ?_
              rw [R4.f q, hkf, hk4]; rfl
          · have h2 := not_both (fun x => Bool.noConfusion ((C.t2.2 x).symm.trans h))
            obtain ⟨f3, hf3⟩ : ∃ f3, f3 = f2 := ⟨_, rfl⟩
            rw [← hf3] at R2
            have R3 : RowT f3 n (P ++ sortF (A1 ++ B1) ++ A2 ++ B2 ++ Q) := R2.same (by rw [sort_none C.s1 C.s3 h2]; simp)
            rw [← hf3]
            clear R2 hf3
            refine br hD (fun h => ?_) (fun h => ?_) <;> cbv
            · have h3 := C.t3.1 h
              have sb := C.rec2 (S := sortF (A1 ++ B1)) h3 (by rw [sortF_len]; simp)
              refine ⟨P ++ sortF (A1 ++ B1), A2, B2, Q, _, _, _, _, _, f3, rfl, by subst hD; rfl, by subst hD; exact R3, by subst hD; exact sb, fun k4 f4 hk4 hf4 => ?_⟩
              have R4 : RowT f4 n (P ++ sortF (A1 ++ B1) ++ sortF (A2 ++ B2) ++ Q) := R3.of hf4 hk4 (by simp [sortF_len]; omega)
              clear hk4 hf4
              cbv
              have hk4 : k = P ++ sortF (A1 ++ B1) ++ sortF (A2 ++ B2) ++ Q := by rw [hk.h]; simp
              refine finOwn (LeV.refl _) (by subst hD; rfl) fun q _ => ?_
              rw [R4.f q, hkf, hk4]; rfl
            · have h3 := not_both (fun x => Bool.noConfusion ((C.t3.2 x).symm.trans h))
              have R4 : RowT f3 n (P ++ sortF (A1 ++ B1) ++ sortF (A2 ++ B2) ++ Q) := R3.same (by rw [sort_none C.s2 C.s4 h3]; simp)
              have hk4 : k = P ++ sortF (A1 ++ B1) ++ sortF (A2 ++ B2) ++ Q := by rw [hk.h]; simp
              refine finOwn (LeV.refl _) (by subst hD; rfl) fun q _ => ?_
              rw [R4.f q, hkf, hk4]; rfl
        · have h1 := not_both (fun x => Bool.noConfusion ((C.t1.2 x).symm.trans h))
          obtain ⟨f2, hf2⟩ : ∃ f2, f2 = f := ⟨_, rfl⟩
          rw [← hf2] at R
          have R2 : RowT f2 n (P ++ A1 ++ B1 ++ A2 ++ B2 ++ Q) := R.same (by rcases h1 with e | e <;> rw [e] <;> simp)
          rw [← hf2]
          clear R hf2
          refine br hD (fun h => ?_) (fun h => ?_) <;> cbv
          · have h2 := C.t2.1 h
            have sb := C.rec1 h2
            have R2' : RowT f2 n (P ++ A1 ++ B1 ++ (A2 ++ B2 ++ Q)) := R2.same (by simp)
            refine ⟨P, A1, B1, A2 ++ B2 ++ Q, _, _, _, _, _, f2, rfl, by subst hD; rfl, by subst hD; exact R2', by subst hD; exact sb, fun k3 f3 hk3 hf3 => ?_⟩
            have R3 : RowT f3 n (P ++ sortF (A1 ++ B1) ++ A2 ++ B2 ++ Q) := R2.of hf3 (hk3.trans (by simp)) (by simp [sortF_len]; omega)
            clear hk3 hf3 R2 R2'
            cbv
            refine br hD (fun h => ?_) (fun h => ?_) <;> cbv
            · have h3 := C.t3.1 h
              have sb := C.rec2 (S := sortF (A1 ++ B1)) h3 (by rw [sortF_len]; simp)
              refine ⟨P ++ sortF (A1 ++ B1), A2, B2, Q, _, _, _, _, _, f3, rfl, by subst hD; rfl, by subst hD; exact R3, by subst hD; exact sb, fun k4 f4 hk4 hf4 => ?_⟩
              have R4 : RowT f4 n (P ++ sortF (A1 ++ B1) ++ sortF (A2 ++ B2) ++ Q) := R3.of hf4 hk4 (by simp [sortF_len]; omega)
              clear hk4 hf4
              cbv
              have hk4 : k = P ++ sortF (A1 ++ B1) ++ sortF (A2 ++ B2) ++ Q := by rw [hk.h]; simp
              refine finOwn (LeV.refl _) (by subst hD; rfl) fun q _ => ?_
              rw [R4.f q, hkf, hk4]; rfl
            · have h3 := not_both (fun x => Bool.noConfusion ((C.t3.2 x).symm.trans h))
              have R4 : RowT f3 n (P ++ sortF (A1 ++ B1) ++ sortF (A2 ++ B2) ++ Q) := R3.same (by rw [sort_none C.s2 C.s4 h3]; simp)
              have hk4 : k = P ++ sortF (A1 ++ B1) ++ sortF (A2 ++ B2) ++ Q := by rw [hk.h]; simp
              refine finOwn (LeV.refl _) (by subst hD; rfl) fun q _ => ?_
              rw [R4.f q, hkf, hk4]; rfl
          · have h2 := not_both (fun x => Bool.noConfusion ((C.t2.2 x).symm.trans h))
            obtain ⟨f3, hf3⟩ : ∃ f3, f3 = f2 := ⟨_, rfl⟩
            rw [← hf3] at R2
            have R3 : RowT f3 n (P ++ sortF (A1 ++ B1) ++ A2 ++ B2 ++ Q) := R2.same (by rw [sort_none C.s1 C.s3 h2]; simp)
            rw [← hf3]
            clear R2 hf3
            refine br hD (fun h => ?_) (fun h => ?_) <;> cbv
            · have h3 := C.t3.1 h
              have sb := C.rec2 (S := sortF (A1 ++ B1)) h3 (by rw [sortF_len]; simp)
              refine ⟨P ++ sortF (A1 ++ B1), A2, B2, Q, _, _, _, _, _, f3, rfl, by subst hD; rfl, by subst hD; exact R3, by subst hD; exact sb, fun k4 f4 hk4 hf4 => ?_⟩
              have R4 : RowT f4 n (P ++ sortF (A1 ++ B1) ++ sortF (A2 ++ B2) ++ Q) := R3.of hf4 hk4 (by simp [sortF_len]; omega)
              clear hk4 hf4
              cbv
              have hk4 : k = P ++ sortF (A1 ++ B1) ++ sortF (A2 ++ B2) ++ Q := by rw [hk.h]; simp
              refine finOwn (LeV.refl _) (by subst hD; rfl) fun q _ => ?_
              rw [R4.f q, hkf, hk4]; rfl
            · have h3 := not_both (fun x => Bool.noConfusion ((C.t3.2 x).symm.trans h))
              have R4 : RowT f3 n (P ++ sortF (A1 ++ B1) ++ sortF (A2 ++ B2) ++ Q) := R3.same (by rw [sort_none C.s2 C.s4 h3]; simp)
              have hk4 : k = P ++ sortF (A1 ++ B1) ++ sortF (A2 ++ B2) ++ Q := by rw [hk.h]; simp
              refine finOwn (LeV.refl _) (by subst hD; rfl) fun q _ => ?_
              rw [R4.f q, hkf, hk4]; rfl
theorem sym0 : FnOk Tryz.prog gl 104 (spSym 0) := by
  refine ⟨⟨Tryz.f104, _, Tryz.func104, rfl, by kernel_rfl⟩, fun xs ls K h => ?_⟩
  obtain ⟨P, A, B, Q, nl, n, a0, m0, b0, f, rfl, rfl, R, Y, h⟩ := h
  have := Y.hA; have := Y.hN; omega
theorem symN : ∀ N, FnOk Tryz.prog gl 104 (spSym N)
  | 0 => sym0
  | N + 1 => sym_ok N (symN N)
end Go.Proofs.YtfchfhjpldppjaaGreatDoor
namespace Go.Proofs.YtfchfhjpldppjaaGreatDoor
open Go.Sx
set_option maxRecDepth 10000
set_option maxHeartbeats 8000000
/-! The stable sort of weights. -/
theorem sortSeg_all (l : List Wt) : sortSeg l 0 l.length = sortF l := by
  unfold sortSeg sortF
  simp
/-- Sorted in blocks of s. -/
def blkF (s : Nat) : Nat → List Wt → List Wt
  | 0, l => sortF l
  | m + 1, l => if s ≤ l.length then sortF (l.take s) ++ blkF s m (l.drop s) else sortF l
theorem blkF_nil (s : Nat) : ∀ m, blkF s m [] = []
  | 0 => rfl
  | m + 1 => by
    rw [blkF]
    split
    · simp [blkF_nil s m, sortF]
    · rfl
theorem blkF_step {s m : Nat} {l : List Wt} (h : s ≤ l.length) : blkF s (m + 1) l = sortF (l.take s) ++ blkF s m (l.drop s) := by rw [blkF, if_pos h]
theorem blkF_small {s m : Nat} {l : List Wt} (h : l.length ≤ s) : blkF s m l = sortF l := by
  cases m with
  | zero => rfl
  | succ m =>
    rw [blkF]
    split
    · rw [List.drop_eq_nil_of_le h, blkF_nil, List.append_nil, List.take_of_length_le h]
    · rfl
theorem blkF_len (s : Nat) : ∀ (m : Nat) (l : List Wt), (blkF s m l).length = l.length
  | 0, l => sortF_len l
  | m + 1, l => by
    rw [blkF]
    split
    · rw [List.length_append, sortF_len, blkF_len s m, List.length_take, List.length_drop]; omega
    · exact sortF_len l
theorem sortF_two (a b : List Wt) : sortF (sortF a ++ sortF b) = sortF (a ++ b) := sortF_congr ((sortF_stb a).append (sortF_stb b))
theorem take_two {s : Nat} (R : List Wt) : R.take s ++ (R.drop s).take s = R.take (2 * s) := by
  rw [show 2 * s = s + s by omega, List.take_add]
theorem blkF_two {s m : Nat} {R : List Wt} (h0 : 0 < s) (h : 2 * s ≤ R.length) (hm : R.length ≤ m) : ∃ m', (R.drop (2 * s)).length ≤ m' ∧ blkF s m R = sortF (R.take s) ++ sortF ((R.drop s).take s) ++ blkF s m' (R.drop (2 * s)) := by
  obtain ⟨m', rfl⟩ : ∃ m', m = m' + 2 := ⟨m - 2, by omega⟩
  refine ⟨m', by rw [List.length_drop]; omega, ?_⟩
  rw [show m' + 2 = (m' + 1) + 1 from rfl, blkF_step (by omega), blkF_step (by rw [List.length_drop]; omega), List.drop_drop, show s + s = 2 * s by omega, List.append_assoc]
theorem blkF_one {s m : Nat} {R : List Wt} (h0 : 0 < s) (h : s ≤ R.length) (hm : R.length ≤ m) : ∃ m', (R.drop s).length ≤ m' ∧ blkF s m R = sortF (R.take s) ++ blkF s m' (R.drop s) := by
  obtain ⟨m', rfl⟩ : ∃ m', m = m' + 1 := ⟨m - 1, by omega⟩
  exact ⟨m', by rw [List.length_drop]; omega, blkF_step h⟩
structure StB (l : List Wt) (n n1 : Int) : Prop where
  en : n = (l.length : Int)
  en1 : n1 = n
  len : l.length ≤ 1000000
def spStabT : FSpec := fun _ xs ls K => ∃ (l : List Wt) (nl : Bool) (n n1 : Int) (f : Nat → List SV), xs = [.osl (.a nl) (.a n) 0, .int .i64 (.a n1), .fn 59] ∧ ls = [.own 51 (.a n) 2 true f] ∧ RowT f n l ∧ n1 = n ∧ l.length ≤ 1000000 ∧
  ∀ (k : List Wt) (f' : Nat → List SV), k = sortF l → f' = wtRow k → K (.tup []) [.own 51 (.a n) 2 true f']
/-- The first pass: blocks of 20. -/
structure StI (l T D R : List Wt) (s : Nat) (A Bv : Int) (m : Nat) : Prop where
  hA : A = (D.length : Int)
  hB : Bv = ((D.length + s : Nat) : Int)
  ln : D.length + R.length = l.length
  ms : m = R.length
  t : ∃ q, R.length ≤ q ∧ T = D ++ blkF s q R
def stJ1 (l T : List Wt) (nl : Bool) (n n1 : Int) (m : Nat) (vs : List (Option SV)) (hp : List Hl) : Prop :=
  ∃ (D R : List Wt) (S A Bv : Int) (f : Nat → List SV), vs = [some (.osl (.a nl) (.a n) 0), some (.int .i64 (.a n1)), some (.fn 59), some (.int .i64 (.a S)), some (.int .i64 (.a A)), some (.int .i64 (.a Bv))] ∧ hp = [.own 51 (.a n) 2 true f] ∧ S = 20 ∧ StI l T D R 20 A Bv m ∧ RowT f n (D ++ R)
/-- The passes that merge. -/
structure StO (l : List Wt) (s : Nat) (S : Int) (m : Nat) : Prop where
  hS : S = (s : Int)
  h0 : 0 < s
  h1 : s ≤ 2000000
  ms : m = l.length - s
def stJ2 (l : List Wt) (nl : Bool) (n n1 : Int) (m : Nat) (vs : List (Option SV)) (hp : List Hl) : Prop :=
  ∃ (s : Nat) (S : Int) (f : Nat → List SV), vs = [some (.osl (.a nl) (.a n) 0), some (.int .i64 (.a n1)), some (.fn 59), some (.int .i64 (.a S))] ∧ hp = [.own 51 (.a n) 2 true f] ∧ StO l s S m ∧ RowT f n (blkF s l.length l)
structure StM (l T D R E : List Wt) (s : Nat) (A Bv : Int) (m : Nat) : Prop where
  hA : A = (D.length : Int)
  hB : Bv = ((D.length + 2 * s : Nat) : Int)
  ln : D.length + R.length = l.length
  ms : m = R.length
  e : ∃ q, R.length ≤ q ∧ E = blkF s q R
  t : ∃ q, R.length ≤ q ∧ T = D ++ blkF (2 * s) q R
def stJ3 (l T : List Wt) (s : Nat) (nl : Bool) (n n1 S : Int) (m : Nat) (vs : List (Option SV)) (hp : List Hl) : Prop :=
  ∃ (D R E : List Wt) (A Bv : Int) (f : Nat → List SV), vs = [some (.osl (.a nl) (.a n) 0), some (.int .i64 (.a n1)), some (.fn 59), some (.int .i64 (.a S)), some (.int .i64 (.a A)), some (.int .i64 (.a Bv))] ∧ hp = [.own 51 (.a n) 2 true f] ∧ StM l T D R E s A Bv m ∧ RowT f n (D ++ E)
structure StA (A S : Int) (p : Nat) : Prop where
  h : dn.i (.bin .add .i64 (.a A) (.a S)) = (p : Int)
theorem stabT_ok : FnOk Tryz.prog gl 83 spStabT := by
  refine fnOk (gh := []) mixed cxOk (tabCons insT_ok (tabCons (symN 2000000000) tabNil)) Tryz.func83 (by kernel_rfl) (by kernel_rfl) ?_
  intro xs ls K h
  unfold spStabT at h
  obtain ⟨l, nl, n, n1, f, rfl, rfl, R, hn1, hl, h⟩ := h
  obtain ⟨k, hk⟩ : ∃ k, k = sortF l := ⟨_, rfl⟩
  obtain ⟨kf, hkf⟩ : ∃ kf, kf = wtRow k := ⟨_, rfl⟩
  refine ⟨_, _, h k kf hk hkf, fun D hD => ?_⟩
  clear h
  have SB : StB l n n1 := ⟨R.n, hn1, hl⟩
  clear hn1 hl
  cbv
  obtain ⟨T, hT⟩ : ∃ T, T = blkF 20 l.length l := ⟨_, rfl⟩
  obtain ⟨J, hJ⟩ : ∃ J, J = stJ1 l T nl n n1 := ⟨_, rfl⟩
  refine ⟨[0, 1, 2, 6, 7, 8], J, ⟨rfl, l.length, ?_⟩, ?_⟩
  · rw [hJ]
    subst hD
    exact ⟨[], l, _, _, _, f, rfl, rfl, rfl, ⟨rfl, rfl, by simp, rfl, l.length, Nat.le_refl _, hT⟩, R⟩
  clear R
  intro m vs hp' hv
  rw [hJ] at hv
  unfold stJ1 at hv
  obtain ⟨L, R, S, A, Bv, f, rfl, rfl, hS, V, RT⟩ := hv
  cbv
  refine br hD (fun h => ?_) (fun h => ?_) <;> cbv
  · have h : decide (Bv ≤ n1) = true := h
    have h20 : 20 ≤ R.length := by have := of_decide_eq_true h; have := V.hB; have := V.ln; have := SB.en; have := SB.en1; omega
    clear h
    have ib : InB L.length (L.length + 20) A Bv (L ++ R) := ⟨V.hA, V.hB, by omega, by simp; omega, by have := SB.len; have := V.ln; simp; omega⟩
    refine ⟨L ++ R, _, _, _, _, L.length, L.length + 20, f, rfl, rfl, by subst hD; exact RT, by subst hD; exact ib, fun k2 f2 hk2 hf2 => ?_⟩
    have e2 : sortSeg (L ++ R) L.length (L.length + 20) = L ++ sortF (R.take 20) ++ R.drop 20 := by
      unfold sortSeg sortF
      rw [List.take_left, List.take_append, List.take_of_length_le (by omega), List.drop_left, List.drop_append, List.drop_eq_nil_of_le (by omega), show L.length + 20 - L.length = 20 by omega]
      rfl
    have RT2 : RowT f2 n ((L ++ sortF (R.take 20)) ++ R.drop 20) := RT.of hf2 (hk2.trans e2) (by simp [sortF_len]; omega)
    have W : StI l T (L ++ sortF (R.take 20)) (R.drop 20) 20 Bv (dn.i (.bin .add .i64 (.a Bv) (.a S))) (R.drop 20).length := by
      have h1 := V.hB; have h2 := V.ln; have h3 := SB.len
      have hl : (L ++ sortF (R.take 20)).length = L.length + 20 := by simp [sortF_len]; omega
      refine ⟨by rw [hl]; omega, ?_, by rw [hl, List.length_drop]; omega, rfl, ?_⟩
      · show IntKind.i64.wrap (Bv + S) = _
        rw [hl, hS, wrap64 (by omega) (by omega)]; omega
      · obtain ⟨q, hq, ht⟩ := V.t
        obtain ⟨q', hq', ht'⟩ := blkF_one (by omega) h20 hq
        exact ⟨q', hq', by rw [ht, ht', List.append_assoc]⟩
    have hm : (R.drop 20).length < m := by have := V.ms; rw [List.length_drop]; omega
    clear ib hk2 hf2 e2 RT
    cbv
    refine ⟨(R.drop 20).length, hm, ?_⟩
    rw [hJ]
    subst hD
    exact ⟨L ++ sortF (R.take 20), R.drop 20, _, _, _, f2, rfl, rfl, hS, W, RT2⟩
  · have h : decide (Bv ≤ n1) = false := h
    have h20 : R.length < 20 := by have := of_decide_eq_false h; have := V.hB; have := V.ln; have := SB.en; have := SB.en1; omega
    clear h
    have ib : InB L.length (L ++ R).length A n1 (L ++ R) := ⟨V.hA, by have := SB.en; have := SB.en1; have := V.ln; simp; omega, by simp, Nat.le_refl _, by have := SB.len; have := V.ln; simp; omega⟩
    refine ⟨L ++ R, _, _, _, _, L.length, (L ++ R).length, f, rfl, rfl, by subst hD; exact RT, by subst hD; exact ib, fun k2 f2 hk2 hf2 => ?_⟩
    have e2 : sortSeg (L ++ R) L.length (L ++ R).length = T := by
      unfold sortSeg
      rw [List.take_left, List.take_length, List.drop_left, List.drop_length, List.append_nil]
      obtain ⟨q, hq, ht⟩ := V.t
      rw [ht, blkF_small (by omega)]
      rfl
    have RT2 : RowT f2 n (blkF 20 l.length l) := RT.of hf2 ((hk2.trans e2).trans hT) (by rw [blkF_len]; have := V.ln; simp; omega)
    clear ib hk2 hf2 e2 RT V h20 hJ hT
    cbv
    obtain ⟨J2, hJ2⟩ : ∃ J, J = stJ2 l nl n n1 := ⟨_, rfl⟩
    refine ⟨[0, 1, 2, 6], J2, ⟨rfl, l.length - 20, ?_⟩, ?_⟩
    · rw [hJ2]
      subst hD
      exact ⟨20, _, f2, rfl, rfl, ⟨hS, by omega, by omega, rfl⟩, RT2⟩
    clear RT2 hS
    intro m vs hp' hv
    rw [hJ2] at hv
    unfold stJ2 at hv
    obtain ⟨s, S, f, rfl, rfl, V, RT⟩ := hv
    cbv
    refine br hD (fun h => ?_) (fun h => ?_) <;> cbv
    · have h : decide (S < n1) = true := h
      have hlt : s < l.length := by have := of_decide_eq_true h; have := V.hS; have := SB.en; have := SB.en1; omega
      clear h
      obtain ⟨T2, hT2⟩ : ∃ T, T = blkF (2 * s) l.length l := ⟨_, rfl⟩
      obtain ⟨J3, hJ3⟩ : ∃ J, J = stJ3 l T2 s nl n n1 S := ⟨_, rfl⟩
      refine ⟨[0, 1, 2, 6, 7, 8], J3, ⟨rfl, l.length, ?_⟩, ?_⟩
      · rw [hJ3]
        subst hD
        refine ⟨[], l, _, _, _, f, rfl, rfl, ⟨rfl, ?_, by simp, rfl, ⟨l.length, Nat.le_refl _, rfl⟩, ⟨l.length, Nat.le_refl _, hT2⟩⟩, RT⟩
        have := V.hS; have := V.h1
        show IntKind.i64.wrap (2 * S) = _
        rw [wrap64 (by omega) (by omega)]; simp; omega
      clear RT
      intro m3 vs hp' hv
      rw [hJ3] at hv
      unfold stJ3 at hv
      obtain ⟨D', R, E, A, Bv, f, rfl, rfl, W, RT⟩ := hv
      cbv
      refine br hD (fun h => ?_) (fun h => ?_) <;> cbv
      · have h : decide (Bv ≤ n1) = true := h
        have h2 : 2 * s ≤ R.length := by have := of_decide_eq_true h; have := W.hB; have := W.ln; have := SB.en; have := SB.en1; omega
        clear h
        obtain ⟨q, hq, hE⟩ := W.e
        obtain ⟨q', hq', hE2⟩ := blkF_two V.h0 h2 hq
        have RT1 : RowT f n (D' ++ sortF (R.take s) ++ sortF ((R.drop s).take s) ++ blkF s q' (R.drop (2 * s))) := RT.same (by rw [hE, hE2]; simp)
        have la : (sortF (R.take s)).length = s := by rw [sortF_len, List.length_take]; omega
        have lb : (sortF ((R.drop s).take s)).length = s := by rw [sortF_len, List.length_take, List.length_drop]; omega
        have lq : (blkF s q' (R.drop (2 * s))).length = R.length - 2 * s := by rw [blkF_len, List.length_drop]
        have sb : SymB D' (sortF (R.take s)) (sortF ((R.drop s).take s)) (blkF s q' (R.drop (2 * s))) A (dn.i (.bin .add .i64 (.a A) (.a S))) Bv 2000000000 := by
          have h3 := W.hA; have h4 := W.hB; have h5 := V.hS; have h6 := W.ln; have h7 := SB.len; have h8 := V.h0
          refine ⟨h3, ?_, by rw [la, lb]; omega, by omega, by omega, by omega, by rw [la, lb, lq]; omega, sortF_srt _, sortF_srt _⟩
          show IntKind.i64.wrap (A + S) = _
          rw [la, wrap64 (by omega) (by omega)]; omega
        refine ⟨D', sortF (R.take s), sortF ((R.drop s).take s), blkF s q' (R.drop (2 * s)), _, _, _, _, _, f, rfl, rfl, by subst hD; exact RT1, by subst hD; exact sb, fun k2 f2 hk2 hf2 => ?_⟩
        have e2 : D' ++ sortF (sortF (R.take s) ++ sortF ((R.drop s).take s)) ++ blkF s q' (R.drop (2 * s)) = (D' ++ sortF (R.take (2 * s))) ++ blkF s q' (R.drop (2 * s)) := by rw [sortF_two, take_two]
        have RT2 : RowT f2 n ((D' ++ sortF (R.take (2 * s))) ++ blkF s q' (R.drop (2 * s))) := RT1.of hf2 (hk2.trans e2) (by
          simp only [List.length_append, sortF_len, List.length_take, List.length_drop]; omega)
        have W2 : StM l T2 (D' ++ sortF (R.take (2 * s))) (R.drop (2 * s)) (blkF s q' (R.drop (2 * s))) s Bv (dn.i (.bin .add .i64 (.a Bv) (.bin .mul .i64 (.l 2) (.a S)))) (R.drop (2 * s)).length := by
          have h3 := W.hA; have h4 := W.hB; have h5 := V.hS; have h6 := W.ln; have h7 := SB.len; have h8 := V.h1
          have hl : (D' ++ sortF (R.take (2 * s))).length = D'.length + 2 * s := by rw [List.length_append, sortF_len, List.length_take]; omega
          refine ⟨by rw [hl]; omega, ?_, by rw [hl, List.length_drop]; omega, rfl, ⟨q', hq', rfl⟩, ?_⟩
          · show IntKind.i64.wrap (Bv + IntKind.i64.wrap (2 * S)) = _
            rw [hl, wrap64 (n := 2 * S) (by omega) (by omega), wrap64 (by omega) (by omega)]; omega
          · obtain ⟨q2, hq2, ht⟩ := W.t
            obtain ⟨q3, hq3, ht'⟩ := blkF_one (by have := V.h0; omega) h2 hq2
            exact ⟨q3, hq3, by rw [ht, ht', List.append_assoc]⟩
        have hm : (R.drop (2 * s)).length < m3 := by have := W.ms; have := V.h0; rw [List.length_drop]; omega
        clear sb hk2 hf2 e2 RT RT1 hE hE2
        cbv
        refine ⟨(R.drop (2 * s)).length, hm, ?_⟩
        rw [hJ3]
        subst hD
        exact ⟨D' ++ sortF (R.take (2 * s)), R.drop (2 * s), _, _, _, f2, rfl, rfl, W2, RT2⟩
      · have h : decide (Bv ≤ n1) = false := h
        have h2 : R.length < 2 * s := by have := of_decide_eq_false h; have := W.hB; have := W.ln; have := SB.en; have := SB.en1; omega
        clear h
        obtain ⟨q, hq, hE⟩ := W.e
        have hend : T2 = D' ++ sortF R := by
          obtain ⟨q2, hq2, ht⟩ := W.t
          rw [ht, blkF_small (by omega)]
        have next : StO l (2 * s) (dn.i (.bin .mul .i64 (.a S) (.l 2))) (l.length - 2 * s) := by
          have h5 := V.hS; have h6 := V.h1; have h7 := SB.len; have h8 := V.h0
          refine ⟨?_, by omega, by omega, rfl⟩
          show IntKind.i64.wrap (S * 2) = _
          rw [wrap64 (by omega) (by omega)]; omega
        have hm : l.length - 2 * s < m := by have := V.ms; have := V.h0; omega
        have hAS : dn.i (.bin .add .i64 (.a A) (.a S)) = ((D'.length + s : Nat) : Int) := by
          have h3 := W.hA; have h5 := V.hS; have h6 := W.ln; have h7 := SB.len; have h8 := V.h1
          show IntKind.i64.wrap (A + S) = _
          rw [wrap64 (by omega) (by omega)]; omega
        have hAS : StA A S (D'.length + s) := ⟨hAS⟩
        refine br hD (fun h => ?_) (fun h => ?_) <;> cbv
        · have h : decide (dn.i (.bin .add .i64 (.a A) (.a S)) < n1) = true := h
          have h3 : s < R.length := by
            have h := of_decide_eq_true h
            rw [hAS.h] at h
            have := W.ln; have := SB.en; have := SB.en1; omega
          clear h
          obtain ⟨q', hq', hE2⟩ := blkF_one V.h0 (by omega) hq
          have hE3 : E = sortF (R.take s) ++ sortF (R.drop s) := by rw [hE, hE2, blkF_small (by rw [List.length_drop]; omega)]
          have RT1 : RowT f n (D' ++ sortF (R.take s) ++ sortF (R.drop s) ++ []) := RT.same (by rw [hE3]; simp)
          have la : (sortF (R.take s)).length = s := by rw [sortF_len, List.length_take]; omega
          have lb : (sortF (R.drop s)).length = R.length - s := by rw [sortF_len, List.length_drop]
          have sb : SymB D' (sortF (R.take s)) (sortF (R.drop s)) [] A (dn.i (.bin .add .i64 (.a A) (.a S))) n1 2000000000 := by
            have h3 := W.hA; have h5 := V.hS; have h6 := W.ln; have h7 := SB.len; have h8 := V.h0; have h9 := SB.en; have h10 := SB.en1
            refine ⟨h3, by rw [hAS.h, la], by rw [la, lb]; omega, by omega, by omega, by omega, by rw [la, lb]; simp; omega, sortF_srt _, sortF_srt _⟩
          refine ⟨D', sortF (R.take s), sortF (R.drop s), [], _, _, _, _, _, f, rfl, rfl, by subst hD; exact RT1, by subst hD; exact sb, fun k2 f2 hk2 hf2 => ?_⟩
          have e2 : D' ++ sortF (sortF (R.take s) ++ sortF (R.drop s)) ++ [] = blkF (2 * s) l.length l := by rw [sortF_two, List.take_append_drop, List.append_nil, ← hT2, hend]
          have RT2 : RowT f2 n (blkF (2 * s) l.length l) := RT1.of hf2 (hk2.trans e2) (by
            rw [blkF_len]; have := W.ln; simp only [List.length_append, sortF_len, List.length_take, List.length_drop, List.length_nil]; omega)
          clear sb hk2 hf2 e2 RT RT1 hE hE2 hE3 hJ3 hT2 hAS
          cbv
          refine ⟨l.length - 2 * s, hm, ?_⟩
          rw [hJ2]
          subst hD
          exact ⟨2 * s, _, f2, rfl, rfl, next, RT2⟩
        · have h : decide (dn.i (.bin .add .i64 (.a A) (.a S)) < n1) = false := h
          have h3 : R.length ≤ s := by
            have h := of_decide_eq_false h
            rw [hAS.h] at h
            have := W.ln; have := SB.en; have := SB.en1; omega
          clear h
          have RT2 : RowT f n (blkF (2 * s) l.length l) := RT.same (by rw [hE, blkF_small h3, ← hT2, hend])
          clear RT hE hJ3 hT2 hAS
          refine ⟨l.length - 2 * s, hm, ?_⟩
          rw [hJ2]
          subst hD
          exact ⟨2 * s, _, f, rfl, rfl, next, RT2⟩
    · have h : decide (S < n1) = false := h
      have hge : l.length ≤ s := by have := of_decide_eq_false h; have := V.hS; have := SB.en; have := SB.en1; omega
      have hk2 : k = blkF s l.length l := by rw [hk, blkF_small hge]
      refine finOwn (LeV.refl _) (by subst hD; rfl) fun q _ => ?_
      rw [RT.f q, hkf, hk2]; rfl
def spSortT : FSpec := fun _ xs ls K => ∃ (l : List Wt) (nl : Bool) (n : Int) (f : Nat → List SV), xs = [.osl (.a nl) (.a n) 0, .fn 59] ∧ ls = [.own 51 (.a n) 2 true f] ∧ RowT f n l ∧ l.length ≤ 1000000 ∧
  ∀ (k : List Wt) (f' : Nat → List SV), k = sortF l → f' = wtRow k → K (.tup []) [.own 51 (.a n) 2 true f']
theorem sortT_ok : FnOk Tryz.prog gl 58 spSortT := by
  refine fnOk (gh := []) mixed cxOk (tabCons stabT_ok tabNil) Tryz.func58 (by kernel_rfl) (by kernel_rfl) ?_
  intro xs ls K h
  unfold spSortT at h
  obtain ⟨l, nl, n, f, rfl, rfl, R, hl, h⟩ := h
  obtain ⟨k, hk⟩ : ∃ k, k = sortF l := ⟨_, rfl⟩
  obtain ⟨kf, hkf⟩ : ∃ kf, kf = wtRow k := ⟨_, rfl⟩
  refine ⟨_, _, h k kf hk hkf, fun D hD => ?_⟩
  clear h
  cbv
  refine ⟨l, _, _, _, f, rfl, rfl, by subst hD; exact R, by subst hD; rfl, hl, fun k2 f2 hk2 hf2 => ?_⟩
  cbv
  refine finOwn (LeV.refl _) (by subst hD; rfl) fun q _ => ?_
  rw [hf2, hkf, hk, hk2]
/-- Of rows that are known up to their length. -/
def spSortW : FSpec := fun _ xs ls K => ∃ (l : List Wt) (nl : Bool) (n : Int) (f : Nat → List SV), xs = [.osl (.a nl) (.a n) 0, .fn 59] ∧ ls = [.own 51 (.a n) 2 true f] ∧ RowW f n l ∧ l.length ≤ 1000000 ∧
  ∀ (k : List Wt) (f' : Nat → List SV), k = sortF l → f' = wtRow k → K (.tup []) [.own 51 (.a n) 2 true f']
theorem callsTo_leH {P : Go.Program} {gl : List (Nat × SV)} {f : Go.FuncId} {as1 : List SV} {ls ls1 : List Hl} {r : SV} {ls' : List Hl} (h : LeH ls ls1) (hl : ls.length = ls1.length) (c : CallsTo P gl f as1 ls1 r ls') : CallsTo P gl f as1 ls r ls' :=
  fun B E w vals hw hI hdom hb hg hh hr => c B E w vals hw hI (by rw [← hl]; exact hdom) hb hg (fun k => h k E w (hh k)) hr
theorem sort_ok : FnOk Tryz.prog gl 58 spSortW := by
  refine ⟨sortT_ok.1, fun xs ls K h => ?_⟩
  obtain ⟨l, nl, n, f, rfl, rfl, R, hl, h⟩ := h
  obtain ⟨r, ls', hK, hc⟩ := sortT_ok.2 [.osl (.a nl) (.a n) 0, .fn 59] [.own 51 (.a n) 2 true (wtRow l)] K ⟨l, nl, n, wtRow l, rfl, rfl, RowT.row R.n R.len, hl, h⟩
  refine ⟨r, ls', hK, callsTo_leH (ls1 := [.own 51 (.a n) 2 true (wtRow l)]) (leH_of (LeH.cons (leH_own rfl fun i hi => ?_) fun _ _ _ _ h => h)) rfl hc⟩
  have hi : (i : Int) < n := hi
  exact R.f i (by have := R.n; omega)
end Go.Proofs.YtfchfhjpldppjaaGreatDoor
namespace Go.Proofs.YtfchfhjpldppjaaGreatDoor
open Go.Sx
set_option maxRecDepth 10000
set_option maxHeartbeats 4000000
/-! Weights. -/
def wPar : List Par → Int → Int × Int
  | [], q => (q, 0)
  | p :: r, q => if p.1 == [113] then (if (qualF p.2).2 ≠ 0 then (0, (qualF p.2).2) else wPar r (qualF p.2).1) else wPar r q
def wItems : List Item → List Wt × Int
  | [] => ([], 0)
  | x :: r => if (wPar x.2 1000).2 ≠ 0 then ([], (wPar x.2 1000).2) else if (wItems r).2 ≠ 0 then ([], (wItems r).2) else ((x.1, (wPar x.2 1000).1) :: (wItems r).1, 0)
def addW (out : List Wt) (y : List Wt × Int) : List Wt × Int := if y.2 ≠ 0 then ([], y.2) else (out ++ y.1, 0)
theorem addW_err {out : List Wt} {x : Item} {r : List Item} (h : (wPar x.2 1000).2 ≠ 0) : addW out (wItems (x :: r)) = ([], (wPar x.2 1000).2) := by
  rw [wItems, if_pos h, addW, if_pos h]
theorem addW_more {out : List Wt} {x : Item} {r : List Item} (h : (wPar x.2 1000).2 = 0) : addW out (wItems (x :: r)) = addW (out ++ [(x.1, (wPar x.2 1000).1)]) (wItems r) := by
  rw [wItems, if_neg (by rw [h]; simp)]
  by_cases hr : (wItems r).2 ≠ 0
  · rw [if_pos hr, addW, addW, if_pos hr, if_pos hr]
  · rw [if_neg hr, addW, addW, if_neg hr, if_neg (by simp)]
    simp
def sortE (y : List Wt × Int) : List Wt × Int := if y.2 ≠ 0 then ([], y.2) else (sortF y.1, 0)
def weightsF (v : List UInt8) : List Wt × Int := if (itemsF v).2 ≠ 0 then ([], (itemsF v).2) else sortE (addW [] (wItems (itemsF v).1))
theorem RowW.nil : RowW (fun _ => []) 0 [] := ⟨rfl, by simp, by simp⟩
theorem RowW.more {f f' g : Nat → List SV} {n n' : Int} {a : List Wt} {x : Wt} (R : RowW f n a) (hg : g 0 = wtSV x) (h : MoreRow f' n' n 1 f g) (hl : a.length < 9223372036854775807) : RowW f' n' (a ++ [x]) := by
  have h1 := R.n
  refine ⟨by rw [h.len, h1]; simp, fun i hi => ?_, by simp; omega⟩
  simp only [List.length_append, List.length_singleton] at hi
  by_cases e : i < a.length
  · rw [h.lo i (by omega), R.f i e, List.getD_eq_getElem?_getD, List.getD_eq_getElem?_getD, List.getElem?_append_left e]
  · have : i = a.length := by omega
    subst this
    rw [h.hi a.length 0 (by rw [h1]; simp) (by simp), hg]
    simp
/-- What is left of the parameters, and of the items. -/
def restW (out : List Wt) (v : List UInt8) (y : Int × Int) (r : List Item) : List Wt × Int := if y.2 ≠ 0 then ([], y.2) else addW (out ++ [(v, y.1)]) (wItems r)
theorem restW_of {out : List Wt} {x : Item} {r : List Item} : addW out (wItems (x :: r)) = restW out x.1 (wPar x.2 1000) r := by
  unfold restW
  by_cases h : (wPar x.2 1000).2 ≠ 0
  · rw [addW_err h, if_pos h]
  · rw [addW_more (by simpa using h), if_neg h]
theorem wPar_not {p : Par} {r : List Par} {q : Int} (h : (p.1 == [113]) = false) : wPar (p :: r) q = wPar r q := by rw [wPar, if_neg (by rw [h]; simp)]
theorem wPar_bad {p : Par} {r : List Par} {q : Int} (h : (p.1 == [113]) = true) (h2 : (qualF p.2).2 ≠ 0) : wPar (p :: r) q = (0, (qualF p.2).2) := by rw [wPar, if_pos h, if_pos h2]
theorem wPar_q {p : Par} {r : List Par} {q : Int} (h : (p.1 == [113]) = true) (h2 : (qualF p.2).2 = 0) : wPar (p :: r) q = wPar r (qualF p.2).1 := by rw [wPar, if_pos h, if_neg (by rw [h2]; simp)]
structure WoI (l : List Item) (out : List Wt) (i : Nat) (I L : Int) (nl : Bool) (m : Nat) : Prop where
  at_ : AtR l i I m
  L : L = l.length
  ol : out.length = i
  nl : nl = out.isEmpty
def woJ (l : List Item) (k : List Wt × Int) (nb : Bool) (nn : Int) (g : Nat → List SV) (m : Nat) (vs : List (Option SV)) (hp : List Hl) : Prop :=
  ∃ (i : Nat) (I L n : Int) (nl : Bool) (f : Nat → List SV) (out : List Wt), vs = [some (.osl (.a nl) (.a n) 0), some (.sl (.a nb) (.a nn) 2 g), some (.int .i64 (.a L)), some (.int .i64 (.a I))] ∧ hp = [.own 51 (.a n) 2 true f] ∧
    WoI l out i I L nl m ∧ RowW f n out ∧ k = sortE (addW out (wItems (l.drop i)))
structure WpI (ps : List Par) (i : Nat) (I L : Int) (m : Nat) : Prop where
  at_ : AtR ps i I m
  L : L = ps.length
def wpJ (out : List Wt) (v : List UInt8) (rest : List Item) (ps : List Par) (k : List Wt × Int) (nb : Bool) (nn : Int) (g : Nat → List SV) (nl : Bool) (n : Int) (f : Nat → List SV) (L I : Int) (pnl : Bool) (pn : Int) (pf : Nat → List SV) (m : Nat) (vs : List (Option SV)) (hp : List Hl) : Prop :=
  ∃ (i : Nat) (I2 L2 q : Int), vs = [some (.osl (.a nl) (.a n) 0), some (.ptr 2 0), some (.sl (.a nb) (.a nn) 2 g), some (.int .i64 (.a L)), some (.int .i64 (.a I)), some (.sl (.a pnl) (.a pn) 2 pf), some (.int .i64 (.a L2)), some (.int .i64 (.a I2))] ∧
    hp = [.own 51 (.a n) 2 true f, .blk 49 [.str v, .sl (.a pnl) (.a pn) 2 pf], .blk 51 [.str v, .int .i64 (.a q)]] ∧ WpI ps i I2 L2 m ∧ k = sortE (restW out v (wPar (ps.drop i) q) rest)
def spWeights (N : Nat) : FSpec := fun _ xs ls K => ∃ (s : List UInt8), xs = [.str s] ∧ ls = [] ∧ s.length ≤ 9223372036854775807 ∧ (itemsF s).1.length < N ∧ ∀ l e n nb f, (l, e) = weightsF s → n = (l.length : Int) → nb = l.isEmpty → f = wtRow l → K (.tup [.sl (.a nb) (.a n) 2 f, .int .i64 (.a e)]) []
theorem finWts {D : Dn} (hD : D = dn) {l l' : List Wt} {ke kn : Int} {knb : Bool} {kr f : Nat → List SV} {y z : ST} {x : BT} (hk : (l, ke) = (l', z.den)) (hkn : kn = (l.length : Int)) (hknb : knb = l.isEmpty) (hkr : kr = wtRow l)
    {n : Int} (R : RowW f n l') (hy : y.den = n) (hx : x.den = l'.isEmpty) : Fin (.tup [.sl (.a (D.b x)) (.a (D.i y)) 2 f, .int .i64 (.a (D.i z))]) (.tup [.sl (.a knb) (.a kn) 2 kr, .int .i64 (.a ke)]) [] [] := by
  subst hD
  simp only [Prod.mk.injEq] at hk
  obtain ⟨rfl, rfl⟩ := hk
  refine finV (.tup (.cons (.sl ?_ ?_ ?_) (.cons (LeV.refl _) .nil)))
  · rw [hknb]; exact hx
  · rw [hkn]; show y.den = _; rw [hy, R.n]; rfl
  · intro i hi
    have hi : (i : Int) < y.den := hi
    rw [R.f i (by have := R.n; omega), hkr]; rfl
theorem itemsF_len (s : List UInt8) : (itemsF s).1.length ≤ 50 := by
  have key : ∀ (l : List (List UInt8)) (out : List Item), (addI out (itemsL l)).1.length ≤ out.length + l.length := by
    intro l
    induction l with
    | nil => intro out; simp [addI, itemsL]
    | cons x r ih =>
      intro out
      by_cases h : (itemF x).2 ≠ 0
      · rw [addI_err h]; simp
      · rw [addI_more (by simpa using h)]
        have := ih (out ++ [(itemF x).1])
        simp at this ⊢; omega
  unfold itemsF
  split
  · simp
  · split
    · simp
    · have := key (refElementsF s).1 []
      simp at this; omega
theorem weights_ok : FnOk Tryz.prog gl 27 (spWeights 51) := by
  refine fnOk (gh := [(4, [.own 6 51]), (19, [.share 6])]) mixed cxOk (tabCons items_ok (tabCons quality_ok (tabCons sort_ok tabNil))) Tryz.func27 (by kernel_rfl) (by kernel_rfl) ?_
  intro xs ls K h
  unfold spWeights at h
  obtain ⟨s, rfl, rfl, hl, hN, h⟩ := h
  obtain ⟨k, hk⟩ : ∃ k, k = weightsF s := ⟨_, rfl⟩
  obtain ⟨kl, ke⟩ := k
  obtain ⟨kn, hkn⟩ : ∃ kn : Int, kn = (kl.length : Int) := ⟨_, rfl⟩
  obtain ⟨knb, hknb⟩ : ∃ knb : Bool, knb = kl.isEmpty := ⟨_, rfl⟩
  obtain ⟨kr, hkr⟩ : ∃ kr, kr = wtRow kl := ⟨_, rfl⟩
  refine ⟨_, _, h kl ke kn knb kr hk hkn hknb hkr, fun D hD => ?_⟩
  clear h
  rw [weightsF] at hk
  have hil := itemsF_len s
  have hgood := itemsF_good s
  cbv
  refine ⟨s, rfl, rfl, hl, fun l e n nb g he hn hnb hg => ?_⟩
  rw [← he] at hk hil hN hgood
  simp only at hk hil hN hgood
  have RL : RowI g n l := by rw [hg, hn]; exact RowI.row (by omega)
  clear hg
  cbv
  refine br hD (fun h => ?_) (fun h => ?_) <;> cbv
  · have h : (e != 0) = true := h
    rw [if_pos (by simpa using h)] at hk
    exact finWts (l' := []) (z := .a e) hD hk hkn hknb hkr RowW.nil rfl rfl
  have h : (e != 0) = false := h
  rw [if_neg (by simpa using h)] at hk
  clear h hn hnb
  obtain ⟨J, hJ⟩ : ∃ J, J = woJ l (kl, ke) nb n g := ⟨_, rfl⟩
  refine ⟨[6, 20, 21, 22], J, ⟨rfl, l.length, ?_⟩, ?_⟩
  · rw [hJ]
    subst hD
    exact ⟨0, 0, _, _, _, _, [], rfl, rfl, ⟨AtR.zero (by omega), RL.n, rfl, rfl⟩, RowW.nil, hk⟩
  clear hk
  intro m vs hp' hv
  rw [hJ] at hv
  unfold woJ at hv
  obtain ⟨i, I, L, N, nl, f, out, rfl, rfl, V, R, hk⟩ := hv
  cbv
  refine br hD (fun h => ?_) (fun h => ?_) <;> cbv
  · have hlt := V.at_.lt V.L (of_decide_eq_true (p := I < L) h)
    clear h
    refine ⟨V.at_.inB hD RL.n hlt, fun j hj => ?_⟩
    obtain rfl := V.at_.j hD hj
    clear hj
    have e1 := RL.f j hlt
    rw [dropR (d := ([], [])) hlt, restW_of] at hk
    have hxg := hgood (l.getD j ([], [])) (by rw [List.getD_eq_getElem?_getD, List.getElem?_eq_getElem hlt]; exact List.getElem_mem hlt)
    obtain ⟨x, hx⟩ : ∃ x, x = l.getD j ([], []) := ⟨_, rfl⟩
    rw [← hx] at e1 hk hxg
    obtain ⟨xv, xp⟩ := x
    have hxp : xp.length ≤ 20 := hxg.1
    have hxq : ∀ p ∈ xp, p.2.length ≤ 500 := hxg.2
    clear hxg
    rw [itemSV] at e1
    obtain ⟨pn, hpn⟩ : ∃ pn : Int, pn = (xp.length : Int) := ⟨_, rfl⟩
    obtain ⟨pnl, hpnl⟩ : ∃ pnl : Bool, pnl = xp.isEmpty := ⟨_, rfl⟩
    obtain ⟨pf, hpf⟩ : ∃ pf, pf = parRow xp := ⟨_, rfl⟩
    have RP : RowP pf pn xp := by rw [hpf, hpn]; exact ⟨rfl, fun _ _ => rfl, by omega⟩
    simp only at e1 hk
    rw [← hpn, ← hpnl, ← hpf] at e1
    clear hpn hpnl hpf
    cbv
    rw [e1]
    cbv
    obtain ⟨J2, hJ2⟩ : ∃ J, J = wpJ out xv (l.drop (j + 1)) xp (kl, ke) nb n g nl N f L I pnl pn pf := ⟨_, rfl⟩
    refine ⟨[6, 9, 20, 21, 22, 30, 31, 32], J2, ⟨rfl, xp.length, ?_⟩, ?_⟩
    · rw [hJ2]
      subst hD
      exact ⟨0, 0, _, _, rfl, rfl, ⟨AtR.zero (by omega), RP.n⟩, hk⟩
    clear hk
    intro m2 vs2 hp2 hv2
    rw [hJ2] at hv2
    unfold wpJ at hv2
    obtain ⟨i, I2, L2, q, rfl, rfl, W, hk⟩ := hv2
    cbv
    refine br hD (fun h => ?_) (fun h => ?_) <;> cbv
    · have hlt2 := W.at_.lt W.L (of_decide_eq_true (p := I2 < L2) h)
      clear h
      refine ⟨W.at_.inB hD RP.n hlt2, fun a ha => ?_⟩
      obtain rfl := W.at_.j hD ha
      clear ha
      have e2 := RP.f a hlt2
      rw [dropR (d := ([], [])) hlt2] at hk
      have hpq := hxq (xp.getD a ([], [])) (by rw [List.getD_eq_getElem?_getD, List.getElem?_eq_getElem hlt2]; exact List.getElem_mem hlt2)
      obtain ⟨p, hp⟩ : ∃ p, p = xp.getD a ([], []) := ⟨_, rfl⟩
      rw [← hp] at e2 hk hpq
      obtain ⟨pnm, pvl⟩ := p
      simp only at e2 hpq
      cbv
      rw [e2]
      cbv
      refine br hD (fun h => ?_) (fun h => ?_) <;> cbv
      · have h : (!(pnm == [113])) = true := h
        rw [wPar_not (p := (pnm, pvl)) (by simpa using h)] at hk
        refine ⟨xp.length - (a + 1), (W.at_.step hD hlt2).1, ?_⟩
        rw [hJ2]
        subst hD
        exact ⟨a + 1, _, _, q, rfl, rfl, ⟨(W.at_.step rfl hlt2).2, W.L⟩, hk⟩
      have h : (!(pnm == [113])) = false := h
      have hnm : (pnm == [113]) = true := by simpa using h
      clear h
      have hbad := fun h2 => wPar_bad (p := (pnm, pvl)) (r := xp.drop (a + 1)) (q := q) hnm h2
      have hgo := fun h2 => wPar_q (p := (pnm, pvl)) (r := xp.drop (a + 1)) (q := q) hnm h2
      refine ⟨pvl, rfl, rfl, by omega, fun qn qe hqe => ?_⟩
      simp only at hbad hgo
      rw [← hqe] at hbad hgo
      simp only at hbad hgo
      cbv
      refine br hD (fun h => ?_) (fun h => ?_) <;> cbv
      · have h : (qe != 0) = true := h
        have h : qe ≠ 0 := by simpa using h
        rw [hbad h, restW, if_pos h, sortE, if_pos h] at hk
        exact finWts (l' := []) (z := .a qe) hD hk hkn hknb hkr RowW.nil rfl rfl
      have h : (qe != 0) = false := h
      rw [hgo (by simpa using h)] at hk
      refine ⟨xp.length - (a + 1), (W.at_.step hD hlt2).1, ?_⟩
      rw [hJ2]
      subst hD
      exact ⟨a + 1, _, _, qn, rfl, rfl, ⟨(W.at_.step rfl hlt2).2, W.L⟩, hk⟩
    · have hi := W.at_.eq W.L (of_decide_eq_false (p := I2 < L2) h)
      clear h
      rw [hi, List.drop_length, wPar, restW, if_neg (by simp)] at hk
      simp only at hk
      cbv
      intro g1 hg1
      have hg0 : g1 0 = wtSV (xv, q) := by subst hD; exact hg1.h 0 _ rfl
      clear hg1
      cbv
      refine ⟨?_, fun f' n' hf' => ?_⟩
      · have := V.ol; have := V.at_.le; have h := R.n; subst hD; exact ⟨rfl, by show (N + 1) * 24 ≤ _; omega, by show N + 1 ≤ _; omega⟩
      have R' : RowW f' n' (out ++ [(xv, q)]) := by
        subst hD
        exact R.more hg0 hf' (by have := V.ol; have := V.at_.le; omega)
      clear hf' hg0
      cbv
      refine ⟨l.length - (j + 1), (V.at_.step hD hlt).1, ?_⟩
      rw [hJ]
      subst hD
      exact ⟨j + 1, _, _, _, _, f', _, rfl, rfl, ⟨(V.at_.step rfl hlt).2, V.L, by have := V.ol; simp; omega, by show (nl && false) = _; simp⟩, R', hk⟩
  · have hi := V.at_.eq V.L (of_decide_eq_false (p := I < L) h)
    clear h
    rw [hi, List.drop_length] at hk
    have hk : (kl, ke) = (sortF out, 0) := by rw [hk]; simp [addW, wItems, sortE]
    have hol := V.ol
    have hole := V.at_.le
    refine ⟨out, _, _, f, rfl, rfl, by subst hD; exact R, by omega, fun k2 f2 hk2 hf2 => ?_⟩
    have R2 : RowW f2 N k2 := by rw [hf2]; exact RowW.row (by rw [hk2, sortF_len]; exact R.n) (by rw [hk2, sortF_len]; omega)
    have hnl : nl = k2.isEmpty := by
      rw [V.nl, hk2, ← Bool.coe_iff_coe, List.isEmpty_iff, List.isEmpty_iff]
      have := sortF_len out
      constructor
      · intro h; rw [h]; rfl
      · intro h; rw [h] at this; exact List.eq_nil_of_length_eq_zero (by simpa using this.symm)
    rw [← hk2] at hk
    clear hk2 hf2
    cbv
    exact ⟨by subst hD; exact ⟨rfl⟩, finWts (l' := k2) (z := .l 0) (x := .a nl) (y := .a N) hD hk hkn hknb hkr R2 rfl hnl⟩
end Go.Proofs.YtfchfhjpldppjaaGreatDoor
