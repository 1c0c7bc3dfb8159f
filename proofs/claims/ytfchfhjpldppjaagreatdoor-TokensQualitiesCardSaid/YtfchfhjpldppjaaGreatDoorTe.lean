/- Part of the proofs of the statements about tokens (layer 5): contracts of functions; it has no conditions of its own. -/
import Derived.Test.YtfchfhjpldppjaaGreatDoorTd
namespace Go.Proofs.YtfchfhjpldppjaaGreatDoor
open Go.Sx
set_option maxRecDepth 10000
set_option maxHeartbeats 4000000
/-! The order of weights; insertion sort. -/
abbrev Wt := List UInt8 × Int
def spNan : FSpec := fun _ xs ls K => ∃ (a : Int), xs = [.int .i64 (.a a)] ∧ ls = [] ∧ ∀ r : Bool, r = false → K (.bool (.a r)) []
theorem nan_ok : FnOk Tryz.prog gl 84 spNan := by
  refine fnOk (gh := []) mixed cxOk tabNil Tryz.func84 (by kernel_rfl) (by kernel_rfl) ?_
  intro xs ls K h
  unfold spNan at h
  obtain ⟨a, rfl, rfl, h⟩ := h
  refine ⟨_, _, h false rfl, fun D hD => ?_⟩
  clear h
  cbv
  refine finBool hD ?_
  show (a != a) = false
  simp
def cmpI (a b : Int) : Int := if a < b then -1 else if b < a then 1 else 0
def spCmp : FSpec := fun _ xs ls K => ∃ (a b : Int), xs = [.int .i64 (.a a), .int .i64 (.a b)] ∧ ls = [] ∧ ∀ r : Int, r = cmpI a b → K (.int .i64 (.a r)) []
theorem cmp_ok : FnOk Tryz.prog gl 60 spCmp := by
  refine fnOk (gh := []) mixed cxOk (tabCons nan_ok tabNil) Tryz.func60 (by kernel_rfl) (by kernel_rfl) ?_
  intro xs ls K h
  unfold spCmp at h
  obtain ⟨a, b, rfl, rfl, h⟩ := h
  obtain ⟨k, hk⟩ : ∃ k, k = cmpI a b := ⟨_, rfl⟩
  refine ⟨_, _, h k hk, fun D hD => ?_⟩
  clear h
  rw [cmpI] at hk
  cbv
  refine ⟨_, rfl, rfl, fun x hx => ?_⟩
  cbv
  refine ⟨_, rfl, rfl, fun y hy => ?_⟩
  subst hx hy
  cbv
  refine br hD (fun h => ?_) (fun h => ?_) <;> cbv
  · cases h
  refine br hD (fun h => ?_) (fun h => ?_) <;> cbv
  · cases h
  refine br hD (fun h => ?_) (fun h => ?_) <;> cbv
  · have h := of_decide_eq_true (p := a < b) h
    rw [if_pos h] at hk
    exact finInt hD hk.symm
  have h := of_decide_eq_false (p := a < b) h
  rw [if_neg h] at hk
  refine br hD (fun h => ?_) (fun h => ?_) <;> cbv
  · have h := of_decide_eq_true (p := b < a) h
    rw [if_pos h] at hk
    exact finInt hD hk.symm
  have h := of_decide_eq_false (p := b < a) h
  rw [if_neg h] at hk
  exact finInt hD hk.symm
def spW1 : FSpec := fun _ xs ls K => ∃ (a b : Wt), xs = [.agg [.str a.1, .int .i64 (.a a.2)], .agg [.str b.1, .int .i64 (.a b.2)]] ∧ ls = [] ∧ ∀ r : Int, r = cmpI b.2 a.2 → K (.int .i64 (.a r)) []
theorem w1_ok : FnOk Tryz.prog gl 59 spW1 := by
  refine fnOk (gh := []) mixed cxOk (tabCons cmp_ok tabNil) Tryz.func59 (by kernel_rfl) (by kernel_rfl) ?_
  intro xs ls K h
  unfold spW1 at h
  obtain ⟨⟨av, aq⟩, ⟨bv, bq⟩, rfl, rfl, h⟩ := h
  obtain ⟨k, hk⟩ : ∃ k, k = cmpI bq aq := ⟨_, rfl⟩
  refine ⟨_, _, h k hk, fun D hD => ?_⟩
  clear h
  cbv
  refine ⟨_, _, rfl, rfl, fun r hr => ?_⟩
  cbv
  refine finInt hD ?_
  rw [hk]; subst hD; exact hr
def wtSV (x : Wt) : List SV := [.str x.1, .int .i64 (.a x.2)]
def wtRow (l : List Wt) (i : Nat) : List SV := wtSV (l.getD i ([], 0))
structure RowW (f : Nat → List SV) (n : Int) (a : List Wt) : Prop where
  n : n = a.length
  f : ∀ i, i < a.length → f i = wtSV (a.getD i ([], 0))
  len : a.length ≤ 9223372036854775807
/-- Said of every place. -/
structure RowT (f : Nat → List SV) (n : Int) (a : List Wt) : Prop where
  n : n = a.length
  f : ∀ i, f i = wtSV (a.getD i ([], 0))
  len : a.length ≤ 9223372036854775807
def insR (x : Wt) : List Wt → List Wt
  | [] => [x]
  | y :: r => if y.2 < x.2 then y :: insR x r else x :: y :: r
def insW (S : List Wt) (x : Wt) : List Wt := (insR x S.reverse).reverse
theorem insR_len (x : Wt) (l : List Wt) : (insR x l).length = l.length + 1 := by
  induction l with
  | nil => rfl
  | cons y r ih =>
    rw [insR]
    split
    · simp [ih]
    · simp
theorem insW_len (S : List Wt) (x : Wt) : (insW S x).length = S.length + 1 := by simp [insW, insR_len]
theorem foldW_len : ∀ (R S : List Wt), (R.foldl insW S).length = S.length + R.length
  | [], S => rfl
  | x :: R, S => by rw [List.foldl_cons, foldW_len R, insW_len]; simp; omega
theorem insW_nil (x : Wt) : insW [] x = [x] := rfl
theorem insW_go {P : List Wt} {x y : Wt} (h : y.2 < x.2) : insW (P ++ [y]) x = insW P x ++ [y] := by
  unfold insW
  rw [List.reverse_append, List.reverse_singleton, List.singleton_append, insR, if_pos h, List.reverse_cons]
theorem insW_stop {P : List Wt} {x y : Wt} (h : ¬ y.2 < x.2) : insW (P ++ [y]) x = P ++ [y] ++ [x] := by
  unfold insW
  rw [List.reverse_append, List.reverse_singleton, List.singleton_append, insR, if_neg h]
  simp
theorem swap_set (Q U : List Wt) (x y : Wt) {j : Nat} (hj : j = Q.length + 1) : ((Q ++ [y, x] ++ U).set j y).set (j - 1) x = Q ++ [x, y] ++ U := by
  subst hj
  rw [Nat.add_sub_cancel, List.append_assoc, List.append_assoc, List.set_append_right _ _ (by omega), Nat.add_sub_cancel_left, List.set_append_right _ _ (Nat.le_refl _), Nat.sub_self]
  rfl
theorem RowT.set {f f' : Nat → List SV} {n : Int} {l : List Wt} {j : Nat} {x : Wt} (R : RowT f n l) (hj : j < l.length) (h : SetAt f' f j (wtSV x)) : RowT f' n (l.set j x) := by
  refine ⟨by rw [List.length_set]; exact R.n, fun i => ?_, by rw [List.length_set]; exact R.len⟩
  rw [List.getD_eq_getElem?_getD, List.getElem?_set]
  by_cases e : i = j
  · subst e
    rw [h.at_, if_pos rfl, if_pos hj]; rfl
  · rw [h.other i e, R.f i, if_neg (fun h => e h.symm), List.getD_eq_getElem?_getD]
structure InO (A S T Z : List Wt) (a b i : Nat) (I : Int) (m : Nat) : Prop where
  hA : A.length = a
  hi : (T = [] ∧ b ≤ i) ∨ (A.length + S.length = i ∧ i + T.length = b)
  hI : I = i
  hI2 : i ≤ 9223372036854775807
  hm : m = b - i
  len : A.length + S.length + T.length + Z.length ≤ 9223372036854775807
def inJ (k : List Wt) (a b : Nat) (nl : Bool) (n a0 b0 : Int) (m : Nat) (vs : List (Option SV)) (hp : List Hl) : Prop :=
  ∃ (A S T Z : List Wt) (i : Nat) (I : Int) (f : Nat → List SV), vs = [some (.osl (.a nl) (.a n) 0), some (.int .i64 (.a a0)), some (.int .i64 (.a b0)), some (.fn 59), some (.int .i64 (.a I))] ∧ hp = [.own 51 (.a n) 2 true f] ∧
    InO A S T Z a b i I m ∧ RowT f n (A ++ S ++ T ++ Z) ∧ k = A ++ T.foldl insW S ++ Z
theorem getD_mid {Q U : List Wt} {x : Wt} {j : Nat} (h : j = Q.length) : (Q ++ [x] ++ U).getD j ([], 0) = x := by
  subst h
  rw [List.getD_eq_getElem?_getD, List.append_assoc, List.getElem?_append_right (Nat.le_refl _), Nat.sub_self]; rfl
theorem seg_split {l : List Wt} {a b : Nat} (h1 : a < b) (h2 : b ≤ l.length) : ∃ x T, (l.take b).drop a = x :: T ∧ l = l.take a ++ [x] ++ T ++ l.drop b ∧ a + 1 + T.length = b := by
  obtain ⟨x, T, e⟩ : ∃ x T, (l.take b).drop a = x :: T := by
    cases h : (l.take b).drop a with
    | nil => have := congrArg List.length h; simp at this; omega
    | cons x T => exact ⟨x, T, rfl⟩
  refine ⟨x, T, e, ?_, ?_⟩
  · have h3 : l = l.take b ++ l.drop b := (List.take_append_drop b l).symm
    have h4 : l.take b = (l.take b).take a ++ (l.take b).drop a := (List.take_append_drop a _).symm
    rw [List.take_take, Nat.min_eq_left (by omega), e] at h4
    rw [List.append_assoc (l.take a), List.singleton_append, ← h4]; exact h3
  · have := congrArg List.length e
    simp at this; omega
theorem cmpI_neg {a b : Int} : cmpI a b < 0 ↔ a < b := by
  unfold cmpI
  split
  · simp [*]
  · split <;> simp [*]
structure InI (A P M T Z : List Wt) (a i j : Nat) (X : Int) (m : Nat) : Prop where
  hA : A.length = a
  hj : A.length + P.length = j
  hi : j + M.length = i
  hX : X = j
  hm : m = j
  len : A.length + P.length + 1 + M.length + T.length + Z.length ≤ 9223372036854775807
def inJ2 (k T Z : List Wt) (a _b i : Nat) (nl : Bool) (n a0 b0 I : Int) (m : Nat) (vs : List (Option SV)) (hp : List Hl) : Prop :=
  ∃ (A P M : List Wt) (x : Wt) (j : Nat) (X : Int) (f : Nat → List SV), vs = [some (.osl (.a nl) (.a n) 0), some (.int .i64 (.a a0)), some (.int .i64 (.a b0)), some (.fn 59), some (.int .i64 (.a I)), some (.int .i64 (.a X))] ∧ hp = [.own 51 (.a n) 2 true f] ∧
    InI A P M T Z a i j X m ∧ RowT f n (A ++ P ++ [x] ++ M ++ T ++ Z) ∧ k = A ++ T.foldl insW (insW P x ++ M) ++ Z
structure XB (a j : Nat) (a0 X n : Int) : Prop where
  x1 : Sx.InB (dn.i (.a X)) (dn.i (.a n))
  x2 : Sx.InB (dn.i (.bin .sub .i64 (.a X) (.l 1))) (dn.i (.a n))
  x3 : dn.i (.bin .sub .i64 (.a X) (.l 1)) = ((j - 1 : Nat) : Int)
  x4 : a < j
  x5 : X = (j : Int)
theorem XB.j1 {D : Dn} (hD : D = dn) {a j i : Nat} {a0 X n : Int} (V : XB a j a0 X n) (h : IsJ i (D.i (.a X))) : i = j := by
  subst hD; have h1 : (i : Int) = X := h.h; have := V.x5; omega
theorem XB.j2 {D : Dn} (hD : D = dn) {a j i : Nat} {a0 X n : Int} (V : XB a j a0 X n) (h : IsJ i (D.i (.bin .sub .i64 (.a X) (.l 1)))) : i = j - 1 := by
  subst hD; have h1 := h.h; rw [V.x3] at h1; omega
theorem XB.lt1 {D : Dn} (hD : D = dn) {a j i : Nat} {a0 X n : Int} (V : XB a j a0 X n) (h : IsJ i (D.i (.a X))) : LtB i (D.i (.a n)) := by
  subst hD; exact ⟨by rw [h.h]; exact V.x1.hi⟩
theorem XB.lt2 {D : Dn} (hD : D = dn) {a j i : Nat} {a0 X n : Int} (V : XB a j a0 X n) (h : IsJ i (D.i (.bin .sub .i64 (.a X) (.l 1)))) : LtB i (D.i (.a n)) := by
  subst hD; exact ⟨by rw [h.h]; exact V.x2.hi⟩
structure InB (a b : Nat) (a0 b0 : Int) (l : List Wt) : Prop where
  ha : a0 = a
  hb : b0 = b
  le : a ≤ b
  hi : b ≤ l.length
  len : l.length ≤ 1000000000
def sortSeg (l : List Wt) (a b : Nat) : List Wt := l.take a ++ ((l.take b).drop a).foldl insW [] ++ l.drop b
theorem sortSeg_len {l : List Wt} {a b : Nat} (h1 : a ≤ b) (h2 : b ≤ l.length) : (sortSeg l a b).length = l.length := by
  unfold sortSeg
  simp only [List.length_append, foldW_len, List.length_take, List.length_drop, List.length_nil]
  omega
theorem RowW.row {l : List Wt} {n : Int} (hn : n = l.length) (h : l.length ≤ 9223372036854775807) : RowW (wtRow l) n l := ⟨hn, fun _ _ => rfl, h⟩
theorem RowT.row {l : List Wt} {n : Int} (hn : n = l.length) (h : l.length ≤ 9223372036854775807) : RowT (wtRow l) n l := ⟨hn, fun _ => rfl, h⟩
def spInsT : FSpec := fun _ xs ls K => ∃ (l : List Wt) (nl : Bool) (n a0 b0 : Int) (a b : Nat) (f : Nat → List SV), xs = [.osl (.a nl) (.a n) 0, .int .i64 (.a a0), .int .i64 (.a b0), .fn 59] ∧ ls = [.own 51 (.a n) 2 true f] ∧ RowT f n l ∧ InB a b a0 b0 l ∧
  ∀ (k : List Wt) (f' : Nat → List SV), k = sortSeg l a b → f' = wtRow k → K (.tup []) [.own 51 (.a n) 2 true f']
theorem insT_ok : FnOk Tryz.prog gl 103 spInsT := by
  refine fnOk (gh := []) mixed cxOk (tabCons w1_ok tabNil) Tryz.func103 (by kernel_rfl) (by kernel_rfl) ?_
  intro xs ls K h
  unfold spInsT at h
  obtain ⟨l, nl, n, a0, b0, a, b, f, rfl, rfl, R, B, h⟩ := h
  obtain ⟨k, hk⟩ : ∃ k, k = sortSeg l a b := ⟨_, rfl⟩
  obtain ⟨kf, hkf⟩ : ∃ kf, kf = wtRow k := ⟨_, rfl⟩
  refine ⟨_, _, h k kf hk hkf, fun D hD => ?_⟩
  clear h
  cbv
  obtain ⟨J, hJ⟩ : ∃ J, J = inJ k a b nl n a0 b0 := ⟨_, rfl⟩
  refine ⟨[0, 1, 2, 3, 8], J, ⟨rfl, b - (a + 1), ?_⟩, ?_⟩
  · rw [hJ]
    subst hD
    have h1 := B.ha; have h2 := B.le; have h3 := B.hi; have h4 := B.len
    have e0 : dn.i (.bin .add .i64 (.a a0) (.l 1)) = ((a + 1 : Nat) : Int) := by
      show IntKind.i64.wrap (a0 + 1) = _
      rw [wrap64 (by omega) (by omega)]; omega
    by_cases hab : a < b
    · obtain ⟨x, T, e1, e2, e3⟩ := seg_split hab h3
      refine ⟨l.take a, [x], T, l.drop b, a + 1, _, f, rfl, rfl, ⟨by simp; omega, .inr ⟨by simp; omega, e3⟩, e0, by omega, rfl, by simp; omega⟩, by rw [← e2]; exact R, ?_⟩
      rw [hk, sortSeg, e1, List.foldl_cons, insW_nil]
    · have hab : a = b := by omega
      refine ⟨l.take a, [], [], l.drop b, a + 1, _, f, rfl, rfl, ⟨by simp; omega, .inl ⟨rfl, by omega⟩, e0, by omega, rfl, by simp; omega⟩, ?_, ?_⟩
      · subst hab; simpa using R
      · rw [hk, sortSeg]
        have : (l.take b).drop a = [] := by rw [List.drop_eq_nil_of_le (by simp; omega)]
        rw [this]
  clear hk
  intro m vs hp' hv
  rw [hJ] at hv
  unfold inJ at hv
  obtain ⟨A, S, T, Z, i, I, f, rfl, rfl, V, R, hk⟩ := hv
  cbv
  refine br hD (fun h => ?_) (fun h => ?_) <;> cbv
  · have hlt : i < b := by have h := of_decide_eq_true (p := I < b0) h; have := V.hI; have := B.hb; omega
    clear h
    have hi2 : A.length + S.length = i ∧ i + T.length = b := by
      rcases V.hi with ⟨_, h⟩ | h
      · omega
      · exact h
    obtain ⟨x, T, rfl⟩ : ∃ x T', T = x :: T' := by
      cases T with
      | nil => have := hi2.2; simp at this; omega
      | cons x T' => exact ⟨x, T', rfl⟩
    obtain ⟨J2, hJ2⟩ : ∃ J, J = inJ2 k T Z a b i nl n a0 b0 I := ⟨_, rfl⟩
    refine ⟨[0, 1, 2, 3, 8, 9], J2, ⟨rfl, i, ?_⟩, ?_⟩
    · rw [hJ2]
      subst hD
      have e : A ++ S ++ [x] ++ [] ++ T ++ Z = A ++ S ++ x :: T ++ Z := by simp
      exact ⟨A, S, [], x, i, _, f, rfl, rfl, ⟨V.hA, hi2.1, by simp, V.hI, rfl, by have := V.len; simp at this ⊢; omega⟩, by rw [e]; exact R, by rw [hk, List.append_nil]; rfl⟩
    clear hk
    intro m2 vs2 hp2 hv2
    rw [hJ2] at hv2
    unfold inJ2 at hv2
    obtain ⟨A, P, M, x, j, X, f2, rfl, rfl, W, R2, hk⟩ := hv2
    have hlen := W.len
    cbv
    have inb : a0 < X → XB a j a0 X n := by
      intro hg
      have h1 := W.hX; have h2 := R2.n; have h3 := B.ha; have h4 := W.len; have h5 := W.hj
      simp only [List.length_append, List.length_singleton] at h2
      have e : dn.i (.bin .sub .i64 (.a X) (.l 1)) = ((j - 1 : Nat) : Int) := by
        show IntKind.i64.wrap (X - 1) = _
        rw [wrap64 (by omega) (by omega)]; omega
      exact ⟨⟨by show 0 ≤ X; omega, by show X < n; omega⟩, ⟨by rw [e]; omega, by rw [e]; show _ < n; omega⟩, e, by omega, h1⟩
    refine ⟨fun _ => ⟨rfl⟩, fun hg => by subst hD; exact (inb (of_decide_eq_true (p := a0 < X) hg)).x1, fun j1 hj1 => ?_⟩
    have e1 := R2.f j1
    obtain ⟨u, hu⟩ : ∃ u, u = (A ++ P ++ [x] ++ M ++ T ++ Z).getD j1 ([], 0) := ⟨_, rfl⟩
    rw [← hu] at e1
    obtain ⟨uv, uq⟩ := u
    simp only [wtSV] at e1
    refine ⟨fun _ => ⟨rfl⟩, fun hg => ?_, ?_⟩
    · exact (inb (by subst hD; exact of_decide_eq_true (p := a0 < X) hg)).lt1 hD (hj1 hg)
    rw [e1]
    cbv
    refine ⟨fun _ => ⟨rfl⟩, fun hg => by subst hD; exact (inb (of_decide_eq_true (p := a0 < X) hg)).x2, fun j2 hj2 => ?_⟩
    have e2 := R2.f j2
    obtain ⟨w, hw⟩ : ∃ w, w = (A ++ P ++ [x] ++ M ++ T ++ Z).getD j2 ([], 0) := ⟨_, rfl⟩
    rw [← hw] at e2
    obtain ⟨wv, wq⟩ := w
    simp only [wtSV] at e2
    refine ⟨fun _ => ⟨rfl⟩, fun hg => ?_, ?_⟩
    · exact (inb (by subst hD; exact of_decide_eq_true (p := a0 < X) hg)).lt2 hD (hj2 hg)
    rw [e2]
    cbv
    refine ⟨(uv, _), (wv, _), rfl, rfl, fun r hr0 => ?_⟩
    have hr : r = cmpI wq uq := by subst hD; exact hr0
    clear hr0
    cbv
    refine br hD (fun h => ?_) (fun h => ?_) <;> cbv
    · have h : (decide (a0 < X) && decide (r < 0)) = true := h
      simp only [Bool.and_eq_true, decide_eq_true_eq] at h
      obtain ⟨hg, hr0⟩ := h
      have Q := inb hg
      obtain rfl : j1 = j := Q.j1 hD (hj1 (by subst hD; exact decide_eq_true hg))
      have hj2e : j2 = j1 - 1 := Q.j2 hD (hj2 (by subst hD; exact decide_eq_true hg))
      have i4 := Q.x4
      obtain ⟨P', y, rfl⟩ : ∃ P' y, P = P' ++ [y] := by
        rcases List.eq_nil_or_concat P with e | ⟨L, b, e⟩
        · have h1 := W.hj; have h2 := W.hA; rw [e, List.length_nil] at h1; omega
        · exact ⟨L, b, by simpa using e⟩
      have hjl : j1 = A.length + P'.length + 1 := by have := W.hj; simp at this; omega
      have hux : (uv, uq) = x := by
        rw [hu, show A ++ (P' ++ [y]) ++ [x] ++ M ++ T ++ Z = (A ++ (P' ++ [y])) ++ [x] ++ (M ++ T ++ Z) by simp]
        exact getD_mid (by simp; omega)
      have hwy : (wv, wq) = y := by
        rw [hw, show A ++ (P' ++ [y]) ++ [x] ++ M ++ T ++ Z = (A ++ P') ++ [y] ++ ([x] ++ M ++ T ++ Z) by simp]
        exact getD_mid (by simp; omega)
      subst hux hwy
      have hlt2 : wq < uq := cmpI_neg.1 (by rw [← hr]; exact hr0)
      clear hj1 hj2
      have next : ∀ f3 f4, SetAt f3 f2 j1 (wtSV (wv, wq)) → SetAt f4 f3 j2 (wtSV (uv, uq)) → RowT f4 n (A ++ P' ++ [(uv, uq)] ++ ((wv, wq) :: M) ++ T ++ Z) := by
        intro f3 f4 h3 h4
        have hl : j1 < (A ++ (P' ++ [(wv, wq)]) ++ [(uv, uq)] ++ M ++ T ++ Z).length := by simp; omega
        have := ((R2.set hl h3).set (j := j2) (by rw [List.length_set]; omega) h4)
        rw [hj2e, show A ++ (P' ++ [(wv, wq)]) ++ [(uv, uq)] ++ M ++ T ++ Z = (A ++ P') ++ [(wv, wq), (uv, uq)] ++ (M ++ T ++ Z) by simp, swap_set (A ++ P') (M ++ T ++ Z) (uv, uq) (wv, wq) (by simp; omega)] at this
        simpa using this
      clear h inb hr
      refine ⟨⟨rfl⟩, by subst hD; exact Q.x2, fun j3 hj3 => ?_⟩
      have e3 : f2 j3 = [.str wv, .int .i64 (.a wq)] := by rw [show j3 = j2 by rw [hj2e]; exact Q.j2 hD hj3]; exact e2
      refine ⟨⟨rfl⟩, Q.lt2 hD hj3, ?_⟩
      rw [e3]
      cbv
      refine ⟨⟨rfl⟩, by subst hD; exact Q.x1, fun j4 hj4 => ?_⟩
      have e4 : f2 j4 = [.str uv, .int .i64 (.a uq)] := by rw [show j4 = j1 from Q.j1 hD hj4]; exact e1
      refine ⟨⟨rfl⟩, Q.lt1 hD hj4, ?_⟩
      rw [e4]
      cbv
      refine ⟨⟨rfl⟩, by subst hD; exact Q.x1, fun j5 hj5 => ?_⟩
      have h5 : j5 = j1 := Q.j1 hD hj5
      have e5 : f2 j5 = [.str uv, .int .i64 (.a uq)] := by rw [h5]; exact e1
      refine ⟨⟨rfl⟩, Q.lt1 hD hj5, ?_⟩
      rw [e5]
      cbv
      intro f3 hf3
      have g3 : SetAt f3 f2 j1 (wtSV (wv, wq)) := by subst hD; rw [← h5]; exact hf3
      cbv
      refine ⟨⟨rfl⟩, by subst hD; exact Q.x2, fun j6 hj6 => ?_⟩
      have h6 : j6 = j2 := by rw [hj2e]; exact Q.j2 hD hj6
      have e6 : f3 j6 = [.str wv, .int .i64 (.a wq)] := by rw [g3.other j6 (by omega), h6]; exact e2
      refine ⟨⟨rfl⟩, Q.lt2 hD hj6, ?_⟩
      rw [e6]
      cbv
      intro f4 hf4
      have g4 : SetAt f4 f3 j2 (wtSV (uv, uq)) := by subst hD; rw [← h6]; exact hf4
      have R4 := next f3 f4 g3 g4
      rw [insW_go hlt2] at hk
      have q3 := Q.x3
      cbv
      refine ⟨j1 - 1, by have := W.hm; omega, ?_⟩
      rw [hJ2]
      subst hD
      exact ⟨A, P', (wv, wq) :: M, (uv, uq), j1 - 1, _, f4, rfl, rfl, ⟨W.hA, by omega, by have := W.hi; simp; omega, Q.x3, rfl, by simp at hlen ⊢; omega⟩, R4, by rw [hk]; simp⟩
    · have h : (decide (a0 < X) && decide (r < 0)) = false := h
      have hst : insW P x = P ++ [x] := by
        rcases List.eq_nil_or_concat P with e | ⟨P', y, e⟩
        · rw [e]; rfl
        · have e : P = P' ++ [y] := by simpa using e
          subst e
          have hjl : j = A.length + P'.length + 1 := by have := W.hj; simp at this; omega
          have hg : a0 < X := by have := W.hX; have := B.ha; have := W.hA; omega
          have Q := inb hg
          have hj1e : j1 = j := Q.j1 hD (hj1 (by subst hD; exact decide_eq_true hg))
          have hj2e : j2 = j - 1 := Q.j2 hD (hj2 (by subst hD; exact decide_eq_true hg))
          have hux : (uv, uq) = x := by
            rw [hu, show A ++ (P' ++ [y]) ++ [x] ++ M ++ T ++ Z = (A ++ (P' ++ [y])) ++ [x] ++ (M ++ T ++ Z) by simp]
            exact getD_mid (by simp; omega)
          have hwy : (wv, wq) = y := by
            rw [hw, show A ++ (P' ++ [y]) ++ [x] ++ M ++ T ++ Z = (A ++ P') ++ [y] ++ ([x] ++ M ++ T ++ Z) by simp]
            exact getD_mid (by simp; omega)
          have hn : ¬ r < 0 := by
            intro hr1
            have h1 : decide (a0 < X) = true := decide_eq_true hg
            have h2 : decide (r < 0) = true := decide_eq_true hr1
            rw [h1, h2] at h; cases h
          rw [hr, cmpI_neg] at hn
          exact insW_stop (by rw [← hux, ← hwy]; exact hn)
      rw [hst] at hk
      have hi3 : i + 1 ≤ b := by omega
      have hw1 : dn.i (.bin .add .i64 (.a I) (.l 1)) = ((i + 1 : Nat) : Int) := by
        have h1 := V.hI; have h2 := B.hi; have h3 := B.len
        show IntKind.i64.wrap (I + 1) = _
        rw [wrap64 (by omega) (by omega)]; omega
      refine ⟨b - (i + 1), by have := V.hm; omega, ?_⟩
      rw [hJ]
      subst hD
      have hsum := hi2.2
      refine ⟨A, P ++ [x] ++ M, T, Z, i + 1, _, f2, rfl, rfl, ⟨W.hA, .inr ⟨by have := W.hj; have := W.hi; simp; omega, by simp at hsum; omega⟩, hw1, by have := B.hi; have := B.len; omega, rfl, by simp; omega⟩, by simpa using R2, by rw [hk]⟩
  · have hge : b ≤ i := by have h := of_decide_eq_false (p := I < b0) h; have := V.hI; have := B.hb; omega
    have hT : T = [] := by
      rcases V.hi with ⟨h, _⟩ | ⟨_, h⟩
      · exact h
      · exact List.eq_nil_of_length_eq_zero (by omega)
    subst hT
    have hk2 : k = A ++ S ++ [] ++ Z := by rw [hk]; simp
    refine finOwn (LeV.refl _) (by subst hD; rfl) fun q _ => ?_
    rw [R.f q, hkf, hk2]; rfl
end Go.Proofs.YtfchfhjpldppjaaGreatDoor
namespace Go.Proofs.YtfchfhjpldppjaaGreatDoor
open Go.Sx
set_option maxRecDepth 10000
set_option maxHeartbeats 4000000
/-! The stable sort of fewer than 20 weights. -/
def sortF (l : List Wt) : List Wt := l.foldl insW []
theorem sortSeg_all (l : List Wt) : sortSeg l 0 l.length = sortF l := by
  unfold sortSeg sortF
  simp
theorem sortF_len (l : List Wt) : (sortF l).length = l.length := by rw [sortF, foldW_len]; simp
def spStabT : FSpec := fun _ xs ls K => ∃ (l : List Wt) (nl : Bool) (n n1 : Int) (f : Nat → List SV), xs = [.osl (.a nl) (.a n) 0, .int .i64 (.a n1), .fn 59] ∧ ls = [.own 51 (.a n) 2 true f] ∧ RowT f n l ∧ n1 = n ∧ l.length < 20 ∧
  ∀ (k : List Wt) (f' : Nat → List SV), k = sortF l → f' = wtRow k → K (.tup []) [.own 51 (.a n) 2 true f']
def stJ (nl : Bool) (n n1 : Int) (f : Nat → List SV) (_m : Nat) (vs : List (Option SV)) (hp : List Hl) : Prop :=
  vs = [some (.osl (.a nl) (.a n) 0), some (.int .i64 (.a n1)), some (.fn 59), some (.int .i64 (.a 20)), some (.int .i64 (.a 0)), some (.int .i64 (.a 20))] ∧ hp = [.own 51 (.a n) 2 true f]
theorem stabT_ok : FnOk Tryz.prog gl 83 spStabT := by
  refine fnOk (gh := []) mixed cxOk (tabCons insT_ok tabNil) Tryz.func83 (by kernel_rfl) (by kernel_rfl) ?_
  intro xs ls K h
  unfold spStabT at h
  obtain ⟨l, nl, n, n1, f, rfl, rfl, R, hn1, hl, h⟩ := h
  obtain ⟨k, hk⟩ : ∃ k, k = sortF l := ⟨_, rfl⟩
  obtain ⟨kf, hkf⟩ : ∃ kf, kf = wtRow k := ⟨_, rfl⟩
  refine ⟨_, _, h k kf hk hkf, fun D hD => ?_⟩
  clear h
  cbv
  obtain ⟨J, hJ⟩ : ∃ J, J = stJ nl n n1 f := ⟨_, rfl⟩
  refine ⟨[0, 1, 2, 6, 7, 8], J, ⟨rfl, 0, ?_⟩, ?_⟩
  · rw [hJ]
    subst hD
    exact ⟨rfl, rfl⟩
  intro m vs hp' hv
  rw [hJ] at hv
  unfold stJ at hv
  obtain ⟨rfl, rfl⟩ := hv
  cbv
  refine br hD (fun h => ?_) (fun h => ?_) <;> cbv
  · have h := of_decide_eq_true (p := 20 ≤ n1) h
    have := R.n; omega
  clear h
  refine ⟨l, _, _, _, _, 0, l.length, f, rfl, rfl, by subst hD; exact R, ⟨by subst hD; rfl, by subst hD; show n1 = _; rw [hn1]; exact R.n, Nat.zero_le _, Nat.le_refl _, by omega⟩, fun k2 f2 hk2 hf2 => ?_⟩
  have hk3 : k2 = k := by rw [hk2, hk, sortSeg_all]
  have R2 : RowT f2 n k := by rw [hf2, hk3]; exact RowT.row (by rw [hk, sortF_len]; exact R.n) (by rw [hk, sortF_len]; omega)
  clear hk2 hf2
  cbv
  obtain ⟨J2, hJ2⟩ : ∃ J, J = stJ nl n n1 f2 := ⟨_, rfl⟩
  refine ⟨[0, 1, 2, 6, 7, 8], J2, ⟨rfl, 0, ?_⟩, ?_⟩
  · rw [hJ2]
    subst hD
    exact ⟨rfl, rfl⟩
  intro m vs hp' hv
  rw [hJ2] at hv
  unfold stJ at hv
  obtain ⟨rfl, rfl⟩ := hv
  cbv
  refine br hD (fun h => ?_) (fun h => ?_) <;> cbv
  · have h := of_decide_eq_true (p := 20 < n1) h
    have := R.n; omega
  refine finOwn (LeV.refl _) (by subst hD; rfl) fun q _ => ?_
  rw [R2.f q, hkf]; rfl
def spSortT : FSpec := fun _ xs ls K => ∃ (l : List Wt) (nl : Bool) (n : Int) (f : Nat → List SV), xs = [.osl (.a nl) (.a n) 0, .fn 59] ∧ ls = [.own 51 (.a n) 2 true f] ∧ RowT f n l ∧ l.length < 20 ∧
  ∀ (k : List Wt) (f' : Nat → List SV), k = sortF l → f' = wtRow k → K (.tup []) [.own 51 (.a n) 2 true f']
theorem sortT_ok : FnOk Tryz.prog gl 58 spSortT := by
  refine fnOk (gh := []) mixed cxOk (tabCons stabT_ok tabNil) Tryz.func58 (by kernel_rfl) (by kernel_rfl) ?_
  intro xs ls K h
  unfold spSortT at h
  obtain ⟨l, nl, n, f, rfl, rfl, R, hl, h⟩ := h
  obtain ⟨k, hk⟩ : ∃ k, k = sortF l := ⟨_, rfl⟩
  obtain ⟨kf, hkf⟩ : ∃ kf, kf = wtRow k := ⟨_, rfl⟩
  refine ⟨_, _, h k kf hk hkf, fun D hD => ?_⟩
  clear h
  cbv
  refine ⟨l, _, _, _, f, rfl, rfl, by subst hD; exact R, by subst hD; rfl, hl, fun k2 f2 hk2 hf2 => ?_⟩
  cbv
  refine finOwn (LeV.refl _) (by subst hD; rfl) fun q _ => ?_
  rw [hf2, hkf, hk, hk2]
/-- Of rows that are known up to their length. -/
def spSortW : FSpec := fun _ xs ls K => ∃ (l : List Wt) (nl : Bool) (n : Int) (f : Nat → List SV), xs = [.osl (.a nl) (.a n) 0, .fn 59] ∧ ls = [.own 51 (.a n) 2 true f] ∧ RowW f n l ∧ l.length < 20 ∧
  ∀ (k : List Wt) (f' : Nat → List SV), k = sortF l → f' = wtRow k → K (.tup []) [.own 51 (.a n) 2 true f']
theorem callsTo_leH {P : Go.Program} {gl : List (Nat × SV)} {f : Go.FuncId} {as1 : List SV} {ls ls1 : List Hl} {r : SV} {ls' : List Hl} (h : LeH ls ls1) (hl : ls.length = ls1.length) (c : CallsTo P gl f as1 ls1 r ls') : CallsTo P gl f as1 ls r ls' :=
  fun B E w vals hw hI hdom hb hg hh hr => c B E w vals hw hI (by rw [← hl]; exact hdom) hb hg (fun k => h k E w (hh k)) hr
theorem sort_ok : FnOk Tryz.prog gl 58 spSortW := by
  refine ⟨sortT_ok.1, fun xs ls K h => ?_⟩
  obtain ⟨l, nl, n, f, rfl, rfl, R, hl, h⟩ := h
  obtain ⟨r, ls', hK, hc⟩ := sortT_ok.2 [.osl (.a nl) (.a n) 0, .fn 59] [.own 51 (.a n) 2 true (wtRow l)] K ⟨l, nl, n, wtRow l, rfl, rfl, RowT.row R.n R.len, hl, h⟩
  refine ⟨r, ls', hK, callsTo_leH (ls1 := [.own 51 (.a n) 2 true (wtRow l)]) (leH_of (LeH.cons (leH_own rfl fun i hi => ?_) fun _ _ _ _ h => h)) rfl hc⟩
  have hi : (i : Int) < n := hi
  exact R.f i (by have := R.n; omega)
end Go.Proofs.YtfchfhjpldppjaaGreatDoor
namespace Go.Proofs.YtfchfhjpldppjaaGreatDoor
open Go.Sx
set_option maxRecDepth 10000
set_option maxHeartbeats 4000000
/-! Weights. -/
def wPar : List Par → Int → Int × Int
  | [], q => (q, 0)
  | p :: r, q => if p.1 == [113] then (if (qualF p.2).2 ≠ 0 then (0, (qualF p.2).2) else wPar r (qualF p.2).1) else wPar r q
def wItems : List Item → List Wt × Int
  | [] => ([], 0)
  | x :: r => if (wPar x.2 1000).2 ≠ 0 then ([], (wPar x.2 1000).2) else if (wItems r).2 ≠ 0 then ([], (wItems r).2) else ((x.1, (wPar x.2 1000).1) :: (wItems r).1, 0)
def addW (out : List Wt) (y : List Wt × Int) : List Wt × Int := if y.2 ≠ 0 then ([], y.2) else (out ++ y.1, 0)
theorem addW_err {out : List Wt} {x : Item} {r : List Item} (h : (wPar x.2 1000).2 ≠ 0) : addW out (wItems (x :: r)) = ([], (wPar x.2 1000).2) := by
  rw [wItems, if_pos h, addW, if_pos h]
theorem addW_more {out : List Wt} {x : Item} {r : List Item} (h : (wPar x.2 1000).2 = 0) : addW out (wItems (x :: r)) = addW (out ++ [(x.1, (wPar x.2 1000).1)]) (wItems r) := by
  rw [wItems, if_neg (by rw [h]; simp)]
  by_cases hr : (wItems r).2 ≠ 0
  · rw [if_pos hr, addW, addW, if_pos hr, if_pos hr]
  · rw [if_neg hr, addW, addW, if_neg hr, if_neg (by simp)]
    simp
def sortE (y : List Wt × Int) : List Wt × Int := if y.2 ≠ 0 then ([], y.2) else (sortF y.1, 0)
def weightsF (v : List UInt8) : List Wt × Int := if (itemsF v).2 ≠ 0 then ([], (itemsF v).2) else sortE (addW [] (wItems (itemsF v).1))
theorem RowW.nil : RowW (fun _ => []) 0 [] := ⟨rfl, by simp, by simp⟩
theorem RowW.more {f f' g : Nat → List SV} {n n' : Int} {a : List Wt} {x : Wt} (R : RowW f n a) (hg : g 0 = wtSV x) (h : MoreRow f' n' n 1 f g) (hl : a.length < 9223372036854775807) : RowW f' n' (a ++ [x]) := by
  have h1 := R.n
  refine ⟨by rw [h.len, h1]; simp, fun i hi => ?_, by simp; omega⟩
  simp only [List.length_append, List.length_singleton] at hi
  by_cases e : i < a.length
  · rw [h.lo i (by omega), R.f i e, List.getD_eq_getElem?_getD, List.getD_eq_getElem?_getD, List.getElem?_append_left e]
  · have : i = a.length := by omega
    subst this
    rw [h.hi a.length 0 (by rw [h1]; simp) (by simp), hg]
    simp
/-- What is left of the parameters, and of the items. -/
def restW (out : List Wt) (v : List UInt8) (y : Int × Int) (r : List Item) : List Wt × Int := if y.2 ≠ 0 then ([], y.2) else addW (out ++ [(v, y.1)]) (wItems r)
theorem restW_of {out : List Wt} {x : Item} {r : List Item} : addW out (wItems (x :: r)) = restW out x.1 (wPar x.2 1000) r := by
  unfold restW
  by_cases h : (wPar x.2 1000).2 ≠ 0
  · rw [addW_err h, if_pos h]
  · rw [addW_more (by simpa using h), if_neg h]
theorem wPar_not {p : Par} {r : List Par} {q : Int} (h : (p.1 == [113]) = false) : wPar (p :: r) q = wPar r q := by rw [wPar, if_neg (by rw [h]; simp)]
theorem wPar_bad {p : Par} {r : List Par} {q : Int} (h : (p.1 == [113]) = true) (h2 : (qualF p.2).2 ≠ 0) : wPar (p :: r) q = (0, (qualF p.2).2) := by rw [wPar, if_pos h, if_pos h2]
theorem wPar_q {p : Par} {r : List Par} {q : Int} (h : (p.1 == [113]) = true) (h2 : (qualF p.2).2 = 0) : wPar (p :: r) q = wPar r (qualF p.2).1 := by rw [wPar, if_pos h, if_neg (by rw [h2]; simp)]
structure WoI (l : List Item) (out : List Wt) (i : Nat) (I L : Int) (nl : Bool) (m : Nat) : Prop where
  at_ : AtR l i I m
  L : L = l.length
  ol : out.length = i
  nl : nl = out.isEmpty
def woJ (l : List Item) (k : List Wt × Int) (nb : Bool) (nn : Int) (g : Nat → List SV) (m : Nat) (vs : List (Option SV)) (hp : List Hl) : Prop :=
  ∃ (i : Nat) (I L n : Int) (nl : Bool) (f : Nat → List SV) (out : List Wt), vs = [some (.osl (.a nl) (.a n) 0), some (.sl (.a nb) (.a nn) 2 g), some (.int .i64 (.a L)), some (.int .i64 (.a I))] ∧ hp = [.own 51 (.a n) 2 true f] ∧
    WoI l out i I L nl m ∧ RowW f n out ∧ k = sortE (addW out (wItems (l.drop i)))
structure WpI (ps : List Par) (i : Nat) (I L : Int) (m : Nat) : Prop where
  at_ : AtR ps i I m
  L : L = ps.length
def wpJ (out : List Wt) (v : List UInt8) (rest : List Item) (ps : List Par) (k : List Wt × Int) (nb : Bool) (nn : Int) (g : Nat → List SV) (nl : Bool) (n : Int) (f : Nat → List SV) (L I : Int) (pnl : Bool) (pn : Int) (pf : Nat → List SV) (m : Nat) (vs : List (Option SV)) (hp : List Hl) : Prop :=
  ∃ (i : Nat) (I2 L2 q : Int), vs = [some (.osl (.a nl) (.a n) 0), some (.ptr 2 0), some (.sl (.a nb) (.a nn) 2 g), some (.int .i64 (.a L)), some (.int .i64 (.a I)), some (.sl (.a pnl) (.a pn) 2 pf), some (.int .i64 (.a L2)), some (.int .i64 (.a I2))] ∧
    hp = [.own 51 (.a n) 2 true f, .blk 49 [.str v, .sl (.a pnl) (.a pn) 2 pf], .blk 51 [.str v, .int .i64 (.a q)]] ∧ WpI ps i I2 L2 m ∧ k = sortE (restW out v (wPar (ps.drop i) q) rest)
def spWeights (N : Nat) : FSpec := fun _ xs ls K => ∃ (s : List UInt8), xs = [.str s] ∧ ls = [] ∧ s.length ≤ 9223372036854775807 ∧ (itemsF s).1.length < N ∧ ∀ l e n nb f, (l, e) = weightsF s → n = (l.length : Int) → nb = l.isEmpty → f = wtRow l → K (.tup [.sl (.a nb) (.a n) 2 f, .int .i64 (.a e)]) []
theorem finWts {D : Dn} (hD : D = dn) {l l' : List Wt} {ke kn : Int} {knb : Bool} {kr f : Nat → List SV} {y z : ST} {x : BT} (hk : (l, ke) = (l', z.den)) (hkn : kn = (l.length : Int)) (hknb : knb = l.isEmpty) (hkr : kr = wtRow l)
    {n : Int} (R : RowW f n l') (hy : y.den = n) (hx : x.den = l'.isEmpty) : Fin (.tup [.sl (.a (D.b x)) (.a (D.i y)) 2 f, .int .i64 (.a (D.i z))]) (.tup [.sl (.a knb) (.a kn) 2 kr, .int .i64 (.a ke)]) [] [] := by
  subst hD
  simp only [Prod.mk.injEq] at hk
  obtain ⟨rfl, rfl⟩ := hk
  refine finV (.tup (.cons (.sl ?_ ?_ ?_) (.cons (LeV.refl _) .nil)))
  · rw [hknb]; exact hx
  · rw [hkn]; show y.den = _; rw [hy, R.n]; rfl
  · intro i hi
    have hi : (i : Int) < y.den := hi
    rw [R.f i (by have := R.n; omega), hkr]; rfl
theorem itemsF_len (s : List UInt8) : (itemsF s).1.length ≤ 50 := by
  have key : ∀ (l : List (List UInt8)) (out : List Item), (addI out (itemsL l)).1.length ≤ out.length + l.length := by
    intro l
    induction l with
    | nil => intro out; simp [addI, itemsL]
    | cons x r ih =>
      intro out
      by_cases h : (itemF x).2 ≠ 0
      · rw [addI_err h]; simp
      · rw [addI_more (by simpa using h)]
        have := ih (out ++ [(itemF x).1])
        simp at this ⊢; omega
  unfold itemsF
  split
  · simp
  · split
    · simp
    · have := key (refElementsF s).1 []
      simp at this; omega
theorem weights_ok : FnOk Tryz.prog gl 27 (spWeights 20) := by
  refine fnOk (gh := [(4, [.own 6 51]), (19, [.share 6])]) mixed cxOk (tabCons items_ok (tabCons quality_ok (tabCons sort_ok tabNil))) Tryz.func27 (by kernel_rfl) (by kernel_rfl) ?_
  intro xs ls K h
  unfold spWeights at h
  obtain ⟨s, rfl, rfl, hl, hN, h⟩ := h
  obtain ⟨k, hk⟩ : ∃ k, k = weightsF s := ⟨_, rfl⟩
  obtain ⟨kl, ke⟩ := k
  obtain ⟨kn, hkn⟩ : ∃ kn : Int, kn = (kl.length : Int) := ⟨_, rfl⟩
  obtain ⟨knb, hknb⟩ : ∃ knb : Bool, knb = kl.isEmpty := ⟨_, rfl⟩
  obtain ⟨kr, hkr⟩ : ∃ kr, kr = wtRow kl := ⟨_, rfl⟩
  refine ⟨_, _, h kl ke kn knb kr hk hkn hknb hkr, fun D hD => ?_⟩
  clear h
  rw [weightsF] at hk
  have hil := itemsF_len s
  have hgood := itemsF_good s
  cbv
  refine ⟨s, rfl, rfl, hl, fun l e n nb g he hn hnb hg => ?_⟩
  rw [← he] at hk hil hN hgood
  simp only at hk hil hN hgood
  have RL : RowI g n l := by rw [hg, hn]; exact RowI.row (by omega)
  clear hg
  cbv
  refine br hD (fun h => ?_) (fun h => ?_) <;> cbv
  · have h : (e != 0) = true := h
    rw [if_pos (by simpa using h)] at hk
    exact finWts (l' := []) (z := .a e) hD hk hkn hknb hkr RowW.nil rfl rfl
  have h : (e != 0) = false := h
  rw [if_neg (by simpa using h)] at hk
  clear h hn hnb
  obtain ⟨J, hJ⟩ : ∃ J, J = woJ l (kl, ke) nb n g := ⟨_, rfl⟩
  refine ⟨[6, 20, 21, 22], J, ⟨rfl, l.length, ?_⟩, ?_⟩
  · rw [hJ]
    subst hD
    exact ⟨0, 0, _, _, _, _, [], rfl, rfl, ⟨AtR.zero (by omega), RL.n, rfl, rfl⟩, RowW.nil, hk⟩
  clear hk
  intro m vs hp' hv
  rw [hJ] at hv
  unfold woJ at hv
  obtain ⟨i, I, L, N, nl, f, out, rfl, rfl, V, R, hk⟩ := hv
  cbv
  refine br hD (fun h => ?_) (fun h => ?_) <;> cbv
  · have hlt := V.at_.lt V.L (of_decide_eq_true (p := I < L) h)
    clear h
    refine ⟨V.at_.inB hD RL.n hlt, fun j hj => ?_⟩
    obtain rfl := V.at_.j hD hj
    clear hj
    have e1 := RL.f j hlt
    rw [dropR (d := ([], [])) hlt, restW_of] at hk
    have hxg := hgood (l.getD j ([], [])) (by rw [List.getD_eq_getElem?_getD, List.getElem?_eq_getElem hlt]; exact List.getElem_mem hlt)
    obtain ⟨x, hx⟩ : ∃ x, x = l.getD j ([], []) := ⟨_, rfl⟩
    rw [← hx] at e1 hk hxg
    obtain ⟨xv, xp⟩ := x
    have hxp : xp.length ≤ 20 := hxg.1
    have hxq : ∀ p ∈ xp, p.2.length ≤ 500 := hxg.2
    clear hxg
    rw [itemSV] at e1
    obtain ⟨pn, hpn⟩ : ∃ pn : Int, pn = (xp.length : Int) := ⟨_, rfl⟩
    obtain ⟨pnl, hpnl⟩ : ∃ pnl : Bool, pnl = xp.isEmpty := ⟨_, rfl⟩
    obtain ⟨pf, hpf⟩ : ∃ pf, pf = parRow xp := ⟨_, rfl⟩
    have RP : RowP pf pn xp := by rw [hpf, hpn]; exact ⟨rfl, fun _ _ => rfl, by omega⟩
    simp only at e1 hk
    rw [← hpn, ← hpnl, ← hpf] at e1
    clear hpn hpnl hpf
    cbv
    rw [e1]
    cbv
    obtain ⟨J2, hJ2⟩ : ∃ J, J = wpJ out xv (l.drop (j + 1)) xp (kl, ke) nb n g nl N f L I pnl pn pf := ⟨_, rfl⟩
    refine ⟨[6, 9, 20, 21, 22, 30, 31, 32], J2, ⟨rfl, xp.length, ?_⟩, ?_⟩
    · rw [hJ2]
      subst hD
      exact ⟨0, 0, _, _, rfl, rfl, ⟨AtR.zero (by omega), RP.n⟩, hk⟩
    clear hk
    intro m2 vs2 hp2 hv2
    rw [hJ2] at hv2
    unfold wpJ at hv2
    obtain ⟨i, I2, L2, q, rfl, rfl, W, hk⟩ := hv2
    cbv
    refine br hD (fun h => ?_) (fun h => ?_) <;> cbv
    · have hlt2 := W.at_.lt W.L (of_decide_eq_true (p := I2 < L2) h)
      clear h
      refine ⟨W.at_.inB hD RP.n hlt2, fun a ha => ?_⟩
      obtain rfl := W.at_.j hD ha
      clear ha
      have e2 := RP.f a hlt2
      rw [dropR (d := ([], [])) hlt2] at hk
      have hpq := hxq (xp.getD a ([], [])) (by rw [List.getD_eq_getElem?_getD, List.getElem?_eq_getElem hlt2]; exact List.getElem_mem hlt2)
      obtain ⟨p, hp⟩ : ∃ p, p = xp.getD a ([], []) := ⟨_, rfl⟩
      rw [← hp] at e2 hk hpq
      obtain ⟨pnm, pvl⟩ := p
      simp only at e2 hpq
      cbv
      rw [e2]
      cbv
      refine br hD (fun h => ?_) (fun h => ?_) <;> cbv
      · have h : (!(pnm == [113])) = true := h
        rw [wPar_not (p := (pnm, pvl)) (by simpa using h)] at hk
        refine ⟨xp.length - (a + 1), (W.at_.step hD hlt2).1, ?_⟩
        rw [hJ2]
        subst hD
        exact ⟨a + 1, _, _, q, rfl, rfl, ⟨(W.at_.step rfl hlt2).2, W.L⟩, hk⟩
      have h : (!(pnm == [113])) = false := h
      have hnm : (pnm == [113]) = true := by simpa using h
      clear h
      have hbad := fun h2 => wPar_bad (p := (pnm, pvl)) (r := xp.drop (a + 1)) (q := q) hnm h2
      have hgo := fun h2 => wPar_q (p := (pnm, pvl)) (r := xp.drop (a + 1)) (q := q) hnm h2
      refine ⟨pvl, rfl, rfl, by omega, fun qn qe hqe => ?_⟩
      simp only at hbad hgo
      rw [← hqe] at hbad hgo
      simp only at hbad hgo
      cbv
      refine br hD (fun h => ?_) (fun h => ?_) <;> cbv
      · have h : (qe != 0) = true := h
        have h : qe ≠ 0 := by simpa using h
        rw [hbad h, restW, if_pos h, sortE, if_pos h] at hk
        exact finWts (l' := []) (z := .a qe) hD hk hkn hknb hkr RowW.nil rfl rfl
      have h : (qe != 0) = false := h
      rw [hgo (by simpa using h)] at hk
      refine ⟨xp.length - (a + 1), (W.at_.step hD hlt2).1, ?_⟩
      rw [hJ2]
      subst hD
      exact ⟨a + 1, _, _, qn, rfl, rfl, ⟨(W.at_.step rfl hlt2).2, W.L⟩, hk⟩
    · have hi := W.at_.eq W.L (of_decide_eq_false (p := I2 < L2) h)
      clear h
      rw [hi, List.drop_length, wPar, restW, if_neg (by simp)] at hk
      simp only at hk
      cbv
      intro g1 hg1
      have hg0 : g1 0 = wtSV (xv, q) := by subst hD; exact hg1.h 0 _ rfl
      clear hg1
      cbv
      refine ⟨?_, fun f' n' hf' => ?_⟩
      · have := V.ol; have := V.at_.le; have h := R.n; subst hD; exact ⟨rfl, by show (N + 1) * 24 ≤ _; omega, by show N + 1 ≤ _; omega⟩
      have R' : RowW f' n' (out ++ [(xv, q)]) := by
        subst hD
        exact R.more hg0 hf' (by have := V.ol; have := V.at_.le; omega)
      clear hf' hg0
      cbv
      refine ⟨l.length - (j + 1), (V.at_.step hD hlt).1, ?_⟩
      rw [hJ]
      subst hD
      exact ⟨j + 1, _, _, _, _, f', _, rfl, rfl, ⟨(V.at_.step rfl hlt).2, V.L, by have := V.ol; simp; omega, by show (nl && false) = _; simp⟩, R', hk⟩
  · have hi := V.at_.eq V.L (of_decide_eq_false (p := I < L) h)
    clear h
    rw [hi, List.drop_length] at hk
    have hk : (kl, ke) = (sortF out, 0) := by rw [hk]; simp [addW, wItems, sortE]
    have hol := V.ol
    have hole := V.at_.le
    refine ⟨out, _, _, f, rfl, rfl, by subst hD; exact R, by omega, fun k2 f2 hk2 hf2 => ?_⟩
    have R2 : RowW f2 N k2 := by rw [hf2]; exact RowW.row (by rw [hk2, sortF_len]; exact R.n) (by rw [hk2, sortF_len]; omega)
    have hnl : nl = k2.isEmpty := by
      rw [V.nl, hk2, ← Bool.coe_iff_coe, List.isEmpty_iff, List.isEmpty_iff]
      have := sortF_len out
      constructor
      · intro h; rw [h]; rfl
      · intro h; rw [h] at this; exact List.eq_nil_of_length_eq_zero (by simpa using this.symm)
    rw [← hk2] at hk
    clear hk2 hf2
    cbv
    exact ⟨by subst hD; exact ⟨rfl⟩, finWts (l' := k2) (z := .l 0) (x := .a nl) (y := .a N) hD hk hkn hknb hkr R2 rfl hnl⟩
end Go.Proofs.YtfchfhjpldppjaaGreatDoor
