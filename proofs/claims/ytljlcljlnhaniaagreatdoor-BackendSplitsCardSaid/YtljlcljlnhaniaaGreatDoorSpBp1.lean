/- Part of the proof of the statement: an evaluator of the code at closed data, run by the kernel, and that it is sound; it has no conditions of its own. -/
set_option linter.unusedVariables false
set_option linter.unusedSimpArgs false
/- Pieces of a string: plain. -/
namespace Go.Pcs
abbrev Str := List UInt8
/-- How long the next of i + 1 pieces is. -/
def cut (n i : Nat) : Nat := (n + i) / (i + 1)
/-- The pieces, one after the other. -/
def pcs : Nat → Str → List Str
  | 0, _ => []
  | i + 1, b => if b = [] then [] else b.take (cut b.length i) :: pcs i (b.drop (cut b.length i))
/-- The same, by quotient and rest. -/
def prs (q r : Nat) : Nat → Nat → Str → List Str
  | 0, _, _ => []
  | i + 1, j, b => (if 0 < q + (if j < r then 1 else 0) then [b.take (q + (if j < r then 1 else 0))] else []) ++ prs q r i (j + 1) (b.drop (q + (if j < r then 1 else 0)))
theorem div_q (q i c : Nat) : (q * (i + 1) + c) / (i + 1) = q + c / (i + 1) := by
  rw [Nat.add_comm, Nat.add_mul_div_right _ _ (Nat.succ_pos i), Nat.add_comm]
theorem cut_eq {n q d i : Nat} (h : n = q * (i + 1) + d) (hd : d ≤ i) : cut n i = q + (if 0 < d then 1 else 0) := by
  unfold cut
  rw [h, Nat.add_assoc, div_q]
  congr 1
  split
  · have : (d + i) / (i + 1) = 1 := by
      rw [Nat.div_eq_iff (Nat.succ_pos i)]; omega
    exact this
  · have : d = 0 := by omega
    subst this
    rw [Nat.zero_add]
    exact Nat.div_eq_of_lt (Nat.lt_succ_self i)
theorem prs_eq (q r : Nat) : ∀ (i j : Nat) (b : Str), b.length = q * i + (r - j) → (r - j < i ∨ r - j = 0) → prs q r i j b = pcs i b
  | 0, j, b, _, _ => rfl
  | i + 1, j, b, hb, hr => by
    have hd : r - j ≤ i := by omega
    have hc := cut_eq hb hd
    have hn : q + (if j < r then 1 else 0) = cut b.length i := by
      rw [hc]
      by_cases hj : j < r
      · rw [if_pos hj, if_pos (by omega)]
      · rw [if_neg hj, if_neg (by omega)]
    have hl : (b.drop (cut b.length i)).length = q * i + (r - (j + 1)) := by
      rw [List.length_drop, hc, hb, Nat.mul_succ]
      split <;> omega
    have ih := prs_eq q r i (j + 1) (b.drop (cut b.length i)) hl (by omega)
    show (if 0 < q + (if j < r then 1 else 0) then [b.take (q + (if j < r then 1 else 0))] else []) ++ prs q r i (j + 1) (b.drop (q + (if j < r then 1 else 0))) = if b = [] then [] else b.take (cut b.length i) :: pcs i (b.drop (cut b.length i))
    rw [hn, ih]
    by_cases he : b = []
    · subst he
      have hb : 0 = q * (i + 1) + (r - j) := hb
      have hz : cut 0 i = 0 := by unfold cut; rw [Nat.zero_add]; exact Nat.div_eq_of_lt (Nat.lt_succ_self i)
      rw [if_pos rfl]
      show (if 0 < cut 0 i then _ else _) ++ _ = _
      rw [hz, if_neg (by omega), List.drop_nil]
      cases i <;> simp [pcs]
    · rw [if_neg he]
      have hpos : 0 < b.length := List.length_pos_iff.2 he
      have : 0 < cut b.length i := by
        rw [hc]
        rw [hb] at hpos
        by_cases hd0 : 0 < r - j
        · rw [if_pos hd0]; omega
        · have : 0 < q * (i + 1) := by omega
          have := Nat.pos_of_mul_pos_right this
          rw [if_neg hd0]; omega
      rw [if_pos this]; rfl
theorem cut_le {n i : Nat} : cut n i ≤ n := by
  unfold cut
  rcases Nat.eq_zero_or_pos n with h | h
  · subst h; rw [Nat.zero_add]; exact Nat.le_of_eq (Nat.div_eq_of_lt (Nat.lt_succ_self i))
  · refine Nat.le_of_lt_succ ((Nat.div_lt_iff_lt_mul (Nat.succ_pos i)).2 ?_)
    have : n * (i + 1) = n * i + n := Nat.mul_succ n i
    have : i ≤ n * i := Nat.le_mul_of_pos_left i h
    show n + i < (n + 1) * (i + 1)
    rw [Nat.succ_mul]; omega
theorem cut_pos {n i : Nat} (h : 0 < n) : 0 < cut n i := by
  unfold cut
  exact Nat.div_pos (by omega) (Nat.succ_pos i)
/-- The pieces are the whole. -/
theorem pcs_all : ∀ (i : Nat) (b : Str), (pcs (i + 1) b).flatten = b
  | 0, b => by
    unfold pcs
    split
    · rename_i h; rw [h]; rfl
    · have : cut b.length 0 = b.length := by unfold cut; simp
      rw [this]
      simp [pcs]
  | i + 1, b => by
    unfold pcs
    split
    · rename_i h; rw [h]; rfl
    · rw [List.flatten_cons, pcs_all i, List.take_append_drop]
/-- None is empty, and each has q or q + 1 bytes: q the quotient, one more if there is a rest. -/
theorem pcs_len : ∀ (i : Nat) (b : Str) (q d : Nat), b.length = q * i + d → d < i → ∀ x ∈ pcs i b, x ≠ [] ∧ q ≤ x.length ∧ x.length ≤ q + (if 0 < d then 1 else 0)
  | 0, _, _, _, _, h, _, _ => by omega
  | i + 1, b, q, d, hb, hd, x, hx => by
    unfold pcs at hx
    split at hx
    · cases hx
    · rename_i he
      have hpos : 0 < b.length := List.length_pos_iff.2 he
      have hc := cut_eq hb (by omega : d ≤ i)
      rcases List.mem_cons.1 hx with rfl | hx
      · have hl : (b.take (cut b.length i)).length = cut b.length i := by rw [List.length_take, Nat.min_eq_left cut_le]
        refine ⟨fun e => ?_, ?_, ?_⟩
        · have := cut_pos (i := i) hpos
          rw [e] at hl
          have hl : 0 = cut b.length i := hl
          omega
        · rw [hl, hc]; omega
        · rw [hl, hc]; exact Nat.le_refl _
      · by_cases hi : i = 0
        · subst hi; cases hx
        · have hl : (b.drop (cut b.length i)).length = q * i + (d - (if 0 < d then 1 else 0)) := by
            rw [List.length_drop, hc, hb, Nat.mul_succ]
            split <;> omega
          have := pcs_len i (b.drop (cut b.length i)) q (d - (if 0 < d then 1 else 0)) hl (by split <;> omega) x hx
          refine ⟨this.1, this.2.1, Nat.le_trans this.2.2 ?_⟩
          split <;> split <;> omega
/-- The first one has as many as any. -/
theorem pcs_first {i : Nat} {b : Str} {x : Str} (hx : x ∈ pcs i b) {y : Str} (hy : (pcs i b)[0]? = some y) : x ≠ [] ∧ x.length ≤ y.length ∧ y.length ≤ x.length + 1 := by
  cases i with
  | zero => cases hx
  | succ i =>
    have hdm := Nat.div_add_mod b.length (i + 1)
    have hlt : b.length % (i + 1) < i + 1 := Nat.mod_lt b.length (Nat.succ_pos i)
    have hb : b.length = b.length / (i + 1) * (i + 1) + b.length % (i + 1) := by rw [Nat.mul_comm]; exact hdm.symm
    have h1 := pcs_len (i + 1) b _ _ hb hlt x hx
    have h2 := pcs_len (i + 1) b _ _ hb hlt y (List.mem_of_getElem? hy)
    have hc := cut_eq hb (by omega)
    have hyl : y.length = b.length / (i + 1) + (if 0 < b.length % (i + 1) then 1 else 0) := by
      unfold pcs at hy
      split at hy
      · cases hy
      · cases hy
        rw [List.length_take, Nat.min_eq_left cut_le]; exact hc
    refine ⟨h1.1, by rw [hyl]; exact h1.2.2, ?_⟩
    rw [hyl]
    split <;> omega
theorem pcs_le : ∀ (i : Nat) (b : Str), ∀ x ∈ pcs i b, x.length ≤ b.length
  | 0, _, x, hx => by cases hx
  | i + 1, b, x, hx => by
    unfold pcs at hx
    split at hx
    · cases hx
    · rcases List.mem_cons.1 hx with rfl | hx
      · rw [List.length_take]; exact Nat.min_le_right _ _
      · have := pcs_le i _ x hx
        rw [List.length_drop] at this; omega
theorem pcs_count : ∀ (i : Nat) (b : Str), (pcs i b).length ≤ i
  | 0, _ => Nat.le_refl _
  | i + 1, b => by
    unfold pcs
    split
    · exact Nat.zero_le _
    · exact Nat.succ_le_succ (pcs_count i _)
end Go.Pcs
