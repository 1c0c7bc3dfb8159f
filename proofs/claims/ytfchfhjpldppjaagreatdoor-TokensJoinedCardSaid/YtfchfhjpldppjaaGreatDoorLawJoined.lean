/- Part of the proofs of the statements about tokens (layer 5): the laws; it has no conditions of its own. -/
import Derived.Test.YtfchfhjpldppjaaGreatDoorTf
import Derived.Test.YtfchfhjpldppjaaGreatDoorTd
import Derived.Test.YtfchfhjpldppjaaGreatDoorSc
namespace Go.Proofs.YtfchfhjpldppjaaGreatDoor
open Go.Sx
set_option maxRecDepth 10000
set_option maxHeartbeats 4000000
/-! Has of the document; the law TokensElements. -/
theorem refElementsF_err {s : List UInt8} (h : (refElementsF s).1 ≠ []) : (refElementsF s).2 = 0 := by
  unfold refElementsF at h ⊢
  split
  · rename_i h2; rw [if_pos h2] at h; exact absurd rfl h
  · rename_i h2
    rw [if_neg h2] at h
    cases hp : partsF 44 s with
    | none => rw [hp] at h; exact absurd rfl h
    | some l => rfl
def rhJ (t : List UInt8) (k : Bool × Int) (l : List (List UInt8)) (e : Int) (nb : Bool) (n : Int) (g : Nat → List SV) (m : Nat) (vs : List (Option SV)) (hp : List Hl) : Prop :=
  ∃ (i : Nat) (I : Int), vs = [some (.str t), some (.sl (.a nb) (.a n) 1 g), some (.int .i64 (.a e)), some (.int .i64 (.a I))] ∧ hp = [] ∧ AtR l i I m ∧ k = ((l.drop i).any (foldEq t), e)
theorem any_at {l : List (List UInt8)} {p : List UInt8 → Bool} {i : Nat} (h : i < l.length) : (l.drop i).any p = (p (l.getD i []) || (l.drop (i + 1)).any p) := by
  rw [dropR (d := []) h, List.any_cons]
theorem refHas_ok : FnOk Tryz.prog gl 23 spHas := by
  refine fnOk (gh := []) mixed cxOk (tabCons refToken_ok (tabCons refElements_ok (tabCons refFold_ok tabNil))) Tryz.func23 (by kernel_rfl) (by kernel_rfl) ?_
  intro xs ls K h
  unfold spHas at h
  obtain ⟨v, t, rfl, rfl, hv, ht, h⟩ := h
  obtain ⟨k, hk⟩ : ∃ k, k = hasF v t := ⟨_, rfl⟩
  obtain ⟨kb, ke⟩ := k
  refine ⟨_, _, h kb ke hk, fun D hD => ?_⟩
  clear h
  rw [hasF] at hk
  cbv
  refine ⟨_, rfl, rfl, ht, fun q hq => ?_⟩
  have hq2 : q = refTokenF t := by subst hD; exact hq
  clear hq
  rw [← hq2] at hk
  cbv
  refine br hD (fun h => ?_) (fun h => ?_) <;> cbv
  · have h : (!q) = true := h
    rw [if_pos h] at hk
    exact finHas hD hk
  have h : (!q) = false := h
  rw [if_neg (by rw [h]; simp)] at hk
  clear h hq2
  have hel := refElementsF_len v
  have her := refElementsF_err (s := v)
  refine ⟨v, rfl, rfl, hv, fun l e n nb he hn hnb => ?_⟩
  rw [← he] at hk hel her
  simp only at hk hel her
  have RL : RowS (strRow l) n l := by rw [hn]; exact RowS.row (by omega)
  obtain ⟨g, hg⟩ : ∃ g, g = strRow l := ⟨_, rfl⟩
  rw [← hg] at RL ⊢
  clear hg hn hnb
  cbv
  obtain ⟨J, hJ⟩ : ∃ J, J = rhJ t (kb, ke) l e nb n g := ⟨_, rfl⟩
  refine ⟨[1, 6, 7, 8], J, ⟨rfl, l.length, ?_⟩, ?_⟩
  · rw [hJ]
    subst hD
    exact ⟨0, 0, rfl, rfl, AtR.zero (by omega), hk⟩
  clear hk
  intro m vs hp' hv'
  rw [hJ] at hv'
  unfold rhJ at hv'
  obtain ⟨i, I, rfl, rfl, V, hk⟩ := hv'
  cbv
  refine br hD (fun h => ?_) (fun h => ?_) <;> cbv
  · have hlt := V.lt RL.n (of_decide_eq_true (p := I < n) h)
    clear h
    refine ⟨V.inB hD RL.n hlt, fun j hj => ?_⟩
    obtain rfl := V.j hD hj
    clear hj
    have e1 := RL.f j hlt
    have he0 : e = 0 := her (fun h => by rw [h] at hlt; simp at hlt)
    rw [any_at hlt] at hk
    have hxl := hel.2 (l.getD j []) (by rw [List.getD_eq_getElem?_getD, List.getElem?_eq_getElem hlt]; exact List.getElem_mem hlt)
    obtain ⟨x, hx⟩ : ∃ x, x = l.getD j [] := ⟨_, rfl⟩
    rw [← hx] at e1 hxl hk
    cbv
    rw [e1]
    cbv
    refine ⟨x, rfl, rfl, by omega, fun a ha => ?_⟩
    cbv
    refine ⟨t, rfl, rfl, ht, fun b hb => ?_⟩
    have hfe : foldEq t x = (a == b) := by rw [foldEq, ha, hb]
    rw [hfe] at hk
    cbv
    refine br hD (fun h => ?_) (fun h => ?_) <;> cbv
    · have h : (a == b) = true := h
      rw [h] at hk
      exact finHas (x := .l true) (y := .l 0) hD (by rw [hk, he0]; rfl)
    · have h : (a == b) = false := h
      rw [h, Bool.false_or] at hk
      refine ⟨l.length - (j + 1), (V.step hD hlt).1, ?_⟩
      rw [hJ]
      subst hD
      exact ⟨j + 1, _, rfl, rfl, (V.step rfl hlt).2, hk⟩
  · have hi := V.eq RL.n (of_decide_eq_false (p := I < n) h)
    rw [hi, List.drop_length] at hk
    exact finHas (x := .l false) (y := .a e) hD hk
def spLawS2 : FSpec := fun _ xs ls K => ∃ (s t : List UInt8), xs = [.str s, .str t] ∧ ls = [] ∧ s.length ≤ 9223372036854775807 ∧ t.length ≤ 9223372036854775807 ∧ ∀ r : Bool, r = true → K (.bool (.a r)) []
theorem tokensElements_ok : FnOk Tryz.prog gl 4 spLawS2 := by
  refine fnOk (gh := []) mixed cxOk (tabCons elements_ok (tabCons refElements_ok (tabCons has_ok (tabCons refHas_ok (tabCons strings_ok (tabCons awake_ok tabNil)))))) Tryz.func4 (by kernel_rfl) (by kernel_rfl) ?_
  intro xs ls K h
  unfold spLawS2 at h
  obtain ⟨s, t, rfl, rfl, hl, ht, h⟩ := h
  refine ⟨_, _, h true rfl, fun D hD => ?_⟩
  clear h
  cbv
  refine br hD (fun h => ?_) (fun h => ?_) <;> cbv
  · intro r hr
    cbv
    exact finBool hD hr
  clear h
  have hel := refElementsF_len s
  refine ⟨s, rfl, rfl, hl, fun l e n nb he hn hnb => ?_⟩
  rw [← he] at hel
  simp only at hel
  have R1 : RowS (strRow l) n l := by rw [hn]; exact RowS.row (by omega)
  obtain ⟨g, hg⟩ : ∃ g, g = strRow l := ⟨_, rfl⟩
  rw [← hg] at R1 ⊢
  clear hg hn hnb
  cbv
  refine ⟨s, rfl, rfl, hl, fun l2 e2 n2 nb2 he2 hn2 hnb2 => ?_⟩
  obtain ⟨rfl, rfl⟩ : l2 = l ∧ e2 = e := by have := he2.trans he.symm; cases this; exact ⟨rfl, rfl⟩
  have R2 : RowS (strRow l2) n2 l2 := by rw [hn2]; exact RowS.row (by omega)
  obtain ⟨g2, hg2⟩ : ∃ g, g = strRow l2 := ⟨_, rfl⟩
  rw [← hg2] at R2 ⊢
  clear hg2 hn2 hnb2 he he2
  cbv
  refine ⟨s, t, rfl, rfl, hl, ht, fun b f hb => ?_⟩
  cbv
  refine ⟨s, t, rfl, rfl, hl, ht, fun c f2 hc => ?_⟩
  obtain ⟨rfl, rfl⟩ : c = b ∧ f2 = f := by have := hc.trans hb.symm; cases this; exact ⟨rfl, rfl⟩
  clear hb hc
  cbv
  refine ⟨l2, l2, _, _, _, _, _, _, rfl, rfl, by subst hD; exact R1, by subst hD; exact R2, fun r hr => ?_⟩
  have hr2 : r = true := by rw [hr]; simp
  clear hr
  cbv
  intro w hw
  cbv
  refine finBool hD ?_
  subst hr2
  have hw : w = true := hw
  simp only [BT.den, ST.den, cmpDen]
  simp [hw]
end Go.Proofs.YtfchfhjpldppjaaGreatDoor
namespace Go.Proofs.YtfchfhjpldppjaaGreatDoor
open Go.Sx
set_option maxRecDepth 10000
set_option maxHeartbeats 2000000
/-! Elements that are joined again. -/
def runS (p : Int → Bool) (y : Int) : List UInt8 → Nat → Option Nat
  | [], md => some md
  | c :: r, md =>
    if !p (c.toNat : Int) then none
    else if md = 0 then (if (c.toNat : Int) = 34 then runS p y r 1 else if (c.toNat : Int) = y then none else runS p y r 0)
    else if md = 1 then runS p y r (if (c.toNat : Int) = 34 then 0 else if (c.toNat : Int) = 92 then 2 else 1)
    else runS p y r 1
theorem partsM_app (p : Int → Bool) (y : Int) : ∀ (a b : List UInt8) (md m : Nat) (cur : List UInt8), runS p y a md = some m → partsM p y (a ++ b) md cur = partsM p y b m (cur ++ a)
  | [], b, md, m, cur, h => by
    simp only [runS, Option.some.injEq] at h
    rw [h]; simp
  | c :: a, b, md, m, cur, h => by
    simp only [runS] at h
    simp only [List.cons_append, partsM]
    split at h
    · cases h
    rename_i hp
    rw [if_neg hp]
    split at h
    · rename_i h0
      rw [if_pos h0]
      split at h
      · rename_i h34
        rw [if_pos h34, partsM_app p y a b 1 m _ h]; simp
      · rename_i h34
        rw [if_neg h34]
        split at h
        · cases h
        · rename_i hy
          rw [if_neg hy, partsM_app p y a b 0 m _ h]; simp
    · rename_i h0
      rw [if_neg h0]
      split at h
      · rename_i h1
        rw [if_pos h1]
        split at h
        · rename_i h34
          rw [if_pos h34, partsM_app p y a b 0 m _ h]; simp
        · rename_i h34
          rw [if_neg h34]
          split at h
          · rename_i h92
            rw [if_pos h92, partsM_app p y a b 2 m _ h]; simp
          · rename_i h92
            rw [if_neg h92, partsM_app p y a b 1 m _ h]; simp
      · rename_i h1
        rw [if_neg h1, partsM_app p y a b 1 m _ h]; simp
theorem partsM_runS (p : Int → Bool) (y : Int) : ∀ (r : List UInt8) (md : Nat) (cur : List UInt8) (l : List (List UInt8)), partsM p y r md cur = some l → ∃ r1 l', l = (cur ++ r1) :: l' ∧ runS p y r1 md = some 0 ∧ ∀ x ∈ l', runS p y x 0 = some 0
  | [], md, cur, l, h => by
    simp only [partsM] at h
    split at h
    · rename_i h0
      cases h
      exact ⟨[], [], by simp, by rw [runS, h0], by simp⟩
    · cases h
  | c :: r, md, cur, l, h => by
    simp only [partsM] at h
    split at h
    · cases h
    rename_i hp
    have push : ∀ md', partsM p y r md' (cur ++ [c]) = some l → (∀ r1, runS p y (c :: r1) md = runS p y r1 md') → ∃ r1 l', l = (cur ++ r1) :: l' ∧ runS p y r1 md = some 0 ∧ ∀ x ∈ l', runS p y x 0 = some 0 := by
      intro md' h hm
      obtain ⟨r1, l', e1, e2, e3⟩ := partsM_runS p y r md' _ l h
      exact ⟨c :: r1, l', by rw [e1]; simp, by rw [hm]; exact e2, e3⟩
    split at h
    · rename_i h0
      split at h
      · rename_i h34
        exact push 1 h fun r1 => by rw [runS, if_neg hp, if_pos h0, if_pos h34]
      · rename_i h34
        split at h
        · obtain ⟨l1, h1, rfl⟩ := Option.map_eq_some_iff.1 h
          obtain ⟨r1, l', e1, e2, e3⟩ := partsM_runS p y r 0 [] l1 h1
          refine ⟨[], l1, by simp, by rw [runS, h0], ?_⟩
          rw [e1]
          intro x hx
          rcases List.mem_cons.1 hx with rfl | hx
          · simpa using e2
          · exact e3 x hx
        · rename_i hy
          exact push 0 h fun r1 => by rw [runS, if_neg hp, if_pos h0, if_neg h34, if_neg hy]
    · rename_i h0
      split at h
      · rename_i h1
        split at h
        · rename_i h34
          exact push 0 h fun r1 => by rw [runS, if_neg hp, if_neg h0, if_pos h1, if_pos h34]
        · rename_i h34
          split at h
          · rename_i h92
            exact push 2 h fun r1 => by rw [runS, if_neg hp, if_neg h0, if_pos h1, if_neg h34, if_pos h92]
          · rename_i h92
            exact push 1 h fun r1 => by rw [runS, if_neg hp, if_neg h0, if_pos h1, if_neg h34, if_neg h92]
      · rename_i h1
        exact push 1 h fun r1 => by rw [runS, if_neg hp, if_neg h0, if_neg h1]
theorem runS_app (p : Int → Bool) (y : Int) : ∀ (a b : List UInt8) (md : Nat), runS p y (a ++ b) md = (runS p y a md).bind (runS p y b)
  | [], b, md => rfl
  | c :: a, b, md => by
    simp only [List.cons_append, runS]
    split
    · rfl
    split
    · split
      · exact runS_app p y a b _
      · split
        · rfl
        · exact runS_app p y a b _
    split
    · exact runS_app p y a b _
    · exact runS_app p y a b _
theorem blank_44 {c : UInt8} (h : blankB c = true) : (c.toNat : Int) ≠ 44 := by
  unfold blankB blankI at h
  simp only [Bool.or_eq_true, beq_iff_eq] at h
  rcases h with h | h <;> rw [h] <;> decide
theorem runS_trimL : ∀ (x : List UInt8), runS plainI 44 x 0 = some 0 → runS plainI 44 (trimL x) 0 = some 0
  | [], h => h
  | c :: r, h => by
    by_cases hb : blankB c = true
    · rw [trimL_cons hb]
      obtain ⟨h1, h2, h3⟩ := blank_facts hb
      rw [runS, h1] at h
      simp only [Bool.not_true, Bool.false_eq_true, if_false, if_true, if_neg h2, if_neg (blank_44 hb)] at h
      exact runS_trimL r h
    · rw [trimL, List.dropWhile_cons_of_neg hb]; exact h
theorem runS_blank {r : List UInt8} {c : UInt8} (hb : blankB c = true) (h : runS plainI 44 (r ++ [c]) 0 = some 0) : runS plainI 44 r 0 = some 0 := by
  obtain ⟨h1, h2, h3⟩ := blank_facts hb
  rw [runS_app] at h
  cases hr : runS plainI 44 r 0 with
  | none => rw [hr] at h; cases h
  | some m =>
    rw [hr] at h
    simp only [Option.bind_some, runS, h1, Bool.not_true, Bool.false_eq_true, if_false, if_neg h2, if_neg h3, if_neg (blank_44 hb)] at h
    split at h
    · rename_i h0; rw [h0]
    · split at h <;> simp at h
theorem runS_trimR : ∀ (n : Nat) (x : List UInt8), x.length ≤ n → runS plainI 44 x 0 = some 0 → runS plainI 44 (trimR x) 0 = some 0
  | n, [], _, h => h
  | 0, c :: r, hl, h => by simp at hl
  | n + 1, c :: r, hl, h => by
    obtain ⟨L, b, hx⟩ : ∃ L b, c :: r = L ++ [b] := by
      rcases List.eq_nil_or_concat (c :: r) with e | ⟨L, b, e⟩
      · cases e
      · exact ⟨L, b, by simpa using e⟩
    rw [hx] at h ⊢
    have hl2 : L.length ≤ n := by have := congrArg List.length hx; simp at this hl; omega
    by_cases hb : blankB b = true
    · rw [trimR_snoc hb]
      exact runS_trimR n L hl2 (runS_blank hb h)
    · rw [trimR, List.reverse_append, List.reverse_singleton, List.singleton_append, List.dropWhile_cons_of_neg hb]
      simpa using h
theorem dropW_idem {p : UInt8 → Bool} : ∀ (s : List UInt8), (s.dropWhile p).dropWhile p = s.dropWhile p
  | [] => rfl
  | c :: r => by
    by_cases h : p c = true
    · rw [List.dropWhile_cons_of_pos h]; exact dropW_idem r
    · rw [List.dropWhile_cons_of_neg h, List.dropWhile_cons_of_neg h]
theorem trimL_idem (s : List UInt8) : trimL (trimL s) = trimL s := dropW_idem s
theorem trimR_idem (s : List UInt8) : trimR (trimR s) = trimR s := by
  unfold trimR; rw [List.reverse_reverse, dropW_idem]
theorem trimF_idem (s : List UInt8) : trimF (trimF s) = trimF s := by
  unfold trimF
  rw [← trim_comm (trimL s), trimL_idem, trimR_idem]
/-- An element: it has no comma outside of quoted strings, and no blanks at its ends. -/
structure Elem (x : List UInt8) : Prop where
  run : runS plainI 44 x 0 = some 0
  trim : trimF x = x
  ne : x ≠ []
theorem elem_of {s x : List UInt8} (h : x ∈ (refElementsF s).1) : Elem x := by
  unfold refElementsF at h
  split at h
  · simp at h
  · cases hp : partsF 44 s with
    | none => rw [hp] at h; simp at h
    | some l =>
      rw [hp] at h
      have h : x ∈ keepF l := h
      unfold keepF at h
      obtain ⟨hm, hne⟩ := List.mem_filter.1 h
      obtain ⟨z, hz, rfl⟩ := List.mem_map.1 hm
      obtain ⟨r1, l', e1, e2, e3⟩ := partsM_runS _ _ _ _ _ _ hp
      have hz2 : runS plainI 44 z 0 = some 0 := by
        rw [e1] at hz
        rcases List.mem_cons.1 hz with rfl | hz
        · simpa using e2
        · exact e3 z hz
      refine ⟨runS_trimR _ _ (Nat.le_refl _) (runS_trimL _ hz2), trimF_idem z, fun e => ?_⟩
      rw [e] at hne; cases hne
/-- What is kept of the parts. -/
def Kp (cur s : List UInt8) : Option (List (List UInt8)) := (partsM plainI 44 s 0 cur).map keepF
def keep1 (cur : List UInt8) : List (List UInt8) := if neB (trimF cur) then [trimF cur] else []
theorem Kp_comma (cur s : List UInt8) : Kp cur (44 :: s) = (Kp [] s).map (keep1 cur ++ ·) := by
  unfold Kp
  have h1 : plainI (((44 : UInt8).toNat : Nat) : Int) = true := by decide
  rw [partsM, h1]
  have h2 : ¬ (((44 : UInt8).toNat : Nat) : Int) = 34 := by decide
  have h3 : (((44 : UInt8).toNat : Nat) : Int) = 44 := by decide
  simp only [Bool.not_true, Bool.false_eq_true, if_false, if_true, if_neg h2, if_pos h3]
  cases partsM plainI 44 s 0 [] with
  | none => rfl
  | some l =>
    simp only [Option.map_some, Option.some.injEq]
    unfold keepF keep1
    rw [List.map_cons, List.filter_cons]
    split <;> rfl
theorem Kp_blank {c : UInt8} (h : blankB c = true) (cur s : List UInt8) : Kp cur (c :: s) = Kp (cur ++ [c]) s := by
  unfold Kp
  obtain ⟨h1, h2, h3⟩ := blank_facts h
  rw [partsM, h1]
  simp only [Bool.not_true, Bool.false_eq_true, if_false, if_true, if_neg h2, if_neg (blank_44 h)]
theorem Kp_blanks : ∀ (w cur s : List UInt8), (∀ c ∈ w, blankB c = true) → Kp cur (w ++ s) = Kp (cur ++ w) s
  | [], cur, s, _ => by simp
  | c :: w, cur, s, h => by
    rw [List.cons_append, Kp_blank (h c (by simp)), Kp_blanks w _ s (fun d hd => h d (by simp [hd]))]
    simp
theorem partsM_pre (p : Int → Bool) (y : Int) : ∀ (r : List UInt8) (md : Nat) (cur x : List UInt8), partsM p y r md (x ++ cur) = (partsM p y r md cur).map fun l => match l with
    | [] => []
    | h :: t => (x ++ h) :: t
  | [], md, cur, x => by simp only [partsM]; split <;> rfl
  | c :: r, md, cur, x => by
    simp only [partsM]
    rw [List.append_assoc, partsM_pre p y r 1, partsM_pre p y r 0, partsM_pre p y r 2]
    split
    · rfl
    split
    · split
      · rfl
      · split
        · cases partsM p y r 0 [] <;> rfl
        · rfl
    · split
      · split
        · rfl
        · split <;> rfl
      · rfl
theorem trimF_pre : ∀ (w x : List UInt8), (∀ c ∈ w, blankB c = true) → trimF (w ++ x) = trimF x
  | [], x, _ => rfl
  | c :: w, x, h => by
    unfold trimF
    rw [List.cons_append, trimL_cons (h c (by simp))]
    exact trimF_pre w x fun d hd => h d (by simp [hd])
theorem trimR_post : ∀ (n : Nat) (w x : List UInt8), w.length ≤ n → (∀ c ∈ w, blankB c = true) → trimR (x ++ w) = trimR x
  | n, [], x, _, _ => by simp
  | 0, c :: w, x, hl, _ => by simp at hl
  | n + 1, c :: w, x, hl, h => by
    obtain ⟨L, b, hx⟩ : ∃ L b, c :: w = L ++ [b] := by
      rcases List.eq_nil_or_concat (c :: w) with e | ⟨L, b, e⟩
      · cases e
      · exact ⟨L, b, by simpa using e⟩
    have hb : blankB b = true := h b (by rw [hx]; simp)
    rw [hx, ← List.append_assoc, trimR_snoc hb]
    refine trimR_post n L x (by have := congrArg List.length hx; simp at this hl; omega) fun d hd => h d (by rw [hx]; simp [hd])
theorem trimF_post (w x : List UInt8) (h : ∀ c ∈ w, blankB c = true) : trimF (x ++ w) = trimF x := by
  unfold trimF
  rw [trim_comm, trim_comm, trimR_post _ w x (Nat.le_refl _) h]
theorem Kp_pre {w : List UInt8} (h : ∀ c ∈ w, blankB c = true) (s : List UInt8) : Kp w s = Kp [] s := by
  unfold Kp
  have := partsM_pre plainI 44 s 0 [] w
  rw [List.append_nil] at this
  rw [this]
  cases partsM plainI 44 s 0 [] with
  | none => rfl
  | some l =>
    simp only [Option.map_some, Option.some.injEq]
    cases l with
    | nil => rfl
    | cons a t =>
      unfold keepF
      simp only [List.map_cons, trimF_pre w a h]
theorem keep1_nil : keep1 [] = [] := rfl
/-- Commas and blanks alone. -/
def bcB (c : UInt8) : Bool := blankB c || c == 44
theorem Kp_bc : ∀ (w s : List UInt8), (∀ c ∈ w, bcB c = true) → Kp [] (w ++ s) = Kp [] s
  | [], s, _ => rfl
  | c :: w, s, h => by
    have hc := h c (by simp)
    have ih := Kp_bc w s fun d hd => h d (by simp [hd])
    unfold bcB at hc
    rw [Bool.or_eq_true, beq_iff_eq] at hc
    rcases hc with hc | rfl
    · rw [List.cons_append, Kp_blank hc, List.nil_append, Kp_pre (by simpa using hc), ih]
    · rw [List.cons_append, Kp_comma, keep1_nil, ih]
      cases Kp [] s <;> simp
/-- What stands between elements: blanks, a comma, commas and blanks. -/
structure Sep (w : List UInt8) : Prop where
  h : ∃ a b, w = a ++ 44 :: b ∧ (∀ c ∈ a, blankB c = true) ∧ ∀ c ∈ b, bcB c = true
theorem Kp_sep {w : List UInt8} (h : Sep w) {x : List UInt8} (hx : trimF x = x) (hne : x ≠ []) (s : List UInt8) : Kp x (w ++ s) = (Kp [] s).map (x :: ·) := by
  obtain ⟨a, b, rfl, ha, hb⟩ := h.h
  rw [List.append_assoc, Kp_blanks a x _ ha, List.cons_append, Kp_comma, Kp_bc b s hb]
  have : keep1 (x ++ a) = [x] := by
    rw [keep1, trimF_post a x ha, hx]
    have : neB x = true := by
      unfold neB
      cases x with
      | nil => exact absurd rfl hne
      | cons c r => rfl
    rw [this]; rfl
  rw [this]; rfl
theorem Kp_elem {x : List UInt8} (h : Elem x) {w : List UInt8} (hw : Sep w) (s : List UInt8) : Kp [] (x ++ w ++ s) = (Kp [] s).map (x :: ·) := by
  have : Kp [] (x ++ w ++ s) = Kp x (w ++ s) := by
    unfold Kp
    rw [List.append_assoc, partsM_app plainI 44 x (w ++ s) 0 0 [] h.run]; rfl
  rw [this, Kp_sep hw h.trim h.ne]
/-- The elements, each with what comes behind it. -/
def jn (f : Nat → List UInt8) : List (List UInt8) → Nat → List UInt8
  | [], _ => []
  | e :: r, i => e ++ f i ++ jn f r (i + 1)
theorem Kp_jn {f : Nat → List UInt8} (hf : ∀ i, Sep (f i)) : ∀ (l : List (List UInt8)) (i : Nat), (∀ x ∈ l, Elem x) → Kp [] (jn f l i) = some l
  | [], i, _ => by simp [jn, Kp, partsM, keepF, neB, trimF, trimR, trimL]
  | e :: r, i, h => by
    rw [jn, Kp_elem (h e (by simp)) (hf i), Kp_jn hf r (i + 1) fun x hx => h x (by simp [hx])]; rfl
theorem elements_joined {f : Nat → List UInt8} (hf : ∀ i, Sep (f i)) {w : List UInt8} (hw : ∀ c ∈ w, bcB c = true) {l : List (List UInt8)} (h : ∀ x ∈ l, Elem x) (hl : (w ++ jn f l 0).length ≤ 2000) : refElementsF (w ++ jn f l 0) = (l, 0) := by
  have h1 : Kp [] (w ++ jn f l 0) = some l := by rw [Kp_bc w _ hw, Kp_jn hf l 0 h]
  unfold refElementsF
  rw [if_neg (by omega)]
  unfold Kp at h1
  obtain ⟨p, hp, hk⟩ := Option.map_eq_some_iff.1 h1
  have hp2 : partsF 44 (w ++ jn f l 0) = some p := hp
  rw [hp2]
  simp only [hk]
/-- How many there are, and how long together. -/
def sumL : List (List UInt8) → Nat
  | [] => 0
  | x :: r => x.length + sumL r
theorem partsM_sum (p : Int → Bool) (y : Int) : ∀ (r : List UInt8) (md : Nat) (cur : List UInt8) (l : List (List UInt8)), partsM p y r md cur = some l → sumL l + l.length = cur.length + r.length + 1
  | [], md, cur, l, h => by
    simp only [partsM] at h
    split at h
    · cases h; simp [sumL]
    · cases h
  | c :: r, md, cur, l, h => by
    have push : ∀ md', partsM p y r md' (cur ++ [c]) = some l → sumL l + l.length = cur.length + (c :: r).length + 1 := by
      intro md' h
      have := partsM_sum p y r md' _ l h
      simp at this ⊢; omega
    simp only [partsM] at h
    split at h
    · cases h
    split at h
    · split at h
      · exact push _ h
      · split at h
        · obtain ⟨l', h', rfl⟩ := Option.map_eq_some_iff.1 h
          have := partsM_sum p y r 0 [] l' h'
          simp [sumL] at this ⊢; omega
        · exact push _ h
    · split at h
      · split at h
        · exact push _ h
        · split at h
          · exact push _ h
          · exact push _ h
      · exact push _ h
theorem keepF_sum : ∀ (l : List (List UInt8)), sumL (keepF l) ≤ sumL l ∧ (keepF l).length ≤ l.length ∧ (keepF l).length ≤ sumL (keepF l)
  | [] => by simp [keepF, sumL]
  | x :: r => by
    obtain ⟨h1, h2, h3⟩ := keepF_sum r
    have hx := trimF_len x
    unfold keepF at h1 h2 h3 ⊢
    rw [List.map_cons, List.filter_cons]
    split
    · rename_i hne
      have : 1 ≤ (trimF x).length := by
        cases ht : trimF x with
        | nil => rw [ht] at hne; cases hne
        | cons a b => simp
      simp only [sumL, List.length_cons]
      omega
    · simp only [sumL, List.length_cons]
      omega
theorem elements_sum (s : List UInt8) : sumL (refElementsF s).1 ≤ s.length ∧ 2 * (refElementsF s).1.length ≤ s.length + 1 ∧ sumL (refElementsF s).1 + (refElementsF s).1.length ≤ s.length + 1 := by
  unfold refElementsF
  split
  · simp [sumL]
  · cases hp : partsF 44 s with
    | none => simp [sumL]
    | some l =>
      have h1 := partsM_sum _ _ _ _ _ _ hp
      obtain ⟨h2, h3, h4⟩ := keepF_sum l
      simp only [List.length_nil] at h1
      have hl : 0 < l.length := (partsF_len hp).2.1
      show sumL (keepF l) ≤ _ ∧ 2 * (keepF l).length ≤ _ ∧ sumL (keepF l) + (keepF l).length ≤ _
      omega
end Go.Proofs.YtfchfhjpldppjaaGreatDoor
namespace Go.Proofs.YtfchfhjpldppjaaGreatDoor
open Go.Sx
set_option maxRecDepth 10000
set_option maxHeartbeats 4000000
/-! between; the law TokensJoined. -/
def seps : List (List UInt8) := [[44], [44, 32], [32, 44], [9, 44, 9], [44, 44], [32, 44, 32, 44, 32], [44, 9, 44], [44, 32, 32]]
def btw (n : Int) : List UInt8 := seps.getD (n.toNat % 8) []
theorem remU8 {n : Int} (h : 0 ≤ n ∧ n ≤ 255) : ST.den (.bin .rem .u8 (.a n) (.l 8)) = ((n.toNat % 8 : Nat) : Int) := by
  show Int.tmod n 8 = _
  rw [Int.tmod_eq_emod_of_nonneg h.1]
  omega
def spBtw : FSpec := fun _ xs ls K => ∃ (n : Int), xs = [.int .u8 (.a n)] ∧ ls = [] ∧ (0 ≤ n ∧ n ≤ 255) ∧ ∀ r, r = btw n → K (.str r) []
theorem between_ok : FnOk Tryz.prog gl 31 spBtw := by
  refine fnOk (gh := []) mixed cxOk tabNil Tryz.func31 (by kernel_rfl) (by kernel_rfl) ?_
  intro xs ls K h
  unfold spBtw at h
  obtain ⟨n, rfl, rfl, hn, h⟩ := h
  obtain ⟨k, hk⟩ : ∃ k, k = btw n := ⟨_, rfl⟩
  refine ⟨_, _, h k hk, fun D hD => ?_⟩
  clear h
  cbv
  refine ⟨⟨by subst hD; show (8 : Int) ≠ 0; omega⟩, by subst hD; exact ⟨by show 0 ≤ ST.den _; rw [remU8 hn]; omega, by show ST.den _ < (8 : Int); rw [remU8 hn]; omega⟩, ?_⟩
  have at_ : ∀ {j : Nat}, IsJ j (D.i (.bin .rem .u8 (.a n) (.l 8))) → n.toNat % 8 = j := by
    intro j hj
    subst hD
    have h1 : (j : Int) = ST.den (.bin .rem .u8 (.a n) (.l 8)) := hj.h
    rw [remU8 hn] at h1
    omega
  refine ⟨fun hj => ?_, fun hj => ?_, fun hj => ?_, fun hj => ?_, fun hj => ?_, fun hj => ?_, fun hj => ?_, fun hj => ?_, trivial⟩
  all_goals
    have h8 := at_ hj
    cbv
    exact finStr (by rw [hk, btw, h8]; rfl)
theorem btw_sep (n : Int) : Sep (btw n) ∧ (∀ c ∈ btw n, bcB c = true) ∧ (btw n).length ≤ 5 := by
  have key : ∀ j, j < 8 → Sep (seps.getD j []) ∧ (∀ c ∈ seps.getD j [], bcB c = true) ∧ (seps.getD j []).length ≤ 5 := by
    intro j hj
    match j, hj with
    | 0, _ => exact ⟨⟨[], [], rfl, by decide, by decide⟩, by decide, by decide⟩
    | 1, _ => exact ⟨⟨[], [32], rfl, by decide, by decide⟩, by decide, by decide⟩
    | 2, _ => exact ⟨⟨[32], [], rfl, by decide, by decide⟩, by decide, by decide⟩
    | 3, _ => exact ⟨⟨[9], [9], rfl, by decide, by decide⟩, by decide, by decide⟩
    | 4, _ => exact ⟨⟨[], [44], rfl, by decide, by decide⟩, by decide, by decide⟩
    | 5, _ => exact ⟨⟨[32], [32, 44, 32], rfl, by decide, by decide⟩, by decide, by decide⟩
    | 6, _ => exact ⟨⟨[], [9, 44], rfl, by decide, by decide⟩, by decide, by decide⟩
    | 7, _ => exact ⟨⟨[], [32, 32], rfl, by decide, by decide⟩, by decide, by decide⟩
    | j + 8, hj => omega
  exact key _ (Nat.mod_lt _ (by decide))
theorem jn_len {f : Nat → List UInt8} (hf : ∀ i, (f i).length ≤ 5) : ∀ (l : List (List UInt8)) (i : Nat), (jn f l i).length ≤ sumL l + 5 * l.length
  | [], i => by simp [jn]
  | e :: r, i => by
    have := hf i
    have := jn_len hf r (i + 1)
    simp [jn, sumL]; omega
structure RowN (f : Nat → List SV) (n : Int) (a : List Int) : Prop where
  n : n = a.length
  f : ∀ i, i < a.length → f i = [.int .u8 (.a (a.getD i 0))]
  len : a.length ≤ 9223372036854775807
  fit : ∀ c ∈ a, 0 ≤ c ∧ c ≤ 255
def sepOf (bl : List Int) (i : Nat) : List UInt8 := btw (bl.getD (i % bl.length) 0)
structure JoI (l : List (List UInt8)) (v t : List UInt8) (i : Nat) (I N : Int) (m : Nat) : Prop where
  at_ : AtR l i I m
  N : N = (sumL (l.take i) : Int)
  tl : t.length ≤ sumL (l.take i) + 5 * i
  vl : v.length ≤ 600
  sv : sumL l + l.length ≤ v.length + 1
theorem sumL_app (a b : List (List UInt8)) : sumL (a ++ b) = sumL a + sumL b := by
  induction a with
  | nil => simp [sumL]
  | cons x r ih => simp [sumL, ih]; omega
theorem sumL_take {l : List (List UInt8)} {i : Nat} (h : i < l.length) : sumL (l.take (i + 1)) = sumL (l.take i) + (l.getD i []).length ∧ sumL (l.take (i + 1)) ≤ sumL l := by
  have e : l.take (i + 1) = l.take i ++ [l.getD i []] := by
    rw [List.take_add_one, List.getElem?_eq_getElem h, List.getD_eq_getElem?_getD, List.getElem?_eq_getElem h]; rfl
  refine ⟨by rw [e, sumL_app]; simp [sumL], ?_⟩
  have h2 : sumL l = sumL (l.take (i + 1)) + sumL (l.drop (i + 1)) := by rw [← sumL_app, List.take_append_drop]
  omega
def joJ (v : List UInt8) (l : List (List UInt8)) (bl : List Int) (bb lb : Bool) (bn ln : Int) (bf lf : Nat → List SV) (T : List UInt8) (m : Nat) (vs : List (Option SV)) (hp : List Hl) : Prop :=
  ∃ (i : Nat) (I N : Int) (t : List UInt8), vs = [some (.str v), some (.sl (.a bb) (.a bn) 1 bf), some (.sl (.a lb) (.a ln) 1 lf), some (.str t), some (.int .i64 (.a N)), some (.int .i64 (.a I))] ∧ hp = [] ∧
    JoI l v t i I N m ∧ T = t ++ jn (sepOf bl) (l.drop i) i
def spLawJ : FSpec := fun _ xs ls K => ∃ (v : List UInt8) (bl : List Int) (bb : Bool) (bn : Int) (bf : Nat → List SV), xs = [.str v, .sl (.a bb) (.a bn) 1 bf] ∧ ls = [] ∧ v.length ≤ 9223372036854775807 ∧ RowN bf bn bl ∧ ∀ r : Bool, r = true → K (.bool (.a r)) []
structure JoN (x : ST) (n : Nat) : Prop where
  h : x.den = (n : Int)
structure JoR (bn I : Int) (q len : Nat) : Prop where
  h : dn.i (.bin .rem .i64 (.a I) (.a bn)) = (q : Int)
  n : bn = len
  lt : q < len
theorem JoR.inB {D : Dn} (hD : D = dn) {bn I : Int} {q len : Nat} (V : JoR bn I q len) : Sx.InB (D.i (.bin .rem .i64 (.a I) (.a bn))) (D.i (.a bn)) := by
  subst hD
  have h1 := V.n; have h2 := V.lt
  exact ⟨by rw [V.h]; omega, by rw [V.h]; show _ < bn; omega⟩
theorem JoR.j {D : Dn} (hD : D = dn) {bn I : Int} {q len j : Nat} (V : JoR bn I q len) (h : IsJ j (D.i (.bin .rem .i64 (.a I) (.a bn)))) : j = q := by
  subst hD
  have h1 := h.h
  rw [V.h] at h1; omega
theorem tokensJoined_ok : FnOk Tryz.prog gl 6 spLawJ := by
  refine fnOk (gh := []) mixed cxOk (tabCons elements_ok (tabCons between_ok (tabCons strings_ok (tabCons awake_ok tabNil)))) Tryz.func6 (by kernel_rfl) (by kernel_rfl) ?_
  intro xs ls K h
  unfold spLawJ at h
  obtain ⟨v, bl, bb, bn, bf, rfl, rfl, hl, RB, h⟩ := h
  refine ⟨_, _, h true rfl, fun D hD => ?_⟩
  clear h
  cbv
  refine br hD (fun h => ?_) (fun h => ?_) <;> cbv
  · intro r hr
    cbv
    exact finBool hD hr
  have h : (decide (600 < (v.length : Int)) || bn == 0) = false := h
  simp only [Bool.or_eq_false_iff, decide_eq_false_iff_not, beq_eq_false_iff_ne, ne_eq] at h
  obtain ⟨hv, hb0⟩ := h
  have hv : v.length ≤ 600 := by omega
  have hbl : 0 < bl.length := by have := RB.n; omega
  clear hb0
  have hel := refElementsF_len v
  have her := refElementsF_err (s := v)
  have hem := fun x (h : x ∈ (refElementsF v).1) => elem_of h
  have hes := elements_sum v
  refine ⟨v, rfl, rfl, hl, fun l e n nb he hn hnb => ?_⟩
  rw [← he] at hel her hem hes
  simp only at hel her hem hes
  have RL : RowS (strRow l) n l := by rw [hn]; exact RowS.row (by omega)
  have RT : ∀ j, strRow l j = [.str (l.getD j [])] := fun _ => rfl
  obtain ⟨g, hg⟩ : ∃ g, g = strRow l := ⟨_, rfl⟩
  rw [← hg] at RL RT ⊢
  clear hg hnb hn
  cbv
  refine br hD (fun h => ?_) (fun h => ?_) <;> cbv
  · have h : (e != 0) = true := h
    have hl0 : l = [] := by
      cases l with
      | nil => rfl
      | cons a b => exact absurd (her (by simp)) (by simpa using h)
    have hn0 : n = 0 := by rw [RL.n, hl0]; rfl
    intro r hr
    have hr : r = true := hr
    cbv
    refine finBool hD ?_
    subst hn0 hr
    rfl
  have he0 : e = 0 := by have h : (e != 0) = false := h; simpa using h
  clear h her
  refine br hD (fun h => ?_) (fun h => ?_) <;> cbv
  · have h := of_decide_eq_true (p := 300 < n) h
    have := RL.n; omega
  clear h
  obtain ⟨T, hT⟩ : ∃ T, T = jn (sepOf bl) l 0 := ⟨_, rfl⟩
  obtain ⟨J, hJ⟩ : ∃ J, J = joJ v l bl bb nb bn n bf g T := ⟨_, rfl⟩
  refine ⟨[0, 1, 5, 7, 8, 9], J, ⟨rfl, l.length, ?_⟩, ?_⟩
  · rw [hJ]
    subst hD
    exact ⟨0, 0, 0, [], rfl, rfl, ⟨AtR.zero (by omega), by simp [sumL], by simp, hv, hes.2.2⟩, by rw [hT]; rfl⟩
  intro m vs hp' hv'
  rw [hJ] at hv'
  unfold joJ at hv'
  obtain ⟨i, I, N, t, rfl, rfl, V, hk⟩ := hv'
  cbv
  refine br hD (fun h => ?_) (fun h => ?_) <;> cbv
  · have hlt := V.at_.lt RL.n (of_decide_eq_true (p := I < n) h)
    clear h
    have hst := sumL_take hlt
    have hem1 := hem (l.getD i []) (by rw [List.getD_eq_getElem?_getD, List.getElem?_eq_getElem hlt]; exact List.getElem_mem hlt)
    rw [dropR (d := []) hlt, jn] at hk
    have e1 := RT i
    obtain ⟨x, hx⟩ : ∃ x, x = l.getD i [] := ⟨_, rfl⟩
    rw [← hx] at e1 hk hst hem1
    refine ⟨V.at_.inB hD RL.n hlt, fun j hj => ?_⟩
    have hji := V.at_.j hD hj
    clear hj
    have e2 : g j = [.str x] := by rw [hji]; exact e1
    cbv
    rw [e2]
    cbv
    have hN2 : ST.den (.bin .add .i64 (.a N) (.len x)) = (sumL (l.take (i + 1)) : Int) := by
      have h1 := V.N; have h2 := V.vl; have h3 := V.sv
      show IntKind.i64.wrap (N + (x.length : Int)) = _
      rw [hst.1, h1, wrap64 (by omega) (by omega)]; omega
    have hN3 : JoN (.bin .add .i64 (.a N) (.len x)) (sumL (l.take (i + 1))) := ⟨hN2⟩
    clear hN2
    refine ⟨fun _ => V.at_.inB hD RL.n hlt, fun j2 hj2 => ?_⟩
    have e3 := RT j2
    obtain ⟨y, hy⟩ : ∃ y, y = l.getD j2 [] := ⟨_, rfl⟩
    rw [← hy] at e3
    cbv
    rw [e3]
    cbv
    have hxl : x.length ≤ 600 := by have := V.vl; have := V.sv; omega
    have hx0 : x.length ≠ 0 := fun h => hem1.ne (List.eq_nil_of_length_eq_zero h)
    refine br hD (fun h => ?_) (fun h => ?_) <;> cbv
    · have h : (decide ((v.length : Int) < ST.den (.bin .add .i64 (.a N) (.len x))) || (y.length : Int) == 0) = true := h
      have h1 : ¬ ((v.length : Int) < ST.den (.bin .add .i64 (.a N) (.len x))) := by
        rw [hN3.h]; have := V.sv; omega
      have hyx : y = x := by
        have := V.at_.j hD (hj2 (by subst hD; show (!decide ((v.length : Int) < ST.den (.bin .add .i64 (.a N) (.len x)))) = true; rw [decide_eq_false h1]; rfl))
        rw [hy, this, hx]
      rw [decide_eq_false h1, Bool.false_or, hyx, beq_iff_eq] at h
      omega
    clear h hj2 e3 hy
    refine ⟨V.at_.inB hD RL.n hlt, fun j3 hj3 => ?_⟩
    have e4 : g j3 = [.str x] := by rw [V.at_.j hD hj3]; exact e1
    clear hj3
    cbv
    rw [e4]
    cbv
    have htl := V.tl
    have hil : i ≤ 300 := by have := V.sv; have := V.vl; omega
    refine ⟨⟨by have := V.sv; have := V.vl; omega⟩, fun u hu => ?_⟩
    have hu1 : u = t ++ x := hu.h
    clear hu
    cbv
    have hrem : dn.i (.bin .rem .i64 (.a I) (.a bn)) = ((i % bl.length : Nat) : Int) := by
      have h1 := V.at_.I; have h2 := RB.n
      show Int.tmod I bn = _
      rw [h1, h2, Int.tmod_eq_emod_of_nonneg (by omega)]; rfl
    have hml : i % bl.length < bl.length := Nat.mod_lt _ hbl
    have hR : JoR bn I (i % bl.length) bl.length := ⟨hrem, RB.n, hml⟩
    clear hrem hml
    refine ⟨⟨by have := RB.n; subst hD; show bn ≠ 0; omega⟩, hR.inB hD, fun j4 hj4 => ?_⟩
    have h4 : j4 = i % bl.length := hR.j hD hj4
    have hb4 : j4 < bl.length := by rw [h4]; exact hR.lt
    have e5 := RB.f j4 hb4
    have hfit := RB.fit (bl.getD j4 0) (by rw [List.getD_eq_getElem?_getD, List.getElem?_eq_getElem hb4]; exact List.getElem_mem hb4)
    obtain ⟨c, hc⟩ : ∃ c, c = bl.getD j4 0 := ⟨_, rfl⟩
    rw [← hc] at e5 hfit
    cbv
    rw [e5]
    cbv
    refine ⟨_, rfl, rfl, by subst hD; exact hfit, fun w hw => ?_⟩
    have hw1 : w = sepOf bl i := by subst hD; rw [hw, sepOf, ← h4, ← hc]; rfl
    have hw5 : w.length ≤ 5 := by rw [hw1, sepOf]; exact (btw_sep _).2.2
    clear hw
    cbv
    refine ⟨⟨by have := V.sv; have := V.vl; rw [hu1, List.length_append]; omega⟩, fun z hz => ?_⟩
    have hz1 : z = t ++ x ++ w := by rw [hz.h, hu1]
    clear hz
    cbv
    refine ⟨l.length - (i + 1), (V.at_.step hD hlt).1, ?_⟩
    rw [hJ]
    subst hD
    exact ⟨i + 1, _, _, z, rfl, rfl, ⟨(V.at_.step rfl hlt).2, hN3.h, by rw [hz1, hst.1]; simp; omega, V.vl, V.sv⟩, by rw [hk, hz1, hw1]; simp⟩
  · have hi := V.at_.eq RL.n (of_decide_eq_false (p := I < n) h)
    clear h
    rw [hi, List.drop_length, jn, List.append_nil] at hk
    have htl := V.tl
    rw [hi, List.take_length] at htl
    have ht18 : t.length ≤ 1810 := by have := V.sv; have := V.vl; omega
    cbv
    refine br hD (fun h => ?_) (fun h => ?_) <;> cbv
    · intro r hr
      cbv
      exact finBool hD hr
    clear h
    refine ⟨by subst hD; exact ⟨by show (0 : Int) ≤ 0; omega, by have := RB.n; show (0 : Int) < bn; omega⟩, fun j4 hj4 => ?_⟩
    have h4 : j4 = 0 := by subst hD; have : (j4 : Int) = 0 := hj4.h; omega
    have e5 := RB.f j4 (by omega)
    have hfit := RB.fit (bl.getD j4 0) (by rw [List.getD_eq_getElem?_getD, List.getElem?_eq_getElem (by omega)]; exact List.getElem_mem _)
    obtain ⟨c, hc⟩ : ∃ c, c = bl.getD j4 0 := ⟨_, rfl⟩
    rw [← hc] at e5 hfit
    cbv
    rw [e5]
    cbv
    refine ⟨_, rfl, rfl, by subst hD; exact hfit, fun w hw => ?_⟩
    obtain ⟨s1, s2, s3⟩ := btw_sep c
    have hw1 : w = btw c := by subst hD; exact hw
    rw [← hw1] at s2 s3
    clear hw
    cbv
    refine ⟨⟨by omega⟩, fun z hz => ?_⟩
    have hz1 : z = w ++ t := hz.h
    have hzl : z.length ≤ 2000 := by rw [hz1, List.length_append]; omega
    have hE : refElementsF z = (l, 0) := by
      rw [hz1, ← hk, hT]
      refine elements_joined (f := sepOf bl) (fun i => (btw_sep _).1) s2 hem ?_
      rw [← hT, hk, ← hz1]; exact hzl
    clear hz
    cbv
    refine ⟨z, rfl, rfl, by omega, fun l2 e2 n2 nb2 he2 hn2 hnb2 => ?_⟩
    rw [hE] at he2
    obtain ⟨rfl, rfl⟩ : l2 = l ∧ e2 = 0 := by cases he2; exact ⟨rfl, rfl⟩
    have R2 : RowS (strRow l2) n2 l2 := by rw [hn2]; exact RowS.row (by omega)
    obtain ⟨g2, hg2⟩ : ∃ g, g = strRow l2 := ⟨_, rfl⟩
    rw [← hg2] at R2 ⊢
    clear hg2 hn2 hnb2 he2 hE
    cbv
    refine ⟨l2, l2, _, _, _, _, _, _, rfl, rfl, by subst hD; exact RL, by subst hD; exact R2, fun r hr => ?_⟩
    have hr2 : r = true := by rw [hr]; simp
    clear hr
    cbv
    intro q hq
    cbv
    refine finBool hD ?_
    subst hr2
    have hq : q = true := hq
    simp [BT.den, ST.den, cmpDen, hq]
end Go.Proofs.YtfchfhjpldppjaaGreatDoor
/- Slices with the bound of their length. -/
namespace Go.Sx
open Go Go.ChangeShapes Go.WideShapes Go.RowKit
section
variable {P : Program}
theorem OpenT.sliceL {t e : TypeId} {α : Type} {sz : Nat} {enc : α → List SV} (ht : P.underlying t = some (.slice e)) (hz : P.cellsOf e = sz) (h0 : 0 < sz) (he : OpenT P e enc) : OpenT P t (fun x : {x : Bool × List α // x.2.length ≤ maxLen} => slC sz enc x.1) := by
  intro H tok W spare held fuel cs x h
  rcases DataW.trod_slice ht h with ⟨rfl, _⟩ | ⟨a, len, cap, elems, rest, n, _, rfl, _, _, hle, hcap, hlen, hel, _, _⟩
  · exact ⟨⟨(true, []), Nat.zero_le _⟩, .one (.slnil rfl rfl) rfl⟩
  · rw [hz] at hel
    have key : ∀ i, i < len → ∃ (al : α) (vs : List Value), ROL (oldI W) W (enc al) vs ∧ vs.length = sz ∧ ∀ j, j < sz → W.cell? ((a.add (i * sz)).add j) = vs[j]? := by
      intro i hi
      have h1 := hel i hi
      rw [List.getElem?_eq_getElem (by omega)] at h1
      cases hc : W.cells? 0 (a.add (i * sz)) sz with
      | none => rw [hc] at h1; cases h1
      | some vs =>
        rw [hc] at h1
        obtain ⟨al, hal⟩ := he H tok W _ _ _ vs _ h1
        have hg := cells_get hc
        exact ⟨al, vs, hal, hg.1, hg.2⟩
    have gen : ∀ len : Nat, (∀ i, i < len → ∃ (al : α) (vs : List Value), ROL (oldI W) W (enc al) vs ∧ vs.length = sz ∧ ∀ j, j < sz → W.cell? ((a.add (i * sz)).add j) = vs[j]?) → ∃ (l : List α) (g : Nat → Nat → Value), l.length = len ∧ ∀ i al, l[i]? = some al → (enc al).length = sz ∧ (∀ j, j < sz → W.cell? ((a.add (i * sz)).add j) = some (g i j) ∧ (g i j).oneCell' = true) ∧ ∀ j s, (enc al)[j]? = some s → RO (oldI W) W s (g i j) := by
      clear key hel hlen hcap hle h
      intro len key
      induction len with
      | zero => exact ⟨[], fun _ _ => undef, rfl, by simp⟩
      | succ len ih =>
        obtain ⟨l, g, hl, hg⟩ := ih (fun i hi => key i (by omega))
        obtain ⟨al, vs, k1, k2, k3⟩ := key len (by omega)
        refine ⟨l ++ [al], fun i j => if i = len then vs.getD j undef else g i j, by simp [hl], fun i al' hi => ?_⟩
        rw [List.getElem?_append] at hi
        split at hi
        · rename_i hlt
          have hne : i ≠ len := by omega
          obtain ⟨g1, g2, g3⟩ := hg i al' hi
          exact ⟨g1, fun j hj => by simpa only [if_neg hne] using g2 j hj, fun j s hs => by simpa only [if_neg hne] using g3 j s hs⟩
        · rename_i hlt
          have hil : i = len := by
            have := (List.getElem?_eq_some_iff.1 hi).1
            simp at this; omega
          subst hil
          have h00 : i - l.length = 0 := by omega
          rw [h00] at hi
          simp at hi
          subst hi
          refine ⟨by rw [k1.1, k2], fun j hj => ?_, fun j s hs => ?_⟩
          · simp only [if_pos]
            have hjv : vs[j]? = some vs[j] := List.getElem?_eq_getElem (by omega)
            rw [k3 j hj, hjv]
            simp only [List.getD_eq_getElem?_getD, hjv, Option.getD_some, true_and]
            exact k1.2.2 _ (List.getElem_mem _)
          · simp only [if_pos]
            have hjl : j < vs.length := by rw [← k1.1]; exact (List.getElem?_eq_some_iff.1 hs).1
            have hjv : vs[j]? = some vs[j] := List.getElem?_eq_getElem hjl
            simp only [List.getD_eq_getElem?_getD, hjv, Option.getD_some]
            exact k1.2.1 j s _ hs hjv
    obtain ⟨l, g, hl, hg⟩ := gen len key
    have hspot : 0 < len → a.spot = none := fun hpos => by
      obtain ⟨al, hal⟩ : ∃ al, l[0]? = some al := ⟨_, List.getElem?_eq_getElem (by omega)⟩
      obtain ⟨_, g2, _⟩ := hg 0 al hal
      have := (g2 0 h0).1
      obtain ⟨b, o, sp⟩ := a
      simp only [Nat.zero_mul, Addr.add, if_pos] at this
      exact (cell_lt this).2
    refine ⟨⟨(false, l), by simp only [hl]; omega⟩, .one (.sl g rfl (by simp [ST.den, hl]) hle hcap hspot (fun i hi => ?_) (fun i j hi hj => ?_) (fun i j hi hj => ?_) (fun i j s hi hs => ?_)) rfl⟩
    · obtain ⟨al, hal⟩ : ∃ al, l[i]? = some al := ⟨_, List.getElem?_eq_getElem (by omega)⟩
      simp only [rowOfL, hal]
      exact (hg i al hal).1
    · obtain ⟨al, hal⟩ : ∃ al, l[i]? = some al := ⟨_, List.getElem?_eq_getElem (by omega)⟩
      exact ((hg i al hal).2.1 j hj).2
    · obtain ⟨al, hal⟩ : ∃ al, l[i]? = some al := ⟨_, List.getElem?_eq_getElem (by omega)⟩
      have hc := ((hg i al hal).2.1 j hj).1
      have e : (a.add (i * sz)).add j = ⟨a.block, a.off + (i * sz + j), none⟩ := by
        have hs := hspot (by omega)
        obtain ⟨b, o, sp⟩ := a
        simp only at hs
        subst hs
        simp only [add_lit]
        congr 1
        omega
      rw [e] at hc
      exact ⟨hc, (cell_lt hc).1⟩
    · obtain ⟨al, hal⟩ : ∃ al, l[i]? = some al := ⟨_, List.getElem?_eq_getElem (by omega)⟩
      simp only [rowOfL, hal] at hs
      exact (hg i al hal).2.2 j s hs

end
end Go.Sx
namespace Go.Proofs.YtfchfhjpldppjaaGreatDoor
open Go Go.Sx Go.ChangeShapes Go.WideShapes Go.RowKit
set_option maxRecDepth 100000
/-! An argument of bytes. -/
abbrev U8 := {n : Int // (Lit.int .u8 n).wf = true}
def u8C (n : U8) : List SV := [.int .u8 (.a n.1)]
theorem open5 : OpenT Tryz.prog 5 u8C := .intB Tryz.underlying5
theorem open43 : OpenT Tryz.prog 43 (fun x : {x : Bool × List U8 // x.2.length ≤ maxLen} => slC 1 u8C x.1) := .sliceL Tryz.underlying43 (by kernel_rfl) (by decide) open5
theorem u8_fit (n : U8) : 0 ≤ n.1 ∧ n.1 ≤ 255 := by
  have := n.2
  simpa [Lit.wf, IntKind.min, IntKind.max, IntKind.signed, IntKind.bits] using this
theorem rowN_of (l : List U8) (h : l.length ≤ maxLen) : RowN (rowOfL u8C l) l.length (l.map (·.1)) := by
  refine ⟨by simp, fun i hi => ?_, by rw [List.length_map]; exact Nat.le_trans h (by decide), fun c hc => ?_⟩
  · simp only [List.length_map] at hi
    unfold rowOfL
    rw [List.getElem?_eq_getElem hi]
    simp only [u8C]
    rw [List.getD_eq_getElem?_getD, List.getElem?_map, List.getElem?_eq_getElem hi]; rfl
  · obtain ⟨n, _, rfl⟩ := List.mem_map.1 hc
    exact u8_fit n
end Go.Proofs.YtfchfhjpldppjaaGreatDoor
namespace Go.Proofs.YtfchfhjpldppjaaGreatDoor
open Go Go.Sx Go.ChangeShapes Go.WideShapes Go.RowKit
set_option maxRecDepth 100000
/-! TokensJoined: from the function's contract to the card. -/
theorem tokensJoined_lifted (os : Os) (started : os.Started) (H : Type) (enc : TypeId × Value → H) :
    ReturnsInHanded {} Tryz.checked os 6 .any (fun w args => (Rows.tokensJoinedSpec.pre enc Tryz.prog Tryz.f6 [] false w args ∧ laidMetH Tryz.prog laidV w) ∧ sizedMet enc Tryz.prog Tryz.f6 (OpenSpec.ofChange Rows.tokensJoinedSpec) false w args)
      (Rows.tokensJoinedSpec.post enc Tryz.prog Tryz.f6 false true false false) := by
  refine returnsInHanded_of_change_and (C := Tryz.checked) (X := fun w _ => laidMetH Tryz.prog laidV w) (fun _ _ _ hh h => h.of_heap hh) kOwn started (by kernel_rfl) Tryz.func6
    (ChangeSpec.witness_shaped (enc := enc) (C := Tryz.checked) (os := os) (X := fun w _ => laidMetH Tryz.prog laidV w) false (World.laidAll Tryz.prog os laidV) #[.string ⟨#[]⟩, .slice none 0 0] 8 (World.laidAll_os _ _ _) (World.shaped_of_ZipB (by kernel_rfl) (by kernel_rfl)) (by kernel_rfl) (by kernel_rfl) (by kernel_rfl) (door_met os _)) ?_
  intro W base args ds gs before hval0 hW _ _ hL _
  have hval : ∀ (j : Nat) t v, Tryz.f6.params[j]? = some t → args[j]? = some v → Value.okWide Tryz.prog W .any base t v := hval0
  obtain ⟨p, q, hA, hV, _⟩ := id hW
  have hA' : DataW.TrodAll enc Tryz.prog W 0 (fun _ => true) true Tryz.f6.params.toList args.toList ds p := hA
  rw [Tryz.params6] at hA' hval
  obtain ⟨v0, v1, d0, d1, p0, p1, rfl, rfl, _, h0, h1⟩ := trodAll_two hA'
  obtain ⟨fuel0, h0⟩ := h0
  obtain ⟨x0, hx0⟩ := open9 H enc W _ _ _ _ _ h0
  have r0 := arg_string Tryz.underlying9 (hval 0 9 v0 rfl rfl) hx0
  obtain ⟨fuel1, h1⟩ := h1
  obtain ⟨x1, hx1⟩ := open43 H enc W _ _ _ _ _ h1
  have r1 := arg_slice Tryz.underlying43 (hval 1 43 v1 rfl rfl) hx1
  obtain ⟨r, ls', hK, hcalls⟩ := tokensJoined_ok.2 [.str x0.1, (slC 1 u8C x1.1).headD .nilp] [] (fun r ls => r = .bool (.a true) ∧ ls = []) ⟨x0.1, x1.1.2.map (·.1), _, _, _, rfl, rfl, str_fit x0, rowN_of x1.1.2 x1.2, fun r hr => ⟨by rw [hr], rfl⟩⟩
  obtain ⟨rfl, rfl⟩ := hK
  have hrun := law_run (W := W) (args := [v0, v1]) hcalls gl_of rfl (ro2 r0 r1)
  refine hrun.mono fun e W' hq => ⟨_, hq.1, law_post kLaidOut (tb := 4) ?_ rfl (by kernel_rfl) Tryz.underlying4 hW ?_ hq.2⟩
  · rw [Tryz.params6]
    intro t ht
    have hall : ([9, 43].all fun t => Tryz.prog.readableRec t && decide (t < Tryz.prog.types.size)) = true := by kernel_rfl
    have := List.all_eq_true.1 hall t (by simpa using ht)
    simpa using this
  · have hg : gs = [] := (trodVars_none hV).1
    subst hg
    rfl
theorem tokensJoined_said : Rows.TokensJoinedSaid :=
  OpenClaim.holds_of_wide 6 Tryz.f6 rfl rfl rfl rfl rfl rfl rfl ⟨rfl, rfl, rfl, rfl, rfl⟩ rfl rfl rfl rfl rfl (by kernel_rfl) Tryz.func6 (by kernel_rfl)
    (of_decide_eq_true (by kernel_rfl)) (by unfold Func.isWrapper; first | (rw [if_pos (by decide +kernel)]; kernel_rfl) | (rw [if_neg (by decide +kernel)]; exact ⟨rfl, rfl⟩))
    (fun os started H enc _ => tokensJoined_lifted os started H enc)
theorem tokensJoined_holds : Rows.TokensJoinedCardSaid :=
  Claim7.holds_tied_plain_at .later [] [.data, .data, .data, .data, .sentinel, .sentinel, .pinned] true (true, "949d5a32386bb23fb42fe4a0dca874791432354f7fa039f85fcf54673b706a44") true
    tokensJoined_said (fun _ h => by cases h) (by kernel_rfl) (fun _ h => by cases h) tokensJoined_row_tie rfl ⟨rfl, rfl⟩ (by kernel_rfl) rfl
    (fun f fn hf hfn => by
      obtain rfl : f = 6 := Option.some.inj ((show Tryz.prog.funcNamed "spillway/spillwaylaw05.TokensJoined" = some 6 by kernel_rfl).symm.trans hf) |>.symm
      obtain rfl : fn = Tryz.f6 := (Option.some.inj (Tryz.func6.symm.trans hfn)).symm
      exact ⟨by kernel_rfl, fun j t ht => by
        rw [Tryz.params6] at ht
        have hm : t ∈ [9, 43] := by simpa using Array.mem_of_getElem? ht
        have hall : ([9, 43].all fun u => !Tryz.prog.wantsStandIn u) = true := by kernel_rfl
        exact (show Tryz.prog.wantsStandIn t = false by simpa using List.all_eq_true.1 hall t hm)⟩)
    (by kernel_rfl)
end Go.Proofs.YtfchfhjpldppjaaGreatDoor
