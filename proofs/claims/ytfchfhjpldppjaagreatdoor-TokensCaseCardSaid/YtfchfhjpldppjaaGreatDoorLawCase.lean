/- Part of the proofs of the statements about tokens (layer 5): the laws; it has no conditions of its own. -/
import Derived.Test.YtfchfhjpldppjaaGreatDoorTf
import Derived.Test.YtfchfhjpldppjaaGreatDoorTd
namespace Go.Proofs.YtfchfhjpldppjaaGreatDoor
open Go.Sx
set_option maxRecDepth 10000
set_option maxHeartbeats 4000000
/-! Has of the document; the law TokensElements. -/
theorem refElementsF_err {s : List UInt8} (h : (refElementsF s).1 ≠ []) : (refElementsF s).2 = 0 := by
  unfold refElementsF at h ⊢
  split
  · rename_i h2; rw [if_pos h2] at h; exact absurd rfl h
  · rename_i h2
    rw [if_neg h2] at h
    cases hp : partsF 44 s with
    | none => rw [hp] at h; exact absurd rfl h
    | some l => rfl
def rhJ (t : List UInt8) (k : Bool × Int) (l : List (List UInt8)) (e : Int) (nb : Bool) (n : Int) (g : Nat → List SV) (m : Nat) (vs : List (Option SV)) (hp : List Hl) : Prop :=
  ∃ (i : Nat) (I : Int), vs = [some (.str t), some (.sl (.a nb) (.a n) 1 g), some (.int .i64 (.a e)), some (.int .i64 (.a I))] ∧ hp = [] ∧ AtR l i I m ∧ k = ((l.drop i).any (foldEq t), e)
theorem any_at {l : List (List UInt8)} {p : List UInt8 → Bool} {i : Nat} (h : i < l.length) : (l.drop i).any p = (p (l.getD i []) || (l.drop (i + 1)).any p) := by
  rw [dropR (d := []) h, List.any_cons]
theorem refHas_ok : FnOk Tryz.prog gl 23 spHas := by
  refine fnOk (gh := []) mixed cxOk (tabCons refToken_ok (tabCons refElements_ok (tabCons refFold_ok tabNil))) Tryz.func23 (by kernel_rfl) (by kernel_rfl) ?_
  intro xs ls K h
  unfold spHas at h
  obtain ⟨v, t, rfl, rfl, hv, ht, h⟩ := h
  obtain ⟨k, hk⟩ : ∃ k, k = hasF v t := ⟨_, rfl⟩
  obtain ⟨kb, ke⟩ := k
  refine ⟨_, _, h kb ke hk, fun D hD => ?_⟩
  clear h
  rw [hasF] at hk
  cbv
  refine ⟨_, rfl, rfl, ht, fun q hq => ?_⟩
  have hq2 : q = refTokenF t := by subst hD; exact hq
  clear hq
  rw [← hq2] at hk
  cbv
  refine br hD (fun h => ?_) (fun h => ?_) <;> cbv
  · have h : (!q) = true := h
    rw [if_pos h] at hk
    exact finHas hD hk
  have h : (!q) = false := h
  rw [if_neg (by rw [h]; simp)] at hk
  clear h hq2
  have hel := refElementsF_len v
  have her := refElementsF_err (s := v)
  refine ⟨v, rfl, rfl, hv, fun l e n nb he hn hnb => ?_⟩
  rw [← he] at hk hel her
  simp only at hk hel her
  have RL : RowS (strRow l) n l := by rw [hn]; exact RowS.row (by omega)
  obtain ⟨g, hg⟩ : ∃ g, g = strRow l := ⟨_, rfl⟩
  rw [← hg] at RL ⊢
  clear hg hn hnb
  cbv
  obtain ⟨J, hJ⟩ : ∃ J, J = rhJ t (kb, ke) l e nb n g := ⟨_, rfl⟩
  refine ⟨[1, 6, 7, 8], J, ⟨rfl, l.length, ?_⟩, ?_⟩
  · rw [hJ]
    subst hD
    exact ⟨0, 0, rfl, rfl, AtR.zero (by omega), hk⟩
  clear hk
  intro m vs hp' hv'
  rw [hJ] at hv'
  unfold rhJ at hv'
  obtain ⟨i, I, rfl, rfl, V, hk⟩ := hv'
  cbv
  refine br hD (fun h => ?_) (fun h => ?_) <;> cbv
  · have hlt := V.lt RL.n (of_decide_eq_true (p := I < n) h)
    clear h
    refine ⟨V.inB hD RL.n hlt, fun j hj => ?_⟩
    obtain rfl := V.j hD hj
    clear hj
    have e1 := RL.f j hlt
    have he0 : e = 0 := her (fun h => by rw [h] at hlt; simp at hlt)
    rw [any_at hlt] at hk
    have hxl := hel.2 (l.getD j []) (by rw [List.getD_eq_getElem?_getD, List.getElem?_eq_getElem hlt]; exact List.getElem_mem hlt)
    obtain ⟨x, hx⟩ : ∃ x, x = l.getD j [] := ⟨_, rfl⟩
    rw [← hx] at e1 hxl hk
    cbv
    rw [e1]
    cbv
    refine ⟨x, rfl, rfl, by omega, fun a ha => ?_⟩
    cbv
    refine ⟨t, rfl, rfl, ht, fun b hb => ?_⟩
    have hfe : foldEq t x = (a == b) := by rw [foldEq, ha, hb]
    rw [hfe] at hk
    cbv
    refine br hD (fun h => ?_) (fun h => ?_) <;> cbv
    · have h : (a == b) = true := h
      rw [h] at hk
      exact finHas (x := .l true) (y := .l 0) hD (by rw [hk, he0]; rfl)
    · have h : (a == b) = false := h
      rw [h, Bool.false_or] at hk
      refine ⟨l.length - (j + 1), (V.step hD hlt).1, ?_⟩
      rw [hJ]
      subst hD
      exact ⟨j + 1, _, rfl, rfl, (V.step rfl hlt).2, hk⟩
  · have hi := V.eq RL.n (of_decide_eq_false (p := I < n) h)
    rw [hi, List.drop_length] at hk
    exact finHas (x := .l false) (y := .a e) hD hk
def spLawS2 : FSpec := fun _ xs ls K => ∃ (s t : List UInt8), xs = [.str s, .str t] ∧ ls = [] ∧ s.length ≤ 9223372036854775807 ∧ t.length ≤ 9223372036854775807 ∧ ∀ r : Bool, r = true → K (.bool (.a r)) []
theorem tokensElements_ok : FnOk Tryz.prog gl 4 spLawS2 := by
  refine fnOk (gh := []) mixed cxOk (tabCons elements_ok (tabCons refElements_ok (tabCons has_ok (tabCons refHas_ok (tabCons strings_ok (tabCons awake_ok tabNil)))))) Tryz.func4 (by kernel_rfl) (by kernel_rfl) ?_
  intro xs ls K h
  unfold spLawS2 at h
  obtain ⟨s, t, rfl, rfl, hl, ht, h⟩ := h
  refine ⟨_, _, h true rfl, fun D hD => ?_⟩
  clear h
  cbv
  refine br hD (fun h => ?_) (fun h => ?_) <;> cbv
  · intro r hr
    cbv
    exact finBool hD hr
  clear h
  have hel := refElementsF_len s
  refine ⟨s, rfl, rfl, hl, fun l e n nb he hn hnb => ?_⟩
  rw [← he] at hel
  simp only at hel
  have R1 : RowS (strRow l) n l := by rw [hn]; exact RowS.row (by omega)
  obtain ⟨g, hg⟩ : ∃ g, g = strRow l := ⟨_, rfl⟩
  rw [← hg] at R1 ⊢
  clear hg hn hnb
  cbv
  refine ⟨s, rfl, rfl, hl, fun l2 e2 n2 nb2 he2 hn2 hnb2 => ?_⟩
  obtain ⟨rfl, rfl⟩ : l2 = l ∧ e2 = e := by have := he2.trans he.symm; cases this; exact ⟨rfl, rfl⟩
  have R2 : RowS (strRow l2) n2 l2 := by rw [hn2]; exact RowS.row (by omega)
  obtain ⟨g2, hg2⟩ : ∃ g, g = strRow l2 := ⟨_, rfl⟩
  rw [← hg2] at R2 ⊢
  clear hg2 hn2 hnb2 he he2
  cbv
  refine ⟨s, t, rfl, rfl, hl, ht, fun b f hb => ?_⟩
  cbv
  refine ⟨s, t, rfl, rfl, hl, ht, fun c f2 hc => ?_⟩
  obtain ⟨rfl, rfl⟩ : c = b ∧ f2 = f := by have := hc.trans hb.symm; cases this; exact ⟨rfl, rfl⟩
  clear hb hc
  cbv
  refine ⟨l2, l2, _, _, _, _, _, _, rfl, rfl, by subst hD; exact R1, by subst hD; exact R2, fun r hr => ?_⟩
  have hr2 : r = true := by rw [hr]; simp
  clear hr
  cbv
  intro w hw
  cbv
  refine finBool hD ?_
  subst hr2
  have hw : w = true := hw
  simp only [BT.den, ST.den, cmpDen]
  simp [hw]
end Go.Proofs.YtfchfhjpldppjaaGreatDoor
namespace Go.Proofs.YtfchfhjpldppjaaGreatDoor
open Go.Sx
set_option maxRecDepth 100000
set_option maxHeartbeats 2000000
/-! Case makes no difference. -/
theorem fold_facts : ∀ n : Fin 256, (let c := UInt8.ofNat n.1; foldB (foldB c) = foldB c ∧ plainI ((foldB c).toNat : Int) = plainI (c.toNat : Int) ∧ letterI ((foldB c).toNat : Int) = letterI (c.toNat : Int) ∧ blankB (foldB c) = blankB c ∧
    (decide (((foldB c).toNat : Int) = 34) = decide ((c.toNat : Int) = 34)) ∧ (decide (((foldB c).toNat : Int) = 92) = decide ((c.toNat : Int) = 92)) ∧ (decide (((foldB c).toNat : Int) = 44) = decide ((c.toNat : Int) = 44)) ∧ (decide (((foldB c).toNat : Int) = 59) = decide ((c.toNat : Int) = 59)) ∧ ((foldB c == 61) = (c == 61))) := by decide
theorem fold_c (c : UInt8) : foldB (foldB c) = foldB c ∧ plainI ((foldB c).toNat : Int) = plainI (c.toNat : Int) ∧ letterI ((foldB c).toNat : Int) = letterI (c.toNat : Int) ∧ blankB (foldB c) = blankB c ∧
    (((foldB c).toNat : Int) = 34 ↔ (c.toNat : Int) = 34) ∧ (((foldB c).toNat : Int) = 92 ↔ (c.toNat : Int) = 92) ∧ (((foldB c).toNat : Int) = 44 ↔ (c.toNat : Int) = 44) ∧ (((foldB c).toNat : Int) = 59 ↔ (c.toNat : Int) = 59) ∧ ((foldB c == 61) = (c == 61)) := by
  have h := fold_facts ⟨c.toNat, c.toNat_lt⟩
  simp only [UInt8.ofNat_toNat, decide_eq_decide] at h
  exact h
theorem foldF_foldF (s : List UInt8) : foldF (foldF s) = foldF s := by
  unfold foldF
  rw [List.map_map]
  exact List.map_congr_left fun c _ => (fold_c c).1
theorem foldF_len (s : List UInt8) : (foldF s).length = s.length := by simp [foldF]
theorem token_fold (s : List UInt8) : refTokenF (foldF s) = refTokenF s := by
  unfold refTokenF allI
  rw [foldF_len]
  congr 1
  unfold foldF
  rw [List.all_map]
  congr 1
  funext c
  exact (fold_c c).2.2.1
/-- A byte that is as it was in lower case. -/
structure Fix (y : Int) : Prop where
  h : ∀ c : UInt8, ((foldB c).toNat : Int) = y ↔ (c.toNat : Int) = y
theorem fix44 : Fix 44 := ⟨fun c => (fold_c c).2.2.2.2.2.2.1⟩
theorem fix59 : Fix 59 := ⟨fun c => (fold_c c).2.2.2.2.2.2.2.1⟩
theorem partsM_fold {y : Int} (hy : Fix y) : ∀ (r : List UInt8) (md : Nat) (cur : List UInt8), partsM plainI y (foldF r) md (foldF cur) = (partsM plainI y r md cur).map (List.map foldF)
  | [], md, cur => by
    show partsM plainI y [] md (foldF cur) = _
    simp only [partsM]
    split <;> rfl
  | c :: r, md, cur => by
    obtain ⟨f1, f2, f3, f4, f5, f6, f7, f8, f9⟩ := fold_c c
    show partsM plainI y (foldB c :: foldF r) md (foldF cur) = _
    have e : foldF cur ++ [foldB c] = foldF (cur ++ [c]) := by simp [foldF]
    simp only [partsM]
    rw [f2, e, partsM_fold hy r 1, partsM_fold hy r 0, partsM_fold hy r 2]
    have e0 := partsM_fold hy r 0 []
    rw [show foldF ([] : List UInt8) = [] from rfl] at e0
    rw [e0]
    simp only [f5, f6, hy.h c]
    split
    · rfl
    split
    · split
      · rfl
      · split
        · cases partsM plainI y r 0 [] <;> rfl
        · rfl
    · split
      · split
        · rfl
        · split <;> rfl
      · rfl
theorem parts_fold {y : Int} (hy : Fix y) (s : List UInt8) : partsF y (foldF s) = (partsF y s).map (List.map foldF) := partsM_fold hy s 0 []
theorem dropW_fold : ∀ (s : List UInt8), (foldF s).dropWhile blankB = foldF (s.dropWhile blankB)
  | [] => rfl
  | c :: r => by
    have h := (fold_c c).2.2.2.1
    show (foldB c :: foldF r).dropWhile blankB = _
    by_cases hb : blankB c = true
    · rw [List.dropWhile_cons_of_pos (by rw [h]; exact hb), List.dropWhile_cons_of_pos hb]; exact dropW_fold r
    · rw [List.dropWhile_cons_of_neg (by rw [h]; exact hb), List.dropWhile_cons_of_neg hb]; rfl
theorem rev_fold (s : List UInt8) : (foldF s).reverse = foldF s.reverse := by simp [foldF]
theorem trim_fold (s : List UInt8) : trimF (foldF s) = foldF (trimF s) := by
  unfold trimF trimR trimL
  rw [dropW_fold, rev_fold, dropW_fold, rev_fold]
theorem neB_fold (s : List UInt8) : neB (foldF s) = neB s := by
  cases s <;> rfl
theorem keep_fold (l : List (List UInt8)) : keepF (l.map foldF) = (keepF l).map foldF := by
  unfold keepF
  rw [List.map_map, List.filter_map, List.filter_map, List.map_map]
  have e1 : neB ∘ (trimF ∘ foldF) = neB ∘ trimF := by funext s; simp only [Function.comp]; rw [trim_fold, neB_fold]
  rw [e1]
  exact List.map_congr_left fun s _ => trim_fold s
theorem elements_fold (s : List UInt8) : refElementsF (foldF s) = ((refElementsF s).1.map foldF, (refElementsF s).2) := by
  unfold refElementsF
  rw [foldF_len, parts_fold fix44]
  split
  · rfl
  · cases partsF 44 s with
    | none => rfl
    | some l =>
      show (keepF (l.map foldF), (0 : Int)) = _
      rw [keep_fold]
theorem foldEq_fold (t x : List UInt8) : foldEq (foldF t) (foldF x) = foldEq t x := by
  unfold foldEq
  rw [foldF_foldF, foldF_foldF]
theorem has_fold (v t : List UInt8) : hasF (foldF v) (foldF t) = hasF v t := by
  unfold hasF
  rw [token_fold, elements_fold, List.any_map]
  have : foldEq (foldF t) ∘ foldF = foldEq t := by funext x; exact foldEq_fold t x
  rw [this]
theorem cut_fold (s : List UInt8) : cutF 61 (foldF s) = (foldF (cutF 61 s).1, foldF (cutF 61 s).2.1, (cutF 61 s).2.2) := by
  induction s with
  | nil => rfl
  | cons c r ih =>
    have h := (fold_c c).2.2.2.2.2.2.2.2
    show cutF 61 (foldB c :: foldF r) = _
    simp only [cutF]
    rw [h, ih]
    split <;> rfl
theorem qd_fold : ∀ (n : Nat) (r : List UInt8), r.length ≤ n → qdF plainI (foldF r) = (qdF plainI r).map fun x => (x.1, foldF x.2)
  | _, [], _ => rfl
  | 0, c :: r, hl => by simp at hl
  | n + 1, c :: r, hl => by
    simp only [List.length_cons] at hl
    obtain ⟨f1, f2, f3, f4, f5, f6, f7, f8, f9⟩ := fold_c c
    show qdF plainI (foldB c :: foldF r) = _
    rw [qdF_cons, qdF_cons, f2, qd_fold n r (by omega)]
    simp only [f5, f6]
    split
    · rfl
    split
    · rfl
    split
    · cases r with
      | nil => rfl
      | cons d r' =>
        obtain ⟨g1, g2, _⟩ := fold_c d
        show (if (!plainI ((foldB d).toNat : Int)) = true then none else (qdF plainI (foldF r')).map fun x => (x.1 + 2, foldB d :: x.2)) = _
        rw [g2, qd_fold n r' (by simp at hl; omega)]
        simp only
        split
        · rfl
        · cases qdF plainI r' <;> rfl
    · cases qdF plainI r <;> rfl
theorem charI_fold34 (s : List UInt8) : charI (foldF s) 0 = 34 ↔ charI s 0 = 34 := by
  cases s with
  | nil => exact Iff.rfl
  | cons c r => exact (fold_c c).2.2.2.2.1
theorem quotedAll_fold (s : List UInt8) : refQuotedF (foldF s) 0 = ((refQuotedF s 0).1, foldF (refQuotedF s 0).2.1, (refQuotedF s 0).2.2) := by
  unfold refQuotedF qRes
  have e : (foldF s).drop (0 + 1) = foldF (s.drop (0 + 1)) := by simp [foldF]
  rw [e, qd_fold _ _ (Nat.le_refl _)]
  cases qdF plainI (s.drop (0 + 1)) <;> rfl
theorem unq_fold (s : List UInt8) : refUnquoteF (foldF s) = (foldF (refUnquoteF s).1, (refUnquoteF s).2) := by
  unfold refUnquoteF
  rw [token_fold, foldF_len, quotedAll_fold]
  simp only [foldF_len]
  by_cases h1 : refTokenF s = true
  · rw [if_pos h1, if_pos h1]
  · rw [if_neg h1, if_neg h1]
    by_cases h2 : s.length = 0 ∨ charI s 0 ≠ 34
    · rw [if_pos h2, if_pos (h2.imp id fun h h' => h ((charI_fold34 s).1 h'))]; rfl
    · rw [if_neg h2, if_neg (fun h => h2 (h.imp id fun h h' => h ((charI_fold34 s).2 h')))]
      split
      · rfl
      · split <;> rfl
def pfold (p : Par) : Par := (p.1, foldF p.2)
theorem par_fold (t : List UInt8) : parF (foldF t) = (parF t).map fun x => (pfold x.1, x.2) := by
  unfold parF
  rw [cut_fold]
  simp only
  rw [token_fold, unq_fold]
  simp only
  split
  · rfl
  · simp only [Option.map_some, pfold, foldF_foldF]
theorem pars_fold : ∀ (l : List (List UInt8)), parsF (l.map foldF) = (parsF l).map fun y => (y.1.map pfold, y.2)
  | [] => rfl
  | t :: r => by
    show parsF (foldF t :: r.map foldF) = _
    simp only [parsF]
    have e : (foldF t == []) = (t == []) := by cases t <;> rfl
    rw [e, pars_fold r, par_fold t]
    split
    · rfl
    · cases parF t with
      | none => rfl
      | some x => simp only [Option.map_some]; cases parsF r <;> rfl
theorem twM_fold : ∀ (r acc : List Par), twM (acc.map pfold) (r.map pfold) = twM acc r
  | [], acc => rfl
  | p :: r, acc => by
    show twM (acc.map pfold) (pfold p :: r.map pfold) = _
    simp only [twM]
    have e : acc.map pfold ++ [pfold p] = (acc ++ [p]).map pfold := by simp
    rw [e, twM_fold r, List.any_map]
    rfl
def ifold (x : Item) : Item := (foldF x.1, x.2.map pfold)
theorem itemG_fold (v : List UInt8) (o : Option (List Par × Bool)) : itemG (foldF v) (o.map fun y => (y.1.map pfold, y.2)) = (ifold (itemG v o).1, (itemG v o).2) := by
  cases o with
  | none => rfl
  | some y =>
    simp only [Option.map_some, itemG, List.length_map]
    have : twiceF (y.1.map pfold) = twiceF y.1 := twM_fold y.1 []
    rw [this]
    split
    · rfl
    · split <;> rfl
theorem item_fold (s : List UInt8) : itemF (foldF s) = (ifold (itemF s).1, (itemF s).2) := by
  unfold itemF
  rw [parts_fold fix59]
  have e : (((partsF 59 s).map (List.map foldF)).getD []).map trimF = (((partsF 59 s).getD []).map trimF).map foldF := by
    cases partsF 59 s with
    | none => rfl
    | some l =>
      simp only [Option.map_some, Option.getD_some, List.map_map]
      exact List.map_congr_left fun x _ => trim_fold x
  rw [e]
  generalize ((partsF 59 s).getD []).map trimF = l
  unfold itemL
  have e0 : (l.map foldF).getD 0 [] = foldF (l.getD 0 []) := by cases l <;> rfl
  have e1 : (l.map foldF).drop 1 = (l.drop 1).map foldF := by cases l <;> rfl
  rw [e0, e1, token_fold, pars_fold, itemG_fold]
  split <;> rfl
theorem itemsL_fold : ∀ (l : List (List UInt8)), itemsL (l.map foldF) = ((itemsL l).1.map ifold, (itemsL l).2)
  | [] => rfl
  | s :: r => by
    show itemsL (foldF s :: r.map foldF) = _
    simp only [itemsL]
    rw [item_fold, itemsL_fold r]
    simp only
    split
    · rfl
    · split <;> rfl
theorem items_fold (s : List UInt8) : itemsF (foldF s) = ((itemsF s).1.map ifold, (itemsF s).2) := by
  unfold itemsF
  rw [elements_fold]
  simp only [List.length_map]
  rw [itemsL_fold]
  split
  · rfl
  · split
    · rfl
    · unfold addI
      split <;> rfl
end Go.Proofs.YtfchfhjpldppjaaGreatDoor
namespace Go.Proofs.YtfchfhjpldppjaaGreatDoor
open Go.Sx
set_option maxRecDepth 10000
set_option maxHeartbeats 40000000
/-! The law TokensCase. -/
theorem itemF_val (s : List UInt8) : (itemF s).1.1.length ≤ 64 := by
  unfold itemF itemL
  split
  · simp
  · rename_i ht
    have ht : refTokenF (((((partsF 59 s).getD []).map trimF)).getD 0 []) = true := by simpa using ht
    have hl := (token_len ht).2
    revert hl
    generalize ((partsF 59 s).getD []).map trimF = l
    intro hl
    cases parsF (l.drop 1) with
    | none => simp [itemG]
    | some y =>
      rw [itemG]
      split
      · simp
      · split
        · simp
        · exact hl
theorem itemsF_val (s : List UInt8) : ∀ x ∈ (itemsF s).1, x.1.length ≤ 64 := by
  intro x hx
  unfold itemsF at hx
  split at hx
  · simp at hx
  · split at hx
    · simp at hx
    · rcases itemsL_mem _ _ x hx with h | ⟨t, _, rfl⟩
      · simp at h
      · exact itemF_val t
structure RowPT (f : Nat → List SV) (n : Int) (a : List Par) : Prop where
  n : n = a.length
  f : ∀ i, f i = [.str (a.getD i ([], [])).1, .str (a.getD i ([], [])).2]
  len : a.length ≤ 9223372036854775807
/-- What is known of items: at every place. -/
structure Its (f : Nat → List SV) (n : Int) (l : List Item) : Prop where
  n : n = l.length
  f : ∀ j, f j = itemSV (l.getD j ([], []))
  len : l.length ≤ 50
  good : ∀ x ∈ l, itemGood x
  val : ∀ x ∈ l, x.1.length ≤ 64
theorem Its.at_ {f : Nat → List SV} {n : Int} {l : List Item} (V : Its f n l) (j : Nat) : ∃ (v : List UInt8) (p : List Par) (e : Bool) (m : Int) (g : Nat → List SV), f j = [.str v, .sl (.a e) (.a m) 2 g] ∧ l.getD j ([], []) = (v, p) ∧ RowPT g m p ∧ v.length ≤ 64 ∧ (∀ q ∈ p, q.2.length ≤ 500) := by
  have hb : (l.getD j ([], [])).2.length ≤ 20 ∧ (l.getD j ([], [])).1.length ≤ 64 ∧ ∀ q ∈ (l.getD j ([], [])).2, q.2.length ≤ 500 := by
    rw [List.getD_eq_getElem?_getD]
    cases h : l[j]? with
    | none => simp
    | some x =>
      have hm := List.mem_of_getElem? h
      exact ⟨(V.good x hm).1, V.val x hm, (V.good x hm).2⟩
  refine ⟨(l.getD j ([], [])).1, (l.getD j ([], [])).2, _, _, _, V.f j, rfl, ⟨rfl, fun _ => rfl, by omega⟩, hb.2.1, hb.2.2⟩
theorem its_of {s : List UInt8} {l : List Item} {e n : Int} {f : Nat → List SV} (h : (l, e) = itemsF s) (hn : n = (l.length : Int)) (hf : f = itemRow l) : Its f n l := by
  have h1 := itemsF_len s
  have h2 := itemsF_good s
  have h3 := itemsF_val s
  rw [← h] at h1 h2 h3
  exact ⟨hn, fun j => by rw [hf]; rfl, h1, h2, h3⟩
theorem RowPT.at_ {f : Nat → List SV} {n : Int} {a : List Par} (V : RowPT f n a) (hq : ∀ q ∈ a, q.2.length ≤ 500) (j : Nat) : ∃ (x y : List UInt8), f j = [.str x, .str y] ∧ a.getD j ([], []) = (x, y) ∧ y.length ≤ 500 := by
  refine ⟨_, _, V.f j, rfl, ?_⟩
  rw [List.getD_eq_getElem?_getD]
  cases h : a[j]? with
  | none => simp
  | some x => exact hq x (List.mem_of_getElem? h)
theorem getD_map_item {l : List Item} {j : Nat} : (l.map ifold).getD j ([], []) = ifold (l.getD j ([], [])) := by
  rw [List.getD_eq_getElem?_getD, List.getD_eq_getElem?_getD, List.getElem?_map]
  cases l[j]? <;> rfl
theorem getD_map_par {l : List Par} {j : Nat} : (l.map pfold).getD j ([], []) = pfold (l.getD j ([], [])) := by
  rw [List.getD_eq_getElem?_getD, List.getD_eq_getElem?_getD, List.getElem?_map]
  cases l[j]? <;> rfl
def caJ (l : List Item) (lb mb : Bool) (ln mn : Int) (lf mf : Nat → List SV) (m : Nat) (vs : List (Option SV)) (hp : List Hl) : Prop :=
  ∃ (i : Nat) (I : Int), vs = [some (.sl (.a lb) (.a ln) 2 lf), some (.sl (.a mb) (.a mn) 2 mf), some (.int .i64 (.a I))] ∧ hp = [] ∧ AtR l i I m
def caJ2 (p : List Par) (lb mb : Bool) (ln mn : Int) (lf mf : Nat → List SV) (I : Int) (m : Nat) (vs : List (Option SV)) (hp : List Hl) : Prop :=
  ∃ (q : Nat) (Q : Int), vs = [some (.sl (.a lb) (.a ln) 2 lf), some (.sl (.a mb) (.a mn) 2 mf), some (.int .i64 (.a I)), some (.int .i64 (.a Q))] ∧ hp = [] ∧ AtR p q Q m
theorem tokensCase_ok : FnOk Tryz.prog gl 8 spLawS2 := by
  refine fnOk (gh := []) mixed cxOk (tabCons fold_ok (tabCons has_ok (tabCons items_ok (tabCons awake_ok tabNil)))) Tryz.func8 (by kernel_rfl) (by kernel_rfl) ?_
  intro xs ls K h
  unfold spLawS2 at h
  obtain ⟨v, t, rfl, rfl, hl, ht, h⟩ := h
  refine ⟨_, _, h true rfl, fun D hD => ?_⟩
  clear h
  cbv
  refine br hD (fun h => ?_) (fun h => ?_) <;> cbv
  · intro r hr
    cbv
    exact finBool hD hr
  clear h
  refine ⟨v, rfl, rfl, hl, fun w hw => ?_⟩
  have hwl : w.length = v.length := by rw [hw]; exact foldF_len v
  have hww : foldF w = w := by rw [hw]; exact foldF_foldF v
  cbv
  refine ⟨v, t, rfl, rfl, hl, ht, fun a e ha => ?_⟩
  cbv
  refine ⟨t, rfl, rfl, ht, fun t2 ht2 => ?_⟩
  have ht2l : t2.length = t.length := by rw [ht2]; exact foldF_len t
  cbv
  refine ⟨w, t2, rfl, rfl, by omega, by omega, fun b f hb => ?_⟩
  obtain ⟨rfl, rfl⟩ : b = a ∧ f = e := by
    rw [hw, ht2, has_fold] at hb
    have := hb.trans ha.symm
    cases this; exact ⟨rfl, rfl⟩
  clear hb ha
  cbv
  refine ⟨w, rfl, rfl, by omega, fun w2 hw2 => ?_⟩
  obtain rfl : w2 = w := by rw [hw2, hww]
  clear hw2
  cbv
  refine br hD (fun h => ?_) (fun h => ?_) <;> cbv
  · have h : (((!(w2 == w2) || (w2.length : Int) != (v.length : Int)) || !(b == b)) || f != f) = true := h
    rw [hwl] at h
    simp at h
  clear h
  refine ⟨v, rfl, rfl, hl, fun l g n nb lf hg hn hnb hlf => ?_⟩
  have L := its_of hg hn hlf
  clear hn hnb hlf
  cbv
  refine ⟨w2, rfl, rfl, by omega, fun m g2 n2 mb mf hg2 hn2 hmb hmf => ?_⟩
  have M := its_of hg2 hn2 hmf
  obtain ⟨rfl, rfl⟩ : m = l.map ifold ∧ g2 = g := by
    rw [hw, items_fold, ← hg] at hg2
    cases hg2; exact ⟨rfl, rfl⟩
  clear hn2 hmb hmf hg2 hg
  have hnn : n2 = n := by rw [M.n, L.n]; simp
  subst hnn
  cbv
  refine br hD (fun h => ?_) (fun h => ?_) <;> cbv
  · have h : (g2 != g2 || n2 != n2) = true := h
    simp at h
  clear h
  obtain ⟨J, hJ⟩ : ∃ J, J = caJ l nb mb n2 n2 lf mf := ⟨_, rfl⟩
  refine ⟨[10, 12, 14], J, ⟨rfl, l.length, ?_⟩, ?_⟩
  · rw [hJ]
    subst hD
    exact ⟨0, 0, rfl, rfl, AtR.zero (by have := L.len; omega)⟩
  intro q vs hp' hv'
  rw [hJ] at hv'
  unfold caJ at hv'
  obtain ⟨i, I, rfl, rfl, V⟩ := hv'
  cbv
  refine br hD (fun h => ?_) (fun h => ?_) <;> cbv
  · have hlt := V.lt L.n (of_decide_eq_true (p := I < n2) h)
    clear h
    obtain ⟨xv, xp, xe, xn, xf, x1, x2, x3, x4, x5⟩ := L.at_ i
    obtain ⟨yv, yp, ye, yn, yf, y1, y2, y3, y4, y5⟩ := M.at_ i
    have hin := V.inB hD L.n hlt
    obtain ⟨hyv, hyp⟩ : yv = foldF xv ∧ yp = xp.map pfold := by
      rw [getD_map_item, x2] at y2
      cases y2; exact ⟨rfl, rfl⟩
    have hyn : yn = xn := by rw [y3.n, x3.n, hyp]; simp
    refine ⟨hin, fun j hj => ?_⟩
    have e1 : lf j = [.str xv, .sl (.a xe) (.a xn) 2 xf] := by rw [V.j hD hj]; exact x1
    cbv
    rw [e1]
    cbv
    refine ⟨hin, fun j2 hj2 => ?_⟩
    have e2 : mf j2 = [.str yv, .sl (.a ye) (.a yn) 2 yf] := by rw [V.j hD hj2]; exact y1
    cbv
    rw [e2]
    cbv
    refine ⟨fun _ => hin, fun j3 hj3 => ?_⟩
    obtain ⟨uv, up, ue, un, uf, u1, u2, u3, u4, u5⟩ := L.at_ j3
    cbv
    rw [u1]
    cbv
    refine ⟨uv, rfl, rfl, by omega, fun r hr => ?_⟩
    cbv
    refine ⟨fun _ => hin, fun j4 hj4 => ?_⟩
    obtain ⟨wv, wp, we, wn, wf, w1, w2, w3, w4, w5⟩ := M.at_ j4
    cbv
    rw [w1]
    cbv
    refine br hD (fun h => ?_) (fun h => ?_) <;> cbv
    · have h : (xn != yn || !(r == wv)) = true := h
      have hgd : D.b (.not (.cmp .neq (.a xn) (.a yn))) = true := by subst hD; show (!(xn != yn)) = true; rw [hyn]; simp
      have h3 : j3 = i := V.j hD (hj3 hgd)
      have h4 : j4 = i := V.j hD (hj4 hgd)
      have e3 : uv = xv := by rw [h3, x2] at u2; cases u2; rfl
      have e4 : wv = yv := by rw [h4, y2] at w2; cases w2; rfl
      rw [hyn, hr, e3, e4, hyv] at h
      simp at h
    clear h u1 u2 u3 u4 u5 w1 w2 w3 w4 w5 hj3 hj4
    obtain ⟨J2, hJ2⟩ : ∃ J, J = caJ2 xp nb mb n2 n2 lf mf I := ⟨_, rfl⟩
    refine ⟨[10, 12, 14, 15], J2, ⟨rfl, xp.length, ?_⟩, ?_⟩
    · rw [hJ2]
      subst hD
      exact ⟨0, 0, rfl, rfl, AtR.zero x3.len⟩
    intro q2 vs2 hp2 hv2
    rw [hJ2] at hv2
    unfold caJ2 at hv2
    obtain ⟨k, Kk, rfl, rfl, W⟩ := hv2
    cbv
    refine ⟨hin, fun j5 hj5 => ?_⟩
    have e5 : lf j5 = [.str xv, .sl (.a xe) (.a xn) 2 xf] := by rw [V.j hD hj5]; exact x1
    cbv
    rw [e5]
    cbv
    refine br hD (fun h => ?_) (fun h => ?_) <;> cbv
    · have hlt2 := W.lt x3.n (of_decide_eq_true (p := Kk < xn) h)
      clear h
      have hin2 := W.inB hD x3.n hlt2
      obtain ⟨pa, pb, p1, p2, p3⟩ := x3.at_ x5 k
      obtain ⟨qa, qb, q1, q2, q3⟩ := y3.at_ y5 k
      obtain ⟨hqa, hqb⟩ : qa = pa ∧ qb = foldF pb := by
        rw [hyp, getD_map_par, p2] at q2
        cases q2; exact ⟨rfl, rfl⟩
      refine ⟨hin, fun j6 hj6 => ?_⟩
      have e6 : lf j6 = [.str xv, .sl (.a xe) (.a xn) 2 xf] := by rw [V.j hD hj6]; exact x1
      clear hj6
      cbv
      rw [e6]
      cbv
      refine ⟨hin2, fun j7 hj7 => ?_⟩
      have e7 : xf j7 = [.str pa, .str pb] := by rw [W.j hD hj7]; exact p1
      clear hj7
      cbv
      rw [e7]
      cbv
      refine ⟨hin, fun j8 hj8 => ?_⟩
      have e8 : mf j8 = [.str yv, .sl (.a ye) (.a yn) 2 yf] := by rw [V.j hD hj8]; exact y1
      clear hj8
      cbv
      rw [e8]
      cbv
      refine ⟨by rw [hyn]; exact hin2, fun j9 hj9 => ?_⟩
      have e9 : yf j9 = [.str qa, .str qb] := by rw [W.j hD hj9]; exact q1
      clear hj9
      cbv
      rw [e9]
      cbv
      refine ⟨fun _ => hin, fun ja hja => ?_⟩
      obtain ⟨uv, up, ue, un, uf, u1, u2, u3, u4, u5⟩ := L.at_ ja
      cbv
      rw [u1]
      cbv
      refine ⟨fun hg => ?_, fun jb hjb => ?_⟩
      · have : un = xn := by
          rw [V.j hD (hja hg), x2] at u2
          cases u2
          rw [u3.n, x3.n]
        rw [this]; exact hin2
      obtain ⟨ra, rb, r1, r2, r3⟩ := u3.at_ u5 jb
      cbv
      rw [r1]
      cbv
      refine ⟨rb, rfl, rfl, by omega, fun z hz => ?_⟩
      cbv
      refine ⟨fun _ => hin, fun jc hjc => ?_⟩
      obtain ⟨wv, wp, we, wn, wf, w1, w2, w3, w4, w5⟩ := M.at_ jc
      cbv
      rw [w1]
      cbv
      refine ⟨fun hg => ?_, fun jd hjd => ?_⟩
      · have : wn = xn := by
          rw [V.j hD (hjc hg), y2] at w2
          cases w2
          rw [w3.n, ← hyn, y3.n]
        rw [this]; exact hin2
      obtain ⟨sa, sb, s1, s2, s3⟩ := w3.at_ w5 jd
      cbv
      rw [s1]
      cbv
      refine ⟨⟨by kernel_rfl⟩, ?_⟩
      refine br hD (fun h => ?_) (fun h => ?_) <;> cbv
      · have h : (!(pa == qa) || !(z == sb)) = true := h
        have hgd : D.b (.not (.not (.seq pa qa))) = true := by subst hD; show (!!(pa == qa)) = true; rw [hqa]; simp
        have ha : ja = i := V.j hD (hja hgd)
        have hb : jb = k := W.j hD (hjb hgd)
        have hc : jc = i := V.j hD (hjc hgd)
        have hd : jd = k := W.j hD (hjd hgd)
        have e1 : up = xp := by rw [ha, x2] at u2; cases u2; rfl
        have e2 : wp = yp := by rw [hc, y2] at w2; cases w2; rfl
        have e3 : rb = pb := by rw [hb, e1, p2] at r2; cases r2; rfl
        have e4 : sb = qb := by rw [hd, e2, q2] at s2; cases s2; rfl
        rw [hqa, hz, e3, e4, hqb] at h
        simp at h
      · refine ⟨xp.length - (k + 1), (W.step hD hlt2).1, ?_⟩
        rw [hJ2]
        subst hD
        exact ⟨k + 1, _, rfl, rfl, (W.step rfl hlt2).2⟩
    · refine ⟨l.length - (i + 1), (V.step hD hlt).1, ?_⟩
      rw [hJ]
      subst hD
      exact ⟨i + 1, _, rfl, rfl, (V.step rfl hlt).2⟩
  · intro r hr
    cbv
    exact finBool hD hr
end Go.Proofs.YtfchfhjpldppjaaGreatDoor
namespace Go.Proofs.YtfchfhjpldppjaaGreatDoor
open Go Go.Sx Go.ChangeShapes Go.WideShapes Go.RowKit
set_option maxRecDepth 100000
/-! TokensCase: from the function's contract to the card. -/
theorem tokensCase_lifted (os : Os) (started : os.Started) (H : Type) (enc : TypeId × Value → H) :
    ReturnsInHanded {} Tryz.checked os 8 .any (fun w args => (Rows.tokensCaseSpec.pre enc Tryz.prog Tryz.f8 [] false w args ∧ laidMetH Tryz.prog laidV w) ∧ sizedMet enc Tryz.prog Tryz.f8 (OpenSpec.ofChange Rows.tokensCaseSpec) false w args)
      (Rows.tokensCaseSpec.post enc Tryz.prog Tryz.f8 false true false false) := by
  refine returnsInHanded_of_change_and (C := Tryz.checked) (X := fun w _ => laidMetH Tryz.prog laidV w) (fun _ _ _ hh h => h.of_heap hh) kOwn started (by kernel_rfl) Tryz.func8
    (ChangeSpec.witness_shaped (enc := enc) (C := Tryz.checked) (os := os) (X := fun w _ => laidMetH Tryz.prog laidV w) false (World.laidAll Tryz.prog os laidV) #[.string ⟨#[]⟩, .string ⟨#[]⟩] 8 (World.laidAll_os _ _ _) (World.shaped_of_ZipB (by kernel_rfl) (by kernel_rfl)) (by kernel_rfl) (by kernel_rfl) (by kernel_rfl) (door_met os _)) ?_
  intro W base args ds gs before hval0 hW _ _ hL _
  have hval : ∀ (j : Nat) t v, Tryz.f8.params[j]? = some t → args[j]? = some v → Value.okWide Tryz.prog W .any base t v := hval0
  obtain ⟨p, q, hA, hV, _⟩ := id hW
  have hA' : DataW.TrodAll enc Tryz.prog W 0 (fun _ => true) true Tryz.f8.params.toList args.toList ds p := hA
  rw [Tryz.params8] at hA' hval
  obtain ⟨v0, v1, d0, d1, p0, p1, rfl, rfl, _, h0, h1⟩ := trodAll_two hA'
  obtain ⟨fuel0, h0⟩ := h0
  obtain ⟨x0, hx0⟩ := open9 H enc W _ _ _ _ _ h0
  have r0 := arg_string Tryz.underlying9 (hval 0 9 v0 rfl rfl) hx0
  obtain ⟨fuel1, h1⟩ := h1
  obtain ⟨x1, hx1⟩ := open9 H enc W _ _ _ _ _ h1
  have r1 := arg_string Tryz.underlying9 (hval 1 9 v1 rfl rfl) hx1
  obtain ⟨r, ls', hK, hcalls⟩ := tokensCase_ok.2 [.str x0.1, .str x1.1] [] (fun r ls => r = .bool (.a true) ∧ ls = []) ⟨x0.1, x1.1, rfl, rfl, str_fit x0, str_fit x1, fun r hr => ⟨by rw [hr], rfl⟩⟩
  obtain ⟨rfl, rfl⟩ := hK
  have hrun := law_run (W := W) (args := [v0, v1]) hcalls gl_of rfl (ro2 r0 r1)
  refine hrun.mono fun e W' hq => ⟨_, hq.1, law_post kLaidOut (tb := 4) ?_ rfl (by kernel_rfl) Tryz.underlying4 hW ?_ hq.2⟩
  · rw [Tryz.params8]
    intro t ht
    have hall : ([9, 9].all fun t => Tryz.prog.readableRec t && decide (t < Tryz.prog.types.size)) = true := by kernel_rfl
    have := List.all_eq_true.1 hall t (by simpa using ht)
    simpa using this
  · have hg : gs = [] := (trodVars_none hV).1
    subst hg
    rfl
theorem tokensCase_said : Rows.TokensCaseSaid :=
  OpenClaim.holds_of_wide 8 Tryz.f8 rfl rfl rfl rfl rfl rfl rfl ⟨rfl, rfl, rfl, rfl, rfl⟩ rfl rfl rfl rfl rfl (by kernel_rfl) Tryz.func8 (by kernel_rfl)
    (of_decide_eq_true (by kernel_rfl)) (by unfold Func.isWrapper; first | (rw [if_pos (by decide +kernel)]; kernel_rfl) | (rw [if_neg (by decide +kernel)]; exact ⟨rfl, rfl⟩))
    (fun os started H enc _ => tokensCase_lifted os started H enc)
theorem tokensCase_holds : Rows.TokensCaseCardSaid :=
  Claim7.holds_tied_plain_at .later [] [.data, .data, .data, .data, .sentinel, .sentinel, .pinned] true (true, "949d5a32386bb23fb42fe4a0dca874791432354f7fa039f85fcf54673b706a44") true
    tokensCase_said (fun _ h => by cases h) (by kernel_rfl) (fun _ h => by cases h) tokensCase_row_tie rfl ⟨rfl, rfl⟩ (by kernel_rfl) rfl
    (fun f fn hf hfn => by
      obtain rfl : f = 8 := Option.some.inj ((show Tryz.prog.funcNamed "spillway/spillwaylaw05.TokensCase" = some 8 by kernel_rfl).symm.trans hf) |>.symm
      obtain rfl : fn = Tryz.f8 := (Option.some.inj (Tryz.func8.symm.trans hfn)).symm
      exact ⟨by kernel_rfl, fun j t ht => by
        rw [Tryz.params8] at ht
        have hm : t ∈ [9, 9] := by simpa using Array.mem_of_getElem? ht
        have hall : ([9, 9].all fun u => !Tryz.prog.wantsStandIn u) = true := by kernel_rfl
        exact (show Tryz.prog.wantsStandIn t = false by simpa using List.all_eq_true.1 hall t hm)⟩)
    (by kernel_rfl)
end Go.Proofs.YtfchfhjpldppjaaGreatDoor
