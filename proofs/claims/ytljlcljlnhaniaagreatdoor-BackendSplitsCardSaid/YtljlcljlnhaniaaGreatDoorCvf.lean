/- Part of the proof of the statement: an evaluator of the code at closed data, run by the kernel, and that it is sound; it has no conditions of its own. -/
import Derived.Test.YtljlcljlnhaniaaGreatDoorCve
set_option linter.unusedVariables false
set_option linter.unusedSimpArgs false
/- Drawn regions: masks; the plan. -/
namespace Go.Cv
open Go Go.RowKit
theorem bit_eq (m j : Nat) : bit m j = m.testBit j := by
  show Nat.beq (Nat.land (Nat.shiftRight m j) 1) 1 = m.testBit j
  have e1 : Nat.land (Nat.shiftRight m j) 1 = (m >>> j) % 2 := by
    show (m >>> j) &&& 1 = _
    rw [Nat.and_one_is_mod]
  rw [e1]
  have e2 : m.testBit j = decide ((m >>> j) % 2 = 1) := by
    rw [Nat.testBit_eq_decide_div_mod_eq, Nat.shiftRight_eq_div_pow]
  rw [e2]
  rcases Nat.mod_two_eq_zero_or_one (m >>> j) with h | h <;> rw [h] <;> rfl
theorem bit_or (a b j : Nat) : bit (Nat.lor a b) j = (bit a j || bit b j) := by
  rw [bit_eq, bit_eq, bit_eq]; exact Nat.testBit_or a b j
theorem bit_one (i j : Nat) : bit (Nat.shiftLeft 1 i) j = decide (i = j) := by
  rw [bit_eq]
  show (1 <<< i).testBit j = _
  rw [Nat.one_shiftLeft, Nat.testBit_two_pow]
theorem bit_zero (j : Nat) : bit 0 j = false := by rw [bit_eq]; exact Nat.zero_testBit j
theorem bit_set (m i j : Nat) : bit (Nat.lor m (Nat.shiftLeft 1 i)) j = upd (bit m) i j := by
  rw [bit_or, bit_one]
  unfold upd
  by_cases h : i = j
  · subst h; simp
  · rw [if_neg (Ne.symm h)]; simp [h]
theorem sub_iff (d m : Nat) : Nat.beq (Nat.land d m) d = true ↔ ∀ j, bit d j = true → bit m j = true := by
  rw [beq_iff]
  constructor
  · intro h j hj
    rw [bit_eq] at hj ⊢
    have : (Nat.land d m).testBit j = d.testBit j := by rw [h]
    rw [show (Nat.land d m) = d &&& m from rfl, Nat.testBit_and, hj] at this
    simpa using this
  · intro h
    apply Nat.eq_of_testBit_eq
    intro j
    rw [show (Nat.land d m) = d &&& m from rfl, Nat.testBit_and]
    have := h j
    rw [bit_eq, bit_eq] at this
    cases hd : d.testBit j
    · rfl
    · rw [this hd]; rfl
theorem depM_iff : ∀ (l : List Edge) (i : Nat), bit (depM l) i = true ↔ ∃ e ∈ l, Region.binds .any e = true ∧ e.on = i
  | [], i => by rw [show depM [] = 0 from rfl, bit_zero]; simp
  | e :: l, i => by
    have ih := depM_iff l i
    have h : depM (e :: l) = bif Region.binds .any e then Nat.lor (Nat.shiftLeft 1 e.on) (depM l) else depM l := rfl
    rw [h]
    cases hb : Region.binds .any e
    · rw [show (bif false then Nat.lor (Nat.shiftLeft 1 e.on) (depM l) else depM l) = depM l from rfl, ih]
      constructor
      · rintro ⟨x, h1, h2⟩; exact ⟨x, by simp [h1], h2⟩
      · rintro ⟨x, h1, h2⟩
        rcases List.mem_cons.1 h1 with rfl | h1
        · rw [hb] at h2; cases h2.1
        · exact ⟨x, h1, h2⟩
    · rw [show (bif true then Nat.lor (Nat.shiftLeft 1 e.on) (depM l) else depM l) = Nat.lor (Nat.shiftLeft 1 e.on) (depM l) from rfl, bit_or, bit_one, Bool.or_eq_true, decide_eq_true_eq, ih]
      constructor
      · rintro (rfl | ⟨x, h1, h2⟩)
        · exact ⟨e, by simp, hb, rfl⟩
        · exact ⟨x, by simp [h1], h2⟩
      · rintro ⟨x, h1, h2⟩
        rcases List.mem_cons.1 h1 with rfl | h1
        · exact .inl h2.2
        · exact .inr ⟨x, h1, h2⟩
/-- What an annotated operation says. -/
theorem annot_get (en : En) : ∀ (l : List Oper) (t : Tr Nat) (j : Nat), (annot en l t j).length = l.length ∧ ∀ (i : Nat) (o : Oper), l[i]? = some o → ∃ m, (annot en l t j)[i]? = some ⟨j + i, o, depM o.after.toList, m, kindF en o.op⟩
  | [], t, j => ⟨rfl, fun i o h => by cases h⟩
  | o :: l, t, j => by
    have e : annot en (o :: l) t j = ⟨j, o, depM o.after.toList, farM t o.after.toList, kindF en o.op⟩ :: annot en l (t.set j (farM t o.after.toList)) (j + 1) := by
      have e0 : annot en (o :: l) t j = frcN (farM t o.after.toList) fun m => (⟨j, o, depM o.after.toList, m, kindF en o.op⟩ : An) :: annot en l (t.set j m) (Nat.succ j) := rfl
      rw [e0, frcN_eq]
    obtain ⟨h1, h2⟩ := annot_get en l (t.set j (farM t o.after.toList)) (j + 1)
    rw [e]
    refine ⟨by simp [h1], fun i o' h => ?_⟩
    cases i with
    | zero => cases h; exact ⟨_, rfl⟩
    | succ i =>
      obtain ⟨m, hm⟩ := h2 i o' (by simpa using h)
      exact ⟨m, by rw [List.getElem?_cons_succ, hm]; congr 2; omega⟩
end Go.Cv
/- Drawn regions: what the plan says. -/
namespace Go.Cv
open Go Go.RowKit
/-- A plan, where these have been: whatever floats comes as soon as it may; of the others one alone may come. -/
inductive PlanR (en : En) (ops : Array Oper) (anns : List An) : (Nat → Bool) → List PE → Prop
  | nil {de : Nat → Bool} (h : ∀ i, i < ops.size → de i = true) : PlanR en ops anns de []
  | fl {de : Nat → Bool} {e : PE} {l : List PE} (hr : Rdy ops de e.j) (ho : ops[e.j]? = some e.o) (hk : kindF en e.o.op ≠ 0) (hre : e.re = []) (h : PlanR en ops anns (upd de e.j) l) : PlanR en ops anns de (e :: l)
  | so {de : Nat → Bool} {e : PE} {l : List PE} {a : An} (hr : Rdy ops de e.j) (ho : ops[e.j]? = some e.o) (hk : kindF en e.o.op = 0) (hu : ∀ i, Rdy ops de i → i = e.j) (ha : anns[e.j]? = some a)
      (hre : ∀ b ∈ anns, de b.j = true → b.kd = 1 → bit a.tm b.j = false → b.o ∈ e.re) (h : PlanR en ops anns (upd de e.j) l) : PlanR en ops anns de (e :: l)

theorem pickF_some {mask : Nat} : ∀ {l : List An} {a : An}, pickF mask l = some a → a ∈ l ∧ a.kd ≠ 0 ∧ (∀ i, bit a.dm i = true → bit mask i = true) ∧ bit mask a.j = false
  | [], a, h => by cases h
  | b :: l, a, h => by
    have e : pickF mask (b :: l) = bif !Nat.beq b.kd 0 && Nat.beq (Nat.land b.dm mask) b.dm && !bit mask b.j then some b else pickF mask l := rfl
    rw [e] at h
    cases hc : (!Nat.beq b.kd 0 && Nat.beq (Nat.land b.dm mask) b.dm && !bit mask b.j) <;> rw [hc] at h
    · obtain ⟨h1, h2⟩ := pickF_some (l := l) h
      exact ⟨by simp [h1], h2⟩
    · cases h
      simp only [Bool.and_eq_true, Bool.not_eq_true'] at hc
      exact ⟨by simp, fun e => (by rw [e] at hc; cases hc.1.1), (sub_iff _ _).1 hc.1.2, hc.2⟩
theorem pickF_none {mask : Nat} : ∀ {l : List An}, pickF mask l = none → ∀ a ∈ l, a.kd ≠ 0 → (∀ i, bit a.dm i = true → bit mask i = true) → bit mask a.j = false → False
  | [], _, a, ha, _, _, _ => by cases ha
  | b :: l, h, a, ha, h1, h2, h3 => by
    have e : pickF mask (b :: l) = bif !Nat.beq b.kd 0 && Nat.beq (Nat.land b.dm mask) b.dm && !bit mask b.j then some b else pickF mask l := rfl
    rw [e] at h
    cases hc : (!Nat.beq b.kd 0 && Nat.beq (Nat.land b.dm mask) b.dm && !bit mask b.j) <;> rw [hc] at h
    · rcases List.mem_cons.1 ha with rfl | ha
      · have : (!Nat.beq a.kd 0 && Nat.beq (Nat.land a.dm mask) a.dm && !bit mask a.j) = true := by
          simp only [Bool.and_eq_true, Bool.not_eq_true']
          refine ⟨⟨?_, (sub_iff _ _).2 h2⟩, h3⟩
          cases hb : Nat.beq a.kd 0
          · rfl
          · exact (h1 ((beq_iff _ _).1 hb)).elim
        rw [hc] at this; cases this
      · exact pickF_none (l := l) h a ha h1 h2 h3
    · cases h
theorem readyC_mem {mask : Nat} : ∀ {l : List An} (a : An), a ∈ readyC mask l ↔ a ∈ l ∧ a.kd = 0 ∧ (∀ i, bit a.dm i = true → bit mask i = true) ∧ bit mask a.j = false
  | [], a => by simp [readyC]
  | b :: l, a => by
    have e : readyC mask (b :: l) = bif Nat.beq b.kd 0 && Nat.beq (Nat.land b.dm mask) b.dm && !bit mask b.j then b :: readyC mask l else readyC mask l := rfl
    have ih := readyC_mem (mask := mask) (l := l) a
    rw [e]
    have hiff : (Nat.beq b.kd 0 && Nat.beq (Nat.land b.dm mask) b.dm && !bit mask b.j) = true ↔ b.kd = 0 ∧ (∀ i, bit b.dm i = true → bit mask i = true) ∧ bit mask b.j = false := by
      simp only [Bool.and_eq_true, Bool.not_eq_true', beq_iff]
      rw [and_assoc]
      constructor
      · rintro ⟨h1, h2, h3⟩; exact ⟨h1, (sub_iff _ _).1 ((beq_iff _ _).2 h2), h3⟩
      · rintro ⟨h1, h2, h3⟩; exact ⟨h1, (beq_iff _ _).1 ((sub_iff _ _).2 h2), h3⟩
    cases hc : (Nat.beq b.kd 0 && Nat.beq (Nat.land b.dm mask) b.dm && !bit mask b.j)
    · rw [show (bif false then b :: readyC mask l else readyC mask l) = readyC mask l from rfl, ih]
      constructor
      · rintro ⟨h1, h2⟩; exact ⟨by simp [h1], h2⟩
      · rintro ⟨h1, h2⟩
        rcases List.mem_cons.1 h1 with rfl | h1
        · rw [hiff.2 h2] at hc; cases hc
        · exact ⟨h1, h2⟩
    · rw [show (bif true then b :: readyC mask l else readyC mask l) = b :: readyC mask l from rfl, List.mem_cons, ih]
      constructor
      · rintro (rfl | ⟨h1, h2⟩)
        · exact ⟨by simp, hiff.1 hc⟩
        · exact ⟨by simp [h1], h2⟩
      · rintro ⟨h1, h2⟩
        rcases List.mem_cons.1 h1 with rfl | h1
        · exact .inl rfl
        · exact .inr ⟨h1, h2⟩
theorem later_mem (dm : Nat) : ∀ (l : List An) (b : An), b ∈ l → bit dm b.j = false → b.kd ≠ 2 → b.o ∈ later dm l
  | [], b, hb, _, _ => by cases hb
  | a :: l, b, hb, h1, h2 => by
    have e : later dm (a :: l) = bif bit dm a.j || Nat.beq a.kd 2 then later dm l else a.o :: later dm l := rfl
    rw [e]
    rcases List.mem_cons.1 hb with rfl | hb
    · have : (bit dm b.j || Nat.beq b.kd 2) = false := by
        rw [h1]
        cases hc : Nat.beq b.kd 2
        · rfl
        · exact (h2 ((beq_iff _ _).1 hc)).elim
      rw [this]; exact List.mem_cons_self
    · have := later_mem dm l b hb h1 h2
      cases (bit dm a.j || Nat.beq a.kd 2)
      · exact List.mem_cons_of_mem _ this
      · exact this

/-- The annotated operations are those of the region. -/
structure AnnOk (en : En) (ops : Array Oper) (anns : List An) : Prop where
  mem : ∀ a ∈ anns, ops[a.j]? = some a.o ∧ a.dm = depM a.o.after.toList ∧ a.kd = kindF en a.o.op ∧ anns[a.j]? = some a
  get : ∀ i, i < ops.size → ∃ a ∈ anns, a.j = i
theorem annot_ok (en : En) (ops : Array Oper) : AnnOk en ops (annot en ops.toList .e 0) := by
  obtain ⟨h1, h2⟩ := annot_get en ops.toList .e 0
  constructor
  · intro a ha
    obtain ⟨i, hi⟩ := List.mem_iff_getElem?.1 ha
    have hlt : i < ops.toList.length := by rw [← h1]; exact (List.getElem?_eq_some_iff.1 hi).1
    obtain ⟨m, hm⟩ := h2 i _ (List.getElem?_eq_getElem hlt)
    rw [hm] at hi
    cases hi
    rw [Nat.zero_add]
    refine ⟨?_, rfl, rfl, by rw [hm, Nat.zero_add]⟩
    rw [← Array.getElem?_toList]
    exact List.getElem?_eq_getElem hlt
  · intro i hi
    have hlt : i < ops.toList.length := by simpa using hi
    obtain ⟨m, hm⟩ := h2 i _ (List.getElem?_eq_getElem hlt)
    exact ⟨_, List.mem_of_getElem? hm, Nat.zero_add i⟩
theorem AnnOk.rdy {en : En} {ops : Array Oper} {anns : List An} (A : AnnOk en ops anns) {a : An} (ha : a ∈ anns) (mask : Nat) : Rdy ops (bit mask) a.j ↔ (∀ i, bit a.dm i = true → bit mask i = true) ∧ bit mask a.j = false := by
  obtain ⟨h1, h2, _, _⟩ := A.mem a ha
  constructor
  · rintro ⟨_, r2, r3⟩
    refine ⟨fun i hi => ?_, r2⟩
    rw [h2, depM_iff] at hi
    obtain ⟨e, he, hb, rfl⟩ := hi
    exact r3 _ h1 e (by simpa using he) hb
  · rintro ⟨r1, r2⟩
    refine ⟨(Array.getElem?_eq_some_iff.1 h1).1, r2, fun o ho e he hb => ?_⟩
    rw [h1] at ho; cases ho
    exact r1 _ (by rw [h2, depM_iff]; exact ⟨e, by simpa using he, hb, rfl⟩)
theorem planF_ok {en : En} {ops : Array Oper} {anns : List An} (A : AnnOk en ops anns) : ∀ (n mask : Nat) (fls : List An) (l : List PE), (∀ b ∈ anns, bit mask b.j = true → b.kd ≠ 0 → b ∈ fls) → planF anns n mask fls = some l → PlanR en ops anns (bit mask) l
  | 0, mask, fls, l, hf, h => by
    replace h : (bif allL (fun (a : An) => bit mask a.j) anns then some [] else none) = some l := h
    cases hb : allL (fun (a : An) => bit mask a.j) anns <;> rw [hb] at h <;> cases h
    refine .nil fun i hi => ?_
    obtain ⟨a, ha, rfl⟩ := A.get i hi
    exact (allL_iff _ _).1 hb a ha
  | n + 1, mask, fls, l, hf, h => by
    have hupd : ∀ j, bit (Nat.lor mask (Nat.shiftLeft 1 j)) = upd (bit mask) j := fun j => funext fun i => bit_set mask j i
    have e : planF anns (n + 1) mask fls = match pickF mask anns with
      | some a => match planF anns n (Nat.lor mask (Nat.shiftLeft 1 a.j)) (a :: fls) with
        | some l => some (⟨a.j, a.o, []⟩ :: l)
        | none => none
      | none => match readyC mask anns with
        | [a] => match planF anns n (Nat.lor mask (Nat.shiftLeft 1 a.j)) fls with
          | some l => some (⟨a.j, a.o, later a.tm fls⟩ :: l)
          | none => none
        | _ => none := rfl
    rw [e] at h
    split at h
    · rename_i a hp
      obtain ⟨p1, p2, p3, p4⟩ := pickF_some hp
      obtain ⟨a1, a2, a3, a4⟩ := A.mem a p1
      split at h
      · rename_i l' hl'
        cases h
        have ih := planF_ok A n _ _ l' (fun b hb hbit hk => by
          rw [hupd] at hbit
          unfold upd at hbit
          split at hbit
          · rename_i hj
            obtain ⟨_, _, _, b4⟩ := A.mem b hb
            rw [hj, a4] at b4
            cases b4
            exact List.mem_cons_self
          · exact List.mem_cons_of_mem _ (hf b hb hbit hk)) hl'
        rw [hupd] at ih
        exact .fl ((A.rdy p1 mask).2 ⟨p3, p4⟩) a1 (by rw [← a3]; exact p2) rfl ih
      · cases h
    · rename_i hp
      split at h
      · rename_i a hr
        have hmem := (readyC_mem (mask := mask) (l := anns) a).1 (by rw [hr]; exact List.mem_cons_self)
        obtain ⟨p1, p2, p3, p4⟩ := hmem
        obtain ⟨a1, a2, a3, a4⟩ := A.mem a p1
        split at h
        · rename_i l' hl'
          cases h
          have ih := planF_ok A n _ _ l' (fun b hb hbit hk => by
            rw [hupd] at hbit
            unfold upd at hbit
            split at hbit
            · rename_i hj
              obtain ⟨_, _, _, b4⟩ := A.mem b hb
              rw [hj, a4] at b4
              cases b4
              exact (hk p2).elim
            · exact hf b hb hbit hk) hl'
          rw [hupd] at ih
          refine .so (a := a) ((A.rdy p1 mask).2 ⟨p3, p4⟩) a1 (by rw [← a3]; exact p2) (fun i hi => ?_) a4 (fun b hb hbit hk ht => ?_) ih
          · obtain ⟨b, hb, rfl⟩ := A.get i hi.1
            obtain ⟨r1, r2⟩ := (A.rdy hb mask).1 hi
            by_cases hk : b.kd = 0
            · have := (readyC_mem (mask := mask) (l := anns) b).2 ⟨hb, hk, r1, r2⟩
              rw [hr, List.mem_singleton] at this
              rw [this]
            · exact (pickF_none hp b hb hk r1 r2).elim
          · exact later_mem _ _ b (hf b hb hbit (by rw [hk]; decide)) ht (by rw [hk]; decide)
        · cases h
      · cases h
/-- What 'plan' has found. -/
theorem plan_ok {en : En} {ops : Array Oper} {l : List PE} (h : plan en ops.toList = some l) : PlanR en ops (annot en ops.toList .e 0) (fun _ => false) l ∧ allL (fineAt ops.toList (annot en ops.toList .e 0)) (annot en ops.toList .e 0) = true ∧ ops.toList.length ≤ keyTop := by
  replace h : (bif Nat.ble (len ops.toList) keyTop && allL (fineAt ops.toList (annot en ops.toList .e 0)) (annot en ops.toList .e 0) then planF (annot en ops.toList .e 0) (len ops.toList) 0 [] else none) = some l := h
  cases hb : (Nat.ble (len ops.toList) keyTop && allL (fineAt ops.toList (annot en ops.toList .e 0)) (annot en ops.toList .e 0)) <;> rw [hb] at h
  · cases h
  · rw [Bool.and_eq_true, ble_iff, len_eq] at hb
    have := planF_ok (annot_ok en ops) _ 0 [] l (fun b _ hbit _ => by rw [bit_zero] at hbit; cases hbit) h
    rw [show bit 0 = fun _ => false from funext bit_zero] at this
    exact ⟨this, hb.2, hb.1⟩
end Go.Cv
/- Drawn regions: what an operation waits for, in the end. -/
namespace Go.Cv
open Go Go.RowKit
/-- It waits for that one. -/
def Dep (ops : Array Oper) (i b : Nat) : Prop := ∃ o, ops[i]? = some o ∧ ∃ e ∈ o.after, Region.binds .any e = true ∧ e.on = b
/-- In the end. -/
inductive Anc (ops : Array Oper) : Nat → Nat → Prop
  | one {i b : Nat} (h : Dep ops i b) : Anc ops i b
  | far {i c b : Nat} (h : Dep ops i c) (hc : Anc ops c b) : Anc ops i b
/-- With each, what it waits for. -/
def Closed (ops : Array Oper) (done : Nat → Bool) : Prop := ∀ i b, done i = true → Dep ops i b → done b = true
theorem Closed.anc {ops : Array Oper} {done : Nat → Bool} (h : Closed ops done) {i b : Nat} (hi : done i = true) (ha : Anc ops i b) : done b = true := by
  induction ha with
  | one hd => exact h _ _ hi hd
  | far hd _ ih => exact ih (h _ _ hi hd)
theorem Rdy.dep {ops : Array Oper} {done : Nat → Bool} {i b : Nat} (h : Rdy ops done i) (hd : Dep ops i b) : done b = true := by
  obtain ⟨o, ho, e, he, hb, rfl⟩ := hd
  exact h.2.2 o ho e he hb
theorem Rdy.anc {ops : Array Oper} {done : Nat → Bool} (hc : Closed ops done) {i b : Nat} (h : Rdy ops done i) (ha : Anc ops i b) : done b = true := by
  cases ha with
  | one hd => exact h.dep hd
  | far hd ha => exact hc.anc (h.dep hd) ha
theorem Closed.upd {ops : Array Oper} {done : Nat → Bool} (hc : Closed ops done) {i : Nat} (h : Rdy ops done i) : Closed ops (Cv.upd done i) := fun j b hj hd => by
  unfold Cv.upd at hj ⊢
  by_cases hb : b = i
  · rw [if_pos hb]
  · rw [if_neg hb]
    split at hj
    · rename_i he; subst he; exact h.dep hd
    · exact hc j b hj hd
theorem closed_none (ops : Array Oper) : Closed ops (fun _ => false) := fun _ _ h => by cases h
theorem Rdy.more {ops : Array Oper} {done done' : Nat → Bool} {i : Nat} (h : Rdy ops done i) (hs : ∀ j, done j = true → done' j = true) (hn : done' i = false) : Rdy ops done' i :=
  ⟨h.1, hn, fun o ho e he hb => hs _ (h.2.2 o ho e he hb)⟩
theorem farM_anc {ops : Array Oper} {t : Tr Nat} {i : Nat} {o : Oper} (ho : ops[i]? = some o) (ht : ∀ k m, t.get k = some m → ∀ b, bit m b = true → Anc ops k b) : ∀ (l : List Edge), (∀ e ∈ l, e ∈ o.after) → ∀ b, bit (farM t l) b = true → Anc ops i b
  | [], _, b, h => by rw [show farM t [] = 0 from rfl, bit_zero] at h; cases h
  | e :: l, hl, b, h => by
    have ih := farM_anc ho ht l (fun x hx => hl x (by simp [hx]))
    have he : farM t (e :: l) = bif Region.binds .any e then Nat.lor (Nat.lor (Nat.shiftLeft 1 e.on) (match t.get e.on with | some m => m | none => 0)) (farM t l) else farM t l := rfl
    rw [he] at h
    cases hb : Region.binds .any e <;> rw [hb] at h
    · exact ih b h
    · have h : bit (Nat.lor (Nat.lor (Nat.shiftLeft 1 e.on) (match t.get e.on with | some m => m | none => 0)) (farM t l)) b = true := h
      rw [bit_or, bit_or, bit_one, Bool.or_eq_true, Bool.or_eq_true, decide_eq_true_eq] at h
      have hd : Dep ops i e.on := ⟨o, ho, e, hl e (by simp), hb, rfl⟩
      rcases h with (h | h) | h
      · exact h ▸ .one hd
      · split at h
        · rename_i m hm
          exact .far hd (ht _ m hm b h)
        · rw [bit_zero] at h; cases h
      · exact ih b h
theorem annot_tm (en : En) {ops : Array Oper} : ∀ (l : List Oper) (t : Tr Nat) (j : Nat), j + l.length ≤ keyTop → (∀ (i : Nat) (o : Oper), l[i]? = some o → ops[j + i]? = some o) → (∀ k m, t.get k = some m → ∀ b, bit m b = true → Anc ops k b) →
    ∀ a ∈ annot en l t j, ∀ b, bit a.tm b = true → Anc ops a.j b
  | [], t, j, _, _, _, a, ha, _, _ => by cases ha
  | o :: l, t, j, hk, hl, ht, a, ha, b, hb => by
    have e0 : annot en (o :: l) t j = frcN (farM t o.after.toList) fun m => (⟨j, o, depM o.after.toList, m, kindF en o.op⟩ : An) :: annot en l (t.set j m) (Nat.succ j) := rfl
    rw [e0, frcN_eq] at ha
    simp only [List.length_cons] at hk
    have hfar := farM_anc (hl 0 o rfl) ht o.after.toList (fun e he => by simpa using he)
    rcases List.mem_cons.1 ha with rfl | ha
    · exact hfar b hb
    · refine annot_tm en l _ (j + 1) (by omega) (fun i o' h => ?_) (fun k m h => ?_) a ha b hb
      · have := hl (i + 1) o' (by simpa using h)
        rw [show j + 1 + i = j + (i + 1) by omega]; exact this
      · rw [Tr.get_set _ _ (by omega)] at h
        split at h
        · rename_i he
          cases h
          rw [he]
          exact hfar
        · exact ht k m h
end Go.Cv
/- Drawn regions: what a float has given. -/
namespace Go.Cv
open Go Go.RowKit
/-- It gives what lies in its slot. -/
def AgainP (en : En) (hp : Tr CO) (fr : Tr CV) (ops : List Oper) (o : Oper) : Prop :=
  (want fr ops o = some false ∧ ∀ t, o.dst = some t → getT fr t = .u) ∨ (want fr ops o = some true ∧ ∃ v, flt en hp fr o = some v ∧ ∀ t, o.dst = some t → getT fr t = v)
theorem isU_eq {v : CV} (h : isU v = true) : v = .u := by cases v <;> first | rfl | cases h
theorem again_ok {en : En} {hp : Tr CO} {fr : Tr CV} {ops : List Oper} {o : Oper} (h : again en hp fr ops o = true) : AgainP en hp fr ops o := by
  unfold again at h
  split at h
  · cases h
  · rename_i hw
    refine .inl ⟨hw, fun t ht => ?_⟩
    rw [ht] at h
    exact isU_eq h
  · rename_i hw
    unfold againV at h
    split at h
    · cases h
    · rename_i v hv
      refine .inr ⟨hw, v, hv, fun t ht => ?_⟩
      rw [ht] at h
      exact (sameC_eq 6 _ _ h).symm
/-- The guard's slot alone matters. -/
theorem want_congr {fr fr' : Tr CV} {ops : List Oper} {o : Oper} (h : ∀ g wt t, o.guard = some (g, wt) → dstAt ops g = some t → getT fr t = getT fr' t) : want fr ops o = want fr' ops o := by
  unfold want
  cases hg : o.guard with
  | none => rfl
  | some q =>
    obtain ⟨g, wt⟩ := q
    show (match dstAt ops g with | none => none | some t => wantB wt (getT fr t)) = (match dstAt ops g with | none => none | some t => wantB wt (getT fr' t))
    cases hd : dstAt ops g with
    | none => rfl
    | some t => show wantB wt (getT fr t) = wantB wt (getT fr' t); rw [h g wt t hg hd]
/-- It gives the same with more objects, and where its operands, its guard and its slot are as they were. -/
theorem AgainP.move {en : En} {hp hp' : Tr CO} {fr fr' : Tr CV} {ops : List Oper} {o : Oper} (h : AgainP en hp fr ops o) (M : More hp hp') (ha : Alike en fr fr' o.op.operands.toList) (hg : ∀ g wt t, o.guard = some (g, wt) → dstAt ops g = some t → getT fr t = getT fr' t) (hd : ∀ t, o.dst = some t → getT fr t = getT fr' t) : AgainP en hp' fr' ops o := by
  rcases h with ⟨h1, h2⟩ | ⟨h1, v, h2, h3⟩
  · exact .inl ⟨by rw [← want_congr hg]; exact h1, fun t ht => by rw [← hd t ht]; exact h2 t ht⟩
  · exact .inr ⟨by rw [← want_congr hg]; exact h1, v, by rw [← flt_congr ha]; exact flt_more M h2, fun t ht => by rw [← hd t ht]; exact h3 t ht⟩
/-- Slots that an operation reads: none of them has another value, so it is alike. -/
theorem mem_tmpsOf {t : Nat} : ∀ {l : List Operand}, t ∈ tmpsOf l ↔ Operand.tmp t ∈ l
  | [] => by simp [tmpsOf]
  | x :: l => by
    have ih := mem_tmpsOf (t := t) (l := l)
    have e : tmpsOf (x :: l) = match x with | .tmp t => t :: tmpsOf l | _ => tmpsOf l := by cases x <;> rfl
    rw [e]
    cases x <;> simp [ih]
theorem alike_of {en : En} {fr fr' : Tr CV} {ops : List Oper} {o : Oper} (h : ∀ t ∈ reads ops o, getT fr t = getT fr' t) : Alike en fr fr' o.op.operands.toList ∧ ∀ g wt t, o.guard = some (g, wt) → dstAt ops g = some t → getT fr t = getT fr' t := by
  constructor
  · intro x hx
    cases x with
    | tmp t =>
      have hm : t ∈ tmpsOf o.op.operands.toList := mem_tmpsOf.2 hx
      have : t ∈ reads ops o := by
        unfold reads
        split
        · exact hm
        · split
          · exact List.mem_cons_of_mem _ hm
          · exact hm
      exact h t this
    | _ => rfl
  · intro g wt t hg hd
    refine h t ?_
    unfold reads
    rw [hg]
    show t ∈ (match dstAt ops g with | some t => t :: tmpsOf o.op.operands.toList | none => tmpsOf o.op.operands.toList)
    rw [hd]
    exact List.mem_cons_self
end Go.Cv
/- Drawn regions: who reads what floats. -/
namespace Go.Cv
open Go Go.RowKit
theorem fineAt_iff {ops : List Oper} {anns : List An} {x y : An} {t : Nat} (h : allL (fineAt ops anns) anns = true) (hx : x ∈ anns) (hy : y ∈ anns) (hne : y.j ≠ x.j) (hd : y.o.dst = some t) : fineR x y t (reads ops x.o) = true := by
  have h1 := (allL_iff _ _).1 h x hx
  have h2 := (allL_iff _ _).1 h1 y hy
  have e : (match y.o.dst with | none => true | some t => bif Nat.beq y.j x.j then (bif Nat.beq x.kd 0 then true else !hasN t (reads ops x.o)) else fineR x y t (reads ops x.o)) = true := h2
  have hb : Nat.beq y.j x.j = false := by
    cases hb : Nat.beq y.j x.j
    · rfl
    · exact (hne ((beq_iff _ _).1 hb)).elim
  rw [hd] at e
  have e : (bif Nat.beq y.j x.j then (bif Nat.beq x.kd 0 then true else !hasN t (reads ops x.o)) else fineR x y t (reads ops x.o)) = true := e
  rw [hb] at e
  exact e
/-- What floats does not read where it writes. -/
theorem fine_own {ops : List Oper} {anns : List An} {x : An} {t : Nat} (h : allL (fineAt ops anns) anns = true) (hx : x ∈ anns) (hk : x.kd ≠ 0) (hd : x.o.dst = some t) : t ∉ reads ops x.o := by
  have h1 := (allL_iff _ _).1 h x hx
  have h2 := (allL_iff _ _).1 h1 x hx
  have e : (match x.o.dst with | none => true | some t => bif Nat.beq x.j x.j then (bif Nat.beq x.kd 0 then true else !hasN t (reads ops x.o)) else fineR x x t (reads ops x.o)) = true := h2
  rw [hd] at e
  have e : (bif Nat.beq x.j x.j then (bif Nat.beq x.kd 0 then true else !hasN t (reads ops x.o)) else fineR x x t (reads ops x.o)) = true := e
  have hk0 : Nat.beq x.kd 0 = false := by
    cases hb : Nat.beq x.kd 0
    · rfl
    · exact (hk ((beq_iff _ _).1 hb)).elim
  rw [(beq_iff x.j x.j).2 rfl, hk0] at e
  have e : (!hasN t (reads ops x.o)) = true := e
  intro hm
  rw [(hasN_iff t _).2 hm] at e
  cases e
/-- What floats is read by those alone that wait for it, and nothing else writes where it writes. -/
theorem fine_fl {ops : List Oper} {anns : List An} {x y : An} {t : Nat} (h : allL (fineAt ops anns) anns = true) (hx : x ∈ anns) (hy : y ∈ anns) (hne : y.j ≠ x.j) (hk : y.kd ≠ 0) (hd : y.o.dst = some t) :
    (t ∈ reads ops x.o → bit x.tm y.j = true) ∧ x.o.dst ≠ some t := by
  have hf := fineAt_iff h hx hy hne hd
  have hk0 : Nat.beq y.kd 0 = false := by
    cases hb : Nat.beq y.kd 0
    · rfl
    · exact (hk ((beq_iff _ _).1 hb)).elim
  have e : ((bif hasN t (reads ops x.o) then bit x.tm y.j else true) && (match x.o.dst with | some t' => !Nat.beq t t' | none => true)) = true := by
    have : fineR x y t (reads ops x.o) = bif Nat.beq y.kd 0 then (bif Nat.beq x.kd 2 && hasN t (reads ops x.o) then bit x.tm y.j || bit y.tm x.j else true) else (bif hasN t (reads ops x.o) then bit x.tm y.j else true) && (match x.o.dst with | some t' => !Nat.beq t t' | none => true) := rfl
    rw [this, hk0] at hf
    exact hf
  rw [Bool.and_eq_true] at e
  refine ⟨fun hm => ?_, fun he => ?_⟩
  · have := e.1
    rw [(hasN_iff t _).2 hm] at this
    exact this
  · have := e.2
    rw [he] at this
    have : (!Nat.beq t t) = true := this
    rw [(beq_iff t t).2 rfl] at this
    cases this
/-- What draws a block reads nothing that may yet be written. -/
theorem fine_two {ops : List Oper} {anns : List An} {x y : An} {t : Nat} (h : allL (fineAt ops anns) anns = true) (hx : x ∈ anns) (hy : y ∈ anns) (hne : y.j ≠ x.j) (hk : y.kd = 0) (hk2 : x.kd = 2) (hd : y.o.dst = some t) (hr : t ∈ reads ops x.o) :
    bit x.tm y.j = true ∨ bit y.tm x.j = true := by
  have hf := fineAt_iff h hx hy hne hd
  have : fineR x y t (reads ops x.o) = bif Nat.beq y.kd 0 then (bif Nat.beq x.kd 2 && hasN t (reads ops x.o) then bit x.tm y.j || bit y.tm x.j else true) else (bif hasN t (reads ops x.o) then bit x.tm y.j else true) && (match x.o.dst with | some t' => !Nat.beq t t' | none => true) := rfl
  rw [this, (beq_iff _ _).2 hk, (beq_iff _ _).2 hk2, (hasN_iff t _).2 hr] at hf
  have hf : (bit x.tm y.j || bit y.tm x.j) = true := hf
  rwa [Bool.or_eq_true] at hf
end Go.Cv
/- Drawn regions: blocks that come late. -/
namespace Go.Cv
open Go Go.RowKit
section
variable {S : Sg} {base : Nat} {w0 w : World} {U U' : Nat → Option CO} {ι : Ip} {hp : Tr CO} {nx : Nat}
/-- A variable that the evaluator has drawn already. -/
theorem born_alloc (hS : SOk S) (h : HR S base w0 U ι hp nx w) {t r sz b : Nat} {kd : TK} {zr : List CV} (hT : S.en.T t = some ⟨kd, sz + 1, b, zr⟩) (hl : zr.length ≤ 10000000) (hu : U r = some (.c t (trL zr 0) (len zr) 0 0 false false)) (hU : ∀ r' o', U' r' = some o' → r' ≠ r ∧ U r' = some o') :
    ∃ u w' ι', Ex ι ι' ∧ ((do pure (.value (← Instr.alloc t true (.tuple #[]))) : Sem Next)).run S.P w = .ok (.value u) w' ∧ HR S base w0 U' ι' hp nx w' ∧ VR ι' (.p r 0 0) u := by
  obtain ⟨u1, u2, u3⟩ := h.unb r _ hu
  have hti := hS.T t _ hT
  obtain ⟨zv, hz1, hz2, hz3, hz4, _⟩ := hti.zero ι w
  have hlen : zv.cells.toList.length = zr.length := hz2.1.symm
  have hx : Ex ι (ι.add r 0 ⟨w.heap.size, 0, zv.cells.size⟩) := Ip.add_ex (u2 0)
  have hor : OR S (ι.add r 0 ⟨w.heap.size, 0, zv.cells.size⟩) (w.alloc (.cells zv.cells t)) ⟨w.heap.size, 0, zv.cells.size⟩ 0 (.c t (trL zr 0) (len zr) 0 0 false false) :=
    or_new (L := ⟨w.heap.size, 0, zv.cells.size⟩) (arr := zv.cells) (fz := (0, 0)) (World.alloc_heap_new w _) rfl (Nat.le_refl _) (by rw [len_eq, ← hlen]; simp) (by rw [len_eq]; exact Nat.le_refl _) (by unfold keyTop; omega) (hz2.mono hx) hz3 (fun i u hu => by rw [Array.getElem?_toList] at hu; exact hu) rfl
  refine ⟨.pointer (some ⟨w.heap.size, 0, none⟩), _, _, hx, ?_, h.born u2 u3 u1 hor hU, .p (Ip.add_self _ _ _ _) (Nat.le_refl _)⟩
  simp [Instr.alloc, hz1, newVar, Go.newRow]
/-- Bytes of a string that the evaluator has drawn already. -/
theorem born_strB (h : HR S base w0 U ι hp nx w) {e l n r : Nat} (hl9 : l ≤ 1000000000) (hu : U r = some (.c e (trL (bytesC n l 0) 0) l 0 0 false true)) (hU : ∀ r' o', U' r' = some o' → r' ≠ r ∧ U r' = some o') :
    ∃ u w' ι', Ex ι ι' ∧ ((do pure (.value (← Conv.stringToBytes e (strOf l n))) : Sem Next)).run S.P w = .ok (.value u) w' ∧ HR S base w0 U' ι' hp nx w' ∧ VR ι' (.sl r 0 0 l 1 0) u := by
  obtain ⟨cap, hcap, hch⟩ : ∃ cap, l ≤ cap ∧ (choose (.appendCap (strOf l n).size 0 e)).run S.P w = .ok cap w.drew := by
    refine ⟨_, ?_, by rw [run_choose_drew]; rfl⟩
    show l ≤ (strOf l n).size + _
    rw [strOf_size]; exact Nat.le_add_right _ _
  have hb := bytes_rel (ι := ι) l n
  have hbl : (bytesC n l 0).length = l := by rw [hb.1]; simp [strOf_list, dig_len]
  let arr : Array Value := (strOf l n).data.map (fun b => Value.int .u8 (b.toNat : Int)) ++ Array.replicate (cap - (strOf l n).size) (.int .u8 0)
  have hds : (strOf l n).data.size = l := strOf_size l n
  have harr : arr.size = cap := by
    show (_ ++ _ : Array Value).size = cap
    rw [Array.size_append, Array.size_map, Array.size_replicate, strOf_size, hds]; omega
  have hd : HR S base w0 U ι hp nx w.drew := h.drew
  obtain ⟨u1, u2, u3⟩ := hd.unb r _ hu
  have hsz : w.drew.heap.size = w.heap.size := rfl
  have hnew := hd.born (en := cap) (ob := .cells arr e (arr.size, arr.size + 1)) (U' := U') u2 u3 u1 (o := .c e (trL (bytesC n l 0) 0) l 0 0 false true)
    (or_new (L := ⟨w.drew.heap.size, 0, cap⟩) (World.alloc_heap_new _ _) rfl (by rw [harr]; exact Nat.le_refl _) hcap (by rw [hbl]; exact Nat.le_refl _) (by unfold keyTop; omega) (hb.mono (Ip.add_ex (u2 0))) (fun u hu => by
        obtain ⟨b, _, rfl⟩ := List.mem_map.1 hu; rfl) (fun i u hu => by
        show (_ ++ _ : Array Value)[i]? = some u
        have hlt : i < l := by
          have := (List.getElem?_eq_some_iff.1 hu).1
          rw [List.length_map, strOf_list, dig_len] at this; exact this
        rw [Array.getElem?_append_left (by rw [Array.size_map, hds]; exact hlt), Array.getElem?_map, ← Array.getElem?_toList, ← List.getElem?_map]
        exact hu) (.inr rfl)) hU
  refine ⟨.slice (some ⟨w.heap.size, 0, none⟩) l cap, _, _, Ip.add_ex (u2 0), ?_, hnew, ?_⟩
  · have hsh : (w.drew.alloc (.cells arr e)).shape? w.heap.size = some (e, arr.size) := by
      have := World.alloc_heap_new w.drew (.cells arr e)
      unfold World.shape?
      rw [show (w.drew.alloc (.cells arr e)).heap[w.heap.size]? = some (.cells arr e) from this]
    have hmark : (w.drew.alloc (.cells arr e)).freeze { block := w.heap.size, off := arr.size } 1 = w.drew.alloc (.cells arr e (arr.size, arr.size + 1)) := by
      have : (w.heap.push (.cells arr e)).modify w.heap.size (fun
          | .cells c elem (lo, hi) => .cells c elem (if lo == hi then (arr.size, arr.size + 1) else (min lo arr.size, max hi (arr.size + 1)))
          | o => o) = w.heap.push (.cells arr e (arr.size, arr.size + 1)) := by
        apply Array.ext'
        apply List.ext_getElem?
        intro i
        rw [Array.getElem?_toList, Array.getElem?_toList, Array.getElem?_modify, Array.getElem?_push, Array.getElem?_push]
        by_cases hi : i = w.heap.size
        · simp [hi]
        · simp [hi, Ne.symm hi]
      unfold World.freeze World.alloc
      rw [if_neg (by omega)]
      exact congrArg (fun h => (⟨h, w.drew.tape, w.drew.drawn, w.drew.os, w.drew.output⟩ : World)) this
    have harr2 : arr = ((strOf l n).data.map (fun b => Value.int .u8 (b.toNat : Int)) ++ Array.replicate (cap - (strOf l n).size) (.int .u8 0)) := rfl
    simp only [Conv.stringToBytes, Sem.run_bind, hch, Result.andThen_ok, Go.newRow, run_newObj_alloc, Sem.run_pure, markStringish, run_shape]
    rw [← harr2, show w.drew.heap.size = w.heap.size from rfl, hsh]
    simp only [run_freeze, hmark, Result.andThen_ok, strOf_size]
  · exact .sl (Ip.add_self _ _ _ _) (Nat.le_refl _) (by omega) (by show 0 + cap * 1 ≤ cap; omega) (fun _ => rfl) hcap (fun _ => by show cap = (cap - 0) / 1; simp) (fun k e => by cases e)
end
end Go.Cv
/- Drawn regions: the relation; how they begin. -/
namespace Go.Cv
open Go Go.RowKit
/-- A block that the evaluator has drawn and the model draws later: object r. -/
structure Late (S : Sg) (fr : Tr CV) (o : Oper) (r : Nat) (co : CO) (cv : CV) : Prop where
  run : ∀ {base : Nat} {w0 w : World} {U U' : Nat → Option CO} {ι : Ip} {hp : Tr CO} {nx : Nat} {fr' : Tr CV} {a : Act}, HR S base w0 U ι hp nx w → GR S ι → FR ι fr' a.tmps → Alike S.en fr fr' o.op.operands.toList → U r = some co → (∀ r' o', U' r' = some o' → r' ≠ r ∧ U r' = some o') →
    ∃ u w' ι', Ex ι ι' ∧ (execOp a.eval o).run S.P w = .ok (.value u) w' ∧ HR S base w0 U' ι' hp nx w' ∧ VR ι' cv u
section
variable {S : Sg} {fr fr' : Tr CV} {o : Oper} {r : Nat} {co : CO} {cv : CV}
theorem Late.move (h : Late S fr o r co cv) (ha : Alike S.en fr fr' o.op.operands.toList) : Late S fr' o r co cv :=
  ⟨fun h1 h2 h3 h4 h5 h6 => h.run h1 h2 h3 (fun x hx => (ha x hx).trans (h4 x hx)) h5 h6⟩
theorem late_alloc (hS : SOk S) {t sz b : Nat} {kd : TK} {zr : List CV} (hT : S.en.T t = some ⟨kd, sz + 1, b, zr⟩) (hl : zr.length ≤ 10000000) (ho : o.op = .alloc t) : Late S fr o r (.c t (trL zr 0) (len zr) 0 0 false false) (.p r 0 0) :=
  ⟨fun {base w0 w U U' ι hp nx fr' a} h1 h2 h3 h4 h5 h6 => by
    obtain ⟨u, w', ι', x, e, q, v⟩ := born_alloc hS h1 hT hl h5 h6
    have he : execOp a.eval o = (do pure (.value (← Instr.alloc t true (.tuple #[])))) := by simp [execOp, ho]
    exact ⟨u, w', ι', x, by rw [he]; exact e, q, v⟩⟩
theorem late_strB (hS : SOk S) {s d e l n : Nat} {x : Operand} {n1 b1 n2 b2 : Nat} {z1 z2 : List CV} (ho : o.op = .convert s d x) (hs : sliceT S.en d = some e) (hTs : S.en.T s = some ⟨.string, n1, b1, z1⟩) (hTe : S.en.T e = some ⟨.int .u8, n2, b2, z2⟩) (hx : ev S.en fr x = .s l n) (hl : l ≤ 1000000000) :
    Late S fr o r (.c e (trL (bytesC n l 0) 0) l 0 0 false true) (.sl r 0 0 l 1 0) :=
  ⟨fun {base w0 w U U' ι hp nx fr' a} h1 h2 h3 h4 h5 h6 => by
    obtain ⟨u, w', ι', q1, q2, q3, q4⟩ := born_strB h1 hl h5 h6
    have hX := ev_rel h2 h3 x
    rw [← h4 x (by simp [ho, Op.operands]), hx] at hX
    obtain ⟨hv, _⟩ := hX.s_inv
    have hd := sliceT_ok hS hs
    have hs' := (hS.T s _ hTs).string rfl
    have hu := (hS.T e _ hTe).int rfl
    have he : execOp a.eval o = (do pure (.value (← convert s d (a.eval x)))) := by simp [execOp, ho]
    refine ⟨u, w', ι', q1, ?_, q3, q4⟩
    rw [he, ← q2]
    simp [convert, run_und hs', run_und hd, run_und hu, hv]⟩
end
/-- A float of kind 2 that the model has still to run: nothing, or an object that is to come. -/
inductive Pend (S : Sg) (U : Nat → Option CO) (fr : Tr CV) (ops : List Oper) (o : Oper) : Option Nat → Prop
  | no (hw : want fr ops o = some false) (hd : ∀ t, o.dst = some t → getT fr t = .u) : Pend S U fr ops o none
  | yes {r : Nat} {co : CO} {cv : CV} (hw : want fr ops o = some true) (hl : Late S fr o r co cv) (hu : U r = some co) (hd : ∀ t, o.dst = some t → getT fr t = cv) : Pend S U fr ops o (some r)
/-- A region whose order is drawn: 'dm': what the model has run; 'de': what the evaluator has; 'own': the objects of those that float and have not been run by the model. -/
structure Dr (S : Sg) (ι : Ip) (U : Nat → Option CO) (own : Nat → Option Nat) (ops : Array Oper) (l : List PE) (is : List Nat) (fr : Tr CV) (tmps : Array Value) (dm de : Nat → Bool) : Prop where
  sched : Sched ops dm is
  cdm : Closed ops dm
  cde : Closed ops de
  sub : ∀ i, dm i = true → de i = true
  lt : ∀ i, de i = true → i < ops.size
  rank : ∃ (rk : Nat → Nat) (N : Nat), (∀ i, de i = true → rk i < N) ∧ ∀ i b, de i = true → Dep ops i b → rk b < rk i
  key : ops.toList.length ≤ keyTop
  plan : PlanR S.en ops (annot S.en ops.toList .e 0) de l
  fine : allL (fineAt ops.toList (annot S.en ops.toList .e 0)) (annot S.en ops.toList .e 0) = true
  fl : ∀ i o, de i = true → dm i = false → ops[i]? = some o → kindF S.en o.op = 1 ∨ (kindF S.en o.op = 2 ∧ Pend S U fr ops.toList o (own i))
  one : ∀ i i' r, de i = true → dm i = false → de i' = true → dm i' = false → own i = some r → own i' = some r → i = i'
  ownU : ∀ i r, de i = true → dm i = false → own i = some r → ∃ co, U r = some co
  slot : ∀ i o t, de i = true → dm i = false → ops[i]? = some o → o.dst = some t → t < tmps.size ∧ t < keyTop
  vals : ∀ t v, fr.get t = some v → (∃ i o, de i = true ∧ dm i = false ∧ ops[i]? = some o ∧ o.dst = some t) ∨ VR ι v (tmps.getD t undef)
/-- The relations of frames that wait, and of the frame ahead. -/
def drD (S : Sg) : DD where
  d0 := fun ι U ops l is fr tmps => ∃ dm de own e l' is', l = e :: l' ∧ is = e.j :: is' ∧ kindF S.en e.o.op = 0 ∧ Dr S ι U own ops l is fr tmps dm de ∧ ops[e.j]? = some e.o
  d1 := fun hp ι U ops l is fr tmps => ∃ dm de own, Dr S ι U own ops l is fr tmps dm de ∧ ∀ i o, de i = true → dm i = false → ops[i]? = some o → kindF S.en o.op = 1 → AgainP S.en hp fr ops.toList o
section
variable {S : Sg} {base : Nat} {w0 w : World} {cs0 cs : List Frame} {f0 : Nat} {ι ι' : Ip} {U : Nat → Option CO} {V : Nat → Nat → Option CO} {n : Nat} {hp : Tr CO} {nx fn : Nat} {fr : Tr CV} {t : TD} {ds : List Nat} {ro : Option Nat} {k : Stk} {f : Frame}
theorem Dr.mono {U : Nat → Option CO} {own : Nat → Option Nat} {ops : Array Oper} {l : List PE} {is : List Nat} {tmps : Array Value} {dm de : Nat → Bool} (x : Ex ι ι') (h : Dr S ι U own ops l is fr tmps dm de) : Dr S ι' U own ops l is fr tmps dm de :=
  ⟨h.sched, h.cdm, h.cde, h.sub, h.lt, h.rank, h.key, h.plan, h.fine, h.fl, h.one, h.ownU, h.slot, fun t v e => (h.vals t v e).imp id (·.mono x)⟩
theorem dr_mono0 {U : Nat → Option CO} {ops : Array Oper} {l : List PE} {is : List Nat} {tmps : Array Value} (x : Ex ι ι') (h : (drD S).d0 ι U ops l is fr tmps) : (drD S).d0 ι' U ops l is fr tmps := by
  obtain ⟨dm, de, own, e, l', is', h1, h2, h3, h, h4⟩ := h
  exact ⟨dm, de, own, e, l', is', h1, h2, h3, h.mono x, h4⟩
/-- A drawn region begins. -/
theorem draw_ok (hS : SOk S) {id : Nat} {ops : Array Oper} {k' : List Item} (hh : HR S base w0 U ι hp nx w) (hu : UV U V) (hg : GR S ι) (h : FrR S ((drD S).d1 hp) ι (V n) fn fr (.code (.region id ops true) t) ds ro f) (hf : FR ι fr f.tmps) (hs : StkR S (drD S).d0 ι V cs0 f0 n fn k cs) (hm : f.mode = .run) (htd : f.todo = .code (.region id ops true) :: k') (ht : TDR ι t k') :
    Goes S (drD S) base w0 cs0 f0 (lone f cs w) ((drawX S.en ops).f fn fr t ds ro k hp nx) := by
  unfold drawX
  cases hp' : plan S.en ops.toList with
  | none => exact .bad
  | some l =>
    obtain ⟨p1, p2, p3⟩ := plan_ok hp'
    have hst := stepR_region_draw (P := S.P) (b := f) (a := actOf f) (k := k') (cs := cs) (w := w) (ops := ops) (id := id)
    rw [← htd, atR_self hm] at hst
    refine .head hst (.stay ⟨ι, U, V, n, _, cs, _, rfl, hh.drew, hu, hg, ⟨h.fnE, h.size, h.kind, h.df, h.ro, .inr (.inr ⟨rfl, ops, l, t, _, k', rfl, rfl, ht, fun _ => false, fun _ => false, fun _ => none, ?_, fun i o a => by cases a⟩)⟩, hs⟩)
    exact ⟨schedule_sched hS.mixed ops _, closed_none ops, closed_none ops, fun i a => (by cases a), fun i a => (by cases a), ⟨fun _ => 0, 1, fun i a => (by cases a), fun i b a => (by cases a)⟩, p3, p1, p2, fun i o a => (by cases a), fun i i' r a => (by cases a), fun i r a => (by cases a), fun i o t a => (by cases a), fun t v e => .inr (hf t v e)⟩
end
end Go.Cv
/- Drawn regions: what is read, what is left; the model runs what the evaluator has run. -/
namespace Go.Cv
open Go Go.RowKit
section
variable {S : Sg} {ops : Array Oper}
theorem an_of {en : En} (hk : ops.toList.length ≤ keyTop) {i : Nat} {o : Oper} (hi : ops[i]? = some o) : ∃ a ∈ annot en ops.toList .e 0, a.j = i ∧ a.o = o ∧ a.kd = kindF en o.op ∧ ∀ b, bit a.tm b = true → Anc ops i b := by
  have A := annot_ok en ops
  obtain ⟨a, ha, hj⟩ := A.get i (Array.getElem?_eq_some_iff.1 hi).1
  obtain ⟨h1, _, h3, _⟩ := A.mem a ha
  rw [hj, hi] at h1
  cases h1
  refine ⟨a, ha, hj, rfl, h3, fun b hb => ?_⟩
  have := annot_tm en (ops := ops) ops.toList .e 0 (by omega) (fun i o h => by rw [Nat.zero_add, ← Array.getElem?_toList]; exact h) (fun k m h => by cases h) a ha b hb
  rw [hj] at this; exact this
/-- What floats is read by those alone that wait for it; nothing else writes there. -/
theorem fl_reads {en : En} (hk : ops.toList.length ≤ keyTop) (hf : allL (fineAt ops.toList (annot en ops.toList .e 0)) (annot en ops.toList .e 0) = true) {i y : Nat} {oi oy : Oper} {t : Nat} (hi : ops[i]? = some oi) (hy : ops[y]? = some oy) (hne : y ≠ i) (hky : kindF en oy.op ≠ 0) (hd : oy.dst = some t) :
    (t ∈ reads ops.toList oi → Anc ops i y) ∧ oi.dst ≠ some t := by
  obtain ⟨a, ha, rfl, rfl, _, a4⟩ := an_of (en := en) hk hi
  obtain ⟨b, hb, rfl, rfl, b3, _⟩ := an_of (en := en) hk hy
  obtain ⟨h1, h2⟩ := fine_fl hf ha hb hne (by rw [b3]; exact hky) hd
  exact ⟨fun hm => a4 _ (h1 hm), h2⟩
theorem fl_own {en : En} (hk : ops.toList.length ≤ keyTop) (hf : allL (fineAt ops.toList (annot en ops.toList .e 0)) (annot en ops.toList .e 0) = true) {i : Nat} {oi : Oper} {t : Nat} (hi : ops[i]? = some oi) (hki : kindF en oi.op ≠ 0) (hd : oi.dst = some t) : t ∉ reads ops.toList oi := by
  obtain ⟨a, ha, rfl, rfl, a3, a4⟩ := an_of (en := en) hk hi
  exact fine_own hf ha (by rw [a3]; exact hki) hd
theorem fl_two {en : En} (hk : ops.toList.length ≤ keyTop) (hf : allL (fineAt ops.toList (annot en ops.toList .e 0)) (annot en ops.toList .e 0) = true) {i y : Nat} {oi oy : Oper} {t : Nat} (hi : ops[i]? = some oi) (hy : ops[y]? = some oy) (hne : y ≠ i) (hky : kindF en oy.op = 0) (hki : kindF en oi.op = 2) (hd : oy.dst = some t) (hr : t ∈ reads ops.toList oi) : Anc ops i y ∨ Anc ops y i := by
  obtain ⟨a, ha, rfl, rfl, a3, a4⟩ := an_of (en := en) hk hi
  obtain ⟨b, hb, rfl, rfl, b3, b4⟩ := an_of (en := en) hk hy
  exact (fine_two hf ha hb hne (by rw [b3]; exact hky) (by rw [a3]; exact hki) hd hr).imp (a4 _) (b4 _)

variable {ι : Ip} {U : Nat → Option CO} {own : Nat → Option Nat} {l : List PE} {is : List Nat} {fr fr' : Tr CV} {tmps : Array Value} {dm de : Nat → Bool}
theorem Dr.kd (h : Dr S ι U own ops l is fr tmps dm de) {i : Nat} {o : Oper} (h1 : de i = true) (h2 : dm i = false) (h3 : ops[i]? = some o) : kindF S.en o.op ≠ 0 := by
  rcases h.fl i o h1 h2 h3 with e | ⟨e, _⟩ <;> rw [e] <;> decide
/-- Where nothing more may come, all has come. -/
theorem Dr.allRun (h : Dr S ι U own ops l [] fr tmps dm de) : ∀ i, de i = true → dm i = true := by
  obtain ⟨rk, N, h1, h2⟩ := h.rank
  have hn : ∀ i, ¬ Rdy ops dm i := by cases h.sched; assumption
  have main : ∀ N i, rk i < N → de i = true → dm i = false → False := by
    intro N
    induction N with
    | zero => intro i hi; omega
    | succ N ih =>
      intro i hi hde hdm
      refine hn i ⟨h.lt i hde, hdm, fun o ho e he hb => ?_⟩
      have hd : Dep ops i e.on := ⟨o, ho, e, he, hb, rfl⟩
      cases hq : dm e.on
      · exact (ih e.on (by have := h2 i e.on hde hd; omega) (h.cde i _ hde hd) hq).elim
      · rfl
  intro i hi
  cases hq : dm i
  · exact (main N i (h1 i hi) hi hq).elim
  · rfl
/-- The frame without what the model has not run. -/
theorem Dr.drop (h : Dr S ι U own ops l is fr tmps dm de) : ∃ fr', FR ι fr' tmps ∧ ∀ t, (∀ i o, de i = true → dm i = false → ops[i]? = some o → o.dst ≠ some t) → getT fr t = getT fr' t := by
  let ts : List Nat := (List.range ops.size).filterMap fun i => if de i = true ∧ dm i = false then (ops[i]?).bind (·.dst) else none
  have hts : ∀ t, t ∈ ts ↔ ∃ i o, de i = true ∧ dm i = false ∧ ops[i]? = some o ∧ o.dst = some t := fun t => by
    show t ∈ List.filterMap _ _ ↔ _
    rw [List.mem_filterMap]
    constructor
    · rintro ⟨i, _, hi⟩
      split at hi
      · rename_i hc
        cases ho : ops[i]? with
        | none => rw [ho] at hi; cases hi
        | some o => rw [ho] at hi; exact ⟨i, o, hc.1, hc.2, ho, hi⟩
      · cases hi
    · rintro ⟨i, o, h1, h2, h3, h4⟩
      exact ⟨i, List.mem_range.2 (h.lt i h1), by rw [if_pos ⟨h1, h2⟩, h3]; exact h4⟩
  obtain ⟨fr', hfr'⟩ := Tr.del_ex ts fr (fun t ht => by
    obtain ⟨i, o, h1, h2, h3, h4⟩ := (hts t).1 ht
    exact (h.slot i o t h1 h2 h3 h4).2)
  refine ⟨fr', fun t v e => ?_, fun t ht => ?_⟩
  · by_cases hm : t ∈ ts
    · rw [(hfr' t).1 hm] at e; cases e
    · rw [(hfr' t).2 hm] at e
      rcases h.vals t v e with hq | hq
      · exact (hm ((hts t).2 hq)).elim
      · exact hq
  · unfold getT
    rw [(hfr' t).2 fun hm => by
      obtain ⟨i, o, h1, h2, h3, h4⟩ := (hts t).1 hm
      exact ht i o h1 h2 h3 h4]
/-- What may come reads nothing of what the model has not run. -/
theorem Dr.reads_ok (h : Dr S ι U own ops l is fr tmps dm de) {i : Nat} {oi : Oper} (hi : ops[i]? = some oi) (hr : Rdy ops dm i) : ∀ t ∈ reads ops.toList oi, ∀ y oy, de y = true → dm y = false → ops[y]? = some oy → oy.dst ≠ some t := by
  intro t ht y oy h1 h2 h3 h4
  have hky := h.kd h1 h2 h3
  by_cases hy : y = i
  · subst hy
    rw [hi] at h3; cases h3
    exact fl_own h.key h.fine hi hky h4 ht
  · have := (fl_reads h.key h.fine hi h3 hy hky h4).1 ht
    rw [hr.anc h.cdm this] at h2; cases h2
theorem Dr.alike (h : Dr S ι U own ops l is fr tmps dm de) {i : Nat} {oi : Oper} (hi : ops[i]? = some oi) (hr : Rdy ops dm i) (hfr : ∀ t, (∀ i o, de i = true → dm i = false → ops[i]? = some o → o.dst ≠ some t) → getT fr t = getT fr' t) :
    Alike S.en fr fr' oi.op.operands.toList ∧ ∀ g wt t, oi.guard = some (g, wt) → dstAt ops.toList g = some t → getT fr t = getT fr' t :=
  alike_of fun t ht => hfr t (h.reads_ok hi hr t ht)
end
end Go.Cv
/- Drawn regions: the model runs what the evaluator has run. -/
namespace Go.Cv
open Go Go.RowKit
/-- A frame in a drawn region. -/
structure RdF (S : Sg) (hp : Tr CO) (ι : Ip) (Un : Nat → Option CO) (fn : Nat) (fr : Tr CV) (ops : Array Oper) (l : List PE) (t : TD) (ds : List Nat) (ro : Option Nat) (f : Frame) (is : List Nat) (k' : List Item) (dm de : Nat → Bool) (own : Nat → Option Nat) : Prop where
  fnE : f.fn = fn
  size : f.tmps.size = S.nt fn
  kind : f.kind = .normal
  df : DsR ι ds f.defers
  ro : RoR ι ro f.roundOf
  mode : f.mode = .run
  todo : f.todo = .inRegion ops is :: k'
  tdr : TDR ι t k'
  dr : Dr S ι Un own ops l is fr f.tmps dm de
  again : ∀ i o, de i = true → dm i = false → ops[i]? = some o → kindF S.en o.op = 1 → AgainP S.en hp fr ops.toList o
/-- A slot is given a value. -/
def putM (d : Option Nat) (u : Value) (tm : Array Value) : Array Value := match d with
  | none => tm
  | some d => tm.setIfInBounds d u
theorem putM_size (d : Option Nat) (u : Value) (tm : Array Value) : (putM d u tm).size = tm.size := by cases d <;> simp [putM]
theorem putM_ne {d : Option Nat} {u : Value} {tm : Array Value} {t : Nat} (h : d ≠ some t) : (putM d u tm).getD t undef = tm.getD t undef := by
  cases d with
  | none => rfl
  | some d =>
    show (tm.setIfInBounds d u).getD t undef = _
    rw [Array.getD_eq_getD_getElem?, Array.getElem?_setIfInBounds_ne (fun e => h (by rw [e])), ← Array.getD_eq_getD_getElem?]
theorem putM_eq {u : Value} {tm : Array Value} {t : Nat} (h : t < tm.size) : (putM (some t) u tm).getD t undef = u := by
  simp [putM, h]
theorem finish_eq {f : Frame} {ops : Array Oper} {i : Nat} {is : List Nat} {k' : List Item} {o : Oper} {u : Value} (htd : f.todo = .inRegion ops (i :: is) :: k') (ho : ops[i]? = some o) : f.finish u = { f with tmps := putM o.dst u f.tmps, todo := .inRegion ops is :: k' } := by
  cases hd : o.dst with
  | none => simp [Frame.finish, htd, ho, hd, putM]
  | some d => simp [Frame.finish, htd, ho, hd, putM]
theorem want_rel {ι : Ip} {fr : Tr CV} {tmps : Array Value} {ops : Array Oper} {o : Oper} {b : Bool} (hf : FR ι fr tmps) (h : want fr ops.toList o = some b) : Region.wanted o (yielded ops tmps) = b := by
  unfold want at h
  cases hgu : o.guard with
  | none => rw [hgu] at h; cases h; simp [Region.wanted, hgu]
  | some q =>
    obtain ⟨g, wt⟩ := q
    rw [hgu] at h
    replace h : (match dstAt ops.toList g with | none => none | some t => wantB wt (getT fr t)) = some b := h
    cases hdt : dstAt ops.toList g with
    | none => rw [hdt] at h; cases h
    | some t =>
      rw [hdt] at h
      replace h : wantB wt (getT fr t) = some b := h
      have hv := hf.getT t
      generalize hq : getT fr t = q at hv h
      cases q with
      | b s =>
        have hy := yield_b hdt hv.b_inv
        cases h
        simp only [Region.wanted, hgu, hy]
        cases wt <;> cases s <;> rfl
      | u =>
        have hy := yield_u hdt hv.u_inv
        cases h
        simp [Region.wanted, hgu, hy]
      | _ => cases h
section
variable {S : Sg} {base : Nat} {w0 w : World} {cs0 cs : List Frame} {f0 : Nat} {ι ι' : Ip} {U Un Un' : Nat → Option CO} {V : Nat → Nat → Option CO} {n : Nat} {hp : Tr CO} {nx fn : Nat} {fr fr' : Tr CV} {t : TD} {ds : List Nat} {ro : Option Nat} {k : Stk} {f : Frame} {ops : Array Oper} {l : List PE} {i : Nat} {is : List Nat} {k' : List Item} {dm de : Nat → Bool} {own : Nat → Option Nat}
theorem RdF.frr (h : RdF S hp ι Un fn fr ops l t ds ro f is k' dm de own) : FrR S ((drD S).d1 hp) ι Un fn fr (.rd ops l t) ds ro f :=
  ⟨h.fnE, h.size, h.kind, h.df, h.ro, .inr (.inr ⟨h.mode, ops, l, t, is, k', rfl, h.todo, h.tdr, dm, de, own, h.dr, h.again⟩)⟩
theorem upd_ne {g : Nat → Bool} {i j : Nat} (h : j ≠ i) : upd g i j = g j := by unfold upd; rw [if_neg h]
theorem upd_self {g : Nat → Bool} {i : Nat} : upd g i i = true := by unfold upd; rw [if_pos rfl]
theorem upd_false {g : Nat → Bool} {i j : Nat} (h : upd g i j = false) : j ≠ i ∧ g j = false := by
  by_cases he : j = i
  · subst he; rw [upd_self] at h; cases h
  · rw [upd_ne he] at h; exact ⟨he, h⟩
/-- The model has run one of these. -/
theorem RdF.adv (h : RdF S hp ι Un fn fr ops l t ds ro f (i :: is) k' dm de own) {o : Oper} {u : Value} (ho : ops[i]? = some o) (hi : de i = true) (hr : Rdy ops dm i) (hs : Sched ops (upd dm i) is) (x : Ex ι ι')
    (hpend : ∀ j o', j ≠ i → de j = true → dm j = false → ops[j]? = some o' → Pend S Un fr ops.toList o' (own j) → Pend S Un' fr ops.toList o' (own j)) (hown : ∀ j r, j ≠ i → de j = true → dm j = false → own j = some r → ∃ co, Un' r = some co)
    (hv : ∀ t, o.dst = some t → VR ι' (getT fr t) u) : RdF S hp ι' Un' fn fr ops l t ds ro { f with tmps := putM o.dst u f.tmps, todo := .inRegion ops is :: k' } is k' (upd dm i) de own := by
  refine ⟨h.fnE, by rw [← h.size]; exact putM_size _ _ _, h.kind, h.df.mono x, h.ro.mono x, h.mode, rfl, h.tdr.mono x, ?_, fun j o' a b => h.again j o' a (upd_false b).2⟩
  have d := h.dr
  refine ⟨hs, d.cdm.upd hr, d.cde, fun j hj => ?_, d.lt, d.rank, d.key, d.plan, d.fine, fun j o' a b c => ?_, fun j j' r a b a' b' => d.one j j' r a (upd_false b).2 a' (upd_false b').2, fun j r a b c => hown j r (upd_false b).1 a (upd_false b).2 c, fun j o' t a b c e => ?_, fun t v e => ?_⟩
  · by_cases he : j = i
    · rw [he]; exact hi
    · rw [upd_ne he] at hj; exact d.sub j hj
  · obtain ⟨b1, b2⟩ := upd_false b
    rcases d.fl j o' a b2 c with q | ⟨q1, q2⟩
    · exact .inl q
    · exact .inr ⟨q1, hpend j o' b1 a b2 c q2⟩
  · have := d.slot j o' t a (upd_false b).2 c e
    exact ⟨by show t < (putM _ _ _).size; rw [putM_size]; exact this.1, this.2⟩
  · by_cases hd : o.dst = some t
    · right
      have hlt := (d.slot i o t hi hr.2.1 ho hd).1
      have := hv t hd
      have hg : getT fr t = v := by unfold getT; rw [e]
      rw [hg] at this
      show VR ι' v ((putM o.dst u f.tmps).getD t undef)
      rw [hd, putM_eq hlt]
      exact this
    · rcases d.vals t v e with ⟨j, o', a, b, c, c2⟩ | q
      · left
        have hne : j ≠ i := fun e => by
          subst e
          rw [ho] at c; cases c
          exact hd c2
        exact ⟨j, o', a, by rw [upd_ne hne]; exact b, c, c2⟩
      · right
        show VR ι' v ((putM o.dst u f.tmps).getD t undef)
        rw [putM_ne hd]
        exact q.mono x
def cutU (U : Nat → Option CO) (r : Nat) : Nat → Option CO := fun r' => if r' = r then none else U r'
def cutV (V : Nat → Nat → Option CO) (n r : Nat) : Nat → Nat → Option CO := fun d r' => if d = n ∧ r' = r then none else V d r'
theorem UV.cut {r : Nat} {co : CO} (hu : UV U V) (h : V n r = some co) : UV (cutU U r) (cutV V n r) := by
  have hle : ∀ d r' o', cutV V n r d r' = some o' → V d r' = some o' := fun d r' o' e => by
    unfold cutV at e
    split at e
    · cases e
    · exact e
  refine ⟨fun r' o' => ?_, fun d d' r' o1 o2 e1 e2 => hu.2 d d' r' o1 o2 (hle _ _ _ e1) (hle _ _ _ e2)⟩
  unfold cutU
  split
  · rename_i he
    refine ⟨fun e => (by cases e), fun ⟨d, hd⟩ => ?_⟩
    have hn : d = n := hu.2 d n r' _ _ (hle _ _ _ hd) (by rw [he]; exact h)
    unfold cutV at hd
    rw [if_pos ⟨hn, he⟩] at hd
    cases hd
  · rename_i he
    rw [hu.1]
    constructor
    · rintro ⟨d, hd⟩
      refine ⟨d, ?_⟩
      unfold cutV
      rw [if_neg fun e => he e.2]; exact hd
    · rintro ⟨d, hd⟩
      exact ⟨d, hle _ _ _ hd⟩
def putU (U : Nat → Option CO) (r : Nat) (co : CO) : Nat → Option CO := fun r' => if r' = r then some co else U r'
def putV (V : Nat → Nat → Option CO) (n r : Nat) (co : CO) : Nat → Nat → Option CO := fun d r' => if d = n ∧ r' = r then some co else V d r'
theorem UV.put {r : Nat} {co : CO} (hu : UV U V) (h : ∀ d, V d r = none) : UV (putU U r co) (putV V n r co) := by
  have hle : ∀ d r' o', putV V n r co d r' = some o' → (d = n ∧ r' = r ∧ o' = co) ∨ (r' ≠ r ∧ V d r' = some o') := fun d r' o' e => by
    unfold putV at e
    split at e
    · rename_i he; cases e; exact .inl ⟨he.1, he.2, rfl⟩
    · refine .inr ⟨fun he => ?_, e⟩
      rw [he, h d] at e; cases e
  refine ⟨fun r' o' => ?_, fun d d' r' o1 o2 e1 e2 => ?_⟩
  · unfold putU
    split
    · rename_i he
      constructor
      · intro e
        refine ⟨n, ?_⟩
        unfold putV
        rw [if_pos ⟨rfl, he⟩]; exact e
      · rintro ⟨d, hd⟩
        rcases hle _ _ _ hd with ⟨_, _, q⟩ | ⟨q, _⟩
        · rw [q]
        · exact (q he).elim
    · rename_i he
      rw [hu.1]
      constructor
      · rintro ⟨d, hd⟩
        refine ⟨d, ?_⟩
        unfold putV
        rw [if_neg fun e => he e.2]; exact hd
      · rintro ⟨d, hd⟩
        refine ⟨d, ?_⟩
        rcases hle _ _ _ hd with ⟨_, q, _⟩ | ⟨_, q⟩
        · exact (he q).elim
        · exact q
  · rcases hle _ _ _ e1 with ⟨a, b, _⟩ | ⟨a, b⟩ <;> rcases hle _ _ _ e2 with ⟨a', b', _⟩ | ⟨a', b'⟩
    · rw [a, a']
    · exact (a' b).elim
    · exact (a b').elim
    · exact hu.2 d d' r' o1 o2 b b'
theorem catch1 (hS : SOk S) (hh : HR S base w0 U ι hp nx w) (hu : UV U V) (hg : GR S ι) (h : RdF S hp ι (V n) fn fr ops l t ds ro f (i :: is) k' dm de own) (hi : de i = true) :
    ∃ f' w' ι' U' V', Go.step S.P (lone f cs w) = .next (lone f' cs w') ∧ Ex ι ι' ∧ HR S base w0 U' ι' hp nx w' ∧ UV U' V' ∧ (∀ d, d < n → V' d = V d) ∧ RdF S hp ι' (V' n) fn fr ops l t ds ro f' is k' (upd dm i) de own := by
  obtain ⟨hr, hs⟩ : Rdy ops dm i ∧ Sched ops (upd dm i) is := by
    have := h.dr.sched
    cases this with | cons a b => exact ⟨a, b⟩
  obtain ⟨o, ho⟩ : ∃ o, ops[i]? = some o := ⟨_, Array.getElem?_eq_getElem hr.1⟩
  have hdm := hr.2.1
  obtain ⟨fr', hf, hfr⟩ := h.dr.drop
  obtain ⟨hal, hgd⟩ := h.dr.alike ho hr hfr
  have hdef : ∀ c, o.op ≠ .defer c := fun c e => h.dr.kd hi hdm ho (by rw [e]; rfl)
  have hskip : want fr ops.toList o = some false → (∀ t, o.dst = some t → getT fr t = .u) → ∃ f' w' ι' U' V', Go.step S.P (lone f cs w) = .next (lone f' cs w') ∧ Ex ι ι' ∧ HR S base w0 U' ι' hp nx w' ∧ UV U' V' ∧ (∀ d, d < n → V' d = V d) ∧ RdF S hp ι' (V' n) fn fr ops l t ds ro f' is k' (upd dm i) de own := fun hw hd => by
    rw [want_congr hgd] at hw
    have hst := step_skip (cs := cs) (w := w) (P := S.P) h.mode h.todo ho (want_rel hf hw)
    rw [finish_eq h.todo ho] at hst
    exact ⟨_, w, ι, U, V, hst, Ex.refl, hh, hu, fun _ _ => rfl, h.adv ho hi hr hs Ex.refl (fun _ _ _ _ _ _ q => q) (fun j r _ a b c => h.dr.ownU j r a b c) fun t ht => by rw [hd t ht]; exact .u⟩
  rcases h.dr.fl i o hi hdm ho with hk | ⟨hk, hp2⟩
  · rcases h.again i o hi hdm ho hk with ⟨hw, hd⟩ | ⟨hw, v, hv, hd⟩
    · exact hskip hw hd
    · rw [want_congr hgd] at hw
      rw [flt_congr hal] at hv
      obtain ⟨u, r1, r2⟩ := flt_ok (a := actOf f) hS hh.rd hg hf hv
      have hst := step_val (cs := cs) (w := w) (w' := w) (P := S.P) h.mode h.todo ho hdef (want_rel hf hw) (.inl r1)
      rw [finish_eq h.todo ho] at hst
      exact ⟨_, w, ι, U, V, hst, Ex.refl, hh, hu, fun _ _ => rfl, h.adv ho hi hr hs Ex.refl (fun _ _ _ _ _ _ q => q) (fun j r _ a b c => h.dr.ownU j r a b c) fun t ht => by rw [hd t ht]; exact r2⟩
  · generalize hq : own i = q at hp2
    cases hp2 with
    | no hw hd => exact hskip hw hd
    | @yes r co cv hw hl hu1 hd =>
      rw [want_congr hgd] at hw
      have hUr : U r = some co := (hu.1 r co).2 ⟨n, hu1⟩
      obtain ⟨u, w', ι', x, r1, r2, r3⟩ := hl.run (U' := cutU U r) (a := actOf f) hh hg hf hal hUr (fun r' o' e => by
        unfold cutU at e
        split at e
        · cases e
        · rename_i he; exact ⟨he, e⟩)
      have hst := step_val (cs := cs) (w := w) (w' := w') (P := S.P) h.mode h.todo ho hdef (want_rel hf hw) (.inl r1)
      rw [finish_eq h.todo ho] at hst
      have hcut : ∀ r', r' ≠ r → cutV V n r n r' = V n r' := fun r' he => by unfold cutV; rw [if_neg fun e => he e.2]
      refine ⟨_, w', ι', _, cutV V n r, hst, x, r2, hu.cut hu1, fun d hd => funext fun r' => by unfold cutV; rw [if_neg fun e => by omega], ?_⟩
      refine h.adv ho hi hr hs x (fun j o' hj a b c q => ?_) (fun j r' hj a b c => ?_) fun t ht => by rw [hd t ht]; exact r3
      · generalize hoj : own j = oj at q
        cases q with
        | no hw hd => exact .no hw hd
        | @yes r' co' cv' hw' hl' hu' hd' =>
          have hne : r' ≠ r := fun e => hj (h.dr.one j i r a b hi hdm (by rw [hoj, e]) hq)
          exact .yes hw' hl' (by rw [hcut r' hne]; exact hu') hd'
      · have hne : r' ≠ r := fun e => hj (h.dr.one j i r a b hi hdm (by rw [c, e]) hq)
        obtain ⟨co', e⟩ := h.dr.ownU j r' a b c
        exact ⟨co', by rw [hcut r' hne]; exact e⟩
/-- The model runs what the evaluator has run, as long as it may. -/
theorem catchup (hS : SOk S) : ∀ (is : List Nat) (f : Frame) (w : World) (ι : Ip) (U : Nat → Option CO) (V : Nat → Nat → Option CO) (dm : Nat → Bool), HR S base w0 U ι hp nx w → UV U V → GR S ι → RdF S hp ι (V n) fn fr ops l t ds ro f is k' dm de own →
    ∃ f' w' ι' U' V' is' dm', Steps S.P (lone f cs w) (lone f' cs w') ∧ Ex ι ι' ∧ HR S base w0 U' ι' hp nx w' ∧ UV U' V' ∧ (∀ d, d < n → V' d = V d) ∧ RdF S hp ι' (V' n) fn fr ops l t ds ro f' is' k' dm' de own ∧ (is' = [] ∨ ∃ i rest, is' = i :: rest ∧ de i = false)
  | [], f, w, ι, U, V, dm, hh, hu, hg, h => ⟨f, w, ι, U, V, [], dm, .refl _ _, Ex.refl, hh, hu, fun _ _ => rfl, h, .inl rfl⟩
  | i :: is, f, w, ι, U, V, dm, hh, hu, hg, h => by
    cases hi : de i with
    | false => exact ⟨f, w, ι, U, V, _, dm, .refl _ _, Ex.refl, hh, hu, fun _ _ => rfl, h, .inr ⟨i, is, rfl, hi⟩⟩
    | true =>
      obtain ⟨f1, w1, ι1, U1, V1, a1, a2, a3, a4, a5, a6⟩ := catch1 hS hh hu hg h hi
      obtain ⟨f2, w2, ι2, U2, V2, is', dm', b1, b2, b3, b4, b5, b6, b7⟩ := catchup hS is f1 w1 ι1 U1 V1 (upd dm i) a3 a4 (hg.mono a2) a6
      exact ⟨f2, w2, ι2, U2, V2, is', dm', .head a1 b1, a2.trans b2, b3, b4, fun d hd => (b5 d hd).trans (a5 d hd), b6, b7⟩
end
end Go.Cv
/- Drawn regions: the evaluator's steps. -/
namespace Go.Cv
open Go Go.RowKit
section
variable {S : Sg} {D : DD} {base : Nat} {w0 w : World} {cs0 cs : List Frame} {f0 : Nat} {ι ι' : Ip} {U Un Un' : Nat → Option CO} {V V' : Nat → Nat → Option CO} {n : Nat} {hp hp' : Tr CO} {nx fn : Nat} {fr fr' : Tr CV} {td t : TD} {ds : List Nat} {ro : Option Nat} {k : Stk} {m : AM} {f : Frame} {ops : Array Oper} {e : PE} {l : List PE} {i : Nat} {is : List Nat} {k' : List Item} {dm de : Nat → Bool} {own : Nat → Option Nat}
theorem StkR.congr {top : Nat} (h : StkR S D.d0 ι V cs0 f0 n top k cs) : (∀ d, d < n → V' d = V d) → StkR S D.d0 ι V' cs0 f0 n top k cs := by
  induction h with
  | nil => exact fun _ => .nil
  | @cons n top fn fr td ds ro k f cs h _ ih =>
    intro hV
    refine .cons ?_ (ih fun d hd => hV d (by omega))
    rw [hV n (by omega)]; exact h

/-! ### operations that float -/
theorem exX_one {en : En} {o : Oper} {fin : KA} (hk : kindF en o.op = 1) : (exX en o.op).f fin fn fr td ds ro k hp nx = match flt en hp fr o with | some v => fin v hp nx | none => .bad (Nat.add 1000 fn) := by
  unfold flt
  cases ho : o.op <;> rw [ho] at hk <;> first | rfl | (cases hk; done) | skip
  case convert s d x =>
    have hk : kindC1 en s d = 1 := hk
    show cConv en s d x (.bad (Nat.add 1000 fn)) hp nx fr fin = _
    unfold cConv
    cases hs : sliceT en d with
    | none => rfl
    | some e =>
      unfold kindC1 at hk
      rw [hs] at hk
      exfalso
      revert hk
      show (match en.T s with | some ⟨.string, _, _, _⟩ => 2 | _ => 0) = 1 → False
      split <;> intro h <;> cases h
  case call c =>
    cases hc : c.callee with
    | value x => simp only [kindF, hc] at hk; cases hk
    | invoke r nm => simp only [kindF, hc] at hk; cases hk
    | builtin b =>
      simp only [kindF, hc] at hk
      show (exC en c).f fin fn fr td ds ro k hp nx = _
      simp only [exC, hc, fltX]
      cases b <;> first | rfl | cases hk
theorem exX_two (hS : SOk S) {o : Oper} {fin : KA} (hk : kindF S.en o.op = 2) (hm : nb m) (h : (exX S.en o.op).f fin fn fr td ds ro k hp nx = m) : ∃ co cv, nx + 2 ≤ keyTop ∧ m = fin cv (hp.set nx co) (nx + 1) ∧ Late S fr o nx co cv := by
  cases ho : o.op <;> rw [ho] at hk h <;> first | (cases hk; done) | skip
  case alloc t =>
    have h : cAlloc S.en t (.bad (Nat.add 1000 fn)) hp nx fin = m := h
    unfold cAlloc at h
    split at h
    · rename_i kd sz b zr hT
      obtain ⟨h1, h2, h3⟩ := newCs_ok hm ⟨_, rfl⟩ h
      exact ⟨_, _, h2, h3, late_alloc hS hT h1 ho⟩
    · exact (hm _ h.symm).elim
  case convert s d x =>
    have hk : kindC1 S.en s d = 2 := hk
    have h : cConv S.en s d x (.bad (Nat.add 1000 fn)) hp nx fr fin = m := h
    unfold cConv at h
    cases hs : sliceT S.en d with
    | none => unfold kindC1 at hk; rw [hs] at hk; cases hk
    | some e =>
      rw [hs] at h
      have h : toSl S.en s d e (ev S.en fr x) (.bad (Nat.add 1000 fn)) hp nx fin = m := h
      unfold kindC1 at hk
      rw [hs] at hk
      have hk : (match S.en.T s with | some ⟨.string, _, _, _⟩ => 2 | _ => 0) = 2 := hk
      unfold toSl at h
      split at h
      · rename_i n1 b1 z1 n2 b2 z2 hTs hTe
        split at h
        · rename_i l n hx
          unfold strB at h
          cases hb : Nat.ble l 1000000000 <;> rw [hb] at h
          · exact (hm _ h.symm).elim
          · obtain ⟨_, h2, h3⟩ := newCs_ok hm ⟨_, rfl⟩ h
            exact ⟨_, _, h2, h3, late_strB hS ho hs hTs hTe hx ((ble_iff _ _).1 hb)⟩
        · exact (hm _ h.symm).elim
      · rename_i hTs hTe
        rw [hTs] at hk
        cases hk
      · exact (hm _ h.symm).elim
  case call c =>
    exfalso
    revert hk
    simp only [kindF]
    cases c.callee with
    | builtin b => cases b <;> simp [kindB1]
    | _ => simp
theorem opX_want {en : En} {opl : List Oper} {o : Oper} {fin : KA} (hm : nb m) (h : (opX en opl o).f fin fn fr td ds ro k hp nx = m) : (want fr opl o = some false ∧ m = fin .u hp nx) ∨ (want fr opl o = some true ∧ (exX en o.op).f fin fn fr td ds ro k hp nx = m) := by
  unfold opX at h
  unfold want
  cases hgu : o.guard with
  | none => rw [hgu] at h; exact .inr ⟨rfl, h⟩
  | some q =>
    obtain ⟨g, wt⟩ := q
    rw [hgu] at h
    show ((match dstAt opl g with | none => none | some t => wantB wt (getT fr t)) = some false ∧ _) ∨ ((match dstAt opl g with | none => none | some t => wantB wt (getT fr t)) = some true ∧ _)
    cases hd : dstAt opl g with
    | none =>
      have h : (match dstAt opl g with
        | none => (⟨fun _ _ _ _ _ _ _ _ _ => .bad 23⟩ : XE)
        | some t => ⟨fun fin fn fr td ds ro k hp nx => match wantB wt (getT fr t) with
          | some true => (exX en o.op).f fin fn fr td ds ro k hp nx
          | some false => fin .u hp nx
          | none => .bad 24⟩).f fin fn fr td ds ro k hp nx = m := h
      rw [hd] at h
      exact (hm 23 h.symm).elim
    | some t =>
      have h : (match dstAt opl g with
        | none => (⟨fun _ _ _ _ _ _ _ _ _ => .bad 23⟩ : XE)
        | some t => ⟨fun fin fn fr td ds ro k hp nx => match wantB wt (getT fr t) with
          | some true => (exX en o.op).f fin fn fr td ds ro k hp nx
          | some false => fin .u hp nx
          | none => .bad 24⟩).f fin fn fr td ds ro k hp nx = m := h
      rw [hd] at h
      have h : (match wantB wt (getT fr t) with
        | some true => (exX en o.op).f fin fn fr td ds ro k hp nx
        | some false => fin .u hp nx
        | none => .bad 24) = m := h
      show (wantB wt (getT fr t) = some false ∧ _) ∨ (wantB wt (getT fr t) = some true ∧ _)
      cases hw : wantB wt (getT fr t) with
      | none => rw [hw] at h; exact (hm 24 h.symm).elim
      | some b =>
        rw [hw] at h
        cases b
        · exact .inl ⟨rfl, h.symm⟩
        · exact .inr ⟨rfl, h⟩
/-- A frame with one slot written. -/
def Put (en : En) (fn : Nat) (fr fr' : Tr CV) (d : Option Nat) (v : CV) : Prop := ∀ t, (d = some t → fr'.get t = some v ∧ t < ntOf en fn ∧ t < keyTop) ∧ (d ≠ some t → fr'.get t = fr.get t)
theorem fin2_ok {en : En} {d : Option Nat} {opl re : List Oper} {v : CV} (hm : nb m) (h : fin2 en d opl re v fn fr td ds ro k hp nx = m) : ∃ fr', Put en fn fr fr' d v ∧ allL (again en hp fr' opl) re = true ∧ m = .run fn fr' td ds ro k hp nx := by
  unfold fin2 putD at h
  have key : ∀ fr', (bif allL (again en hp fr' opl) re then AM.run fn fr' td ds ro k hp nx else .bad 3) = m → allL (again en hp fr' opl) re = true ∧ m = .run fn fr' td ds ro k hp nx := fun fr' h => by
    cases hb : allL (again en hp fr' opl) re <;> rw [hb] at h
    · exact (hm 3 h.symm).elim
    · exact ⟨rfl, h.symm⟩
  cases d with
  | none => exact ⟨fr, fun t => ⟨fun e => (by cases e), fun _ => rfl⟩, key fr h⟩
  | some t =>
    have h : (bif Nat.ble (Nat.succ t) (ntOf en fn) && Nat.ble (Nat.succ t) keyTop then frc v fun v => Tr.setK fr t v fun fr => bif allL (again en hp fr opl) re then AM.run fn fr td ds ro k hp nx else .bad 3 else .bad 2) = m := h
    cases hb : (Nat.ble (Nat.succ t) (ntOf en fn) && Nat.ble (Nat.succ t) keyTop) <;> rw [hb] at h
    · exact (hm 2 h.symm).elim
    · rw [Bool.and_eq_true, ble_iff, ble_iff] at hb
      have h : (frc v fun v => Tr.setK fr t v fun fr => bif allL (again en hp fr opl) re then AM.run fn fr td ds ro k hp nx else .bad 3) = m := h
      rw [frc_eq, Tr.setK_eq] at h
      refine ⟨fr.set t v, fun t' => ⟨fun e => ?_, fun e => ?_⟩, key _ h⟩
      · cases e
        exact ⟨by rw [Tr.get_set _ _ hb.2, if_pos rfl], hb⟩
      · rw [Tr.get_set _ _ hb.2, if_neg fun he => e (by rw [he])]
theorem Put.get_ne {en : En} {d : Option Nat} {v : CV} (h : Put en fn fr fr' d v) {t : Nat} (ht : d ≠ some t) : getT fr t = getT fr' t := by
  unfold getT; rw [(h t).2 ht]
theorem Put.get_eq {en : En} {d : Option Nat} {v : CV} (h : Put en fn fr fr' d v) {t : Nat} (ht : d = some t) : getT fr' t = v := by
  unfold getT; rw [((h t).1 ht).1]
theorem rank_grow {j : Nat} (hr : Rdy ops de j) (hc : Closed ops de) (h : ∃ (rk : Nat → Nat) (N : Nat), (∀ i, de i = true → rk i < N) ∧ ∀ i b, de i = true → Dep ops i b → rk b < rk i) :
    ∃ (rk : Nat → Nat) (N : Nat), (∀ i, upd de j i = true → rk i < N) ∧ ∀ i b, upd de j i = true → Dep ops i b → rk b < rk i := by
  obtain ⟨rk, N, h1, h2⟩ := h
  have hj := hr.2.1
  have hne : ∀ b, de b = true → b ≠ j := fun b hb e => by rw [e, hj] at hb; cases hb
  refine ⟨fun i => if i = j then N else rk i, N + 1, fun i hi => ?_, fun i b hi hd => ?_⟩
  · by_cases he : i = j
    · show (if i = j then N else rk i) < N + 1
      rw [if_pos he]; exact Nat.lt_succ_self _
    · rw [upd_ne he] at hi
      show (if i = j then N else rk i) < N + 1
      rw [if_neg he]; exact Nat.lt_succ_of_lt (h1 i hi)
  · show (if b = j then N else rk b) < (if i = j then N else rk i)
    by_cases he : i = j
    · subst he
      have hb := hr.dep hd
      rw [if_pos rfl, if_neg (hne b hb)]; exact h1 b hb
    · rw [upd_ne he] at hi
      have hb := hc i b hi hd
      rw [if_neg he, if_neg (hne b hb)]; exact h2 i b hi hd
theorem Pend.move {o : Oper} {ow : Option Nat} (h : Pend S Un fr ops.toList o ow) (hU : ∀ r co, Un r = some co → Un' r = some co) (ha : ∀ t ∈ reads ops.toList o, getT fr t = getT fr' t) (hd : ∀ t, o.dst = some t → getT fr t = getT fr' t) : Pend S Un' fr' ops.toList o ow := by
  obtain ⟨h1, h2⟩ := alike_of (en := S.en) ha
  cases h with
  | no hw hv => exact .no (by rw [← want_congr h2]; exact hw) fun t ht => by rw [← hd t ht]; exact hv t ht
  | yes hw hl hu hv => exact .yes (by rw [← want_congr h2]; exact hw) (hl.move h1) (hU _ _ hu) fun t ht => by rw [← hd t ht]; exact hv t ht

/-- The evaluator has run one that floats. -/
theorem RdF.grow (h : RdF S hp ι Un fn fr ops (e :: l) t ds ro f is k' dm de own) (hr : Rdy ops de e.j) (ho : ops[e.j]? = some e.o) (hk : kindF S.en e.o.op ≠ 0) (hpl : PlanR S.en ops (annot S.en ops.toList .e 0) (upd de e.j) l) (M : More hp hp') (hUn : ∀ r co, Un r = some co → Un' r = some co) {ow : Option Nat} {v : CV}
    (hfr : Put S.en fn fr fr' e.o.dst v) (hnew : (kindF S.en e.o.op = 1 ∧ AgainP S.en hp' fr' ops.toList e.o) ∨ (kindF S.en e.o.op = 2 ∧ Pend S Un' fr' ops.toList e.o ow)) (how : ∀ r, ow = some r → Un r = none ∧ ∃ co, Un' r = some co) :
    RdF S hp' ι Un' fn fr' ops l t ds ro f is k' dm (upd de e.j) (fun j => if j = e.j then ow else own j) := by
  have d := h.dr
  have hej := hr.2.1
  have hold : ∀ j, upd de e.j j = true → j ≠ e.j → de j = true := fun j a b => by rw [upd_ne b] at a; exact a
  have hrd : ∀ j oj, j ≠ e.j → de j = true → ops[j]? = some oj → (∀ t ∈ reads ops.toList oj, getT fr t = getT fr' t) ∧ ∀ t, oj.dst = some t → getT fr t = getT fr' t := fun j oj hj hde hoj => by
    refine ⟨fun t ht => hfr.get_ne fun e1 => ?_, fun t ht => hfr.get_ne fun e1 => ?_⟩
    · have := (fl_reads d.key d.fine hoj ho (Ne.symm hj) hk e1).1 ht
      rw [d.cde.anc hde this] at hej; cases hej
    · exact (fl_reads d.key d.fine hoj ho (Ne.symm hj) hk e1).2 ht
  refine ⟨h.fnE, h.size, h.kind, h.df, h.ro, h.mode, h.todo, h.tdr, ?_, fun j oj a b c hkj => ?_⟩
  · refine ⟨d.sched, d.cdm, d.cde.upd hr, fun j hj => ?_, fun j hj => ?_, rank_grow hr d.cde d.rank, d.key, hpl, d.fine, fun j oj a b c => ?_, fun j j' r a b a' b' q q' => ?_, fun j r a b q => ?_, fun j oj t a b c q => ?_, fun t v' q => ?_⟩
    · unfold upd
      split
      · rfl
      · exact d.sub j hj
    · by_cases he : j = e.j
      · rw [he]; exact hr.1
      · exact d.lt j (hold j hj he)
    · by_cases he : j = e.j
      · subst he
        rw [ho] at c; cases c
        rw [if_pos rfl]
        exact hnew.imp (·.1) id
      · rw [if_neg he]
        rcases d.fl j oj (hold j a he) b c with q | ⟨q1, q2⟩
        · exact .inl q
        · obtain ⟨r1, r2⟩ := hrd j oj he (hold j a he) c
          exact .inr ⟨q1, q2.move hUn r1 r2⟩
    · by_cases he : j = e.j <;> by_cases he' : j' = e.j
      · rw [he, he']
      · simp only [if_pos he] at q
        simp only [if_neg he'] at q'
        obtain ⟨co, hc⟩ := d.ownU j' r (hold j' a' he') b' q'
        rw [(how r q).1] at hc; cases hc
      · simp only [if_neg he] at q
        simp only [if_pos he'] at q'
        obtain ⟨co, hc⟩ := d.ownU j r (hold j a he) b q
        rw [(how r q').1] at hc; cases hc
      · simp only [if_neg he] at q
        simp only [if_neg he'] at q'
        exact d.one j j' r (hold j a he) b (hold j' a' he') b' q q'
    · by_cases he : j = e.j
      · simp only [if_pos he] at q
        exact (how r q).2
      · simp only [if_neg he] at q
        obtain ⟨co, hc⟩ := d.ownU j r (hold j a he) b q
        exact ⟨co, hUn _ _ hc⟩
    · by_cases he : j = e.j
      · subst he
        rw [ho] at c; cases c
        have := (hfr t).1 q
        exact ⟨by rw [h.size]; exact this.2.1, this.2.2⟩
      · exact d.slot j oj t (hold j a he) b c q
    · by_cases hd : e.o.dst = some t
      · refine .inl ⟨e.j, e.o, upd_self, ?_, ho, hd⟩
        cases hq : dm e.j
        · rfl
        · rw [d.sub _ hq] at hej; cases hej
      · rw [(hfr t).2 hd] at q
        rcases d.vals t v' q with ⟨j, oj, a, b, c⟩ | q
        · refine .inl ⟨j, oj, ?_, b, c⟩
          unfold upd
          split
          · rfl
          · exact a
        · exact .inr q
  · by_cases he : j = e.j
    · subst he
      rw [ho] at c; cases c
      rcases hnew with q | q
      · exact q.2
      · rw [q.1] at hkj; cases hkj
    · obtain ⟨r1, r2⟩ := hrd j oj he (hold j a he) c
      obtain ⟨r3, r4⟩ := alike_of (en := S.en) r1
      exact (h.again j oj (hold j a he) b c hkj).move M r3 r4 r2
/-- The evaluator's step where one floats: the model stays. -/
theorem rd_fl (hS : SOk S) (hh : HR S base w0 U ι hp nx w) (hu : UV U V) (hg : GR S ι) (hs : StkR S (drD S).d0 ι V cs0 f0 n fn k cs) (h : RdF S hp ι (V n) fn fr ops (e :: l) t ds ro f is k' dm de own) (hr : Rdy ops de e.j) (ho : ops[e.j]? = some e.o) (hk : kindF S.en e.o.op ≠ 0) (hre : e.re = []) (hpl : PlanR S.en ops (annot S.en ops.toList .e 0) (upd de e.j) l) :
    Goes S (drD S) base w0 cs0 f0 (lone f cs w) (stepRd S.en ops (e :: l) t fn fr ds ro k hp nx) := by
  generalize hme : stepRd S.en ops (e :: l) t fn fr ds ro k hp nx = m
  rcases bad_or m with ⟨b, rfl⟩ | hm
  · exact .bad
  have hme : (opX S.en ops.toList e.o).f (fun v hp nx => fin2 S.en e.o.dst ops.toList e.re v fn fr (.rd ops l t) ds ro k hp nx) fn fr (.rd ops (e :: l) t) ds ro k hp nx = m := hme
  have hownR : ∀ {v : CV} {fr' : Tr CV}, Put S.en fn fr fr' e.o.dst v → ∀ t ∈ reads ops.toList e.o, getT fr t = getT fr' t := fun hp t ht => hp.get_ne fun e1 => fl_own h.dr.key h.dr.fine ho hk e1 ht
  have more : More hp hp := fun _ _ h => h
  rcases opX_want hm hme with ⟨hw, hm2⟩ | ⟨hw, hm2⟩
  · obtain ⟨fr', p1, _, p3⟩ := fin2_ok hm hm2.symm
    rw [p3]
    obtain ⟨q1, q2⟩ := alike_of (en := S.en) (hownR p1)
    have hw' : want fr' ops.toList e.o = some false := by rw [← want_congr q2]; exact hw
    have hkk : kindF S.en e.o.op = 1 ∨ kindF S.en e.o.op = 2 := by
      have hle : kindF S.en e.o.op ≤ 2 := by
        unfold kindF
        split <;> first | omega | skip
        · unfold kindC1
          split
          · omega
          · split <;> omega
        · split
          · rename_i b _; cases b <;> simp [kindB1]
          · omega
      omega
    refine .stay ⟨ι, U, V, n, f, cs, w, rfl, hh, hu, hg, (h.grow (ow := none) hr ho hk hpl more (fun _ _ h => h) p1 ?_ fun r e => by cases e).frr, hs⟩
    rcases hkk with q | q
    · exact .inl ⟨q, .inl ⟨hw', fun t ht => p1.get_eq ht⟩⟩
    · exact .inr ⟨q, .no hw' fun t ht => p1.get_eq ht⟩
  · by_cases hk1 : kindF S.en e.o.op = 1
    · rw [exX_one hk1] at hm2
      cases hv : flt S.en hp fr e.o with
      | none => rw [hv] at hm2; exact (hm _ hm2.symm).elim
      | some v =>
        rw [hv] at hm2
        obtain ⟨fr', p1, _, p3⟩ := fin2_ok hm hm2
        rw [p3]
        obtain ⟨q1, q2⟩ := alike_of (en := S.en) (hownR p1)
        exact .stay ⟨ι, U, V, n, f, cs, w, rfl, hh, hu, hg, (h.grow (ow := none) hr ho hk hpl more (fun _ _ h => h) p1 (.inl ⟨hk1, .inr ⟨by rw [← want_congr q2]; exact hw, v, by rw [← flt_congr q1]; exact hv, fun t ht => p1.get_eq ht⟩⟩) fun r e => by cases e).frr, hs⟩
    · have hk2 : kindF S.en e.o.op = 2 := by
        have hle : kindF S.en e.o.op ≤ 2 := by
          unfold kindF
          split <;> first | omega | skip
          · unfold kindC1
            split
            · omega
            · split <;> omega
          · split
            · rename_i b _; cases b <;> simp [kindB1]
            · omega
        omega
      obtain ⟨co, cv, hnk, hm3, hl⟩ := exX_two hS hk2 hm hm2
      obtain ⟨fr', p1, _, p3⟩ := fin2_ok hm hm3.symm
      rw [p3]
      obtain ⟨q1, q2⟩ := alike_of (en := S.en) (hownR p1)
      have hnone : U nx = none := by
        cases hq : U nx with
        | none => rfl
        | some o => have := (hh.unb nx o hq).2.2; omega
      have hVnone : ∀ d, V d nx = none := fun d => by
        cases hq : V d nx with
        | none => rfl
        | some o => rw [(hu.1 nx o).2 ⟨d, hq⟩] at hnone; cases hnone
      have hM : More hp (hp.set nx co) := fun r o e => by
        rw [Tr.get_set _ _ (by omega), if_neg (by have := hh.lt r o e; omega)]; exact e
      have hput : ∀ r, r ≠ nx → putV V n nx co n r = V n r := fun r he => by unfold putV; rw [if_neg fun e => he e.2]
      have hputn : putV V n nx co n nx = some co := by unfold putV; rw [if_pos ⟨rfl, rfl⟩]
      have hgrow := h.grow (Un' := putV V n nx co n) (ow := some nx) hr ho hk hpl hM (fun r co' e1 => by
        rw [hput r fun he => by rw [he, hVnone] at e1; cases e1]; exact e1) p1 (.inr ⟨hk2, .yes (by rw [← want_congr q2]; exact hw) (hl.move q1) hputn fun t ht => p1.get_eq ht⟩) (fun r e1 => by
        cases e1
        exact ⟨hVnone n, co, hputn⟩)
      exact .stay ⟨ι, _, putV V n nx co, n, f, cs, w, rfl, hh.draw co hnk, hu.put hVnone, hg, hgrow.frr, hs.congr fun d hd => funext fun r => by unfold putV; rw [if_neg fun e => by omega]⟩
end
end Go.Cv
/- Drawn regions: what is waited for has come; all steps. -/
namespace Go.Cv
open Go Go.RowKit
section
variable {S : Sg} {base : Nat} {w0 w : World} {cs0 cs : List Frame} {f0 : Nat} {ι ι' : Ip} {U : Nat → Option CO} {V V' : Nat → Nat → Option CO} {n : Nat} {hp hp' : Tr CO} {nx fn : Nat} {fr fr' : Tr CV} {t : TD} {ds : List Nat} {ro : Option Nat} {k : Stk} {m : AM} {f : Frame} {ops : Array Oper} {l : List PE} {is : List Nat} {k' : List Item} {dm de : Nat → Bool} {own : Nat → Option Nat}
theorem rd_finish {v : CV} {u : Value} (hh : HR S base w0 U ι hp nx w) (hu : UV U V) (hg : GR S ι) (h : FrR S (drD S).d0 ι (V n) fn fr (.rd ops l t) ds ro f) (hs : StkR S (drD S).d0 ι V cs0 f0 n fn k cs) (hv : VR ι v u) :
    SimR S (drD S) base w0 cs0 f0 (finish S.en v fn fr (.rd ops l t) ds ro k hp nx) (lone (f.finish u) cs w) := by
  rcases h.at_ with ⟨a, _⟩ | ⟨_, a, _⟩ | ⟨hm, ops', l', t', is, k', he, htd, ht, hd0⟩
  · cases a
  · generalize f.todo = q at a
    cases a
  cases he
  obtain ⟨dm, de, own, e, l', is', rfl, rfl, hk, d, ho⟩ := hd0
  have hfe : finish S.en v fn fr (.rd ops (e :: l') t) ds ro k hp nx = fin2 S.en e.o.dst ops.toList e.re v fn fr (.rd ops l' t) ds ro k hp nx := rfl
  rw [hfe]
  generalize hme : fin2 S.en e.o.dst ops.toList e.re v fn fr (.rd ops l' t) ds ro k hp nx = m
  rcases bad_or m with ⟨b, rfl⟩ | hnb
  · trivial
  obtain ⟨fr', p1, p2, p3⟩ := fin2_ok hnb hme
  rw [p3, finish_eq htd ho]
  obtain ⟨hrm, hsm⟩ : Rdy ops dm e.j ∧ Sched ops (upd dm e.j) is' := by
    have := d.sched
    cases this with | cons a b => exact ⟨a, b⟩
  obtain ⟨hr, a, ha, hre, hpl⟩ : Rdy ops de e.j ∧ ∃ a, (annot S.en ops.toList .e 0)[e.j]? = some a ∧ (∀ b ∈ annot S.en ops.toList .e 0, de b.j = true → b.kd = 1 → bit a.tm b.j = false → b.o ∈ e.re) ∧ PlanR S.en ops (annot S.en ops.toList .e 0) (upd de e.j) l' := by
    have := d.plan
    cases this with
    | fl hr ho hk' hre h => exact (hk' hk).elim
    | so hr ho hk' hu ha hre h => exact ⟨hr, _, ha, hre, h⟩
  have hdm := hrm.2.1
  have hde := hr.2.1
  have hX : ∀ j, upd de e.j j = true → upd dm e.j j = false → j ≠ e.j ∧ de j = true ∧ dm j = false := fun j a b => by
    obtain ⟨b1, b2⟩ := upd_false b
    rw [upd_ne b1] at a
    exact ⟨b1, a, b2⟩
  have hA : ∀ b, bit a.tm b = true → Anc ops e.j b := by
    have A := annot_ok S.en ops
    have hmem := List.mem_of_getElem? ha
    have haj : a.j = e.j := by
      obtain ⟨a', ha', hj⟩ := A.get e.j hr.1
      have := (A.mem a' ha').2.2.2
      rw [hj, ha] at this
      cases this; exact hj
    intro b hb
    have := annot_tm S.en (ops := ops) ops.toList .e 0 (by have := d.key; omega) (fun i o h => by rw [Nat.zero_add, ← Array.getElem?_toList]; exact h) (fun k m h => by cases h) a hmem b hb
    rw [haj] at this; exact this
  have hdst : ∀ j oj, j ≠ e.j → de j = true → dm j = false → ops[j]? = some oj → ∀ t, oj.dst = some t → e.o.dst ≠ some t := fun j oj hj a b c t ht =>
    (fl_reads d.key d.fine ho c hj (d.kd a b c) ht).2
  refine ⟨ι, U, V, n, _, cs, w, rfl, hh, hu, hg, RdF.frr (is := is') (k' := k') (dm := upd dm e.j) (de := upd de e.j) (own := own) ?_, hs⟩
  refine ⟨h.fnE, by rw [← h.size]; exact putM_size _ _ _, h.kind, h.df, h.ro, hm, rfl, ht, ?_, fun j oj a' b' c hkj => ?_⟩
  · refine ⟨hsm, d.cdm.upd hrm, d.cde.upd hr, fun j hj => ?_, fun j hj => ?_, rank_grow hr d.cde d.rank, d.key, hpl, d.fine, fun j oj a b c => ?_, fun j j' r a b a' b' q q' => ?_, fun j r a b q => ?_, fun j oj t a b c q => ?_, fun t v' q => ?_⟩
    · by_cases he : j = e.j
      · rw [he]; exact upd_self
      · rw [upd_ne he] at hj ⊢; exact d.sub j hj
    · by_cases he : j = e.j
      · rw [he]; exact hr.1
      · rw [upd_ne he] at hj; exact d.lt j hj
    · obtain ⟨x1, x2, x3⟩ := hX j a b
      rcases d.fl j oj x2 x3 c with q | ⟨q1, q2⟩
      · exact .inl q
      · refine .inr ⟨q1, q2.move (fun _ _ h => h) (fun t ht => p1.get_ne fun e1 => ?_) (fun t ht => p1.get_ne (hdst j oj x1 x2 x3 c t ht))⟩
        rcases fl_two d.key d.fine c ho (Ne.symm x1) hk q1 e1 ht with q | q
        · rw [d.cde.anc x2 q] at hde; cases hde
        · rw [hrm.anc d.cdm q] at x3; cases x3
    · obtain ⟨_, x2, x3⟩ := hX j a b
      obtain ⟨_, y2, y3⟩ := hX j' a' b'
      exact d.one j j' r x2 x3 y2 y3 q q'
    · obtain ⟨_, x2, x3⟩ := hX j a b
      exact d.ownU j r x2 x3 q
    · obtain ⟨_, x2, x3⟩ := hX j a b
      have := d.slot j oj t x2 x3 c q
      exact ⟨by show t < (putM _ _ _).size; rw [putM_size]; exact this.1, this.2⟩
    · by_cases hd : e.o.dst = some t
      · right
        have := (p1 t).1 hd
        rw [this.1] at q
        cases q
        show VR ι v ((putM e.o.dst u f.tmps).getD t undef)
        rw [hd, putM_eq (by rw [h.size]; exact this.2.1)]
        exact hv
      · rw [(p1 t).2 hd] at q
        rcases d.vals t v' q with ⟨j, oj, a, b, c⟩ | q
        · have hne : j ≠ e.j := fun he => by rw [he, hde] at a; cases a
          exact .inl ⟨j, oj, by rw [upd_ne hne]; exact a, by rw [upd_ne hne]; exact b, c⟩
        · right
          show VR ι v' ((putM e.o.dst u f.tmps).getD t undef)
          rw [putM_ne hd]
          exact q
  · obtain ⟨x1, x2, x3⟩ := hX j a' b'
    obtain ⟨b, hb, hbj, hbo, hbk, _⟩ := an_of (en := S.en) d.key c
    have hmem := hre b hb (by rw [hbj]; exact x2) (by rw [hbk]; exact hkj) (by
      cases hq : bit a.tm b.j
      · rfl
      · have := hrm.anc d.cdm (hA _ hq)
        rw [hbj, x3] at this; cases this)
    rw [hbo] at hmem
    exact again_ok ((allL_iff _ _).1 p2 _ hmem)
theorem drD_ok (S : Sg) : DDok S (drD S) := ⟨fun x h => dr_mono0 x h, fun hh hu hg h hs hv => rd_finish hh hu hg h hs hv⟩

theorem rd_ok (hS : SOk S) (hF : FOk S) (hM : MOk S base w0) (hX : XOk S) (hh : HR S base w0 U ι hp nx w) (hu : UV U V) (hg : GR S ι) (hs : StkR S (drD S).d0 ι V cs0 f0 n fn k cs) (h : RdF S hp ι (V n) fn fr ops l t ds ro f is k' dm de own) :
    Goes S (drD S) base w0 cs0 f0 (lone f cs w) (stepRd S.en ops l t fn fr ds ro k hp nx) := by
  have hD := drD_ok S
  cases l with
  | nil =>
    have hall : ∀ i, i < ops.size → de i = true := by
      have := h.dr.plan
      cases this with | nil h => exact h
    obtain ⟨f', w', ι', U', V', is', dm', a1, x, hh', hu', hV, h', hend⟩ := catchup (cs := cs) hS is f w ι U V dm hh hu hg h
    have hs' := (hs.mono hD x).congr hV
    rcases hend with rfl | ⟨i, rest, rfl, hi⟩
    · refine .trans a1 ?_
      have hf : FR ι' fr f'.tmps := fun t v e => by
        rcases h'.dr.vals t v e with ⟨j, o, a, b, _⟩ | q
        · rw [h'.dr.allRun j a] at b; cases b
        · exact q
      exact .turn hh' hu' (hg.mono x) h'.frr h'.mode hf hs' h'.todo stepR_region_end h'.tdr
    · have := h'.dr.sched
      cases this with
      | cons hr _ => rw [hall i hr.1] at hi; cases hi
  | cons e l =>
    have hpl := h.dr.plan
    cases hpl with
    | fl hr ho hk hre hp => exact rd_fl hS hh hu hg hs h hr ho hk hre hp
    | so hr ho hk hun ha hre hp =>
      obtain ⟨f', w', ι', U', V', is', dm', a1, x, hh', hu', hV, h', hend⟩ := catchup (cs := cs) hS is f w ι U V dm hh hu hg h
      have hs' := (hs.mono hD x).congr hV
      have hg' := hg.mono x
      refine .trans a1 ?_
      have d := h'.dr
      rcases hend with rfl | ⟨i, rest, rfl, hi⟩
      · have hn : ∀ i, ¬ Rdy ops dm' i := by have := d.sched; cases this; assumption
        refine (hn e.j (hr.more (fun j hj => d.allRun j hj) ?_)).elim
        cases hq : dm' e.j
        · rfl
        · have := d.sub _ hq
          rw [hr.2.1] at this; cases this
      · have hrm : Rdy ops dm' i := by
          have := d.sched
          cases this with | cons a _ => exact a
        have hie : i = e.j := hun i (hrm.more d.sub hi)
        subst hie
        obtain ⟨fr', hf, hfr⟩ := d.drop
        obtain ⟨hal, hgd⟩ := d.alike ho hrm hfr
        have h0 : FrR S (drD S).d0 ι' (V' n) fn fr (.rd ops (e :: l) t) ds ro f' := ⟨h'.fnE, h'.size, h'.kind, h'.df, h'.ro, .inr (.inr ⟨h'.mode, ops, e :: l, t, _, k', rfl, h'.todo, h'.tdr, dm', de, own, e, l, rest, rfl, rfl, hk, d, ho⟩)⟩
        exact op_ok hS hD hh' hu' hg' h0 h'.mode h'.todo ho hf hal hgd hs' (fun _ _ _ => rfl)
          fun x c hop hcal hw => callV_ok hD hF hM hh' hu' hg' h0 hs' h'.mode h'.todo ho hw hop hcal hf hal
            fun fnum args us code ha hlt hx he => ext_ok hD hX hh' hu' hg' h0 hs' h'.mode h'.todo ho hw (fun c e => by rw [hop] at e; cases e) fnum args us code ha hlt hx he
/-- **Nothing is wanted any more.** -/
theorem rest_ok (hS : SOk S) (hF : FOk S) (hM : MOk S base w0) (hX : XOk S) : Rest S (drD S) base w0 cs0 f0 where
  ext hh hu hg h hs hm htd ho hw hd fnum args us code ha hlt hx he := ext_ok (drD_ok S) hX hh hu hg h hs hm htd ho hw hd fnum args us code ha hlt hx he
  draw hh hu hg h hf hs hm htd ht := draw_ok hS hh hu hg h hf hs hm htd ht
  rd {ι U V n hp nx fn fr ops l t ds ro k f cs w is k'} hh hu hg h hs hm htd ht hd := by
    obtain ⟨dm, de, own, d, hag⟩ := hd
    exact rd_ok hS hF hM hX hh hu hg hs ⟨h.fnE, h.size, h.kind, h.df, h.ro, hm, htd, ht, d, hag⟩
end
end Go.Cv
