/- Part of the proofs of the statements about tokens (layer 5): the laws; it has no conditions of its own. -/
import Derived.Shelf.Strings.OnBuilder
import Derived.Test.YtfchfhjpldppjaaGreatDoorTf
import Derived.Test.YtfchfhjpldppjaaGreatDoorTb
import Derived.Test.YtfchfhjpldppjaaGreatDoorTd
import Derived.Test.YtfchfhjpldppjaaGreatDoorTc
import Derived.Test.YtfchfhjpldppjaaGreatDoorSc
namespace Go.Proofs.YtfchfhjpldppjaaGreatDoor
open Go.Sx
set_option maxRecDepth 10000
set_option maxHeartbeats 4000000
/-! Same, of items whose lists of parameters may be empty without being nil. -/
structure RowIX (f : Nat → List SV) (n : Int) (a : List Item) : Prop where
  n : n = a.length
  f : ∀ i, ∃ (e : Bool) (pf : Nat → List SV), f i = [.str (a.getD i ([], [])).1, .sl (.a e) (.a ((a.getD i ([], [])).2.length : Int)) 2 pf] ∧ RowP pf ((a.getD i ([], [])).2.length : Int) (a.getD i ([], [])).2
  len : a.length ≤ 9223372036854775807
def spSameX : FSpec := fun _ xs ls K => ∃ (a b : List Item) (na nb : Bool) (A B : Int) (f g : Nat → List SV), xs = [.sl (.a na) (.a A) 2 f, .sl (.a nb) (.a B) 2 g] ∧ ls = [] ∧ RowIX f A a ∧ RowIX g B b ∧ ∀ r : Bool, r = (a == b) → K (.bool (.a r)) []
theorem sameX_ok : FnOk Tryz.prog gl 29 spSameX := by
  refine fnOk (gh := []) mixed cxOk tabNil Tryz.func29 (by kernel_rfl) (by kernel_rfl) ?_
  intro xs ls K h
  unfold spSameX at h
  obtain ⟨a, b, na, nb, A, B, f, g, rfl, rfl, RA, RB, h⟩ := h
  obtain ⟨k, hk⟩ : ∃ k, k = (a == b) := ⟨_, rfl⟩
  refine ⟨_, _, h k hk, fun D hD => ?_⟩
  clear h
  cbv
  refine br hD (fun h => ?_) (fun h => ?_) <;> cbv
  · have h2 : A ≠ B := by simpa using h
    refine finBool hD ?_
    rw [hk]
    have h3 : a ≠ b := fun e => h2 (by rw [RA.n, RB.n, e])
    show false = _
    symm
    simpa using h3
  have h2 : A = B := by simpa using h
  have hlab : a.length = b.length := by have := RA.n; have := RB.n; omega
  clear h
  obtain ⟨J, hJ⟩ : ∃ J, J = saJ k a b na nb A B f g := ⟨_, rfl⟩
  refine ⟨[0, 1, 5], J, ⟨rfl, a.length, ?_⟩, ?_⟩
  · rw [hJ]
    subst hD
    exact ⟨0, 0, rfl, rfl, AtR.zero RA.len, hk⟩
  intro m vs hp' hv
  rw [hJ] at hv
  unfold saJ at hv
  obtain ⟨i, I, rfl, rfl, V, hk2⟩ := hv
  clear hk
  cbv
  refine br hD (fun h => ?_) (fun h => ?_) <;> cbv
  · have hlt := V.lt RA.n (of_decide_eq_true (p := I < A) h)
    clear h
    have hltb : i < b.length := by omega
    have inA := V.inB hD RA.n hlt
    have inB' : Sx.InB (D.i (.a I)) (D.i (.a B)) := by have := V.I; have := RB.n; subst hD; exact ⟨by show 0 ≤ I; omega, by show I < B; omega⟩
    rw [dropR (d := ([], [])) hlt, dropR (d := ([], [])) hltb] at hk2
    obtain ⟨xe, xf, e1, RX⟩ := RA.f i
    obtain ⟨ye, yf, d1, RY⟩ := RB.f i
    obtain ⟨x, hx⟩ : ∃ x, x = a.getD i ([], []) := ⟨_, rfl⟩
    obtain ⟨y, hy⟩ : ∃ y, y = b.getD i ([], []) := ⟨_, rfl⟩
    rw [← hx] at e1 RX hk2
    rw [← hy] at d1 RY hk2
    obtain ⟨xv, xp⟩ := x
    obtain ⟨yv, yp⟩ := y
    obtain ⟨r, hr⟩ : ∃ r, r = (a.drop (i + 1) == b.drop (i + 1)) := ⟨_, rfl⟩
    have hk3 : k = ((xv == yv) && ((xp == yp) && r)) := by rw [hk2, hr]; show (((xv, xp) == (yv, yp)) && _) = _; rw [← Bool.and_assoc]; rfl
    clear hk2
    obtain ⟨xn, hxn⟩ : ∃ n : Int, n = (xp.length : Int) := ⟨_, rfl⟩
    obtain ⟨yn, hyn⟩ : ∃ n : Int, n = (yp.length : Int) := ⟨_, rfl⟩
    simp only at e1 d1 RX RY
    rw [← hxn] at e1 RX
    rw [← hyn] at d1 RY
    have lxp := RX.len
    clear hxn hyn
    refine ⟨inA, fun j hj => ?_⟩
    obtain rfl := V.j hD hj
    cbv
    rw [e1]
    cbv
    refine ⟨inB', fun j2 hj2 => ?_⟩
    obtain rfl := V.j hD hj2
    cbv
    rw [d1]
    cbv
    refine ⟨fun _ => inA, fun j3 hj3 => ?_⟩
    obtain ⟨ue, uf, e4, _⟩ := RA.f j3
    obtain ⟨u, hu⟩ : ∃ u, u = a.getD j3 ([], []) := ⟨_, rfl⟩
    rw [← hu] at e4
    obtain ⟨uv, up⟩ := u
    obtain ⟨un, hun⟩ : ∃ n : Int, n = (up.length : Int) := ⟨_, rfl⟩
    simp only at e4
    rw [← hun] at e4
    have s1 : (xv == yv) = true → un = xn := by
      intro hv
      have : j3 = j2 := V.j hD (hj3 (by subst hD; show (!!(xv == yv)) = true; simpa using hv))
      rw [this, ← hx] at hu
      rw [hun, RX.n, (Prod.mk.inj hu).2]
    clear hun
    cbv
    rw [e4]
    cbv
    refine ⟨fun _ => inB', fun j4 hj4 => ?_⟩
    obtain ⟨we, wf, d4, _⟩ := RB.f j4
    obtain ⟨w, hw⟩ : ∃ w, w = b.getD j4 ([], []) := ⟨_, rfl⟩
    rw [← hw] at d4
    obtain ⟨wv, wp⟩ := w
    obtain ⟨wn, hwn⟩ : ∃ n : Int, n = (wp.length : Int) := ⟨_, rfl⟩
    simp only at d4
    rw [← hwn] at d4
    have s2 : (xv == yv) = true → wn = yn := by
      intro hv
      have : j4 = j2 := V.j hD (hj4 (by subst hD; show (!!(xv == yv)) = true; simpa using hv))
      rw [this, ← hy] at hw
      rw [hwn, RY.n, (Prod.mk.inj hw).2]
    clear hwn
    cbv
    rw [d4]
    cbv
    refine br hD (fun h => ?_) (fun h => ?_) <;> cbv
    · have h : (!(xv == yv) || un != wn) = true := h
      refine finBool hD ?_
      show false = k
      rw [hk3]
      cases hv : xv == yv with
      | false => rfl
      | true =>
        rw [hv] at h
        have h1 : xn ≠ yn := by rw [← s1 hv, ← s2 hv]; simpa using h
        have h2 : (xp == yp) = false := by
          cases hxy : xp == yp with
          | false => rfl
          | true => exact absurd (by rw [RX.n, RY.n, beq_iff_eq.1 hxy]) h1
        rw [h2]; rfl
    have h : (!(xv == yv) || un != wn) = false := h
    simp only [Bool.or_eq_false_iff, Bool.not_eq_false', bne_eq_false_iff_eq] at h
    obtain ⟨hv, h3⟩ := h
    have hxy : xn = yn := by rw [← s1 hv, ← s2 hv]; exact h3
    have hxyl : xp.length = yp.length := by have := RX.n; have := RY.n; omega
    rw [hv, Bool.true_and] at hk3
    clear s1 s2 h3 hj3 hj4 e4 d4 hu hw
    obtain ⟨J2, hJ2⟩ : ∃ J, J = saJ2 k r xp yp na nb A B I f g := ⟨_, rfl⟩
    refine ⟨[0, 1, 5, 6], J2, ⟨rfl, xp.length, ?_⟩, ?_⟩
    · rw [hJ2]
      subst hD
      exact ⟨0, 0, rfl, rfl, AtR.zero lxp, hk3⟩
    intro m2 vs2 hp2 hv2
    rw [hJ2] at hv2
    unfold saJ2 at hv2
    obtain ⟨q, Q, rfl, rfl, W, hk4⟩ := hv2
    clear hk3
    cbv
    refine ⟨inA, fun j3 hj3 => ?_⟩
    obtain rfl : j3 = j2 := V.j hD hj3
    cbv
    rw [e1]
    cbv
    refine br hD (fun h => ?_) (fun h => ?_) <;> cbv
    · have hlt2 := W.lt RX.n (of_decide_eq_true (p := Q < xn) h)
      clear h
      have hlt3 : q < yp.length := by omega
      rw [dropR (d := ([], [])) hlt2, dropR (d := ([], [])) hlt3] at hk4
      have p1 := RX.f q hlt2
      have p2 := RY.f q hlt3
      obtain ⟨x2, hx2⟩ : ∃ x, x = xp.getD q ([], []) := ⟨_, rfl⟩
      obtain ⟨y2, hy2⟩ : ∃ y, y = yp.getD q ([], []) := ⟨_, rfl⟩
      rw [← hx2] at p1 hk4
      rw [← hy2] at p2 hk4
      obtain ⟨xa, xb⟩ := x2
      obtain ⟨ya, yb⟩ := y2
      simp only at p1 p2
      refine ⟨inA, fun j4 hj4 => ?_⟩
      have h4 : j4 = j3 := V.j hD hj4
      have e5 : f j4 = [.str xv, .sl (.a xe) (.a xn) 2 xf] := by rw [h4]; exact e1
      cbv
      rw [e5]
      cbv
      refine ⟨W.inB hD RX.n hlt2, fun j5 hj5 => ?_⟩
      have h5 : j5 = q := W.j hD hj5
      have e6 : xf j5 = [.str xa, .str xb] := by rw [h5]; exact p1
      cbv
      rw [e6]
      cbv
      refine ⟨inB', fun j6 hj6 => ?_⟩
      have h6 : j6 = j3 := V.j hD hj6
      have d5 : g j6 = [.str yv, .sl (.a ye) (.a yn) 2 yf] := by rw [h6]; exact d1
      cbv
      rw [d5]
      cbv
      refine ⟨by rw [← hxy]; exact W.inB hD RX.n hlt2, fun j7 hj7 => ?_⟩
      have h7 : j7 = q := W.j hD hj7
      have d6 : yf j7 = [.str ya, .str yb] := by rw [h7]; exact p2
      cbv
      rw [d6]
      cbv
      have hk6 : k = (((xa == ya) && (xb == yb)) && ((xp.drop (q + 1) == yp.drop (q + 1)) && r)) := by
        rw [hk4]
        show ((((xa, xb) == (ya, yb)) && _) && r) = _
        rw [Bool.and_assoc]; rfl
      refine br hD (fun h => ?_) (fun h => ?_) <;> cbv
      · have h : (!((xa == ya) && (xb == yb))) = true := h
        refine finBool hD ?_
        show false = k
        rw [hk6]
        have h : ((xa == ya) && (xb == yb)) = false := by simpa only [Bool.not_eq_true'] using h
        rw [h]; rfl
      · have h : (!((xa == ya) && (xb == yb))) = false := h
        have h : ((xa == ya) && (xb == yb)) = true := by simpa only [Bool.not_eq_false'] using h
        rw [h, Bool.true_and] at hk6
        refine ⟨xp.length - (q + 1), (W.step hD hlt2).1, ?_⟩
        rw [hJ2]
        subst hD
        exact ⟨q + 1, _, rfl, rfl, (W.step rfl hlt2).2, hk6⟩
    · have hi := W.eq RX.n (of_decide_eq_false (p := Q < xn) h)
      have hk5 : k = r := by
        rw [hk4, hi, List.drop_length, hxyl, List.drop_length]; rfl
      refine ⟨a.length - (j3 + 1), (V.step hD hlt).1, ?_⟩
      rw [hJ]
      subst hD
      exact ⟨j3 + 1, _, rfl, rfl, (V.step rfl hlt).2, by rw [hk5, hr]⟩
  · have hi := V.eq RA.n (of_decide_eq_false (p := I < A) h)
    refine finBool hD ?_
    rw [hk2, hi, List.drop_length, hlab, List.drop_length]; rfl
theorem RowIT.toX {f : Nat → List SV} {n : Int} {a : List Item} (R : RowIT f n a) : RowIX f n a := by
  refine ⟨R.n, fun i => ⟨_, _, R.f i, rfl, fun _ _ => rfl, ?_⟩, R.len⟩
  by_cases h : i < a.length
  · exact R.par _ (getD_memI h)
  · rw [List.getD_eq_getElem?_getD, List.getElem?_eq_none (by omega)]; simp
end Go.Proofs.YtfchfhjpldppjaaGreatDoor
namespace Go.Proofs.YtfchfhjpldppjaaGreatDoor
open Go.Sx
set_option maxRecDepth 100000
set_option maxHeartbeats 2000000
/-! Quote and Unquote. -/
theorem escF_c (c : UInt8) (r : List UInt8) : escF (c :: r) = escB c ++ escF r := rfl
theorem plains_c {c : UInt8} {r : List UInt8} (h : plainsF (c :: r) = true) : plainI (c.toNat : Int) = true ∧ plainsF r = true := by
  unfold plainsF at h
  rw [List.all_cons, Bool.and_eq_true] at h
  exact h
theorem qd_esc : ∀ (s : List UInt8), plainsF s = true → qdF plainI (escF s ++ [34]) = some ((escF s).length + 1, s)
  | [], _ => by
    show qdF plainI [34] = _
    rw [qdF_cons]; rfl
  | c :: r, h => by
    obtain ⟨h1, h2⟩ := plains_c h
    have ih := qd_esc r h2
    rw [escF_c, List.append_assoc]
    by_cases he : (c.toNat : Int) = 34 ∨ (c.toNat : Int) = 92
    · have e : escB c = [92, c] := if_pos he
      rw [e]
      show qdF plainI (92 :: (c :: (escF r ++ [34]))) = _
      rw [qdF_cons]
      have p92 : plainI (((92 : UInt8).toNat : Nat) : Int) = true := by decide
      rw [p92]
      have n34 : ¬ (((92 : UInt8).toNat : Nat) : Int) = 34 := by decide
      have y92 : (((92 : UInt8).toNat : Nat) : Int) = 92 := by decide
      simp only [Bool.not_true, Bool.false_eq_true, if_false, if_neg n34, if_pos y92, h1]
      rw [ih]
      simp
    · have e : escB c = [c] := if_neg he
      rw [e]
      show qdF plainI (c :: (escF r ++ [34])) = _
      rw [qdF_cons, h1]
      have n34 : ¬ (c.toNat : Int) = 34 := fun h => he (.inl h)
      have n92 : ¬ (c.toNat : Int) = 92 := fun h => he (.inr h)
      simp only [Bool.not_true, Bool.false_eq_true, if_false, if_neg n34, if_neg n92]
      rw [ih]
      simp
theorem qd_back : ∀ (n : Nat) (r : List UInt8) (x : Nat × List UInt8), r.length ≤ n → qdF plainI r = some x → plainsF x.2 = true ∧ (escF x.2).length + 1 ≤ x.1 ∧ x.2.length + 1 ≤ x.1
  | n, [], x, _, h => by simp [qdF] at h
  | 0, c :: r, x, hl, h => by simp at hl
  | n + 1, c :: r, x, hl, h => by
    simp only [List.length_cons] at hl
    rw [qdF_cons] at h
    split at h
    · cases h
    rename_i hp
    have hp : plainI (c.toNat : Int) = true := by simpa using hp
    split at h
    · cases h; exact ⟨rfl, by simp [escF], by simp⟩
    rename_i h34
    split at h
    · cases r with
      | nil => cases h
      | cons d r' =>
        simp only at h
        split at h
        · cases h
        · rename_i hd
          obtain ⟨z, hz, rfl⟩ := Option.map_eq_some_iff.1 h
          obtain ⟨q1, q2, q3⟩ := qd_back n r' z (by simp at hl; omega) hz
          refine ⟨?_, ?_, by simp; omega⟩
          · unfold plainsF at q1 ⊢
            rw [List.all_cons, q1, Bool.and_true]; simpa using hd
          · rw [escF_c, List.length_append]
            have : (escB d).length ≤ 2 := by unfold escB; split <;> simp
            simp only; omega
    · rename_i h92
      obtain ⟨z, hz, rfl⟩ := Option.map_eq_some_iff.1 h
      obtain ⟨q1, q2, q3⟩ := qd_back n r z (by omega) hz
      refine ⟨?_, ?_, by simp; omega⟩
      · unfold plainsF at q1 ⊢
        rw [List.all_cons, q1, Bool.and_true]; exact hp
      · rw [escF_c, List.length_append]
        have : escB c = [c] := if_neg (fun h => h.elim h34 h92)
        rw [this]
        simp; omega
theorem letter_plain (c : UInt8) (h : letterI (c.toNat : Int) = true) : plainI (c.toNat : Int) = true := by
  have : ∀ n : Fin 256, letterI (n.1 : Int) = true → plainI (n.1 : Int) = true := by decide
  exact this ⟨c.toNat, c.toNat_lt⟩ h
theorem token_plain {s : List UInt8} (h : refTokenF s = true) : plainsF s = true ∧ s.length ≤ 64 ∧ 1 ≤ s.length := by
  unfold refTokenF allI at h
  simp only [Bool.and_eq_true, Bool.not_eq_true', Bool.or_eq_false_iff, decide_eq_false_iff_not, List.all_eq_true] at h
  refine ⟨?_, by omega, by omega⟩
  unfold plainsF
  rw [List.all_eq_true]
  intro c hc
  exact letter_plain c (h.2 c hc)
theorem token_not34 {r : List UInt8} : refTokenF (34 :: r) = false := by
  unfold refTokenF allI
  rw [List.all_cons]
  have : letterI (((34 : UInt8).toNat : Nat) : Int) = false := by decide
  rw [this, Bool.false_and, Bool.and_false]
/-- Unquote of Quote is the text. -/
theorem unq_quote {s a : List UInt8} (h : refQuoteF s = (a, 0)) : refUnquoteF a = (s, 0) := by
  unfold refQuoteF at h
  split at h
  · cases h
  rename_i h5
  split at h
  · cases h
  rename_i hp
  have hp : plainsF s = true := by simpa using hp
  split at h
  · rename_i ht
    cases h
    rw [refUnquoteF, if_pos ht]
  · rename_i ht
    simp only [Prod.mk.injEq, and_true] at h
    subst h
    show refUnquoteF (34 :: (escF s ++ [34])) = _
    have hq : refQuotedF (34 :: (escF s ++ [34])) 0 = ((((34 :: (escF s ++ [34])).length : Nat) : Int), s, true) := by
      rw [refQuotedF, qRes]
      show (match qdF plainI (escF s ++ [34]) with | none => _ | some x => _) = _
      rw [qd_esc s hp]
      simp
      omega
    rw [refUnquoteF, token_not34, if_neg (by simp), if_neg (by simp [charI]), hq]
    rw [if_neg (by simp), if_neg (by omega)]
/-- Quote of what Unquote has read fits, and is not longer. -/
theorem quote_unq {s c : List UInt8} (h : refUnquoteF s = (c, 0)) : (refQuoteF c).2 = 0 ∧ (refQuoteF c).1.length ≤ s.length := by
  unfold refUnquoteF at h
  split at h
  · rename_i ht
    cases h
    obtain ⟨h1, h2, h3⟩ := token_plain ht
    rw [refQuoteF, if_neg (by omega), h1, if_neg (by simp), if_pos ht]
    exact ⟨rfl, Nat.le_refl _⟩
  split at h
  · cases h
  rename_i h0
  split at h
  · cases h
  rename_i hq
  split at h
  · cases h
  rename_i h5
  simp only [Prod.mk.injEq, and_true] at h
  have h0' : 0 < s.length := by omega
  rw [refQuotedF, qRes] at hq h5 h
  cases hx : qdF plainI (s.drop (0 + 1)) with
  | none => rw [hx] at hq; simp at hq
  | some x =>
    rw [hx] at hq h5 h
    simp only [List.nil_append] at hq h5 h
    have hlen : (0 + 1 + x.1 : Nat) = s.length := by
      by_cases e : ((0 + 1 + x.1 : Nat) : Int) = (s.length : Int)
      · omega
      · exact absurd (.inr e) hq
    obtain ⟨q1, q2, q3⟩ := qd_back _ _ x (Nat.le_refl _) hx
    subst h
    rw [refQuoteF, if_neg (by omega), q1, if_neg (by simp)]
    split
    · exact ⟨rfl, by show x.2.length ≤ _; omega⟩
    · refine ⟨rfl, ?_⟩
      show ([34] ++ escF x.2 ++ [34]).length ≤ _
      simp; omega
end Go.Proofs.YtfchfhjpldppjaaGreatDoor
namespace Go.Proofs.YtfchfhjpldppjaaGreatDoor
open Go.Sx
set_option maxRecDepth 10000
set_option maxHeartbeats 2000000
/-! Elements that are joined again. -/
def runS (p : Int → Bool) (y : Int) : List UInt8 → Nat → Option Nat
  | [], md => some md
  | c :: r, md =>
    if !p (c.toNat : Int) then none
    else if md = 0 then (if (c.toNat : Int) = 34 then runS p y r 1 else if (c.toNat : Int) = y then none else runS p y r 0)
    else if md = 1 then runS p y r (if (c.toNat : Int) = 34 then 0 else if (c.toNat : Int) = 92 then 2 else 1)
    else runS p y r 1
theorem partsM_app (p : Int → Bool) (y : Int) : ∀ (a b : List UInt8) (md m : Nat) (cur : List UInt8), runS p y a md = some m → partsM p y (a ++ b) md cur = partsM p y b m (cur ++ a)
  | [], b, md, m, cur, h => by
    simp only [runS, Option.some.injEq] at h
    rw [h]; simp
  | c :: a, b, md, m, cur, h => by
    simp only [runS] at h
    simp only [List.cons_append, partsM]
    split at h
    · cases h
    rename_i hp
    rw [if_neg hp]
    split at h
    · rename_i h0
      rw [if_pos h0]
      split at h
      · rename_i h34
        rw [if_pos h34, partsM_app p y a b 1 m _ h]; simp
      · rename_i h34
        rw [if_neg h34]
        split at h
        · cases h
        · rename_i hy
          rw [if_neg hy, partsM_app p y a b 0 m _ h]; simp
    · rename_i h0
      rw [if_neg h0]
      split at h
      · rename_i h1
        rw [if_pos h1]
        split at h
        · rename_i h34
          rw [if_pos h34, partsM_app p y a b 0 m _ h]; simp
        · rename_i h34
          rw [if_neg h34]
          split at h
          · rename_i h92
            rw [if_pos h92, partsM_app p y a b 2 m _ h]; simp
          · rename_i h92
            rw [if_neg h92, partsM_app p y a b 1 m _ h]; simp
      · rename_i h1
        rw [if_neg h1, partsM_app p y a b 1 m _ h]; simp
theorem partsM_runS (p : Int → Bool) (y : Int) : ∀ (r : List UInt8) (md : Nat) (cur : List UInt8) (l : List (List UInt8)), partsM p y r md cur = some l → ∃ r1 l', l = (cur ++ r1) :: l' ∧ runS p y r1 md = some 0 ∧ ∀ x ∈ l', runS p y x 0 = some 0
  | [], md, cur, l, h => by
    simp only [partsM] at h
    split at h
    · rename_i h0
      cases h
      exact ⟨[], [], by simp, by rw [runS, h0], by simp⟩
    · cases h
  | c :: r, md, cur, l, h => by
    simp only [partsM] at h
    split at h
    · cases h
    rename_i hp
    have push : ∀ md', partsM p y r md' (cur ++ [c]) = some l → (∀ r1, runS p y (c :: r1) md = runS p y r1 md') → ∃ r1 l', l = (cur ++ r1) :: l' ∧ runS p y r1 md = some 0 ∧ ∀ x ∈ l', runS p y x 0 = some 0 := by
      intro md' h hm
      obtain ⟨r1, l', e1, e2, e3⟩ := partsM_runS p y r md' _ l h
      exact ⟨c :: r1, l', by rw [e1]; simp, by rw [hm]; exact e2, e3⟩
    split at h
    · rename_i h0
      split at h
      · rename_i h34
        exact push 1 h fun r1 => by rw [runS, if_neg hp, if_pos h0, if_pos h34]
      · rename_i h34
        split at h
        · obtain ⟨l1, h1, rfl⟩ := Option.map_eq_some_iff.1 h
          obtain ⟨r1, l', e1, e2, e3⟩ := partsM_runS p y r 0 [] l1 h1
          refine ⟨[], l1, by simp, by rw [runS, h0], ?_⟩
          rw [e1]
          intro x hx
          rcases List.mem_cons.1 hx with rfl | hx
          · simpa using e2
          · exact e3 x hx
        · rename_i hy
          exact push 0 h fun r1 => by rw [runS, if_neg hp, if_pos h0, if_neg h34, if_neg hy]
    · rename_i h0
      split at h
      · rename_i h1
        split at h
        · rename_i h34
          exact push 0 h fun r1 => by rw [runS, if_neg hp, if_neg h0, if_pos h1, if_pos h34]
        · rename_i h34
          split at h
          · rename_i h92
            exact push 2 h fun r1 => by rw [runS, if_neg hp, if_neg h0, if_pos h1, if_neg h34, if_pos h92]
          · rename_i h92
            exact push 1 h fun r1 => by rw [runS, if_neg hp, if_neg h0, if_pos h1, if_neg h34, if_neg h92]
      · rename_i h1
        exact push 1 h fun r1 => by rw [runS, if_neg hp, if_neg h0, if_neg h1]
theorem runS_app (p : Int → Bool) (y : Int) : ∀ (a b : List UInt8) (md : Nat), runS p y (a ++ b) md = (runS p y a md).bind (runS p y b)
  | [], b, md => rfl
  | c :: a, b, md => by
    simp only [List.cons_append, runS]
    split
    · rfl
    split
    · split
      · exact runS_app p y a b _
      · split
        · rfl
        · exact runS_app p y a b _
    split
    · exact runS_app p y a b _
    · exact runS_app p y a b _
theorem blank_44 {c : UInt8} (h : blankB c = true) : (c.toNat : Int) ≠ 44 := by
  unfold blankB blankI at h
  simp only [Bool.or_eq_true, beq_iff_eq] at h
  rcases h with h | h <;> rw [h] <;> decide
theorem runS_trimL : ∀ (x : List UInt8), runS plainI 44 x 0 = some 0 → runS plainI 44 (trimL x) 0 = some 0
  | [], h => h
  | c :: r, h => by
    by_cases hb : blankB c = true
    · rw [trimL_cons hb]
      obtain ⟨h1, h2, h3⟩ := blank_facts hb
      rw [runS, h1] at h
      simp only [Bool.not_true, Bool.false_eq_true, if_false, if_true, if_neg h2, if_neg (blank_44 hb)] at h
      exact runS_trimL r h
    · rw [trimL, List.dropWhile_cons_of_neg hb]; exact h
theorem runS_blank {r : List UInt8} {c : UInt8} (hb : blankB c = true) (h : runS plainI 44 (r ++ [c]) 0 = some 0) : runS plainI 44 r 0 = some 0 := by
  obtain ⟨h1, h2, h3⟩ := blank_facts hb
  rw [runS_app] at h
  cases hr : runS plainI 44 r 0 with
  | none => rw [hr] at h; cases h
  | some m =>
    rw [hr] at h
    simp only [Option.bind_some, runS, h1, Bool.not_true, Bool.false_eq_true, if_false, if_neg h2, if_neg h3, if_neg (blank_44 hb)] at h
    split at h
    · rename_i h0; rw [h0]
    · split at h <;> simp at h
theorem runS_trimR : ∀ (n : Nat) (x : List UInt8), x.length ≤ n → runS plainI 44 x 0 = some 0 → runS plainI 44 (trimR x) 0 = some 0
  | n, [], _, h => h
  | 0, c :: r, hl, h => by simp at hl
  | n + 1, c :: r, hl, h => by
    obtain ⟨L, b, hx⟩ : ∃ L b, c :: r = L ++ [b] := by
      rcases List.eq_nil_or_concat (c :: r) with e | ⟨L, b, e⟩
      · cases e
      · exact ⟨L, b, by simpa using e⟩
    rw [hx] at h ⊢
    have hl2 : L.length ≤ n := by have := congrArg List.length hx; simp at this hl; omega
    by_cases hb : blankB b = true
    · rw [trimR_snoc hb]
      exact runS_trimR n L hl2 (runS_blank hb h)
    · rw [trimR, List.reverse_append, List.reverse_singleton, List.singleton_append, List.dropWhile_cons_of_neg hb]
      simpa using h
theorem dropW_idem {p : UInt8 → Bool} : ∀ (s : List UInt8), (s.dropWhile p).dropWhile p = s.dropWhile p
  | [] => rfl
  | c :: r => by
    by_cases h : p c = true
    · rw [List.dropWhile_cons_of_pos h]; exact dropW_idem r
    · rw [List.dropWhile_cons_of_neg h, List.dropWhile_cons_of_neg h]
theorem trimL_idem (s : List UInt8) : trimL (trimL s) = trimL s := dropW_idem s
theorem trimR_idem (s : List UInt8) : trimR (trimR s) = trimR s := by
  unfold trimR; rw [List.reverse_reverse, dropW_idem]
theorem trimF_idem (s : List UInt8) : trimF (trimF s) = trimF s := by
  unfold trimF
  rw [← trim_comm (trimL s), trimL_idem, trimR_idem]
/-- An element: it has no comma outside of quoted strings, and no blanks at its ends. -/
structure Elem (x : List UInt8) : Prop where
  run : runS plainI 44 x 0 = some 0
  trim : trimF x = x
  ne : x ≠ []
theorem elem_of {s x : List UInt8} (h : x ∈ (refElementsF s).1) : Elem x := by
  unfold refElementsF at h
  split at h
  · simp at h
  · cases hp : partsF 44 s with
    | none => rw [hp] at h; simp at h
    | some l =>
      rw [hp] at h
      have h : x ∈ keepF l := h
      unfold keepF at h
      obtain ⟨hm, hne⟩ := List.mem_filter.1 h
      obtain ⟨z, hz, rfl⟩ := List.mem_map.1 hm
      obtain ⟨r1, l', e1, e2, e3⟩ := partsM_runS _ _ _ _ _ _ hp
      have hz2 : runS plainI 44 z 0 = some 0 := by
        rw [e1] at hz
        rcases List.mem_cons.1 hz with rfl | hz
        · simpa using e2
        · exact e3 z hz
      refine ⟨runS_trimR _ _ (Nat.le_refl _) (runS_trimL _ hz2), trimF_idem z, fun e => ?_⟩
      rw [e] at hne; cases hne
/-- What is kept of the parts. -/
def Kp (cur s : List UInt8) : Option (List (List UInt8)) := (partsM plainI 44 s 0 cur).map keepF
def keep1 (cur : List UInt8) : List (List UInt8) := if neB (trimF cur) then [trimF cur] else []
theorem Kp_comma (cur s : List UInt8) : Kp cur (44 :: s) = (Kp [] s).map (keep1 cur ++ ·) := by
  unfold Kp
  have h1 : plainI (((44 : UInt8).toNat : Nat) : Int) = true := by decide
  rw [partsM, h1]
  have h2 : ¬ (((44 : UInt8).toNat : Nat) : Int) = 34 := by decide
  have h3 : (((44 : UInt8).toNat : Nat) : Int) = 44 := by decide
  simp only [Bool.not_true, Bool.false_eq_true, if_false, if_true, if_neg h2, if_pos h3]
  cases partsM plainI 44 s 0 [] with
  | none => rfl
  | some l =>
    simp only [Option.map_some, Option.some.injEq]
    unfold keepF keep1
    rw [List.map_cons, List.filter_cons]
    split <;> rfl
theorem Kp_blank {c : UInt8} (h : blankB c = true) (cur s : List UInt8) : Kp cur (c :: s) = Kp (cur ++ [c]) s := by
  unfold Kp
  obtain ⟨h1, h2, h3⟩ := blank_facts h
  rw [partsM, h1]
  simp only [Bool.not_true, Bool.false_eq_true, if_false, if_true, if_neg h2, if_neg (blank_44 h)]
theorem Kp_blanks : ∀ (w cur s : List UInt8), (∀ c ∈ w, blankB c = true) → Kp cur (w ++ s) = Kp (cur ++ w) s
  | [], cur, s, _ => by simp
  | c :: w, cur, s, h => by
    rw [List.cons_append, Kp_blank (h c (by simp)), Kp_blanks w _ s (fun d hd => h d (by simp [hd]))]
    simp
theorem partsM_pre (p : Int → Bool) (y : Int) : ∀ (r : List UInt8) (md : Nat) (cur x : List UInt8), partsM p y r md (x ++ cur) = (partsM p y r md cur).map fun l => match l with
    | [] => []
    | h :: t => (x ++ h) :: t
  | [], md, cur, x => by simp only [partsM]; split <;> rfl
  | c :: r, md, cur, x => by
    simp only [partsM]
    rw [List.append_assoc, partsM_pre p y r 1, partsM_pre p y r 0, partsM_pre p y r 2]
    split
    · rfl
    split
    · split
      · rfl
      · split
        · cases partsM p y r 0 [] <;> rfl
        · rfl
    · split
      · split
        · rfl
        · split <;> rfl
      · rfl
theorem trimF_pre : ∀ (w x : List UInt8), (∀ c ∈ w, blankB c = true) → trimF (w ++ x) = trimF x
  | [], x, _ => rfl
  | c :: w, x, h => by
    unfold trimF
    rw [List.cons_append, trimL_cons (h c (by simp))]
    exact trimF_pre w x fun d hd => h d (by simp [hd])
theorem trimR_post : ∀ (n : Nat) (w x : List UInt8), w.length ≤ n → (∀ c ∈ w, blankB c = true) → trimR (x ++ w) = trimR x
  | n, [], x, _, _ => by simp
  | 0, c :: w, x, hl, _ => by simp at hl
  | n + 1, c :: w, x, hl, h => by
    obtain ⟨L, b, hx⟩ : ∃ L b, c :: w = L ++ [b] := by
      rcases List.eq_nil_or_concat (c :: w) with e | ⟨L, b, e⟩
      · cases e
      · exact ⟨L, b, by simpa using e⟩
    have hb : blankB b = true := h b (by rw [hx]; simp)
    rw [hx, ← List.append_assoc, trimR_snoc hb]
    refine trimR_post n L x (by have := congrArg List.length hx; simp at this hl; omega) fun d hd => h d (by rw [hx]; simp [hd])
theorem trimF_post (w x : List UInt8) (h : ∀ c ∈ w, blankB c = true) : trimF (x ++ w) = trimF x := by
  unfold trimF
  rw [trim_comm, trim_comm, trimR_post _ w x (Nat.le_refl _) h]
theorem Kp_pre {w : List UInt8} (h : ∀ c ∈ w, blankB c = true) (s : List UInt8) : Kp w s = Kp [] s := by
  unfold Kp
  have := partsM_pre plainI 44 s 0 [] w
  rw [List.append_nil] at this
  rw [this]
  cases partsM plainI 44 s 0 [] with
  | none => rfl
  | some l =>
    simp only [Option.map_some, Option.some.injEq]
    cases l with
    | nil => rfl
    | cons a t =>
      unfold keepF
      simp only [List.map_cons, trimF_pre w a h]
theorem keep1_nil : keep1 [] = [] := rfl
/-- Commas and blanks alone. -/
def bcB (c : UInt8) : Bool := blankB c || c == 44
theorem Kp_bc : ∀ (w s : List UInt8), (∀ c ∈ w, bcB c = true) → Kp [] (w ++ s) = Kp [] s
  | [], s, _ => rfl
  | c :: w, s, h => by
    have hc := h c (by simp)
    have ih := Kp_bc w s fun d hd => h d (by simp [hd])
    unfold bcB at hc
    rw [Bool.or_eq_true, beq_iff_eq] at hc
    rcases hc with hc | rfl
    · rw [List.cons_append, Kp_blank hc, List.nil_append, Kp_pre (by simpa using hc), ih]
    · rw [List.cons_append, Kp_comma, keep1_nil, ih]
      cases Kp [] s <;> simp
/-- What stands between elements: blanks, a comma, commas and blanks. -/
structure Sep (w : List UInt8) : Prop where
  h : ∃ a b, w = a ++ 44 :: b ∧ (∀ c ∈ a, blankB c = true) ∧ ∀ c ∈ b, bcB c = true
theorem Kp_sep {w : List UInt8} (h : Sep w) {x : List UInt8} (hx : trimF x = x) (hne : x ≠ []) (s : List UInt8) : Kp x (w ++ s) = (Kp [] s).map (x :: ·) := by
  obtain ⟨a, b, rfl, ha, hb⟩ := h.h
  rw [List.append_assoc, Kp_blanks a x _ ha, List.cons_append, Kp_comma, Kp_bc b s hb]
  have : keep1 (x ++ a) = [x] := by
    rw [keep1, trimF_post a x ha, hx]
    have : neB x = true := by
      unfold neB
      cases x with
      | nil => exact absurd rfl hne
      | cons c r => rfl
    rw [this]; rfl
  rw [this]; rfl
theorem Kp_elem {x : List UInt8} (h : Elem x) {w : List UInt8} (hw : Sep w) (s : List UInt8) : Kp [] (x ++ w ++ s) = (Kp [] s).map (x :: ·) := by
  have : Kp [] (x ++ w ++ s) = Kp x (w ++ s) := by
    unfold Kp
    rw [List.append_assoc, partsM_app plainI 44 x (w ++ s) 0 0 [] h.run]; rfl
  rw [this, Kp_sep hw h.trim h.ne]
/-- The elements, each with what comes behind it. -/
def jn (f : Nat → List UInt8) : List (List UInt8) → Nat → List UInt8
  | [], _ => []
  | e :: r, i => e ++ f i ++ jn f r (i + 1)
theorem Kp_jn {f : Nat → List UInt8} (hf : ∀ i, Sep (f i)) : ∀ (l : List (List UInt8)) (i : Nat), (∀ x ∈ l, Elem x) → Kp [] (jn f l i) = some l
  | [], i, _ => by simp [jn, Kp, partsM, keepF, neB, trimF, trimR, trimL]
  | e :: r, i, h => by
    rw [jn, Kp_elem (h e (by simp)) (hf i), Kp_jn hf r (i + 1) fun x hx => h x (by simp [hx])]; rfl
theorem elements_joined {f : Nat → List UInt8} (hf : ∀ i, Sep (f i)) {w : List UInt8} (hw : ∀ c ∈ w, bcB c = true) {l : List (List UInt8)} (h : ∀ x ∈ l, Elem x) (hl : (w ++ jn f l 0).length ≤ 2000) : refElementsF (w ++ jn f l 0) = (l, 0) := by
  have h1 : Kp [] (w ++ jn f l 0) = some l := by rw [Kp_bc w _ hw, Kp_jn hf l 0 h]
  unfold refElementsF
  rw [if_neg (by omega)]
  unfold Kp at h1
  obtain ⟨p, hp, hk⟩ := Option.map_eq_some_iff.1 h1
  have hp2 : partsF 44 (w ++ jn f l 0) = some p := hp
  rw [hp2]
  simp only [hk]
/-- How many there are, and how long together. -/
def sumL : List (List UInt8) → Nat
  | [] => 0
  | x :: r => x.length + sumL r
theorem partsM_sum (p : Int → Bool) (y : Int) : ∀ (r : List UInt8) (md : Nat) (cur : List UInt8) (l : List (List UInt8)), partsM p y r md cur = some l → sumL l + l.length = cur.length + r.length + 1
  | [], md, cur, l, h => by
    simp only [partsM] at h
    split at h
    · cases h; simp [sumL]
    · cases h
  | c :: r, md, cur, l, h => by
    have push : ∀ md', partsM p y r md' (cur ++ [c]) = some l → sumL l + l.length = cur.length + (c :: r).length + 1 := by
      intro md' h
      have := partsM_sum p y r md' _ l h
      simp at this ⊢; omega
    simp only [partsM] at h
    split at h
    · cases h
    split at h
    · split at h
      · exact push _ h
      · split at h
        · obtain ⟨l', h', rfl⟩ := Option.map_eq_some_iff.1 h
          have := partsM_sum p y r 0 [] l' h'
          simp [sumL] at this ⊢; omega
        · exact push _ h
    · split at h
      · split at h
        · exact push _ h
        · split at h
          · exact push _ h
          · exact push _ h
      · exact push _ h
theorem keepF_sum : ∀ (l : List (List UInt8)), sumL (keepF l) ≤ sumL l ∧ (keepF l).length ≤ l.length ∧ (keepF l).length ≤ sumL (keepF l)
  | [] => by simp [keepF, sumL]
  | x :: r => by
    obtain ⟨h1, h2, h3⟩ := keepF_sum r
    have hx := trimF_len x
    unfold keepF at h1 h2 h3 ⊢
    rw [List.map_cons, List.filter_cons]
    split
    · rename_i hne
      have : 1 ≤ (trimF x).length := by
        cases ht : trimF x with
        | nil => rw [ht] at hne; cases hne
        | cons a b => simp
      simp only [sumL, List.length_cons]
      omega
    · simp only [sumL, List.length_cons]
      omega
theorem elements_sum (s : List UInt8) : sumL (refElementsF s).1 ≤ s.length ∧ 2 * (refElementsF s).1.length ≤ s.length + 1 ∧ sumL (refElementsF s).1 + (refElementsF s).1.length ≤ s.length + 1 := by
  unfold refElementsF
  split
  · simp [sumL]
  · cases hp : partsF 44 s with
    | none => simp [sumL]
    | some l =>
      have h1 := partsM_sum _ _ _ _ _ _ hp
      obtain ⟨h2, h3, h4⟩ := keepF_sum l
      simp only [List.length_nil] at h1
      have hl : 0 < l.length := (partsF_len hp).2.1
      show sumL (keepF l) ≤ _ ∧ 2 * (keepF l).length ≤ _ ∧ sumL (keepF l) + (keepF l).length ≤ _
      omega
end Go.Proofs.YtfchfhjpldppjaaGreatDoor
namespace Go.Proofs.YtfchfhjpldppjaaGreatDoor
open Go.Sx
set_option maxRecDepth 100000
set_option maxHeartbeats 2000000
/-! Print, and Items of it. -/
def parBad (p : Par) : Bool := ((!refTokenF p.1 || !(foldF p.1 == p.1)) || decide (500 < (p.2.length : Int))) || !plainsF p.2
def parV (p : Par) : List UInt8 := p.1 ++ [61] ++ (refQuoteF p.2).1
def parS (p : Par) : List UInt8 := 59 :: parV p
def parsS (ps : List Par) : List UInt8 := ps.flatMap parS
def itemS (x : Item) : List UInt8 := x.1 ++ parsS x.2
def joinS : List (List UInt8) → List UInt8
  | [] => []
  | x :: r => if r.isEmpty then x else x ++ [44, 32] ++ joinS r
def itemBad (x : Item) : Bool := !refTokenF x.1 || x.2.any parBad
def itemFar (x : Item) : Bool := decide (20 < (x.2.length : Int))
def itemTw (x : Item) : Bool := twiceF x.2
def printF (l : List Item) : List UInt8 × Int :=
  if 50 < (l.length : Int) then ([], 3) else if l.any itemFar then ([], 3) else if l.any itemBad then ([], 6) else if l.any itemTw then ([], 8)
  else if 2000 < ((joinS (l.map itemS)).length : Int) then ([], 3) else (joinS (l.map itemS), 0)
structure LetF (c : UInt8) : Prop where
  p : plainI (c.toNat : Int) = true
  n34 : (c.toNat : Int) ≠ 34
  n44 : (c.toNat : Int) ≠ 44
  n59 : (c.toNat : Int) ≠ 59
  n61 : (c.toNat : Int) ≠ 61
  nb : blankI (c.toNat : Int) = false
theorem letter_facts (c : UInt8) (h : letterI (c.toNat : Int) = true) : LetF c := by
  have : ∀ n : Fin 256, letterI (n.1 : Int) = true → plainI (n.1 : Int) = true ∧ (n.1 : Int) ≠ 34 ∧ (n.1 : Int) ≠ 44 ∧ (n.1 : Int) ≠ 59 ∧ (n.1 : Int) ≠ 61 ∧ blankI (n.1 : Int) = false := by decide
  obtain ⟨h1, h2, h3, h4, h5, h6⟩ := this ⟨c.toNat, c.toNat_lt⟩ h
  exact ⟨h1, h2, h3, h4, h5, h6⟩
theorem token_letters {s : List UInt8} (h : refTokenF s = true) : ∀ c ∈ s, LetF c := by
  unfold refTokenF allI at h
  simp only [Bool.and_eq_true, List.all_eq_true] at h
  exact fun c hc => letter_facts c (h.2 c hc)
def Y (y : Int) : Prop := y = 44 ∨ y = 59
theorem runS_letters {y : Int} (hy : Y y) : ∀ {s : List UInt8}, (∀ c ∈ s, LetF c) → runS plainI y s 0 = some 0
  | [], _ => rfl
  | c :: r, h => by
    have hc := h c (by simp)
    have hcy : (c.toNat : Int) ≠ y := by rcases hy with rfl | rfl; exact hc.n44; exact hc.n59
    rw [runS, hc.p]
    simp only [Bool.not_true, Bool.false_eq_true, if_false, if_true, if_neg hc.n34, if_neg hcy]
    exact runS_letters hy fun d hd => h d (by simp [hd])
theorem runS_plain1 {y : Int} {c : UInt8} (hp : plainI (c.toNat : Int) = true) (h34 : (c.toNat : Int) ≠ 34) (hy : (c.toNat : Int) ≠ y) (r : List UInt8) : runS plainI y (c :: r) 0 = runS plainI y r 0 := by
  rw [runS, hp]
  simp only [Bool.not_true, Bool.false_eq_true, if_false, if_true, if_neg h34, if_neg hy]
theorem runS_esc {y : Int} : ∀ {s : List UInt8}, plainsF s = true → ∀ t, runS plainI y (escF s ++ t) 1 = runS plainI y t 1
  | [], _, t => rfl
  | c :: r, h, t => by
    obtain ⟨h1, h2⟩ := plains_c h
    rw [escF_c, List.append_assoc]
    by_cases he : (c.toNat : Int) = 34 ∨ (c.toNat : Int) = 92
    · have e : escB c = [92, c] := if_pos he
      rw [e]
      show runS plainI y (92 :: c :: (escF r ++ t)) 1 = _
      have p92 : plainI (((92 : UInt8).toNat : Nat) : Int) = true := by decide
      have n34 : ¬ (((92 : UInt8).toNat : Nat) : Int) = 34 := by decide
      have y92 : (((92 : UInt8).toNat : Nat) : Int) = 92 := by decide
      rw [runS, p92]
      simp only [Bool.not_true, Bool.false_eq_true, if_false, if_neg n34, if_pos y92, if_true, Nat.one_ne_zero]
      rw [runS, h1]
      simp only [Bool.not_true, Bool.false_eq_true, if_false, if_neg (show ¬ (2 : Nat) = 0 by decide), if_neg (show ¬ (2 : Nat) = 1 by decide)]
      exact runS_esc h2 t
    · have e : escB c = [c] := if_neg he
      rw [e]
      show runS plainI y (c :: (escF r ++ t)) 1 = _
      rw [runS, h1]
      simp only [Bool.not_true, Bool.false_eq_true, if_false, if_neg (fun h => he (.inl h)), if_neg (fun h => he (.inr h)), if_true, Nat.one_ne_zero]
      exact runS_esc h2 t
theorem runS_quote {y : Int} (hy : Y y) {s : List UInt8} (h : (refQuoteF s).2 = 0) : runS plainI y (refQuoteF s).1 0 = some 0 := by
  unfold refQuoteF at h ⊢
  split
  · rename_i h1; rw [if_pos h1] at h; cases h
  · rename_i h1
    rw [if_neg h1] at h
    split
    · rename_i h2; rw [if_pos h2] at h; cases h
    · rename_i h2
      split
      · rename_i h3
        exact runS_letters hy (token_letters h3)
      · have hp : plainsF s = true := by simpa using h2
        show runS plainI y (34 :: (escF s ++ [34])) 0 = some 0
        have p34 : plainI (((34 : UInt8).toNat : Nat) : Int) = true := by decide
        have y34 : (((34 : UInt8).toNat : Nat) : Int) = 34 := by decide
        rw [runS, p34]
        simp only [Bool.not_true, Bool.false_eq_true, if_false, if_pos y34, if_true]
        rw [runS_esc hp, runS, p34]
        simp only [Bool.not_true, Bool.false_eq_true, if_false, if_pos y34, if_true, Nat.one_ne_zero]
        rfl
structure Pg (p : Par) : Prop where
  tok : refTokenF p.1 = true
  fold : foldF p.1 = p.1
  q : (refQuoteF p.2).2 = 0
theorem parGood {p : Par} (h : parBad p = false) : Pg p := by
  unfold parBad at h
  simp only [Bool.or_eq_false_iff, Bool.not_eq_false', beq_iff_eq, decide_eq_false_iff_not] at h
  obtain ⟨⟨⟨h1, h2⟩, h3⟩, h4⟩ := h
  refine ⟨h1, h2, ?_⟩
  rw [refQuoteF, if_neg h3, h4, if_neg (by simp)]
  split <;> rfl
structure Ig (x : Item) : Prop where
  tok : refTokenF x.1 = true
  par : ∀ p ∈ x.2, Pg p
theorem itemGood_of {x : Item} (h : itemBad x = false) : Ig x := by
  unfold itemBad at h
  simp only [Bool.or_eq_false_iff, Bool.not_eq_false', List.any_eq_false] at h
  exact ⟨h.1, fun p hp => parGood (by simpa using h.2 p hp)⟩
theorem runS_parV {y : Int} (hy : Y y) {p : Par} (h : Pg p) : runS plainI y (parV p) 0 = some 0 := by
  rw [parV, runS_app, runS_app, runS_letters hy (token_letters h.tok)]
  show (runS plainI y [61] 0).bind _ = _
  have : runS plainI y [61] 0 = some 0 := by
    rw [runS_plain1 (by decide) (by decide) (by rcases hy with rfl | rfl <;> decide)]; rfl
  rw [this]
  exact runS_quote hy h.q
theorem runS_parsS : ∀ {ps : List Par}, (∀ p ∈ ps, Pg p) → runS plainI 44 (parsS ps) 0 = some 0
  | [], _ => rfl
  | p :: r, h => by
    show runS plainI 44 (parS p ++ parsS r) 0 = _
    rw [runS_app, parS, runS_plain1 (by decide) (by decide) (by decide), runS_parV (.inl rfl) (h p (by simp))]
    exact runS_parsS fun q hq => h q (by simp [hq])
/-- The first and the last byte are no blanks. -/
structure Hd (s : List UInt8) : Prop where
  h : ∃ c r, s = c :: r ∧ blankI (c.toNat : Int) = false
structure Lt (s : List UInt8) : Prop where
  h : ∃ c r, s = r ++ [c] ∧ blankI (c.toNat : Int) = false
theorem Hd.app {s : List UInt8} (h : Hd s) (t : List UInt8) : Hd (s ++ t) := by
  obtain ⟨c, r, rfl, hc⟩ := h.h
  exact ⟨c, r ++ t, rfl, hc⟩
theorem Lt.app {t : List UInt8} (h : Lt t) (s : List UInt8) : Lt (s ++ t) := by
  obtain ⟨c, r, rfl, hc⟩ := h.h
  exact ⟨c, s ++ r, by simp, hc⟩
theorem trim_ends {s : List UInt8} (h : Hd s) (h2 : Lt s) : trimF s = s ∧ s ≠ [] := by
  obtain ⟨c, r, e, hc⟩ := h.h
  obtain ⟨d, q, e2, hd⟩ := h2.h
  refine ⟨?_, by rw [e]; simp⟩
  have h1 : trimL s = s := trimL_stop (.inr (by rw [e]; exact hc))
  rw [trimF, h1]
  refine trimR_stop (.inr ?_)
  rw [e2]
  have : charI (q ++ [d]) ((q ++ [d]).length - 1) = (d.toNat : Int) := by simp [charI]
  rw [this]; exact hd
theorem token_hd {s : List UInt8} (h : refTokenF s = true) : Hd s := by
  have h2 := (token_plain h).2.2
  cases s with
  | nil => simp at h2
  | cons c r => exact ⟨c, r, rfl, (token_letters h c (by simp)).nb⟩
theorem token_lt {s : List UInt8} (h : refTokenF s = true) : Lt s := by
  have h2 := (token_plain h).2.2
  rcases List.eq_nil_or_concat s with e | ⟨L, b, e⟩
  · rw [e] at h2; simp at h2
  · have e : s = L ++ [b] := by simpa using e
    exact ⟨b, L, e, (token_letters h b (by rw [e]; simp)).nb⟩
theorem quote_lt {s : List UInt8} (h : (refQuoteF s).2 = 0) : Lt (refQuoteF s).1 := by
  unfold refQuoteF at h ⊢
  split
  · rename_i h1; rw [if_pos h1] at h; cases h
  · rename_i h1
    rw [if_neg h1] at h
    split
    · rename_i h2; rw [if_pos h2] at h; cases h
    · split
      · rename_i h3; exact token_lt h3
      · exact ⟨34, [34] ++ escF s, rfl, by decide⟩
theorem parV_ends {p : Par} (h : Pg p) : Hd (parV p) ∧ Lt (parV p) := by
  refine ⟨?_, ?_⟩
  · rw [parV, List.append_assoc]; exact (token_hd h.tok).app _
  · rw [parV]; exact (quote_lt h.q).app _
theorem parsS_lt : ∀ {ps : List Par}, (∀ p ∈ ps, Pg p) → ps ≠ [] → Lt (parsS ps)
  | [], _, h => absurd rfl h
  | p :: r, h, _ => by
    show Lt (parS p ++ parsS r)
    by_cases hr : r = []
    · subst hr
      show Lt (parS p ++ [])
      rw [List.append_nil, parS]
      exact Lt.app (parV_ends (h p (by simp))).2 [59]
    · exact Lt.app (parsS_lt (fun q hq => h q (by simp [hq])) hr) _
theorem itemS_elem {x : Item} (h : Ig x) : Elem (itemS x) := by
  have hd : Hd (itemS x) := (token_hd h.tok).app _
  have lt : Lt (itemS x) := by
    unfold itemS
    by_cases hr : x.2 = []
    · rw [hr]; show Lt (x.1 ++ []); rw [List.append_nil]; exact token_lt h.tok
    · exact (parsS_lt h.par hr).app _
  refine ⟨?_, (trim_ends hd lt).1, (trim_ends hd lt).2⟩
  rw [itemS, runS_app, runS_letters (.inl rfl) (token_letters h.tok)]
  exact runS_parsS h.par
theorem parts_parsS : ∀ {ps : List Par}, (∀ p ∈ ps, Pg p) → ∀ cur, partsM plainI 59 (parsS ps) 0 cur = some (cur :: ps.map parV)
  | [], _, cur => rfl
  | p :: r, h, cur => by
    show partsM plainI 59 (59 :: parV p ++ parsS r) 0 cur = _
    rw [List.cons_append, partsM]
    have p59 : plainI (((59 : UInt8).toNat : Nat) : Int) = true := by decide
    have n34 : ¬ (((59 : UInt8).toNat : Nat) : Int) = 34 := by decide
    have y59 : (((59 : UInt8).toNat : Nat) : Int) = 59 := by decide
    rw [p59]
    simp only [Bool.not_true, Bool.false_eq_true, if_false, if_neg n34, if_pos y59, if_true]
    rw [partsM_app plainI 59 (parV p) (parsS r) 0 0 [] (runS_parV (.inr rfl) (h p (by simp))), List.nil_append, parts_parsS fun q hq => h q (by simp [hq])]
    rfl
theorem parts_itemS {x : Item} (h : Ig x) : partsF 59 (itemS x) = some (x.1 :: x.2.map parV) := by
  rw [partsF, itemS, partsM_app plainI 59 x.1 (parsS x.2) 0 0 [] (runS_letters (.inr rfl) (token_letters h.tok)), List.nil_append, parts_parsS h.par]
theorem cutF_app : ∀ {s : List UInt8}, (∀ c ∈ s, LetF c) → ∀ t, cutF 61 (s ++ 61 :: t) = (s, t, true)
  | [], _, t => rfl
  | c :: r, h, t => by
    have hc := h c (by simp)
    have hb : (c == 61) = false := by
      rw [beq_eq_false_iff_ne]
      intro e; exact hc.n61 (by rw [e]; rfl)
    rw [List.cons_append, cutF, hb, cutF_app fun d hd => h d (by simp [hd])]
    rfl
theorem parF_parV {p : Par} (h : Pg p) : parF (parV p) = some (p, false) := by
  have e : cutF 61 (parV p) = (p.1, (refQuoteF p.2).1, true) := by
    rw [parV, List.append_assoc]
    exact cutF_app (token_letters h.tok) _
  have hu : refUnquoteF (refQuoteF p.2).1 = (p.2, 0) := unq_quote (by rw [← h.q])
  unfold parF
  rw [e]
  simp only
  rw [hu, h.tok, h.fold]
  rfl
theorem parsF_parV : ∀ {ps : List Par}, (∀ p ∈ ps, Pg p) → parsF (ps.map parV) = some (ps, false)
  | [], _ => rfl
  | p :: r, h => by
    have hne : (parV p == []) = false := by
      rw [beq_eq_false_iff_ne]
      exact (trim_ends (parV_ends (h p (by simp))).1 (parV_ends (h p (by simp))).2).2
    rw [List.map_cons, parsF, hne, parF_parV (h p (by simp)), parsF_parV fun q hq => h q (by simp [hq])]
    rfl
theorem itemF_itemS {x : Item} (h : Ig x) (h20 : x.2.length ≤ 20) (htw : twiceF x.2 = false) : itemF (itemS x) = (x, 0) := by
  have e : (x.1 :: x.2.map parV).map trimF = x.1 :: x.2.map parV := by
    rw [List.map_cons, (trim_ends (token_hd h.tok) (token_lt h.tok)).1, List.map_map]
    congr 1
    refine List.map_congr_left fun p hp => ?_
    exact (trim_ends (parV_ends (h.par p hp)).1 (parV_ends (h.par p hp)).2).1
  rw [itemF, parts_itemS h, Option.getD_some, e, itemL]
  show (if !refTokenF x.1 then _ else itemG x.1 (parsF (x.2.map parV))) = _
  rw [h.tok, parsF_parV h.par, itemG]
  have : decide (20 < ((x.2.length : Nat) : Int)) = false := by rw [decide_eq_false_iff_not]; omega
  simp only [Bool.not_true, Bool.false_eq_true, if_false, Bool.false_or, this, htw]
theorem Kp_last {x : List UInt8} (h : Elem x) : Kp [] x = some [x] := by
  unfold Kp
  have := partsM_app plainI 44 x [] 0 0 [] h.run
  rw [List.append_nil] at this
  rw [this]
  show some (keepF [[] ++ x]) = _
  rw [List.nil_append, keepF]
  simp only [List.map_cons, List.map_nil, h.trim]
  have : neB x = true := by
    unfold neB
    cases x with
    | nil => exact absurd rfl h.ne
    | cons c r => rfl
  rw [List.filter_cons, if_pos this]; rfl
theorem Kp_join : ∀ {l : List (List UInt8)}, (∀ x ∈ l, Elem x) → Kp [] (joinS l) = some l
  | [], _ => by simp [joinS, Kp, partsM, keepF, neB, trimF, trimR, trimL]
  | x :: r, h => by
    have hx := h x (by simp)
    rw [joinS]
    split
    · rename_i hr
      rw [List.isEmpty_iff.1 hr]
      exact Kp_last hx
    · have hs : Sep [44, 32] := ⟨[], [32], rfl, by simp, by simp [bcB, blankB]; decide⟩
      rw [Kp_elem hx hs, Kp_join fun y hy => h y (by simp [hy])]; rfl
theorem elements_join {l : List (List UInt8)} (h : ∀ x ∈ l, Elem x) (hl : (joinS l).length ≤ 2000) : refElementsF (joinS l) = (l, 0) := by
  have h1 := Kp_join h
  unfold refElementsF
  rw [if_neg (by omega)]
  unfold Kp at h1
  obtain ⟨p, hp, hk⟩ := Option.map_eq_some_iff.1 h1
  have hp2 : partsF 44 (joinS l) = some p := hp
  rw [hp2]
  simp only [hk]
theorem itemsL_map : ∀ {l : List Item}, (∀ x ∈ l, itemF (itemS x) = (x, 0)) → itemsL (l.map itemS) = (l, 0)
  | [], _ => rfl
  | x :: r, h => by
    rw [List.map_cons, itemsL, h x (by simp), itemsL_map fun y hy => h y (by simp [hy])]
    simp
/-- Items of what Print has written are the items. -/
theorem items_print {l : List Item} {a : List UInt8} (h : (a, 0) = printF l) : itemsF a = (l, 0) := by
  unfold printF at h
  split at h
  · cases h
  rename_i h50
  split at h
  · cases h
  rename_i h20
  split at h
  · cases h
  rename_i hbad
  split at h
  · cases h
  rename_i htw
  split at h
  · cases h
  rename_i hlen
  simp only [Prod.mk.injEq, and_true] at h
  subst h
  simp only [List.any_eq_true, not_exists, not_and, Bool.not_eq_true] at h20 hbad htw
  have hg : ∀ x ∈ l, Ig x := fun x hx => itemGood_of (hbad x hx)
  have he : refElementsF (joinS (l.map itemS)) = (l.map itemS, 0) := by
    refine elements_join (fun y hy => ?_) (by omega)
    obtain ⟨x, hx, rfl⟩ := List.mem_map.1 hy
    exact itemS_elem (hg x hx)
  have hi : itemsL (l.map itemS) = (l, 0) := by
    refine itemsL_map fun x hx => itemF_itemS (hg x hx) ?_ (htw x hx)
    have := h20 x hx
    unfold itemFar at this
    rw [decide_eq_false_iff_not] at this
    omega
  rw [itemsF, he]
  simp only [ne_eq, not_true_eq_false, if_false, List.length_map]
  rw [if_neg (by omega), hi, addI]
  simp
end Go.Proofs.YtfchfhjpldppjaaGreatDoor
namespace Go.Proofs.YtfchfhjpldppjaaGreatDoor
open Go.Sx
set_option maxRecDepth 10000
set_option maxHeartbeats 4000000
/-! Print: the closures, and ContainsFunc with them. -/
def tt3 : List (Nat × TI) := (91, ⟨.other, 1, 8, [.raw .nilFunc]⟩) :: tt
theorem tt3_ok : ttB Tryz.prog tt3 = true := by kernel_rfl
theorem cxOk3 {tab : List (Nat × FSpec)} {gl : List (Nat × SV)} {gh : List (Nat × List Gh)} : CxOk Tryz.prog ⟨dn, tt3, tab, gl, eqs, gh⟩ := ⟨rfl, tt3_ok, (cxOk (tab := tab) (gl := gl) (gh := gh)).eqs⟩
structure LenI (l : List Item) : Prop where
  h : ∀ x ∈ l, x.1.length ≤ 9223372036854775807 ∧ ∀ p ∈ x.2, p.1.length ≤ 9223372036854775807 ∧ p.2.length ≤ 9223372036854775807
structure LenX (v : List UInt8) (ps : List Par) : Prop where
  v : v.length ≤ 9223372036854775807
  p : ∀ p ∈ ps, p.1.length ≤ 9223372036854775807 ∧ p.2.length ≤ 9223372036854775807
def spFar1 : FSpec := fun _ xs ls K => ∃ (v : List UInt8) (ps : List Par) (nl : Bool) (n : Int) (f : Nat → List SV), xs = [.agg [.str v, .sl (.a nl) (.a n) 2 f]] ∧ ls = [] ∧ RowP f n ps ∧ ∀ r : Bool, r = itemFar (v, ps) → K (.bool (.a r)) []
theorem far1_ok : FnOk Tryz.prog gl 67 spFar1 := by
  refine fnOk (gh := []) mixed cxOk tabNil Tryz.func67 (by kernel_rfl) (by kernel_rfl) ?_
  intro xs ls K h
  unfold spFar1 at h
  obtain ⟨v, ps, nl, n, f, rfl, rfl, R, h⟩ := h
  obtain ⟨k, hk⟩ : ∃ k, k = itemFar (v, ps) := ⟨_, rfl⟩
  refine ⟨_, _, h k hk, fun D hD => ?_⟩
  clear h
  cbv
  refine finBool hD ?_
  rw [hk]
  show decide (20 < n) = _
  rw [R.n]; rfl
def spBad1 : FSpec := fun _ xs ls K => ∃ (a b : List UInt8), xs = [.agg [.str a, .str b]] ∧ ls = [] ∧ a.length ≤ 9223372036854775807 ∧ b.length ≤ 9223372036854775807 ∧ ∀ r : Bool, r = parBad (a, b) → K (.bool (.a r)) []
theorem bad1_ok : FnOk Tryz.prog gl 68 spBad1 := by
  refine fnOk (gh := []) mixed cxOk (tabCons token_ok (tabCons fold_ok (tabCons plainS_ok tabNil))) Tryz.func68 (by kernel_rfl) (by kernel_rfl) ?_
  intro xs ls K h
  unfold spBad1 at h
  obtain ⟨a, b, rfl, rfl, ha, hb, h⟩ := h
  obtain ⟨k, hk⟩ : ∃ k, k = parBad (a, b) := ⟨_, rfl⟩
  refine ⟨_, _, h k hk, fun D hD => ?_⟩
  clear h
  rw [parBad, ← token_eq, ← plain_eq] at hk
  simp only at hk
  cbv
  refine ⟨a, rfl, rfl, ha, fun t ht => ?_⟩
  cbv
  refine ⟨a, rfl, rfl, ha, fun u hu => ?_⟩
  cbv
  refine ⟨b, rfl, rfl, hb, fun v hv => ?_⟩
  cbv
  refine finBool hD ?_
  rw [hk, ← ht, ← hu, ← hv]; rfl
def ixbJ (k : Int) (l : List Par) (f : Nat → List SV) (nl : Bool) (n : Int) (m : Nat) (vs : List (Option SV)) (hp : List Hl) : Prop :=
  ∃ (i : Nat) (I L : Int), vs = [some (.sl (.a nl) (.a n) 2 f), some (.fn 68), some (.int .i64 (.a L)), some (.int .i64 (.a I))] ∧ hp = [] ∧ IxP l i I L m ∧ k = idxP parBad l i
def spIdxB8 : FSpec := fun _ xs ls K => ∃ (l : List Par) (nl : Bool) (n : Int) (f : Nat → List SV), xs = [.sl (.a nl) (.a n) 2 f, .fn 68] ∧ ls = [] ∧ RowP f n l ∧ (∀ p ∈ l, p.1.length ≤ 9223372036854775807 ∧ p.2.length ≤ 9223372036854775807) ∧ ∀ r : Int, r = idxP parBad l 0 → K (.int .i64 (.a r)) []
theorem idx68_ok : FnOk Tryz.prog gl 97 spIdxB8 := by
  refine fnOk (gh := []) mixed cxOk (tabCons bad1_ok tabNil) Tryz.func97 (by kernel_rfl) (by kernel_rfl) ?_
  intro xs ls K h
  unfold spIdxB8 at h
  obtain ⟨l, nl, n, f, rfl, rfl, R, hl, h⟩ := h
  obtain ⟨k, hk⟩ : ∃ k, k = idxP parBad l 0 := ⟨_, rfl⟩
  refine ⟨_, _, h k hk, fun D hD => ?_⟩
  clear h
  cbv
  obtain ⟨J, hJ⟩ : ∃ J, J = ixbJ k l f nl n := ⟨_, rfl⟩
  refine ⟨[0, 1, 7, 8], J, ⟨rfl, l.length, ?_⟩, ?_⟩
  · rw [hJ]
    subst hD
    exact ⟨0, 0, _, rfl, rfl, ⟨AtR.zero R.len, R.n⟩, hk⟩
  clear hk
  intro m vs hp' hv
  rw [hJ] at hv
  unfold ixbJ at hv
  obtain ⟨i, I, L, rfl, rfl, V, hk⟩ := hv
  cbv
  refine br hD (fun h => ?_) (fun h => ?_) <;> cbv
  · have hlt := V.at_.lt V.L (of_decide_eq_true (p := I < L) h)
    clear h
    refine ⟨V.at_.inB hD R.n hlt, fun j hj => ?_⟩
    obtain rfl := V.at_.j hD hj
    clear hj
    have e1 := R.f j hlt
    have hxl := hl (l.getD j ([], [])) (by rw [List.getD_eq_getElem?_getD, List.getElem?_eq_getElem hlt]; exact List.getElem_mem hlt)
    have hyes := idxP_yes (p := parBad) hlt
    have hno := idxP_no (p := parBad) hlt
    obtain ⟨x, hx⟩ : ∃ x, x = l.getD j ([], []) := ⟨_, rfl⟩
    rw [← hx] at e1 hyes hno hxl
    obtain ⟨xn, xv⟩ := x
    simp only at e1 hxl
    cbv
    rw [e1]
    cbv
    refine ⟨xn, xv, rfl, rfl, hxl.1, hxl.2, fun r hr => ?_⟩
    cbv
    refine br hD (fun h => ?_) (fun h => ?_) <;> cbv
    · have h : r = true := h
      refine ⟨leInt ?_, LeH.refl _, Nat.le_refl _⟩
      subst hD
      rw [hk, hyes (by rw [← hr]; exact h)]
      exact V.at_.I
    · have h : r = false := h
      rw [hno (by rw [← hr]; exact h)] at hk
      refine ⟨l.length - (j + 1), (V.at_.step hD hlt).1, ?_⟩
      rw [hJ]
      subst hD
      exact ⟨j + 1, _, _, rfl, rfl, ⟨(V.at_.step rfl hlt).2, V.L⟩, hk⟩
  · have hi := V.at_.eq V.L (of_decide_eq_false (p := I < L) h)
    refine ⟨leInt ?_, LeH.refl _, Nat.le_refl _⟩
    subst hD
    rw [hk, idxP_end hi]; rfl
def spAnyB8 : FSpec := fun _ xs ls K => ∃ (l : List Par) (nl : Bool) (n : Int) (f : Nat → List SV), xs = [.sl (.a nl) (.a n) 2 f, .fn 68] ∧ ls = [] ∧ RowP f n l ∧ (∀ p ∈ l, p.1.length ≤ 9223372036854775807 ∧ p.2.length ≤ 9223372036854775807) ∧ ∀ r : Bool, r = l.any parBad → K (.bool (.a r)) []
theorem contains68_ok : FnOk Tryz.prog gl 70 spAnyB8 := by
  refine fnOk (gh := []) mixed cxOk (tabCons idx68_ok tabNil) Tryz.func70 (by kernel_rfl) (by kernel_rfl) ?_
  intro xs ls K h
  unfold spAnyB8 at h
  obtain ⟨l, nl, n, f, rfl, rfl, R, hl, h⟩ := h
  obtain ⟨k, hk⟩ : ∃ k, k = l.any parBad := ⟨_, rfl⟩
  refine ⟨_, _, h k hk, fun D hD => ?_⟩
  clear h
  cbv
  refine ⟨l, _, _, _, rfl, rfl, by subst hD; exact R, hl, fun r hr => ?_⟩
  cbv
  refine ⟨leBool ?_, LeH.refl _, Nat.le_refl _⟩
  subst hD
  rw [hk, ← idxP_any, ← hr]; rfl
def spBad3 : FSpec := fun _ xs ls K => ∃ (v : List UInt8) (ps : List Par) (nl : Bool) (n : Int) (f : Nat → List SV), xs = [.agg [.str v, .sl (.a nl) (.a n) 2 f], .ptr 0 0] ∧ ls = [.blk 91 [.fn 68]] ∧ RowP f n ps ∧ v.length ≤ 9223372036854775807 ∧ (∀ p ∈ ps, p.1.length ≤ 9223372036854775807 ∧ p.2.length ≤ 9223372036854775807) ∧ ∀ r : Bool, r = itemBad (v, ps) → K (.bool (.a r)) [.blk 91 [.fn 68]]
theorem bad3_ok : FnOk Tryz.prog gl 69 spBad3 := by
  refine fnOk (gh := []) mixed cxOk3 (tabCons token_ok (tabCons contains68_ok tabNil)) Tryz.func69 (by kernel_rfl) (by kernel_rfl) ?_
  intro xs ls K h
  unfold spBad3 at h
  obtain ⟨v, ps, nl, n, f, rfl, rfl, R, hv, hp, h⟩ := h
  obtain ⟨k, hk⟩ : ∃ k, k = itemBad (v, ps) := ⟨_, rfl⟩
  refine ⟨_, _, h k hk, fun D hD => ?_⟩
  clear h
  rw [itemBad, ← token_eq] at hk
  simp only at hk
  cbv
  refine ⟨v, rfl, rfl, hv, fun t ht => ?_⟩
  cbv
  refine ⟨ps, _, _, _, rfl, rfl, by subst hD; exact R, hp, fun u hu => ?_⟩
  cbv
  refine ⟨leBool ?_, LeH.refl _, Nat.le_refl _⟩
  subst hD
  rw [hk, ← ht, ← hu]; rfl
def idxI (p : Item → Bool) (l : List Item) (i : Nat) : Int := match (l.drop i).findIdx? p with
  | none => -1
  | some j => ((i + j : Nat) : Int)
theorem idxI_yes {p : Item → Bool} {l : List Item} {i : Nat} (h : i < l.length) (hp : p (l.getD i ([], [])) = true) : idxI p l i = (i : Int) := by
  rw [idxI, dropR (d := ([], [])) h, List.findIdx?_cons, hp]; rfl
theorem idxI_no {p : Item → Bool} {l : List Item} {i : Nat} (h : i < l.length) (hp : p (l.getD i ([], [])) = false) : idxI p l i = idxI p l (i + 1) := by
  rw [idxI, dropR (d := ([], [])) h, List.findIdx?_cons, hp, idxI]
  cases (l.drop (i + 1)).findIdx? p with
  | none => rfl
  | some j => simp; omega
theorem idxI_end {p : Item → Bool} {l : List Item} {i : Nat} (h : i = l.length) : idxI p l i = -1 := by
  rw [idxI, h, List.drop_length]; rfl
theorem idxI_any (p : Item → Bool) (l : List Item) : decide (0 ≤ idxI p l 0) = l.any p := by
  rw [idxI, List.drop_zero]
  cases h : l.findIdx? p with
  | none =>
    rw [List.findIdx?_eq_none_iff] at h
    have : l.any p = false := by rw [List.any_eq_false]; intro x hx; simp [h x hx]
    rw [this]; rfl
  | some j =>
    have : l.any p = true := by
      rw [List.findIdx?_eq_some_iff_getElem] at h
      obtain ⟨hj, h1, _⟩ := h
      exact List.any_eq_true.2 ⟨_, List.getElem_mem hj, h1⟩
    rw [this]
    simp
def ClI (c : SV) (ls : List Hl) (p : Item → Bool) : Prop := (c = .fn 67 ∧ ls = [] ∧ p = itemFar) ∨ (c = .clo 69 [.ptr 0 0] ∧ ls = [.blk 91 [.fn 68]] ∧ p = itemBad)
structure IxI (l : List Item) (i : Nat) (I L : Int) (m : Nat) : Prop where
  at_ : AtR l i I m
  L : L = l.length
def ixiJF (k : Int) (l : List Item) (f : Nat → List SV) (nl : Bool) (n : Int) (m : Nat) (vs : List (Option SV)) (hp : List Hl) : Prop :=
  ∃ (i : Nat) (I L : Int), vs = [some (.sl (.a nl) (.a n) 2 f), some (.fn 67), some (.int .i64 (.a L)), some (.int .i64 (.a I))] ∧ hp = [] ∧ IxI l i I L m ∧ k = idxI itemFar l i
def ixiJB (k : Int) (l : List Item) (f : Nat → List SV) (nl : Bool) (n : Int) (m : Nat) (vs : List (Option SV)) (hp : List Hl) : Prop :=
  ∃ (i : Nat) (I L : Int), vs = [some (.sl (.a nl) (.a n) 2 f), some (.clo 69 [.ptr 0 0]), some (.int .i64 (.a L)), some (.int .i64 (.a I))] ∧ hp = [.blk 91 [.fn 68]] ∧ IxI l i I L m ∧ k = idxI itemBad l i
def spIdxI : FSpec := fun _ xs ls K => ∃ (l : List Item) (nl : Bool) (n : Int) (f : Nat → List SV) (c : SV) (p : Item → Bool), xs = [.sl (.a nl) (.a n) 2 f, c] ∧ ClI c ls p ∧ RowIX f n l ∧ LenI l ∧ ∀ r : Int, r = idxI p l 0 → K (.int .i64 (.a r)) ls
theorem idxI_ok : FnOk Tryz.prog gl 96 spIdxI := by
  refine fnOk (gh := []) mixed cxOk3 (tabCons far1_ok (tabCons bad3_ok tabNil)) Tryz.func96 (by kernel_rfl) (by kernel_rfl) ?_
  intro xs ls K h
  unfold spIdxI at h
  obtain ⟨l, nl, n, f, c, p, rfl, hc, R, hl, h⟩ := h
  rcases hc with ⟨rfl, rfl, rfl⟩ | ⟨rfl, rfl, rfl⟩
  · obtain ⟨k, hk⟩ : ∃ k, k = idxI itemFar l 0 := ⟨_, rfl⟩
    refine ⟨_, _, h k hk, fun D hD => ?_⟩
    clear h
    cbv
    obtain ⟨J, hJ⟩ : ∃ J, J = ixiJF k l f nl n := ⟨_, rfl⟩
    refine ⟨[0, 1, 7, 8], J, ⟨rfl, l.length, ?_⟩, ?_⟩
    · rw [hJ]
      subst hD
      exact ⟨0, 0, _, rfl, rfl, ⟨AtR.zero R.len, R.n⟩, hk⟩
    clear hk
    intro m vs hp' hv
    rw [hJ] at hv
    unfold ixiJF at hv
    obtain ⟨i, I, L, rfl, rfl, V, hk⟩ := hv
    cbv
    refine br hD (fun h => ?_) (fun h => ?_) <;> cbv
    · have hlt := V.at_.lt V.L (of_decide_eq_true (p := I < L) h)
      clear h
      refine ⟨V.at_.inB hD R.n hlt, fun j hj => ?_⟩
      obtain rfl := V.at_.j hD hj
      clear hj
      obtain ⟨xe, xf, e1, RX⟩ := R.f j
      have hxl := hl.h (l.getD j ([], [])) (getD_memI hlt)
      have hyes := idxI_yes (p := itemFar) hlt
      have hno := idxI_no (p := itemFar) hlt
      obtain ⟨x, hx⟩ : ∃ x, x = l.getD j ([], []) := ⟨_, rfl⟩
      rw [← hx] at e1 RX hxl hyes hno
      obtain ⟨xv, xp⟩ := x
      obtain ⟨xn, hxn⟩ : ∃ n : Int, n = (xp.length : Int) := ⟨_, rfl⟩
      simp only at e1 RX
      have hxl : LenX xv xp := ⟨hxl.1, hxl.2⟩
      rw [← hxn] at e1 RX
      clear hxn
      cbv
      rw [e1]
      cbv
      refine ⟨xv, xp, _, _, _, rfl, rfl, by subst hD; exact RX, fun r hr => ?_⟩
      cbv
      refine br hD (fun h => ?_) (fun h => ?_) <;> cbv
      · have h : r = true := h
        refine ⟨leInt ?_, LeH.refl _, Nat.le_refl _⟩
        subst hD
        rw [hk, hyes (by rw [← hr]; exact h)]
        exact V.at_.I
      · have h : r = false := h
        rw [hno (by rw [← hr]; exact h)] at hk
        refine ⟨l.length - (j + 1), (V.at_.step hD hlt).1, ?_⟩
        rw [hJ]
        subst hD
        exact ⟨j + 1, _, _, rfl, rfl, ⟨(V.at_.step rfl hlt).2, V.L⟩, hk⟩
    · have hi := V.at_.eq V.L (of_decide_eq_false (p := I < L) h)
      refine ⟨leInt ?_, LeH.refl _, Nat.le_refl _⟩
      subst hD
      rw [hk, idxI_end hi]; rfl
  · obtain ⟨k, hk⟩ : ∃ k, k = idxI itemBad l 0 := ⟨_, rfl⟩
    refine ⟨_, _, h k hk, fun D hD => ?_⟩
    clear h
    cbv
    obtain ⟨J, hJ⟩ : ∃ J, J = ixiJB k l f nl n := ⟨_, rfl⟩
    refine ⟨[0, 1, 7, 8], J, ⟨rfl, l.length, ?_⟩, ?_⟩
    · rw [hJ]
      subst hD
      exact ⟨0, 0, _, rfl, rfl, ⟨AtR.zero R.len, R.n⟩, hk⟩
    clear hk
    intro m vs hp' hv
    rw [hJ] at hv
    unfold ixiJB at hv
    obtain ⟨i, I, L, rfl, rfl, V, hk⟩ := hv
    cbv
    refine br hD (fun h => ?_) (fun h => ?_) <;> cbv
    · have hlt := V.at_.lt V.L (of_decide_eq_true (p := I < L) h)
      clear h
      refine ⟨V.at_.inB hD R.n hlt, fun j hj => ?_⟩
      obtain rfl := V.at_.j hD hj
      clear hj
      obtain ⟨xe, xf, e1, RX⟩ := R.f j
      have hxl := hl.h (l.getD j ([], [])) (getD_memI hlt)
      have hyes := idxI_yes (p := itemBad) hlt
      have hno := idxI_no (p := itemBad) hlt
      obtain ⟨x, hx⟩ : ∃ x, x = l.getD j ([], []) := ⟨_, rfl⟩
      rw [← hx] at e1 RX hxl hyes hno
      obtain ⟨xv, xp⟩ := x
      obtain ⟨xn, hxn⟩ : ∃ n : Int, n = (xp.length : Int) := ⟨_, rfl⟩
      simp only at e1 RX
      have hxl : LenX xv xp := ⟨hxl.1, hxl.2⟩
      rw [← hxn] at e1 RX
      clear hxn
      cbv
      rw [e1]
      cbv
      refine ⟨xv, xp, _, _, _, rfl, rfl, by subst hD; exact RX, hxl.v, hxl.p, fun r hr => ?_⟩
      cbv
      refine br hD (fun h => ?_) (fun h => ?_) <;> cbv
      · have h : r = true := h
        refine ⟨leInt ?_, LeH.refl _, Nat.le_refl _⟩
        subst hD
        rw [hk, hyes (by rw [← hr]; exact h)]
        exact V.at_.I
      · have h : r = false := h
        rw [hno (by rw [← hr]; exact h)] at hk
        refine ⟨l.length - (j + 1), (V.at_.step hD hlt).1, ?_⟩
        rw [hJ]
        subst hD
        exact ⟨j + 1, _, _, rfl, rfl, ⟨(V.at_.step rfl hlt).2, V.L⟩, hk⟩
    · have hi := V.at_.eq V.L (of_decide_eq_false (p := I < L) h)
      refine ⟨leInt ?_, LeH.refl _, Nat.le_refl _⟩
      subst hD
      rw [hk, idxI_end hi]; rfl
def spAnyI : FSpec := fun _ xs ls K => ∃ (l : List Item) (nl : Bool) (n : Int) (f : Nat → List SV) (c : SV) (p : Item → Bool), xs = [.sl (.a nl) (.a n) 2 f, c] ∧ ClI c ls p ∧ RowIX f n l ∧ LenI l ∧ ∀ r : Bool, r = l.any p → K (.bool (.a r)) ls
theorem anyI_ok : FnOk Tryz.prog gl 66 spAnyI := by
  refine fnOk (gh := []) mixed cxOk3 (tabCons idxI_ok tabNil) Tryz.func66 (by kernel_rfl) (by kernel_rfl) ?_
  intro xs ls K h
  unfold spAnyI at h
  obtain ⟨l, nl, n, f, c, p, rfl, hc, R, hl, h⟩ := h
  rcases hc with ⟨rfl, rfl, rfl⟩ | ⟨rfl, rfl, rfl⟩
  · obtain ⟨k, hk⟩ : ∃ k, k = l.any itemFar := ⟨_, rfl⟩
    refine ⟨_, _, h k hk, fun D hD => ?_⟩
    clear h
    cbv
    refine ⟨l, _, _, _, _, itemFar, rfl, .inl ⟨rfl, rfl, rfl⟩, by subst hD; exact R, hl, fun r hr => ?_⟩
    cbv
    refine ⟨leBool ?_, LeH.refl _, Nat.le_refl _⟩
    subst hD
    rw [hk, ← idxI_any, ← hr]; rfl
  · obtain ⟨k, hk⟩ : ∃ k, k = l.any itemBad := ⟨_, rfl⟩
    refine ⟨_, _, h k hk, fun D hD => ?_⟩
    clear h
    cbv
    refine ⟨l, _, _, _, _, itemBad, rfl, .inr ⟨rfl, rfl, rfl⟩, by subst hD; exact R, hl, fun r hr => ?_⟩
    cbv
    refine ⟨leBool ?_, LeH.refl _, Nat.le_refl _⟩
    subst hD
    rw [hk, ← idxI_any, ← hr]; rfl
end Go.Proofs.YtfchfhjpldppjaaGreatDoor
namespace Go.Proofs.YtfchfhjpldppjaaGreatDoor
open Go Go.Sx Go.Shelf Go.RowKit
set_option maxRecDepth 100000
set_option maxHeartbeats 2000000
/-! strings.Join, by the shelf's contract (the laying is written by the kit's tool). -/
def tlays156_ren : Go.Shelf.Ren := ⟨fun | 156 => 72 | 165 => 99 | 166 => 100 | 169 => 42 | 240 => 77 | 241 => 116 | 276 => 102 | 277 => 132 | n => n, fun | 31 => 28 | 9 => 9 | 3 => 3 | 4 => 4 | 0 => 0 | 20 => 20 | 72 => 62 | 76 => 87 | 70 => 60 | 37 => 43 | 75 => 64 | 127 => 96 | 164 => 114 | 5 => 5 | 80 => 66 | n => n, fun | n => n⟩
theorem tlays156 : Go.Proofs.Lays.n156 Tryz.prog tlays156_ren := {
  mixed := by kernel_rfl
  f156 := Tryz.func72.trans (congrArg some (by kernel_rfl))
  f165 := Tryz.func99.trans (congrArg some (by kernel_rfl))
  f166 := Tryz.func100.trans (congrArg some (by kernel_rfl))
  f169 := Tryz.func42.trans (congrArg some (by kernel_rfl))
  f240 := Tryz.func77.trans (congrArg some (by kernel_rfl))
  f241 := Tryz.func116.trans (congrArg some (by kernel_rfl))
  f276 := Tryz.func102.trans (congrArg some (by kernel_rfl))
  f277 := Tryz.func132.trans (congrArg some (by kernel_rfl))
  t0 := Tryz.underlying0
  a0 := Tryz.isAgg0
  z0 := Tryz.sizeOf0
  v0 := Tryz.zeroValue0
  t3 := Tryz.underlying3
  a3 := Tryz.isAgg3
  z3 := Tryz.sizeOf3
  v3 := Tryz.zeroValue3
  t4 := Tryz.underlying4
  a4 := Tryz.isAgg4
  z4 := Tryz.sizeOf4
  v4 := Tryz.zeroValue4
  t9 := Tryz.underlying9
  a9 := Tryz.isAgg9
  z9 := Tryz.sizeOf9
  v9 := Tryz.zeroValue9
  t20 := Tryz.underlying20
  a20 := Tryz.isAgg20
  z20 := Tryz.sizeOf20
  v20 := Tryz.zeroValue20
  t31 := Tryz.underlying28
  a31 := Tryz.isAgg28
  z31 := Tryz.sizeOf28
  v31 := Tryz.zeroValue28
  t37 := Tryz.underlying43
  a37 := Tryz.isAgg43
  z37 := Tryz.sizeOf43
  v37 := Tryz.zeroValue43
  t70 := Tryz.underlying60
  a70 := Tryz.isAgg60
  z70 := Tryz.sizeOf60
  v70 := Tryz.zeroValue60
  t72 := Tryz.underlying62
  a72 := Tryz.isAgg62
  z72 := Tryz.sizeOf62
  v72 := Tryz.zeroValue62
  t75 := Tryz.underlying64
  a75 := Tryz.isAgg64
  z75 := Tryz.sizeOf64
  v75 := Tryz.zeroValue64
  t76 := Tryz.underlying87
  a76 := Tryz.isAgg87
  z76 := Tryz.sizeOf87
  v76 := Tryz.zeroValue87
  t127 := Tryz.underlying96
  a127 := Tryz.isAgg96
  z127 := Tryz.sizeOf96
  v127 := Tryz.zeroValue96
  t164 := Tryz.underlying114
  a164 := Tryz.isAgg114
  z164 := Tryz.sizeOf114
  v164 := Tryz.zeroValue114 }
theorem tbx156 : Builder.Extra Tryz.prog tlays156_ren := {
  sizeBuilder := by kernel_rfl
  liesBuilder := by kernel_rfl
  t5 := Tryz.underlying5
  a5 := Tryz.isAgg5
  z5 := Tryz.sizeOf5
  v5 := Tryz.zeroValue5
  infoByte := by kernel_rfl
  cellsByte := by kernel_rfl
  sizeByte := by kernel_rfl
  neB5 := by decide }
open Go.RowKit in
/-- No element: the empty string; the world is as it was. (Whatever the slice's address and capacity: a nil slice too.) (LAID: no walk: one application.) -/
theorem sh_strings_Join_none (a : Option Addr) (c : Nat) (sep : ByteArray) (w : World) :
    Calls Tryz.prog 72 #[.slice a 0 c, .string sep] w fun e w' => e = .returned (.string ⟨#[]⟩) ∧ w' = w := Any.strings_Join_none tlays156 tbx156 a c sep w
open Go.RowKit in
/-- strings.Join: "Join concatenates the elements of its first argument to create a single string. The separator string sep is placed between elements in the resulting string.": HOWEVER MANY ELEMENTS. Below the heap's end the world is as it was. (LAID: no walk: one application.) -/
theorem sh_strings_Join (bk o c : Nat) (xs : List ByteArray) (sep : ByteArray) (w : World) (hcells : ∀ (j : Nat) x, xs[j]? = some x → w.cell? ⟨bk, o + j, none⟩ = some (.string x)) (hbk : bk < w.heap.size) (hN : xs.length ≤ 140737488355328) (hcap : xs.length ≤ c) (hlen : (Lib.join (xs.map (·.data.toList)) sep.data.toList).length ≤ 140737488355328) :
    Calls Tryz.prog 72 #[.slice (some ⟨bk, o, none⟩) xs.length c, .string sep] w fun e w' => e = .returned (.string ⟨(Lib.join (xs.map (·.data.toList)) sep.data.toList).toArray⟩) ∧ Below w.heap.size w w' := Any.strings_Join tlays156 tbx156 bk o c xs sep w hcells hbk hN hcap hlen
theorem cell_in {W : World} {b o : Nat} {sp : Option Nat} {v : Value} (h : W.cell? ⟨b, o, sp⟩ = some v) : b < W.heap.size := by
  unfold World.cell? at h
  split at h
  · rename_i c _ _ hc
    exact (Array.getElem?_eq_some_iff.1 hc).1
  · cases h
def spJoin : FSpec := fun _ xs ls K => ∃ (l : List (List UInt8)) (sep : List UInt8) (nl : Bool) (n : Int) (f : Nat → List SV), xs = [.sl (.a nl) (.a n) 1 f, .str sep] ∧ ls = [] ∧ RowS f n l ∧ l.length ≤ 1000000 ∧ (Lib.join l sep).length ≤ 140737488355328 ∧ ∀ r, r = Lib.join l sep → K (.str r) []
theorem join_ok : FnOk Tryz.prog gl 72 spJoin := by
  refine ⟨⟨Tryz.f72, _, Tryz.func72, rfl, by kernel_rfl⟩, fun xs ls K h => ?_⟩
  obtain ⟨l, sep, nl, n, f, rfl, rfl, R, hN, hL, h⟩ := h
  refine ⟨_, _, h _ rfl, callsTo_below fun E B w vals _ _ _ hr => ?_⟩
  obtain ⟨v, u, rfl, hv, hu⟩ := relL_two hr
  rw [rel_str hu]
  have hRn := R.n
  have none : ∀ (a : Option Addr) (c : Nat), l.length = 0 → Calls Tryz.prog 72 ⟨[.slice a 0 c, .string (Sx.bytes sep)]⟩ w fun e w' => ∃ v, e = .returned v ∧ (∀ E, Rel E w' (.str (Lib.join l sep)) v) ∧ Below w.heap.size w w' := by
    intro a c h0
    obtain rfl : l = [] := List.eq_nil_of_length_eq_zero h0
    refine (sh_strings_Join_none a c (Sx.bytes sep) w).mono ?_
    rintro e w' ⟨rfl, rfl⟩
    exact ⟨_, rfl, fun E => .ro (.str rfl), Below.refl _ _⟩
  cases hv with
  | ro h =>
    cases h with
    | slnil h hn =>
      have hn : n = 0 := hn
      exact none _ _ (by omega)
    | sl g h hn hc hcm hs hl h1 hcell hrel =>
      rename_i a m cap
      have hn : n = (m : Int) := hn
      have hm : l.length = m := by omega
      by_cases h0 : m = 0
      · subst h0; exact none _ _ hm
      · obtain ⟨bk, o, sp⟩ := a
        obtain rfl : sp = Option.none := hs (by omega)
        have cells : ∀ j, j < m → w.cell? ⟨bk, o + j, Option.none⟩ = some (.string (Sx.bytes (l.getD j []))) := by
          intro j hj
          have e1 := (hcell j 0 hj (by omega)).1
          have e2 := hrel j 0 (.str (l.getD j [])) hj (by rw [R.f j (by omega)]; rfl)
          simp only [Nat.mul_one, Nat.add_zero] at e1
          rw [e1]
          cases e2 with
          | str h => rw [h]
        have hmap : (l.map Sx.bytes).map (·.data.toList) = l := by
          rw [List.map_map]
          have : ((fun x : ByteArray => x.data.toList) ∘ Sx.bytes) = id := by funext s; simp [Sx.bytes]
          rw [this, List.map_id]
        have := sh_strings_Join bk o cap (l.map Sx.bytes) (Sx.bytes sep) w (fun j x hx => ?_) (cell_in (cells 0 (by omega))) (by rw [List.length_map]; omega) (by rw [List.length_map]; omega) (by rw [hmap]; simpa [Sx.bytes] using hL)
        · rw [hmap, List.length_map, hm] at this
          refine this.mono ?_
          rintro e w' ⟨rfl, hB⟩
          exact ⟨_, rfl, fun E => .ro (.str (by simp [Sx.bytes])), hB⟩
        · rw [List.getElem?_map] at hx
          obtain ⟨s, hs1, rfl⟩ := Option.map_eq_some_iff.1 hx
          have hj : j < l.length := (List.getElem?_eq_some_iff.1 hs1).1
          rw [cells j (by omega), List.getD_eq_getElem?_getD, hs1]; rfl
end Go.Proofs.YtfchfhjpldppjaaGreatDoor
namespace Go.Proofs.YtfchfhjpldppjaaGreatDoor
open Go.Sx
set_option maxRecDepth 10000
set_option maxHeartbeats 8000000
/-! Print. -/
def lenC (t : List UInt8) : List UInt8 × Int := if 2000 < (t.length : Int) then ([], 3) else (t, 0)
def prR (out : List (List UInt8)) (r : List Item) : List UInt8 × Int := if r.any itemTw then ([], 8) else lenC (joinS (out ++ r.map itemS))
theorem prR_tw {out : List (List UInt8)} {x : Item} {r : List Item} (h : itemTw x = true) : prR out (x :: r) = ([], 8) := by
  rw [prR, List.any_cons, h, Bool.true_or, if_pos rfl]
theorem prR_go {out : List (List UInt8)} {x : Item} {r : List Item} (h : itemTw x = false) : prR out (x :: r) = prR (out ++ [itemS x]) r := by
  rw [prR, prR, List.any_cons, h, Bool.false_or, List.map_cons, List.append_assoc]; rfl
theorem prR_end {out : List (List UInt8)} : prR out [] = lenC (joinS out) := by
  rw [prR, List.any_nil, if_neg (by simp), List.map_nil, List.append_nil]
theorem join_eq : ∀ l : List (List UInt8), Lib.join l [44, 32] = joinS l
  | [] => rfl
  | [x] => by rw [Lib.join_one]; rfl
  | x :: y :: r => by
    have ih := join_eq (y :: r)
    rw [Lib.join_cons] at ih
    rw [Lib.join_cons, joinS, if_neg (by simp), ← ih]
    simp [Lib.joinTail]
theorem quote_len (s : List UInt8) : (refQuoteF s).1.length ≤ 1002 := by
  have esc : ∀ t : List UInt8, (escF t).length ≤ 2 * t.length := by
    intro t
    induction t with
    | nil => simp [escF]
    | cons c r ih =>
      rw [escF_c, List.length_append]
      have : (escB c).length ≤ 2 := by unfold escB; split <;> simp
      simp only [List.length_cons]; omega
  unfold refQuoteF
  split
  · simp
  · split
    · simp
    · split
      · simp only; omega
      · have := esc s
        simp only [List.length_append, List.length_singleton]; omega
theorem parV_len {p : Par} (h : Pg p) : (parV p).length ≤ 1070 := by
  have h1 := (token_plain h.tok).2.1
  have h2 := quote_len p.2
  simp only [parV, List.length_append, List.length_singleton]; omega
theorem parsS_len : ∀ {ps : List Par}, (∀ p ∈ ps, Pg p) → (parsS ps).length ≤ ps.length * 1100
  | [], _ => by simp [parsS]
  | p :: r, h => by
    show (parS p ++ parsS r).length ≤ _
    have h1 := parV_len (h p (by simp))
    have h2 := parsS_len (ps := r) fun q hq => h q (List.mem_cons_of_mem _ hq)
    simp only [List.length_append, parS, List.length_cons]; omega
theorem itemS_len {x : Item} (h : Ig x) (h20 : x.2.length ≤ 20) : (itemS x).length ≤ 25000 := by
  have h1 := (token_plain h.tok).2.1
  have h2 := parsS_len h.par
  simp only [itemS, List.length_append]; omega
theorem join_len : ∀ l : List (List UInt8), (joinS l).length ≤ sumL l + 2 * l.length
  | [] => by simp [joinS, sumL]
  | x :: r => by
    have := join_len r
    rw [joinS]
    split
    · simp only [sumL, List.length_cons]; omega
    · simp only [sumL, List.length_append, List.length_cons, List.length_nil]; omega
theorem sumL_snoc : ∀ (l : List (List UInt8)) (x : List UInt8), sumL (l ++ [x]) = sumL l + x.length
  | [], x => by simp [sumL]
  | y :: r, x => by rw [List.cons_append, sumL, sumL, sumL_snoc r x]; omega
structure TL (t0 : List UInt8) (b0 : Nat) (ps : List Par) : Prop where
  t : t0.length ≤ 64 + b0 * 1100
  p : ps.length ≤ 20
  b : b0 < ps.length
structure Sz2 (t : List UInt8) : Prop where
  h : t.length ≤ 25000
structure JL (out : List (List UInt8)) : Prop where
  j : (joinS out).length ≤ 2000000
  l : out.length ≤ 50
structure L50 (l : List Item) : Prop where
  h : l.length ≤ 50
structure PrI (l : List Item) (out : List (List UInt8)) (i : Nat) (I L : Int) (m : Nat) : Prop where
  at_ : AtR l i I m
  L : L = l.length
  ol : out.length = i
  sz : sumL out ≤ i * 25000
  l50 : l.length ≤ 50
def prJ1 (l : List Item) (k : List UInt8 × Int) (nl : Bool) (n : Int) (f : Nat → List SV) (m : Nat) (vs : List (Option SV)) (hp : List Hl) : Prop :=
  ∃ (i : Nat) (I L N : Int) (on : Bool) (g : Nat → List SV) (out : List (List UInt8)), vs = [some (.gsl (.a on) (.a N) 1 g 1), some (.sl (.a nl) (.a n) 2 f), some (.int .i64 (.a L)), some (.int .i64 (.a I))] ∧ hp = [.blk 91 [.fn 68], .tail 9 (.a N) 1] ∧
    PrI l out i I L m ∧ RowS g N out ∧ k = prR out (l.drop i)
structure PrP (t : List UInt8) (ps : List Par) (i : Nat) (I L : Int) (m : Nat) : Prop where
  at_ : AtR ps i I m
  L : L = ps.length
  tl : t.length ≤ 64 + i * 1100
  p20 : ps.length ≤ 20
def prJ2 (xs xv : List UInt8) (ps : List Par) (nl on pe : Bool) (n N L I pn : Int) (f g pf : Nat → List SV) (m : Nat) (vs : List (Option SV)) (hp : List Hl) : Prop :=
  ∃ (i : Nat) (t : List UInt8) (I2 L2 : Int), vs = [some (.gsl (.a on) (.a N) 1 g 1), some (.str t), some (.sl (.a nl) (.a n) 2 f), some (.int .i64 (.a L)), some (.int .i64 (.a I)), some (.sl (.a pe) (.a pn) 2 pf), some (.int .i64 (.a L2)), some (.int .i64 (.a I2))] ∧ hp = [.blk 91 [.fn 68], .tail 9 (.a N) 1, .blk 49 [.str xv, .sl (.a pe) (.a pn) 2 pf]] ∧
    PrP t ps i I2 L2 m ∧ xs = t ++ parsS (ps.drop i)
def spPrint : FSpec := fun _ xs ls K => ∃ (l : List Item) (nl : Bool) (n : Int) (f : Nat → List SV), xs = [.sl (.a nl) (.a n) 2 f] ∧ ls = [] ∧ RowIX f n l ∧ LenI l ∧ ∀ t e, (t, e) = printF l → K (.tup [.str t, .int .i64 (.a e)]) []
theorem print_ok : FnOk Tryz.prog gl 38 spPrint := by
  refine fnOk (gh := [(6, [.attach 5 9])]) mixed cxOk3 (tabCons anyI_ok (tabCons twice_ok (tabCons quote_ok (tabCons join_ok tabNil)))) Tryz.func38 (by kernel_rfl) (by kernel_rfl) ?_
  intro xs ls K h
  unfold spPrint at h
  obtain ⟨l, nl, n, f, rfl, rfl, R, hl, h⟩ := h
  obtain ⟨k, hk⟩ : ∃ k, k = printF l := ⟨_, rfl⟩
  obtain ⟨kt, ke⟩ := k
  refine ⟨_, _, h kt ke hk, fun D hD => ?_⟩
  clear h
  rw [printF] at hk
  cbv
  refine ⟨l, _, _, _, _, itemFar, rfl, .inl ⟨rfl, rfl, rfl⟩, by subst hD; exact R, hl, fun r hr => ?_⟩
  cbv
  refine br hD (fun h => ?_) (fun h => ?_) <;> cbv
  · have h : (decide (50 < n) || r) = true := h
    refine finSE hD ?_
    rw [hk]
    by_cases h5 : 50 < (l.length : Int)
    · rw [if_pos h5]; rfl
    · have h6 : decide (50 < n) = false := by rw [decide_eq_false_iff_not, R.n]; exact h5
      rw [h6, Bool.false_or] at h
      rw [if_neg h5, if_pos (by rw [← hr]; exact h)]; rfl
  have h : (decide (50 < n) || r) = false := h
  simp only [Bool.or_eq_false_iff, decide_eq_false_iff_not] at h
  have h50 : ¬ 50 < (l.length : Int) := by rw [← R.n]; exact h.1
  have hl50 : L50 l := ⟨by omega⟩
  rw [if_neg h50, ← hr, h.2, if_neg (by simp)] at hk
  have hfar : l.any itemFar = false := by rw [← hr]; exact h.2
  clear h hr h50
  refine ⟨l, _, _, _, _, itemBad, rfl, .inr ⟨rfl, rfl, rfl⟩, by subst hD; exact R, hl, fun r2 hr2 => ?_⟩
  rw [← hr2] at hk
  cbv
  refine br hD (fun h => ?_) (fun h => ?_) <;> cbv
  · have h : r2 = true := h
    refine finSE hD ?_
    rw [hk, if_pos h]; rfl
  have h : r2 = false := h
  rw [if_neg (by rw [h]; simp)] at hk
  have hk : (kt, ke) = prR [] l := hk
  have hbad : l.any itemBad = false := by rw [← hr2]; exact h
  have hg : ∀ x ∈ l, Ig x ∧ x.2.length ≤ 20 := by
    intro x hx
    rw [List.any_eq_false] at hbad hfar
    refine ⟨itemGood_of (by simpa using hbad x hx), ?_⟩
    have := hfar x hx
    simp only [itemFar, decide_eq_true_eq] at this
    omega
  have hl50 := hl50.h
  clear h hr2 hbad hfar
  obtain ⟨J, hJ⟩ : ∃ J, J = prJ1 l (kt, ke) nl n f := ⟨_, rfl⟩
  refine ⟨[5, 24, 25, 26], J, ⟨rfl, l.length, ?_⟩, ?_⟩
  · rw [hJ]
    subst hD
    exact ⟨0, 0, _, _, _, _, [], rfl, rfl, ⟨AtR.zero (by omega), R.n, rfl, by simp [sumL], hl50⟩, RowS.nil, hk⟩
  clear hk
  intro m vs hp' hv
  rw [hJ] at hv
  unfold prJ1 at hv
  obtain ⟨i, I, L, N, on, g, out, rfl, rfl, V, RO, hk⟩ := hv
  cbv
  refine br hD (fun h => ?_) (fun h => ?_) <;> cbv
  · have hlt := V.at_.lt V.L (of_decide_eq_true (p := I < L) h)
    clear h
    refine ⟨V.at_.inB hD R.n hlt, fun j hj => ?_⟩
    obtain rfl := V.at_.j hD hj
    clear hj
    rw [dropR (d := ([], [])) hlt] at hk
    obtain ⟨xe, xf, e1, RX⟩ := R.f j
    have hxl := hl.h (l.getD j ([], [])) (getD_memI hlt)
    have hxg := hg (l.getD j ([], [])) (getD_memI hlt)
    obtain ⟨x, hx⟩ : ∃ x, x = l.getD j ([], []) := ⟨_, rfl⟩
    rw [← hx] at e1 RX hxl hxg hk
    obtain ⟨xv, xp⟩ := x
    have hsz := itemS_len hxg.1 hxg.2
    have htw := prR_tw (out := out) (x := (xv, xp)) (r := l.drop (j + 1))
    have hgo := prR_go (out := out) (x := (xv, xp)) (r := l.drop (j + 1))
    obtain ⟨ks, hks⟩ : ∃ ks, ks = itemS (xv, xp) := ⟨_, rfl⟩
    rw [← hks] at hgo hsz
    obtain ⟨xn, hxn⟩ : ∃ n : Int, n = (xp.length : Int) := ⟨_, rfl⟩
    simp only at e1 RX
    have hxl : LenX xv xp := ⟨hxl.1, hxl.2⟩
    have hxv : xv.length ≤ 64 := (token_plain hxg.1.tok).2.1
    rw [← hxn] at e1 RX
    clear hxn
    cbv
    rw [e1]
    cbv
    refine ⟨xp, _, _, _, rfl, rfl, by subst hD; exact RX, fun tw htw2 => ?_⟩
    cbv
    refine br hD (fun h => ?_) (fun h => ?_) <;> cbv
    · have h : tw = true := h
      refine finSE hD ?_
      rw [hk, htw (by rw [← h, htw2]; rfl)]; rfl
    have h : tw = false := h
    rw [hgo (by rw [← h, htw2]; rfl)] at hk
    clear h htw2 htw hgo
    obtain ⟨J2, hJ2⟩ : ∃ J, J = prJ2 ks xv xp nl on xe n N L I xn f g xf := ⟨_, rfl⟩
    refine ⟨[5, 8, 24, 25, 26, 36, 37, 38], J2, ⟨rfl, xp.length, ?_⟩, ?_⟩
    · rw [hJ2]
      subst hD
      exact ⟨0, _, _, _, rfl, rfl, ⟨AtR.zero RX.len, RX.n, by omega, hxg.2⟩, hks⟩
    clear hks
    intro m2 vs2 hp2 hv2
    rw [hJ2] at hv2
    unfold prJ2 at hv2
    obtain ⟨a, t, I2, L2, rfl, rfl, W, hks⟩ := hv2
    cbv
    refine br hD (fun h => ?_) (fun h => ?_) <;> cbv
    · have hlt2 := W.at_.lt W.L (of_decide_eq_true (p := I2 < L2) h)
      clear h
      refine ⟨W.at_.inB hD RX.n hlt2, fun b hb => ?_⟩
      obtain rfl := W.at_.j hD hb
      clear hb
      have e2 := RX.f b hlt2
      rw [dropR (d := ([], [])) hlt2] at hks
      have hmem : xp.getD b ([], []) ∈ xp := by rw [List.getD_eq_getElem?_getD, List.getElem?_eq_getElem hlt2]; exact List.getElem_mem hlt2
      have hpg := hxg.1.par _ hmem
      have hpl := hxl.p _ hmem
      obtain ⟨p, hp⟩ : ∃ p, p = xp.getD b ([], []) := ⟨_, rfl⟩
      rw [← hp] at e2 hks hpg hpl
      clear hmem hp
      obtain ⟨pn, pv⟩ := p
      have hpt : pn.length ≤ 64 := (token_plain hpg.tok).2.1
      have hql := quote_len pv
      have hks : ks = t ++ ([59] ++ pn ++ [61] ++ (refQuoteF pv).1) ++ parsS (xp.drop (b + 1)) := by
        rw [hks]
        show t ++ (parS (pn, pv) ++ parsS (xp.drop (b + 1))) = _
        simp [parS, parV]
      simp only at e2 hpl
      have hpl := hpl.2
      cbv
      rw [e2]
      cbv
      refine ⟨pv, rfl, rfl, hpl, fun q e hq => ?_⟩
      rw [← hq] at hks hql
      simp only at hks hql
      clear hq
      cbv
      have tl : TL t b xp := ⟨W.tl, W.p20, hlt2⟩
      refine ⟨⟨by simp only [List.length_singleton]; omega⟩, fun r1 hr1 => ?_⟩
      have l1 : r1.length ≤ 65 := by rw [hr1.h]; simp only [List.length_append, List.length_singleton]; omega
      cbv
      refine ⟨⟨by simp only [List.length_singleton]; omega⟩, fun r2 hr2 => ?_⟩
      have l2 : r2.length ≤ 66 := by rw [hr2.h]; simp only [List.length_append, List.length_singleton]; omega
      cbv
      refine ⟨⟨by omega⟩, fun r3 hr3 => ?_⟩
      have l3 : r3.length ≤ 1068 := by rw [hr3.h]; simp only [List.length_append]; omega
      cbv
      refine ⟨⟨by have h1 := tl.t; have h2 := tl.p; have h3 := tl.b; omega⟩, fun r4 hr4 => ?_⟩
      have l4 : r4.length ≤ 64 + (b + 1) * 1100 := by rw [hr4.h]; have h1 := tl.t; simp only [List.length_append]; omega
      have e4 : ks = r4 ++ parsS (xp.drop (b + 1)) := by rw [hks, hr4.h, hr3.h, hr2.h, hr1.h]
      clear hr1 hr2 hr3 hr4 l1 l2 l3 hks
      cbv
      refine ⟨xp.length - (b + 1), (W.at_.step hD hlt2).1, ?_⟩
      rw [hJ2]
      subst hD
      exact ⟨b + 1, r4, _, _, rfl, rfl, ⟨(W.at_.step rfl hlt2).2, W.L, l4, W.p20⟩, e4⟩
    · have hi2 := W.at_.eq W.L (of_decide_eq_false (p := I2 < L2) h)
      clear h
      rw [hi2, List.drop_length] at hks
      have hks : ks = t := by rw [hks]; show t ++ [] = t; simp
      subst hks
      have hsz : Sz2 ks := ⟨hsz⟩
      intro g1 hg1
      have hg0 : g1 0 = [.str ks] := by subst hD; exact hg1.h 0 _ rfl
      clear hg1 W hi2
      cbv
      refine ⟨?_, fun f' n' hf' => ?_⟩
      · have h1 := V.ol; have h2 := V.at_.le; have h3 := RO.n; have h4 := V.l50; subst hD; exact ⟨rfl, by show (N + 1) * 16 ≤ _; omega, by show N + 1 ≤ _; omega⟩
      have R' : RowS f' n' (out ++ [ks]) := by
        subst hD
        exact RO.more hg0 hf' (by have h1 := V.ol; have h2 := V.at_.le; have h4 := V.l50; omega)
      clear hf' hg0
      cbv
      refine ⟨l.length - (j + 1), (V.at_.step hD hlt).1, ?_⟩
      rw [hJ]
      subst hD
      exact ⟨j + 1, _, _, _, _, f', _, rfl, rfl, ⟨(V.at_.step rfl hlt).2, V.L, by have h1 := V.ol; rw [List.length_append, List.length_singleton]; omega, by have h1 := V.sz; have h2 := hsz.h; rw [sumL_snoc]; omega, V.l50⟩, R', hk⟩
  · have hi := V.at_.eq V.L (of_decide_eq_false (p := I < L) h)
    clear h
    rw [hi, List.drop_length, prR_end] at hk
    have hjl : JL out := ⟨by have h1 := join_len out; have h2 := V.sz; have h3 := V.ol; have h4 := V.at_.le; have h5 := V.l50; omega, by have h3 := V.ol; have h4 := V.at_.le; have h5 := V.l50; omega⟩
    refine ⟨out, [44, 32], _, _, _, rfl, rfl, by subst hD; exact RO, by have := hjl.l; omega, by rw [join_eq]; have := hjl.j; omega, fun t ht => ?_⟩
    rw [join_eq] at ht
    rw [← ht] at hk
    rw [lenC] at hk
    clear ht
    cbv
    refine br hD (fun h => ?_) (fun h => ?_) <;> cbv
    · have h : decide (2000 < (t.length : Int)) = true := h
      rw [if_pos (by simpa using h)] at hk
      exact finSE hD hk
    · have h : decide (2000 < (t.length : Int)) = false := h
      rw [if_neg (by simpa using h)] at hk
      exact finSE hD hk
end Go.Proofs.YtfchfhjpldppjaaGreatDoor
namespace Go.Proofs.YtfchfhjpldppjaaGreatDoor
open Go.Sx
set_option maxRecDepth 10000
set_option maxHeartbeats 8000000
/-! TokensPrints: far; Text of the document. -/
def capI (s : List UInt8) : Int := min (s.length : Int) 6001
def fP (n : Int) : List Par → Int
  | [] => n
  | p :: r => fP (IntKind.i64.wrap (IntKind.i64.wrap (n + capI p.1) + capI p.2)) r
def fI (n : Int) : List Item → Bool
  | [] => decide (6000 < n)
  | x :: r => if decide (30 < (x.2.length : Int)) then true else fI (fP (IntKind.i64.wrap (n + capI x.1)) x.2) r
def farF (l : List Item) : Bool := if decide (60 < (l.length : Int)) then true else fI 0 l
structure CapOf (r : Int) (s : List UInt8) : Prop where
  h : r = capI s
def faJ1 (k : Bool) (l : List Item) (nl : Bool) (n : Int) (f : Nat → List SV) (m : Nat) (vs : List (Option SV)) (hp : List Hl) : Prop :=
  ∃ (i : Nat) (I N : Int), vs = [some (.sl (.a nl) (.a n) 2 f), some (.int .i64 (.a N)), some (.int .i64 (.a I))] ∧ hp = [] ∧ AtR l i I m ∧ k = fI N (l.drop i)
def faJ2 (k : Bool) (ps : List Par) (r : List Item) (nl : Bool) (n I : Int) (f : Nat → List SV) (m : Nat) (vs : List (Option SV)) (hp : List Hl) : Prop :=
  ∃ (a : Nat) (I2 N : Int), vs = [some (.sl (.a nl) (.a n) 2 f), some (.int .i64 (.a N)), some (.int .i64 (.a I)), some (.int .i64 (.a I2))] ∧ hp = [] ∧ AtR ps a I2 m ∧ k = fI (fP N (ps.drop a)) r
def spFar : FSpec := fun _ xs ls K => ∃ (l : List Item) (nl : Bool) (n : Int) (f : Nat → List SV), xs = [.sl (.a nl) (.a n) 2 f] ∧ ls = [] ∧ RowIX f n l ∧ ∀ r : Bool, r = farF l → K (.bool (.a r)) []
theorem far_ok : FnOk Tryz.prog gl 37 spFar := by
  refine fnOk (gh := []) mixed cxOk tabNil Tryz.func37 (by kernel_rfl) (by kernel_rfl) ?_
  intro xs ls K h
  unfold spFar at h
  obtain ⟨l, nl, n, f, rfl, rfl, R, h⟩ := h
  obtain ⟨k, hk⟩ : ∃ k, k = farF l := ⟨_, rfl⟩
  refine ⟨_, _, h k hk, fun D hD => ?_⟩
  clear h
  rw [farF, ← R.n] at hk
  cbv
  refine br hD (fun h => ?_) (fun h => ?_) <;> cbv
  · have h : decide (60 < n) = true := h
    rw [if_pos h] at hk
    exact finBool hD hk.symm
  have h : decide (60 < n) = false := h
  rw [if_neg (by rw [h]; simp)] at hk
  clear h
  obtain ⟨J, hJ⟩ : ∃ J, J = faJ1 k l nl n f := ⟨_, rfl⟩
  refine ⟨[0, 3, 4], J, ⟨rfl, l.length, ?_⟩, ?_⟩
  · rw [hJ]
    subst hD
    exact ⟨0, 0, _, rfl, rfl, AtR.zero R.len, hk⟩
  clear hk
  intro m vs hp' hv
  rw [hJ] at hv
  unfold faJ1 at hv
  obtain ⟨i, I, N, rfl, rfl, V, hk⟩ := hv
  cbv
  refine br hD (fun h => ?_) (fun h => ?_) <;> cbv
  · have hlt := V.lt R.n (of_decide_eq_true (p := I < n) h)
    clear h
    have hin := V.inB hD R.n hlt
    have hVj := fun j2 (h2 : IsJ j2 (D.i (.a I))) => V.j hD h2
    rw [dropR (d := ([], [])) hlt, fI] at hk
    obtain ⟨xe, xf, e1, RX⟩ := R.f i
    obtain ⟨x, hx⟩ : ∃ x, x = l.getD i ([], []) := ⟨_, rfl⟩
    rw [← hx] at e1 RX hk
    obtain ⟨xv, xp⟩ := x
    obtain ⟨xn, hxn⟩ : ∃ n : Int, n = (xp.length : Int) := ⟨_, rfl⟩
    simp only at e1 RX hk
    rw [← hxn] at e1 RX hk
    clear hxn hx
    refine ⟨hin, fun j1 hj1 => ?_⟩
    have f1 : f j1 = [.str xv, .sl (.a xe) (.a xn) 2 xf] := by rw [hVj j1 hj1]; exact e1
    clear hj1
    cbv
    rw [f1]
    cbv
    refine br hD (fun h => ?_) (fun h => ?_) <;> cbv
    · have h : decide (30 < xn) = true := h
      rw [if_pos h] at hk
      exact finBool hD hk.symm
    have h : decide (30 < xn) = false := h
    rw [if_neg (by rw [h]; simp)] at hk
    clear h
    refine ⟨hin, fun j2 hj2 => ?_⟩
    have f2 : f j2 = [.str xv, .sl (.a xe) (.a xn) 2 xf] := by rw [hVj j2 hj2]; exact e1
    clear hj2
    cbv
    rw [f2]
    cbv
    intro c hc
    have hc : CapOf c xv := ⟨by subst hD; exact hc.h⟩
    rw [← hc.h] at hk
    cbv
    obtain ⟨J2, hJ2⟩ : ∃ J, J = faJ2 k xp (l.drop (i + 1)) nl n I f := ⟨_, rfl⟩
    refine ⟨[0, 3, 4, 5], J2, ⟨rfl, xp.length, ?_⟩, ?_⟩
    · rw [hJ2]
      subst hD
      exact ⟨0, 0, _, rfl, rfl, AtR.zero RX.len, hk⟩
    clear hk hc
    intro m2 vs2 hp2 hv2
    rw [hJ2] at hv2
    unfold faJ2 at hv2
    obtain ⟨a, I2, N2, rfl, rfl, W, hk⟩ := hv2
    cbv
    refine ⟨hin, fun j3 hj3 => ?_⟩
    have f3 : f j3 = [.str xv, .sl (.a xe) (.a xn) 2 xf] := by rw [hVj j3 hj3]; exact e1
    clear hj3
    cbv
    rw [f3]
    cbv
    refine br hD (fun h => ?_) (fun h => ?_) <;> cbv
    · have hlt2 := W.lt RX.n (of_decide_eq_true (p := I2 < xn) h)
      clear h
      have hin2 := W.inB hD RX.n hlt2
      have hWj := fun j2 (h2 : IsJ j2 (D.i (.a I2))) => W.j hD h2
      rw [dropR (d := ([], [])) hlt2, fP] at hk
      have e2 := RX.f a hlt2
      obtain ⟨p, hp⟩ : ∃ p, p = xp.getD a ([], []) := ⟨_, rfl⟩
      rw [← hp] at e2 hk
      obtain ⟨pn, pv⟩ := p
      simp only at e2 hk
      refine ⟨hin, fun j4 hj4 => ?_⟩
      have f4 : f j4 = [.str xv, .sl (.a xe) (.a xn) 2 xf] := by rw [hVj j4 hj4]; exact e1
      clear hj4
      cbv
      rw [f4]
      cbv
      refine ⟨hin2, fun b1 hb1 => ?_⟩
      have g1 : xf b1 = [.str pn, .str pv] := by rw [hWj b1 hb1]; exact e2
      clear hb1
      cbv
      rw [g1]
      cbv
      intro c1 hc1
      have hc1 : CapOf c1 pn := ⟨by subst hD; exact hc1.h⟩
      cbv
      refine ⟨hin, fun j5 hj5 => ?_⟩
      have f5 : f j5 = [.str xv, .sl (.a xe) (.a xn) 2 xf] := by rw [hVj j5 hj5]; exact e1
      clear hj5
      cbv
      rw [f5]
      cbv
      refine ⟨hin2, fun b2 hb2 => ?_⟩
      have g2 : xf b2 = [.str pn, .str pv] := by rw [hWj b2 hb2]; exact e2
      clear hb2
      cbv
      rw [g2]
      cbv
      intro c2 hc2
      have hc2 : CapOf c2 pv := ⟨by subst hD; exact hc2.h⟩
      rw [← hc1.h, ← hc2.h] at hk
      clear hc1 hc2
      cbv
      refine ⟨xp.length - (a + 1), (W.step hD hlt2).1, ?_⟩
      rw [hJ2]
      subst hD
      exact ⟨a + 1, _, _, rfl, rfl, (W.step rfl hlt2).2, hk⟩
    · have hi2 := W.eq RX.n (of_decide_eq_false (p := I2 < xn) h)
      clear h
      rw [hi2, List.drop_length, fP] at hk
      refine ⟨l.length - (i + 1), (V.step hD hlt).1, ?_⟩
      rw [hJ]
      subst hD
      exact ⟨i + 1, _, _, rfl, rfl, (V.step rfl hlt).2, hk⟩
  · have hi := V.eq R.n (of_decide_eq_false (p := I < n) h)
    rw [hi, List.drop_length, fI] at hk
    refine finBool hD ?_
    rw [hk]; rfl
def textF (s : List UInt8) : Bool := decide ((s.length : Int) ≤ 500) && plainsF s
theorem text_ok : FnOk Tryz.prog gl 73 (spStrB textF) := by
  refine fnOk (gh := []) mixed cxOk (tabCons plains_ok tabNil) Tryz.func73 (by kernel_rfl) (by kernel_rfl) ?_
  intro xs ls K h
  unfold spStrB at h
  obtain ⟨s, rfl, rfl, hl, h⟩ := h
  obtain ⟨k, hk⟩ : ∃ k, k = textF s := ⟨_, rfl⟩
  refine ⟨_, _, h k hk, fun D hD => ?_⟩
  clear h
  rw [textF] at hk
  cbv
  refine ⟨s, rfl, rfl, hl, fun r hr => ?_⟩
  rw [← hr] at hk
  cbv
  refine finBool hD ?_
  rw [hk]; rfl
theorem parBad_ref (p : Par) : parBad p = ((!refTokenF p.1 || !(foldF p.1 == p.1)) || !textF p.2) := by
  unfold parBad textF
  have : decide (500 < (p.2.length : Int)) = !decide ((p.2.length : Int) ≤ 500) := by
    by_cases h : 500 < (p.2.length : Int)
    · rw [decide_eq_true h, decide_eq_false (by omega)]; rfl
    · rw [decide_eq_false h, decide_eq_true (by omega)]; rfl
  rw [this, Bool.not_and, Bool.or_assoc]
end Go.Proofs.YtfchfhjpldppjaaGreatDoor
namespace Go.Proofs.YtfchfhjpldppjaaGreatDoor
open Go.Sx
set_option maxRecDepth 10000
set_option maxHeartbeats 16000000
/-! Print of the document. -/
theorem joinS_snoc : ∀ (l : List (List UInt8)) (x : List UInt8), l ≠ [] → joinS (l ++ [x]) = joinS l ++ [44, 32] ++ x
  | [], x, h => absurd rfl h
  | [y], x, _ => by simp [joinS]
  | y :: z :: r, x, _ => by
    have ih := joinS_snoc (z :: r) x (by simp)
    have e : joinS (y :: z :: r) = y ++ [44, 32] ++ joinS (z :: r) := by rw [joinS, if_neg (by simp)]
    rw [List.cons_append, joinS, if_neg (by simp), ih, e]
    simp
theorem joinS_one (x : List UInt8) : joinS [x] = x := by simp [joinS]
theorem join_first {t : List UInt8} {out : List (List UInt8)} (h : t = joinS out) (h0 : out = []) (x : List UInt8) : joinS (out ++ [x]) = t ++ x := by
  subst h h0
  rw [List.nil_append, joinS_one]
  simp [joinS]
def p2F (l : List Item) : List UInt8 × Int := if l.any itemBad then ([], 6) else prR [] l
def rpK1 (l : List Item) (i : Nat) : List UInt8 × Int := if (l.drop i).any itemFar then ([], 3) else p2F l
structure RpA (l : List Item) (p : Item → Bool) (i : Nat) (I : Int) (m : Nat) : Prop where
  at_ : AtR l i I m
  any : l.any p = (l.drop i).any p
def rpJ1 (k : List UInt8 × Int) (l : List Item) (nl : Bool) (n : Int) (f : Nat → List SV) (m : Nat) (vs : List (Option SV)) (hp : List Hl) : Prop :=
  ∃ (i : Nat) (I : Int), vs = [some (.sl (.a nl) (.a n) 2 f), some (.int .i64 (.a I))] ∧ hp = [] ∧ RpA l itemFar i I m ∧ k = rpK1 l i
def rpK2 (l : List Item) (i : Nat) : List UInt8 × Int := if (l.drop i).any itemBad then ([], 6) else prR [] l
def rpJ2 (k : List UInt8 × Int) (l : List Item) (nl : Bool) (n : Int) (f : Nat → List SV) (m : Nat) (vs : List (Option SV)) (hp : List Hl) : Prop :=
  ∃ (i : Nat) (I : Int), vs = [some (.sl (.a nl) (.a n) 2 f), some (.int .i64 (.a I))] ∧ hp = [] ∧ RpA l itemBad i I m ∧ k = rpK2 l i
def rpJ3 (k z : List UInt8 × Int) (ps : List Par) (nl : Bool) (n I : Int) (f : Nat → List SV) (m : Nat) (vs : List (Option SV)) (hp : List Hl) : Prop :=
  ∃ (a : Nat) (I2 : Int), vs = [some (.sl (.a nl) (.a n) 2 f), some (.int .i64 (.a I)), some (.int .i64 (.a I2))] ∧ hp = [] ∧ AtR ps a I2 m ∧ ps.any parBad = (ps.drop a).any parBad ∧ k = if (ps.drop a).any parBad then ([], 6) else z
structure RpI (l : List Item) (out : List (List UInt8)) (t : List UInt8) (i : Nat) (I : Int) (m : Nat) : Prop where
  at_ : AtR l i I m
  ol : out.length = i
  t_ : t = joinS out
  sz : t.length ≤ i * 25002
  l50 : l.length ≤ 50
def rpJ4 (k : List UInt8 × Int) (l : List Item) (nl : Bool) (n : Int) (f : Nat → List SV) (m : Nat) (vs : List (Option SV)) (hp : List Hl) : Prop :=
  ∃ (i : Nat) (I : Int) (t : List UInt8) (out : List (List UInt8)), vs = [some (.sl (.a nl) (.a n) 2 f), some (.str t), some (.int .i64 (.a I))] ∧ hp = [] ∧ RpI l out t i I m ∧ k = prR out (l.drop i)
structure RpP (t : List UInt8) (B : Nat) (ps : List Par) (a : Nat) (I2 : Int) (m : Nat) : Prop where
  at_ : AtR ps a I2 m
  tl : t.length ≤ B + a * 1100
  bl : B ≤ 2000000
  p20 : ps.length ≤ 20
def rpJ5 (ks : List UInt8) (B : Nat) (ps : List Par) (nl : Bool) (n I : Int) (f : Nat → List SV) (m : Nat) (vs : List (Option SV)) (hp : List Hl) : Prop :=
  ∃ (a : Nat) (I2 : Int) (t : List UInt8), vs = [some (.sl (.a nl) (.a n) 2 f), some (.str t), some (.int .i64 (.a I)), some (.int .i64 (.a I2))] ∧ hp = [] ∧ RpP t B ps a I2 m ∧ ks = t ++ parsS (ps.drop a)
structure Tb (t : List UInt8) (B : Nat) : Prop where
  h : t.length ≤ B
  b : B ≤ 2000000
structure BK (i0 : Nat) (t : List UInt8) : Prop where
  i : i0 ≤ 50
  k : t.length ≤ (i0 + 1) * 25002
structure TL2 (t0 : List UInt8) (B0 b0 : Nat) (ps : List Par) : Prop where
  t : t0.length ≤ B0 + b0 * 1100
  B : B0 ≤ 2000000
  p : ps.length ≤ 20
  b : b0 < ps.length
theorem refPrint_ok : FnOk Tryz.prog gl 39 spPrint := by
  refine fnOk (gh := []) mixed cxOk (tabCons refToken_ok (tabCons refFold_ok (tabCons text_ok (tabCons refTwice_ok (tabCons refQuote_ok tabNil))))) Tryz.func39 (by kernel_rfl) (by kernel_rfl) ?_
  intro xs ls K h
  unfold spPrint at h
  obtain ⟨l, nl, n, f, rfl, rfl, R, hl, h⟩ := h
  obtain ⟨k, hk⟩ : ∃ k, k = printF l := ⟨_, rfl⟩
  obtain ⟨kt, ke⟩ := k
  refine ⟨_, _, h kt ke hk, fun D hD => ?_⟩
  clear h
  rw [printF, ← R.n] at hk
  cbv
  refine br hD (fun h => ?_) (fun h => ?_) <;> cbv
  · have h : decide (50 < n) = true := h
    rw [if_pos (of_decide_eq_true h)] at hk
    exact finSE hD hk
  have h : decide (50 < n) = false := h
  have h50 : ¬ 50 < n := of_decide_eq_false h
  rw [if_neg h50] at hk
  have hl50 : L50 l := ⟨by have := R.n; omega⟩
  have hk : (kt, ke) = rpK1 l 0 := hk
  clear h h50
  obtain ⟨J, hJ⟩ : ∃ J, J = rpJ1 (kt, ke) l nl n f := ⟨_, rfl⟩
  refine ⟨[0, 4], J, ⟨rfl, l.length, ?_⟩, ?_⟩
  · rw [hJ]
    subst hD
    exact ⟨0, 0, rfl, rfl, ⟨AtR.zero R.len, rfl⟩, hk⟩
  clear hk
  intro m vs hp' hv
  rw [hJ] at hv
  unfold rpJ1 at hv
  obtain ⟨i, I, rfl, rfl, V, hk⟩ := hv
  cbv
  refine br hD (fun h => ?_) (fun h => ?_) <;> cbv
  · have hlt := V.at_.lt R.n (of_decide_eq_true (p := I < n) h)
    clear h
    have hany := V.any
    rw [rpK1, dropR (d := ([], [])) hlt, List.any_cons] at hk
    rw [dropR (d := ([], [])) hlt, List.any_cons] at hany
    obtain ⟨xe, xf, e1, RX⟩ := R.f i
    obtain ⟨x, hx⟩ : ∃ x, x = l.getD i ([], []) := ⟨_, rfl⟩
    rw [← hx] at e1 RX hk hany
    obtain ⟨xv, xp⟩ := x
    obtain ⟨xn, hxn⟩ : ∃ n : Int, n = (xp.length : Int) := ⟨_, rfl⟩
    simp only at e1 RX
    rw [← hxn] at e1 RX
    have hfar : itemFar (xv, xp) = decide (20 < xn) := by rw [hxn]; rfl
    rw [hfar] at hk hany
    clear hxn hx hfar
    refine ⟨V.at_.inB hD R.n hlt, fun j1 hj1 => ?_⟩
    have f1 : f j1 = [.str xv, .sl (.a xe) (.a xn) 2 xf] := by rw [V.at_.j hD hj1]; exact e1
    clear hj1
    cbv
    rw [f1]
    cbv
    refine br hD (fun h => ?_) (fun h => ?_) <;> cbv
    · have h : decide (20 < xn) = true := h
      rw [h, Bool.true_or, if_pos rfl] at hk
      exact finSE hD hk
    · have h : decide (20 < xn) = false := h
      rw [h, Bool.false_or] at hk hany
      refine ⟨l.length - (i + 1), (V.at_.step hD hlt).1, ?_⟩
      rw [hJ]
      subst hD
      exact ⟨i + 1, _, rfl, rfl, ⟨(V.at_.step rfl hlt).2, hany⟩, hk⟩
  have hi := V.at_.eq R.n (of_decide_eq_false (p := I < n) h)
  have hfar : l.any itemFar = false := by rw [V.any, hi, List.drop_length]; rfl
  rw [rpK1, hi, List.drop_length, List.any_nil, if_neg (by simp)] at hk
  have hk : (kt, ke) = rpK2 l 0 := hk
  clear V h hi hJ J
  obtain ⟨J, hJ⟩ : ∃ J, J = rpJ2 (kt, ke) l nl n f := ⟨_, rfl⟩
  refine ⟨[0, 5], J, ⟨rfl, l.length, ?_⟩, ?_⟩
  · rw [hJ]
    subst hD
    exact ⟨0, 0, rfl, rfl, ⟨AtR.zero R.len, rfl⟩, hk⟩
  clear hk
  intro m vs hp' hv
  rw [hJ] at hv
  unfold rpJ2 at hv
  obtain ⟨i, I, rfl, rfl, V, hk⟩ := hv
  cbv
  refine br hD (fun h => ?_) (fun h => ?_) <;> cbv
  · have hlt := V.at_.lt R.n (of_decide_eq_true (p := I < n) h)
    clear h
    have hany := V.any
    rw [rpK2, dropR (d := ([], [])) hlt, List.any_cons] at hk
    rw [dropR (d := ([], [])) hlt, List.any_cons] at hany
    have hxl := hl.h (l.getD i ([], [])) (getD_memI hlt)
    obtain ⟨xe, xf, e1, RX⟩ := R.f i
    obtain ⟨x, hx⟩ : ∃ x, x = l.getD i ([], []) := ⟨_, rfl⟩
    rw [← hx] at e1 RX hk hany hxl
    obtain ⟨xv, xp⟩ := x
    obtain ⟨xn, hxn⟩ : ∃ n : Int, n = (xp.length : Int) := ⟨_, rfl⟩
    simp only at e1 RX
    have hxl : LenX xv xp := ⟨hxl.1, hxl.2⟩
    rw [← hxn] at e1 RX
    rw [itemBad] at hk hany
    simp only at hk hany
    clear hxn hx
    have hin := V.at_.inB hD R.n hlt
    have hVj := fun j2 (h2 : IsJ j2 (D.i (.a I))) => V.at_.j hD h2
    refine ⟨hin, fun j1 hj1 => ?_⟩
    have f1 : f j1 = [.str xv, .sl (.a xe) (.a xn) 2 xf] := by rw [hVj j1 hj1]; exact e1
    clear hj1
    cbv
    rw [f1]
    cbv
    refine ⟨xv, rfl, rfl, hxl.v, fun tk htk => ?_⟩
    rw [← htk] at hk hany
    clear htk
    cbv
    refine br hD (fun h => ?_) (fun h => ?_) <;> cbv
    · have h : (!tk) = true := h
      rw [h, Bool.true_or, Bool.true_or, if_pos rfl] at hk
      exact finSE hD hk
    have h : (!tk) = false := h
    rw [h, Bool.false_or] at hk hany
    clear h
    obtain ⟨z, hz⟩ : ∃ z : List UInt8 × Int, z = rpK2 l (i + 1) := ⟨_, rfl⟩
    have hk : (kt, ke) = if xp.any parBad then ([], 6) else z := by
      rw [hk, hz, rpK2]
      cases xp.any parBad <;> rfl
    obtain ⟨J2, hJ2⟩ : ∃ J, J = rpJ3 (kt, ke) z xp nl n I f := ⟨_, rfl⟩
    refine ⟨[0, 5, 6], J2, ⟨rfl, xp.length, ?_⟩, ?_⟩
    · rw [hJ2]
      subst hD
      exact ⟨0, 0, rfl, rfl, AtR.zero RX.len, rfl, hk⟩
    clear hk
    intro m2 vs2 hp2 hv2
    rw [hJ2] at hv2
    unfold rpJ3 at hv2
    obtain ⟨a, I2, rfl, rfl, W, hpa, hk⟩ := hv2
    cbv
    refine ⟨hin, fun j3 hj3 => ?_⟩
    have f3 : f j3 = [.str xv, .sl (.a xe) (.a xn) 2 xf] := by rw [hVj j3 hj3]; exact e1
    clear hj3
    cbv
    rw [f3]
    cbv
    refine br hD (fun h => ?_) (fun h => ?_) <;> cbv
    · have hlt2 := W.lt RX.n (of_decide_eq_true (p := I2 < xn) h)
      clear h
      rw [dropR (d := ([], [])) hlt2, List.any_cons, parBad_ref] at hk hpa
      have e2 := RX.f a hlt2
      have hpl := hxl.p (xp.getD a ([], [])) (by rw [List.getD_eq_getElem?_getD, List.getElem?_eq_getElem hlt2]; exact List.getElem_mem hlt2)
      obtain ⟨p, hp⟩ : ∃ p, p = xp.getD a ([], []) := ⟨_, rfl⟩
      rw [← hp] at e2 hk hpa hpl
      obtain ⟨pn, pv⟩ := p
      simp only at e2 hk hpa hpl
      have hpl : LenX pn [(pn, pv)] := ⟨hpl.1, fun p hp => by rw [List.mem_singleton] at hp; subst hp; exact hpl⟩
      refine ⟨hin, fun j4 hj4 => ?_⟩
      have f4 : f j4 = [.str xv, .sl (.a xe) (.a xn) 2 xf] := by rw [hVj j4 hj4]; exact e1
      clear hj4
      cbv
      rw [f4]
      cbv
      refine ⟨W.inB hD RX.n hlt2, fun b1 hb1 => ?_⟩
      have g1 : xf b1 = [.str pn, .str pv] := by rw [W.j hD hb1]; exact e2
      clear hb1
      cbv
      rw [g1]
      cbv
      refine ⟨pn, rfl, rfl, hpl.v, fun t1 ht1 => ?_⟩
      rw [← ht1] at hk hpa
      clear ht1
      cbv
      refine ⟨pn, rfl, rfl, hpl.v, fun t2 ht2 => ?_⟩
      rw [← ht2] at hk hpa
      clear ht2
      cbv
      refine ⟨pv, rfl, rfl, (hpl.p (pn, pv) (by simp)).2, fun t3 ht3 => ?_⟩
      rw [← ht3] at hk hpa
      clear ht3
      cbv
      refine br hD (fun h => ?_) (fun h => ?_) <;> cbv
      · have h : ((!t1 || !(t2 == pn)) || !t3) = true := h
        rw [h, Bool.true_or, if_pos rfl] at hk
        exact finSE hD hk
      · have h : ((!t1 || !(t2 == pn)) || !t3) = false := h
        rw [h, Bool.false_or] at hk hpa
        refine ⟨xp.length - (a + 1), (W.step hD hlt2).1, ?_⟩
        rw [hJ2]
        subst hD
        exact ⟨a + 1, _, rfl, rfl, (W.step rfl hlt2).2, hpa, hk⟩
    · have hi2 := W.eq RX.n (of_decide_eq_false (p := I2 < xn) h)
      clear h
      rw [hi2, List.drop_length, List.any_nil] at hk hpa
      rw [if_neg (by simp), hz] at hk
      rw [hpa, Bool.false_or] at hany
      refine ⟨l.length - (i + 1), (V.at_.step hD hlt).1, ?_⟩
      rw [hJ]
      subst hD
      exact ⟨i + 1, _, rfl, rfl, ⟨(V.at_.step rfl hlt).2, hany⟩, hk⟩
  have hi := V.at_.eq R.n (of_decide_eq_false (p := I < n) h)
  have hbad : l.any itemBad = false := by rw [V.any, hi, List.drop_length]; rfl
  rw [rpK2, hi, List.drop_length, List.any_nil, if_neg (by simp)] at hk
  have hg : ∀ x ∈ l, Ig x ∧ x.2.length ≤ 20 := by
    intro x hx
    rw [List.any_eq_false] at hbad hfar
    refine ⟨itemGood_of (by simpa using hbad x hx), ?_⟩
    have := hfar x hx
    simp only [itemFar, decide_eq_true_eq] at this
    omega
  clear V h hi hJ J hbad hfar
  obtain ⟨J, hJ⟩ : ∃ J, J = rpJ4 (kt, ke) l nl n f := ⟨_, rfl⟩
  refine ⟨[0, 8, 9], J, ⟨rfl, l.length, ?_⟩, ?_⟩
  · rw [hJ]
    subst hD
    exact ⟨0, 0, _, [], rfl, rfl, ⟨AtR.zero R.len, rfl, rfl, by simp, hl50.h⟩, hk⟩
  clear hk
  intro m vs hp' hv
  rw [hJ] at hv
  unfold rpJ4 at hv
  obtain ⟨i, I, t, out, rfl, rfl, V, hk⟩ := hv
  cbv
  refine br hD (fun h => ?_) (fun h => ?_) <;> cbv
  · have hlt := V.at_.lt R.n (of_decide_eq_true (p := I < n) h)
    clear h
    rw [dropR (d := ([], [])) hlt] at hk
    have hxl := hl.h (l.getD i ([], [])) (getD_memI hlt)
    have hxg := hg (l.getD i ([], [])) (getD_memI hlt)
    obtain ⟨xe, xf, e1, RX⟩ := R.f i
    obtain ⟨x, hx⟩ : ∃ x, x = l.getD i ([], []) := ⟨_, rfl⟩
    rw [← hx] at e1 RX hk hxl hxg
    obtain ⟨xv, xp⟩ := x
    have hsz := itemS_len hxg.1 hxg.2
    have htw := prR_tw (out := out) (x := (xv, xp)) (r := l.drop (i + 1))
    have hgo := prR_go (out := out) (x := (xv, xp)) (r := l.drop (i + 1))
    obtain ⟨xn, hxn⟩ : ∃ n : Int, n = (xp.length : Int) := ⟨_, rfl⟩
    simp only at e1 RX
    have hxl : LenX xv xp := ⟨hxl.1, hxl.2⟩
    have hxv : xv.length ≤ 64 := (token_plain hxg.1.tok).2.1
    rw [← hxn] at e1 RX
    clear hxn hx
    have hin := V.at_.inB hD R.n hlt
    have hVj := fun j2 (h2 : IsJ j2 (D.i (.a I))) => V.at_.j hD h2
    refine ⟨hin, fun j1 hj1 => ?_⟩
    have f1 : f j1 = [.str xv, .sl (.a xe) (.a xn) 2 xf] := by rw [hVj j1 hj1]; exact e1
    clear hj1
    cbv
    rw [f1]
    cbv
    refine ⟨xp, _, _, _, rfl, rfl, by subst hD; exact RX, fun tw htw2 => ?_⟩
    cbv
    refine br hD (fun h => ?_) (fun h => ?_) <;> cbv
    · have h : tw = true := h
      refine finSE hD ?_
      rw [hk, htw (by rw [← h, htw2]; rfl)]; rfl
    have h : tw = false := h
    rw [hgo (by rw [← h, htw2]; rfl)] at hk
    clear h htw2 htw hgo
    obtain ⟨ks, hks0⟩ : ∃ ks, ks = joinS (out ++ [itemS (xv, xp)]) := ⟨_, rfl⟩
    have hB : BK i ks := by
      refine ⟨by have h1 := V.at_.le; have h2 := V.l50; omega, ?_⟩
      have h1 := V.sz
      by_cases h0 : out = []
      · rw [hks0, h0]
        show (itemS (xv, xp)).length ≤ _
        omega
      · rw [hks0, joinS_snoc _ _ h0, ← V.t_]
        simp only [List.length_append, List.length_cons, List.length_nil]; omega
    refine br hD (fun h => ?_) (fun h => ?_) <;> cbv
    · have h0 : 0 < I := of_decide_eq_true h
      have hne : out ≠ [] := by intro e; have h1 := V.ol; have h2 := V.at_.I; rw [e] at h1; simp at h1; omega
      clear h h0
      have hsz := V.sz
      refine ⟨⟨by have h1 := hB.i; simp only [List.length_cons, List.length_nil]; omega⟩, fun u1 hu1 => ?_⟩
      have hu : joinS (out ++ [itemS (xv, xp)]) = u1 ++ itemS (xv, xp) := by rw [joinS_snoc _ _ hne, ← V.t_, hu1.h]
      have hU : Tb u1 (i * 25002 + 2) := ⟨by rw [hu1.h]; simp only [List.length_append, List.length_cons, List.length_nil]; omega, by have h1 := hB.i; omega⟩
      clear hu1 hne
      cbv
      have hks : ks = u1 ++ xv ++ parsS xp := by rw [hks0, hu, List.append_assoc]; rfl
      refine ⟨hin, fun j6 hj6 => ?_⟩
      have f6 : f j6 = [.str xv, .sl (.a xe) (.a xn) 2 xf] := by rw [hVj j6 hj6]; exact e1
      clear hj6
      cbv
      rw [f6]
      cbv
      refine ⟨⟨by have h1 := hU.h; have h2 := hU.b; omega⟩, fun v2 hv2 => ?_⟩
      have hT : Tb v2 (i * 25002 + 70) := ⟨by rw [hv2.h, List.length_append]; have h1 := hU.h; omega, by have h1 := hB.i; omega⟩
      have hks : ks = v2 ++ parsS xp := by rw [hks, hv2.h]
      clear hv2
      cbv
      obtain ⟨J5, hJ5⟩ : ∃ J, J = rpJ5 ks (i * 25002 + 70) xp nl n I f := ⟨_, rfl⟩
      refine ⟨[0, 8, 9, 10], J5, ⟨rfl, xp.length, ?_⟩, ?_⟩
      · rw [hJ5]
        subst hD
        exact ⟨0, 0, _, rfl, rfl, ⟨AtR.zero RX.len, by simpa using hT.h, hT.b, hxg.2⟩, hks⟩
      clear hks hT
      intro m2 vs2 hp2 hv2
      rw [hJ5] at hv2
      unfold rpJ5 at hv2
      obtain ⟨a, I2, t, rfl, rfl, W, hks⟩ := hv2
      cbv
      refine ⟨hin, fun j3 hj3 => ?_⟩
      have f3 : f j3 = [.str xv, .sl (.a xe) (.a xn) 2 xf] := by rw [hVj j3 hj3]; exact e1
      clear hj3
      cbv
      rw [f3]
      cbv
      refine br hD (fun h => ?_) (fun h => ?_) <;> cbv
      · have hlt2 := W.at_.lt RX.n (of_decide_eq_true (p := I2 < xn) h)
        clear h
        have hin2 := W.at_.inB hD RX.n hlt2
        have hWj := fun j2 (h2 : IsJ j2 (D.i (.a I2))) => W.at_.j hD h2
        rw [dropR (d := ([], [])) hlt2] at hks
        have e2 := RX.f a hlt2
        have hmem : xp.getD a ([], []) ∈ xp := by rw [List.getD_eq_getElem?_getD, List.getElem?_eq_getElem hlt2]; exact List.getElem_mem hlt2
        have hpg := hxg.1.par _ hmem
        have hpl := hxl.p _ hmem
        obtain ⟨p, hp⟩ : ∃ p, p = xp.getD a ([], []) := ⟨_, rfl⟩
        rw [← hp] at e2 hks hpg hpl
        clear hmem hp
        obtain ⟨pn, pv⟩ := p
        have hpt : pn.length ≤ 64 := (token_plain hpg.tok).2.1
        have hql := quote_len pv
        have hks : ks = t ++ ([59] ++ pn ++ [61] ++ (refQuoteF pv).1) ++ parsS (xp.drop (a + 1)) := by
          rw [hks]
          show t ++ (parS (pn, pv) ++ parsS (xp.drop (a + 1))) = _
          simp [parS, parV]
        simp only at e2 hpl
        have hpl := hpl.2
        refine ⟨hin, fun j4 hj4 => ?_⟩
        have f4 : f j4 = [.str xv, .sl (.a xe) (.a xn) 2 xf] := by rw [hVj j4 hj4]; exact e1
        clear hj4
        cbv
        rw [f4]
        cbv
        refine ⟨hin2, fun b1 hb1 => ?_⟩
        have g1 : xf b1 = [.str pn, .str pv] := by rw [hWj b1 hb1]; exact e2
        clear hb1
        cbv
        rw [g1]
        cbv
        refine ⟨pv, rfl, rfl, hpl, fun q e hq => ?_⟩
        rw [← hq] at hks hql
        simp only at hks hql
        clear hq
        cbv
        have tl : TL2 t (i * 25002 + 70) a xp := ⟨W.tl, W.bl, W.p20, hlt2⟩
        refine ⟨⟨by have h1 := tl.t; have h2 := tl.p; have h3 := tl.b; have h4 := tl.B; simp only [List.length_singleton]; omega⟩, fun r1 hr1 => ?_⟩
        have l1 : r1.length = t.length + 1 := by rw [hr1.h]; simp only [List.length_append, List.length_singleton]
        cbv
        refine ⟨hin, fun j5 hj5 => ?_⟩
        have f5 : f j5 = [.str xv, .sl (.a xe) (.a xn) 2 xf] := by rw [hVj j5 hj5]; exact e1
        clear hj5
        cbv
        rw [f5]
        cbv
        refine ⟨hin2, fun b2 hb2 => ?_⟩
        have g2 : xf b2 = [.str pn, .str pv] := by rw [hWj b2 hb2]; exact e2
        clear hb2
        cbv
        rw [g2]
        cbv
        refine ⟨⟨by have h1 := tl.t; have h2 := tl.p; have h3 := tl.b; have h4 := tl.B; omega⟩, fun r2 hr2 => ?_⟩
        have l2 : r2.length ≤ t.length + 65 := by rw [hr2.h]; simp only [List.length_append]; omega
        cbv
        refine ⟨⟨by have h1 := tl.t; have h2 := tl.p; have h3 := tl.b; have h4 := tl.B; simp only [List.length_singleton]; omega⟩, fun r3 hr3 => ?_⟩
        have l3 : r3.length ≤ t.length + 66 := by rw [hr3.h]; simp only [List.length_append, List.length_singleton]; omega
        cbv
        refine ⟨⟨by have h1 := tl.t; have h2 := tl.p; have h3 := tl.b; have h4 := tl.B; omega⟩, fun r4 hr4 => ?_⟩
        have l4 : r4.length ≤ (i * 25002 + 70) + (a + 1) * 1100 := by rw [hr4.h]; have h1 := tl.t; simp only [List.length_append]; omega
        have e4 : ks = r4 ++ parsS (xp.drop (a + 1)) := by rw [hks, hr4.h, hr3.h, hr2.h, hr1.h]; simp
        clear hr1 hr2 hr3 hr4 l1 l2 l3 hks
        cbv
        refine ⟨xp.length - (a + 1), (W.at_.step hD hlt2).1, ?_⟩
        rw [hJ5]
        subst hD
        exact ⟨a + 1, _, r4, rfl, rfl, ⟨(W.at_.step rfl hlt2).2, l4, W.bl, W.p20⟩, e4⟩
      · have hi2 := W.at_.eq RX.n (of_decide_eq_false (p := I2 < xn) h)
        clear h
        rw [hi2, List.drop_length] at hks
        have hks : ks = t := by rw [hks]; show t ++ [] = t; simp
        subst hks
        clear W hi2
        refine ⟨l.length - (i + 1), (V.at_.step hD hlt).1, ?_⟩
        rw [hJ]
        subst hD
        exact ⟨i + 1, _, _, out ++ [itemS (xv, xp)], rfl, rfl, ⟨(V.at_.step rfl hlt).2, by rw [List.length_append, V.ol]; rfl, hks0, hB.k, V.l50⟩, hk⟩
    · have h0 : ¬ 0 < I := of_decide_eq_false h
      have hne : out = [] := by
        have h1 := V.ol; have h2 := V.at_.I
        exact List.eq_nil_of_length_eq_zero (by omega)
      have hu : joinS (out ++ [itemS (xv, xp)]) = t ++ itemS (xv, xp) := join_first V.t_ hne _
      have hU : Tb t (i * 25002 + 2) := ⟨Nat.le_trans V.sz (Nat.le_add_right _ _), by have h1 := hB.i; omega⟩
      clear h h0 hne
      have hks : ks = t ++ xv ++ parsS xp := by rw [hks0, hu, List.append_assoc]; rfl
      refine ⟨hin, fun j6 hj6 => ?_⟩
      have f6 : f j6 = [.str xv, .sl (.a xe) (.a xn) 2 xf] := by rw [hVj j6 hj6]; exact e1
      clear hj6
      cbv
      rw [f6]
      cbv
      refine ⟨⟨by have h1 := hU.h; have h2 := hU.b; omega⟩, fun v2 hv2 => ?_⟩
      have hT : Tb v2 (i * 25002 + 70) := ⟨by rw [hv2.h, List.length_append]; have h1 := hU.h; omega, by have h1 := hB.i; omega⟩
      have hks : ks = v2 ++ parsS xp := by rw [hks, hv2.h]
      clear hv2
      cbv
      obtain ⟨J5, hJ5⟩ : ∃ J, J = rpJ5 ks (i * 25002 + 70) xp nl n I f := ⟨_, rfl⟩
      refine ⟨[0, 8, 9, 10], J5, ⟨rfl, xp.length, ?_⟩, ?_⟩
      · rw [hJ5]
        subst hD
        exact ⟨0, 0, _, rfl, rfl, ⟨AtR.zero RX.len, by simpa using hT.h, hT.b, hxg.2⟩, hks⟩
      clear hks hT
      intro m2 vs2 hp2 hv2
      rw [hJ5] at hv2
      unfold rpJ5 at hv2
      obtain ⟨a, I2, t, rfl, rfl, W, hks⟩ := hv2
      cbv
      refine ⟨hin, fun j3 hj3 => ?_⟩
      have f3 : f j3 = [.str xv, .sl (.a xe) (.a xn) 2 xf] := by rw [hVj j3 hj3]; exact e1
      clear hj3
      cbv
      rw [f3]
      cbv
      refine br hD (fun h => ?_) (fun h => ?_) <;> cbv
      · have hlt2 := W.at_.lt RX.n (of_decide_eq_true (p := I2 < xn) h)
        clear h
        have hin2 := W.at_.inB hD RX.n hlt2
        have hWj := fun j2 (h2 : IsJ j2 (D.i (.a I2))) => W.at_.j hD h2
        rw [dropR (d := ([], [])) hlt2] at hks
        have e2 := RX.f a hlt2
        have hmem : xp.getD a ([], []) ∈ xp := by rw [List.getD_eq_getElem?_getD, List.getElem?_eq_getElem hlt2]; exact List.getElem_mem hlt2
        have hpg := hxg.1.par _ hmem
        have hpl := hxl.p _ hmem
        obtain ⟨p, hp⟩ : ∃ p, p = xp.getD a ([], []) := ⟨_, rfl⟩
        rw [← hp] at e2 hks hpg hpl
        clear hmem hp
        obtain ⟨pn, pv⟩ := p
        have hpt : pn.length ≤ 64 := (token_plain hpg.tok).2.1
        have hql := quote_len pv
        have hks : ks = t ++ ([59] ++ pn ++ [61] ++ (refQuoteF pv).1) ++ parsS (xp.drop (a + 1)) := by
          rw [hks]
          show t ++ (parS (pn, pv) ++ parsS (xp.drop (a + 1))) = _
          simp [parS, parV]
        simp only at e2 hpl
        have hpl := hpl.2
        refine ⟨hin, fun j4 hj4 => ?_⟩
        have f4 : f j4 = [.str xv, .sl (.a xe) (.a xn) 2 xf] := by rw [hVj j4 hj4]; exact e1
        clear hj4
        cbv
        rw [f4]
        cbv
        refine ⟨hin2, fun b1 hb1 => ?_⟩
        have g1 : xf b1 = [.str pn, .str pv] := by rw [hWj b1 hb1]; exact e2
        clear hb1
        cbv
        rw [g1]
        cbv
        refine ⟨pv, rfl, rfl, hpl, fun q e hq => ?_⟩
        rw [← hq] at hks hql
        simp only at hks hql
        clear hq
        cbv
        have tl : TL2 t (i * 25002 + 70) a xp := ⟨W.tl, W.bl, W.p20, hlt2⟩
        refine ⟨⟨by have h1 := tl.t; have h2 := tl.p; have h3 := tl.b; have h4 := tl.B; simp only [List.length_singleton]; omega⟩, fun r1 hr1 => ?_⟩
        have l1 : r1.length = t.length + 1 := by rw [hr1.h]; simp only [List.length_append, List.length_singleton]
        cbv
        refine ⟨hin, fun j5 hj5 => ?_⟩
        have f5 : f j5 = [.str xv, .sl (.a xe) (.a xn) 2 xf] := by rw [hVj j5 hj5]; exact e1
        clear hj5
        cbv
        rw [f5]
        cbv
        refine ⟨hin2, fun b2 hb2 => ?_⟩
        have g2 : xf b2 = [.str pn, .str pv] := by rw [hWj b2 hb2]; exact e2
        clear hb2
        cbv
        rw [g2]
        cbv
        refine ⟨⟨by have h1 := tl.t; have h2 := tl.p; have h3 := tl.b; have h4 := tl.B; omega⟩, fun r2 hr2 => ?_⟩
        have l2 : r2.length ≤ t.length + 65 := by rw [hr2.h]; simp only [List.length_append]; omega
        cbv
        refine ⟨⟨by have h1 := tl.t; have h2 := tl.p; have h3 := tl.b; have h4 := tl.B; simp only [List.length_singleton]; omega⟩, fun r3 hr3 => ?_⟩
        have l3 : r3.length ≤ t.length + 66 := by rw [hr3.h]; simp only [List.length_append, List.length_singleton]; omega
        cbv
        refine ⟨⟨by have h1 := tl.t; have h2 := tl.p; have h3 := tl.b; have h4 := tl.B; omega⟩, fun r4 hr4 => ?_⟩
        have l4 : r4.length ≤ (i * 25002 + 70) + (a + 1) * 1100 := by rw [hr4.h]; have h1 := tl.t; simp only [List.length_append]; omega
        have e4 : ks = r4 ++ parsS (xp.drop (a + 1)) := by rw [hks, hr4.h, hr3.h, hr2.h, hr1.h]; simp
        clear hr1 hr2 hr3 hr4 l1 l2 l3 hks
        cbv
        refine ⟨xp.length - (a + 1), (W.at_.step hD hlt2).1, ?_⟩
        rw [hJ5]
        subst hD
        exact ⟨a + 1, _, r4, rfl, rfl, ⟨(W.at_.step rfl hlt2).2, l4, W.bl, W.p20⟩, e4⟩
      · have hi2 := W.at_.eq RX.n (of_decide_eq_false (p := I2 < xn) h)
        clear h
        rw [hi2, List.drop_length] at hks
        have hks : ks = t := by rw [hks]; show t ++ [] = t; simp
        subst hks
        clear W hi2
        refine ⟨l.length - (i + 1), (V.at_.step hD hlt).1, ?_⟩
        rw [hJ]
        subst hD
        exact ⟨i + 1, _, _, out ++ [itemS (xv, xp)], rfl, rfl, ⟨(V.at_.step rfl hlt).2, by rw [List.length_append, V.ol]; rfl, hks0, hB.k, V.l50⟩, hk⟩
  · have hi := V.at_.eq R.n (of_decide_eq_false (p := I < n) h)
    clear h
    rw [hi, List.drop_length, prR_end, lenC, ← V.t_] at hk
    refine br hD (fun h => ?_) (fun h => ?_) <;> cbv
    · have h : decide (2000 < (t.length : Int)) = true := h
      rw [if_pos (by simpa using h)] at hk
      exact finSE hD hk
    · have h : decide (2000 < (t.length : Int)) = false := h
      rw [if_neg (by simpa using h)] at hk
      exact finSE hD hk
end Go.Proofs.YtfchfhjpldppjaaGreatDoor
namespace Go.Proofs.YtfchfhjpldppjaaGreatDoor
open Go.Sx
set_option maxRecDepth 10000
set_option maxHeartbeats 8000000
/-! TokensPrints: the law. -/
theorem printF_len {l : List Item} {t : List UInt8} {e : Int} (h : (t, e) = printF l) : t.length ≤ 2000 := by
  unfold printF at h
  split at h
  · cases h; simp
  · split at h
    · cases h; simp
    · split at h
      · cases h; simp
      · split at h
        · cases h; simp
        · split at h
          · cases h; simp
          · cases h; omega
def spLaw10 : FSpec := fun _ xs ls K => ∃ (l : List Item) (nl : Bool) (n : Int) (f : Nat → List SV), xs = [.sl (.a nl) (.a n) 2 f] ∧ ls = [] ∧ RowIX f n l ∧ LenI l ∧ ∀ r : Bool, r = true → K (.bool (.a r)) []
theorem tokensPrints_ok : FnOk Tryz.prog gl 10 spLaw10 := by
  refine fnOk (gh := []) mixed cxOk (tabCons far_ok (tabCons print_ok (tabCons refPrint_ok (tabCons items_ok (tabCons sameX_ok (tabCons awake_ok tabNil)))))) Tryz.func10 (by kernel_rfl) (by kernel_rfl) ?_
  intro xs ls K h
  unfold spLaw10 at h
  obtain ⟨l, nl, n, f, rfl, rfl, R, hl, h⟩ := h
  refine ⟨_, _, h true rfl, fun D hD => ?_⟩
  clear h
  cbv
  refine ⟨l, _, _, _, rfl, rfl, by subst hD; exact R, fun r hr => ?_⟩
  clear hr
  cbv
  refine br hD (fun h => ?_) (fun h => ?_) <;> cbv
  · intro w hw
    cbv
    exact finBool hD hw
  clear h
  refine ⟨l, _, _, _, rfl, rfl, by subst hD; exact R, hl, fun t e ht => ?_⟩
  cbv
  refine ⟨l, _, _, _, rfl, rfl, by subst hD; exact R, hl, fun t2 e2 ht2 => ?_⟩
  obtain ⟨rfl, rfl⟩ : t2 = t ∧ e2 = e := by have := ht2.trans ht.symm; cases this; exact ⟨rfl, rfl⟩
  clear ht2
  cbv
  refine br hD (fun h => ?_) (fun h => ?_) <;> cbv
  · have h : (!(t2 == t2) || e2 != e2) = true := h
    simp at h
  clear h
  refine br hD (fun h => ?_) (fun h => ?_) <;> cbv
  · have h : (e2 == 0) = true := h
    obtain rfl : e2 = 0 := by simpa using h
    clear h
    have hit := items_print ht
    have htl := printF_len ht
    refine ⟨t2, rfl, rfl, by omega, fun l3 e3 n3 nb3 g3 he3 hn3 hnb3 hg3 => ?_⟩
    rw [hit] at he3
    obtain ⟨rfl, rfl⟩ : l3 = l ∧ e3 = 0 := by cases he3; exact ⟨rfl, rfl⟩
    have R3 : RowIX g3 n3 l3 := by
      refine RowIT.toX ⟨hn3, fun i => by rw [hg3]; rfl, R.len, fun x hx => ?_⟩
      obtain ⟨i, hi, rfl⟩ := List.mem_iff_getElem.1 hx
      obtain ⟨_, _, _, RX⟩ := R.f i
      have := RX.len
      rw [List.getD_eq_getElem?_getD, List.getElem?_eq_getElem hi] at this
      exact this
    clear hn3 hnb3 hg3 he3 hit htl
    cbv
    refine ⟨l3, l3, _, _, _, _, _, _, rfl, rfl, by subst hD; exact R, by subst hD; exact R3, fun b hb => ?_⟩
    have hb : b = true := by rw [hb]; simp
    subst hb
    cbv
    refine br hD (fun h => ?_) (fun h => ?_) <;> cbv
    · have h : (!true || ((0 : Int) != 0)) = true := h
      simp at h
    clear h
    intro w hw
    cbv
    exact finBool hD hw
  · intro w hw
    cbv
    exact finBool hD hw
end Go.Proofs.YtfchfhjpldppjaaGreatDoor
/- Slices with the bound of their length. -/
namespace Go.Sx
open Go Go.ChangeShapes Go.WideShapes Go.RowKit
section
variable {P : Program}
theorem OpenT.sliceL {t e : TypeId} {α : Type} {sz : Nat} {enc : α → List SV} (ht : P.underlying t = some (.slice e)) (hz : P.cellsOf e = sz) (h0 : 0 < sz) (he : OpenT P e enc) : OpenT P t (fun x : {x : Bool × List α // x.2.length ≤ maxLen} => slC sz enc x.1) := by
  intro H tok W spare held fuel cs x h
  rcases DataW.trod_slice ht h with ⟨rfl, _⟩ | ⟨a, len, cap, elems, rest, n, _, rfl, _, _, hle, hcap, hlen, hel, _, _⟩
  · exact ⟨⟨(true, []), Nat.zero_le _⟩, .one (.slnil rfl rfl) rfl⟩
  · rw [hz] at hel
    have key : ∀ i, i < len → ∃ (al : α) (vs : List Value), ROL (oldI W) W (enc al) vs ∧ vs.length = sz ∧ ∀ j, j < sz → W.cell? ((a.add (i * sz)).add j) = vs[j]? := by
      intro i hi
      have h1 := hel i hi
      rw [List.getElem?_eq_getElem (by omega)] at h1
      cases hc : W.cells? 0 (a.add (i * sz)) sz with
      | none => rw [hc] at h1; cases h1
      | some vs =>
        rw [hc] at h1
        obtain ⟨al, hal⟩ := he H tok W _ _ _ vs _ h1
        have hg := cells_get hc
        exact ⟨al, vs, hal, hg.1, hg.2⟩
    have gen : ∀ len : Nat, (∀ i, i < len → ∃ (al : α) (vs : List Value), ROL (oldI W) W (enc al) vs ∧ vs.length = sz ∧ ∀ j, j < sz → W.cell? ((a.add (i * sz)).add j) = vs[j]?) → ∃ (l : List α) (g : Nat → Nat → Value), l.length = len ∧ ∀ i al, l[i]? = some al → (enc al).length = sz ∧ (∀ j, j < sz → W.cell? ((a.add (i * sz)).add j) = some (g i j) ∧ (g i j).oneCell' = true) ∧ ∀ j s, (enc al)[j]? = some s → RO (oldI W) W s (g i j) := by
      clear key hel hlen hcap hle h
      intro len key
      induction len with
      | zero => exact ⟨[], fun _ _ => undef, rfl, by simp⟩
      | succ len ih =>
        obtain ⟨l, g, hl, hg⟩ := ih (fun i hi => key i (by omega))
        obtain ⟨al, vs, k1, k2, k3⟩ := key len (by omega)
        refine ⟨l ++ [al], fun i j => if i = len then vs.getD j undef else g i j, by simp [hl], fun i al' hi => ?_⟩
        rw [List.getElem?_append] at hi
        split at hi
        · rename_i hlt
          have hne : i ≠ len := by omega
          obtain ⟨g1, g2, g3⟩ := hg i al' hi
          exact ⟨g1, fun j hj => by simpa only [if_neg hne] using g2 j hj, fun j s hs => by simpa only [if_neg hne] using g3 j s hs⟩
        · rename_i hlt
          have hil : i = len := by
            have := (List.getElem?_eq_some_iff.1 hi).1
            simp at this; omega
          subst hil
          have h00 : i - l.length = 0 := by omega
          rw [h00] at hi
          simp at hi
          subst hi
          refine ⟨by rw [k1.1, k2], fun j hj => ?_, fun j s hs => ?_⟩
          · simp only [if_pos]
            have hjv : vs[j]? = some vs[j] := List.getElem?_eq_getElem (by omega)
            rw [k3 j hj, hjv]
            simp only [List.getD_eq_getElem?_getD, hjv, Option.getD_some, true_and]
            exact k1.2.2 _ (List.getElem_mem _)
          · simp only [if_pos]
            have hjl : j < vs.length := by rw [← k1.1]; exact (List.getElem?_eq_some_iff.1 hs).1
            have hjv : vs[j]? = some vs[j] := List.getElem?_eq_getElem hjl
            simp only [List.getD_eq_getElem?_getD, hjv, Option.getD_some]
            exact k1.2.1 j s _ hs hjv
    obtain ⟨l, g, hl, hg⟩ := gen len key
    have hspot : 0 < len → a.spot = none := fun hpos => by
      obtain ⟨al, hal⟩ : ∃ al, l[0]? = some al := ⟨_, List.getElem?_eq_getElem (by omega)⟩
      obtain ⟨_, g2, _⟩ := hg 0 al hal
      have := (g2 0 h0).1
      obtain ⟨b, o, sp⟩ := a
      simp only [Nat.zero_mul, Addr.add, if_pos] at this
      exact (cell_lt this).2
    refine ⟨⟨(false, l), by simp only [hl]; omega⟩, .one (.sl g rfl (by simp [ST.den, hl]) hle hcap hspot (fun i hi => ?_) (fun i j hi hj => ?_) (fun i j hi hj => ?_) (fun i j s hi hs => ?_)) rfl⟩
    · obtain ⟨al, hal⟩ : ∃ al, l[i]? = some al := ⟨_, List.getElem?_eq_getElem (by omega)⟩
      simp only [rowOfL, hal]
      exact (hg i al hal).1
    · obtain ⟨al, hal⟩ : ∃ al, l[i]? = some al := ⟨_, List.getElem?_eq_getElem (by omega)⟩
      exact ((hg i al hal).2.1 j hj).2
    · obtain ⟨al, hal⟩ : ∃ al, l[i]? = some al := ⟨_, List.getElem?_eq_getElem (by omega)⟩
      have hc := ((hg i al hal).2.1 j hj).1
      have e : (a.add (i * sz)).add j = ⟨a.block, a.off + (i * sz + j), none⟩ := by
        have hs := hspot (by omega)
        obtain ⟨b, o, sp⟩ := a
        simp only at hs
        subst hs
        simp only [add_lit]
        congr 1
        omega
      rw [e] at hc
      exact ⟨hc, (cell_lt hc).1⟩
    · obtain ⟨al, hal⟩ : ∃ al, l[i]? = some al := ⟨_, List.getElem?_eq_getElem (by omega)⟩
      simp only [rowOfL, hal] at hs
      exact (hg i al hal).2.2 j s hs

end
end Go.Sx
namespace Go.Proofs.YtfchfhjpldppjaaGreatDoor
open Go Go.Sx Go.ChangeShapes Go.WideShapes Go.RowKit
set_option maxRecDepth 100000
/-! An argument of items. -/
abbrev StD := {s : List UInt8 // s.length ≤ maxLen}
abbrev ParD := StD × StD × Unit
def parC (x : ParD) : List SV := [.str x.1.1] ++ ([.str x.2.1.1] ++ [])
abbrev ParsD := {x : Bool × List ParD // x.2.length ≤ maxLen}
abbrev ItemD := StD × ParsD × Unit
def itemC (x : ItemD) : List SV := [.str x.1.1] ++ (slC 2 parC x.2.1.1 ++ [])
theorem open53 : OpenT Tryz.prog 53 parC := .struct (fs := [(0, 9), (1, 9)]) (len := 2) Tryz.underlying53 (by rfl) (by kernel_rfl) (OpenF.cons 0 1 1 (by kernel_rfl) open9 (OpenF.cons 1 1 0 (by kernel_rfl) open9 OpenF.nil))
theorem open47 : OpenT Tryz.prog 47 (fun x : ParsD => slC 2 parC x.1) := .sliceL Tryz.underlying47 (by kernel_rfl) (by decide) open53
theorem open49 : OpenT Tryz.prog 49 itemC := .struct (fs := [(0, 9), (1, 47)]) (len := 2) Tryz.underlying49 (by rfl) (by kernel_rfl) (OpenF.cons 0 1 1 (by kernel_rfl) open9 (OpenF.cons 1 1 0 (by kernel_rfl) open47 OpenF.nil))
theorem open35 : OpenT Tryz.prog 35 (fun x : {x : Bool × List ItemD // x.2.length ≤ maxLen} => slC 2 itemC x.1) := .sliceL Tryz.underlying35 (by kernel_rfl) (by decide) open49
def parOf (x : ParD) : Par := (x.1.1, x.2.1.1)
def itemOf (x : ItemD) : Item := (x.1.1, x.2.1.1.2.map parOf)
/-- Rows that are known as far as they go. -/
structure RowIY (f : Nat → List SV) (n : Int) (a : List Item) : Prop where
  n : n = a.length
  f : ∀ i, i < a.length → ∃ (e : Bool) (pf : Nat → List SV), f i = [.str (a.getD i ([], [])).1, .sl (.a e) (.a ((a.getD i ([], [])).2.length : Int)) 2 pf] ∧ RowP pf ((a.getD i ([], [])).2.length : Int) (a.getD i ([], [])).2
  len : a.length ≤ 9223372036854775807
def spLaw10D : FSpec := fun _ xs ls K => ∃ (l : List Item) (nl : Bool) (n : Int) (f : Nat → List SV), xs = [.sl (.a nl) (.a n) 2 f] ∧ ls = [] ∧ RowIY f n l ∧ LenI l ∧ ∀ r : Bool, r = true → K (.bool (.a r)) []
theorem tokensPrints_okD : FnOk Tryz.prog gl 10 spLaw10D := by
  refine ⟨tokensPrints_ok.1, fun xs ls K h => ?_⟩
  obtain ⟨l, nl, n, f, rfl, rfl, R, hl, h⟩ := h
  obtain ⟨F, hF⟩ : ∃ F : Nat → List SV, F = fun i => if i < l.length then f i else [.str [], .sl (.a true) (.a 0) 2 fun _ => []] := ⟨_, rfl⟩
  have RX : RowIX F n l := by
    refine ⟨R.n, fun i => ?_, R.len⟩
    by_cases hi : i < l.length
    · obtain ⟨e, pf, h1, h2⟩ := R.f i hi
      exact ⟨e, pf, by rw [hF]; simp only [if_pos hi]; exact h1, h2⟩
    · refine ⟨true, fun _ => [], ?_, ?_⟩
      · rw [hF]; simp only [if_neg hi]
        rw [List.getD_eq_getElem?_getD, List.getElem?_eq_none (by omega)]; rfl
      · rw [List.getD_eq_getElem?_getD, List.getElem?_eq_none (by omega)]
        exact RowP.nil
  obtain ⟨r, ls', hK, hc⟩ := tokensPrints_ok.2 [.sl (.a nl) (.a n) 2 F] [] K ⟨l, nl, n, F, rfl, rfl, RX, hl, h⟩
  refine ⟨r, ls', hK, callsTo_leL (LeL.cons (.sl rfl rfl fun i hi => ?_) LeL.nil) hc⟩
  have hi : (i : Int) < n := hi
  have hi : i < l.length := by have := R.n; omega
  rw [hF]; simp only [if_pos hi]
theorem strD_fit (x : StD) : x.1.length ≤ 9223372036854775807 := Nat.le_trans x.2 (by decide)
theorem rowP_of (l : List ParD) (h : l.length ≤ maxLen) : RowP (rowOfL parC l) ((l.map parOf).length : Int) (l.map parOf) := by
  refine ⟨rfl, fun i hi => ?_, by rw [List.length_map]; exact Nat.le_trans h (by decide)⟩
  rw [List.length_map] at hi
  unfold rowOfL
  rw [List.getElem?_eq_getElem hi, List.getD_eq_getElem?_getD, List.getElem?_map, List.getElem?_eq_getElem hi]; rfl
theorem rowIY_of (l : List ItemD) (h : l.length ≤ maxLen) : RowIY (rowOfL itemC l) (l.length : Int) (l.map itemOf) := by
  refine ⟨by rw [List.length_map], fun i hi => ?_, by rw [List.length_map]; exact Nat.le_trans h (by decide)⟩
  rw [List.length_map] at hi
  rw [List.getD_eq_getElem?_getD, List.getElem?_map, List.getElem?_eq_getElem hi]
  refine ⟨l[i].2.1.1.1, rowOfL parC l[i].2.1.1.2, ?_, rowP_of _ l[i].2.1.2⟩
  unfold rowOfL
  rw [List.getElem?_eq_getElem hi]
  show itemC l[i] = [.str (itemOf l[i]).1, .sl (.a l[i].2.1.1.1) (.a ((itemOf l[i]).2.length : Int)) 2 (rowOfL parC l[i].2.1.1.2)]
  rw [show ((itemOf l[i]).2.length : Int) = (l[i].2.1.1.2.length : Int) by unfold itemOf; rw [List.length_map]]
  rfl
theorem lenI_of (l : List ItemD) : LenI (l.map itemOf) := by
  refine ⟨fun x hx => ?_⟩
  obtain ⟨y, _, rfl⟩ := List.mem_map.1 hx
  refine ⟨strD_fit y.1, fun p hp => ?_⟩
  obtain ⟨q, _, rfl⟩ := List.mem_map.1 hp
  exact ⟨strD_fit q.1, strD_fit q.2.1⟩
end Go.Proofs.YtfchfhjpldppjaaGreatDoor
namespace Go.Proofs.YtfchfhjpldppjaaGreatDoor
open Go Go.Sx Go.ChangeShapes Go.WideShapes Go.RowKit
set_option maxRecDepth 100000
/-! TokensPrints: from the function's contract to the card. -/
theorem tokensPrints_lifted (os : Os) (started : os.Started) (H : Type) (enc : TypeId × Value → H) :
    ReturnsInHanded {} Tryz.checked os 10 .any (fun w args => (Rows.tokensPrintsSpec.pre enc Tryz.prog Tryz.f10 [] false w args ∧ laidMetH Tryz.prog laidV w) ∧ sizedMet enc Tryz.prog Tryz.f10 (OpenSpec.ofChange Rows.tokensPrintsSpec) false w args)
      (Rows.tokensPrintsSpec.post enc Tryz.prog Tryz.f10 false true false false) := by
  refine returnsInHanded_of_change_and (C := Tryz.checked) (X := fun w _ => laidMetH Tryz.prog laidV w) (fun _ _ _ hh h => h.of_heap hh) kOwn started (by kernel_rfl) Tryz.func10
    (ChangeSpec.witness_shaped (enc := enc) (C := Tryz.checked) (os := os) (X := fun w _ => laidMetH Tryz.prog laidV w) false (World.laidAll Tryz.prog os laidV) #[.slice none 0 0] 8 (World.laidAll_os _ _ _) (World.shaped_of_ZipB (by kernel_rfl) (by kernel_rfl)) (by kernel_rfl) (by kernel_rfl) (by kernel_rfl) (door_met os _)) ?_
  intro W base args ds gs before hval0 hW _ _ hL _
  have hval : ∀ (j : Nat) t v, Tryz.f10.params[j]? = some t → args[j]? = some v → Value.okWide Tryz.prog W .any base t v := hval0
  obtain ⟨p, q, hA, hV, _⟩ := id hW
  have hA' : DataW.TrodAll enc Tryz.prog W 0 (fun _ => true) true Tryz.f10.params.toList args.toList ds p := hA
  rw [Tryz.params10] at hA' hval
  obtain ⟨v0, d0, rfl, rfl, h0⟩ := trodAll_one hA'
  obtain ⟨fuel0, h0⟩ := h0
  obtain ⟨x0, hx0⟩ := open35 H enc W _ _ _ _ _ h0
  have r0 := arg_slice Tryz.underlying35 (hval 0 35 v0 rfl rfl) hx0
  obtain ⟨r, ls', hK, hcalls⟩ := tokensPrints_okD.2 [(slC 2 itemC x0.1).headD .nilp] [] (fun r ls => r = .bool (.a true) ∧ ls = []) ⟨x0.1.2.map itemOf, _, _, _, rfl, rfl, rowIY_of x0.1.2 x0.2, lenI_of x0.1.2, fun r hr => ⟨by rw [hr], rfl⟩⟩
  obtain ⟨rfl, rfl⟩ := hK
  have hrun := law_run (W := W) (args := [v0]) hcalls gl_of rfl (ro1 r0)
  refine hrun.mono fun e W' hq => ⟨_, hq.1, law_post kLaidOut (tb := 4) ?_ rfl (by kernel_rfl) Tryz.underlying4 hW ?_ hq.2⟩
  · rw [Tryz.params10]
    intro t ht
    have hall : ([35].all fun t => Tryz.prog.readableRec t && decide (t < Tryz.prog.types.size)) = true := by kernel_rfl
    have := List.all_eq_true.1 hall t (by simpa using ht)
    simpa using this
  · have hg : gs = [] := (trodVars_none hV).1
    subst hg
    rfl
theorem tokensPrints_said : Rows.TokensPrintsSaid :=
  OpenClaim.holds_of_wide 10 Tryz.f10 rfl rfl rfl rfl rfl rfl rfl ⟨rfl, rfl, rfl, rfl, rfl⟩ rfl rfl rfl rfl rfl (by kernel_rfl) Tryz.func10 (by kernel_rfl)
    (of_decide_eq_true (by kernel_rfl)) (by unfold Func.isWrapper; first | (rw [if_pos (by decide +kernel)]; kernel_rfl) | (rw [if_neg (by decide +kernel)]; exact ⟨rfl, rfl⟩))
    (fun os started H enc _ => tokensPrints_lifted os started H enc)
theorem tokensPrints_holds : Rows.TokensPrintsCardSaid :=
  Claim7.holds_tied_plain_at .later [] [.data, .data, .data, .data, .sentinel, .sentinel, .pinned] true (true, "949d5a32386bb23fb42fe4a0dca874791432354f7fa039f85fcf54673b706a44") true
    tokensPrints_said (fun _ h => by cases h) (by kernel_rfl) (fun _ h => by cases h) tokensPrints_row_tie rfl ⟨rfl, rfl⟩ (by kernel_rfl) rfl
    (fun f fn hf hfn => by
      obtain rfl : f = 10 := Option.some.inj ((show Tryz.prog.funcNamed "spillway/spillwaylaw05.TokensPrints" = some 10 by kernel_rfl).symm.trans hf) |>.symm
      obtain rfl : fn = Tryz.f10 := (Option.some.inj (Tryz.func10.symm.trans hfn)).symm
      exact ⟨by kernel_rfl, fun j t ht => by
        rw [Tryz.params10] at ht
        have hm : t ∈ [35] := by simpa using Array.mem_of_getElem? ht
        have hall : ([35].all fun u => !Tryz.prog.wantsStandIn u) = true := by kernel_rfl
        exact (show Tryz.prog.wantsStandIn t = false by simpa using List.all_eq_true.1 hall t hm)⟩)
    (by kernel_rfl)
end Go.Proofs.YtfchfhjpldppjaaGreatDoor
