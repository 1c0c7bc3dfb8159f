/- Part of the proofs of the statements about tokens (layer 5): contracts of functions; it has no conditions of its own. -/
import Derived.Test.YtfchfhjpldppjaaGreatDoorCards
import Derived.Test.YtfchfhjpldppjaaGreatDoorTie
import Derived.LaidLaws
import Derived.LaidHandle
import Derived.LaidMore
import Derived.Lay
import Derived.Stop.Joined
import Derived.Test.YtfchfhjpldppjaaGreatDoorTd
import Derived.Test.YtfchfhjpldppjaaGreatDoorTe
import Derived.Test.YtfchfhjpldppjaaGreatDoorSc
import Derived.Test.YtfchfhjpldppjaaGreatDoorTa
namespace Go.Proofs.YtfchfhjpldppjaaGreatDoor
open Go.Sx
set_option maxRecDepth 10000
set_option maxHeartbeats 4000000
/-! Same. -/
structure RowIT (f : Nat → List SV) (n : Int) (a : List Item) : Prop where
  n : n = a.length
  f : ∀ i, f i = itemSV (a.getD i ([], []))
  len : a.length ≤ 9223372036854775807
  par : ∀ x ∈ a, x.2.length ≤ 9223372036854775807
def saJ (k : Bool) (a b : List Item) (na nb : Bool) (A B : Int) (f g : Nat → List SV) (m : Nat) (vs : List (Option SV)) (hp : List Hl) : Prop :=
  ∃ (i : Nat) (I : Int), vs = [some (.sl (.a na) (.a A) 2 f), some (.sl (.a nb) (.a B) 2 g), some (.int .i64 (.a I))] ∧ hp = [] ∧ AtR a i I m ∧ k = (a.drop i == b.drop i)
def saJ2 (k r : Bool) (xp yp : List Par) (na nb : Bool) (A B I : Int) (f g : Nat → List SV) (m : Nat) (vs : List (Option SV)) (hp : List Hl) : Prop :=
  ∃ (q : Nat) (Q : Int), vs = [some (.sl (.a na) (.a A) 2 f), some (.sl (.a nb) (.a B) 2 g), some (.int .i64 (.a I)), some (.int .i64 (.a Q))] ∧ hp = [] ∧ AtR xp q Q m ∧ k = ((xp.drop q == yp.drop q) && r)
def spSameT : FSpec := fun _ xs ls K => ∃ (a b : List Item) (na nb : Bool) (A B : Int) (f g : Nat → List SV), xs = [.sl (.a na) (.a A) 2 f, .sl (.a nb) (.a B) 2 g] ∧ ls = [] ∧ RowIT f A a ∧ RowIT g B b ∧ ∀ r : Bool, r = (a == b) → K (.bool (.a r)) []
theorem getD_memI {l : List Item} {j : Nat} (h : j < l.length) : l.getD j ([], []) ∈ l := by rw [List.getD_eq_getElem?_getD, List.getElem?_eq_getElem h]; exact List.getElem_mem h
theorem sameT_ok : FnOk Tryz.prog gl 29 spSameT := by
  refine fnOk (gh := []) mixed cxOk tabNil Tryz.func29 (by kernel_rfl) (by kernel_rfl) ?_
  intro xs ls K h
  unfold spSameT at h
  obtain ⟨a, b, na, nb, A, B, f, g, rfl, rfl, RA, RB, h⟩ := h
  obtain ⟨k, hk⟩ : ∃ k, k = (a == b) := ⟨_, rfl⟩
  refine ⟨_, _, h k hk, fun D hD => ?_⟩
  clear h
  cbv
  refine br hD (fun h => ?_) (fun h => ?_) <;> cbv
  · have h2 : A ≠ B := by simpa using h
    refine finBool hD ?_
    rw [hk]
    have h3 : a ≠ b := fun e => h2 (by rw [RA.n, RB.n, e])
    show false = _
    symm
    simpa using h3
  have h2 : A = B := by simpa using h
  have hlab : a.length = b.length := by have := RA.n; have := RB.n; omega
  clear h
  obtain ⟨J, hJ⟩ : ∃ J, J = saJ k a b na nb A B f g := ⟨_, rfl⟩
  refine ⟨[0, 1, 5], J, ⟨rfl, a.length, ?_⟩, ?_⟩
  · rw [hJ]
    subst hD
    exact ⟨0, 0, rfl, rfl, AtR.zero RA.len, hk⟩
  intro m vs hp' hv
  rw [hJ] at hv
  unfold saJ at hv
  obtain ⟨i, I, rfl, rfl, V, hk2⟩ := hv
  clear hk
  cbv
  refine br hD (fun h => ?_) (fun h => ?_) <;> cbv
  · have hlt := V.lt RA.n (of_decide_eq_true (p := I < A) h)
    clear h
    have hltb : i < b.length := by omega
    have inA := V.inB hD RA.n hlt
    have inB' : Sx.InB (D.i (.a I)) (D.i (.a B)) := by have := V.I; have := RB.n; subst hD; exact ⟨by show 0 ≤ I; omega, by show I < B; omega⟩
    rw [dropR (d := ([], [])) hlt, dropR (d := ([], [])) hltb] at hk2
    have lxp := RA.par _ (getD_memI hlt)
    have lyp := RB.par _ (getD_memI hltb)
    have e0 := RA.f i
    have d0 := RB.f i
    obtain ⟨x, hx⟩ : ∃ x, x = a.getD i ([], []) := ⟨_, rfl⟩
    obtain ⟨y, hy⟩ : ∃ y, y = b.getD i ([], []) := ⟨_, rfl⟩
    rw [← hx] at e0 hk2 lxp
    rw [← hy] at d0 hk2 lyp
    obtain ⟨xv, xp⟩ := x
    obtain ⟨yv, yp⟩ := y
    obtain ⟨r, hr⟩ : ∃ r, r = (a.drop (i + 1) == b.drop (i + 1)) := ⟨_, rfl⟩
    have hk3 : k = ((xv == yv) && ((xp == yp) && r)) := by rw [hk2, hr]; show (((xv, xp) == (yv, yp)) && _) = _; rw [← Bool.and_assoc]; rfl
    clear hk2
    obtain ⟨xn, hxn⟩ : ∃ n : Int, n = (xp.length : Int) := ⟨_, rfl⟩
    obtain ⟨xe, hxe⟩ : ∃ e : Bool, e = xp.isEmpty := ⟨_, rfl⟩
    obtain ⟨xf, hxf⟩ : ∃ f, f = parRow xp := ⟨_, rfl⟩
    obtain ⟨yn, hyn⟩ : ∃ n : Int, n = (yp.length : Int) := ⟨_, rfl⟩
    obtain ⟨ye, hye⟩ : ∃ e : Bool, e = yp.isEmpty := ⟨_, rfl⟩
    obtain ⟨yf, hyf⟩ : ∃ f, f = parRow yp := ⟨_, rfl⟩
    have RX : RowP xf xn xp := by rw [hxf, hxn]; exact ⟨rfl, fun _ _ => rfl, lxp⟩
    have RY : RowP yf yn yp := by rw [hyf, hyn]; exact ⟨rfl, fun _ _ => rfl, lyp⟩
    have e1 : f i = [.str xv, .sl (.a xe) (.a xn) 2 xf] := by rw [e0, hxe, hxn, hxf]; rfl
    have d1 : g i = [.str yv, .sl (.a ye) (.a yn) 2 yf] := by rw [d0, hye, hyn, hyf]; rfl
    clear hxn hxe hxf hyn hye hyf e0 d0
    refine ⟨inA, fun j hj => ?_⟩
    obtain rfl := V.j hD hj
    cbv
    rw [e1]
    cbv
    refine ⟨inB', fun j2 hj2 => ?_⟩
    obtain rfl := V.j hD hj2
    cbv
    rw [d1]
    cbv
    refine ⟨fun _ => inA, fun j3 hj3 => ?_⟩
    have e3 := RA.f j3
    obtain ⟨u, hu⟩ : ∃ u, u = a.getD j3 ([], []) := ⟨_, rfl⟩
    rw [← hu] at e3
    obtain ⟨uv, up⟩ := u
    obtain ⟨un, hun⟩ : ∃ n : Int, n = (up.length : Int) := ⟨_, rfl⟩
    obtain ⟨ue, hue⟩ : ∃ e : Bool, e = up.isEmpty := ⟨_, rfl⟩
    obtain ⟨uf, huf⟩ : ∃ f, f = parRow up := ⟨_, rfl⟩
    have e4 : f j3 = [.str uv, .sl (.a ue) (.a un) 2 uf] := by rw [e3, hue, hun, huf]; rfl
    have s1 : (xv == yv) = true → un = xn := by
      intro hv
      have : j3 = j2 := V.j hD (hj3 (by subst hD; show (!!(xv == yv)) = true; simpa using hv))
      rw [this, ← hx] at hu
      rw [hun, RX.n, (Prod.mk.inj hu).2]
    clear e3 hun hue huf
    cbv
    rw [e4]
    cbv
    refine ⟨fun _ => inB', fun j4 hj4 => ?_⟩
    have d3 := RB.f j4
    obtain ⟨w, hw⟩ : ∃ w, w = b.getD j4 ([], []) := ⟨_, rfl⟩
    rw [← hw] at d3
    obtain ⟨wv, wp⟩ := w
    obtain ⟨wn, hwn⟩ : ∃ n : Int, n = (wp.length : Int) := ⟨_, rfl⟩
    obtain ⟨we, hwe⟩ : ∃ e : Bool, e = wp.isEmpty := ⟨_, rfl⟩
    obtain ⟨wf, hwf⟩ : ∃ f, f = parRow wp := ⟨_, rfl⟩
    have d4 : g j4 = [.str wv, .sl (.a we) (.a wn) 2 wf] := by rw [d3, hwe, hwn, hwf]; rfl
    have s2 : (xv == yv) = true → wn = yn := by
      intro hv
      have : j4 = j2 := V.j hD (hj4 (by subst hD; show (!!(xv == yv)) = true; simpa using hv))
      rw [this, ← hy] at hw
      rw [hwn, RY.n, (Prod.mk.inj hw).2]
    clear d3 hwn hwe hwf
    cbv
    rw [d4]
    cbv
    refine br hD (fun h => ?_) (fun h => ?_) <;> cbv
    · have h : (!(xv == yv) || un != wn) = true := h
      refine finBool hD ?_
      show false = k
      rw [hk3]
      cases hv : xv == yv with
      | false => rfl
      | true =>
        rw [hv] at h
        have h1 : xn ≠ yn := by rw [← s1 hv, ← s2 hv]; simpa using h
        have h2 : (xp == yp) = false := by
          cases hxy : xp == yp with
          | false => rfl
          | true => exact absurd (by rw [RX.n, RY.n, beq_iff_eq.1 hxy]) h1
        rw [h2]; rfl
    have h : (!(xv == yv) || un != wn) = false := h
    simp only [Bool.or_eq_false_iff, Bool.not_eq_false', bne_eq_false_iff_eq] at h
    obtain ⟨hv, h3⟩ := h
    have hxy : xn = yn := by rw [← s1 hv, ← s2 hv]; exact h3
    have hxyl : xp.length = yp.length := by have := RX.n; have := RY.n; omega
    rw [hv, Bool.true_and] at hk3
    clear s1 s2 h3 hj3 hj4 e4 d4 hu hw
    obtain ⟨J2, hJ2⟩ : ∃ J, J = saJ2 k r xp yp na nb A B I f g := ⟨_, rfl⟩
    refine ⟨[0, 1, 5, 6], J2, ⟨rfl, xp.length, ?_⟩, ?_⟩
    · rw [hJ2]
      subst hD
      exact ⟨0, 0, rfl, rfl, AtR.zero lxp, hk3⟩
    intro m2 vs2 hp2 hv2
    rw [hJ2] at hv2
    unfold saJ2 at hv2
    obtain ⟨q, Q, rfl, rfl, W, hk4⟩ := hv2
    clear hk3
    cbv
    refine ⟨inA, fun j3 hj3 => ?_⟩
    obtain rfl : j3 = j2 := V.j hD hj3
    cbv
    rw [e1]
    cbv
    refine br hD (fun h => ?_) (fun h => ?_) <;> cbv
    · have hlt2 := W.lt RX.n (of_decide_eq_true (p := Q < xn) h)
      clear h
      have hlt3 : q < yp.length := by omega
      rw [dropR (d := ([], [])) hlt2, dropR (d := ([], [])) hlt3] at hk4
      have p1 := RX.f q hlt2
      have p2 := RY.f q hlt3
      obtain ⟨x2, hx2⟩ : ∃ x, x = xp.getD q ([], []) := ⟨_, rfl⟩
      obtain ⟨y2, hy2⟩ : ∃ y, y = yp.getD q ([], []) := ⟨_, rfl⟩
      rw [← hx2] at p1 hk4
      rw [← hy2] at p2 hk4
      obtain ⟨xa, xb⟩ := x2
      obtain ⟨ya, yb⟩ := y2
      simp only at p1 p2
      refine ⟨inA, fun j4 hj4 => ?_⟩
      have h4 : j4 = j3 := V.j hD hj4
      have e5 : f j4 = [.str xv, .sl (.a xe) (.a xn) 2 xf] := by rw [h4]; exact e1
      cbv
      rw [e5]
      cbv
      refine ⟨W.inB hD RX.n hlt2, fun j5 hj5 => ?_⟩
      have h5 : j5 = q := W.j hD hj5
      have e6 : xf j5 = [.str xa, .str xb] := by rw [h5]; exact p1
      cbv
      rw [e6]
      cbv
      refine ⟨inB', fun j6 hj6 => ?_⟩
      have h6 : j6 = j3 := V.j hD hj6
      have d5 : g j6 = [.str yv, .sl (.a ye) (.a yn) 2 yf] := by rw [h6]; exact d1
      cbv
      rw [d5]
      cbv
      refine ⟨by rw [← hxy]; exact W.inB hD RX.n hlt2, fun j7 hj7 => ?_⟩
      have h7 : j7 = q := W.j hD hj7
      have d6 : yf j7 = [.str ya, .str yb] := by rw [h7]; exact p2
      cbv
      rw [d6]
      cbv
      have hk6 : k = (((xa == ya) && (xb == yb)) && ((xp.drop (q + 1) == yp.drop (q + 1)) && r)) := by
        rw [hk4]
        show ((((xa, xb) == (ya, yb)) && _) && r) = _
        rw [Bool.and_assoc]; rfl
      refine br hD (fun h => ?_) (fun h => ?_) <;> cbv
      · have h : (!((xa == ya) && (xb == yb))) = true := h
        refine finBool hD ?_
        show false = k
        rw [hk6]
        have h : ((xa == ya) && (xb == yb)) = false := by simpa only [Bool.not_eq_true'] using h
        rw [h]; rfl
      · have h : (!((xa == ya) && (xb == yb))) = false := h
        have h : ((xa == ya) && (xb == yb)) = true := by simpa only [Bool.not_eq_false'] using h
        rw [h, Bool.true_and] at hk6
        refine ⟨xp.length - (q + 1), (W.step hD hlt2).1, ?_⟩
        rw [hJ2]
        subst hD
        exact ⟨q + 1, _, rfl, rfl, (W.step rfl hlt2).2, hk6⟩
    · have hi := W.eq RX.n (of_decide_eq_false (p := Q < xn) h)
      have hk5 : k = r := by
        rw [hk4, hi, List.drop_length, hxyl, List.drop_length]; rfl
      refine ⟨a.length - (j3 + 1), (V.step hD hlt).1, ?_⟩
      rw [hJ]
      subst hD
      exact ⟨j3 + 1, _, rfl, rfl, (V.step rfl hlt).2, by rw [hk5, hr]⟩
  · have hi := V.eq RA.n (of_decide_eq_false (p := I < A) h)
    refine finBool hD ?_
    rw [hk2, hi, List.drop_length, hlab, List.drop_length]; rfl
structure RowIP (f : Nat → List SV) (n : Int) (a : List Item) : Prop where
  n : n = a.length
  f : ∀ i, i < a.length → f i = itemSV (a.getD i ([], []))
  len : a.length ≤ 9223372036854775807
  par : ∀ x ∈ a, x.2.length ≤ 9223372036854775807
def spSame : FSpec := fun _ xs ls K => ∃ (a b : List Item) (na nb : Bool) (A B : Int) (f g : Nat → List SV), xs = [.sl (.a na) (.a A) 2 f, .sl (.a nb) (.a B) 2 g] ∧ ls = [] ∧ RowIP f A a ∧ RowIP g B b ∧ ∀ r : Bool, r = (a == b) → K (.bool (.a r)) []
theorem callsTo_leL {P : Go.Program} {gl : List (Nat × SV)} {f : Go.FuncId} {as1 as2 : List SV} {ls : List Hl} {r : SV} {ls' : List Hl} (h : LeL as1 as2) (c : CallsTo P gl f as2 ls r ls') : CallsTo P gl f as1 ls r ls' :=
  fun B E w vals hw hI hdom hb hg hh hr => c B E w vals hw hI hdom hb hg hh (h E w vals hr)
theorem same_ok : FnOk Tryz.prog gl 29 spSame := by
  refine ⟨sameT_ok.1, fun xs ls K h => ?_⟩
  obtain ⟨a, b, na, nb, A, B, f, g, rfl, rfl, RA, RB, h⟩ := h
  obtain ⟨r, ls', hK, hc⟩ := sameT_ok.2 [.sl (.a na) (.a A) 2 (itemRow a), .sl (.a nb) (.a B) 2 (itemRow b)] [] K ⟨a, b, na, nb, A, B, itemRow a, itemRow b, rfl, rfl, ⟨RA.n, fun _ => rfl, RA.len, RA.par⟩, ⟨RB.n, fun _ => rfl, RB.len, RB.par⟩, h⟩
  refine ⟨r, ls', hK, callsTo_leL (LeL.cons (.sl rfl rfl fun i hi => ?_) (LeL.cons (.sl rfl rfl fun i hi => ?_) LeL.nil)) hc⟩
  · have hi : (i : Int) < A := hi
    exact RA.f i (by have := RA.n; omega)
  · have hi : (i : Int) < B := hi
    exact RB.f i (by have := RB.n; omega)
end Go.Proofs.YtfchfhjpldppjaaGreatDoor
namespace Go.Proofs.YtfchfhjpldppjaaGreatDoor
open Go.Sx
set_option maxRecDepth 10000
set_option maxHeartbeats 4000000
/-! weights. -/
def weJ (k : Bool) (a b : List Wt) (na nb : Bool) (A B : Int) (f g : Nat → List SV) (m : Nat) (vs : List (Option SV)) (hp : List Hl) : Prop :=
  ∃ (i : Nat) (I : Int), vs = [some (.sl (.a na) (.a A) 2 f), some (.sl (.a nb) (.a B) 2 g), some (.int .i64 (.a I))] ∧ hp = [] ∧ AtR a i I m ∧ k = (a.drop i == b.drop i)
def spSameW : FSpec := fun _ xs ls K => ∃ (a b : List Wt) (na nb : Bool) (A B : Int) (f g : Nat → List SV), xs = [.sl (.a na) (.a A) 2 f, .sl (.a nb) (.a B) 2 g] ∧ ls = [] ∧ RowW f A a ∧ RowW g B b ∧ ∀ r : Bool, r = (a == b) → K (.bool (.a r)) []
theorem sameW_ok : FnOk Tryz.prog gl 30 spSameW := by
  refine fnOk (gh := []) mixed cxOk tabNil Tryz.func30 (by kernel_rfl) (by kernel_rfl) ?_
  intro xs ls K h
  unfold spSameW at h
  obtain ⟨a, b, na, nb, A, B, f, g, rfl, rfl, RA, RB, h⟩ := h
  obtain ⟨k, hk⟩ : ∃ k, k = (a == b) := ⟨_, rfl⟩
  refine ⟨_, _, h k hk, fun D hD => ?_⟩
  clear h
  cbv
  refine br hD (fun h => ?_) (fun h => ?_) <;> cbv
  · have h2 : A ≠ B := by simpa using h
    refine finBool hD ?_
    rw [hk]
    have h3 : a ≠ b := fun e => h2 (by rw [RA.n, RB.n, e])
    show false = _
    symm
    simpa using h3
  have h2 : A = B := by simpa using h
  have hlab : a.length = b.length := by have := RA.n; have := RB.n; omega
  clear h
  obtain ⟨J, hJ⟩ : ∃ J, J = weJ k a b na nb A B f g := ⟨_, rfl⟩
  refine ⟨[0, 1, 5], J, ⟨rfl, a.length, ?_⟩, ?_⟩
  · rw [hJ]
    subst hD
    exact ⟨0, 0, rfl, rfl, AtR.zero RA.len, hk⟩
  intro m vs hp' hv
  rw [hJ] at hv
  unfold weJ at hv
  obtain ⟨i, I, rfl, rfl, V, hk2⟩ := hv
  clear hk
  cbv
  refine br hD (fun h => ?_) (fun h => ?_) <;> cbv
  · have hlt := V.lt RA.n (of_decide_eq_true (p := I < A) h)
    clear h
    have hltb : i < b.length := by omega
    rw [dropR (d := ([], 0)) hlt, dropR (d := ([], 0)) hltb] at hk2
    have e1 := RA.f i hlt
    have e2 := RB.f i hltb
    obtain ⟨x, hx⟩ : ∃ x, x = a.getD i ([], 0) := ⟨_, rfl⟩
    obtain ⟨y, hy⟩ : ∃ y, y = b.getD i ([], 0) := ⟨_, rfl⟩
    rw [← hx] at e1 hk2
    rw [← hy] at e2 hk2
    obtain ⟨xv, xq⟩ := x
    obtain ⟨yv, yq⟩ := y
    simp only [wtSV] at e1 e2
    refine ⟨V.inB hD RA.n hlt, fun j hj => ?_⟩
    obtain rfl := V.j hD hj
    cbv
    rw [e1]
    cbv
    refine ⟨?_, fun j2 hj2 => ?_⟩
    · have := V.I; have := RB.n; subst hD; exact ⟨by show 0 ≤ I; omega, by show I < B; omega⟩
    obtain rfl := V.j hD hj2
    cbv
    rw [e2]
    cbv
    have hk6 : k = (((xv == yv) && (xq == yq)) && (a.drop (j2 + 1) == b.drop (j2 + 1))) := by rw [hk2]; rfl
    refine br hD (fun h => ?_) (fun h => ?_) <;> cbv
    · have h : (!((xv == yv) && (xq == yq))) = true := h
      refine finBool hD ?_
      show false = k
      rw [hk6]
      have h : ((xv == yv) && (xq == yq)) = false := by simpa only [Bool.not_eq_true'] using h
      rw [h]; rfl
    · have h : (!((xv == yv) && (xq == yq))) = false := h
      have h : ((xv == yv) && (xq == yq)) = true := by simpa only [Bool.not_eq_false'] using h
      rw [h, Bool.true_and] at hk6
      refine ⟨_, (V.step hD hlt).1, ?_⟩
      rw [hJ]
      subst hD
      exact ⟨j2 + 1, _, rfl, rfl, (V.step rfl hlt).2, hk6⟩
  · have hi := V.eq RA.n (of_decide_eq_false (p := I < A) h)
    refine finBool hD ?_
    rw [hk2, hi, List.drop_length, hlab, List.drop_length]; rfl
end Go.Proofs.YtfchfhjpldppjaaGreatDoor
namespace Go.Proofs.YtfchfhjpldppjaaGreatDoor
open Go.Sx
set_option maxRecDepth 100000
set_option maxHeartbeats 4000000
/-! What awake calls, at its constants. -/
theorem fnOk_le {f : Nat} {sp sp' : FSpec} (h : FnOk Tryz.prog gl f sp) (hs : ∀ (xs : List SV) (ls : List Hl) (K : SV → List Hl → Prop), sp' dn xs ls K → sp dn xs ls fun r ls' => ∃ r', LeV r r' ∧ K r' ls') : FnOk Tryz.prog gl f sp' := by
  refine ⟨h.1, fun xs ls K hk => ?_⟩
  obtain ⟨r, ls', ⟨r', hle, hk'⟩, hc⟩ := h.2 xs ls _ (hs xs ls K hk)
  refine ⟨r', ls', hk', fun B E w vals h1 h2 h3 h4 h5 h6 h7 => (hc B E w vals h1 h2 h3 h4 h5 h6 h7).mono fun e w' hq => ?_⟩
  obtain ⟨v, E', e1, e2, e3, e4⟩ := hq
  exact ⟨v, E', e1, e2, e3, hle E' w' v e4⟩
def aw0 : List UInt8 := [115, 97, 121, 32, 34, 104, 105, 34]
def aw0r : List UInt8 := [34, 115, 97, 121, 32, 92, 34, 104, 105, 92, 34, 34]
def aw1 : List UInt8 := [97, 44, 32, 44, 34, 98, 44, 99, 34, 32, 44, 44, 32, 100]
def aw1r : List (List UInt8) := [[97], [34, 98, 44, 99, 34], [100]]
def aw2 : List UInt8 := [97, 59, 81, 61, 49, 59, 32, 120, 61, 34, 121, 59, 122, 34, 44, 32, 98]
def aw2p : List Par := [([113], [49]), ([120], [121, 59, 122])]
def aw2r : List Item := [([97], aw2p), ([98], [])]
def aw3 : List UInt8 := [97, 59, 113, 61, 48, 46, 53, 44, 32, 98, 44, 32, 99, 59, 113, 61, 48, 46, 53]
def aw3r : List Wt := [([98], 1000), ([97], 500), ([99], 500)]
def aw4 : List UInt8 := [99, 108, 111, 115, 101, 44, 32, 75, 101, 101, 112, 45, 65, 108, 105, 118, 101]
def aw5 : List UInt8 := [107, 101, 101, 112, 45, 97, 108, 105, 118, 101]
theorem aw0_ok : refQuoteF aw0 = (aw0r, 0) := by decide
theorem aw1_ok : refElementsF aw1 = (aw1r, 0) := by decide
theorem aw2_ok : itemsF aw2 = (aw2r, 0) := by decide
theorem aw3_ok : weightsF aw3 = (aw3r, 0) := by decide
theorem aw3_len : (itemsF aw3).1.length < 20 := by decide
theorem aw4_ok : hasF aw4 aw5 = (true, 0) := by decide
def spAQ : FSpec := fun _ xs ls K => xs = [.str aw0] ∧ ls = [] ∧ K (.tup [.str aw0r, .int .i64 (.l 0)]) []
theorem aq_ok : FnOk Tryz.prog gl 12 spAQ := by
  refine fnOk_le quote_ok fun xs ls K h => ?_
  obtain ⟨rfl, rfl, h⟩ := h
  refine ⟨aw0, rfl, rfl, by decide, fun t e ht => ?_⟩
  rw [aw0_ok] at ht
  cases ht
  exact ⟨_, .tup (.cons (LeV.refl _) (.cons (leInt (t' := .l 0) rfl) .nil)), h⟩
def spAE : FSpec := fun _ xs ls K => xs = [.str aw1] ∧ ls = [] ∧ ∀ (b : Bool) (n : Int) f, RowS f n aw1r → K (.tup [.sl (.a b) (.a n) 1 f, .int .i64 (.l 0)]) []
theorem ae_ok : FnOk Tryz.prog gl 20 spAE := by
  refine fnOk_le elements_ok fun xs ls K h => ?_
  obtain ⟨rfl, rfl, h⟩ := h
  refine ⟨aw1, rfl, rfl, by decide, fun l e n nb he hn hnb => ?_⟩
  rw [aw1_ok] at he
  cases he
  exact ⟨_, .tup (.cons (LeV.refl _) (.cons (leInt (t' := .l 0) rfl) .nil)), h nb n _ (by rw [hn]; exact RowS.row (by decide))⟩
def spAI : FSpec := fun _ xs ls K => xs = [.str aw2] ∧ ls = [] ∧ ∀ (b : Bool) (n : Int) f, RowIP f n aw2r → K (.tup [.sl (.a b) (.a n) 2 f, .int .i64 (.l 0)]) []
theorem ai_ok : FnOk Tryz.prog gl 25 spAI := by
  refine fnOk_le items_ok fun xs ls K h => ?_
  obtain ⟨rfl, rfl, h⟩ := h
  refine ⟨aw2, rfl, rfl, by decide, fun l e n nb f he hn hnb hf => ?_⟩
  rw [aw2_ok] at he
  cases he
  refine ⟨_, .tup (.cons (LeV.refl _) (.cons (leInt (t' := .l 0) rfl) .nil)), h nb n f ⟨hn, fun i _ => by rw [hf]; rfl, by decide, by decide⟩⟩
def spAW : FSpec := fun _ xs ls K => xs = [.str aw3] ∧ ls = [] ∧ ∀ (b : Bool) (n : Int) f, RowW f n aw3r → K (.tup [.sl (.a b) (.a n) 2 f, .int .i64 (.l 0)]) []
theorem aw_ok : FnOk Tryz.prog gl 27 spAW := by
  refine fnOk_le weights_ok fun xs ls K h => ?_
  obtain ⟨rfl, rfl, h⟩ := h
  refine ⟨aw3, rfl, rfl, by decide, Nat.lt_of_lt_of_le aw3_len (by decide), fun l e n nb f he hn hnb hf => ?_⟩
  rw [aw3_ok] at he
  cases he
  refine ⟨_, .tup (.cons (LeV.refl _) (.cons (leInt (t' := .l 0) rfl) .nil)), h nb n f (by rw [hf]; exact RowW.row hn (by decide))⟩
def spAH : FSpec := fun _ xs ls K => xs = [.str aw4, .str aw5] ∧ ls = [] ∧ K (.tup [.bool (.l true), .int .i64 (.l 0)]) []
theorem ah_ok : FnOk Tryz.prog gl 22 spAH := by
  refine fnOk_le has_ok fun xs ls K h => ?_
  obtain ⟨rfl, rfl, h⟩ := h
  refine ⟨aw4, aw5, rfl, rfl, by decide, by decide, fun b e he => ?_⟩
  rw [aw4_ok] at he
  cases he
  exact ⟨_, .tup (.cons (leBool (t' := .l true) rfl) (.cons (leInt (t' := .l 0) rfl) .nil)), h⟩
def spASt : FSpec := fun _ xs ls K => ∃ (na nb : Bool) (A B : Int) (f g : Nat → List SV), xs = [.sl (.a na) (.a A) 1 f, .sl (.a nb) (.a B) 1 g] ∧ ls = [] ∧ RowS f A aw1r ∧ RowS g B aw1r ∧ K (.bool (.l true)) []
theorem ast_ok : FnOk Tryz.prog gl 24 spASt := by
  refine fnOk_le strings_ok fun xs ls K h => ?_
  obtain ⟨na, nb, A, B, f, g, rfl, rfl, RA, RB, h⟩ := h
  refine ⟨_, _, na, nb, A, B, f, g, rfl, rfl, RA, RB, fun r hr => ⟨_, leBool ?_, h⟩⟩
  show r = true
  rw [hr]; decide
def spASw : FSpec := fun _ xs ls K => ∃ (na nb : Bool) (A B : Int) (f g : Nat → List SV), xs = [.sl (.a na) (.a A) 2 f, .sl (.a nb) (.a B) 2 g] ∧ ls = [] ∧ RowW f A aw3r ∧ RowW g B aw3r ∧ K (.bool (.l true)) []
theorem asw_ok : FnOk Tryz.prog gl 30 spASw := by
  refine fnOk_le sameW_ok fun xs ls K h => ?_
  obtain ⟨na, nb, A, B, f, g, rfl, rfl, RA, RB, h⟩ := h
  refine ⟨_, _, na, nb, A, B, f, g, rfl, rfl, RA, RB, fun r hr => ⟨_, leBool ?_, h⟩⟩
  show r = true
  rw [hr]; decide
/-- Rows whose cells are read alike. -/
def LeO (s s' : SV) : Prop := ∀ (I : Nat → Nat → Prop) (w : Go.World) (v : Go.Value), RO I w s v → RO I w s' v
theorem LeO.refl (s : SV) : LeO s s := fun _ _ _ h => h
theorem LeO.sl {nl nl' : BT} {n n' : ST} {sz : Nat} {f f' : Nat → List SV} (h1 : nl.den = nl'.den) (h2 : n.den = n'.den) (h : ∀ i : Nat, (i : Int) < n.den → f i = f' i) : LeO (.sl nl n sz f) (.sl nl' n' sz f') := by
  intro I w v hr
  cases hr with
  | slnil a b => exact .slnil (by rw [← h1]; exact a) (by rw [← h2]; exact b)
  | sl g e1 e2 e3 e3' e4 e5 e5' e6 e7 =>
    have hf : ∀ i, i < _ → f' i = f i := fun i hi => (h i (by rw [e2]; exact Int.ofNat_lt.2 hi)).symm
    exact .sl g (by rw [← h1]; exact e1) (by rw [← h2]; exact e2) e3 e3' e4 (fun i hi => by rw [hf i hi]; exact e5 i hi) e5' e6 (fun i j s hi hs => by rw [hf i hi] at hs; exact e7 i j s hi hs)
theorem LeV.slD {nl : BT} {n : ST} {sz : Nat} {f f' : Nat → List SV} (hl : ∀ i : Nat, (i : Int) < n.den → (f' i).length = (f i).length) (h : ∀ (i j : Nat) (s' : SV), (i : Int) < n.den → (f' i)[j]? = some s' → ∃ s, (f i)[j]? = some s ∧ LeO s s') : LeV (.sl nl n sz f) (.sl nl n sz f') := by
  intro E w v hr
  cases hr with
  | ro hr =>
    cases hr with
    | slnil a b => exact .ro (.slnil a b)
    | sl g e1 e2 e3 e3' e4 e5 e5' e6 e7 =>
      refine .ro (.sl g e1 e2 e3 e3' e4 (fun i hi => by rw [hl i (by rw [e2]; exact Int.ofNat_lt.2 hi)]; exact e5 i hi) e5' e6 (fun i j s hi hs => ?_))
      obtain ⟨s0, h0, hle⟩ := h i j s (by rw [e2]; exact Int.ofNat_lt.2 hi) hs
      exact hle _ _ _ (e7 i j s0 hi h0)
def spASa : FSpec := fun _ xs ls K => ∃ (na nb : Bool) (A B : Int) (f g : Nat → List SV) (e1 e2 : Bool) (n1 n2 : Int) (p1 p2 : Nat → List SV), xs = [.sl (.a na) (.a A) 2 f, .sl (.a nb) (.a B) 2 g] ∧ ls = [] ∧ RowIP f A aw2r ∧ B = 2 ∧ g 0 = [.str [97], .sl (.a e1) (.a n1) 2 p1] ∧ g 1 = [.str [98], .sl (.a e2) (.a n2) 2 p2] ∧
  e1 = false ∧ n1 = 2 ∧ p1 0 = [.str [113], .str [49]] ∧ p1 1 = [.str [120], .str [121, 59, 122]] ∧ e2 = true ∧ n2 = 0 ∧ K (.bool (.l true)) []
theorem asa_ok : FnOk Tryz.prog gl 29 spASa := by
  refine ⟨same_ok.1, fun xs ls K h => ?_⟩
  obtain ⟨na, nb, A, B, f, g, e1, e2, n1, n2, p1, p2, rfl, rfl, RA, rfl, g0, g1, rfl, rfl, q0, q1, rfl, rfl, h⟩ := h
  obtain ⟨r, ls', ⟨r', hle, hk'⟩, hc⟩ := same_ok.2 [.sl (.a na) (.a A) 2 f, .sl (.a nb) (.a 2) 2 (itemRow aw2r)] [] (fun r ls' => ∃ r', LeV r r' ∧ K r' ls') ⟨_, _, na, nb, A, 2, f, itemRow aw2r, rfl, rfl, RA, ⟨rfl, fun _ _ => rfl, by decide, by decide⟩, fun r hr => ⟨_, leBool (t' := .l true) (by show r = true; rw [hr]; decide), h⟩⟩
  have hL : LeL [.sl (.a na) (.a A) 2 f, .sl (.a nb) (.a 2) 2 g] [.sl (.a na) (.a A) 2 f, .sl (.a nb) (.a 2) 2 (itemRow aw2r)] := by
    refine LeL.cons (LeV.refl _) (LeL.cons (LeV.slD (fun i hi => ?_) fun i j s' hi hs => ?_) LeL.nil)
    · have hi : (i : Int) < 2 := hi
      match i, hi with
      | 0, _ => rw [g0]; rfl
      | 1, _ => rw [g1]; rfl
      | i + 2, hi => omega
    · have hi : (i : Int) < 2 := hi
      match i, hi with
      | 0, _ =>
        rw [g0]
        match j, hs with
        | 0, hs => cases hs; exact ⟨_, rfl, LeO.refl _⟩
        | 1, hs =>
          cases hs
          refine ⟨_, rfl, LeO.sl rfl rfl fun i hi => ?_⟩
          have hi : (i : Int) < 2 := hi
          match i, hi with
          | 0, _ => exact q0
          | 1, _ => exact q1
          | i + 2, hi => omega
        | j + 2, hs => simp [itemRow, itemSV] at hs
      | 1, _ =>
        rw [g1]
        match j, hs with
        | 0, hs => cases hs; exact ⟨_, rfl, LeO.refl _⟩
        | 1, hs =>
          cases hs
          refine ⟨_, rfl, LeO.sl rfl rfl fun i hi => ?_⟩
          have hi : (i : Int) < 0 := hi
          omega
        | j + 2, hs => simp [itemRow, itemSV] at hs
      | i + 2, hi => omega
  refine ⟨r', ls', hk', fun B E w vals h1 h2 h3 h4 h5 h6 h7 => ((callsTo_leL hL hc) B E w vals h1 h2 h3 h4 h5 h6 h7).mono fun e w' hq => ?_⟩
  obtain ⟨v, E', e1, e2, e3, e4⟩ := hq
  exact ⟨v, E', e1, e2, e3, hle E' w' v e4⟩
def spAwake : FSpec := fun _ xs ls K => xs = [] ∧ ls = [] ∧ ∀ r : Bool, r = true → K (.bool (.a r)) []
theorem awake_ok : FnOk Tryz.prog gl 11 spAwake := by
  refine fnOk (gh := [(999984, [])]) mixed cxOk (tabCons aq_ok (tabCons ae_ok (tabCons ai_ok (tabCons aw_ok (tabCons ah_ok (tabCons ast_ok (tabCons asw_ok (tabCons asa_ok tabNil)))))))) Tryz.func11 (by kernel_rfl) (by kernel_rfl) ?_
  intro xs ls K h
  unfold spAwake at h
  obtain ⟨rfl, rfl, h⟩ := h
  refine ⟨_, _, h true rfl, fun D hD => ?_⟩
  clear h
  cbv
  refine ⟨rfl, rfl, fun b1 n1 f1 R1 => ?_⟩
  cbv
  refine ⟨rfl, fun b2 n2 f2 R2 => ?_⟩
  cbv
  refine ⟨rfl, fun b3 n3 f3 R3 => ?_⟩
  cbv
  refine ⟨rfl, ?_⟩
  cbv
  intro p1 hp1
  have q0 : p1 0 = [.str [113], .str [49]] := hp1.h 0 _ rfl
  have q1 : p1 1 = [.str [120], .str [121, 59, 122]] := hp1.h 1 _ rfl
  clear hp1
  cbv
  intro g hg
  have g0 := hg.h 0 _ rfl
  have g1 := hg.h 1 _ rfl
  clear hg
  cbv
  intro sf hsf
  have R5 : RowS sf 3 aw1r := ⟨rfl, fun i hi => by
    match i, hi with
    | 0, _ => exact hsf.h 0 _ rfl
    | 1, _ => exact hsf.h 1 _ rfl
    | 2, _ => exact hsf.h 2 _ rfl
    | i + 3, hi => exact absurd hi (by simp [aw1r]), by decide⟩
  clear hsf
  cbv
  refine ⟨_, _, _, _, _, _, rfl, rfl, by subst hD; exact R1, by subst hD; exact R5, ?_⟩
  cbv
  refine ⟨_, _, _, _, _, _, _, _, _, _, _, _, rfl, rfl, by subst hD; exact R2, by subst hD; rfl, g0, g1, by subst hD; rfl, by subst hD; rfl, q0, q1, by subst hD; rfl, by subst hD; rfl, ?_⟩
  cbv
  intro wf hwf
  have R6 : RowW wf 3 aw3r := ⟨rfl, fun i hi => by
    subst hD
    match i, hi with
    | 0, _ => exact hwf.h 0 _ rfl
    | 1, _ => exact hwf.h 1 _ rfl
    | 2, _ => exact hwf.h 2 _ rfl
    | i + 3, hi => exact absurd hi (by simp [aw3r]), by decide⟩
  clear hwf
  cbv
  refine ⟨_, _, _, _, _, _, rfl, rfl, by subst hD; exact R3, by subst hD; exact R6, ?_⟩
  cbv
  exact finBool hD rfl
end Go.Proofs.YtfchfhjpldppjaaGreatDoor
namespace Go.Proofs.YtfchfhjpldppjaaGreatDoor
open Go Go.Sx Go.ChangeShapes Go.WideShapes Go.RowKit
set_option maxRecDepth 100000
/-! The door: what the laws' lifting needs of this program. -/
theorem kOwn : ownKnob Tryz.prog.godebug = none := by kernel_rfl
theorem kLaidOut : laidOutB Tryz.prog = true := by kernel_rfl
abbrev laidV : List (String × DataW Unit) := [("math/bits.deBruijn32tab", Rows.laid_math_bits_deBruijn32tab), ("math/bits.deBruijn64tab", Rows.laid_math_bits_deBruijn64tab), ("internal/strconv.uint64pow10", Rows.laid_internal_strconv_uint64pow10), ("unicode/utf8.acceptRanges", Rows.laid_unicode_utf8_acceptRanges), ("strconv.ErrRange", Rows.laid_strconv_ErrRange), ("strconv.ErrSyntax", Rows.laid_strconv_ErrSyntax), ("unicode/utf8.first", Rows.laid_unicode_utf8_first)]
theorem door_fits (os : Os) : (World.holding Tryz.prog os ⟨#[], #[], []⟩).layFits Tryz.prog laidV [] = true := by kernel_rfl
theorem door_ifaces (os : Os) : (World.holding Tryz.prog os ⟨#[], #[], []⟩).layIfaces Tryz.prog laidV (World.laidAll Tryz.prog os laidV) = true := by kernel_rfl
theorem door_met (os : Os) (args : Array Value) : laidMetH Tryz.prog laidV ((World.laidAll Tryz.prog os laidV).forCall (fun _ _ => 0) ⟨#[], args, []⟩).memory := by
  rw [MakeChecks.laidMetH_plain _ _ _ (by kernel_rfl)]
  exact laidMet_laidAll _ (door_fits os) (door_ifaces os)
theorem gl_of {W : World} : ∀ g s, Sx.look g gl = some s → RO (oldI W) W s (.pointer (some ⟨g, 0, none⟩)) ∧ g < W.heap.size ∧ glBlk W g s := by
  intro g s h
  cases h
theorem open3 : OpenT Tryz.prog 3 (fun n : Int => [.int .i64 (.a n)]) := .int Tryz.underlying3
theorem open9 : OpenT Tryz.prog 9 (fun s : {s : List UInt8 // s.length ≤ maxLen} => [.str s.1]) := .str Tryz.underlying9
theorem ro1 {I : Nat → Nat → Prop} {W : World} {s : SV} {v : Value} (h : RO I W s v) : ∀ (i : Nat) (s' : SV) (v' : Value), [s][i]? = some s' → [v][i]? = some v' → RO I W s' v'
  | 0, _, _, a, b => by simp at a b; subst a b; exact h
  | _ + 1, _, _, a, _ => by simp at a
theorem ro2 {I : Nat → Nat → Prop} {W : World} {s t : SV} {v u : Value} (h : RO I W s v) (k : RO I W t u) : ∀ (i : Nat) (s' : SV) (v' : Value), [s, t][i]? = some s' → [v, u][i]? = some v' → RO I W s' v'
  | 0, _, _, a, b => by simp at a b; subst a b; exact h
  | 1, _, _, a, b => by simp at a b; subst a b; exact k
  | _ + 2, _, _, a, _ => by simp at a
theorem str_fit (x : {s : List UInt8 // s.length ≤ maxLen}) : x.1.length ≤ 9223372036854775807 := Nat.le_trans x.2 (by decide)
end Go.Proofs.YtfchfhjpldppjaaGreatDoor
