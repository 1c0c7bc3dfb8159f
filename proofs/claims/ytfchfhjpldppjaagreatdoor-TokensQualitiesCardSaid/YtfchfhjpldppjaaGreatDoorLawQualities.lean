/- Part of the proofs of the statements about tokens (layer 5): the laws; it has no conditions of its own. -/
import Derived.Lib.ItoaNum
import Derived.Shelf.Strconv.Itoa3
import Derived.ChangeArms
import Derived.Stop.LaidErr
import Derived.Test.YtfchfhjpldppjaaGreatDoorTd
import Derived.Test.YtfchfhjpldppjaaGreatDoorTc
import Derived.Test.YtfchfhjpldppjaaGreatDoorTf
namespace Go.Proofs.YtfchfhjpldppjaaGreatDoor
open Go.Sx
set_option maxRecDepth 10000
set_option maxHeartbeats 8000000
/-! Quality of the document. -/
/-- The two parts of what may be a quality. -/
structure Qs (s : List UInt8) (x : UInt8) (p : List UInt8) : Prop where
  s : (s = [x] ∧ p = []) ∨ s = x :: 46 :: p
  x : x = 48 ∨ x = 49
  p : p.length ≤ 3
theorem Qs.cut {s : List UInt8} {x : UInt8} {p : List UInt8} (V : Qs s x p) : (cutF 46 s).1 = [x] ∧ (cutF 46 s).2.1 = p := by
  have hx : (x == 46) = false := by rcases V.x with rfl | rfl <;> rfl
  rcases V.s with ⟨rfl, rfl⟩ | rfl
  · simp [cutF, hx]
  · simp [cutF, hx]
theorem qs_of {s : List UInt8} (h : qualOk (cutF 46 s).1 (cutF 46 s).2.1 = true) : ∃ x p, Qs s x p := by
  unfold qualOk at h
  simp only [Bool.and_eq_true, Bool.or_eq_true, beq_iff_eq, decide_eq_true_eq] at h
  obtain ⟨⟨⟨h1, h2⟩, h3⟩, _⟩ := h
  have key : ∀ x : UInt8, (cutF 46 s).1 = [x] → (s = [x] ∧ (cutF 46 s).2.1 = []) ∨ s = x :: 46 :: (cutF 46 s).2.1 := by
    intro x hx
    match s, hx with
    | [], hx => simp [cutF] at hx
    | c :: r, hx =>
      simp only [cutF] at hx ⊢
      by_cases hc : (c == 46) = true
      · rw [if_pos hc] at hx; simp at hx
      · rw [if_neg hc] at hx ⊢
        simp only [List.cons.injEq] at hx
        obtain ⟨rfl, hr⟩ := hx
        match r, hr with
        | [], _ => left; simp [cutF]
        | d :: r', hr =>
          simp only [cutF] at hr ⊢
          by_cases hd : (d == 46) = true
          · rw [if_pos hd] at hr ⊢
            right; rw [beq_iff_eq.1 hd]
          · rw [if_neg hd] at hr; simp at hr
  rcases h1 with h1 | h1
  · exact ⟨48, _, key 48 h1, .inl rfl, h2⟩
  · exact ⟨49, _, key 49 h1, .inr rfl, h2⟩
theorem qual_bad {s : List UInt8} (h : ∀ x p, ¬ Qs s x p) : qualF s = (0, 6) := by
  unfold qualF
  rw [if_neg]
  intro hk
  obtain ⟨x, p, hq⟩ := qs_of hk
  exact h x p hq
def okAt (x : UInt8) (c : UInt8) : Bool := digB c && !(x == 49 && !(c == 48))
theorem qualOk_eq {x : UInt8} {p : List UInt8} (hx : x = 48 ∨ x = 49) (hp : p.length ≤ 3) : qualOk [x] p = p.all (okAt x) := by
  unfold qualOk
  have h1 : ([x] == [48] || [x] == [49]) = true := by rcases hx with rfl | rfl <;> rfl
  rw [h1, decide_eq_true hp]
  simp only [Bool.true_and]
  have e : ([x] == [49]) = (x == 49) := by rcases hx with rfl | rfl <;> rfl
  rw [e]
  induction p with
  | nil => cases x == 49 <;> rfl
  | cons c r ih =>
    rw [List.all_cons, List.all_cons, List.all_cons, ← ih (by simp at hp; omega)]
    unfold okAt
    cases x == 49 <;> cases digB c <;> cases c == 48 <;> cases r.all digB <;> cases (r.all fun x => x == 48) <;> rfl
def nAt (x : UInt8) (p : List UInt8) (j : Nat) : Int := 1000 * dgI [x] 0 + (if 0 < j then 100 * dgI p 0 else 0) + (if 1 < j then 10 * dgI p 1 else 0) + (if 2 < j then dgI p 2 else 0)
def unitAt (j : Nat) : Int := if j = 0 then 100 else if j = 1 then 10 else if j = 2 then 1 else 0
structure RqJ (s : List UInt8) (x : UInt8) (p : List UInt8) (j : Nat) (I N U : Int) (m : Nat) : Prop where
  q : Qs s x p
  le : j ≤ p.length
  I : I = ((2 + j : Nat) : Int)
  N : N = nAt x p j
  U : U = unitAt j
  m : m = p.length - j
  ok : ∀ t, t < j → okAt x (p.getD t 0) = true
theorem Qs.len {s : List UInt8} {x : UInt8} {p : List UInt8} (V : Qs s x p) {j : Nat} (h : j ≤ p.length) : (2 + j < s.length ↔ j < p.length) ∧ s.length ≤ 5 ∧ 0 < s.length ∧ s.getD 0 0 = x := by
  have h3 := V.p
  rcases V.s with ⟨rfl, rfl⟩ | rfl
  · simp at h ⊢
  · simp; omega
theorem Qs.at_ {s : List UInt8} {x : UInt8} {p : List UInt8} (V : Qs s x p) {j : Nat} (h : j < p.length) : s.getD (2 + j) 0 = p.getD j 0 := by
  rcases V.s with ⟨rfl, rfl⟩ | rfl
  · simp at h
  · rw [show 2 + j = j + 1 + 1 by omega]; rfl
theorem qs_test {s : List UInt8} {x : UInt8} {p : List UInt8} {c d : Int} (Q : Qs s x p) (hc : c = charI s 0) (hd : d = charI s 1) (h : ((((decide ((s.length : Int) < 1) || decide (5 < (s.length : Int))) || (c != 48 && c != 49)) || (decide (1 < (s.length : Int)) && d != 46))) = true) : False := by
  have h3 := Q.p
  rcases Q.s with ⟨rfl, rfl⟩ | rfl
  · have hcx : c = 48 ∨ c = 49 := by rw [hc]; rcases Q.x with rfl | rfl <;> simp [charI]
    simp only [List.length_singleton] at h
    rcases hcx with rfl | rfl <;> simp at h
  · have hcx : c = 48 ∨ c = 49 := by rw [hc]; rcases Q.x with rfl | rfl <;> simp [charI]
    have hdx : d = 46 := by rw [hd]; rfl
    simp only [List.length_cons] at h
    have h5 : ¬ (5 < ((p.length + 1 + 1 : Nat) : Int)) := by omega
    have h1 : ¬ (((p.length + 1 + 1 : Nat) : Int) < 1) := by omega
    rw [decide_eq_false h5, decide_eq_false h1, hdx] at h
    rcases hcx with rfl | rfl <;> simp at h
theorem qs_good {s : List UInt8} {c d : Int} (hc : c = charI s 0) (hd : d = charI s 1) (h : ((((decide ((s.length : Int) < 1) || decide (5 < (s.length : Int))) || (c != 48 && c != 49)) || (decide (1 < (s.length : Int)) && d != 46))) = false) : ∃ x p, Qs s x p := by
  simp only [Bool.or_eq_false_iff, decide_eq_false_iff_not, Bool.and_eq_false_iff, bne_eq_false_iff_eq] at h
  obtain ⟨⟨⟨h1, h2⟩, h3⟩, h4⟩ := h
  match s with
  | [] => simp at h1
  | [x] =>
    refine ⟨x, [], .inl ⟨rfl, rfl⟩, ?_, by simp⟩
    rw [hc] at h3
    simp only [charI, List.getD_cons_zero] at h3
    rcases h3 with h3 | h3
    · left; exact UInt8.toNat_inj.1 (by show x.toNat = 48; omega)
    · right; exact UInt8.toNat_inj.1 (by show x.toNat = 49; omega)
  | x :: y :: p =>
    have hy : y = 46 := by
      rcases h4 with h4 | h4
      · exact absurd (by simp only [List.length_cons]; omega) h4
      · rw [hd] at h4
        simp only [charI] at h4
        exact UInt8.toNat_inj.1 (by show y.toNat = 46; have : (y.toNat : Int) = 46 := h4
                                    omega)
    subst hy
    refine ⟨x, p, .inr rfl, ?_, by simp at h2; omega⟩
    rw [hc] at h3
    simp only [charI, List.getD_cons_zero] at h3
    rcases h3 with h3 | h3
    · left; exact UInt8.toNat_inj.1 (by show x.toNat = 48; omega)
    · right; exact UInt8.toNat_inj.1 (by show x.toNat = 49; omega)
def rqJ36 (s : List UInt8) (x : UInt8) (p : List UInt8) (m : Nat) (vs : List (Option SV)) (hp : List Hl) : Prop :=
  ∃ (j : Nat) (I N U : Int), vs = [some (.str s), some (.int .i64 (.a N)), some (.int .i64 (.a U)), some (.int .i64 (.a I))] ∧ hp = [] ∧ RqJ s x p j I N U m
theorem okAt_test {x c : UInt8} {e x1 : Int} (he : e = (c.toNat : Int)) (hx1 : x1 = (x.toNat : Int)) (hx : x = 48 ∨ x = 49) : ((decide (e < 48) || decide (57 < e)) || (x1 == 49 && e != 48)) = !okAt x c := by
  subst he hx1
  have hc : (c == 48) = ((c.toNat : Int) == 48) := by
    rw [Bool.eq_iff_iff, beq_iff_eq, beq_iff_eq]
    constructor
    · rintro rfl; rfl
    · intro h; exact UInt8.toNat_inj.1 (by show c.toNat = 48; omega)
  have hd : digB c = !(decide ((c.toNat : Int) < 48) || decide (57 < (c.toNat : Int))) := by
    unfold digB
    rw [Bool.eq_iff_iff]; simp; omega
  unfold okAt
  rw [hc, hd]
  rcases hx with rfl | rfl
  · show (_ || (((48 : UInt8).toNat : Int) == 49 && _)) = !(_ && !((48 : UInt8) == 49 && _))
    rw [show ((((48 : UInt8).toNat : Nat) : Int) == 49) = false from rfl, show ((48 : UInt8) == 49) = false from rfl]
    simp
  · rw [show ((((49 : UInt8).toNat : Nat) : Int) == 49) = true from rfl, show ((49 : UInt8) == 49) = true from rfl]
    simp [bne]
theorem dig_of {x c : UInt8} (h : okAt x c = true) : 48 ≤ c.toNat ∧ c.toNat ≤ 57 := by
  unfold okAt digB at h
  simp only [Bool.and_eq_true, decide_eq_true_eq] at h
  exact h.1
theorem unit_step {x : UInt8} {p : List UInt8} {j : Nat} (h : j < p.length) (h3 : j < 3) : nAt x p (j + 1) = nAt x p j + unitAt j * (((p.getD j 0).toNat : Int) - 48) ∧ Int.tdiv (unitAt j) 10 = unitAt (j + 1) ∧ IntKind.i64.wrap (unitAt (j + 1)) = unitAt (j + 1) := by
  have e : dgI p j = ((p.getD j 0).toNat : Int) - 48 := by
    unfold dgI
    rw [List.getD_eq_getElem?_getD, List.getD_eq_getElem?_getD, List.getElem?_eq_getElem h]; rfl
  rw [← e]
  rcases (by omega : j = 0 ∨ j = 1 ∨ j = 2) with rfl | rfl | rfl
  · exact ⟨by simp [nAt, unitAt], by decide, by decide⟩
  · exact ⟨by simp [nAt, unitAt], by decide, by decide⟩
  · exact ⟨by simp [nAt, unitAt], by decide, by decide⟩
theorem nAt_le {x : UInt8} {p : List UInt8} (hx : x = 48 ∨ x = 49) {j : Nat} (h : ∀ t, t < j → okAt x (p.getD t 0) = true) : 0 ≤ nAt x p j ∧ nAt x p j ≤ 1999 := by
  have d : ∀ t, t < j → 0 ≤ dgI p t ∧ dgI p t ≤ 9 := by
    intro t ht
    have := dig_of (h t ht)
    unfold dgI
    rw [List.getD_eq_getElem?_getD] at this ⊢
    cases hp : p[t]? with
    | none => simp
    | some c => rw [hp] at this; simp at this ⊢; omega
  have hx2 : 0 ≤ dgI [x] 0 ∧ dgI [x] 0 ≤ 1 := by rcases hx with rfl | rfl <;> decide
  unfold nAt
  have d0 := d 0; have d1 := d 1; have d2 := d 2
  split <;> split <;> split <;> omega
theorem nAt_all {x : UInt8} {p : List UInt8} (h : p.length ≤ 3) : nAt x p p.length = qualV [x] p := by
  match p, h with
  | [], _ => simp [nAt, qualV, dgI]
  | [a], _ => simp [nAt, qualV, dgI]
  | [a, b], _ => simp [nAt, qualV, dgI]
  | [a, b, c], _ => simp [nAt, qualV, dgI]
  | _ :: _ :: _ :: _ :: _, h => simp at h
structure B05 (D : Dn) (s : List UInt8) : Prop where
  h : D.b (.not (.or (.cmp .lss (.len s) (.l 1)) (.cmp .gtr (.len s) (.l 5)))) = true → 0 < s.length
structure RqC (s : List UInt8) (x : UInt8) (p : List UInt8) (j : Nat) (I : Int) : Prop where
  I : ST.den (.a I) = ((2 + j : Nat) : Int)
  lt : 2 + j < s.length
  ch : charI s (2 + j) = ((p.getD j 0).toNat : Int)
  x0 : charI s 0 = (x.toNat : Int)
theorem RqC.inS {D : Dn} (hD : D = dn) {s : List UInt8} {x : UInt8} {p : List UInt8} {j : Nat} {I : Int} (V : RqC s x p j I) : InS (D.i (.a I)) s := by
  subst hD; exact inS_of V.I V.lt
theorem refQuality_ok : FnOk Tryz.prog gl 36 spQual := by
  refine fnOk (gh := []) mixed cxOk tabNil Tryz.func36 (by kernel_rfl) (by kernel_rfl) ?_
  intro xs ls K h
  unfold spQual at h
  obtain ⟨s, rfl, rfl, hl, h⟩ := h
  obtain ⟨k, hk⟩ : ∃ k, k = qualF s := ⟨_, rfl⟩
  obtain ⟨kn, ke⟩ := k
  refine ⟨_, _, h kn ke hk, fun D hD => ?_⟩
  clear h
  cbv
  have b0 : B05 D s := ⟨fun h => by subst hD; have h : (!(decide ((s.length : Int) < 1) || decide (5 < (s.length : Int)))) = true := h; simp only [Bool.not_eq_true', Bool.or_eq_false_iff, decide_eq_false_iff_not] at h; omega⟩
  refine ⟨fun hg => ?_, fun c hc => ?_⟩
  · have := b0.h hg
    subst hD; exact inS_of (e := .l 0) (i := 0) rfl this
  have hc2 := byteAt (e := .l 0) (i := 0) hD rfl hc
  clear hc
  cbv
  refine ⟨fun hg => ?_, fun c' hc' => ?_⟩
  · intro hg1
    have := b0.h hg1
    subst hD; exact inS_of (e := .l 0) (i := 0) rfl this
  have hc2' := byteAt (e := .l 0) (i := 0) hD rfl hc'
  obtain rfl : c' = c := by rw [hc2'.h, hc2.h]
  clear hc' hc2'
  cbv
  refine ⟨fun hg => ?_, fun d hd => ?_⟩
  · intro _
    subst hD
    have h1 : 1 < (s.length : Int) := of_decide_eq_true (p := 1 < (s.length : Int)) hg
    exact inS_of (e := .l 1) (i := 1) rfl (by omega)
  have hd2 := byteAt (e := .l 1) (i := 1) hD rfl hd
  clear hd b0
  cbv
  refine br hD (fun h => ?_) (fun h => ?_) <;> cbv
  · have h : ((((decide ((s.length : Int) < 1) || decide (5 < (s.length : Int))) || (c' != 48 && c' != 49)) || (decide (1 < (s.length : Int)) && d != 46))) = true := h
    rw [qual_bad fun x p Q => qs_test Q hc2.charI hd2.charI h] at hk
    exact finQual (x := .l 0) (y := .l 6) hD hk
  have h : ((((decide ((s.length : Int) < 1) || decide (5 < (s.length : Int))) || (c' != 48 && c' != 49)) || (decide (1 < (s.length : Int)) && d != 46))) = false := h
  obtain ⟨x, p, Q⟩ := qs_good hc2.charI hd2.charI h
  clear h hd2
  obtain ⟨q1, q2⟩ := Q.cut
  rw [qualF, q1, q2, qualOk_eq Q.x Q.p] at hk
  have hx0 : charI s 0 = (x.toNat : Int) := by
    unfold charI; rw [(Q.len (Nat.zero_le _)).2.2.2]
  have hs0 : 0 < s.length := (Q.len (Nat.zero_le _)).2.2.1
  refine ⟨by subst hD; exact inS_of (e := .l 0) (i := 0) rfl hs0, fun c0 hc0 => ?_⟩
  have hc02 := byteAt (e := .l 0) (i := 0) hD rfl hc0
  clear hc0 hc2
  cbv
  obtain ⟨J, hJ⟩ : ∃ J, J = rqJ36 s x p := ⟨_, rfl⟩
  refine ⟨[0, 4, 5, 6], J, ⟨rfl, p.length, ?_⟩, ?_⟩
  · rw [hJ]
    subst hD
    refine ⟨0, _, _, _, rfl, rfl, ⟨Q, Nat.zero_le _, rfl, ?_, rfl, rfl, by simp⟩⟩
    have hb : 48 ≤ c0 ∧ c0 ≤ 49 := by rw [hc02.charI, hx0]; rcases Q.x with rfl | rfl <;> decide
    show IntKind.i64.wrap (1000 * IntKind.i64.wrap (IntKind.u8.wrap (c0 - 48))) = _
    rw [wrap8 (by omega) (by omega), wrap64 (n := c0 - 48) (by omega) (by omega), wrap64 (by omega) (by omega)]
    rw [hc02.charI, hx0]
    simp [nAt, dgI]
  clear hc02
  intro m vs hp' hv
  rw [hJ] at hv
  unfold rqJ36 at hv
  obtain ⟨j, I, N, U, rfl, rfl, V⟩ := hv
  cbv
  refine br hD (fun h => ?_) (fun h => ?_) <;> cbv
  · have hlt : j < p.length := by
      have h := of_decide_eq_true (p := I < (s.length : Int)) h
      have h1 := V.I
      exact (Q.len V.le).1.1 (by omega)
    clear h
    have hch : charI s (2 + j) = ((p.getD j 0).toNat : Int) := by unfold charI; rw [Q.at_ hlt]
    have hC : RqC s x p j I := ⟨V.I, (Q.len V.le).1.2 hlt, hch, hx0⟩
    clear hch
    refine ⟨hC.inS hD, fun c hc => ?_⟩
    have hc2 := byteAt hD hC.I hc
    clear hc
    cbv
    refine ⟨fun _ => hC.inS hD, fun e he => ?_⟩
    have he2 := byteAt hD hC.I he
    obtain rfl : e = c := by rw [he2.h, hc2.h]
    clear he he2
    cbv
    refine ⟨fun _ => by subst hD; exact inS_of (e := .l 0) (i := 0) rfl hs0, fun x1 hx1 => ?_⟩
    have hx2 := byteAt (e := .l 0) (i := 0) hD rfl hx1
    clear hx1
    cbv
    refine ⟨fun _ _ => hC.inS hD, fun e2 he2 => ?_⟩
    obtain rfl : e2 = e := by have := byteAt hD hC.I he2; rw [this.h, hc2.h]
    clear he2
    cbv
    refine br hD (fun h => ?_) (fun h => ?_) <;> cbv
    · have h : ((decide (e2 < 48) || decide (57 < e2)) || (x1 == 49 && e2 != 48)) = true := h
      rw [okAt_test (hc2.charI.trans hC.ch) (hx2.charI.trans hC.x0) Q.x] at h
      have hb : p.all (okAt x) = false := by
        rw [List.all_eq_false]
        exact ⟨p.getD j 0, by rw [List.getD_eq_getElem?_getD, List.getElem?_eq_getElem hlt]; exact List.getElem_mem hlt, by simpa using h⟩
      rw [hb, if_neg (by simp)] at hk
      exact finQual (x := .l 0) (y := .l 6) hD hk
    have h : ((decide (e2 < 48) || decide (57 < e2)) || (x1 == 49 && e2 != 48)) = false := h
    rw [okAt_test (hc2.charI.trans hC.ch) (hx2.charI.trans hC.x0) Q.x] at h
    have hok : okAt x (p.getD j 0) = true := by simpa using h
    clear h
    refine ⟨hC.inS hD, fun e3 he3 => ?_⟩
    obtain rfl : e3 = e2 := by have := byteAt hD hC.I he3; rw [this.h, hc2.h]
    clear he3
    cbv
    refine ⟨⟨by subst hD; show (10 : Int) ≠ 0; omega⟩, ?_⟩
    have hdg := dig_of hok
    have hj3 : j < 3 := by have := Q.p; omega
    obtain ⟨u1, u2, u3⟩ := unit_step (x := x) hlt hj3
    refine ⟨p.length - (j + 1), by have := V.m; omega, ?_⟩
    rw [hJ]
    subst hD
    have hce : e3 = ((p.getD j 0).toNat : Int) := hc2.charI.trans hC.ch
    have hN := V.N; have hU := V.U; have hI := V.I
    have hnb := nAt_le (p := p) Q.x (j := j) V.ok
    refine ⟨j + 1, _, _, _, rfl, rfl, ⟨Q, by omega, ?_, ?_, ?_, rfl, fun t ht => ?_⟩⟩
    · show IntKind.i64.wrap (I + 1) = _
      rw [hI, wrap64 (by omega) (by omega)]; omega
    · show IntKind.i64.wrap (N + IntKind.i64.wrap (U * IntKind.i64.wrap (IntKind.u8.wrap (e3 - 48)))) = _
      rw [u1, wrap8 (by omega) (by omega), wrap64 (n := e3 - 48) (by omega) (by omega), hN, hU, hce]
      have hU2 : 0 ≤ unitAt j ∧ unitAt j ≤ 100 := by unfold unitAt; split <;> (try split) <;> (try split) <;> omega
      have hm : 0 ≤ unitAt j * (((p.getD j 0).toNat : Int) - 48) ∧ unitAt j * (((p.getD j 0).toNat : Int) - 48) ≤ 900 := by
        constructor
        · exact Int.mul_nonneg hU2.1 (by omega)
        · have := Int.mul_le_mul hU2.2 (show ((p.getD j 0).toNat : Int) - 48 ≤ 9 by omega) (by omega) (by omega)
          omega
      rw [wrap64 (n := unitAt j * _) (by omega) (by omega), wrap64 (by omega) (by omega)]
    · show IntKind.i64.wrap (Int.tdiv U 10) = _
      rw [hU, u2]; exact u3
    · by_cases e : t = j
      · rw [e]; exact hok
      · exact V.ok t (by omega)
  · have hlt : ¬ j < p.length := by
      have h := of_decide_eq_false (p := I < (s.length : Int)) h
      have h1 := V.I
      intro hj
      have := (Q.len V.le).1.2 hj
      omega
    have hje : j = p.length := by have := V.le; omega
    have hall : p.all (okAt x) = true := by
      rw [List.all_eq_true]
      intro c hc
      obtain ⟨t, ht, rfl⟩ := List.mem_iff_getElem.1 hc
      have := V.ok t (by omega)
      rw [List.getD_eq_getElem?_getD, List.getElem?_eq_getElem ht] at this
      exact this
    rw [hall, if_pos rfl] at hk
    refine finQual (x := .a N) (y := .l 0) hD ?_
    rw [hk]
    show (qualV [x] p, (0 : Int)) = (N, 0)
    rw [V.N, hje, nAt_all Q.p]
end Go.Proofs.YtfchfhjpldppjaaGreatDoor
namespace Go.Proofs.YtfchfhjpldppjaaGreatDoor
open Go.Sx
set_option maxRecDepth 100000
set_option maxHeartbeats 4000000
/-! A quality in digits. -/
def pqR : List Nat → Nat → List UInt8
  | [], _ => []
  | u :: r, d => if d = 0 then [] else UInt8.ofNat (48 + d / u) :: pqR r (d % u)
def pqN (n : Nat) : List UInt8 := if n % 1000 = 0 then [UInt8.ofNat (48 + n / 1000)] else UInt8.ofNat (48 + n / 1000) :: 46 :: pqR [100, 10, 1] (n % 1000)
def pqF (n : Int) : List UInt8 × Int := if 0 ≤ n ∧ n ≤ 1000 then (pqN n.toNat, 0) else ([], 7)
def pqChk (n : Nat) : Bool := qualF (pqN n) == ((n : Int), 0) && decide ((pqN n).length ≤ 5) && (!(n % 10 == 0) || decide ((pqN n).length ≤ 4)) && (!(n % 100 == 0) || decide ((pqN n).length ≤ 3)) && (!(n % 1000 == 0) || decide ((pqN n).length ≤ 1))
  && (Lib.trimRightB (Lib.trimRightB (UInt8.ofNat (48 + n / 1000) :: 46 :: [UInt8.ofNat (48 + n % 1000 / 100), UInt8.ofNat (48 + n % 1000 / 10 % 10), UInt8.ofNat (48 + n % 1000 % 10)]) 48) 46 == pqN n)
theorem pq_all : ((List.range 1001).all pqChk) = true := by decide +kernel
theorem pq_at {n : Nat} (h : n ≤ 1000) : pqChk n = true := by
  have := pq_all
  rw [List.all_eq_true] at this
  exact this n (by simp; omega)
theorem pq_qual {n : Nat} (h : n ≤ 1000) : qualF (pqN n) = ((n : Int), 0) := by
  have := pq_at h
  simp only [pqChk, Bool.and_eq_true, beq_iff_eq] at this
  exact this.1.1.1.1.1
theorem pq_len {n : Nat} (h : n ≤ 1000) : (pqN n).length ≤ 5 ∧ (n % 10 = 0 → (pqN n).length ≤ 4) ∧ (n % 100 = 0 → (pqN n).length ≤ 3) ∧ (n % 1000 = 0 → (pqN n).length ≤ 1) := by
  have := pq_at h
  simp only [pqChk, Bool.and_eq_true, Bool.or_eq_true, Bool.not_eq_true', beq_eq_false_iff_ne, beq_iff_eq, decide_eq_true_eq] at this
  obtain ⟨⟨⟨⟨⟨_, h1⟩, h2⟩, h3⟩, h4⟩, _⟩ := this
  exact ⟨h1, fun e => h2.resolve_left (fun x => x e), fun e => h3.resolve_left (fun x => x e), fun e => h4.resolve_left (fun x => x e)⟩
theorem pq_trim {n : Nat} (h : n ≤ 1000) : Lib.trimRightB (Lib.trimRightB (UInt8.ofNat (48 + n / 1000) :: 46 :: [UInt8.ofNat (48 + n % 1000 / 100), UInt8.ofNat (48 + n % 1000 / 10 % 10), UInt8.ofNat (48 + n % 1000 % 10)]) 48) 46 = pqN n := by
  have := pq_at h
  simp only [pqChk, Bool.and_eq_true, beq_iff_eq] at this
  exact this.2
theorem dec_lt {u : Nat} (h : u < 10) : Lib.decDigits u = [UInt8.ofNat (48 + u)] := by rw [Lib.decDigits, dif_pos h]
theorem dec_step {u : Nat} (h : 10 ≤ u) : Lib.decDigits u = Lib.decDigits (u / 10) ++ [UInt8.ofNat (48 + u % 10)] := by rw [Lib.decDigits, dif_neg (by omega)]
theorem itoa_one {n : Nat} (h : n ≤ 1000) : Lib.itoa (Int.tdiv (n : Int) 1000) = [UInt8.ofNat (48 + n / 1000)] := by
  have e : Int.tdiv (n : Int) 1000 = ((n / 1000 : Nat) : Int) := by
    rw [Int.tdiv_eq_ediv_of_nonneg (by omega)]; omega
  rw [e, Lib.itoa, if_neg (by omega), Int.toNat_natCast, dec_lt (by omega)]
theorem itoa_four {n : Nat} (h : n ≤ 1000) : Lib.itoa (1000 + Int.tmod (n : Int) 1000) = [49, UInt8.ofNat (48 + n % 1000 / 100), UInt8.ofNat (48 + n % 1000 / 10 % 10), UInt8.ofNat (48 + n % 1000 % 10)] := by
  have e : 1000 + Int.tmod (n : Int) 1000 = ((1000 + n % 1000 : Nat) : Int) := by
    rw [Int.tmod_eq_emod_of_nonneg (by omega)]; omega
  rw [e, Lib.itoa, if_neg (by omega), Int.toNat_natCast, dec_step (by omega), dec_step (by omega), dec_step (by omega), dec_lt (by omega)]
  have e1 : (1000 + n % 1000) / 10 / 10 / 10 = 1 := by omega
  have e2 : (1000 + n % 1000) / 10 / 10 % 10 = n % 1000 / 100 := by omega
  have e3 : (1000 + n % 1000) / 10 % 10 = n % 1000 / 10 % 10 := by omega
  have e4 : (1000 + n % 1000) % 10 = n % 1000 % 10 := by omega
  rw [e1, e2, e3, e4]
  rfl
theorem digB_le {c : UInt8} (h : digB c = true) : 48 ≤ c.toNat ∧ c.toNat ≤ 57 := by
  unfold digB at h
  simpa using h
theorem z48 {c : UInt8} (h : (c == 48) = true) : c.toNat = 48 := by rw [beq_iff_eq.1 h]; rfl
/-- What a quality's text gives is a quality, and no text of it is shorter. -/
theorem qual_pq {s : List UInt8} {q : Int} (h : qualF s = (q, 0)) : ∃ n : Nat, n ≤ 1000 ∧ q = n ∧ (pqN n).length ≤ s.length := by
  unfold qualF at h
  split at h
  · rename_i hok
    obtain ⟨x, p, Q⟩ := qs_of hok
    obtain ⟨q1, q2⟩ := Q.cut
    rw [q1, q2] at h hok
    simp only [Prod.mk.injEq, and_true] at h
    have hx : x.toNat = 48 ∨ x.toNat = 49 := by rcases Q.x with rfl | rfl <;> simp
    have h1 : x.toNat = 49 → ∀ c ∈ p, (c == 48) = true := by
      intro hx c hc
      have hx : x = 49 := UInt8.toNat_inj.1 hx
      subst hx
      simp only [qualOk, Bool.and_eq_true, Bool.not_eq_true', Bool.and_eq_false_iff, Bool.not_eq_false', List.all_eq_true] at hok
      rcases hok.2 with h | h
      · simp at h
      · exact h c hc
    have hd : ∀ c ∈ p, digB c = true := by
      simp only [qualOk, Bool.and_eq_true, List.all_eq_true] at hok
      exact hok.1.2
    have hl : s.length = 1 ∧ p = [] ∨ s.length = p.length + 2 := by
      rcases Q.s with ⟨rfl, rfl⟩ | rfl
      · exact .inl ⟨rfl, rfl⟩
      · exact .inr rfl
    match p, Q.p, h, h1, hd, hl with
    | [], _, h, _, _, hl =>
      simp only [qualV, dgI, List.getD_cons_zero, List.getD_nil] at h
      have e : ∃ n : Nat, n ≤ 1000 ∧ q = n ∧ n % 1000 = 0 := ⟨1000 * (x.toNat - 48), by omega, by rw [← h]; show _ = _; simp; omega, by omega⟩
      obtain ⟨n, a, b, c⟩ := e
      exact ⟨n, a, b, Nat.le_trans ((pq_len a).2.2.2 c) (by rcases hl with ⟨hl, _⟩ | hl <;> omega)⟩
    | [a], _, h, h1, hd, hl =>
      have da := digB_le (hd a (by simp))
      have za : x.toNat = 49 → a.toNat = 48 := fun hx => z48 (h1 hx a (by simp))
      simp only [qualV, dgI, List.getD_cons_zero, List.getD_cons_succ, List.getD_nil] at h
      have e : ∃ n : Nat, n ≤ 1000 ∧ q = n ∧ n % 100 = 0 := ⟨1000 * (x.toNat - 48) + 100 * (a.toNat - 48), by omega, by rw [← h]; show _ = _; simp; omega, by omega⟩
      obtain ⟨n, e1, b, c⟩ := e
      exact ⟨n, e1, b, Nat.le_trans ((pq_len e1).2.2.1 c) (by rcases hl with ⟨_, hl⟩ | hl; · cases hl
                                                              · simp at hl; omega)⟩
    | [a, b], _, h, h1, hd, hl =>
      have da := digB_le (hd a (by simp))
      have db := digB_le (hd b (by simp))
      have za : x.toNat = 49 → a.toNat = 48 := fun hx => z48 (h1 hx a (by simp))
      have zb : x.toNat = 49 → b.toNat = 48 := fun hx => z48 (h1 hx b (by simp))
      simp only [qualV, dgI, List.getD_cons_zero, List.getD_cons_succ, List.getD_nil] at h
      have e : ∃ n : Nat, n ≤ 1000 ∧ q = n ∧ n % 10 = 0 := ⟨1000 * (x.toNat - 48) + 100 * (a.toNat - 48) + 10 * (b.toNat - 48), by omega, by rw [← h]; show _ = _; simp; omega, by omega⟩
      obtain ⟨n, e1, e2, c⟩ := e
      exact ⟨n, e1, e2, Nat.le_trans ((pq_len e1).2.1 c) (by rcases hl with ⟨_, hl⟩ | hl; · cases hl
                                                             · simp at hl; omega)⟩
    | [a, b, c], _, h, h1, hd, hl =>
      have da := digB_le (hd a (by simp))
      have db := digB_le (hd b (by simp))
      have dc := digB_le (hd c (by simp))
      have za : x.toNat = 49 → a.toNat = 48 := fun hx => z48 (h1 hx a (by simp))
      have zb : x.toNat = 49 → b.toNat = 48 := fun hx => z48 (h1 hx b (by simp))
      have zc : x.toNat = 49 → c.toNat = 48 := fun hx => z48 (h1 hx c (by simp))
      simp only [qualV, dgI, List.getD_cons_zero, List.getD_cons_succ] at h
      have e : ∃ n : Nat, n ≤ 1000 ∧ q = n := ⟨1000 * (x.toNat - 48) + 100 * (a.toNat - 48) + 10 * (b.toNat - 48) + (c.toNat - 48), by omega, by rw [← h]; show _ = _; simp; omega⟩
      obtain ⟨n, e1, e2⟩ := e
      exact ⟨n, e1, e2, Nat.le_trans ((pq_len e1).1) (by rcases hl with ⟨_, hl⟩ | hl; · cases hl
                                                         · simp at hl; omega)⟩
    | _ :: _ :: _ :: _ :: _, hp, _, _, _, _ => simp at hp
  · simp at h
end Go.Proofs.YtfchfhjpldppjaaGreatDoor
namespace Go.Proofs.YtfchfhjpldppjaaGreatDoor
open Go Go.Sx Go.RowKit Go.Sort
set_option maxRecDepth 100000
/-! strconv.Itoa and strings.TrimRight by the shelf; the table that Itoa reads. -/
def tlaysM171_ren : Go.Shelf.Ren := ⟨fun | 171 => 61 | 243 => 85 | 246 => 105 | 283 => 118 | 284 => 119 | 285 => 120 | 286 => 121 | 129 => 135 | 317 => 134 | 318 => 136 | 319 => 137 | 320 => 138 | 337 => 145 | 338 => 146 | n => n, fun | 3 => 3 | 9 => 9 | 2 => 2 | 4 => 4 | 171 => 130 | 0 => 0 | 53 => 131 | 37 => 43 | 5 => 5 | 173 => 134 | 212 => 146 | 51 => 147 | 20 => 20 | 213 => 148 | 46 => 129 | 232 => 162 | 233 => 163 | n => n, fun | 17 => 3 | 18 => 6 | 19 => 7 | n => n⟩
theorem tlaysM171 : Go.Proofs.LaysM.n171 Tryz.prog tlaysM171_ren := {
  mixed := by kernel_rfl
  f129 := Tryz.func135.trans (congrArg some (by kernel_rfl))
  f171 := Tryz.func61.trans (congrArg some (by kernel_rfl))
  f243 := Tryz.func85.trans (congrArg some (by kernel_rfl))
  f246 := Tryz.func105.trans (congrArg some (by kernel_rfl))
  f283 := Tryz.func118.trans (congrArg some (by kernel_rfl))
  f284 := Tryz.func119.trans (congrArg some (by kernel_rfl))
  f285 := Tryz.func120.trans (congrArg some (by kernel_rfl))
  f286 := Tryz.func121.trans (congrArg some (by kernel_rfl))
  f317 := Tryz.func134.trans (congrArg some (by kernel_rfl))
  f318 := Tryz.func136.trans (congrArg some (by kernel_rfl))
  f319 := Tryz.func137.trans (congrArg some (by kernel_rfl))
  f320 := Tryz.func138.trans (congrArg some (by kernel_rfl))
  f337 := Tryz.func145.trans (congrArg some (by kernel_rfl))
  f338 := Tryz.func146.trans (congrArg some (by kernel_rfl))
  t0 := Tryz.underlying0
  a0 := Tryz.isAgg0
  z0 := Tryz.sizeOf0
  v0 := Tryz.zeroValue0
  t2 := Tryz.underlying2
  a2 := Tryz.isAgg2
  z2 := Tryz.sizeOf2
  v2 := Tryz.zeroValue2
  t3 := Tryz.underlying3
  a3 := Tryz.isAgg3
  z3 := Tryz.sizeOf3
  v3 := Tryz.zeroValue3
  t4 := Tryz.underlying4
  a4 := Tryz.isAgg4
  z4 := Tryz.sizeOf4
  v4 := Tryz.zeroValue4
  t5 := Tryz.underlying5
  a5 := Tryz.isAgg5
  z5 := Tryz.sizeOf5
  v5 := Tryz.zeroValue5
  t9 := Tryz.underlying9
  a9 := Tryz.isAgg9
  z9 := Tryz.sizeOf9
  v9 := Tryz.zeroValue9
  t20 := Tryz.underlying20
  a20 := Tryz.isAgg20
  z20 := Tryz.sizeOf20
  v20 := Tryz.zeroValue20
  t37 := Tryz.underlying43
  a37 := Tryz.isAgg43
  z37 := Tryz.sizeOf43
  v37 := Tryz.zeroValue43
  t46 := Tryz.underlying129
  a46 := Tryz.isAgg129
  z46 := Tryz.sizeOf129
  v46 := Tryz.zeroValue129
  t51 := Tryz.underlying147
  a51 := Tryz.isAgg147
  z51 := Tryz.sizeOf147
  v51 := Tryz.zeroValue147
  t53 := Tryz.underlying131
  a53 := Tryz.isAgg131
  z53 := Tryz.sizeOf131
  v53 := Tryz.zeroValue131
  t171 := Tryz.underlying130
  a171 := Tryz.isAgg130
  z171 := Tryz.sizeOf130
  v171 := Tryz.zeroValue130
  t173 := Tryz.underlying134
  a173 := Tryz.isAgg134
  z173 := Tryz.sizeOf134
  v173 := Tryz.zeroValue134
  t212 := Tryz.underlying146
  a212 := Tryz.isAgg146
  z212 := Tryz.sizeOf146
  v212 := Tryz.zeroValue146
  t213 := Tryz.underlying148
  a213 := Tryz.isAgg148
  z213 := Tryz.sizeOf148
  t232 := Tryz.underlying162
  a232 := Tryz.isAgg162
  z232 := Tryz.sizeOf162
  v232 := Tryz.zeroValue162
  t233 := Tryz.underlying163
  a233 := Tryz.isAgg163
  z233 := Tryz.sizeOf163
  v233 := Tryz.zeroValue163
  g17 := by kernel_rfl
  g18 := by kernel_rfl
  g19 := by kernel_rfl
  i0 := by kernel_rfl
  i2 := by kernel_rfl
  i3 := by kernel_rfl
  i4 := by kernel_rfl
  i5 := by kernel_rfl
  i9 := by kernel_rfl
  i20 := by kernel_rfl
  i37 := by kernel_rfl
  i46 := by kernel_rfl
  i51 := by kernel_rfl
  i53 := by kernel_rfl
  i171 := by kernel_rfl
  i173 := by kernel_rfl
  i212 := by kernel_rfl
  i232 := by kernel_rfl
  i233 := by kernel_rfl
  m17 := by kernel_rfl
  m18 := by kernel_rfl
  m19 := by kernel_rfl }
theorem kPow : Tryz.prog.globalNamed "internal/strconv.uint64pow10" = some 3 := by kernel_rfl
def powRow (i : Nat) : List SV := [.int .u64 (.a (Lib.pow10Tab.getD i 0))]
def glq : List (Nat × SV) := [(3, .rarr 20 1 powRow)]
theorem fnOk_gl {f : FuncId} {sp : FSpec} (h : FnOk Tryz.prog gl f sp) : FnOk Tryz.prog glq f sp :=
  ⟨h.1, fun xs ls K hs => let ⟨r, ls', hk, hc⟩ := h.2 xs ls K hs; ⟨r, ls', hk, fun B E w vals a b c d _ => hc B E w vals a b c d (fun _ _ hh => nomatch hh)⟩⟩
theorem tab_of {B : Bs} (hg : glOk B glq) : Lib.TabIs Tryz.prog B.w0 "internal/strconv.uint64pow10" .u64 Lib.pow10Tab := by
  obtain ⟨h1, h2, h3, C, t, fr, h4, h5⟩ := hg 3 (.rarr 20 1 powRow) rfl
  unfold Lib.TabIs World.var?
  rw [kPow]
  simp only [Option.bind_some, h4, Option.some.injEq]
  generalize hp : Value.pointer (some ⟨3, 0, none⟩) = p at h1
  cases h1 with
  | rarr g hs hl h1 hcell hrel =>
    cases hp
    refine Array.ext (by rw [h5]; simp [Lib.pow10Tab_length]) fun i hi hi' => ?_
    rw [h5] at hi
    have hc := (hcell i 0 (by omega) (by omega)).1
    have hr := hrel i 0 (.int .u64 (.a (Lib.pow10Tab.getD i 0))) (by omega) rfl
    have e : C[i]? = some (g i 0) := by
      rw [← hc]
      simp [World.cell?, h4]
    rw [Array.getElem?_eq_getElem (by omega)] at e
    have e2 : g i 0 = .int .u64 (Lib.pow10Tab.getD i 0) := by
      generalize g i 0 = v at hr
      cases hr with
      | int h => rw [← h]; rfl
    rw [e2] at e
    rw [Option.some.inj e]
    have hi20 : i < Lib.pow10Tab.length := by rw [Lib.pow10Tab_length]; omega
    simp [List.getD_eq_getElem?_getD, List.getElem?_eq_getElem hi20]
def spItoa : FSpec := fun _ xs ls K => ∃ (n : Int), xs = [.int .i64 (.a n)] ∧ ls = [] ∧ -9223372036854775808 ≤ n ∧ n ≤ 9223372036854775807 ∧ ∀ r, r = Lib.itoa n → K (.str r) []
theorem itoa_ok : FnOk Tryz.prog glq 61 spItoa := by
  refine ⟨⟨Tryz.f61, _, Tryz.func61, rfl, by kernel_rfl⟩, fun xs ls K h => ?_⟩
  obtain ⟨n, rfl, rfl, h0, h1, h⟩ := h
  refine ⟨_, _, h _ rfl, callsTo_below fun E B w vals hg hb hw hr => ?_⟩
  obtain ⟨v, rfl, hv⟩ := relL_one hr
  rw [rel_int hv]
  refine (Any.strconv_Itoa tlaysM171 n h0 h1 w (by rw [← hw]; exact tab_of hg)).mono ?_
  rintro e w' ⟨rfl, k, os, rfl⟩
  refine ⟨_, rfl, fun E => .ro (.str rfl), ⟨rfl, rfl, rfl, ?_, fun j hj => ?_⟩⟩
  · simp [grow, World.drewN]
  · show (w.heap ++ os)[j]? = w.heap[j]?
    rw [Array.getElem?_append_left hj]
def spTrimR : FSpec := fun _ xs ls K => ∃ (s : List UInt8) (c : UInt8), xs = [.str s, .str [c]] ∧ ls = [] ∧ s.length ≤ 9223372036854775807 ∧ c.toNat < 128 ∧ ∀ r, r = Lib.trimRightB s c → K (.str r) []
theorem trimR_ok : FnOk Tryz.prog glq 62 spTrimR := by
  refine ⟨⟨Tryz.f62, _, Tryz.func62, rfl, by kernel_rfl⟩, fun xs ls K h => ?_⟩
  obtain ⟨s, c, rfl, rfl, hs, hc, h⟩ := h
  refine ⟨_, _, h _ rfl, callsTo_below fun E B w vals _ _ _ hr => ?_⟩
  obtain ⟨v, u, rfl, hv, hu⟩ := relL_two hr
  rw [rel_str hv, rel_str hu]
  refine (sh_strings_TrimRight_one ⟨s.toArray⟩ c hc w (by simpa [ByteArray.size] using hs)).mono ?_
  rintro e w' ⟨rfl, rfl⟩
  exact ⟨_, rfl, fun E => .ro (.str rfl), Below.refl _ _⟩
end Go.Proofs.YtfchfhjpldppjaaGreatDoor
namespace Go.Proofs.YtfchfhjpldppjaaGreatDoor
open Go.Sx
set_option maxRecDepth 10000
set_option maxHeartbeats 8000000
/-! PrintQuality of the document. -/
def spPQ : FSpec := fun _ xs ls K => ∃ (n : Int), xs = [.int .i64 (.a n)] ∧ ls = [] ∧ ∀ s e, (s, e) = pqF n → K (.tup [.str s, .int .i64 (.a e)]) []
def pqW (n : Nat) : List UInt8 := UInt8.ofNat (48 + n / 1000) :: 46 :: pqR [100, 10, 1] (n % 1000)
structure PqJ (w : List UInt8) (j : Nat) (s : List UInt8) (d u : Int) (m : Nat) : Prop where
  jj : j ≤ 3
  kk : ∃ k : Nat, d = k ∧ (j = 0 → k < 1000) ∧ (j = 1 → k < 100) ∧ (j = 2 → k < 10) ∧ (j = 3 → k = 0) ∧ w = s ++ pqR ([100, 10, 1].drop j) k
  uu : u = unitAt j
  mm : m = 3 - j
  ll : s.length = 2 + j
theorem PqJ.lt {w : List UInt8} {j : Nat} {s : List UInt8} {d u : Int} {m : Nat} (V : PqJ w j s d u m) (hd : 0 < d) : j < 3 ∧ 0 ≤ Int.tdiv d u ∧ Int.tdiv d u ≤ 9 ∧ u ≠ 0 ∧ 0 ≤ Int.tmod d u ∧ Int.tmod d u < 1000 ∧ Int.tdiv u 10 = unitAt (j + 1) ∧ 0 ≤ unitAt (j + 1) ∧ unitAt (j + 1) ≤ 10 := by
  obtain ⟨k, rfl, h0, h1, h2, h3, _⟩ := V.kk
  have hu := V.uu
  rw [Int.tdiv_eq_ediv_of_nonneg (by omega), Int.tmod_eq_emod_of_nonneg (by omega)]
  have hj := V.jj
  rcases (by omega : j = 0 ∨ j = 1 ∨ j = 2 ∨ j = 3) with rfl | rfl | rfl | rfl
  · have hu : u = 100 := hu
    have := h0 rfl
    subst hu
    refine ⟨by omega, by omega, by omega, by omega, by omega, by omega, by decide, by decide, by decide⟩
  · have hu : u = 10 := hu
    have := h1 rfl
    subst hu
    refine ⟨by omega, by omega, by omega, by omega, by omega, by omega, by decide, by decide, by decide⟩
  · have hu : u = 1 := hu
    have := h2 rfl
    subst hu
    refine ⟨by omega, by omega, by omega, by omega, by omega, by omega, by decide, by decide, by decide⟩
  · exact absurd (h3 rfl) (by omega)
theorem ofNat_eq {c : UInt8} {n : Nat} (h : c.toNat = n) : c = UInt8.ofNat n := by rw [← h]; simp
theorem PqJ.step {w : List UInt8} {j : Nat} {s : List UInt8} {d u : Int} {m : Nat} (V : PqJ w j s d u m) (hd : 0 < d) {r : List UInt8} {c : UInt8} (hr : r = [c]) (hc : (c.toNat : Int) = 48 + Int.tdiv d u) : PqJ w (j + 1) (s ++ r) (Int.tmod d u) (unitAt (j + 1)) (3 - (j + 1)) ∧ 3 - (j + 1) < m := by
  obtain ⟨k, rfl, h0, h1, h2, h3, hw⟩ := V.kk
  have hu := V.uu
  rw [Int.tdiv_eq_ediv_of_nonneg (by omega)] at hc
  rw [Int.tmod_eq_emod_of_nonneg (by omega)]
  have hj := V.jj
  have hm := V.mm
  have hl := V.ll
  have hk : k ≠ 0 := by omega
  rcases (by omega : j = 0 ∨ j = 1 ∨ j = 2 ∨ j = 3) with rfl | rfl | rfl | rfl
  · have hu : u = 100 := hu
    have := h0 rfl
    subst hu
    refine ⟨⟨by omega, ⟨k % 100, by omega, by omega, by omega, by omega, by omega, ?_⟩, rfl, rfl, by rw [hr]; simp; omega⟩, by omega⟩
    rw [hw, hr, ofNat_eq (c := c) (n := 48 + k / 100) (by omega)]
    simp [pqR, hk]
  · have hu : u = 10 := hu
    have := h1 rfl
    subst hu
    refine ⟨⟨by omega, ⟨k % 10, by omega, by omega, by omega, by omega, by omega, ?_⟩, rfl, rfl, by rw [hr]; simp; omega⟩, by omega⟩
    rw [hw, hr, ofNat_eq (c := c) (n := 48 + k / 10) (by omega)]
    simp [pqR, hk]
  · have hu : u = 1 := hu
    have := h2 rfl
    subst hu
    refine ⟨⟨by omega, ⟨0, by omega, by omega, by omega, by omega, by omega, ?_⟩, rfl, rfl, by rw [hr]; simp; omega⟩, by omega⟩
    rw [hw, hr, ofNat_eq (c := c) (n := 48 + k / 1) (by omega)]
    simp [pqR, hk]
  · exact absurd (h3 rfl) (by omega)
theorem PqJ.done {w : List UInt8} {j : Nat} {s : List UInt8} {d u : Int} {m : Nat} (V : PqJ w j s d u m) (hd : ¬ 0 < d) : s = w := by
  obtain ⟨k, rfl, h0, h1, h2, h3, hw⟩ := V.kk
  have hk : k = 0 := by omega
  subst hk
  rw [hw]
  have : pqR ([100, 10, 1].drop j) 0 = [] := by
    cases ([100, 10, 1].drop j) with
    | nil => rfl
    | cons a r => rfl
  rw [this, List.append_nil]
theorem pqN_one {n : Nat} (h : (pqW n).length = 2) : pqN n = (pqW n).take 1 := by
  by_cases e : n % 1000 = 0
  · rw [pqN, if_pos e]; rfl
  · simp [pqW, pqR, e] at h
theorem pqN_more {n : Nat} (h : (pqW n).length ≠ 2) : pqN n = pqW n := by
  by_cases e : n % 1000 = 0
  · simp [pqW, pqR, e] at h
  · rw [pqN, if_neg e]; rfl
theorem byteRow_one {f : Nat → List SV} {t : ST} (h : Built f [[.int .u8 t]]) (h0 : 0 ≤ t.den) (h1 : t.den < 256) : ByteRow 1 f :=
  ⟨by omega, fun i hi => ⟨t, by rw [show i = 0 by omega]; exact h.h 0 _ rfl, h0, h1⟩⟩
theorem strRow_one {f : Nat → List SV} {t : ST} {r : List UInt8} (h : Built f [[.int .u8 t]]) (hr : StrRow r 1 f) : ∃ c, r = [c] ∧ (c.toNat : Int) = t.den := by
  have hl := hr.len
  have h0 := hr.row 0 t (by omega) (h.h 0 _ rfl)
  match r, hl with
  | [c], _ => exact ⟨c, rfl, h0⟩
  | [], hl => simp at hl
  | _ :: _ :: _, hl => simp at hl; omega
def pqJ (w : List UInt8) (m : Nat) (vs : List (Option SV)) (hp : List Hl) : Prop :=
  ∃ (j : Nat) (s : List UInt8) (d u : Int), vs = [some (.str s), some (.int .i64 (.a d)), some (.int .i64 (.a u))] ∧ hp = [] ∧ PqJ w j s d u m
structure PqL (s r : List UInt8) : Prop where
  h : s.length + r.length ≤ 9
theorem PqL.fit {s r : List UInt8} (h : PqL s r) : StrFit s r := ⟨by have := h.h; omega⟩
theorem finPQ {D : Dn} (hD : D = dn) {s s' : List UInt8} {e : Int} {y : ST} (h : (s, e) = (s', y.den)) : Fin (.tup [.str s', .int .i64 (.a (D.i y))]) (.tup [.str s, .int .i64 (.a e)]) [] [] := by
  subst hD
  simp only [Prod.mk.injEq] at h
  obtain ⟨rfl, rfl⟩ := h
  exact finV (LeV.refl _)
theorem refPQ_ok : FnOk Tryz.prog gl 34 spPQ := by
  refine fnOk (gh := []) mixed cxOk tabNil Tryz.func34 (by kernel_rfl) (by kernel_rfl) ?_
  intro xs ls K h
  unfold spPQ at h
  obtain ⟨n, rfl, rfl, h⟩ := h
  obtain ⟨k, hk⟩ : ∃ k, k = pqF n := ⟨_, rfl⟩
  obtain ⟨ks, ke⟩ := k
  refine ⟨_, _, h ks ke hk, fun D hD => ?_⟩
  clear h
  cbv
  refine br hD (fun h => ?_) (fun h => ?_) <;> cbv
  · have h : (decide (n < 0) || decide (n > 1000)) = true := h
    rw [pqF, if_neg (by simp at h; omega)] at hk
    exact finPQ (y := .l 7) hD hk
  have hn : (decide (n < 0) || decide (n > 1000)) = false := h
  clear h
  have hn2 : 0 ≤ n ∧ n ≤ 1000 := by simp at hn; omega
  rw [pqF, if_pos hn2] at hk
  clear hn
  refine br hD (fun h => ?_) (fun h => ?_) <;> cbv
  · have hs : n = 1000 := by
      have h : (n == 1000) = true := h
      simpa using h
    clear h
    refine ⟨⟨by subst hD; show (1000 : Int) ≠ 0; omega⟩, ?_⟩
    obtain ⟨W, hW⟩ : ∃ W, W = pqW n.toNat := ⟨_, rfl⟩
    obtain ⟨hone, hmore⟩ : (W.length = 2 → pqN n.toNat = W.take 1) ∧ (W.length ≠ 2 → pqN n.toNat = W) := by rw [hW]; exact ⟨pqN_one, pqN_more⟩
    obtain ⟨J, hJ⟩ : ∃ J, J = pqJ W := ⟨_, rfl⟩
    refine ⟨[4, 5, 6], J, ⟨rfl, 3, ?_⟩, ?_⟩
    · rw [hJ]
      subst hD
      refine ⟨0, _, _, _, rfl, rfl, ⟨by omega, ⟨n.toNat % 1000, ?_, by omega, by omega, by omega, by omega, ?_⟩, rfl, rfl, rfl⟩⟩
      · show Int.tmod n 1000 = _
        rw [Int.tmod_eq_emod_of_nonneg (by omega)]; omega
      · have e : n.toNat / 1000 = 1 := by omega
        rw [hW, pqW, e]; rfl
    clear hn2 hs hW
    intro m vs hp' hv
    rw [hJ] at hv
    unfold pqJ at hv
    obtain ⟨j, s, d, u, rfl, rfl, V⟩ := hv
    cbv
    refine br hD (fun h => ?_) (fun h => ?_) <;> cbv
    · have hd : 0 < d := by
        have h : decide (d > 0) = true := h
        simpa using h
      clear h
      have hb := V.lt hd
      refine ⟨⟨by subst hD; exact hb.2.2.2.1⟩, fun f hf => ?_⟩
      have hden : D = dn → ST.den (ST.a (D.i (ST.cv IntKind.u8 (ST.bin BinOp.add IntKind.i64 (ST.l 48) (ST.bin BinOp.quo IntKind.i64 (ST.a d) (ST.a u)))))) = 48 + Int.tdiv d u := by
        intro hD
        subst hD
        show IntKind.u8.wrap (IntKind.i64.wrap (48 + IntKind.i64.wrap (Int.tdiv d u))) = _
        rw [wrap64 (n := Int.tdiv d u) (by omega) (by omega), wrap64 (by omega) (by omega), wrap8 (by omega) (by omega)]
      cbv
      refine ⟨?_, fun r hr => ?_⟩
      · have := hden hD
        have hx := byteRow_one hf (by omega) (by omega)
        subst hD; exact hx
      have hr1 : ∃ c, r = [c] ∧ (c.toNat : Int) = 48 + Int.tdiv d u := by
        have hr : StrRow r 1 f := by subst hD; exact hr
        obtain ⟨c, h1, h2⟩ := strRow_one hf hr
        exact ⟨c, h1, h2.trans (hden hD)⟩
      clear hr hden hf
      obtain ⟨c, hr1, hc⟩ := hr1
      have hl : PqL s r := ⟨by have := V.ll; have := V.jj; rw [hr1]; simp; omega⟩
      cbv
      refine ⟨hl.fit, fun r2 hr2 => ?_⟩
      cbv
      refine ⟨⟨by subst hD; exact hb.2.2.2.1⟩, ⟨by subst hD; show (10 : Int) ≠ 0; omega⟩, ?_⟩
      have hst := V.step hd hr1 hc
      refine ⟨3 - (j + 1), hst.2, ?_⟩
      rw [hJ]
      subst hD
      have e1 : ST.den (ST.bin BinOp.rem IntKind.i64 (ST.a d) (ST.a u)) = Int.tmod d u := by
        rfl
      have e2 : ST.den (ST.bin BinOp.quo IntKind.i64 (ST.a u) (ST.l 10)) = unitAt (j + 1) := by
        show IntKind.i64.wrap (Int.tdiv u 10) = _
        rw [hb.2.2.2.2.2.2.1, wrap64 (by omega) (by omega)]
      have hst1 : PqJ W (j + 1) r2 (ST.den (ST.bin BinOp.rem IntKind.i64 (ST.a d) (ST.a u))) (ST.den (ST.bin BinOp.quo IntKind.i64 (ST.a u) (ST.l 10))) (3 - (j + 1)) := by rw [hr2.h, e1, e2]; exact hst.1
      exact ⟨j + 1, _, _, _, rfl, rfl, hst1⟩
    · have hd : ¬ 0 < d := by
        have h : decide (d > 0) = false := h
        simpa using h
      clear h
      obtain rfl := V.done hd
      refine br hD (fun h => ?_) (fun h => ?_) <;> cbv
      · have h : ((s.length : Int) == 2) = true := h
        have h2 : s.length = 2 := by rw [beq_iff_eq] at h; omega
        clear h
        have hsub : SubS (dn.i (.l 0)) (dn.i (.l 1)) s := subS_of (i := 0) (j := 1) rfl rfl (by omega) (by omega)
        refine ⟨by subst hD; exact hsub, fun r2 hr2 => ?_⟩
        have e : r2 = s.take 1 := by subst hD; exact hr2.h
        cbv
        rw [← hone h2] at e
        exact finPQ (y := .l 0) hD (by rw [e]; exact hk)
      · have h : ((s.length : Int) == 2) = false := h
        have h2 : s.length ≠ 2 := by rw [beq_eq_false_iff_ne] at h; omega
        clear h
        exact finPQ (y := .l 0) hD (by rw [← hmore h2]; exact hk)
  · have hs : n ≠ 1000 := by
      have h : (n == 1000) = false := h
      simpa using h
    clear h
    refine ⟨⟨by subst hD; show (1000 : Int) ≠ 0; omega⟩, ?_⟩
    obtain ⟨W, hW⟩ : ∃ W, W = pqW n.toNat := ⟨_, rfl⟩
    obtain ⟨hone, hmore⟩ : (W.length = 2 → pqN n.toNat = W.take 1) ∧ (W.length ≠ 2 → pqN n.toNat = W) := by rw [hW]; exact ⟨pqN_one, pqN_more⟩
    obtain ⟨J, hJ⟩ : ∃ J, J = pqJ W := ⟨_, rfl⟩
    refine ⟨[4, 5, 6], J, ⟨rfl, 3, ?_⟩, ?_⟩
    · rw [hJ]
      subst hD
      refine ⟨0, _, _, _, rfl, rfl, ⟨by omega, ⟨n.toNat % 1000, ?_, by omega, by omega, by omega, by omega, ?_⟩, rfl, rfl, rfl⟩⟩
      · show Int.tmod n 1000 = _
        rw [Int.tmod_eq_emod_of_nonneg (by omega)]; omega
      · have e : n.toNat / 1000 = 0 := by omega
        rw [hW, pqW, e]; rfl
    clear hn2 hs hW
    intro m vs hp' hv
    rw [hJ] at hv
    unfold pqJ at hv
    obtain ⟨j, s, d, u, rfl, rfl, V⟩ := hv
    cbv
    refine br hD (fun h => ?_) (fun h => ?_) <;> cbv
    · have hd : 0 < d := by
        have h : decide (d > 0) = true := h
        simpa using h
      clear h
      have hb := V.lt hd
      refine ⟨⟨by subst hD; exact hb.2.2.2.1⟩, fun f hf => ?_⟩
      have hden : D = dn → ST.den (ST.a (D.i (ST.cv IntKind.u8 (ST.bin BinOp.add IntKind.i64 (ST.l 48) (ST.bin BinOp.quo IntKind.i64 (ST.a d) (ST.a u)))))) = 48 + Int.tdiv d u := by
        intro hD
        subst hD
        show IntKind.u8.wrap (IntKind.i64.wrap (48 + IntKind.i64.wrap (Int.tdiv d u))) = _
        rw [wrap64 (n := Int.tdiv d u) (by omega) (by omega), wrap64 (by omega) (by omega), wrap8 (by omega) (by omega)]
      cbv
      refine ⟨?_, fun r hr => ?_⟩
      · have := hden hD
        have hx := byteRow_one hf (by omega) (by omega)
        subst hD; exact hx
      have hr1 : ∃ c, r = [c] ∧ (c.toNat : Int) = 48 + Int.tdiv d u := by
        have hr : StrRow r 1 f := by subst hD; exact hr
        obtain ⟨c, h1, h2⟩ := strRow_one hf hr
        exact ⟨c, h1, h2.trans (hden hD)⟩
      clear hr hden hf
      obtain ⟨c, hr1, hc⟩ := hr1
      have hl : PqL s r := ⟨by have := V.ll; have := V.jj; rw [hr1]; simp; omega⟩
      cbv
      refine ⟨hl.fit, fun r2 hr2 => ?_⟩
      cbv
      refine ⟨⟨by subst hD; exact hb.2.2.2.1⟩, ⟨by subst hD; show (10 : Int) ≠ 0; omega⟩, ?_⟩
      have hst := V.step hd hr1 hc
      refine ⟨3 - (j + 1), hst.2, ?_⟩
      rw [hJ]
      subst hD
      have e1 : ST.den (ST.bin BinOp.rem IntKind.i64 (ST.a d) (ST.a u)) = Int.tmod d u := by
        rfl
      have e2 : ST.den (ST.bin BinOp.quo IntKind.i64 (ST.a u) (ST.l 10)) = unitAt (j + 1) := by
        show IntKind.i64.wrap (Int.tdiv u 10) = _
        rw [hb.2.2.2.2.2.2.1, wrap64 (by omega) (by omega)]
      have hst1 : PqJ W (j + 1) r2 (ST.den (ST.bin BinOp.rem IntKind.i64 (ST.a d) (ST.a u))) (ST.den (ST.bin BinOp.quo IntKind.i64 (ST.a u) (ST.l 10))) (3 - (j + 1)) := by rw [hr2.h, e1, e2]; exact hst.1
      exact ⟨j + 1, _, _, _, rfl, rfl, hst1⟩
    · have hd : ¬ 0 < d := by
        have h : decide (d > 0) = false := h
        simpa using h
      clear h
      obtain rfl := V.done hd
      refine br hD (fun h => ?_) (fun h => ?_) <;> cbv
      · have h : ((s.length : Int) == 2) = true := h
        have h2 : s.length = 2 := by rw [beq_iff_eq] at h; omega
        clear h
        have hsub : SubS (dn.i (.l 0)) (dn.i (.l 1)) s := subS_of (i := 0) (j := 1) rfl rfl (by omega) (by omega)
        refine ⟨by subst hD; exact hsub, fun r2 hr2 => ?_⟩
        have e : r2 = s.take 1 := by subst hD; exact hr2.h
        cbv
        rw [← hone h2] at e
        exact finPQ (y := .l 0) hD (by rw [e]; exact hk)
      · have h : ((s.length : Int) == 2) = false := h
        have h2 : s.length ≠ 2 := by rw [beq_eq_false_iff_ne] at h; omega
        clear h
        exact finPQ (y := .l 0) hD (by rw [← hmore h2]; exact hk)
end Go.Proofs.YtfchfhjpldppjaaGreatDoor
namespace Go.Proofs.YtfchfhjpldppjaaGreatDoor
open Go.Sx
set_option maxRecDepth 10000
set_option maxHeartbeats 8000000
/-! PrintQuality. -/
structure PqA (D : Dn) (t : ST) (r : List UInt8) : Prop where
  h : D = dn → Lib.itoa (D.i t) = r
  r : D = dn → -9223372036854775808 ≤ D.i t ∧ D.i t ≤ 9223372036854775807
structure PqT (A B1 B2 B3 : UInt8) (w : List UInt8) : Prop where
  h : Lib.trimRightB (Lib.trimRightB (A :: 46 :: [B1, B2, B3]) 48) 46 = w
structure PqS (r s : List UInt8) : Prop where
  h : r = s
theorem pq_ok : FnOk Tryz.prog glq 33 spPQ := by
  refine fnOk (gh := []) mixed cxOk (tabCons itoa_ok (tabCons trimR_ok tabNil)) Tryz.func33 (by kernel_rfl) (by kernel_rfl) ?_
  intro xs ls K h
  unfold spPQ at h
  obtain ⟨n, rfl, rfl, h⟩ := h
  obtain ⟨k, hk⟩ : ∃ k, k = pqF n := ⟨_, rfl⟩
  obtain ⟨ks, ke⟩ := k
  refine ⟨_, _, h ks ke hk, fun D hD => ?_⟩
  clear h
  cbv
  refine br hD (fun h => ?_) (fun h => ?_) <;> cbv
  · have h : (decide (n < 0) || decide (n > 1000)) = true := h
    rw [pqF, if_neg (by simp at h; omega)] at hk
    exact finPQ (y := .l 7) hD hk
  have hn : (decide (n < 0) || decide (n > 1000)) = false := h
  clear h
  have hn2 : 0 ≤ n ∧ n ≤ 1000 := by simp at hn; omega
  rw [pqF, if_pos hn2] at hk
  clear hn
  have hN := hn2
  obtain ⟨N, hN1, hN2⟩ : ∃ N : Nat, n = N ∧ N ≤ 1000 := ⟨n.toNat, by omega, by omega⟩
  have eN : n.toNat = N := by omega
  rw [eN] at hk
  clear hN eN
  have hi4 : D = dn → Lib.itoa (D.i (.bin .add .i64 (.l 1000) (.bin .rem .i64 (.a n) (.l 1000)))) = [49, UInt8.ofNat (48 + N % 1000 / 100), UInt8.ofNat (48 + N % 1000 / 10 % 10), UInt8.ofNat (48 + N % 1000 % 10)] := by
    intro hD; subst hD
    show Lib.itoa (IntKind.i64.wrap (1000 + Int.tmod n 1000)) = _
    rw [hN1, ← itoa_four hN2, wrap64]
    all_goals (rw [Int.tmod_eq_emod_of_nonneg (by omega)]; omega)
  have hi1 : D = dn → Lib.itoa (D.i (.bin .quo .i64 (.a n) (.l 1000))) = [UInt8.ofNat (48 + N / 1000)] := by
    intro hD; subst hD
    show Lib.itoa (IntKind.i64.wrap (Int.tdiv n 1000)) = _
    rw [hN1, ← itoa_one hN2, wrap64]
    all_goals (rw [Int.tdiv_eq_ediv_of_nonneg (by omega)]; omega)
  have hr1 : D = dn → -9223372036854775808 ≤ D.i (.bin .add .i64 (.l 1000) (.bin .rem .i64 (.a n) (.l 1000))) ∧ D.i (.bin .add .i64 (.l 1000) (.bin .rem .i64 (.a n) (.l 1000))) ≤ 9223372036854775807 := by
    intro hD; subst hD
    show _ ≤ IntKind.i64.wrap (1000 + Int.tmod n 1000) ∧ IntKind.i64.wrap (1000 + Int.tmod n 1000) ≤ _
    rw [wrap64]
    · rw [Int.tmod_eq_emod_of_nonneg (by omega)]; omega
    all_goals (rw [Int.tmod_eq_emod_of_nonneg (by omega)]; omega)
  have hr2 : D = dn → -9223372036854775808 ≤ D.i (.bin .quo .i64 (.a n) (.l 1000)) ∧ D.i (.bin .quo .i64 (.a n) (.l 1000)) ≤ 9223372036854775807 := by
    intro hD; subst hD
    show _ ≤ IntKind.i64.wrap (Int.tdiv n 1000) ∧ IntKind.i64.wrap (Int.tdiv n 1000) ≤ _
    rw [wrap64]
    · rw [Int.tdiv_eq_ediv_of_nonneg (by omega)]; omega
    all_goals (rw [Int.tdiv_eq_ediv_of_nonneg (by omega)]; omega)
  have ht := pq_trim hN2
  obtain ⟨A, hA⟩ : ∃ A, A = UInt8.ofNat (48 + N / 1000) := ⟨_, rfl⟩
  obtain ⟨B1, hB⟩ : ∃ B, B = UInt8.ofNat (48 + N % 1000 / 100) := ⟨_, rfl⟩
  obtain ⟨B2, hB2⟩ : ∃ B, B = UInt8.ofNat (48 + N % 1000 / 10 % 10) := ⟨_, rfl⟩
  obtain ⟨B3, hB3⟩ : ∃ B, B = UInt8.ofNat (48 + N % 1000 % 10) := ⟨_, rfl⟩
  rw [← hA, ← hB, ← hB2, ← hB3] at ht
  rw [← hB, ← hB2, ← hB3] at hi4
  rw [← hA] at hi1
  obtain ⟨w, hw⟩ : ∃ w, w = pqN N := ⟨_, rfl⟩
  rw [← hw] at hk ht
  clear hA hB hB2 hB3 hw
  have q1 : PqA D (.bin .add .i64 (.l 1000) (.bin .rem .i64 (.a n) (.l 1000))) [49, B1, B2, B3] := ⟨hi4, hr1⟩
  have q2 : PqA D (.bin .quo .i64 (.a n) (.l 1000)) [A] := ⟨hi1, hr2⟩
  have q3 : PqT A B1 B2 B3 w := ⟨ht⟩
  clear hi4 hr1 hi1 hr2 ht hN1 hN2 hn2
  refine ⟨⟨by subst hD; show (1000 : Int) ≠ 0; omega⟩, _, rfl, rfl, (q1.r hD).1, (q1.r hD).2, fun r hr => ?_⟩
  have sA : PqS r [49, B1, B2, B3] := ⟨hr.trans (q1.h hD)⟩
  clear hr
  cbv
  refine ⟨?_, fun r1 hr1 => ?_⟩
  · have hx : SubS (dn.i (.l 1)) (dn.i (.len r)) r := subS_of (i := 1) (j := 4) rfl (by show (r.length : Int) = _; rw [sA.h]; rfl) (by omega) (by rw [sA.h]; simp)
    subst hD; exact hx
  have sB : PqS r1 [B1, B2, B3] := ⟨by
    have e : r1 = (r.drop 1).take (r.length - 1) := by subst hD; exact hr1.h
    rw [e, sA.h]; rfl⟩
  clear sA hr1
  cbv
  refine ⟨⟨by subst hD; show (1000 : Int) ≠ 0; omega⟩, _, rfl, rfl, (q2.r hD).1, (q2.r hD).2, fun r2 hr2 => ?_⟩
  have sC : PqS r2 [A] := ⟨hr2.trans (q2.h hD)⟩
  clear hr2
  cbv
  have f1 : StrFit r2 [46] := ⟨by rw [sC.h]; simp⟩
  refine ⟨f1, fun r3 hr3 => ?_⟩
  have sD : PqS r3 [A, 46] := ⟨by rw [hr3.h, sC.h]; rfl⟩
  clear hr3
  cbv
  have f2 : StrFit r3 r1 := ⟨by rw [sD.h, sB.h]; simp⟩
  refine ⟨f2, fun r4 hr4 => ?_⟩
  have sE : PqS r4 [A, 46, B1, B2, B3] := ⟨by rw [hr4.h, sD.h, sB.h]; rfl⟩
  clear hr4
  cbv
  refine ⟨r4, 48, rfl, rfl, ?_, by decide, fun r5 hr5 => ?_⟩
  · have h5 : r4.length = 5 := by rw [sE.h]; rfl
    exact Nat.le_trans (Nat.le_of_eq h5) (by decide)
  have sF : PqS r5 (Lib.trimRightB [A, 46, B1, B2, B3] 48) := ⟨by rw [hr5, sE.h]⟩
  clear hr5
  cbv
  refine ⟨r5, 46, rfl, rfl, ?_, by decide, fun r6 hr6 => ?_⟩
  · have h5 : r5.length ≤ 5 := by
      rw [sF.h, Lib.trimRightB, List.length_reverse]
      exact Nat.le_trans (List.Sublist.length_le (List.dropWhile_sublist _)) (by simp)
    exact Nat.le_trans h5 (by decide)
  have sG : PqS r6 w := ⟨by rw [hr6, sF.h]; exact q3.h⟩
  clear hr6
  cbv
  exact finPQ (y := .l 0) hD (by rw [sG.h]; exact hk)
end Go.Proofs.YtfchfhjpldppjaaGreatDoor
namespace Go.Proofs.YtfchfhjpldppjaaGreatDoor
open Go.Sx
set_option maxRecDepth 10000
set_option maxHeartbeats 4000000
/-! Has of the document; the law TokensElements. -/
theorem refElementsF_err {s : List UInt8} (h : (refElementsF s).1 ≠ []) : (refElementsF s).2 = 0 := by
  unfold refElementsF at h ⊢
  split
  · rename_i h2; rw [if_pos h2] at h; exact absurd rfl h
  · rename_i h2
    rw [if_neg h2] at h
    cases hp : partsF 44 s with
    | none => rw [hp] at h; exact absurd rfl h
    | some l => rfl
def rhJ (t : List UInt8) (k : Bool × Int) (l : List (List UInt8)) (e : Int) (nb : Bool) (n : Int) (g : Nat → List SV) (m : Nat) (vs : List (Option SV)) (hp : List Hl) : Prop :=
  ∃ (i : Nat) (I : Int), vs = [some (.str t), some (.sl (.a nb) (.a n) 1 g), some (.int .i64 (.a e)), some (.int .i64 (.a I))] ∧ hp = [] ∧ AtR l i I m ∧ k = ((l.drop i).any (foldEq t), e)
theorem any_at {l : List (List UInt8)} {p : List UInt8 → Bool} {i : Nat} (h : i < l.length) : (l.drop i).any p = (p (l.getD i []) || (l.drop (i + 1)).any p) := by
  rw [dropR (d := []) h, List.any_cons]
theorem refHas_ok : FnOk Tryz.prog gl 23 spHas := by
  refine fnOk (gh := []) mixed cxOk (tabCons refToken_ok (tabCons refElements_ok (tabCons refFold_ok tabNil))) Tryz.func23 (by kernel_rfl) (by kernel_rfl) ?_
  intro xs ls K h
  unfold spHas at h
  obtain ⟨v, t, rfl, rfl, hv, ht, h⟩ := h
  obtain ⟨k, hk⟩ : ∃ k, k = hasF v t := ⟨_, rfl⟩
  obtain ⟨kb, ke⟩ := k
  refine ⟨_, _, h kb ke hk, fun D hD => ?_⟩
  clear h
  rw [hasF] at hk
  cbv
  refine ⟨_, rfl, rfl, ht, fun q hq => ?_⟩
  have hq2 : q = refTokenF t := by subst hD; exact hq
  clear hq
  rw [← hq2] at hk
  cbv
  refine br hD (fun h => ?_) (fun h => ?_) <;> cbv
  · have h : (!q) = true := h
    rw [if_pos h] at hk
    exact finHas hD hk
  have h : (!q) = false := h
  rw [if_neg (by rw [h]; simp)] at hk
  clear h hq2
  have hel := refElementsF_len v
  have her := refElementsF_err (s := v)
  refine ⟨v, rfl, rfl, hv, fun l e n nb he hn hnb => ?_⟩
  rw [← he] at hk hel her
  simp only at hk hel her
  have RL : RowS (strRow l) n l := by rw [hn]; exact RowS.row (by omega)
  obtain ⟨g, hg⟩ : ∃ g, g = strRow l := ⟨_, rfl⟩
  rw [← hg] at RL ⊢
  clear hg hn hnb
  cbv
  obtain ⟨J, hJ⟩ : ∃ J, J = rhJ t (kb, ke) l e nb n g := ⟨_, rfl⟩
  refine ⟨[1, 6, 7, 8], J, ⟨rfl, l.length, ?_⟩, ?_⟩
  · rw [hJ]
    subst hD
    exact ⟨0, 0, rfl, rfl, AtR.zero (by omega), hk⟩
  clear hk
  intro m vs hp' hv'
  rw [hJ] at hv'
  unfold rhJ at hv'
  obtain ⟨i, I, rfl, rfl, V, hk⟩ := hv'
  cbv
  refine br hD (fun h => ?_) (fun h => ?_) <;> cbv
  · have hlt := V.lt RL.n (of_decide_eq_true (p := I < n) h)
    clear h
    refine ⟨V.inB hD RL.n hlt, fun j hj => ?_⟩
    obtain rfl := V.j hD hj
    clear hj
    have e1 := RL.f j hlt
    have he0 : e = 0 := her (fun h => by rw [h] at hlt; simp at hlt)
    rw [any_at hlt] at hk
    have hxl := hel.2 (l.getD j []) (by rw [List.getD_eq_getElem?_getD, List.getElem?_eq_getElem hlt]; exact List.getElem_mem hlt)
    obtain ⟨x, hx⟩ : ∃ x, x = l.getD j [] := ⟨_, rfl⟩
    rw [← hx] at e1 hxl hk
    cbv
    rw [e1]
    cbv
    refine ⟨x, rfl, rfl, by omega, fun a ha => ?_⟩
    cbv
    refine ⟨t, rfl, rfl, ht, fun b hb => ?_⟩
    have hfe : foldEq t x = (a == b) := by rw [foldEq, ha, hb]
    rw [hfe] at hk
    cbv
    refine br hD (fun h => ?_) (fun h => ?_) <;> cbv
    · have h : (a == b) = true := h
      rw [h] at hk
      exact finHas (x := .l true) (y := .l 0) hD (by rw [hk, he0]; rfl)
    · have h : (a == b) = false := h
      rw [h, Bool.false_or] at hk
      refine ⟨l.length - (j + 1), (V.step hD hlt).1, ?_⟩
      rw [hJ]
      subst hD
      exact ⟨j + 1, _, rfl, rfl, (V.step rfl hlt).2, hk⟩
  · have hi := V.eq RL.n (of_decide_eq_false (p := I < n) h)
    rw [hi, List.drop_length] at hk
    exact finHas (x := .l false) (y := .a e) hD hk
def spLawS2 : FSpec := fun _ xs ls K => ∃ (s t : List UInt8), xs = [.str s, .str t] ∧ ls = [] ∧ s.length ≤ 9223372036854775807 ∧ t.length ≤ 9223372036854775807 ∧ ∀ r : Bool, r = true → K (.bool (.a r)) []
theorem tokensElements_ok : FnOk Tryz.prog gl 4 spLawS2 := by
  refine fnOk (gh := []) mixed cxOk (tabCons elements_ok (tabCons refElements_ok (tabCons has_ok (tabCons refHas_ok (tabCons strings_ok (tabCons awake_ok tabNil)))))) Tryz.func4 (by kernel_rfl) (by kernel_rfl) ?_
  intro xs ls K h
  unfold spLawS2 at h
  obtain ⟨s, t, rfl, rfl, hl, ht, h⟩ := h
  refine ⟨_, _, h true rfl, fun D hD => ?_⟩
  clear h
  cbv
  refine br hD (fun h => ?_) (fun h => ?_) <;> cbv
  · intro r hr
    cbv
    exact finBool hD hr
  clear h
  have hel := refElementsF_len s
  refine ⟨s, rfl, rfl, hl, fun l e n nb he hn hnb => ?_⟩
  rw [← he] at hel
  simp only at hel
  have R1 : RowS (strRow l) n l := by rw [hn]; exact RowS.row (by omega)
  obtain ⟨g, hg⟩ : ∃ g, g = strRow l := ⟨_, rfl⟩
  rw [← hg] at R1 ⊢
  clear hg hn hnb
  cbv
  refine ⟨s, rfl, rfl, hl, fun l2 e2 n2 nb2 he2 hn2 hnb2 => ?_⟩
  obtain ⟨rfl, rfl⟩ : l2 = l ∧ e2 = e := by have := he2.trans he.symm; cases this; exact ⟨rfl, rfl⟩
  have R2 : RowS (strRow l2) n2 l2 := by rw [hn2]; exact RowS.row (by omega)
  obtain ⟨g2, hg2⟩ : ∃ g, g = strRow l2 := ⟨_, rfl⟩
  rw [← hg2] at R2 ⊢
  clear hg2 hn2 hnb2 he he2
  cbv
  refine ⟨s, t, rfl, rfl, hl, ht, fun b f hb => ?_⟩
  cbv
  refine ⟨s, t, rfl, rfl, hl, ht, fun c f2 hc => ?_⟩
  obtain ⟨rfl, rfl⟩ : c = b ∧ f2 = f := by have := hc.trans hb.symm; cases this; exact ⟨rfl, rfl⟩
  clear hb hc
  cbv
  refine ⟨l2, l2, _, _, _, _, _, _, rfl, rfl, by subst hD; exact R1, by subst hD; exact R2, fun r hr => ?_⟩
  have hr2 : r = true := by rw [hr]; simp
  clear hr
  cbv
  intro w hw
  cbv
  refine finBool hD ?_
  subst hr2
  have hw : w = true := hw
  simp only [BT.den, ST.den, cmpDen]
  simp [hw]
end Go.Proofs.YtfchfhjpldppjaaGreatDoor
namespace Go.Proofs.YtfchfhjpldppjaaGreatDoor
open Go.Sx
set_option maxRecDepth 10000
set_option maxHeartbeats 8000000
/-! TokensQualities: the law. -/
def spLawQ : FSpec := fun _ xs ls K => ∃ (n : Int) (s : List UInt8), xs = [.int .i64 (.a n), .str s] ∧ ls = [] ∧ s.length ≤ 9223372036854775807 ∧ ∀ r : Bool, r = true → K (.bool (.a r)) []
structure LenQ (s : List UInt8) : Prop where
  h : s.length ≤ 100
theorem LenQ.le {s : List UInt8} (h : LenQ s) : s.length ≤ 100000 := Nat.le_trans h.h (by decide)
structure PqT2 (s : List UInt8) (q : Int) (N : Nat) : Prop where
  le : N ≤ 1000
  q : q = N
  len : (pqN N).length ≤ s.length
theorem pqT_of {s : List UInt8} {q f : Int} (h : (q, f) = qualF s) (hf : f = 0) : ∃ N, PqT2 s q N := by
  subst hf
  obtain ⟨N, h1, h2, h3⟩ := qual_pq h.symm
  exact ⟨N, h1, h2, h3⟩
theorem pqF_nat {N : Nat} (h : N ≤ 1000) : pqF (N : Int) = (pqN N, 0) := by
  rw [pqF, if_pos ⟨by omega, by omega⟩, Int.toNat_natCast]
theorem PqT2.bad {s b : List UInt8} {q g : Int} {N : Nat} (V : PqT2 s q N) (hb : (b, g) = pqF q) : BT.den (.or (.cmp .neq (.a g) (.l 0)) (.cmp .gtr (.len b) (.len s))) = false := by
  rw [V.q, pqF_nat V.le] at hb
  cases hb
  have := V.len
  simp [BT.den, cmpDen, ST.den]
  omega
structure PqU (a : List UInt8) (n : Int) (N : Nat) : Prop where
  le' : N ≤ 1000
  n' : n = N
  a' : a = pqN N
theorem pqU_of {a : List UInt8} {n e : Int} (h : (a, e) = pqF n) (he : e = 0) : ∃ N, PqU a n N := by
  subst he
  unfold pqF at h
  split at h
  · rename_i hn
    simp only [Prod.mk.injEq, and_true] at h
    exact ⟨n.toNat, by omega, by omega, h⟩
  · simp at h
theorem PqU.le {a : List UInt8} {n : Int} {N : Nat} (V : PqU a n N) : a.length ≤ 100000 := by
  rw [V.a']; exact Nat.le_trans (pq_len V.le').1 (by decide)
structure PqV (q f n : Int) : Prop where
  q' : q = n
  f' : f = 0
theorem PqU.qual {a : List UInt8} {n q f : Int} {N : Nat} (V : PqU a n N) (h : (q, f) = qualF a) : PqV q f n := by
  rw [V.a', pq_qual V.le'] at h
  cases h
  exact ⟨V.n'.symm, rfl⟩
theorem PqV.bad {q f n : Int} (V : PqV q f n) : BT.den (.or (.cmp .neq (.a q) (.a n)) (.cmp .neq (.a f) (.l 0))) = false := by
  rw [V.q', V.f']
  simp [BT.den, cmpDen, ST.den]
theorem tokensQualities_ok : FnOk Tryz.prog glq 9 spLawQ := by
  refine fnOk (gh := []) mixed cxOk (tabCons pq_ok (tabCons (fnOk_gl refPQ_ok) (tabCons (fnOk_gl quality_ok) (tabCons (fnOk_gl refQuality_ok) (tabCons (fnOk_gl awake_ok) tabNil))))) Tryz.func9 (by kernel_rfl) (by kernel_rfl) ?_
  intro xs ls K h
  unfold spLawQ at h
  obtain ⟨n, s, rfl, rfl, hl, h⟩ := h
  refine ⟨_, _, h true rfl, fun D hD => ?_⟩
  clear h
  cbv
  refine br hD (fun h => ?_) (fun h => ?_) <;> cbv
  · intro r hr
    cbv
    exact finBool hD hr
  have hls : LenQ s := ⟨by
    have h : decide (100 < (s.length : Int)) = false := h
    have := of_decide_eq_false h; omega⟩
  clear h hl
  refine ⟨_, rfl, rfl, fun a e ha' => ?_⟩
  have ha : (a, e) = pqF n := by subst hD; exact ha'
  clear ha'
  cbv
  refine ⟨_, rfl, rfl, fun a2 e2 ha2' => ?_⟩
  have ha2 : (a2, e2) = pqF n := by subst hD; exact ha2'
  clear ha2'
  obtain ⟨rfl, rfl⟩ : a2 = a ∧ e2 = e := by have := ha2.trans ha.symm; cases this; exact ⟨rfl, rfl⟩
  clear ha
  cbv
  refine ⟨s, rfl, rfl, hls.le, fun q f hq => ?_⟩
  cbv
  refine ⟨s, rfl, rfl, hls.le, fun q2 f2 hq2 => ?_⟩
  obtain ⟨rfl, rfl⟩ : q2 = q ∧ f2 = f := by have := hq2.trans hq.symm; cases this; exact ⟨rfl, rfl⟩
  clear hq
  cbv
  refine br hD (fun h => ?_) (fun h => ?_) <;> cbv
  · simp [BT.den, cmpDen, ST.den] at h
  clear h
  refine br hD (fun h => ?_) (fun h => ?_) <;> cbv
  · have he : e2 = 0 := by
      have h : (e2 == 0) = true := h
      simpa using h
    clear h
    obtain ⟨N, hN⟩ := pqU_of ha2 he
    refine ⟨a2, rfl, rfl, hN.le, fun q3 f3 hq3 => ?_⟩
    have hq3' := hN.qual hq3
    clear hq3
    cbv
    refine br hD (fun h => ?_) (fun h => ?_) <;> cbv
    · exact absurd h (by rw [Bool.not_eq_true]; exact hq3'.bad)
    clear h
    refine br hD (fun h => ?_) (fun h => ?_) <;> cbv
    · have hf : f2 = 0 := by
        have h : (f2 == 0) = true := h
        simpa using h
      clear h
      obtain ⟨N, hN⟩ := pqT_of hq2 hf
      refine ⟨_, rfl, rfl, fun b g hb' => ?_⟩
      have hb : (b, g) = pqF q2 := by subst hD; exact hb'
      clear hb'
      cbv
      refine br hD (fun h => ?_) (fun h => ?_) <;> cbv
      · exact absurd h (by rw [Bool.not_eq_true]; exact hN.bad hb)
      clear h
      intro w hw
      cbv
      refine finBool hD ?_
      exact hw
    · intro w hw
      cbv
      refine finBool hD ?_
      exact hw
  · refine br hD (fun h => ?_) (fun h => ?_) <;> cbv
    · have hf : f2 = 0 := by
        have h : (f2 == 0) = true := h
        simpa using h
      clear h
      obtain ⟨N, hN⟩ := pqT_of hq2 hf
      refine ⟨_, rfl, rfl, fun b g hb' => ?_⟩
      have hb : (b, g) = pqF q2 := by subst hD; exact hb'
      clear hb'
      cbv
      refine br hD (fun h => ?_) (fun h => ?_) <;> cbv
      · exact absurd h (by rw [Bool.not_eq_true]; exact hN.bad hb)
      clear h
      intro w hw
      cbv
      refine finBool hD ?_
      exact hw
    · intro w hw
      cbv
      refine finBool hD ?_
      exact hw
end Go.Proofs.YtfchfhjpldppjaaGreatDoor
namespace Go.Proofs.YtfchfhjpldppjaaGreatDoor
open Go Go.Sx Go.ChangeShapes Go.WideShapes Go.RowKit
set_option maxRecDepth 100000
/-! The table that Itoa reads, at the door. -/
theorem kPowT : (Tryz.prog.globals[3]?).map (·.type) = some 146 := by kernel_rfl
theorem kPowU : Tryz.prog.underlying 146 = some (.array 20 131) := by kernel_rfl
theorem kPowE : Tryz.prog.underlying 131 = some (.int .u64) := by kernel_rfl
theorem kPowC : Tryz.prog.cellsOf 131 = 1 := by kernel_rfl
theorem kPowD : Tryz.prog.cellsOf 146 = 20 := by kernel_rfl
theorem glq_of {W : World} (h : laidMetH Tryz.prog laidV W) : ∀ g s, Sx.look g glq = some s → RO (oldI W) W s (.pointer (some ⟨g, 0, none⟩)) ∧ g < W.heap.size ∧ glBlk W g s := by
  rw [MakeChecks.laidMetH_plain _ _ _ (by kernel_rfl)] at h
  have ht : Lib.TabIs Tryz.prog W "internal/strconv.uint64pow10" .u64 Lib.pow10Tab :=
    Lib.tabIs_of_head kPow kPowT kPowU kPowE kPowC kPowD (h.tail.tail)
  intro g s hs
  simp only [Sx.look, glq] at hs
  split at hs
  · rename_i e
    have e : 3 = g := by simpa using e
    subst e
    cases hs
    have ht2 := ht
    unfold Lib.TabIs World.var? at ht2
    rw [kPow] at ht2
    simp only [Option.bind_some] at ht2
    split at ht2
    · rename_i cs t fr hc
      have hlt : 3 < W.heap.size := (Array.getElem?_eq_some_iff.1 hc).1
      have hsz : cs.size = 20 * 1 := by
        rw [Option.some.inj ht2]; simp [Lib.pow10Tab_length]
      refine ⟨.rarr (fun i _ => .int .u64 (Lib.pow10Tab.getD i 0)) rfl (fun i _ => rfl) (fun i j _ _ => rfl) (fun i j hi hj => ⟨?_, hlt⟩) (fun i j s hi hs => ?_), hlt, cs, t, fr, hc, hsz⟩
      · have := ht.cell kPow i (by rw [Lib.pow10Tab_length]; exact hi)
        have e : 0 + (i * 1 + j) = i := by omega
        show W.cell? ⟨3, 0 + (i * 1 + j), none⟩ = _
        rw [e]; exact this
      · match j, hs with
        | 0, hs =>
          have hs : some (SV.int .u64 (.a (Lib.pow10Tab.getD i 0))) = some s := hs
          cases hs
          exact .int rfl
        | _ + 1, hs => simp [powRow] at hs
    · cases ht2
  · cases hs
end Go.Proofs.YtfchfhjpldppjaaGreatDoor
namespace Go.Proofs.YtfchfhjpldppjaaGreatDoor
open Go Go.Sx Go.ChangeShapes Go.WideShapes Go.RowKit
set_option maxRecDepth 100000
/-! TokensQualities: from the function's contract to the card. -/
theorem tokensQualities_lifted (os : Os) (started : os.Started) (H : Type) (enc : TypeId × Value → H) :
    ReturnsInHanded {} Tryz.checked os 9 .any (fun w args => (Rows.tokensQualitiesSpec.pre enc Tryz.prog Tryz.f9 [] false w args ∧ laidMetH Tryz.prog laidV w) ∧ sizedMet enc Tryz.prog Tryz.f9 (OpenSpec.ofChange Rows.tokensQualitiesSpec) false w args)
      (Rows.tokensQualitiesSpec.post enc Tryz.prog Tryz.f9 false true false false) := by
  refine returnsInHanded_of_change_and (C := Tryz.checked) (X := fun w _ => laidMetH Tryz.prog laidV w) (fun _ _ _ hh h => h.of_heap hh) kOwn started (by kernel_rfl) Tryz.func9
    (ChangeSpec.witness_shaped (enc := enc) (C := Tryz.checked) (os := os) (X := fun w _ => laidMetH Tryz.prog laidV w) false (World.laidAll Tryz.prog os laidV) #[.int .i64 0, .string ⟨#[]⟩] 8 (World.laidAll_os _ _ _) (World.shaped_of_ZipB (by kernel_rfl) (by kernel_rfl)) (by kernel_rfl) (by kernel_rfl) (by kernel_rfl) (door_met os _)) ?_
  intro W base args ds gs before hval0 hW _ _ hL _
  have hval : ∀ (j : Nat) t v, Tryz.f9.params[j]? = some t → args[j]? = some v → Value.okWide Tryz.prog W .any base t v := hval0
  obtain ⟨p, q, hA, hV, _⟩ := id hW
  have hA' : DataW.TrodAll enc Tryz.prog W 0 (fun _ => true) true Tryz.f9.params.toList args.toList ds p := hA
  rw [Tryz.params9] at hA' hval
  obtain ⟨v0, v1, d0, d1, p0, p1, rfl, rfl, _, h0, h1⟩ := trodAll_two hA'
  obtain ⟨fuel0, h0⟩ := h0
  obtain ⟨x0, hx0⟩ := open3 H enc W _ _ _ _ _ h0
  have r0 := arg_int Tryz.underlying3 (hval 0 3 v0 rfl rfl) hx0
  obtain ⟨fuel1, h1⟩ := h1
  obtain ⟨x1, hx1⟩ := open9 H enc W _ _ _ _ _ h1
  have r1 := arg_string Tryz.underlying9 (hval 1 9 v1 rfl rfl) hx1
  obtain ⟨r, ls', hK, hcalls⟩ := tokensQualities_ok.2 [.int .i64 (.a x0), .str x1.1] [] (fun r ls => r = .bool (.a true) ∧ ls = []) ⟨x0, x1.1, rfl, rfl, str_fit x1, fun r hr => ⟨by rw [hr], rfl⟩⟩
  obtain ⟨rfl, rfl⟩ := hK
  have hrun := law_run (W := W) (args := [v0, v1]) hcalls (glq_of hL) rfl (ro2 r0 r1)
  refine hrun.mono fun e W' hq => ⟨_, hq.1, law_post kLaidOut (tb := 4) ?_ rfl (by kernel_rfl) Tryz.underlying4 hW ?_ hq.2⟩
  · rw [Tryz.params9]
    intro t ht
    have hall : ([3, 9].all fun t => Tryz.prog.readableRec t && decide (t < Tryz.prog.types.size)) = true := by kernel_rfl
    have := List.all_eq_true.1 hall t (by simpa using ht)
    simpa using this
  · have hg : gs = [] := (trodVars_none hV).1
    subst hg
    rfl
theorem tokensQualities_said : Rows.TokensQualitiesSaid :=
  OpenClaim.holds_of_wide 9 Tryz.f9 rfl rfl rfl rfl rfl rfl rfl ⟨rfl, rfl, rfl, rfl, rfl⟩ rfl rfl rfl rfl rfl (by kernel_rfl) Tryz.func9 (by kernel_rfl)
    (of_decide_eq_true (by kernel_rfl)) (by unfold Func.isWrapper; first | (rw [if_pos (by decide +kernel)]; kernel_rfl) | (rw [if_neg (by decide +kernel)]; exact ⟨rfl, rfl⟩))
    (fun os started H enc _ => tokensQualities_lifted os started H enc)
theorem tokensQualities_holds : Rows.TokensQualitiesCardSaid :=
  Claim7.holds_tied_plain_at .later [] [.data, .data, .data, .data, .sentinel, .sentinel, .pinned] true (true, "949d5a32386bb23fb42fe4a0dca874791432354f7fa039f85fcf54673b706a44") true
    tokensQualities_said (fun _ h => by cases h) (by kernel_rfl) (fun _ h => by cases h) tokensQualities_row_tie rfl ⟨rfl, rfl⟩ (by kernel_rfl) rfl
    (fun f fn hf hfn => by
      obtain rfl : f = 9 := Option.some.inj ((show Tryz.prog.funcNamed "spillway/spillwaylaw05.TokensQualities" = some 9 by kernel_rfl).symm.trans hf) |>.symm
      obtain rfl : fn = Tryz.f9 := (Option.some.inj (Tryz.func9.symm.trans hfn)).symm
      exact ⟨by kernel_rfl, fun j t ht => by
        rw [Tryz.params9] at ht
        have hm : t ∈ [3, 9] := by simpa using Array.mem_of_getElem? ht
        have hall : ([3, 9].all fun u => !Tryz.prog.wantsStandIn u) = true := by kernel_rfl
        exact (show Tryz.prog.wantsStandIn t = false by simpa using List.all_eq_true.1 hall t hm)⟩)
    (by kernel_rfl)
end Go.Proofs.YtfchfhjpldppjaaGreatDoor
