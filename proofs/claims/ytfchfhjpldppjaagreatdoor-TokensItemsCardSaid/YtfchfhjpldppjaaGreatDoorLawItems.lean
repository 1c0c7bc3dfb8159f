/- Part of the proofs of the statements about tokens (layer 5): the laws; it has no conditions of its own. -/
import Derived.Test.YtfchfhjpldppjaaGreatDoorTd
import Derived.Test.YtfchfhjpldppjaaGreatDoorTe
import Derived.Test.YtfchfhjpldppjaaGreatDoorTf
namespace Go.Proofs.YtfchfhjpldppjaaGreatDoor
open Go.Sx
set_option maxRecDepth 10000
set_option maxHeartbeats 8000000
/-! Quality of the document. -/
/-- The two parts of what may be a quality. -/
structure Qs (s : List UInt8) (x : UInt8) (p : List UInt8) : Prop where
  s : (s = [x] ∧ p = []) ∨ s = x :: 46 :: p
  x : x = 48 ∨ x = 49
  p : p.length ≤ 3
theorem Qs.cut {s : List UInt8} {x : UInt8} {p : List UInt8} (V : Qs s x p) : (cutF 46 s).1 = [x] ∧ (cutF 46 s).2.1 = p := by
  have hx : (x == 46) = false := by rcases V.x with rfl | rfl <;> rfl
  rcases V.s with ⟨rfl, rfl⟩ | rfl
  · simp [cutF, hx]
  · simp [cutF, hx]
theorem qs_of {s : List UInt8} (h : qualOk (cutF 46 s).1 (cutF 46 s).2.1 = true) : ∃ x p, Qs s x p := by
  unfold qualOk at h
  simp only [Bool.and_eq_true, Bool.or_eq_true, beq_iff_eq, decide_eq_true_eq] at h
  obtain ⟨⟨⟨h1, h2⟩, h3⟩, _⟩ := h
  have key : ∀ x : UInt8, (cutF 46 s).1 = [x] → (s = [x] ∧ (cutF 46 s).2.1 = []) ∨ s = x :: 46 :: (cutF 46 s).2.1 := by
    intro x hx
    match s, hx with
    | [], hx => simp [cutF] at hx
    | c :: r, hx =>
      simp only [cutF] at hx ⊢
      by_cases hc : (c == 46) = true
      · rw [if_pos hc] at hx; simp at hx
      · rw [if_neg hc] at hx ⊢
        simp only [List.cons.injEq] at hx
        obtain ⟨rfl, hr⟩ := hx
        match r, hr with
        | [], _ => left; simp [cutF]
        | d :: r', hr =>
          simp only [cutF] at hr ⊢
          by_cases hd : (d == 46) = true
          · rw [if_pos hd] at hr ⊢
            right; rw [beq_iff_eq.1 hd]
          · rw [if_neg hd] at hr; simp at hr
  rcases h1 with h1 | h1
  · exact ⟨48, _, key 48 h1, .inl rfl, h2⟩
  · exact ⟨49, _, key 49 h1, .inr rfl, h2⟩
theorem qual_bad {s : List UInt8} (h : ∀ x p, ¬ Qs s x p) : qualF s = (0, 6) := by
  unfold qualF
  rw [if_neg]
  intro hk
  obtain ⟨x, p, hq⟩ := qs_of hk
  exact h x p hq
def okAt (x : UInt8) (c : UInt8) : Bool := digB c && !(x == 49 && !(c == 48))
theorem qualOk_eq {x : UInt8} {p : List UInt8} (hx : x = 48 ∨ x = 49) (hp : p.length ≤ 3) : qualOk [x] p = p.all (okAt x) := by
  unfold qualOk
  have h1 : ([x] == [48] || [x] == [49]) = true := by rcases hx with rfl | rfl <;> rfl
  rw [h1, decide_eq_true hp]
  simp only [Bool.true_and]
  have e : ([x] == [49]) = (x == 49) := by rcases hx with rfl | rfl <;> rfl
  rw [e]
  induction p with
  | nil => cases x == 49 <;> rfl
  | cons c r ih =>
    rw [List.all_cons, List.all_cons, List.all_cons, ← ih (by simp at hp; omega)]
    unfold okAt
    cases x == 49 <;> cases digB c <;> cases c == 48 <;> cases r.all digB <;> cases (r.all fun x => x == 48) <;> rfl
def nAt (x : UInt8) (p : List UInt8) (j : Nat) : Int := 1000 * dgI [x] 0 + (if 0 < j then 100 * dgI p 0 else 0) + (if 1 < j then 10 * dgI p 1 else 0) + (if 2 < j then dgI p 2 else 0)
def unitAt (j : Nat) : Int := if j = 0 then 100 else if j = 1 then 10 else if j = 2 then 1 else 0
structure RqJ (s : List UInt8) (x : UInt8) (p : List UInt8) (j : Nat) (I N U : Int) (m : Nat) : Prop where
  q : Qs s x p
  le : j ≤ p.length
  I : I = ((2 + j : Nat) : Int)
  N : N = nAt x p j
  U : U = unitAt j
  m : m = p.length - j
  ok : ∀ t, t < j → okAt x (p.getD t 0) = true
theorem Qs.len {s : List UInt8} {x : UInt8} {p : List UInt8} (V : Qs s x p) {j : Nat} (h : j ≤ p.length) : (2 + j < s.length ↔ j < p.length) ∧ s.length ≤ 5 ∧ 0 < s.length ∧ s.getD 0 0 = x := by
  have h3 := V.p
  rcases V.s with ⟨rfl, rfl⟩ | rfl
  · simp at h ⊢
  · simp; omega
theorem Qs.at_ {s : List UInt8} {x : UInt8} {p : List UInt8} (V : Qs s x p) {j : Nat} (h : j < p.length) : s.getD (2 + j) 0 = p.getD j 0 := by
  rcases V.s with ⟨rfl, rfl⟩ | rfl
  · simp at h
  · rw [show 2 + j = j + 1 + 1 by omega]; rfl
theorem qs_test {s : List UInt8} {x : UInt8} {p : List UInt8} {c d : Int} (Q : Qs s x p) (hc : c = charI s 0) (hd : d = charI s 1) (h : ((((decide ((s.length : Int) < 1) || decide (5 < (s.length : Int))) || (c != 48 && c != 49)) || (decide (1 < (s.length : Int)) && d != 46))) = true) : False := by
  have h3 := Q.p
  rcases Q.s with ⟨rfl, rfl⟩ | rfl
  · have hcx : c = 48 ∨ c = 49 := by rw [hc]; rcases Q.x with rfl | rfl <;> simp [charI]
    simp only [List.length_singleton] at h
    rcases hcx with rfl | rfl <;> simp at h
  · have hcx : c = 48 ∨ c = 49 := by rw [hc]; rcases Q.x with rfl | rfl <;> simp [charI]
    have hdx : d = 46 := by rw [hd]; rfl
    simp only [List.length_cons] at h
    have h5 : ¬ (5 < ((p.length + 1 + 1 : Nat) : Int)) := by omega
    have h1 : ¬ (((p.length + 1 + 1 : Nat) : Int) < 1) := by omega
    rw [decide_eq_false h5, decide_eq_false h1, hdx] at h
    rcases hcx with rfl | rfl <;> simp at h
theorem qs_good {s : List UInt8} {c d : Int} (hc : c = charI s 0) (hd : d = charI s 1) (h : ((((decide ((s.length : Int) < 1) || decide (5 < (s.length : Int))) || (c != 48 && c != 49)) || (decide (1 < (s.length : Int)) && d != 46))) = false) : ∃ x p, Qs s x p := by
  simp only [Bool.or_eq_false_iff, decide_eq_false_iff_not, Bool.and_eq_false_iff, bne_eq_false_iff_eq] at h
  obtain ⟨⟨⟨h1, h2⟩, h3⟩, h4⟩ := h
  match s with
  | [] => simp at h1
  | [x] =>
    refine ⟨x, [], .inl ⟨rfl, rfl⟩, ?_, by simp⟩
    rw [hc] at h3
    simp only [charI, List.getD_cons_zero] at h3
    rcases h3 with h3 | h3
    · left; exact UInt8.toNat_inj.1 (by show x.toNat = 48; omega)
    · right; exact UInt8.toNat_inj.1 (by show x.toNat = 49; omega)
  | x :: y :: p =>
    have hy : y = 46 := by
      rcases h4 with h4 | h4
      · exact absurd (by simp only [List.length_cons]; omega) h4
      · rw [hd] at h4
        simp only [charI] at h4
        exact UInt8.toNat_inj.1 (by show y.toNat = 46; have : (y.toNat : Int) = 46 := h4
                                    omega)
    subst hy
    refine ⟨x, p, .inr rfl, ?_, by simp at h2; omega⟩
    rw [hc] at h3
    simp only [charI, List.getD_cons_zero] at h3
    rcases h3 with h3 | h3
    · left; exact UInt8.toNat_inj.1 (by show x.toNat = 48; omega)
    · right; exact UInt8.toNat_inj.1 (by show x.toNat = 49; omega)
def rqJ36 (s : List UInt8) (x : UInt8) (p : List UInt8) (m : Nat) (vs : List (Option SV)) (hp : List Hl) : Prop :=
  ∃ (j : Nat) (I N U : Int), vs = [some (.str s), some (.int .i64 (.a N)), some (.int .i64 (.a U)), some (.int .i64 (.a I))] ∧ hp = [] ∧ RqJ s x p j I N U m
theorem okAt_test {x c : UInt8} {e x1 : Int} (he : e = (c.toNat : Int)) (hx1 : x1 = (x.toNat : Int)) (hx : x = 48 ∨ x = 49) : ((decide (e < 48) || decide (57 < e)) || (x1 == 49 && e != 48)) = !okAt x c := by
  subst he hx1
  have hc : (c == 48) = ((c.toNat : Int) == 48) := by
    rw [Bool.eq_iff_iff, beq_iff_eq, beq_iff_eq]
    constructor
    · rintro rfl; rfl
    · intro h; exact UInt8.toNat_inj.1 (by show c.toNat = 48; omega)
  have hd : digB c = !(decide ((c.toNat : Int) < 48) || decide (57 < (c.toNat : Int))) := by
    unfold digB
    rw [Bool.eq_iff_iff]; simp; omega
  unfold okAt
  rw [hc, hd]
  rcases hx with rfl | rfl
  · show (_ || (((48 : UInt8).toNat : Int) == 49 && _)) = !(_ && !((48 : UInt8) == 49 && _))
    rw [show ((((48 : UInt8).toNat : Nat) : Int) == 49) = false from rfl, show ((48 : UInt8) == 49) = false from rfl]
    simp
  · rw [show ((((49 : UInt8).toNat : Nat) : Int) == 49) = true from rfl, show ((49 : UInt8) == 49) = true from rfl]
    simp [bne]
theorem dig_of {x c : UInt8} (h : okAt x c = true) : 48 ≤ c.toNat ∧ c.toNat ≤ 57 := by
  unfold okAt digB at h
  simp only [Bool.and_eq_true, decide_eq_true_eq] at h
  exact h.1
theorem unit_step {x : UInt8} {p : List UInt8} {j : Nat} (h : j < p.length) (h3 : j < 3) : nAt x p (j + 1) = nAt x p j + unitAt j * (((p.getD j 0).toNat : Int) - 48) ∧ Int.tdiv (unitAt j) 10 = unitAt (j + 1) ∧ IntKind.i64.wrap (unitAt (j + 1)) = unitAt (j + 1) := by
  have e : dgI p j = ((p.getD j 0).toNat : Int) - 48 := by
    unfold dgI
    rw [List.getD_eq_getElem?_getD, List.getD_eq_getElem?_getD, List.getElem?_eq_getElem h]; rfl
  rw [← e]
  rcases (by omega : j = 0 ∨ j = 1 ∨ j = 2) with rfl | rfl | rfl
  · exact ⟨by simp [nAt, unitAt], by decide, by decide⟩
  · exact ⟨by simp [nAt, unitAt], by decide, by decide⟩
  · exact ⟨by simp [nAt, unitAt], by decide, by decide⟩
theorem nAt_le {x : UInt8} {p : List UInt8} (hx : x = 48 ∨ x = 49) {j : Nat} (h : ∀ t, t < j → okAt x (p.getD t 0) = true) : 0 ≤ nAt x p j ∧ nAt x p j ≤ 1999 := by
  have d : ∀ t, t < j → 0 ≤ dgI p t ∧ dgI p t ≤ 9 := by
    intro t ht
    have := dig_of (h t ht)
    unfold dgI
    rw [List.getD_eq_getElem?_getD] at this ⊢
    cases hp : p[t]? with
    | none => simp
    | some c => rw [hp] at this; simp at this ⊢; omega
  have hx2 : 0 ≤ dgI [x] 0 ∧ dgI [x] 0 ≤ 1 := by rcases hx with rfl | rfl <;> decide
  unfold nAt
  have d0 := d 0; have d1 := d 1; have d2 := d 2
  split <;> split <;> split <;> omega
theorem nAt_all {x : UInt8} {p : List UInt8} (h : p.length ≤ 3) : nAt x p p.length = qualV [x] p := by
  match p, h with
  | [], _ => simp [nAt, qualV, dgI]
  | [a], _ => simp [nAt, qualV, dgI]
  | [a, b], _ => simp [nAt, qualV, dgI]
  | [a, b, c], _ => simp [nAt, qualV, dgI]
  | _ :: _ :: _ :: _ :: _, h => simp at h
structure B05 (D : Dn) (s : List UInt8) : Prop where
  h : D.b (.not (.or (.cmp .lss (.len s) (.l 1)) (.cmp .gtr (.len s) (.l 5)))) = true → 0 < s.length
structure RqC (s : List UInt8) (x : UInt8) (p : List UInt8) (j : Nat) (I : Int) : Prop where
  I : ST.den (.a I) = ((2 + j : Nat) : Int)
  lt : 2 + j < s.length
  ch : charI s (2 + j) = ((p.getD j 0).toNat : Int)
  x0 : charI s 0 = (x.toNat : Int)
theorem RqC.inS {D : Dn} (hD : D = dn) {s : List UInt8} {x : UInt8} {p : List UInt8} {j : Nat} {I : Int} (V : RqC s x p j I) : InS (D.i (.a I)) s := by
  subst hD; exact inS_of V.I V.lt
theorem refQuality_ok : FnOk Tryz.prog gl 36 spQual := by
  refine fnOk (gh := []) mixed cxOk tabNil Tryz.func36 (by kernel_rfl) (by kernel_rfl) ?_
  intro xs ls K h
  unfold spQual at h
  obtain ⟨s, rfl, rfl, hl, h⟩ := h
  obtain ⟨k, hk⟩ : ∃ k, k = qualF s := ⟨_, rfl⟩
  obtain ⟨kn, ke⟩ := k
  refine ⟨_, _, h kn ke hk, fun D hD => ?_⟩
  clear h
  cbv
  have b0 : B05 D s := ⟨fun h => by subst hD; have h : (!(decide ((s.length : Int) < 1) || decide (5 < (s.length : Int)))) = true := h; simp only [Bool.not_eq_true', Bool.or_eq_false_iff, decide_eq_false_iff_not] at h; omega⟩
  refine ⟨fun hg => ?_, fun c hc => ?_⟩
  · have := b0.h hg
    subst hD; exact inS_of (e := .l 0) (i := 0) rfl this
  have hc2 := byteAt (e := .l 0) (i := 0) hD rfl hc
  clear hc
  cbv
  refine ⟨fun hg => ?_, fun c' hc' => ?_⟩
  · intro hg1
    have := b0.h hg1
    subst hD; exact inS_of (e := .l 0) (i := 0) rfl this
  have hc2' := byteAt (e := .l 0) (i := 0) hD rfl hc'
  obtain rfl : c' = c := by rw [hc2'.h, hc2.h]
  clear hc' hc2'
  cbv
  refine ⟨fun hg => ?_, fun d hd => ?_⟩
  · intro _
    subst hD
    have h1 : 1 < (s.length : Int) := of_decide_eq_true (p := 1 < (s.length : Int)) hg
    exact inS_of (e := .l 1) (i := 1) rfl (by omega)
  have hd2 := byteAt (e := .l 1) (i := 1) hD rfl hd
  clear hd b0
  cbv
  refine br hD (fun h => ?_) (fun h => ?_) <;> cbv
  · have h : ((((decide ((s.length : Int) < 1) || decide (5 < (s.length : Int))) || (c' != 48 && c' != 49)) || (decide (1 < (s.length : Int)) && d != 46))) = true := h
    rw [qual_bad fun x p Q => qs_test Q hc2.charI hd2.charI h] at hk
    exact finQual (x := .l 0) (y := .l 6) hD hk
  have h : ((((decide ((s.length : Int) < 1) || decide (5 < (s.length : Int))) || (c' != 48 && c' != 49)) || (decide (1 < (s.length : Int)) && d != 46))) = false := h
  obtain ⟨x, p, Q⟩ := qs_good hc2.charI hd2.charI h
  clear h hd2
  obtain ⟨q1, q2⟩ := Q.cut
  rw [qualF, q1, q2, qualOk_eq Q.x Q.p] at hk
  have hx0 : charI s 0 = (x.toNat : Int) := by
    unfold charI; rw [(Q.len (Nat.zero_le _)).2.2.2]
  have hs0 : 0 < s.length := (Q.len (Nat.zero_le _)).2.2.1
  refine ⟨by subst hD; exact inS_of (e := .l 0) (i := 0) rfl hs0, fun c0 hc0 => ?_⟩
  have hc02 := byteAt (e := .l 0) (i := 0) hD rfl hc0
  clear hc0 hc2
  cbv
  obtain ⟨J, hJ⟩ : ∃ J, J = rqJ36 s x p := ⟨_, rfl⟩
  refine ⟨[0, 4, 5, 6], J, ⟨rfl, p.length, ?_⟩, ?_⟩
  · rw [hJ]
    subst hD
    refine ⟨0, _, _, _, rfl, rfl, ⟨Q, Nat.zero_le _, rfl, ?_, rfl, rfl, by simp⟩⟩
    have hb : 48 ≤ c0 ∧ c0 ≤ 49 := by rw [hc02.charI, hx0]; rcases Q.x with rfl | rfl <;> decide
    show IntKind.i64.wrap (1000 * IntKind.i64.wrap (IntKind.u8.wrap (c0 - 48))) = _
    rw [wrap8 (by omega) (by omega), wrap64 (n := c0 - 48) (by omega) (by omega), wrap64 (by omega) (by omega)]
    rw [hc02.charI, hx0]
    simp [nAt, dgI]
  clear hc02
  intro m vs hp' hv
  rw [hJ] at hv
  unfold rqJ36 at hv
  obtain ⟨j, I, N, U, rfl, rfl, V⟩ := hv
  cbv
  refine br hD (fun h => ?_) (fun h => ?_) <;> cbv
  · have hlt : j < p.length := by
      have h := of_decide_eq_true (p := I < (s.length : Int)) h
      have h1 := V.I
      exact (Q.len V.le).1.1 (by omega)
    clear h
    have hch : charI s (2 + j) = ((p.getD j 0).toNat : Int) := by unfold charI; rw [Q.at_ hlt]
    have hC : RqC s x p j I := ⟨V.I, (Q.len V.le).1.2 hlt, hch, hx0⟩
    clear hch
    refine ⟨hC.inS hD, fun c hc => ?_⟩
    have hc2 := byteAt hD hC.I hc
    clear hc
    cbv
    refine ⟨fun _ => hC.inS hD, fun e he => ?_⟩
    have he2 := byteAt hD hC.I he
    obtain rfl : e = c := by rw [he2.h, hc2.h]
    clear he he2
    cbv
    refine ⟨fun _ => by subst hD; exact inS_of (e := .l 0) (i := 0) rfl hs0, fun x1 hx1 => ?_⟩
    have hx2 := byteAt (e := .l 0) (i := 0) hD rfl hx1
    clear hx1
    cbv
    refine ⟨fun _ _ => hC.inS hD, fun e2 he2 => ?_⟩
    obtain rfl : e2 = e := by have := byteAt hD hC.I he2; rw [this.h, hc2.h]
    clear he2
    cbv
    refine br hD (fun h => ?_) (fun h => ?_) <;> cbv
    · have h : ((decide (e2 < 48) || decide (57 < e2)) || (x1 == 49 && e2 != 48)) = true := h
      rw [okAt_test (hc2.charI.trans hC.ch) (hx2.charI.trans hC.x0) Q.x] at h
      have hb : p.all (okAt x) = false := by
        rw [List.all_eq_false]
        exact ⟨p.getD j 0, by rw [List.getD_eq_getElem?_getD, List.getElem?_eq_getElem hlt]; exact List.getElem_mem hlt, by simpa using h⟩
      rw [hb, if_neg (by simp)] at hk
      exact finQual (x := .l 0) (y := .l 6) hD hk
    have h : ((decide (e2 < 48) || decide (57 < e2)) || (x1 == 49 && e2 != 48)) = false := h
    rw [okAt_test (hc2.charI.trans hC.ch) (hx2.charI.trans hC.x0) Q.x] at h
    have hok : okAt x (p.getD j 0) = true := by simpa using h
    clear h
    refine ⟨hC.inS hD, fun e3 he3 => ?_⟩
    obtain rfl : e3 = e2 := by have := byteAt hD hC.I he3; rw [this.h, hc2.h]
    clear he3
    cbv
    refine ⟨⟨by subst hD; show (10 : Int) ≠ 0; omega⟩, ?_⟩
    have hdg := dig_of hok
    have hj3 : j < 3 := by have := Q.p; omega
    obtain ⟨u1, u2, u3⟩ := unit_step (x := x) hlt hj3
    refine ⟨p.length - (j + 1), by have := V.m; omega, ?_⟩
    rw [hJ]
    subst hD
    have hce : e3 = ((p.getD j 0).toNat : Int) := hc2.charI.trans hC.ch
    have hN := V.N; have hU := V.U; have hI := V.I
    have hnb := nAt_le (p := p) Q.x (j := j) V.ok
    refine ⟨j + 1, _, _, _, rfl, rfl, ⟨Q, by omega, ?_, ?_, ?_, rfl, fun t ht => ?_⟩⟩
    · show IntKind.i64.wrap (I + 1) = _
      rw [hI, wrap64 (by omega) (by omega)]; omega
    · show IntKind.i64.wrap (N + IntKind.i64.wrap (U * IntKind.i64.wrap (IntKind.u8.wrap (e3 - 48)))) = _
      rw [u1, wrap8 (by omega) (by omega), wrap64 (n := e3 - 48) (by omega) (by omega), hN, hU, hce]
      have hU2 : 0 ≤ unitAt j ∧ unitAt j ≤ 100 := by unfold unitAt; split <;> (try split) <;> (try split) <;> omega
      have hm : 0 ≤ unitAt j * (((p.getD j 0).toNat : Int) - 48) ∧ unitAt j * (((p.getD j 0).toNat : Int) - 48) ≤ 900 := by
        constructor
        · exact Int.mul_nonneg hU2.1 (by omega)
        · have := Int.mul_le_mul hU2.2 (show ((p.getD j 0).toNat : Int) - 48 ≤ 9 by omega) (by omega) (by omega)
          omega
      rw [wrap64 (n := unitAt j * _) (by omega) (by omega), wrap64 (by omega) (by omega)]
    · show IntKind.i64.wrap (Int.tdiv U 10) = _
      rw [hU, u2]; exact u3
    · by_cases e : t = j
      · rw [e]; exact hok
      · exact V.ok t (by omega)
  · have hlt : ¬ j < p.length := by
      have h := of_decide_eq_false (p := I < (s.length : Int)) h
      have h1 := V.I
      intro hj
      have := (Q.len V.le).1.2 hj
      omega
    have hje : j = p.length := by have := V.le; omega
    have hall : p.all (okAt x) = true := by
      rw [List.all_eq_true]
      intro c hc
      obtain ⟨t, ht, rfl⟩ := List.mem_iff_getElem.1 hc
      have := V.ok t (by omega)
      rw [List.getD_eq_getElem?_getD, List.getElem?_eq_getElem ht] at this
      exact this
    rw [hall, if_pos rfl] at hk
    refine finQual (x := .a N) (y := .l 0) hD ?_
    rw [hk]
    show (qualV [x] p, (0 : Int)) = (N, 0)
    rw [V.N, hje, nAt_all Q.p]
end Go.Proofs.YtfchfhjpldppjaaGreatDoor
namespace Go.Proofs.YtfchfhjpldppjaaGreatDoor
open Go.Sx
set_option maxRecDepth 10000
set_option maxHeartbeats 2000000
/-! Elements that are joined again. -/
def runS (p : Int → Bool) (y : Int) : List UInt8 → Nat → Option Nat
  | [], md => some md
  | c :: r, md =>
    if !p (c.toNat : Int) then none
    else if md = 0 then (if (c.toNat : Int) = 34 then runS p y r 1 else if (c.toNat : Int) = y then none else runS p y r 0)
    else if md = 1 then runS p y r (if (c.toNat : Int) = 34 then 0 else if (c.toNat : Int) = 92 then 2 else 1)
    else runS p y r 1
theorem partsM_app (p : Int → Bool) (y : Int) : ∀ (a b : List UInt8) (md m : Nat) (cur : List UInt8), runS p y a md = some m → partsM p y (a ++ b) md cur = partsM p y b m (cur ++ a)
  | [], b, md, m, cur, h => by
    simp only [runS, Option.some.injEq] at h
    rw [h]; simp
  | c :: a, b, md, m, cur, h => by
    simp only [runS] at h
    simp only [List.cons_append, partsM]
    split at h
    · cases h
    rename_i hp
    rw [if_neg hp]
    split at h
    · rename_i h0
      rw [if_pos h0]
      split at h
      · rename_i h34
        rw [if_pos h34, partsM_app p y a b 1 m _ h]; simp
      · rename_i h34
        rw [if_neg h34]
        split at h
        · cases h
        · rename_i hy
          rw [if_neg hy, partsM_app p y a b 0 m _ h]; simp
    · rename_i h0
      rw [if_neg h0]
      split at h
      · rename_i h1
        rw [if_pos h1]
        split at h
        · rename_i h34
          rw [if_pos h34, partsM_app p y a b 0 m _ h]; simp
        · rename_i h34
          rw [if_neg h34]
          split at h
          · rename_i h92
            rw [if_pos h92, partsM_app p y a b 2 m _ h]; simp
          · rename_i h92
            rw [if_neg h92, partsM_app p y a b 1 m _ h]; simp
      · rename_i h1
        rw [if_neg h1, partsM_app p y a b 1 m _ h]; simp
theorem partsM_runS (p : Int → Bool) (y : Int) : ∀ (r : List UInt8) (md : Nat) (cur : List UInt8) (l : List (List UInt8)), partsM p y r md cur = some l → ∃ r1 l', l = (cur ++ r1) :: l' ∧ runS p y r1 md = some 0 ∧ ∀ x ∈ l', runS p y x 0 = some 0
  | [], md, cur, l, h => by
    simp only [partsM] at h
    split at h
    · rename_i h0
      cases h
      exact ⟨[], [], by simp, by rw [runS, h0], by simp⟩
    · cases h
  | c :: r, md, cur, l, h => by
    simp only [partsM] at h
    split at h
    · cases h
    rename_i hp
    have push : ∀ md', partsM p y r md' (cur ++ [c]) = some l → (∀ r1, runS p y (c :: r1) md = runS p y r1 md') → ∃ r1 l', l = (cur ++ r1) :: l' ∧ runS p y r1 md = some 0 ∧ ∀ x ∈ l', runS p y x 0 = some 0 := by
      intro md' h hm
      obtain ⟨r1, l', e1, e2, e3⟩ := partsM_runS p y r md' _ l h
      exact ⟨c :: r1, l', by rw [e1]; simp, by rw [hm]; exact e2, e3⟩
    split at h
    · rename_i h0
      split at h
      · rename_i h34
        exact push 1 h fun r1 => by rw [runS, if_neg hp, if_pos h0, if_pos h34]
      · rename_i h34
        split at h
        · obtain ⟨l1, h1, rfl⟩ := Option.map_eq_some_iff.1 h
          obtain ⟨r1, l', e1, e2, e3⟩ := partsM_runS p y r 0 [] l1 h1
          refine ⟨[], l1, by simp, by rw [runS, h0], ?_⟩
          rw [e1]
          intro x hx
          rcases List.mem_cons.1 hx with rfl | hx
          · simpa using e2
          · exact e3 x hx
        · rename_i hy
          exact push 0 h fun r1 => by rw [runS, if_neg hp, if_pos h0, if_neg h34, if_neg hy]
    · rename_i h0
      split at h
      · rename_i h1
        split at h
        · rename_i h34
          exact push 0 h fun r1 => by rw [runS, if_neg hp, if_neg h0, if_pos h1, if_pos h34]
        · rename_i h34
          split at h
          · rename_i h92
            exact push 2 h fun r1 => by rw [runS, if_neg hp, if_neg h0, if_pos h1, if_neg h34, if_pos h92]
          · rename_i h92
            exact push 1 h fun r1 => by rw [runS, if_neg hp, if_neg h0, if_pos h1, if_neg h34, if_neg h92]
      · rename_i h1
        exact push 1 h fun r1 => by rw [runS, if_neg hp, if_neg h0, if_neg h1]
theorem runS_app (p : Int → Bool) (y : Int) : ∀ (a b : List UInt8) (md : Nat), runS p y (a ++ b) md = (runS p y a md).bind (runS p y b)
  | [], b, md => rfl
  | c :: a, b, md => by
    simp only [List.cons_append, runS]
    split
    · rfl
    split
    · split
      · exact runS_app p y a b _
      · split
        · rfl
        · exact runS_app p y a b _
    split
    · exact runS_app p y a b _
    · exact runS_app p y a b _
theorem blank_44 {c : UInt8} (h : blankB c = true) : (c.toNat : Int) ≠ 44 := by
  unfold blankB blankI at h
  simp only [Bool.or_eq_true, beq_iff_eq] at h
  rcases h with h | h <;> rw [h] <;> decide
theorem runS_trimL : ∀ (x : List UInt8), runS plainI 44 x 0 = some 0 → runS plainI 44 (trimL x) 0 = some 0
  | [], h => h
  | c :: r, h => by
    by_cases hb : blankB c = true
    · rw [trimL_cons hb]
      obtain ⟨h1, h2, h3⟩ := blank_facts hb
      rw [runS, h1] at h
      simp only [Bool.not_true, Bool.false_eq_true, if_false, if_true, if_neg h2, if_neg (blank_44 hb)] at h
      exact runS_trimL r h
    · rw [trimL, List.dropWhile_cons_of_neg hb]; exact h
theorem runS_blank {r : List UInt8} {c : UInt8} (hb : blankB c = true) (h : runS plainI 44 (r ++ [c]) 0 = some 0) : runS plainI 44 r 0 = some 0 := by
  obtain ⟨h1, h2, h3⟩ := blank_facts hb
  rw [runS_app] at h
  cases hr : runS plainI 44 r 0 with
  | none => rw [hr] at h; cases h
  | some m =>
    rw [hr] at h
    simp only [Option.bind_some, runS, h1, Bool.not_true, Bool.false_eq_true, if_false, if_neg h2, if_neg h3, if_neg (blank_44 hb)] at h
    split at h
    · rename_i h0; rw [h0]
    · split at h <;> simp at h
theorem runS_trimR : ∀ (n : Nat) (x : List UInt8), x.length ≤ n → runS plainI 44 x 0 = some 0 → runS plainI 44 (trimR x) 0 = some 0
  | n, [], _, h => h
  | 0, c :: r, hl, h => by simp at hl
  | n + 1, c :: r, hl, h => by
    obtain ⟨L, b, hx⟩ : ∃ L b, c :: r = L ++ [b] := by
      rcases List.eq_nil_or_concat (c :: r) with e | ⟨L, b, e⟩
      · cases e
      · exact ⟨L, b, by simpa using e⟩
    rw [hx] at h ⊢
    have hl2 : L.length ≤ n := by have := congrArg List.length hx; simp at this hl; omega
    by_cases hb : blankB b = true
    · rw [trimR_snoc hb]
      exact runS_trimR n L hl2 (runS_blank hb h)
    · rw [trimR, List.reverse_append, List.reverse_singleton, List.singleton_append, List.dropWhile_cons_of_neg hb]
      simpa using h
theorem dropW_idem {p : UInt8 → Bool} : ∀ (s : List UInt8), (s.dropWhile p).dropWhile p = s.dropWhile p
  | [] => rfl
  | c :: r => by
    by_cases h : p c = true
    · rw [List.dropWhile_cons_of_pos h]; exact dropW_idem r
    · rw [List.dropWhile_cons_of_neg h, List.dropWhile_cons_of_neg h]
theorem trimL_idem (s : List UInt8) : trimL (trimL s) = trimL s := dropW_idem s
theorem trimR_idem (s : List UInt8) : trimR (trimR s) = trimR s := by
  unfold trimR; rw [List.reverse_reverse, dropW_idem]
theorem trimF_idem (s : List UInt8) : trimF (trimF s) = trimF s := by
  unfold trimF
  rw [← trim_comm (trimL s), trimL_idem, trimR_idem]
/-- An element: it has no comma outside of quoted strings, and no blanks at its ends. -/
structure Elem (x : List UInt8) : Prop where
  run : runS plainI 44 x 0 = some 0
  trim : trimF x = x
  ne : x ≠ []
theorem elem_of {s x : List UInt8} (h : x ∈ (refElementsF s).1) : Elem x := by
  unfold refElementsF at h
  split at h
  · simp at h
  · cases hp : partsF 44 s with
    | none => rw [hp] at h; simp at h
    | some l =>
      rw [hp] at h
      have h : x ∈ keepF l := h
      unfold keepF at h
      obtain ⟨hm, hne⟩ := List.mem_filter.1 h
      obtain ⟨z, hz, rfl⟩ := List.mem_map.1 hm
      obtain ⟨r1, l', e1, e2, e3⟩ := partsM_runS _ _ _ _ _ _ hp
      have hz2 : runS plainI 44 z 0 = some 0 := by
        rw [e1] at hz
        rcases List.mem_cons.1 hz with rfl | hz
        · simpa using e2
        · exact e3 z hz
      refine ⟨runS_trimR _ _ (Nat.le_refl _) (runS_trimL _ hz2), trimF_idem z, fun e => ?_⟩
      rw [e] at hne; cases hne
/-- What is kept of the parts. -/
def Kp (cur s : List UInt8) : Option (List (List UInt8)) := (partsM plainI 44 s 0 cur).map keepF
def keep1 (cur : List UInt8) : List (List UInt8) := if neB (trimF cur) then [trimF cur] else []
theorem Kp_comma (cur s : List UInt8) : Kp cur (44 :: s) = (Kp [] s).map (keep1 cur ++ ·) := by
  unfold Kp
  have h1 : plainI (((44 : UInt8).toNat : Nat) : Int) = true := by decide
  rw [partsM, h1]
  have h2 : ¬ (((44 : UInt8).toNat : Nat) : Int) = 34 := by decide
  have h3 : (((44 : UInt8).toNat : Nat) : Int) = 44 := by decide
  simp only [Bool.not_true, Bool.false_eq_true, if_false, if_true, if_neg h2, if_pos h3]
  cases partsM plainI 44 s 0 [] with
  | none => rfl
  | some l =>
    simp only [Option.map_some, Option.some.injEq]
    unfold keepF keep1
    rw [List.map_cons, List.filter_cons]
    split <;> rfl
theorem Kp_blank {c : UInt8} (h : blankB c = true) (cur s : List UInt8) : Kp cur (c :: s) = Kp (cur ++ [c]) s := by
  unfold Kp
  obtain ⟨h1, h2, h3⟩ := blank_facts h
  rw [partsM, h1]
  simp only [Bool.not_true, Bool.false_eq_true, if_false, if_true, if_neg h2, if_neg (blank_44 h)]
theorem Kp_blanks : ∀ (w cur s : List UInt8), (∀ c ∈ w, blankB c = true) → Kp cur (w ++ s) = Kp (cur ++ w) s
  | [], cur, s, _ => by simp
  | c :: w, cur, s, h => by
    rw [List.cons_append, Kp_blank (h c (by simp)), Kp_blanks w _ s (fun d hd => h d (by simp [hd]))]
    simp
theorem partsM_pre (p : Int → Bool) (y : Int) : ∀ (r : List UInt8) (md : Nat) (cur x : List UInt8), partsM p y r md (x ++ cur) = (partsM p y r md cur).map fun l => match l with
    | [] => []
    | h :: t => (x ++ h) :: t
  | [], md, cur, x => by simp only [partsM]; split <;> rfl
  | c :: r, md, cur, x => by
    simp only [partsM]
    rw [List.append_assoc, partsM_pre p y r 1, partsM_pre p y r 0, partsM_pre p y r 2]
    split
    · rfl
    split
    · split
      · rfl
      · split
        · cases partsM p y r 0 [] <;> rfl
        · rfl
    · split
      · split
        · rfl
        · split <;> rfl
      · rfl
theorem trimF_pre : ∀ (w x : List UInt8), (∀ c ∈ w, blankB c = true) → trimF (w ++ x) = trimF x
  | [], x, _ => rfl
  | c :: w, x, h => by
    unfold trimF
    rw [List.cons_append, trimL_cons (h c (by simp))]
    exact trimF_pre w x fun d hd => h d (by simp [hd])
theorem trimR_post : ∀ (n : Nat) (w x : List UInt8), w.length ≤ n → (∀ c ∈ w, blankB c = true) → trimR (x ++ w) = trimR x
  | n, [], x, _, _ => by simp
  | 0, c :: w, x, hl, _ => by simp at hl
  | n + 1, c :: w, x, hl, h => by
    obtain ⟨L, b, hx⟩ : ∃ L b, c :: w = L ++ [b] := by
      rcases List.eq_nil_or_concat (c :: w) with e | ⟨L, b, e⟩
      · cases e
      · exact ⟨L, b, by simpa using e⟩
    have hb : blankB b = true := h b (by rw [hx]; simp)
    rw [hx, ← List.append_assoc, trimR_snoc hb]
    refine trimR_post n L x (by have := congrArg List.length hx; simp at this hl; omega) fun d hd => h d (by rw [hx]; simp [hd])
theorem trimF_post (w x : List UInt8) (h : ∀ c ∈ w, blankB c = true) : trimF (x ++ w) = trimF x := by
  unfold trimF
  rw [trim_comm, trim_comm, trimR_post _ w x (Nat.le_refl _) h]
theorem Kp_pre {w : List UInt8} (h : ∀ c ∈ w, blankB c = true) (s : List UInt8) : Kp w s = Kp [] s := by
  unfold Kp
  have := partsM_pre plainI 44 s 0 [] w
  rw [List.append_nil] at this
  rw [this]
  cases partsM plainI 44 s 0 [] with
  | none => rfl
  | some l =>
    simp only [Option.map_some, Option.some.injEq]
    cases l with
    | nil => rfl
    | cons a t =>
      unfold keepF
      simp only [List.map_cons, trimF_pre w a h]
theorem keep1_nil : keep1 [] = [] := rfl
/-- Commas and blanks alone. -/
def bcB (c : UInt8) : Bool := blankB c || c == 44
theorem Kp_bc : ∀ (w s : List UInt8), (∀ c ∈ w, bcB c = true) → Kp [] (w ++ s) = Kp [] s
  | [], s, _ => rfl
  | c :: w, s, h => by
    have hc := h c (by simp)
    have ih := Kp_bc w s fun d hd => h d (by simp [hd])
    unfold bcB at hc
    rw [Bool.or_eq_true, beq_iff_eq] at hc
    rcases hc with hc | rfl
    · rw [List.cons_append, Kp_blank hc, List.nil_append, Kp_pre (by simpa using hc), ih]
    · rw [List.cons_append, Kp_comma, keep1_nil, ih]
      cases Kp [] s <;> simp
/-- What stands between elements: blanks, a comma, commas and blanks. -/
structure Sep (w : List UInt8) : Prop where
  h : ∃ a b, w = a ++ 44 :: b ∧ (∀ c ∈ a, blankB c = true) ∧ ∀ c ∈ b, bcB c = true
theorem Kp_sep {w : List UInt8} (h : Sep w) {x : List UInt8} (hx : trimF x = x) (hne : x ≠ []) (s : List UInt8) : Kp x (w ++ s) = (Kp [] s).map (x :: ·) := by
  obtain ⟨a, b, rfl, ha, hb⟩ := h.h
  rw [List.append_assoc, Kp_blanks a x _ ha, List.cons_append, Kp_comma, Kp_bc b s hb]
  have : keep1 (x ++ a) = [x] := by
    rw [keep1, trimF_post a x ha, hx]
    have : neB x = true := by
      unfold neB
      cases x with
      | nil => exact absurd rfl hne
      | cons c r => rfl
    rw [this]; rfl
  rw [this]; rfl
theorem Kp_elem {x : List UInt8} (h : Elem x) {w : List UInt8} (hw : Sep w) (s : List UInt8) : Kp [] (x ++ w ++ s) = (Kp [] s).map (x :: ·) := by
  have : Kp [] (x ++ w ++ s) = Kp x (w ++ s) := by
    unfold Kp
    rw [List.append_assoc, partsM_app plainI 44 x (w ++ s) 0 0 [] h.run]; rfl
  rw [this, Kp_sep hw h.trim h.ne]
/-- The elements, each with what comes behind it. -/
def jn (f : Nat → List UInt8) : List (List UInt8) → Nat → List UInt8
  | [], _ => []
  | e :: r, i => e ++ f i ++ jn f r (i + 1)
theorem Kp_jn {f : Nat → List UInt8} (hf : ∀ i, Sep (f i)) : ∀ (l : List (List UInt8)) (i : Nat), (∀ x ∈ l, Elem x) → Kp [] (jn f l i) = some l
  | [], i, _ => by simp [jn, Kp, partsM, keepF, neB, trimF, trimR, trimL]
  | e :: r, i, h => by
    rw [jn, Kp_elem (h e (by simp)) (hf i), Kp_jn hf r (i + 1) fun x hx => h x (by simp [hx])]; rfl
theorem elements_joined {f : Nat → List UInt8} (hf : ∀ i, Sep (f i)) {w : List UInt8} (hw : ∀ c ∈ w, bcB c = true) {l : List (List UInt8)} (h : ∀ x ∈ l, Elem x) (hl : (w ++ jn f l 0).length ≤ 2000) : refElementsF (w ++ jn f l 0) = (l, 0) := by
  have h1 : Kp [] (w ++ jn f l 0) = some l := by rw [Kp_bc w _ hw, Kp_jn hf l 0 h]
  unfold refElementsF
  rw [if_neg (by omega)]
  unfold Kp at h1
  obtain ⟨p, hp, hk⟩ := Option.map_eq_some_iff.1 h1
  have hp2 : partsF 44 (w ++ jn f l 0) = some p := hp
  rw [hp2]
  simp only [hk]
/-- How many there are, and how long together. -/
def sumL : List (List UInt8) → Nat
  | [] => 0
  | x :: r => x.length + sumL r
theorem partsM_sum (p : Int → Bool) (y : Int) : ∀ (r : List UInt8) (md : Nat) (cur : List UInt8) (l : List (List UInt8)), partsM p y r md cur = some l → sumL l + l.length = cur.length + r.length + 1
  | [], md, cur, l, h => by
    simp only [partsM] at h
    split at h
    · cases h; simp [sumL]
    · cases h
  | c :: r, md, cur, l, h => by
    have push : ∀ md', partsM p y r md' (cur ++ [c]) = some l → sumL l + l.length = cur.length + (c :: r).length + 1 := by
      intro md' h
      have := partsM_sum p y r md' _ l h
      simp at this ⊢; omega
    simp only [partsM] at h
    split at h
    · cases h
    split at h
    · split at h
      · exact push _ h
      · split at h
        · obtain ⟨l', h', rfl⟩ := Option.map_eq_some_iff.1 h
          have := partsM_sum p y r 0 [] l' h'
          simp [sumL] at this ⊢; omega
        · exact push _ h
    · split at h
      · split at h
        · exact push _ h
        · split at h
          · exact push _ h
          · exact push _ h
      · exact push _ h
theorem keepF_sum : ∀ (l : List (List UInt8)), sumL (keepF l) ≤ sumL l ∧ (keepF l).length ≤ l.length ∧ (keepF l).length ≤ sumL (keepF l)
  | [] => by simp [keepF, sumL]
  | x :: r => by
    obtain ⟨h1, h2, h3⟩ := keepF_sum r
    have hx := trimF_len x
    unfold keepF at h1 h2 h3 ⊢
    rw [List.map_cons, List.filter_cons]
    split
    · rename_i hne
      have : 1 ≤ (trimF x).length := by
        cases ht : trimF x with
        | nil => rw [ht] at hne; cases hne
        | cons a b => simp
      simp only [sumL, List.length_cons]
      omega
    · simp only [sumL, List.length_cons]
      omega
theorem elements_sum (s : List UInt8) : sumL (refElementsF s).1 ≤ s.length ∧ 2 * (refElementsF s).1.length ≤ s.length + 1 ∧ sumL (refElementsF s).1 + (refElementsF s).1.length ≤ s.length + 1 := by
  unfold refElementsF
  split
  · simp [sumL]
  · cases hp : partsF 44 s with
    | none => simp [sumL]
    | some l =>
      have h1 := partsM_sum _ _ _ _ _ _ hp
      obtain ⟨h2, h3, h4⟩ := keepF_sum l
      simp only [List.length_nil] at h1
      have hl : 0 < l.length := (partsF_len hp).2.1
      show sumL (keepF l) ≤ _ ∧ 2 * (keepF l).length ≤ _ ∧ sumL (keepF l) + (keepF l).length ≤ _
      omega
end Go.Proofs.YtfchfhjpldppjaaGreatDoor
namespace Go.Proofs.YtfchfhjpldppjaaGreatDoor
open Go.Sx
set_option maxRecDepth 10000
set_option maxHeartbeats 4000000
/-! param of the document. -/
def refParF (s : List UInt8) : Par × Bool × Bool :=
  if !(cutF 61 s).2.2 || !refTokenF (cutF 61 s).1 then (([], []), false, false)
  else ((foldF (cutF 61 s).1, (refUnquoteF (cutF 61 s).2.1).1), (refUnquoteF (cutF 61 s).2.1).2 == 3, (refUnquoteF (cutF 61 s).2.1).2 != 6)
theorem parF_ref (s : List UInt8) : parF s = if (refParF s).2.2 then some ((refParF s).1, (refParF s).2.1) else none := by
  unfold parF refParF
  cases h1 : (!(cutF 61 s).2.2 || !refTokenF (cutF 61 s).1) with
  | true => simp
  | false =>
    simp only [Bool.false_or, Bool.false_eq_true, if_false]
    cases h2 : (refUnquoteF (cutF 61 s).2.1).2 == 6 with
    | true => simp [bne, h2]
    | false => simp [bne, h2]
structure CuI (s : List UInt8) (i : Nat) (I : Int) (m : Nat) : Prop where
  at_ : At s i I m
  cut : cutF 61 s = (s.take i ++ (cutF 61 (s.drop i)).1, (cutF 61 (s.drop i)).2)
theorem CuI.more {s : List UInt8} {i : Nat} {I : Int} {m : Nat} (V : CuI s i I m) (h : i < s.length) (hc : charI s i ≠ 61) : cutF 61 s = (s.take (i + 1) ++ (cutF 61 (s.drop (i + 1))).1, (cutF 61 (s.drop (i + 1))).2) := by
  have hb : (s.getD i 0 == 61) = false := by
    cases hb : s.getD i 0 == 61 with
    | false => rfl
    | true => exact absurd (by unfold charI; rw [beq_iff_eq.1 hb]; rfl) hc
  rw [V.cut, drop_at h, cutF, hb]
  simp only [Bool.false_eq_true, if_false]
  have e : s.take (i + 1) = s.take i ++ [s.getD i 0] := by
    rw [List.take_add_one, List.getElem?_eq_getElem h, getD_lt h]; rfl
  rw [e, List.append_assoc]; rfl
theorem CuI.stop {s : List UInt8} {i : Nat} {I : Int} {m : Nat} (V : CuI s i I m) (h : i < s.length) (hc : charI s i = 61) : cutF 61 s = (s.take i, s.drop (i + 1), true) := by
  have hb : (s.getD i 0 == 61) = true := by
    unfold charI at hc
    rw [beq_iff_eq]
    refine UInt8.toNat_inj.1 ?_
    show (s.getD i 0).toNat = 61
    omega
  rw [V.cut, drop_at h, cutF, hb]
  simp
theorem CuI.end_ {s : List UInt8} {i : Nat} {I : Int} {m : Nat} (V : CuI s i I m) (h : i = s.length) : cutF 61 s = (s, [], false) := by
  rw [V.cut, h, List.drop_length, List.take_length]; simp [cutF]
def rpJ (s : List UInt8) (m : Nat) (vs : List (Option SV)) (hp : List Hl) : Prop :=
  ∃ (i : Nat) (I : Int), vs = [some (.str s), some (.ptr 0 0), some (.int .i64 (.a I))] ∧ hp = [.blk 53 [.str [], .str []]] ∧ CuI s i I m
def spParam : FSpec := fun _ xs ls K => ∃ (s : List UInt8), xs = [.str s] ∧ ls = [] ∧ s.length ≤ 100000 ∧ ∀ (a b : List UInt8) (lg is : Bool), ((a, b), lg, is) = refParF s → K (.tup [.agg [.str a, .str b], .bool (.a lg), .bool (.a is)]) []
theorem finParam {D : Dn} (hD : D = dn) {a b a' b' : List UInt8} {lg is : Bool} {x y : BT} (h : ((a, b), lg, is) = ((a', b'), x.den, y.den)) : Fin (.tup [.agg [.str a', .str b'], .bool (.a (D.b x)), .bool (.a (D.b y))]) (.tup [.agg [.str a, .str b], .bool (.a lg), .bool (.a is)]) [] [] := by
  subst hD
  simp only [Prod.mk.injEq] at h
  obtain ⟨⟨rfl, rfl⟩, rfl, rfl⟩ := h
  exact finV (LeV.refl _)
structure JoNd (x : ST) (n : Nat) : Prop where
  h : x.den = (n : Int)
theorem param_ok : FnOk Tryz.prog gl 82 spParam := by
  refine fnOk (gh := []) mixed cxOk (tabCons refToken_ok (tabCons refUnquote_ok (tabCons refFold_ok tabNil))) Tryz.func82 (by kernel_rfl) (by kernel_rfl) ?_
  intro xs ls K h
  unfold spParam at h
  obtain ⟨s, rfl, rfl, hl, h⟩ := h
  obtain ⟨k, hk⟩ : ∃ k, k = refParF s := ⟨_, rfl⟩
  obtain ⟨⟨ka, kb⟩, kl, ki⟩ := k
  refine ⟨_, _, h ka kb kl ki hk, fun D hD => ?_⟩
  clear h
  rw [refParF] at hk
  cbv
  obtain ⟨J, hJ⟩ : ∃ J, J = rpJ s := ⟨_, rfl⟩
  refine ⟨[0, 2, 5], J, ⟨rfl, s.length, ?_⟩, ?_⟩
  · rw [hJ]
    subst hD
    exact ⟨0, 0, rfl, rfl, ⟨At.zero (by omega), rfl⟩⟩
  intro m vs hp' hv
  rw [hJ] at hv
  unfold rpJ at hv
  obtain ⟨i, I, rfl, rfl, V⟩ := hv
  cbv
  refine ⟨fun hg => ?_, fun c hc => ?_⟩
  · subst hD
    exact V.at_.inS rfl (V.at_.lt (of_decide_eq_true (p := I < (s.length : Int)) hg))
  have hc2 := byteAt hD V.at_.den hc
  clear hc
  cbv
  refine br hD (fun h => ?_) (fun h => ?_) <;> cbv
  · have h : (decide (I < (s.length : Int)) && c != 61) = true := h
    simp only [Bool.and_eq_true, decide_eq_true_eq, bne_iff_ne, ne_eq] at h
    have hlt := V.at_.lt h.1
    refine ⟨s.length - (i + 1), (V.at_.step hD hlt).1, ?_⟩
    rw [hJ]
    subst hD
    exact ⟨i + 1, _, rfl, rfl, ⟨(V.at_.step rfl hlt).2, V.more hlt (by rw [← hc2.charI]; exact h.2)⟩⟩
  have h : (decide (I < (s.length : Int)) && c != 61) = false := h
  have hst : (I < (s.length : Int)) → cutF 61 s = (s.take i, s.drop (i + 1), true) := by
    intro hlt
    rw [decide_eq_true hlt, Bool.true_and, bne_eq_false_iff_eq] at h
    exact V.stop (V.at_.lt hlt) (by rw [← hc2.charI]; exact h)
  have hend : ¬ (I < (s.length : Int)) → cutF 61 s = (s, [], false) := fun hlt => V.end_ (V.at_.eq hlt)
  have hile := V.at_.le
  clear h hc2
  refine ⟨fun _ => by subst hD; exact subS_of (s := s) (i := 0) (a := .l 0) rfl V.at_.den (by omega) hile, fun r1 hr1 => ?_⟩
  have hr1' : r1 = s.take i := by
    have := sub_of (i := 0) (a := .l 0) hD rfl V.at_.den hr1
    rw [this]; rfl
  clear hr1
  have hr1l : r1.length ≤ s.length := by rw [hr1', List.length_take]; omega
  cbv
  refine ⟨r1, rfl, rfl, by omega, fun q hq => ?_⟩
  have hq2 : q = refTokenF r1 := by subst hD; exact hq
  clear hq
  cbv
  refine br hD (fun h => ?_) (fun h => ?_) <;> cbv
  · have h : (I == (s.length : Int) || !q) = true := h
    refine finParam (x := .l false) (y := .l false) hD ?_
    by_cases hlt : I < (s.length : Int)
    · have hst2 := hst hlt
      rw [hst2] at hk
      have hne : (I == (s.length : Int)) = false := by
        cases he : I == (s.length : Int) with
        | false => rfl
        | true => have := beq_iff_eq.1 he; omega
      rw [hne, Bool.false_or, hq2, hr1'] at h
      rw [hk, if_pos (by simpa using h)]; rfl
    · rw [hend hlt] at hk
      rw [hk]; rfl
  have h : (I == (s.length : Int) || !q) = false := h
  simp only [Bool.or_eq_false_iff, beq_eq_false_iff_ne, ne_eq, Bool.not_eq_false'] at h
  have hlt : I < (s.length : Int) := by have := V.at_.I; omega
  have hlti := V.at_.lt hlt
  rw [hst hlt] at hk
  simp only at hk
  have htok : refTokenF (s.take i) = true := by rw [← hr1', ← hq2]; exact h.2
  rw [htok, if_neg (by simp)] at hk
  clear hst hend h hq2
  have hd1 := V.at_.one hlti
  have hone : JoNd (.bin .add .i64 (.a I) (.l 1)) (i + 1) := ⟨hd1⟩
  clear hd1
  refine ⟨by subst hD; exact subS_of (s := s) (j := s.length) (b := .len s) hone.h rfl (by omega) (Nat.le_refl _), fun r2 hr2 => ?_⟩
  have hr2' : r2 = s.drop (i + 1) := by
    have := sub_of (j := s.length) (b := .len s) hD hone.h rfl hr2
    rw [this]; exact List.take_of_length_le (by simp)
  clear hr2
  cbv
  refine ⟨r2, rfl, rfl, by rw [hr2', List.length_drop]; omega, fun u e hu => ?_⟩
  rw [← hr2', ← hu] at hk
  simp only at hk
  cbv
  refine ⟨by subst hD; exact subS_of (s := s) (i := 0) (a := .l 0) rfl V.at_.den (by omega) hile, fun r3 hr3 => ?_⟩
  have hr3' : r3 = s.take i := by
    have := sub_of (i := 0) (a := .l 0) hD rfl V.at_.den hr3
    rw [this]; rfl
  clear hr3
  cbv
  refine ⟨r3, rfl, rfl, by rw [hr3', List.length_take]; omega, fun n hn => ?_⟩
  rw [← hr3', ← hn] at hk
  cbv
  exact finParam hD hk
end Go.Proofs.YtfchfhjpldppjaaGreatDoor
namespace Go.Proofs.YtfchfhjpldppjaaGreatDoor
open Go.Sx
set_option maxRecDepth 10000
set_option maxHeartbeats 8000000
/-! item of the document. -/
theorem partsM_one (p : Int → Bool) (y : Int) : ∀ (r : List UInt8) (md : Nat) (cur x : List UInt8), partsM p y r md cur = some [x] → x = cur ++ r
  | [], md, cur, x, h => by
    simp only [partsM] at h
    split at h
    · cases h; simp
    · cases h
  | c :: r, md, cur, x, h => by
    have push : ∀ md', partsM p y r md' (cur ++ [c]) = some [x] → x = cur ++ c :: r := by
      intro md' h
      have := partsM_one p y r md' _ x h
      rw [this]; simp
    simp only [partsM] at h
    split at h
    · cases h
    split at h
    · split at h
      · exact push _ h
      · split at h
        · obtain ⟨l', h', e⟩ := Option.map_eq_some_iff.1 h
          have h2 := partsM_len p y r 0 [] l' h'
          have : l' = [] := by
            have := congrArg List.length e
            simp at this
            exact this
          rw [this] at h2
          simp at h2
        · exact push _ h
    · split at h
      · split at h
        · exact push _ h
        · split at h
          · exact push _ h
          · exact push _ h
      · exact push _ h
def spRefItem : FSpec := fun _ xs ls K => ∃ (s : List UInt8), xs = [.str s] ∧ ls = [] ∧ s.length ≤ 100000 ∧ (partsF 59 s).isSome = true ∧ trimF s = s ∧ ∀ v ps e n nl f, ((v, ps), e) = itemF s → n = (ps.length : Int) → nl = ps.isEmpty → f = parRow ps → K (.tup [.agg [.str v, .sl (.a nl) (.a n) 2 f], .int .i64 (.a e)]) []
structure RiI (l : List (List UInt8)) (acc : List Par) (i : Nat) (I : Int) (nl : Bool) (m : Nat) : Prop where
  at_ : AtR l i I m
  al : acc.length ≤ i
  nl : nl = acc.isEmpty
  ll : l.length ≤ 100001
  le : ∀ x ∈ l, x.length ≤ 100000
def riJ (v : List UInt8) (l : List (List UInt8)) (k : Item × Int) (nb : Bool) (n : Int) (f : Nat → List SV) (m : Nat) (vs : List (Option SV)) (hp : List Hl) : Prop :=
  ∃ (i : Nat) (I : Int) (lg nl : Bool) (N : Int) (g : Nat → List SV) (acc : List Par), vs = [some (.ptr 0 0), some (.sl (.a nb) (.a n) 1 f), some (.ptr 1 0), some (.bool (.a lg)), some (.int .i64 (.a I))] ∧
    hp = [.blk 49 [.str [], .sl (.a true) (.a 0) 2 fun _ => []], .blk 49 [.str v, .gsl (.a nl) (.a N) 2 g 2], .tail 53 (.a N) 2] ∧ RiI l acc i I nl m ∧ RowP g N acc ∧ k = itemG v (addP acc lg (parsF ((l.drop i).map trimF)))
theorem trimF_nil : trimF [] = [] := rfl
theorem getD_trim {l : List (List UInt8)} {i : Nat} : (l.map trimF).getD i [] = trimF (l.getD i []) := by
  rw [List.getD_eq_getElem?_getD, List.getD_eq_getElem?_getD, List.getElem?_map]
  cases l[i]? <;> rfl
theorem refItem_ok : FnOk Tryz.prog gl 57 spRefItem := by
  refine fnOk (gh := [(2, [.hold 6 1 53])]) mixed cxOk (tabCons parts_ok (tabCons refTrim_ok (tabCons refToken_ok (tabCons param_ok (tabCons refTwice_ok tabNil))))) Tryz.func57 (by kernel_rfl) (by kernel_rfl) ?_
  intro xs ls K h
  unfold spRefItem at h
  obtain ⟨s, rfl, rfl, hl, hso, htr, h⟩ := h
  obtain ⟨k, hk⟩ : ∃ k, k = itemF s := ⟨_, rfl⟩
  obtain ⟨⟨kv, kps⟩, ke⟩ := k
  obtain ⟨kn, hkn⟩ : ∃ kn : Int, kn = (kps.length : Int) := ⟨_, rfl⟩
  obtain ⟨knl, hknl⟩ : ∃ knl : Bool, knl = kps.isEmpty := ⟨_, rfl⟩
  obtain ⟨kf, hkf⟩ : ∃ kf, kf = parRow kps := ⟨_, rfl⟩
  refine ⟨_, _, h kv kps ke kn knl kf hk hkn hknl hkf, fun D hD => ?_⟩
  clear h
  rw [itemF] at hk
  cbv
  refine ⟨s, _, rfl, rfl, hl, fun p n b nb hp0 hn hb hnb => ?_⟩
  have hp : p = partsF 59 s := by subst hD; exact hp0
  clear hp0
  rw [← hp] at hk
  obtain ⟨l, rfl⟩ : ∃ l, p = some l := by rw [← hp] at hso; exact Option.isSome_iff_exists.1 hso
  obtain ⟨p1, p2, p3⟩ := partsF_len hp.symm
  have hone : l.length = 1 → l.getD 0 [] = s := by
    intro h1
    match l, h1 with
    | [x], _ => exact partsM_one _ _ _ _ _ _ hp.symm
  simp only [Option.getD_some] at hk hn ⊢
  rw [itemL, getD_trim, show (l.map trimF).drop 1 = (l.drop 1).map trimF by rw [List.map_drop]] at hk
  have RL : RowS (strRow l) n l := by rw [hn]; exact RowS.row (by omega)
  have RT : ∀ j, strRow l j = [.str (l.getD j [])] := fun _ => rfl
  obtain ⟨f, hf⟩ : ∃ f, f = strRow l := ⟨_, rfl⟩
  rw [← hf] at RL RT ⊢
  have hle : ∀ x ∈ l, x.length ≤ 100000 := fun x hx => by have := p3 x hx; omega
  have hl1 : l.length ≤ 100001 := by omega
  clear hf p1 p3 hp hn hnb hb hso
  cbv
  refine ⟨?_, fun j hj => ?_⟩
  · have := RL.n; subst hD; exact ⟨by show (0 : Int) ≤ 0; omega, by show (0 : Int) < n; omega⟩
  obtain rfl : j = 0 := by subst hD; have : (j : Int) = 0 := hj.h; omega
  clear hj
  have e1 := RT 0
  have hxl := hle (l.getD 0 []) (by rw [List.getD_eq_getElem?_getD, List.getElem?_eq_getElem p2]; exact List.getElem_mem p2)
  obtain ⟨x0, hx0⟩ : ∃ x, x = l.getD 0 [] := ⟨_, rfl⟩
  rw [← hx0] at e1 hxl hk hone
  cbv
  rw [e1]
  cbv
  refine ⟨x0, rfl, rfl, by omega, fun v hv => ?_⟩
  rw [← hv] at hk
  have hvl : v.length ≤ 100000 := by rw [hv]; have := trimF_len x0; omega
  cbv
  refine ⟨v, rfl, rfl, by omega, fun q hq => ?_⟩
  have hq2 : q = refTokenF v := by subst hD; exact hq
  clear hq
  rw [← hq2] at hk
  cbv
  have in0 : Sx.InB (D.i (.l 0)) (D.i (.a n)) := by have := RL.n; subst hD; exact ⟨by show (0 : Int) ≤ 0; omega, by show (0 : Int) < n; omega⟩
  refine ⟨fun _ => in0, fun j2 hj2 => ?_⟩
  have e2 := RT j2
  obtain ⟨y, hy⟩ : ∃ y, y = l.getD j2 [] := ⟨_, rfl⟩
  rw [← hy] at e2
  cbv
  rw [e2]
  cbv
  refine br hD (fun h => ?_) (fun h => ?_) <;> cbv
  · have h : (!q || (!(y == v) && n == 1)) = true := h
    refine finItem (v' := []) (ps' := []) (n := 0) (z := .l 6) (y := .l 0) (x := .l true) hD ?_ hkn hknl hkf RowP.nil rfl rfl
    cases hqq : q with
    | false => rw [hqq] at hk; rw [hk]; rfl
    | true =>
      rw [hqq] at h
      simp only [Bool.not_true, Bool.false_or, Bool.and_eq_true, Bool.not_eq_true', beq_eq_false_iff_ne, ne_eq, beq_iff_eq] at h
      have h1 : l.length = 1 := by have := RL.n; omega
      have h0 : j2 = 0 := by
        have := hj2 (by subst hD; show (!!q) = true; rw [hqq]; rfl)
        subst hD; have h3 : (j2 : Int) = 0 := this.h; omega
      rw [h0, ← hx0] at hy
      have := hone h1
      exact absurd (by rw [hy, hv, this, htr]) h.1
  have h : (!q || (!(y == v) && n == 1)) = false := h
  simp only [Bool.or_eq_false_iff, Bool.not_eq_false'] at h
  rw [if_neg (by rw [h.1]; simp)] at hk
  clear h hj2 e2 hy hq2 hone
  obtain ⟨J, hJ⟩ : ∃ J, J = riJ v l ((kv, kps), ke) nb n f := ⟨_, rfl⟩
  refine ⟨[2, 4, 6, 7, 8], J, ⟨rfl, l.length - 1, ?_⟩, ?_⟩
  · rw [hJ]
    subst hD
    exact ⟨1, 1, _, _, _, _, [], rfl, rfl, ⟨⟨by omega, rfl, rfl, by omega⟩, by simp, rfl, hl1, hle⟩, RowP.nil, by rw [hk]; exact congrArg _ (addP_nil _).symm⟩
  clear hk
  intro m vs hp' hv'
  rw [hJ] at hv'
  unfold riJ at hv'
  obtain ⟨i, I, lg, nl, N, g, acc, rfl, rfl, V, R, hk⟩ := hv'
  cbv
  refine br hD (fun h => ?_) (fun h => ?_) <;> cbv
  · have hlt := V.at_.lt RL.n (of_decide_eq_true (p := I < n) h)
    clear h
    refine ⟨V.at_.inB hD RL.n hlt, fun j hj => ?_⟩
    obtain rfl := V.at_.j hD hj
    clear hj
    have e3 := RT j
    rw [dropR (d := []) hlt, List.map_cons, parsF] at hk
    have hxl2 := hle (l.getD j []) (by rw [List.getD_eq_getElem?_getD, List.getElem?_eq_getElem hlt]; exact List.getElem_mem hlt)
    obtain ⟨w, hw⟩ : ∃ t, t = l.getD j [] := ⟨_, rfl⟩
    rw [← hw] at e3 hxl2 hk
    cbv
    rw [e3]
    cbv
    refine ⟨w, rfl, rfl, by omega, fun t ht => ?_⟩
    rw [← ht] at hk
    have htl : t.length ≤ 100000 := by rw [ht]; have := trimF_len w; omega
    cbv
    refine br hD (fun h => ?_) (fun h => ?_) <;> cbv
    · have h : (t == []) = true := h
      rw [if_pos h] at hk
      refine ⟨l.length - (j + 1), (V.at_.step hD hlt).1, ?_⟩
      rw [hJ]
      subst hD
      exact ⟨j + 1, _, _, _, _, g, acc, rfl, rfl, ⟨(V.at_.step rfl hlt).2, by have := V.al; omega, V.nl, V.ll, V.le⟩, R, hk⟩
    have h : (t == []) = false := h
    rw [if_neg (by rw [h]; simp), parF_ref] at hk
    clear h
    refine ⟨t, rfl, rfl, htl, fun a b lg2 is hpar => ?_⟩
    rw [← hpar] at hk
    simp only at hk
    cbv
    refine br hD (fun h => ?_) (fun h => ?_) <;> cbv
    · have h : (!is) = true := h
      rw [if_neg (by simpa using h)] at hk
      exact finItem (ps' := []) (n := 0) (z := .l 6) hD hk hkn hknl hkf RowP.nil rfl rfl
    have h : (!is) = false := h
    rw [if_pos (by simpa using h)] at hk
    simp only at hk
    rw [addP_cons] at hk
    clear h
    intro g1 hg1
    have hg0 : g1 0 = [.str a, .str b] := hg1.h 0 _ rfl
    clear hg1
    cbv
    refine ⟨?_, fun f' n' hf' => ?_⟩
    · have := V.al; have := V.ll; have := V.at_.le; have h := R.n; subst hD; exact ⟨rfl, by show (N + 1) * 32 ≤ _; omega, by show N + 1 ≤ _; omega⟩
    have R' : RowP f' n' (acc ++ [(a, b)]) := by
      subst hD
      exact R.more hg0 hf' (by have := V.al; have := V.ll; have := V.at_.le; omega)
    clear hf' hg0
    cbv
    refine ⟨l.length - (j + 1), (V.at_.step hD hlt).1, ?_⟩
    rw [hJ]
    subst hD
    exact ⟨j + 1, _, _, _, _, f', _, rfl, rfl, ⟨(V.at_.step rfl hlt).2, by have := V.al; simp; omega, by show (nl && false) = _; simp, V.ll, V.le⟩, R', hk⟩
  · have hi := V.at_.eq RL.n (of_decide_eq_false (p := I < n) h)
    clear h
    rw [hi, List.drop_length] at hk
    have hk : ((kv, kps), ke) = if lg || decide (20 < (acc.length : Int)) then (([], []), 3) else if twiceF acc then (([], []), 8) else ((v, acc), 0) := by
      rw [hk]; simp [addP, parsF, itemG]
    rw [← R.n] at hk
    have hnl := V.nl
    cbv
    refine br hD (fun h => ?_) (fun h => ?_) <;> cbv
    · have h : (lg || decide (20 < N)) = true := h
      rw [if_pos h] at hk
      exact finItem (ps' := []) (n := 0) (z := .l 3) hD hk hkn hknl hkf RowP.nil rfl rfl
    have h : (lg || decide (20 < N)) = false := h
    rw [if_neg (by rw [h]; simp)] at hk
    clear h
    refine ⟨acc, _, _, _, rfl, rfl, by subst hD; exact R, fun r hr => ?_⟩
    rw [← hr] at hk
    cbv
    refine br hD (fun h => ?_) (fun h => ?_) <;> cbv
    · have h : r = true := h
      rw [if_pos h] at hk
      exact finItem (ps' := []) (n := 0) (z := .l 8) hD hk hkn hknl hkf RowP.nil rfl rfl
    have h : r = false := h
    rw [if_neg (by rw [h]; simp)] at hk
    exact finItem (ps' := acc) (n := N) (z := .l 0) (x := .a nl) (y := .a N) hD hk hkn hknl hkf R rfl hnl
end Go.Proofs.YtfchfhjpldppjaaGreatDoor
namespace Go.Proofs.YtfchfhjpldppjaaGreatDoor
open Go.Sx
set_option maxRecDepth 10000
set_option maxHeartbeats 8000000
/-! Items of the document. -/
structure Is50 (n : Int) (l : List (List UInt8)) : Prop where
  h : (50 < n) = (50 < l.length)
structure IrI (l : List (List UInt8)) (out : List Item) (i : Nat) (I : Int) (nl : Bool) (m : Nat) : Prop where
  at_ : AtR l i I m
  ol : out.length ≤ i
  nl : nl = out.isEmpty
  ll : l.length ≤ 50
def isJ3 (l : List (List UInt8)) (k : List Item × Int) (nb : Bool) (nn : Int) (g : Nat → List SV) (m : Nat) (vs : List (Option SV)) (hp : List Hl) : Prop :=
  ∃ (i : Nat) (I n : Int) (nl : Bool) (f : Nat → List SV) (out : List Item), vs = [some (.sl (.a nb) (.a nn) 1 g), some (.gsl (.a nl) (.a n) 2 f 0), some (.int .i64 (.a I))] ∧ hp = [.tail 49 (.a n) 2] ∧
    IrI l out i I nl m ∧ RowI f n out ∧ k = addI out (itemsL (l.drop i))
theorem refItems_ok : FnOk Tryz.prog gl 26 (spItems itemsF) := by
  refine fnOk (gh := [(6, [.attach 6 49])]) mixed cxOk (tabCons refElements_ok (tabCons refItem_ok tabNil)) Tryz.func26 (by kernel_rfl) (by kernel_rfl) ?_
  intro xs ls K h
  unfold spItems at h
  obtain ⟨s, rfl, rfl, hl, h⟩ := h
  obtain ⟨k, hk⟩ : ∃ k, k = itemsF s := ⟨_, rfl⟩
  obtain ⟨kl, ke⟩ := k
  obtain ⟨kn, hkn⟩ : ∃ kn : Int, kn = (kl.length : Int) := ⟨_, rfl⟩
  obtain ⟨knb, hknb⟩ : ∃ knb : Bool, knb = kl.isEmpty := ⟨_, rfl⟩
  obtain ⟨kr, hkr⟩ : ∃ kr, kr = itemRow kl := ⟨_, rfl⟩
  refine ⟨_, _, h kl ke kn knb kr hk hkn hknb hkr, fun D hD => ?_⟩
  clear h
  rw [itemsF] at hk
  cbv
  have hel := refElementsF_len s
  have hsp := fun x (hx : x ∈ (refElementsF s).1) => elem_split (y := 59) hx
  have htr := fun x (hx : x ∈ (refElementsF s).1) => (elem_of hx).trim
  refine ⟨s, rfl, rfl, hl, fun l e n nb he hn hnb => ?_⟩
  rw [← he] at hk hel hsp htr
  simp only at hk hel hsp htr
  have RL : RowS (strRow l) n l := by rw [hn]; exact RowS.row (by omega)
  obtain ⟨g, hg⟩ : ∃ g, g = strRow l := ⟨_, rfl⟩
  rw [← hg] at RL ⊢
  clear hg
  cbv
  have hn50 : (50 < n) = (50 < l.length) := by have := RL.n; simp; omega
  have hn5 : Is50 n l := ⟨hn50⟩
  clear hn50 hn hnb
  refine br hD (fun h => ?_) (fun h => ?_) <;> cbv
  · have h : (e == 0 && decide (50 < n)) = true := h
    simp only [Bool.and_eq_true, beq_iff_eq, decide_eq_true_eq, hn5.h] at h
    rw [if_neg (by rw [h.1]; simp), if_pos h.2] at hk
    exact finItems (l' := []) (z := .l 3) hD hk hkn hknb hkr RowI.nil rfl rfl
  have h5 : (e == 0 && decide (50 < n)) = false := h
  clear h
  refine br hD (fun h => ?_) (fun h => ?_) <;> cbv
  · have h : (e != 0) = true := h
    rw [if_pos (by simpa using h)] at hk
    exact finItems (l' := []) (z := .a e) hD hk hkn hknb hkr RowI.nil rfl rfl
  have h : (e != 0) = false := h
  have he0 : e = 0 := by simpa using h
  have hl50 : l.length ≤ 50 := by
    rw [he0] at h5
    simp only [beq_self_eq_true, Bool.true_and, decide_eq_false_iff_not, hn5.h] at h5
    omega
  rw [if_neg (by simpa using h), if_neg (by omega)] at hk
  clear h h5
  obtain ⟨J, hJ⟩ : ∃ J, J = isJ3 l (kl, ke) nb n g := ⟨_, rfl⟩
  refine ⟨[4, 6, 7], J, ⟨rfl, l.length, ?_⟩, ?_⟩
  · rw [hJ]
    subst hD
    exact ⟨0, 0, _, _, _, [], rfl, rfl, ⟨AtR.zero (by omega), by simp, rfl, hl50⟩, RowI.nil, hk⟩
  clear hk
  intro m vs hp' hv
  rw [hJ] at hv
  unfold isJ3 at hv
  obtain ⟨i, I, N, nl, f, out, rfl, rfl, V, R, hk⟩ := hv
  cbv
  refine br hD (fun h => ?_) (fun h => ?_) <;> cbv
  · have hlt := V.at_.lt RL.n (of_decide_eq_true (p := I < n) h)
    clear h
    refine ⟨V.at_.inB hD RL.n hlt, fun j hj => ?_⟩
    obtain rfl := V.at_.j hD hj
    clear hj
    have e1 := RL.f j hlt
    rw [dropR (d := []) hlt] at hk
    have hmem : l.getD j [] ∈ l := by rw [List.getD_eq_getElem?_getD, List.getElem?_eq_getElem hlt]; exact List.getElem_mem hlt
    have hxl := hel.2 _ hmem
    have hxs := hsp _ hmem
    have hxt := htr _ hmem
    have herr := addI_err (out := out) (s := l.getD j []) (r := l.drop (j + 1))
    have hmore := addI_more (out := out) (s := l.getD j []) (r := l.drop (j + 1))
    obtain ⟨x, hx⟩ : ∃ x, x = l.getD j [] := ⟨_, rfl⟩
    rw [← hx] at e1 hxl hxs hxt hk herr hmore
    clear hmem
    cbv
    rw [e1]
    cbv
    refine ⟨x, rfl, rfl, by omega, hxs, hxt, fun v ps e2 pn pnl pf hi hpn0 hpnl hpf => ?_⟩
    have hpn : LenIs pn ps := ⟨hpn0⟩
    clear hpn0
    rw [← hi] at herr hmore
    simp only at herr hmore
    cbv
    refine br hD (fun h => ?_) (fun h => ?_) <;> cbv
    · have h : (e2 != 0) = true := h
      rw [herr (by simpa using h)] at hk
      exact finItems (l' := []) (z := .a e2) hD hk hkn hknb hkr RowI.nil rfl rfl
    have h : (e2 != 0) = false := h
    rw [hmore (by simpa using h)] at hk
    clear h herr hmore
    intro g1 hg1
    have hg0 : g1 0 = itemSV (v, ps) := by
      rw [hg1.h 0 _ rfl]
      subst hD
      show _ = [SV.str v, .sl (.a ps.isEmpty) (.a (ps.length : Int)) 2 (parRow ps)]
      rw [← hpnl, ← hpn.h, ← hpf]; rfl
    clear hg1
    cbv
    refine ⟨?_, fun f' n' hf' => ?_⟩
    · have := V.ol; have := V.ll; have := V.at_.le; have h := R.n; subst hD; exact ⟨rfl, by show (N + 1) * 40 ≤ _; omega, by show N + 1 ≤ _; omega⟩
    have R' : RowI f' n' (out ++ [(v, ps)]) := by
      subst hD
      exact R.more hg0 hf' (by have := V.ol; have := V.ll; have := V.at_.le; omega)
    clear hf' hg0
    cbv
    refine ⟨l.length - (j + 1), (V.at_.step hD hlt).1, ?_⟩
    rw [hJ]
    subst hD
    exact ⟨j + 1, _, _, _, f', _, rfl, rfl, ⟨(V.at_.step rfl hlt).2, by have := V.ol; simp; omega, by show (nl && false) = _; simp, V.ll⟩, R', hk⟩
  · have hi := V.at_.eq RL.n (of_decide_eq_false (p := I < n) h)
    clear h
    rw [hi, List.drop_length] at hk
    have hk2 : (kl, ke) = (out, 0) := by rw [hk]; simp [addI, itemsL]
    exact finItems (l' := out) (z := .l 0) (x := .a nl) (y := .a N) hD hk2 hkn hknb hkr R rfl V.nl
end Go.Proofs.YtfchfhjpldppjaaGreatDoor
namespace Go.Proofs.YtfchfhjpldppjaaGreatDoor
open Go.Sx
set_option maxRecDepth 10000
set_option maxHeartbeats 16000000
/-! Weights of the document. -/
theorem sortF_snoc (out : List Wt) (x : Wt) : sortF (out ++ [x]) = insW (sortF out) x := by
  unfold sortF; rw [List.foldl_append]; rfl
structure RwI (l : List Item) (out S : List Wt) (i : Nat) (I n : Int) (nl : Bool) (m : Nat) : Prop where
  at_ : AtR l i I m
  ol : out.length = i
  hS : S = sortF out
  n : n = (S.length : Int)
  nl : nl = S.isEmpty
def rwJ (l : List Item) (k : List Wt × Int) (nb : Bool) (nn : Int) (g : Nat → List SV) (m : Nat) (vs : List (Option SV)) (hp : List Hl) : Prop :=
  ∃ (i : Nat) (I n : Int) (nl : Bool) (out S : List Wt) (sf : Nat → List SV), vs = [some (.sl (.a nb) (.a nn) 2 g), some (.sl (.a nl) (.a n) 2 sf), some (.int .i64 (.a I))] ∧ hp = [] ∧
    RwI l out S i I n nl m ∧ sf = wtRow S ∧ k = sortE (addW out (wItems (l.drop i)))
def rwJ2 (ps : List Par) (out : List Wt) (v : List UInt8) (rest : List Item) (k : List Wt × Int) (nb : Bool) (nn : Int) (g : Nat → List SV) (I n : Int) (nl : Bool) (sf : Nat → List SV) (m : Nat) (vs : List (Option SV)) (hp : List Hl) : Prop :=
  ∃ (i : Nat) (q I2 : Int), vs = [some (.sl (.a nb) (.a nn) 2 g), some (.sl (.a nl) (.a n) 2 sf), some (.int .i64 (.a I)), some (.int .i64 (.a q)), some (.int .i64 (.a I2))] ∧ hp = [] ∧
    AtR ps i I2 m ∧ k = sortE (restW out v (wPar (ps.drop i) q) rest)
structure LenQI2 (s : List UInt8) : Prop where
  h : s.length ≤ 100000
structure RwC (S : List Wt) (x : Wt) (c : Nat) (A : Int) (m : Nat) : Prop where
  hA : A = (c : Int)
  le : c ≤ S.length
  m : m = c
  ins : insW S x = insW (S.take c) x ++ S.drop c
structure S50 (S : List Wt) : Prop where
  h : S.length ≤ 50
theorem RwC.inB {D : Dn} (hD : D = dn) {S : List Wt} {x : Wt} {c : Nat} {A N : Int} {m : Nat} (C : RwC S x c A m) (hN : N = (S.length : Int)) (h0 : 0 < A) (h50 : S.length ≤ 50) : Sx.InB (D.i (.bin .sub .i64 (.a A) (.l 1))) (D.i (.a N)) := by
  have := C.hA; have := C.le
  subst hD
  have e : dn.i (.bin .sub .i64 (.a A) (.l 1)) = A - 1 := by
    show IntKind.i64.wrap (A - 1) = _
    exact wrap64 (by omega) (by omega)
  rw [e]
  exact ⟨by omega, by show A - 1 < N; omega⟩
theorem RwC.j {D : Dn} (hD : D = dn) {S : List Wt} {x : Wt} {c : Nat} {A : Int} {m b : Nat} (C : RwC S x c A m) (h : IsJ b (D.i (.bin .sub .i64 (.a A) (.l 1)))) (h0 : 0 < A) (h50 : S.length ≤ 50) : b = c - 1 := by
  have := C.hA; have := C.le
  subst hD
  have e : dn.i (.bin .sub .i64 (.a A) (.l 1)) = A - 1 := by
    show IntKind.i64.wrap (A - 1) = _
    exact wrap64 (by omega) (by omega)
  rw [e] at h
  have := h.h
  omega
theorem RwC.go {S : List Wt} {x w : Wt} {c : Nat} {A : Int} {m : Nat} (C : RwC S x c A m) (hw : w = S.getD (c - 1) ([], 0)) (h0 : 0 < A) (h : w.2 < x.2) (h50 : S.length ≤ 50) : c - 1 < m ∧ RwC S x (c - 1) (dn.i (.bin .sub .i64 (.a A) (.l 1))) (c - 1) := by
  have h1 := C.hA; have h2 := C.le; have h3 := C.m; have h4 := C.ins
  have e : dn.i (.bin .sub .i64 (.a A) (.l 1)) = A - 1 := by
    show IntKind.i64.wrap (A - 1) = _
    exact wrap64 (by omega) (by omega)
  obtain ⟨d, rfl⟩ : ∃ d, c = d + 1 := ⟨c - 1, by omega⟩
  rw [Nat.add_sub_cancel] at hw ⊢
  refine ⟨by omega, ⟨by rw [e]; omega, by omega, rfl, ?_⟩⟩
  have hd : d < S.length := by omega
  have e1 : S.take (d + 1) = S.take d ++ [w] := by
    rw [List.take_add_one, List.getElem?_eq_getElem hd, hw, List.getD_eq_getElem?_getD, List.getElem?_eq_getElem hd]; rfl
  rw [h4, e1, insW_go h, dropR (d := ([], 0)) hd, ← hw, List.append_assoc]; rfl
theorem RwC.stop {S : List Wt} {v : List UInt8} {q : Int} {wv : List UInt8} {wq : Int} {c : Nat} {A : Int} {m : Nat} (C : RwC S (v, q) c A m) (hw : 0 < A → (wv, wq) = S.getD (c - 1) ([], 0)) (h : (decide (0 < A) && decide (wq < q)) = false) : insW S (v, q) = S.take c ++ ((v, q) :: S.drop c) := by
  have h1 := C.hA; have h2 := C.le; have h4 := C.ins
  rw [h4]
  by_cases h0 : 0 < A
  · obtain ⟨d, rfl⟩ : ∃ d, c = d + 1 := ⟨c - 1, by omega⟩
    have hw := hw h0
    rw [Nat.add_sub_cancel] at hw
    have hd : d < S.length := by omega
    have e1 : S.take (d + 1) = S.take d ++ [(wv, wq)] := by
      rw [List.take_add_one, List.getElem?_eq_getElem hd, hw, List.getD_eq_getElem?_getD, List.getElem?_eq_getElem hd]; rfl
    rw [decide_eq_true h0, Bool.true_and] at h
    have h : ¬ wq < q := of_decide_eq_false h
    rw [e1, insW_stop (x := (v, q)) (y := (wv, wq)) h]; simp
  · have hc : c = 0 := by omega
    subst hc
    simp [insW_nil]
def rwJ3 (nb : Bool) (nn : Int) (g : Nat → List SV) (I n q : Int) (nl : Bool) (sf : Nat → List SV) (S : List Wt) (v : List UInt8) (m : Nat) (vs : List (Option SV)) (hp : List Hl) : Prop :=
  ∃ (c : Nat) (A : Int), vs = [some (.sl (.a nb) (.a nn) 2 g), some (.sl (.a nl) (.a n) 2 sf), some (.int .i64 (.a I)), some (.int .i64 (.a q)), some (.int .i64 (.a A))] ∧ hp = [] ∧ RwC S (v, q) c A m
theorem qual_six {s : List UInt8} {q e : Int} (h : (q, e) = qualF s) : e ≠ 0 → e = 6 := by
  unfold qualF at h
  split at h
  · cases h; exact fun h => absurd rfl h
  · cases h; exact fun _ => rfl
structure N2 (n : Int) : Prop where
  h : 0 ≤ n ∧ n ≤ 100
theorem RowW.dropS {f f' : Nat → List SV} {n n' A : Int} {S : List Wt} {c : Nat} (R : RowW f n S) (hA : A = (c : Int)) (hc : c ≤ S.length) (h : SubRow f' n' f A n) : RowW f' n' (S.drop c) := by
  refine ⟨?_, fun i hi => ?_, by have := R.len; simp; omega⟩
  · rw [h.len, R.n, hA]; simp; omega
  · simp only [List.length_drop] at hi
    rw [h.row i (i + c) (by omega), R.f (i + c) (by omega)]
    rw [List.getD_eq_getElem?_getD, List.getD_eq_getElem?_getD, List.getElem?_drop, Nat.add_comm c i]
theorem RowW.takeS {f f' : Nat → List SV} {n n' A : Int} {S : List Wt} {c : Nat} (R : RowW f n S) (hA : A = (c : Int)) (hc : c ≤ S.length) (h : SubRow f' n' f 0 A) : RowW f' n' (S.take c) := by
  refine ⟨?_, fun i hi => ?_, by have := R.len; simp; omega⟩
  · rw [h.len, hA]; simp; omega
  · simp only [List.length_take] at hi
    rw [h.row i i (by omega), R.f i (by omega)]
    have e : (S.take c).getD i ([], 0) = S.getD i ([], 0) := by
      rw [List.getD_eq_getElem?_getD, List.getD_eq_getElem?_getD, List.getElem?_take, if_pos (by omega)]
    rw [e]
theorem RowW.app {f f' g : Nat → List SV} {n n' m : Int} {a b : List Wt} (R : RowW f n a) (Q : RowW g m b) (h : MoreRow f' n' n m f g) (hl : a.length + b.length ≤ 9223372036854775807) : RowW f' n' (a ++ b) := by
  have h1 := R.n
  have h2 := Q.n
  refine ⟨by rw [h.len, h1, h2]; simp, fun i hi => ?_, by simp; omega⟩
  simp only [List.length_append] at hi
  by_cases e : i < a.length
  · rw [h.lo i (by omega), R.f i e, List.getD_eq_getElem?_getD, List.getD_eq_getElem?_getD, List.getElem?_append_left e]
  · rw [h.hi i (i - a.length) (by omega) (by omega), Q.f (i - a.length) (by omega), List.getD_eq_getElem?_getD, List.getD_eq_getElem?_getD, List.getElem?_append_right (by omega)]
structure RwE (S : List Wt) (c : Nat) (A N : Int) : Prop where
  hA : A = (c : Int)
  le : c ≤ S.length
  n : N = (S.length : Int)
theorem refWeights_ok : FnOk Tryz.prog gl 28 (spWeights 51) := by
  refine fnOk (gh := [(5, [.tot 6]), (7, [.tot 6])]) mixed cxOk (tabCons refItems_ok (tabCons refQuality_ok tabNil)) Tryz.func28 (by kernel_rfl) (by kernel_rfl) ?_
  intro xs ls K h
  unfold spWeights at h
  obtain ⟨s, rfl, rfl, hl, hN, h⟩ := h
  obtain ⟨k, hk⟩ : ∃ k, k = weightsF s := ⟨_, rfl⟩
  obtain ⟨kl, ke⟩ := k
  obtain ⟨kn, hkn⟩ : ∃ kn : Int, kn = (kl.length : Int) := ⟨_, rfl⟩
  obtain ⟨knb, hknb⟩ : ∃ knb : Bool, knb = kl.isEmpty := ⟨_, rfl⟩
  obtain ⟨kr, hkr⟩ : ∃ kr, kr = wtRow kl := ⟨_, rfl⟩
  refine ⟨_, _, h kl ke kn knb kr hk hkn hknb hkr, fun D hD => ?_⟩
  clear h
  rw [weightsF] at hk
  have hil := itemsF_len s
  have hgood := itemsF_good s
  cbv
  refine ⟨s, rfl, rfl, hl, fun l e n nb g he hn hnb hg => ?_⟩
  rw [← he] at hk hil hN hgood
  simp only at hk hil hN hgood
  have RL : RowI g n l := by rw [hg, hn]; exact RowI.row (by omega)
  clear hg
  cbv
  refine br hD (fun h => ?_) (fun h => ?_) <;> cbv
  · have h : (e != 0) = true := h
    rw [if_pos (by simpa using h)] at hk
    exact finWts (l' := []) (z := .a e) hD hk hkn hknb hkr RowW.nil rfl rfl
  have h : (e != 0) = false := h
  rw [if_neg (by simpa using h)] at hk
  clear h hn hnb
  refine ⟨wtRow [], ⟨fun i hi => by subst hD; have hi : (i : Int) < 0 := hi; omega⟩, ?_⟩
  obtain ⟨Z, hZ⟩ : ∃ Z : List Wt, Z = [] := ⟨_, rfl⟩
  rw [← hZ]
  cbv
  obtain ⟨J, hJ⟩ : ∃ J, J = rwJ l (kl, ke) nb n g := ⟨_, rfl⟩
  refine ⟨[4, 6, 7], J, ⟨rfl, l.length, ?_⟩, ?_⟩
  · rw [hJ]
    subst hD
    exact ⟨0, 0, _, _, [], Z, _, rfl, rfl, ⟨AtR.zero (by omega), rfl, hZ, by rw [hZ]; rfl, by rw [hZ]; rfl⟩, rfl, hk⟩
  clear hk
  intro m vs hp' hv
  rw [hJ] at hv
  unfold rwJ at hv
  obtain ⟨i, I, N, nl, out, S, sf, rfl, rfl, V, hsf, hk⟩ := hv
  cbv
  refine br hD (fun h => ?_) (fun h => ?_) <;> cbv
  · have hlt := V.at_.lt RL.n (of_decide_eq_true (p := I < n) h)
    clear h
    rw [dropR (d := ([], [])) hlt, restW_of] at hk
    have hxg := hgood (l.getD i ([], [])) (by rw [List.getD_eq_getElem?_getD, List.getElem?_eq_getElem hlt]; exact List.getElem_mem hlt)
    have e1 := RL.f i hlt
    obtain ⟨x, hx⟩ : ∃ x, x = l.getD i ([], []) := ⟨_, rfl⟩
    rw [← hx] at e1 hk hxg
    obtain ⟨xv, xp⟩ := x
    have hxp : xp.length ≤ 20 := hxg.1
    have hxq : ∀ p ∈ xp, p.2.length ≤ 500 := hxg.2
    clear hxg
    rw [itemSV] at e1
    obtain ⟨pn, hpn⟩ : ∃ pn : Int, pn = (xp.length : Int) := ⟨_, rfl⟩
    obtain ⟨pnl, hpnl⟩ : ∃ pnl : Bool, pnl = xp.isEmpty := ⟨_, rfl⟩
    obtain ⟨pf, hpf⟩ : ∃ pf, pf = parRow xp := ⟨_, rfl⟩
    have RP : RowP pf pn xp := by rw [hpf, hpn]; exact ⟨rfl, fun _ _ => rfl, by omega⟩
    simp only at e1 hk
    rw [← hpn, ← hpnl, ← hpf] at e1
    clear hpn hpnl hpf
    obtain ⟨J2, hJ2⟩ : ∃ J, J = rwJ2 xp out xv (l.drop (i + 1)) (kl, ke) nb n g I N nl sf := ⟨_, rfl⟩
    refine ⟨[4, 6, 7, 8, 9], J2, ⟨rfl, xp.length, ?_⟩, ?_⟩
    · rw [hJ2]
      subst hD
      exact ⟨0, _, _, rfl, rfl, AtR.zero (by omega), hk⟩
    clear hk
    intro m2 vs2 hp2 hv2
    rw [hJ2] at hv2
    unfold rwJ2 at hv2
    obtain ⟨a, q, I2, rfl, rfl, W, hk⟩ := hv2
    cbv
    refine ⟨V.at_.inB hD RL.n hlt, fun j hj => ?_⟩
    have ej : g j = [.str xv, .sl (.a pnl) (.a pn) 2 pf] := by rw [V.at_.j hD hj]; exact e1
    clear hj
    cbv
    rw [ej]
    cbv
    refine br hD (fun h => ?_) (fun h => ?_) <;> cbv
    · have hlt2 := W.lt RP.n (of_decide_eq_true (p := I2 < pn) h)
      clear h
      have f2 := RP.f a hlt2
      rw [dropR (d := ([], [])) hlt2] at hk
      have hpq := hxq (xp.getD a ([], [])) (by rw [List.getD_eq_getElem?_getD, List.getElem?_eq_getElem hlt2]; exact List.getElem_mem hlt2)
      obtain ⟨p, hp⟩ : ∃ p, p = xp.getD a ([], []) := ⟨_, rfl⟩
      rw [← hp] at f2 hk hpq
      obtain ⟨pnm, pvl⟩ := p
      simp only at f2 hpq
      have hpq : LenQI2 pvl := ⟨by omega⟩
      refine ⟨V.at_.inB hD RL.n hlt, fun j2 hj2 => ?_⟩
      have ej2 : g j2 = [.str xv, .sl (.a pnl) (.a pn) 2 pf] := by rw [V.at_.j hD hj2]; exact e1
      clear hj2
      cbv
      rw [ej2]
      cbv
      refine ⟨W.inB hD RP.n hlt2, fun b hb => ?_⟩
      have eb : pf b = [.str pnm, .str pvl] := by rw [W.j hD hb]; exact f2
      clear hb
      cbv
      rw [eb]
      cbv
      refine br hD (fun h => ?_) (fun h => ?_) <;> cbv
      · have hnm : (pnm == [113]) = true := h
        clear h
        have hbad := fun h2 => wPar_bad (p := (pnm, pvl)) (r := xp.drop (a + 1)) (q := q) hnm h2
        have hgo := fun h2 => wPar_q (p := (pnm, pvl)) (r := xp.drop (a + 1)) (q := q) hnm h2
        refine ⟨V.at_.inB hD RL.n hlt, fun j3 hj3 => ?_⟩
        have ej3 : g j3 = [.str xv, .sl (.a pnl) (.a pn) 2 pf] := by rw [V.at_.j hD hj3]; exact e1
        clear hj3
        cbv
        rw [ej3]
        cbv
        refine ⟨W.inB hD RP.n hlt2, fun b2 hb2 => ?_⟩
        have eb2 : pf b2 = [.str pnm, .str pvl] := by rw [W.j hD hb2]; exact f2
        clear hb2
        cbv
        rw [eb2]
        cbv
        refine ⟨pvl, rfl, rfl, hpq.h, fun qn qe hqe => ?_⟩
        have hq6 : qe ≠ 0 → qe = 6 := qual_six hqe
        simp only at hbad hgo
        rw [← hqe] at hbad hgo
        simp only at hbad hgo
        cbv
        refine br hD (fun h => ?_) (fun h => ?_) <;> cbv
        · have h : (qe != 0) = true := h
          have h : qe ≠ 0 := by simpa using h
          rw [hbad h, restW, if_pos h, sortE, if_pos h] at hk
          simp only at hk
          rw [hq6 h] at hk
          exact finWts (l' := []) (z := .l 6) hD hk hkn hknb hkr RowW.nil rfl rfl
        have h : (qe != 0) = false := h
        rw [hgo (by simpa using h)] at hk
        refine ⟨xp.length - (a + 1), (W.step hD hlt2).1, ?_⟩
        rw [hJ2]
        subst hD
        exact ⟨a + 1, qn, _, rfl, rfl, (W.step rfl hlt2).2, hk⟩
      · have h : (pnm == [113]) = false := h
        rw [wPar_not (p := (pnm, pvl)) h] at hk
        refine ⟨xp.length - (a + 1), (W.step hD hlt2).1, ?_⟩
        rw [hJ2]
        subst hD
        exact ⟨a + 1, q, _, rfl, rfl, (W.step rfl hlt2).2, hk⟩
    · have hi2 := W.eq RP.n (of_decide_eq_false (p := I2 < pn) h)
      clear h
      rw [hi2, List.drop_length, wPar, restW, if_neg (by simp)] at hk
      simp only at hk
      have hS50 : S50 S := ⟨by rw [V.hS, sortF_len]; have := V.ol; have := V.at_.le; omega⟩
      obtain ⟨J3, hJ3⟩ : ∃ J, J = rwJ3 nb n g I N q nl sf S xv := ⟨_, rfl⟩
      refine ⟨[4, 6, 7, 8, 12], J3, ⟨rfl, S.length, ?_⟩, ?_⟩
      · rw [hJ3]
        subst hD
        exact ⟨S.length, _, rfl, rfl, ⟨V.n, Nat.le_refl _, rfl, by simp⟩⟩
      clear W
      intro m3 vs3 hp3 hv3
      rw [hJ3] at hv3
      unfold rwJ3 at hv3
      obtain ⟨c, A, rfl, rfl, C⟩ := hv3
      cbv
      refine ⟨fun hg => C.inB hD V.n (of_decide_eq_true (p := 0 < A) (by subst hD; exact hg)) hS50.h, fun b hb => ?_⟩
      obtain ⟨w, hw⟩ : ∃ w, w = S.getD b ([], 0) := ⟨_, rfl⟩
      have eb : sf b = [.str w.1, .int .i64 (.a w.2)] := by rw [hsf, hw]; rfl
      have hbj : 0 < A → w = S.getD (c - 1) ([], 0) := fun h0 => by rw [hw, C.j hD (hb (by subst hD; exact decide_eq_true h0)) h0 hS50.h]
      obtain ⟨wv, wq⟩ := w
      simp only at eb
      clear hb hw
      cbv
      rw [eb]
      cbv
      refine br hD (fun h => ?_) (fun h => ?_) <;> cbv
      · have h : (decide (0 < A) && decide (wq < q)) = true := h
        rw [Bool.and_eq_true] at h
        have h0 := of_decide_eq_true h.1
        have hC := C.go (hbj h0) h0 (of_decide_eq_true h.2) hS50.h
        clear h h0 hbj
        refine ⟨c - 1, hC.1, ?_⟩
        rw [hJ3]
        subst hD
        exact ⟨c - 1, _, rfl, rfl, hC.2⟩
      · have h : (decide (0 < A) && decide (wq < q)) = false := h
        have hC := C.stop hbj h
        clear h hbj
        have E : RwE S c A N := ⟨C.hA, C.le, V.n⟩
        clear C eb
        have R0 : RowW sf N S := by rw [hsf]; exact RowW.row V.n (by have := hS50.h; omega)
        refine ⟨V.at_.inB hD RL.n hlt, fun j4 hj4 => ?_⟩
        have ej4 : g j4 = [.str xv, .sl (.a pnl) (.a pn) 2 pf] := by rw [V.at_.j hD hj4]; exact e1
        clear hj4
        cbv
        rw [ej4]
        cbv
        intro g1 hg1
        have hg0 : g1 0 = wtSV (xv, q) := by subst hD; exact hg1.h 0 _ rfl
        clear hg1
        have R1 : RowW g1 1 [(xv, q)] := ⟨rfl, fun i hi => by
          have : i = 0 := by simp at hi; omega
          subst this; rw [hg0]; rfl, by simp⟩
        clear hg0
        cbv
        refine ⟨?_, fun f2 n2 hf2 => ?_⟩
        · have h1 := E.hA; have h2 := E.le; have h3 := E.n; subst hD; exact ⟨by show 0 ≤ A; omega, by show A ≤ N; omega, Int.le_refl _⟩
        have R2 : RowW f2 n2 (S.drop c) := by subst hD; exact R0.dropS E.hA E.le hf2
        clear hf2
        have hn2 : N2 n2 := ⟨by have h1 := R2.n; have h2 := hS50.h; rw [List.length_drop] at h1; omega⟩
        cbv
        refine ⟨?_, fun f3 n3 hf3 => ?_⟩
        · have := hn2.h; subst hD; exact ⟨rfl, by show (1 + n2) * 24 ≤ _; omega, by show 1 + n2 ≤ _; omega⟩
        have R3 : RowW f3 n3 ((xv, q) :: S.drop c) := by subst hD; exact R1.app R2 hf3 (by simp; have := hS50.h; omega)
        clear hf3
        cbv
        clear R1 R2
        intro g5 _
        have R5 : RowW g5 0 [] := ⟨rfl, by simp, by simp⟩
        cbv
        refine ⟨?_, fun f6 n6 hf6 => ?_⟩
        · have h1 := E.hA; have h2 := E.le; have h3 := E.n; subst hD; exact ⟨Int.le_refl _, by show 0 ≤ A; omega, by show A ≤ N; omega⟩
        have R6 : RowW f6 n6 (S.take c) := by subst hD; exact R0.takeS E.hA E.le hf6
        clear hf6
        have hn6 : N2 n6 := ⟨by have h1 := R6.n; have h2 := hS50.h; rw [List.length_take] at h1; omega⟩
        cbv
        refine ⟨?_, fun f7 n7 hf7 => ?_⟩
        · have := hn6.h; subst hD; exact ⟨rfl, by show (0 + n6) * 24 ≤ _; omega, by show 0 + n6 ≤ _; omega⟩
        have R7 : RowW f7 n7 (S.take c) := by subst hD; exact R5.app R6 hf7 (by simp; have := hS50.h; omega)
        clear hf7 R5 R6
        have hn7 : N2 n7 := ⟨by have h1 := R7.n; have h2 := hS50.h; rw [List.length_take] at h1; omega⟩
        have hn3 : N2 n3 := ⟨by have h1 := R3.n; have h2 := hS50.h; rw [List.length_cons, List.length_drop] at h1; omega⟩
        cbv
        refine ⟨?_, fun f8 n8 hf8 => ?_⟩
        · have h1 := hn7.h; have h2 := hn3.h; subst hD; exact ⟨rfl, by show (n7 + n3) * 24 ≤ _; omega, by show n7 + n3 ≤ _; omega⟩
        have R8 : RowW f8 n8 (insW S (xv, q)) := by rw [hC]; subst hD; exact R7.app R3 hf8 (by simp; have := hS50.h; omega)
        clear hf8 R7 R3
        cbv
        refine ⟨wtRow (insW S (xv, q)), ⟨fun i hi => by subst hD; have hi : (i : Int) < n8 := hi; rw [R8.f i (by have := R8.n; omega)]; rfl⟩, ?_⟩
        obtain ⟨S2, hS2⟩ : ∃ S2, S2 = insW S (xv, q) := ⟨_, rfl⟩
        rw [← hS2] at hC R8 ⊢
        obtain ⟨sf2, hsf2⟩ : ∃ f, f = wtRow S2 := ⟨_, rfl⟩
        rw [← hsf2]
        cbv
        refine ⟨l.length - (i + 1), (V.at_.step hD hlt).1, ?_⟩
        rw [hJ]
        subst hD
        refine ⟨i + 1, _, _, _, out ++ [(xv, q)], S2, sf2, rfl, rfl, ⟨(V.at_.step rfl hlt).2, by rw [List.length_append, V.ol]; rfl, by rw [hS2, sortF_snoc, V.hS], R8.n, ?_⟩, hsf2, hk⟩
        have : S2.isEmpty = false := by rw [hC]; simp
        rw [this]; rfl
  · have hi := V.at_.eq RL.n (of_decide_eq_false (p := I < n) h)
    clear h
    rw [hi, List.drop_length] at hk
    have hk2 : (kl, ke) = (S, 0) := by rw [hk, V.hS]; simp [addW, wItems, sortE]
    have R : RowW sf N S := by rw [hsf]; exact RowW.row V.n (by have := V.n; rw [V.hS, sortF_len]; have := V.ol; have := V.at_.len; have := V.at_.le; omega)
    exact finWts (l' := S) (z := .l 0) (x := .a nl) (y := .a N) hD hk2 hkn hknb hkr R rfl V.nl
end Go.Proofs.YtfchfhjpldppjaaGreatDoor
namespace Go.Proofs.YtfchfhjpldppjaaGreatDoor
open Go.Sx
set_option maxRecDepth 10000
set_option maxHeartbeats 8000000
/-! TokensItems: the law. -/
theorem addW_len : ∀ (l : List Item) (out : List Wt), (addW out (wItems l)).1.length ≤ out.length + l.length
  | [], out => by simp [addW, wItems]
  | x :: r, out => by
    by_cases h : (wPar x.2 1000).2 ≠ 0
    · rw [addW_err h]; simp
    · rw [addW_more (by simpa using h)]
      have := addW_len r (out ++ [(x.1, (wPar x.2 1000).1)])
      simp at this ⊢; omega
theorem weightsF_len (s : List UInt8) : (weightsF s).1.length ≤ 50 := by
  have h1 := itemsF_len s
  have h2 := addW_len (itemsF s).1 []
  unfold weightsF
  split
  · simp
  · unfold sortE
    split
    · simp
    · rw [sortF_len]; simp at h2; omega
def spLaw5 : FSpec := fun _ xs ls K => ∃ (s : List UInt8), xs = [.str s] ∧ ls = [] ∧ s.length ≤ 9223372036854775807 ∧ ∀ r : Bool, r = true → K (.bool (.a r)) []
theorem tokensItems_ok : FnOk Tryz.prog gl 5 spLaw5 := by
  refine fnOk (gh := []) mixed cxOk (tabCons items_ok (tabCons refItems_ok (tabCons weights_ok (tabCons refWeights_ok (tabCons same_ok (tabCons sameW_ok (tabCons awake_ok tabNil))))))) Tryz.func5 (by kernel_rfl) (by kernel_rfl) ?_
  intro xs ls K h
  unfold spLaw5 at h
  obtain ⟨s, rfl, rfl, hl, h⟩ := h
  refine ⟨_, _, h true rfl, fun D hD => ?_⟩
  clear h
  cbv
  refine br hD (fun h => ?_) (fun h => ?_) <;> cbv
  · intro r hr
    cbv
    exact finBool hD hr
  clear h
  have hil := itemsF_len s
  have hgood := itemsF_good s
  have hwl := weightsF_len s
  refine ⟨s, rfl, rfl, hl, fun l e n nb g he hn hnb hg => ?_⟩
  rw [← he] at hil hgood
  simp only at hil hgood
  have R1 : RowIP g n l := ⟨hn, fun _ _ => by rw [hg]; rfl, by omega, fun x hx => by have := (hgood x hx).1; omega⟩
  clear hn hnb hg
  cbv
  refine ⟨s, rfl, rfl, hl, fun l2 e2 n2 nb2 g2 he2 hn2 hnb2 hg2 => ?_⟩
  obtain ⟨rfl, rfl⟩ : l2 = l ∧ e2 = e := by have := he2.trans he.symm; cases this; exact ⟨rfl, rfl⟩
  have R2 : RowIP g2 n2 l2 := ⟨hn2, fun _ _ => by rw [hg2]; rfl, by omega, fun x hx => by have := (hgood x hx).1; omega⟩
  clear hn2 hnb2 hg2 he he2 hgood hil
  have hN : (itemsF s).1.length < 51 := by have := itemsF_len s; omega
  cbv
  refine ⟨s, rfl, rfl, hl, hN, fun w we wn wnb wf hw hwn hwnb hwf => ?_⟩
  rw [← hw] at hwl
  simp only at hwl
  have R3 : RowW wf wn w := ⟨hwn, fun _ _ => by rw [hwf]; rfl, by omega⟩
  clear hwn hwnb hwf
  cbv
  refine ⟨s, rfl, rfl, hl, hN, fun w2 we2 wn2 wnb2 wf2 hw2 hwn2 hwnb2 hwf2 => ?_⟩
  obtain ⟨rfl, rfl⟩ : w2 = w ∧ we2 = we := by have := hw2.trans hw.symm; cases this; exact ⟨rfl, rfl⟩
  have R4 : RowW wf2 wn2 w2 := ⟨hwn2, fun _ _ => by rw [hwf2]; rfl, by omega⟩
  clear hwn2 hwnb2 hwf2 hw hw2 hwl hN
  cbv
  refine ⟨l2, l2, _, _, _, _, _, _, rfl, rfl, by subst hD; exact R1, by subst hD; exact R2, fun r hr => ?_⟩
  have hr2 : r = true := by rw [hr]; simp
  clear hr
  cbv
  refine ⟨w2, w2, _, _, _, _, _, _, rfl, rfl, by subst hD; exact R3, by subst hD; exact R4, fun b hb => ?_⟩
  have hb2 : b = true := by rw [hb]; simp
  clear hb
  cbv
  intro w hw
  cbv
  refine finBool hD ?_
  subst hr2 hb2
  have hw : w = true := hw
  simp only [BT.den, ST.den, cmpDen]
  simp [hw]
end Go.Proofs.YtfchfhjpldppjaaGreatDoor
namespace Go.Proofs.YtfchfhjpldppjaaGreatDoor
open Go Go.Sx Go.ChangeShapes Go.WideShapes Go.RowKit
set_option maxRecDepth 100000
/-! TokensItems: from the function's contract to the card. -/
theorem tokensItems_lifted (os : Os) (started : os.Started) (H : Type) (enc : TypeId × Value → H) :
    ReturnsInHanded {} Tryz.checked os 5 .any (fun w args => (Rows.tokensItemsSpec.pre enc Tryz.prog Tryz.f5 [] false w args ∧ laidMetH Tryz.prog laidV w) ∧ sizedMet enc Tryz.prog Tryz.f5 (OpenSpec.ofChange Rows.tokensItemsSpec) false w args)
      (Rows.tokensItemsSpec.post enc Tryz.prog Tryz.f5 false true false false) := by
  refine returnsInHanded_of_change_and (C := Tryz.checked) (X := fun w _ => laidMetH Tryz.prog laidV w) (fun _ _ _ hh h => h.of_heap hh) kOwn started (by kernel_rfl) Tryz.func5
    (ChangeSpec.witness_shaped (enc := enc) (C := Tryz.checked) (os := os) (X := fun w _ => laidMetH Tryz.prog laidV w) false (World.laidAll Tryz.prog os laidV) #[.string ⟨#[]⟩] 8 (World.laidAll_os _ _ _) (World.shaped_of_ZipB (by kernel_rfl) (by kernel_rfl)) (by kernel_rfl) (by kernel_rfl) (by kernel_rfl) (door_met os _)) ?_
  intro W base args ds gs before hval0 hW _ _ hL _
  have hval : ∀ (j : Nat) t v, Tryz.f5.params[j]? = some t → args[j]? = some v → Value.okWide Tryz.prog W .any base t v := hval0
  obtain ⟨p, q, hA, hV, _⟩ := id hW
  have hA' : DataW.TrodAll enc Tryz.prog W 0 (fun _ => true) true Tryz.f5.params.toList args.toList ds p := hA
  rw [Tryz.params5] at hA' hval
  obtain ⟨v0, d0, rfl, rfl, h0⟩ := trodAll_one hA'
  obtain ⟨fuel0, h0⟩ := h0
  obtain ⟨x0, hx0⟩ := open9 H enc W _ _ _ _ _ h0
  have r0 := arg_string Tryz.underlying9 (hval 0 9 v0 rfl rfl) hx0
  obtain ⟨r, ls', hK, hcalls⟩ := tokensItems_ok.2 [.str x0.1] [] (fun r ls => r = .bool (.a true) ∧ ls = []) ⟨x0.1, rfl, rfl, str_fit x0, fun r hr => ⟨by rw [hr], rfl⟩⟩
  obtain ⟨rfl, rfl⟩ := hK
  have hrun := law_run (W := W) (args := [v0]) hcalls gl_of rfl (ro1 r0)
  refine hrun.mono fun e W' hq => ⟨_, hq.1, law_post kLaidOut (tb := 4) ?_ rfl (by kernel_rfl) Tryz.underlying4 hW ?_ hq.2⟩
  · rw [Tryz.params5]
    intro t ht
    have hall : ([9].all fun t => Tryz.prog.readableRec t && decide (t < Tryz.prog.types.size)) = true := by kernel_rfl
    have := List.all_eq_true.1 hall t (by simpa using ht)
    simpa using this
  · have hg : gs = [] := (trodVars_none hV).1
    subst hg
    rfl
theorem tokensItems_said : Rows.TokensItemsSaid :=
  OpenClaim.holds_of_wide 5 Tryz.f5 rfl rfl rfl rfl rfl rfl rfl ⟨rfl, rfl, rfl, rfl, rfl⟩ rfl rfl rfl rfl rfl (by kernel_rfl) Tryz.func5 (by kernel_rfl)
    (of_decide_eq_true (by kernel_rfl)) (by unfold Func.isWrapper; first | (rw [if_pos (by decide +kernel)]; kernel_rfl) | (rw [if_neg (by decide +kernel)]; exact ⟨rfl, rfl⟩))
    (fun os started H enc _ => tokensItems_lifted os started H enc)
theorem tokensItems_holds : Rows.TokensItemsCardSaid :=
  Claim7.holds_tied_plain_at .later [] [.data, .data, .data, .data, .sentinel, .sentinel, .pinned] true (true, "949d5a32386bb23fb42fe4a0dca874791432354f7fa039f85fcf54673b706a44") true
    tokensItems_said (fun _ h => by cases h) (by kernel_rfl) (fun _ h => by cases h) tokensItems_row_tie rfl ⟨rfl, rfl⟩ (by kernel_rfl) rfl
    (fun f fn hf hfn => by
      obtain rfl : f = 5 := Option.some.inj ((show Tryz.prog.funcNamed "spillway/spillwaylaw05.TokensItems" = some 5 by kernel_rfl).symm.trans hf) |>.symm
      obtain rfl : fn = Tryz.f5 := (Option.some.inj (Tryz.func5.symm.trans hfn)).symm
      exact ⟨by kernel_rfl, fun j t ht => by
        rw [Tryz.params5] at ht
        have hm : t ∈ [9] := by simpa using Array.mem_of_getElem? ht
        have hall : ([9].all fun u => !Tryz.prog.wantsStandIn u) = true := by kernel_rfl
        exact (show Tryz.prog.wantsStandIn t = false by simpa using List.all_eq_true.1 hall t hm)⟩)
    (by kernel_rfl)
end Go.Proofs.YtfchfhjpldppjaaGreatDoor
