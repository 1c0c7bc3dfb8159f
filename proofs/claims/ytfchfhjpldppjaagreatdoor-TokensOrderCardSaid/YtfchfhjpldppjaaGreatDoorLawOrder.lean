/- Part of the proofs of the statements about tokens (layer 5): the laws; it has no conditions of its own. -/
import Derived.Lib.ItoaNum
import Derived.Test.YtfchfhjpldppjaaGreatDoorTd
import Derived.Test.YtfchfhjpldppjaaGreatDoorTe
import Derived.Test.YtfchfhjpldppjaaGreatDoorTf
namespace Go.Proofs.YtfchfhjpldppjaaGreatDoor
open Go.Sx
set_option maxRecDepth 10000
set_option maxHeartbeats 8000000
/-! Quality of the document. -/
/-- The two parts of what may be a quality. -/
structure Qs (s : List UInt8) (x : UInt8) (p : List UInt8) : Prop where
  s : (s = [x] ∧ p = []) ∨ s = x :: 46 :: p
  x : x = 48 ∨ x = 49
  p : p.length ≤ 3
theorem Qs.cut {s : List UInt8} {x : UInt8} {p : List UInt8} (V : Qs s x p) : (cutF 46 s).1 = [x] ∧ (cutF 46 s).2.1 = p := by
  have hx : (x == 46) = false := by rcases V.x with rfl | rfl <;> rfl
  rcases V.s with ⟨rfl, rfl⟩ | rfl
  · simp [cutF, hx]
  · simp [cutF, hx]
theorem qs_of {s : List UInt8} (h : qualOk (cutF 46 s).1 (cutF 46 s).2.1 = true) : ∃ x p, Qs s x p := by
  unfold qualOk at h
  simp only [Bool.and_eq_true, Bool.or_eq_true, beq_iff_eq, decide_eq_true_eq] at h
  obtain ⟨⟨⟨h1, h2⟩, h3⟩, _⟩ := h
  have key : ∀ x : UInt8, (cutF 46 s).1 = [x] → (s = [x] ∧ (cutF 46 s).2.1 = []) ∨ s = x :: 46 :: (cutF 46 s).2.1 := by
    intro x hx
    match s, hx with
    | [], hx => simp [cutF] at hx
    | c :: r, hx =>
      simp only [cutF] at hx ⊢
      by_cases hc : (c == 46) = true
      · rw [if_pos hc] at hx; simp at hx
      · rw [if_neg hc] at hx ⊢
        simp only [List.cons.injEq] at hx
        obtain ⟨rfl, hr⟩ := hx
        match r, hr with
        | [], _ => left; simp [cutF]
        | d :: r', hr =>
          simp only [cutF] at hr ⊢
          by_cases hd : (d == 46) = true
          · rw [if_pos hd] at hr ⊢
            right; rw [beq_iff_eq.1 hd]
          · rw [if_neg hd] at hr; simp at hr
  rcases h1 with h1 | h1
  · exact ⟨48, _, key 48 h1, .inl rfl, h2⟩
  · exact ⟨49, _, key 49 h1, .inr rfl, h2⟩
theorem qual_bad {s : List UInt8} (h : ∀ x p, ¬ Qs s x p) : qualF s = (0, 6) := by
  unfold qualF
  rw [if_neg]
  intro hk
  obtain ⟨x, p, hq⟩ := qs_of hk
  exact h x p hq
def okAt (x : UInt8) (c : UInt8) : Bool := digB c && !(x == 49 && !(c == 48))
theorem qualOk_eq {x : UInt8} {p : List UInt8} (hx : x = 48 ∨ x = 49) (hp : p.length ≤ 3) : qualOk [x] p = p.all (okAt x) := by
  unfold qualOk
  have h1 : ([x] == [48] || [x] == [49]) = true := by rcases hx with rfl | rfl <;> rfl
  rw [h1, decide_eq_true hp]
  simp only [Bool.true_and]
  have e : ([x] == [49]) = (x == 49) := by rcases hx with rfl | rfl <;> rfl
  rw [e]
  induction p with
  | nil => cases x == 49 <;> rfl
  | cons c r ih =>
    rw [List.all_cons, List.all_cons, List.all_cons, ← ih (by simp at hp; omega)]
    unfold okAt
    cases x == 49 <;> cases digB c <;> cases c == 48 <;> cases r.all digB <;> cases (r.all fun x => x == 48) <;> rfl
def nAt (x : UInt8) (p : List UInt8) (j : Nat) : Int := 1000 * dgI [x] 0 + (if 0 < j then 100 * dgI p 0 else 0) + (if 1 < j then 10 * dgI p 1 else 0) + (if 2 < j then dgI p 2 else 0)
def unitAt (j : Nat) : Int := if j = 0 then 100 else if j = 1 then 10 else if j = 2 then 1 else 0
structure RqJ (s : List UInt8) (x : UInt8) (p : List UInt8) (j : Nat) (I N U : Int) (m : Nat) : Prop where
  q : Qs s x p
  le : j ≤ p.length
  I : I = ((2 + j : Nat) : Int)
  N : N = nAt x p j
  U : U = unitAt j
  m : m = p.length - j
  ok : ∀ t, t < j → okAt x (p.getD t 0) = true
theorem Qs.len {s : List UInt8} {x : UInt8} {p : List UInt8} (V : Qs s x p) {j : Nat} (h : j ≤ p.length) : (2 + j < s.length ↔ j < p.length) ∧ s.length ≤ 5 ∧ 0 < s.length ∧ s.getD 0 0 = x := by
  have h3 := V.p
  rcases V.s with ⟨rfl, rfl⟩ | rfl
  · simp at h ⊢
  · simp; omega
theorem Qs.at_ {s : List UInt8} {x : UInt8} {p : List UInt8} (V : Qs s x p) {j : Nat} (h : j < p.length) : s.getD (2 + j) 0 = p.getD j 0 := by
  rcases V.s with ⟨rfl, rfl⟩ | rfl
  · simp at h
  · rw [show 2 + j = j + 1 + 1 by omega]; rfl
theorem qs_test {s : List UInt8} {x : UInt8} {p : List UInt8} {c d : Int} (Q : Qs s x p) (hc : c = charI s 0) (hd : d = charI s 1) (h : ((((decide ((s.length : Int) < 1) || decide (5 < (s.length : Int))) || (c != 48 && c != 49)) || (decide (1 < (s.length : Int)) && d != 46))) = true) : False := by
  have h3 := Q.p
  rcases Q.s with ⟨rfl, rfl⟩ | rfl
  · have hcx : c = 48 ∨ c = 49 := by rw [hc]; rcases Q.x with rfl | rfl <;> simp [charI]
    simp only [List.length_singleton] at h
    rcases hcx with rfl | rfl <;> simp at h
  · have hcx : c = 48 ∨ c = 49 := by rw [hc]; rcases Q.x with rfl | rfl <;> simp [charI]
    have hdx : d = 46 := by rw [hd]; rfl
    simp only [List.length_cons] at h
    have h5 : ¬ (5 < ((p.length + 1 + 1 : Nat) : Int)) := by omega
    have h1 : ¬ (((p.length + 1 + 1 : Nat) : Int) < 1) := by omega
    rw [decide_eq_false h5, decide_eq_false h1, hdx] at h
    rcases hcx with rfl | rfl <;> simp at h
theorem qs_good {s : List UInt8} {c d : Int} (hc : c = charI s 0) (hd : d = charI s 1) (h : ((((decide ((s.length : Int) < 1) || decide (5 < (s.length : Int))) || (c != 48 && c != 49)) || (decide (1 < (s.length : Int)) && d != 46))) = false) : ∃ x p, Qs s x p := by
  simp only [Bool.or_eq_false_iff, decide_eq_false_iff_not, Bool.and_eq_false_iff, bne_eq_false_iff_eq] at h
  obtain ⟨⟨⟨h1, h2⟩, h3⟩, h4⟩ := h
  match s with
  | [] => simp at h1
  | [x] =>
    refine ⟨x, [], .inl ⟨rfl, rfl⟩, ?_, by simp⟩
    rw [hc] at h3
    simp only [charI, List.getD_cons_zero] at h3
    rcases h3 with h3 | h3
    · left; exact UInt8.toNat_inj.1 (by show x.toNat = 48; omega)
    · right; exact UInt8.toNat_inj.1 (by show x.toNat = 49; omega)
  | x :: y :: p =>
    have hy : y = 46 := by
      rcases h4 with h4 | h4
      · exact absurd (by simp only [List.length_cons]; omega) h4
      · rw [hd] at h4
        simp only [charI] at h4
        exact UInt8.toNat_inj.1 (by show y.toNat = 46; have : (y.toNat : Int) = 46 := h4
                                    omega)
    subst hy
    refine ⟨x, p, .inr rfl, ?_, by simp at h2; omega⟩
    rw [hc] at h3
    simp only [charI, List.getD_cons_zero] at h3
    rcases h3 with h3 | h3
    · left; exact UInt8.toNat_inj.1 (by show x.toNat = 48; omega)
    · right; exact UInt8.toNat_inj.1 (by show x.toNat = 49; omega)
def rqJ36 (s : List UInt8) (x : UInt8) (p : List UInt8) (m : Nat) (vs : List (Option SV)) (hp : List Hl) : Prop :=
  ∃ (j : Nat) (I N U : Int), vs = [some (.str s), some (.int .i64 (.a N)), some (.int .i64 (.a U)), some (.int .i64 (.a I))] ∧ hp = [] ∧ RqJ s x p j I N U m
theorem okAt_test {x c : UInt8} {e x1 : Int} (he : e = (c.toNat : Int)) (hx1 : x1 = (x.toNat : Int)) (hx : x = 48 ∨ x = 49) : ((decide (e < 48) || decide (57 < e)) || (x1 == 49 && e != 48)) = !okAt x c := by
  subst he hx1
  have hc : (c == 48) = ((c.toNat : Int) == 48) := by
    rw [Bool.eq_iff_iff, beq_iff_eq, beq_iff_eq]
    constructor
    · rintro rfl; rfl
    · intro h; exact UInt8.toNat_inj.1 (by show c.toNat = 48; omega)
  have hd : digB c = !(decide ((c.toNat : Int) < 48) || decide (57 < (c.toNat : Int))) := by
    unfold digB
    rw [Bool.eq_iff_iff]; simp; omega
  unfold okAt
  rw [hc, hd]
  rcases hx with rfl | rfl
  · show (_ || (((48 : UInt8).toNat : Int) == 49 && _)) = !(_ && !((48 : UInt8) == 49 && _))
    rw [show ((((48 : UInt8).toNat : Nat) : Int) == 49) = false from rfl, show ((48 : UInt8) == 49) = false from rfl]
    simp
  · rw [show ((((49 : UInt8).toNat : Nat) : Int) == 49) = true from rfl, show ((49 : UInt8) == 49) = true from rfl]
    simp [bne]
theorem dig_of {x c : UInt8} (h : okAt x c = true) : 48 ≤ c.toNat ∧ c.toNat ≤ 57 := by
  unfold okAt digB at h
  simp only [Bool.and_eq_true, decide_eq_true_eq] at h
  exact h.1
theorem unit_step {x : UInt8} {p : List UInt8} {j : Nat} (h : j < p.length) (h3 : j < 3) : nAt x p (j + 1) = nAt x p j + unitAt j * (((p.getD j 0).toNat : Int) - 48) ∧ Int.tdiv (unitAt j) 10 = unitAt (j + 1) ∧ IntKind.i64.wrap (unitAt (j + 1)) = unitAt (j + 1) := by
  have e : dgI p j = ((p.getD j 0).toNat : Int) - 48 := by
    unfold dgI
    rw [List.getD_eq_getElem?_getD, List.getD_eq_getElem?_getD, List.getElem?_eq_getElem h]; rfl
  rw [← e]
  rcases (by omega : j = 0 ∨ j = 1 ∨ j = 2) with rfl | rfl | rfl
  · exact ⟨by simp [nAt, unitAt], by decide, by decide⟩
  · exact ⟨by simp [nAt, unitAt], by decide, by decide⟩
  · exact ⟨by simp [nAt, unitAt], by decide, by decide⟩
theorem nAt_le {x : UInt8} {p : List UInt8} (hx : x = 48 ∨ x = 49) {j : Nat} (h : ∀ t, t < j → okAt x (p.getD t 0) = true) : 0 ≤ nAt x p j ∧ nAt x p j ≤ 1999 := by
  have d : ∀ t, t < j → 0 ≤ dgI p t ∧ dgI p t ≤ 9 := by
    intro t ht
    have := dig_of (h t ht)
    unfold dgI
    rw [List.getD_eq_getElem?_getD] at this ⊢
    cases hp : p[t]? with
    | none => simp
    | some c => rw [hp] at this; simp at this ⊢; omega
  have hx2 : 0 ≤ dgI [x] 0 ∧ dgI [x] 0 ≤ 1 := by rcases hx with rfl | rfl <;> decide
  unfold nAt
  have d0 := d 0; have d1 := d 1; have d2 := d 2
  split <;> split <;> split <;> omega
theorem nAt_all {x : UInt8} {p : List UInt8} (h : p.length ≤ 3) : nAt x p p.length = qualV [x] p := by
  match p, h with
  | [], _ => simp [nAt, qualV, dgI]
  | [a], _ => simp [nAt, qualV, dgI]
  | [a, b], _ => simp [nAt, qualV, dgI]
  | [a, b, c], _ => simp [nAt, qualV, dgI]
  | _ :: _ :: _ :: _ :: _, h => simp at h
structure B05 (D : Dn) (s : List UInt8) : Prop where
  h : D.b (.not (.or (.cmp .lss (.len s) (.l 1)) (.cmp .gtr (.len s) (.l 5)))) = true → 0 < s.length
structure RqC (s : List UInt8) (x : UInt8) (p : List UInt8) (j : Nat) (I : Int) : Prop where
  I : ST.den (.a I) = ((2 + j : Nat) : Int)
  lt : 2 + j < s.length
  ch : charI s (2 + j) = ((p.getD j 0).toNat : Int)
  x0 : charI s 0 = (x.toNat : Int)
theorem RqC.inS {D : Dn} (hD : D = dn) {s : List UInt8} {x : UInt8} {p : List UInt8} {j : Nat} {I : Int} (V : RqC s x p j I) : InS (D.i (.a I)) s := by
  subst hD; exact inS_of V.I V.lt
theorem refQuality_ok : FnOk Tryz.prog gl 36 spQual := by
  refine fnOk (gh := []) mixed cxOk tabNil Tryz.func36 (by kernel_rfl) (by kernel_rfl) ?_
  intro xs ls K h
  unfold spQual at h
  obtain ⟨s, rfl, rfl, hl, h⟩ := h
  obtain ⟨k, hk⟩ : ∃ k, k = qualF s := ⟨_, rfl⟩
  obtain ⟨kn, ke⟩ := k
  refine ⟨_, _, h kn ke hk, fun D hD => ?_⟩
  clear h
  cbv
  have b0 : B05 D s := ⟨fun h => by subst hD; have h : (!(decide ((s.length : Int) < 1) || decide (5 < (s.length : Int)))) = true := h; simp only [Bool.not_eq_true', Bool.or_eq_false_iff, decide_eq_false_iff_not] at h; omega⟩
  refine ⟨fun hg => ?_, fun c hc => ?_⟩
  · have := b0.h hg
    subst hD; exact inS_of (e := .l 0) (i := 0) rfl this
  have hc2 := byteAt (e := .l 0) (i := 0) hD rfl hc
  clear hc
  cbv
  refine ⟨fun hg => ?_, fun c' hc' => ?_⟩
  · intro hg1
    have := b0.h hg1
    subst hD; exact inS_of (e := .l 0) (i := 0) rfl this
  have hc2' := byteAt (e := .l 0) (i := 0) hD rfl hc'
  obtain rfl : c' = c := by rw [hc2'.h, hc2.h]
  clear hc' hc2'
  cbv
  refine ⟨fun hg => ?_, fun d hd => ?_⟩
  · intro _
    subst hD
    have h1 : 1 < (s.length : Int) := of_decide_eq_true (p := 1 < (s.length : Int)) hg
    exact inS_of (e := .l 1) (i := 1) rfl (by omega)
  have hd2 := byteAt (e := .l 1) (i := 1) hD rfl hd
  clear hd b0
  cbv
  refine br hD (fun h => ?_) (fun h => ?_) <;> cbv
  · have h : ((((decide ((s.length : Int) < 1) || decide (5 < (s.length : Int))) || (c' != 48 && c' != 49)) || (decide (1 < (s.length : Int)) && d != 46))) = true := h
    rw [qual_bad fun x p Q => qs_test Q hc2.charI hd2.charI h] at hk
    exact finQual (x := .l 0) (y := .l 6) hD hk
  have h : ((((decide ((s.length : Int) < 1) || decide (5 < (s.length : Int))) || (c' != 48 && c' != 49)) || (decide (1 < (s.length : Int)) && d != 46))) = false := h
  obtain ⟨x, p, Q⟩ := qs_good hc2.charI hd2.charI h
  clear h hd2
  obtain ⟨q1, q2⟩ := Q.cut
  rw [qualF, q1, q2, qualOk_eq Q.x Q.p] at hk
  have hx0 : charI s 0 = (x.toNat : Int) := by
    unfold charI; rw [(Q.len (Nat.zero_le _)).2.2.2]
  have hs0 : 0 < s.length := (Q.len (Nat.zero_le _)).2.2.1
  refine ⟨by subst hD; exact inS_of (e := .l 0) (i := 0) rfl hs0, fun c0 hc0 => ?_⟩
  have hc02 := byteAt (e := .l 0) (i := 0) hD rfl hc0
  clear hc0 hc2
  cbv
  obtain ⟨J, hJ⟩ : ∃ J, J = rqJ36 s x p := ⟨_, rfl⟩
  refine ⟨[0, 4, 5, 6], J, ⟨rfl, p.length, ?_⟩, ?_⟩
  · rw [hJ]
    subst hD
    refine ⟨0, _, _, _, rfl, rfl, ⟨Q, Nat.zero_le _, rfl, ?_, rfl, rfl, by simp⟩⟩
    have hb : 48 ≤ c0 ∧ c0 ≤ 49 := by rw [hc02.charI, hx0]; rcases Q.x with rfl | rfl <;> decide
    show IntKind.i64.wrap (1000 * IntKind.i64.wrap (IntKind.u8.wrap (c0 - 48))) = _
    rw [wrap8 (by omega) (by omega), wrap64 (n := c0 - 48) (by omega) (by omega), wrap64 (by omega) (by omega)]
    rw [hc02.charI, hx0]
    simp [nAt, dgI]
  clear hc02
  intro m vs hp' hv
  rw [hJ] at hv
  unfold rqJ36 at hv
  obtain ⟨j, I, N, U, rfl, rfl, V⟩ := hv
  cbv
  refine br hD (fun h => ?_) (fun h => ?_) <;> cbv
  · have hlt : j < p.length := by
      have h := of_decide_eq_true (p := I < (s.length : Int)) h
      have h1 := V.I
      exact (Q.len V.le).1.1 (by omega)
    clear h
    have hch : charI s (2 + j) = ((p.getD j 0).toNat : Int) := by unfold charI; rw [Q.at_ hlt]
    have hC : RqC s x p j I := ⟨V.I, (Q.len V.le).1.2 hlt, hch, hx0⟩
    clear hch
    refine ⟨hC.inS hD, fun c hc => ?_⟩
    have hc2 := byteAt hD hC.I hc
    clear hc
    cbv
    refine ⟨fun _ => hC.inS hD, fun e he => ?_⟩
    have he2 := byteAt hD hC.I he
    obtain rfl : e = c := by rw [he2.h, hc2.h]
    clear he he2
    cbv
    refine ⟨fun _ => by subst hD; exact inS_of (e := .l 0) (i := 0) rfl hs0, fun x1 hx1 => ?_⟩
    have hx2 := byteAt (e := .l 0) (i := 0) hD rfl hx1
    clear hx1
    cbv
    refine ⟨fun _ _ => hC.inS hD, fun e2 he2 => ?_⟩
    obtain rfl : e2 = e := by have := byteAt hD hC.I he2; rw [this.h, hc2.h]
    clear he2
    cbv
    refine br hD (fun h => ?_) (fun h => ?_) <;> cbv
    · have h : ((decide (e2 < 48) || decide (57 < e2)) || (x1 == 49 && e2 != 48)) = true := h
      rw [okAt_test (hc2.charI.trans hC.ch) (hx2.charI.trans hC.x0) Q.x] at h
      have hb : p.all (okAt x) = false := by
        rw [List.all_eq_false]
        exact ⟨p.getD j 0, by rw [List.getD_eq_getElem?_getD, List.getElem?_eq_getElem hlt]; exact List.getElem_mem hlt, by simpa using h⟩
      rw [hb, if_neg (by simp)] at hk
      exact finQual (x := .l 0) (y := .l 6) hD hk
    have h : ((decide (e2 < 48) || decide (57 < e2)) || (x1 == 49 && e2 != 48)) = false := h
    rw [okAt_test (hc2.charI.trans hC.ch) (hx2.charI.trans hC.x0) Q.x] at h
    have hok : okAt x (p.getD j 0) = true := by simpa using h
    clear h
    refine ⟨hC.inS hD, fun e3 he3 => ?_⟩
    obtain rfl : e3 = e2 := by have := byteAt hD hC.I he3; rw [this.h, hc2.h]
    clear he3
    cbv
    refine ⟨⟨by subst hD; show (10 : Int) ≠ 0; omega⟩, ?_⟩
    have hdg := dig_of hok
    have hj3 : j < 3 := by have := Q.p; omega
    obtain ⟨u1, u2, u3⟩ := unit_step (x := x) hlt hj3
    refine ⟨p.length - (j + 1), by have := V.m; omega, ?_⟩
    rw [hJ]
    subst hD
    have hce : e3 = ((p.getD j 0).toNat : Int) := hc2.charI.trans hC.ch
    have hN := V.N; have hU := V.U; have hI := V.I
    have hnb := nAt_le (p := p) Q.x (j := j) V.ok
    refine ⟨j + 1, _, _, _, rfl, rfl, ⟨Q, by omega, ?_, ?_, ?_, rfl, fun t ht => ?_⟩⟩
    · show IntKind.i64.wrap (I + 1) = _
      rw [hI, wrap64 (by omega) (by omega)]; omega
    · show IntKind.i64.wrap (N + IntKind.i64.wrap (U * IntKind.i64.wrap (IntKind.u8.wrap (e3 - 48)))) = _
      rw [u1, wrap8 (by omega) (by omega), wrap64 (n := e3 - 48) (by omega) (by omega), hN, hU, hce]
      have hU2 : 0 ≤ unitAt j ∧ unitAt j ≤ 100 := by unfold unitAt; split <;> (try split) <;> (try split) <;> omega
      have hm : 0 ≤ unitAt j * (((p.getD j 0).toNat : Int) - 48) ∧ unitAt j * (((p.getD j 0).toNat : Int) - 48) ≤ 900 := by
        constructor
        · exact Int.mul_nonneg hU2.1 (by omega)
        · have := Int.mul_le_mul hU2.2 (show ((p.getD j 0).toNat : Int) - 48 ≤ 9 by omega) (by omega) (by omega)
          omega
      rw [wrap64 (n := unitAt j * _) (by omega) (by omega), wrap64 (by omega) (by omega)]
    · show IntKind.i64.wrap (Int.tdiv U 10) = _
      rw [hU, u2]; exact u3
    · by_cases e : t = j
      · rw [e]; exact hok
      · exact V.ok t (by omega)
  · have hlt : ¬ j < p.length := by
      have h := of_decide_eq_false (p := I < (s.length : Int)) h
      have h1 := V.I
      intro hj
      have := (Q.len V.le).1.2 hj
      omega
    have hje : j = p.length := by have := V.le; omega
    have hall : p.all (okAt x) = true := by
      rw [List.all_eq_true]
      intro c hc
      obtain ⟨t, ht, rfl⟩ := List.mem_iff_getElem.1 hc
      have := V.ok t (by omega)
      rw [List.getD_eq_getElem?_getD, List.getElem?_eq_getElem ht] at this
      exact this
    rw [hall, if_pos rfl] at hk
    refine finQual (x := .a N) (y := .l 0) hD ?_
    rw [hk]
    show (qualV [x] p, (0 : Int)) = (N, 0)
    rw [V.N, hje, nAt_all Q.p]
end Go.Proofs.YtfchfhjpldppjaaGreatDoor
namespace Go.Proofs.YtfchfhjpldppjaaGreatDoor
open Go.Sx
set_option maxRecDepth 100000
set_option maxHeartbeats 4000000
/-! A quality in digits. -/
def pqR : List Nat → Nat → List UInt8
  | [], _ => []
  | u :: r, d => if d = 0 then [] else UInt8.ofNat (48 + d / u) :: pqR r (d % u)
def pqN (n : Nat) : List UInt8 := if n % 1000 = 0 then [UInt8.ofNat (48 + n / 1000)] else UInt8.ofNat (48 + n / 1000) :: 46 :: pqR [100, 10, 1] (n % 1000)
def pqF (n : Int) : List UInt8 × Int := if 0 ≤ n ∧ n ≤ 1000 then (pqN n.toNat, 0) else ([], 7)
def pqChk (n : Nat) : Bool := qualF (pqN n) == ((n : Int), 0) && decide ((pqN n).length ≤ 5) && (!(n % 10 == 0) || decide ((pqN n).length ≤ 4)) && (!(n % 100 == 0) || decide ((pqN n).length ≤ 3)) && (!(n % 1000 == 0) || decide ((pqN n).length ≤ 1))
  && (Lib.trimRightB (Lib.trimRightB (UInt8.ofNat (48 + n / 1000) :: 46 :: [UInt8.ofNat (48 + n % 1000 / 100), UInt8.ofNat (48 + n % 1000 / 10 % 10), UInt8.ofNat (48 + n % 1000 % 10)]) 48) 46 == pqN n)
theorem pq_all : ((List.range 1001).all pqChk) = true := by decide +kernel
theorem pq_at {n : Nat} (h : n ≤ 1000) : pqChk n = true := by
  have := pq_all
  rw [List.all_eq_true] at this
  exact this n (by simp; omega)
theorem pq_qual {n : Nat} (h : n ≤ 1000) : qualF (pqN n) = ((n : Int), 0) := by
  have := pq_at h
  simp only [pqChk, Bool.and_eq_true, beq_iff_eq] at this
  exact this.1.1.1.1.1
theorem pq_len {n : Nat} (h : n ≤ 1000) : (pqN n).length ≤ 5 ∧ (n % 10 = 0 → (pqN n).length ≤ 4) ∧ (n % 100 = 0 → (pqN n).length ≤ 3) ∧ (n % 1000 = 0 → (pqN n).length ≤ 1) := by
  have := pq_at h
  simp only [pqChk, Bool.and_eq_true, Bool.or_eq_true, Bool.not_eq_true', beq_eq_false_iff_ne, beq_iff_eq, decide_eq_true_eq] at this
  obtain ⟨⟨⟨⟨⟨_, h1⟩, h2⟩, h3⟩, h4⟩, _⟩ := this
  exact ⟨h1, fun e => h2.resolve_left (fun x => x e), fun e => h3.resolve_left (fun x => x e), fun e => h4.resolve_left (fun x => x e)⟩
theorem pq_trim {n : Nat} (h : n ≤ 1000) : Lib.trimRightB (Lib.trimRightB (UInt8.ofNat (48 + n / 1000) :: 46 :: [UInt8.ofNat (48 + n % 1000 / 100), UInt8.ofNat (48 + n % 1000 / 10 % 10), UInt8.ofNat (48 + n % 1000 % 10)]) 48) 46 = pqN n := by
  have := pq_at h
  simp only [pqChk, Bool.and_eq_true, beq_iff_eq] at this
  exact this.2
theorem dec_lt {u : Nat} (h : u < 10) : Lib.decDigits u = [UInt8.ofNat (48 + u)] := by rw [Lib.decDigits, dif_pos h]
theorem dec_step {u : Nat} (h : 10 ≤ u) : Lib.decDigits u = Lib.decDigits (u / 10) ++ [UInt8.ofNat (48 + u % 10)] := by rw [Lib.decDigits, dif_neg (by omega)]
theorem itoa_one {n : Nat} (h : n ≤ 1000) : Lib.itoa (Int.tdiv (n : Int) 1000) = [UInt8.ofNat (48 + n / 1000)] := by
  have e : Int.tdiv (n : Int) 1000 = ((n / 1000 : Nat) : Int) := by
    rw [Int.tdiv_eq_ediv_of_nonneg (by omega)]; omega
  rw [e, Lib.itoa, if_neg (by omega), Int.toNat_natCast, dec_lt (by omega)]
theorem itoa_four {n : Nat} (h : n ≤ 1000) : Lib.itoa (1000 + Int.tmod (n : Int) 1000) = [49, UInt8.ofNat (48 + n % 1000 / 100), UInt8.ofNat (48 + n % 1000 / 10 % 10), UInt8.ofNat (48 + n % 1000 % 10)] := by
  have e : 1000 + Int.tmod (n : Int) 1000 = ((1000 + n % 1000 : Nat) : Int) := by
    rw [Int.tmod_eq_emod_of_nonneg (by omega)]; omega
  rw [e, Lib.itoa, if_neg (by omega), Int.toNat_natCast, dec_step (by omega), dec_step (by omega), dec_step (by omega), dec_lt (by omega)]
  have e1 : (1000 + n % 1000) / 10 / 10 / 10 = 1 := by omega
  have e2 : (1000 + n % 1000) / 10 / 10 % 10 = n % 1000 / 100 := by omega
  have e3 : (1000 + n % 1000) / 10 % 10 = n % 1000 / 10 % 10 := by omega
  have e4 : (1000 + n % 1000) % 10 = n % 1000 % 10 := by omega
  rw [e1, e2, e3, e4]
  rfl
theorem digB_le {c : UInt8} (h : digB c = true) : 48 ≤ c.toNat ∧ c.toNat ≤ 57 := by
  unfold digB at h
  simpa using h
theorem z48 {c : UInt8} (h : (c == 48) = true) : c.toNat = 48 := by rw [beq_iff_eq.1 h]; rfl
/-- What a quality's text gives is a quality, and no text of it is shorter. -/
theorem qual_pq {s : List UInt8} {q : Int} (h : qualF s = (q, 0)) : ∃ n : Nat, n ≤ 1000 ∧ q = n ∧ (pqN n).length ≤ s.length := by
  unfold qualF at h
  split at h
  · rename_i hok
    obtain ⟨x, p, Q⟩ := qs_of hok
    obtain ⟨q1, q2⟩ := Q.cut
    rw [q1, q2] at h hok
    simp only [Prod.mk.injEq, and_true] at h
    have hx : x.toNat = 48 ∨ x.toNat = 49 := by rcases Q.x with rfl | rfl <;> simp
    have h1 : x.toNat = 49 → ∀ c ∈ p, (c == 48) = true := by
      intro hx c hc
      have hx : x = 49 := UInt8.toNat_inj.1 hx
      subst hx
      simp only [qualOk, Bool.and_eq_true, Bool.not_eq_true', Bool.and_eq_false_iff, Bool.not_eq_false', List.all_eq_true] at hok
      rcases hok.2 with h | h
      · simp at h
      · exact h c hc
    have hd : ∀ c ∈ p, digB c = true := by
      simp only [qualOk, Bool.and_eq_true, List.all_eq_true] at hok
      exact hok.1.2
    have hl : s.length = 1 ∧ p = [] ∨ s.length = p.length + 2 := by
      rcases Q.s with ⟨rfl, rfl⟩ | rfl
      · exact .inl ⟨rfl, rfl⟩
      · exact .inr rfl
    match p, Q.p, h, h1, hd, hl with
    | [], _, h, _, _, hl =>
      simp only [qualV, dgI, List.getD_cons_zero, List.getD_nil] at h
      have e : ∃ n : Nat, n ≤ 1000 ∧ q = n ∧ n % 1000 = 0 := ⟨1000 * (x.toNat - 48), by omega, by rw [← h]; show _ = _; simp; omega, by omega⟩
      obtain ⟨n, a, b, c⟩ := e
      exact ⟨n, a, b, Nat.le_trans ((pq_len a).2.2.2 c) (by rcases hl with ⟨hl, _⟩ | hl <;> omega)⟩
    | [a], _, h, h1, hd, hl =>
      have da := digB_le (hd a (by simp))
      have za : x.toNat = 49 → a.toNat = 48 := fun hx => z48 (h1 hx a (by simp))
      simp only [qualV, dgI, List.getD_cons_zero, List.getD_cons_succ, List.getD_nil] at h
      have e : ∃ n : Nat, n ≤ 1000 ∧ q = n ∧ n % 100 = 0 := ⟨1000 * (x.toNat - 48) + 100 * (a.toNat - 48), by omega, by rw [← h]; show _ = _; simp; omega, by omega⟩
      obtain ⟨n, e1, b, c⟩ := e
      exact ⟨n, e1, b, Nat.le_trans ((pq_len e1).2.2.1 c) (by rcases hl with ⟨_, hl⟩ | hl; · cases hl
                                                              · simp at hl; omega)⟩
    | [a, b], _, h, h1, hd, hl =>
      have da := digB_le (hd a (by simp))
      have db := digB_le (hd b (by simp))
      have za : x.toNat = 49 → a.toNat = 48 := fun hx => z48 (h1 hx a (by simp))
      have zb : x.toNat = 49 → b.toNat = 48 := fun hx => z48 (h1 hx b (by simp))
      simp only [qualV, dgI, List.getD_cons_zero, List.getD_cons_succ, List.getD_nil] at h
      have e : ∃ n : Nat, n ≤ 1000 ∧ q = n ∧ n % 10 = 0 := ⟨1000 * (x.toNat - 48) + 100 * (a.toNat - 48) + 10 * (b.toNat - 48), by omega, by rw [← h]; show _ = _; simp; omega, by omega⟩
      obtain ⟨n, e1, e2, c⟩ := e
      exact ⟨n, e1, e2, Nat.le_trans ((pq_len e1).2.1 c) (by rcases hl with ⟨_, hl⟩ | hl; · cases hl
                                                             · simp at hl; omega)⟩
    | [a, b, c], _, h, h1, hd, hl =>
      have da := digB_le (hd a (by simp))
      have db := digB_le (hd b (by simp))
      have dc := digB_le (hd c (by simp))
      have za : x.toNat = 49 → a.toNat = 48 := fun hx => z48 (h1 hx a (by simp))
      have zb : x.toNat = 49 → b.toNat = 48 := fun hx => z48 (h1 hx b (by simp))
      have zc : x.toNat = 49 → c.toNat = 48 := fun hx => z48 (h1 hx c (by simp))
      simp only [qualV, dgI, List.getD_cons_zero, List.getD_cons_succ] at h
      have e : ∃ n : Nat, n ≤ 1000 ∧ q = n := ⟨1000 * (x.toNat - 48) + 100 * (a.toNat - 48) + 10 * (b.toNat - 48) + (c.toNat - 48), by omega, by rw [← h]; show _ = _; simp; omega⟩
      obtain ⟨n, e1, e2⟩ := e
      exact ⟨n, e1, e2, Nat.le_trans ((pq_len e1).1) (by rcases hl with ⟨_, hl⟩ | hl; · cases hl
                                                         · simp at hl; omega)⟩
    | _ :: _ :: _ :: _ :: _, hp, _, _, _, _ => simp at hp
  · simp at h
end Go.Proofs.YtfchfhjpldppjaaGreatDoor
namespace Go.Proofs.YtfchfhjpldppjaaGreatDoor
set_option maxRecDepth 10000
set_option maxHeartbeats 4000000
/-! What the law on the order wants of the weights. -/
def lawQ : List Par → Int
  | [] => 1000
  | p :: r => if p.1 == [113] then (if (qualF p.2).2 ≠ 0 then -1 else (qualF p.2).1) else lawQ r
theorem twM_none : ∀ {l acc : List Par}, twM acc l = false → ∀ p ∈ l, ∀ a ∈ acc, nameEq p a = false
  | [], _, _, p, hp, _, _ => by cases hp
  | x :: r, acc, h, p, hp, a, ha => by
    rw [twM, Bool.or_eq_false_iff] at h
    rcases List.mem_cons.1 hp with e | e
    · subst e
      have := h.1
      rw [List.any_eq_false] at this
      simpa using this a ha
    · exact twM_none h.2 p e a (List.mem_append_left _ ha)
theorem twM_cons {p : Par} {r acc : List Par} (h : twM acc (p :: r) = false) : (∀ x ∈ r, nameEq x p = false) ∧ twM (acc ++ [p]) r = false := by
  rw [twM, Bool.or_eq_false_iff] at h
  exact ⟨fun x hx => twM_none h.2 x hx p (by simp), h.2⟩
theorem nameEq_iff {a b : Par} : nameEq a b = (a.1 == b.1) := by
  unfold nameEq
  exact Bool.eq_iff_iff.2 ⟨fun h => by rw [beq_iff_eq] at h ⊢; exact h.symm, fun h => by rw [beq_iff_eq] at h ⊢; exact h.symm⟩
theorem wPar_noq : ∀ {ps : List Par} {q : Int}, (∀ p ∈ ps, (p.1 == [113]) = false) → wPar ps q = (q, 0)
  | [], _, _ => rfl
  | p :: r, q, h => by
    rw [wPar_not (h p (by simp)), wPar_noq fun x hx => h x (by simp [hx])]
theorem wPar_law : ∀ {ps acc : List Par}, twM acc ps = false → (wPar ps 1000).2 = 0 → lawQ ps = (wPar ps 1000).1 ∧ 0 ≤ lawQ ps ∧ lawQ ps ≤ 1000
  | [], _, _, _ => by simp [lawQ, wPar]
  | p :: r, acc, h, hw => by
    have hc := twM_cons h
    by_cases hp : (p.1 == [113]) = true
    · by_cases hq : (qualF p.2).2 ≠ 0
      · rw [wPar_bad hp hq] at hw; exact absurd hw hq
      · have hq : (qualF p.2).2 = 0 := by simpa using hq
        have hno : ∀ x ∈ r, (x.1 == [113]) = false := by
          intro x hx
          have := hc.1 x hx
          rw [nameEq_iff, beq_iff_eq.1 hp] at this
          exact this
        rw [wPar_q hp hq, wPar_noq hno, lawQ, if_pos hp, if_neg (by rw [hq]; simp)]
        obtain ⟨n, h1, h2, _⟩ := qual_pq (s := p.2) (q := (qualF p.2).1) (by rw [← hq])
        refine ⟨rfl, ?_, ?_⟩ <;> rw [h2] <;> omega
    · have hp : (p.1 == [113]) = false := by simpa using hp
      rw [wPar_not hp] at hw ⊢
      rw [lawQ, if_neg (by rw [hp]; simp)]
      exact wPar_law hc.2 hw
/-- An item with its quality. -/
def lawW (x : Item) : Wt := (x.1, lawQ x.2)
theorem wItems_law : ∀ {l : List Item} {out : List Wt}, (∀ x ∈ l, twiceF x.2 = false) → (addW out (wItems l)).2 = 0 → (addW out (wItems l)).1 = out ++ l.map lawW ∧ ∀ x ∈ l, 0 ≤ lawQ x.2 ∧ lawQ x.2 ≤ 1000
  | [], out, _, _ => by simp [addW, wItems]
  | x :: r, out, h, hw => by
    by_cases hx : (wPar x.2 1000).2 ≠ 0
    · rw [addW_err hx] at hw; exact absurd hw hx
    · have hx : (wPar x.2 1000).2 = 0 := by simpa using hx
      rw [addW_more hx] at hw ⊢
      have ih := wItems_law (fun y hy => h y (by simp [hy])) hw
      have hq := wPar_law (h x (by simp)) hx
      refine ⟨by rw [ih.1, ← hq.1]; simp [lawW], fun y hy => ?_⟩
      rcases List.mem_cons.1 hy with e | e
      · rw [e]; exact hq.2
      · exact ih.2 y e
/-- Those with qualities below n, the greater ones first. -/
def desc : Nat → List Wt → List Wt
  | 0, _ => []
  | n + 1, R => R.filter (fun x => x.2 == (n : Int)) ++ desc n R
theorem desc_lt {n : Nat} {R : List Wt} : ∀ x ∈ desc n R, x.2 < n ∧ 0 ≤ x.2 := by
  induction n with
  | zero => intro x hx; cases hx
  | succ n ih =>
    intro x hx
    rcases List.mem_append.1 hx with h | h
    · simp only [List.mem_filter, beq_iff_eq] at h; omega
    · have := ih x h; omega
theorem desc_srt {R : List Wt} : ∀ n, Srt (desc n R)
  | 0 => List.Pairwise.nil
  | n + 1 => by
    refine srt_app.2 ⟨?_, desc_srt n, fun x hx y hy => ?_⟩
    · refine List.pairwise_iff_forall_sublist.2 fun {a b} hab => ?_
      have ha := hab.subset (show a ∈ [a, b] by simp)
      have hb := hab.subset (show b ∈ [a, b] by simp)
      simp only [List.mem_filter, beq_iff_eq] at ha hb
      omega
    · simp only [List.mem_filter, beq_iff_eq] at hx
      have := desc_lt y hy
      omega
theorem desc_fil {R : List Wt} (q : Int) : ∀ n : Nat, (desc n R).filter (fun x => x.2 == q) = if 0 ≤ q ∧ q < n then R.filter (fun x => x.2 == q) else []
  | 0 => by rw [if_neg (by omega)]; rfl
  | n + 1 => by
    rw [desc, List.filter_append, desc_fil q n, List.filter_filter]
    by_cases h : q = n
    · subst h
      rw [if_neg (by omega), if_pos (by omega), List.append_nil]
      congr 1
      funext x
      simp
    · have e : R.filter (fun x => (x.2 == q) && (x.2 == (n : Int))) = [] := by
        rw [List.filter_eq_nil_iff]
        intro x _ hx
        simp only [Bool.and_eq_true, beq_iff_eq] at hx
        omega
      rw [e, List.nil_append]
      by_cases h2 : 0 ≤ q ∧ q < n
      · rw [if_pos h2, if_pos (by omega)]
      · rw [if_neg h2, if_neg (by omega)]
theorem sortF_desc {R : List Wt} {n : Nat} (h : ∀ x ∈ R, 0 ≤ x.2 ∧ x.2 < n) : sortF R = desc n R := by
  refine (sortF_eq (desc_srt n) fun q => ?_).symm
  rw [desc_fil]
  split
  · rfl
  · rename_i hq
    symm
    rw [List.filter_eq_nil_iff]
    intro x hx hx2
    have := h x hx
    simp only [beq_iff_eq] at hx2
    omega
/-- What the law's answer says of items and weights. -/
theorem weights_law {s : List UInt8} {l : List Item} {w : List Wt} {e we : Int} (he : (l, e) = itemsF s) (hw : (w, we) = weightsF s) :
    (e ≠ 0 → w = [] ∧ we = e) ∧ (e = 0 → we ≠ 0 → w = []) := by
  unfold weightsF at hw
  rw [← he] at hw
  refine ⟨fun h => ?_, fun h h2 => ?_⟩
  · rw [if_pos h] at hw; cases hw; exact ⟨rfl, rfl⟩
  · rw [if_neg (by simpa using h), sortE] at hw
    split at hw
    · cases hw; rfl
    · cases hw; exact absurd rfl h2
theorem weights_desc {s : List UInt8} {l : List Item} {w : List Wt} (ht : ∀ x ∈ l, twiceF x.2 = false) (he : (l, 0) = itemsF s) (hw : (w, 0) = weightsF s) :
    w = desc 1001 (l.map lawW) ∧ w.length = l.length ∧ ∀ x ∈ l, 0 ≤ lawQ x.2 ∧ lawQ x.2 ≤ 1000 := by
  unfold weightsF at hw
  rw [← he, if_neg (by simp), sortE] at hw
  split at hw
  · rename_i h
    exact absurd (congrArg Prod.snd hw).symm h
  · rename_i h
    have h : (addW [] (wItems l)).2 = 0 := by simpa using h
    have hl := wItems_law ht h
    rw [List.nil_append] at hl
    have e : w = sortF (addW [] (wItems l)).1 := by cases hw; rfl
    rw [hl.1] at e
    refine ⟨?_, by rw [e, sortF_len, List.length_map], hl.2⟩
    rw [e]
    refine sortF_desc fun x hx => ?_
    obtain ⟨y, hy, rfl⟩ := List.mem_map.1 hx
    have := hl.2 y hy
    exact ⟨this.1, by show lawQ y.2 < _; omega⟩
theorem itemF_twice (s : List UInt8) : twiceF (itemF s).1.2 = false := by
  have nil : twiceF [] = false := rfl
  unfold itemF itemL
  split
  · exact nil
  · generalize List.map trimF ((partsF 59 s).getD []) = l
    cases hp : parsF (l.drop 1) with
    | none => exact nil
    | some y =>
      rw [itemG]
      split
      · exact nil
      · split
        · exact nil
        · rename_i h; simpa using h
theorem itemsF_twice (s : List UInt8) : ∀ x ∈ (itemsF s).1, twiceF x.2 = false := by
  intro x hx
  unfold itemsF at hx
  split at hx
  · simp at hx
  · split at hx
    · simp at hx
    · rcases itemsL_mem _ _ x hx with h | ⟨t, _, rfl⟩
      · simp at h
      · exact itemF_twice t
end Go.Proofs.YtfchfhjpldppjaaGreatDoor
namespace Go.Proofs.YtfchfhjpldppjaaGreatDoor
open Go.Sx
set_option maxRecDepth 10000
set_option maxHeartbeats 8000000
/-! The quality of an item, of the law on the order. -/
structure LenQI (s : List UInt8) : Prop where
  h : s.length ≤ 100000
def spQualI : FSpec := fun _ xs ls K => ∃ (v : List UInt8) (ps : List Par) (nl : Bool) (n : Int) (f : Nat → List SV), xs = [.agg [.str v, .sl (.a nl) (.a n) 2 f]] ∧ ls = [] ∧ RowP f n ps ∧ (∀ p ∈ ps, p.2.length ≤ 100000) ∧ ∀ r : Int, r = lawQ ps → K (.int .i64 (.a r)) []
def qiJ (k : Int) (ps : List Par) (v : List UInt8) (nl : Bool) (n : Int) (f : Nat → List SV) (m : Nat) (vs : List (Option SV)) (hp : List Hl) : Prop :=
  ∃ (i : Nat) (I : Int), vs = [some (.ptr 0 0), some (.int .i64 (.a I))] ∧ hp = [.blk 49 [.str v, .sl (.a nl) (.a n) 2 f]] ∧ AtR ps i I m ∧ k = lawQ (ps.drop i)
theorem qualI_ok : FnOk Tryz.prog gl 32 spQualI := by
  refine fnOk (gh := []) mixed cxOk (tabCons quality_ok tabNil) Tryz.func32 (by kernel_rfl) (by kernel_rfl) ?_
  intro xs ls K h
  unfold spQualI at h
  obtain ⟨v, ps, nl, n, f, rfl, rfl, R, hps, h⟩ := h
  obtain ⟨k, hk⟩ : ∃ k, k = lawQ ps := ⟨_, rfl⟩
  refine ⟨_, _, h k hk, fun D hD => ?_⟩
  clear h
  cbv
  obtain ⟨J, hJ⟩ : ∃ J, J = qiJ k ps v nl n f := ⟨_, rfl⟩
  refine ⟨[1, 3], J, ⟨rfl, ps.length, ?_⟩, ?_⟩
  · rw [hJ]
    subst hD
    exact ⟨0, 0, rfl, rfl, AtR.zero R.len, hk⟩
  clear hk
  intro m vs hp' hv
  rw [hJ] at hv
  unfold qiJ at hv
  obtain ⟨i, I, rfl, rfl, V, hk⟩ := hv
  cbv
  refine br hD (fun h => ?_) (fun h => ?_) <;> cbv
  · have hlt := V.lt R.n (of_decide_eq_true (p := I < n) h)
    clear h
    have hin := V.inB hD R.n hlt
    have e1 := R.f i hlt
    rw [dropR (d := ([], [])) hlt, lawQ] at hk
    have hpl := hps (ps.getD i ([], [])) (by rw [List.getD_eq_getElem?_getD, List.getElem?_eq_getElem hlt]; exact List.getElem_mem hlt)
    obtain ⟨p, hp⟩ : ∃ p, p = ps.getD i ([], []) := ⟨_, rfl⟩
    rw [← hp] at e1 hk hpl
    obtain ⟨pn, pv⟩ := p
    simp only at e1 hk hpl
    have hpl : LenQI pv := ⟨hpl⟩
    refine ⟨hin, fun j hj => ?_⟩
    obtain rfl := V.j hD hj
    cbv
    rw [e1]
    cbv
    refine br hD (fun h => ?_) (fun h => ?_) <;> cbv
    · have h : (pn == [113]) = true := h
      rw [if_pos h] at hk
      clear h
      refine ⟨hin, fun j2 hj2 => ?_⟩
      obtain rfl := V.j hD hj2
      cbv
      rw [e1]
      cbv
      refine ⟨pv, rfl, rfl, hpl.h, fun q e hq => ?_⟩
      rw [← hq] at hk
      simp only at hk
      cbv
      refine br hD (fun h => ?_) (fun h => ?_) <;> cbv
      · have h : (e != 0) = true := h
        rw [if_pos (by simpa using h)] at hk
        exact finInt hD hk.symm
      · have h : (e != 0) = false := h
        rw [if_neg (by simpa using h)] at hk
        exact finInt hD hk.symm
    · have h : (pn == [113]) = false := h
      rw [if_neg (by simpa using h)] at hk
      refine ⟨ps.length - (j + 1), (V.step hD hlt).1, ?_⟩
      rw [hJ]
      subst hD
      exact ⟨j + 1, _, rfl, rfl, (V.step rfl hlt).2, hk⟩
  · have hi := V.eq R.n (of_decide_eq_false (p := I < n) h)
    rw [hi, List.drop_length] at hk
    exact finInt hD hk.symm
end Go.Proofs.YtfchfhjpldppjaaGreatDoor
namespace Go.Proofs.YtfchfhjpldppjaaGreatDoor
open Go.Sx
set_option maxRecDepth 10000
set_option maxHeartbeats 16000000
/-! TokensOrder: the law. -/
theorem drop_atW {w r : List Wt} {c : Nat} {y : Wt} (h : w.drop c = y :: r) : c < w.length ∧ w.getD c ([], 0) = y ∧ w.drop (c + 1) = r := by
  have hlt : c < w.length := by
    rcases Nat.lt_or_ge c w.length with h1 | h1
    · exact h1
    · rw [List.drop_eq_nil_of_le h1] at h; cases h
  rw [dropR (d := ([], 0)) hlt] at h
  exact ⟨hlt, (List.cons.inj h).1, (List.cons.inj h).2⟩
structure OrA (w R : List Wt) (qn c : Nat) (A Q : Int) (m : Nat) : Prop where
  hQ : Q = (qn : Int) - 1
  hq : qn ≤ 1001
  hA : A = (c : Int)
  hc : c ≤ w.length
  ms : m = qn
  dr : w.drop c = desc qn R
def orJ1 (w R : List Wt) (nb wnb : Bool) (n wn : Int) (g wf : Nat → List SV) (m : Nat) (vs : List (Option SV)) (hp : List Hl) : Prop :=
  ∃ (qn c : Nat) (A Q : Int), vs = [some (.sl (.a nb) (.a n) 2 g), some (.sl (.a wnb) (.a wn) 2 wf), some (.int .i64 (.a A)), some (.int .i64 (.a Q))] ∧ hp = [] ∧ OrA w R qn c A Q m
structure OrB (l : List Item) (w R : List Wt) (q i c : Nat) (I A : Int) (m : Nat) : Prop where
  at_ : AtR l i I m
  hA : A = (c : Int)
  hc : c ≤ w.length
  dr : w.drop c = (R.drop i).filter (fun x => x.2 == (q : Int)) ++ desc q R
def orJ2 (l : List Item) (w R : List Wt) (q : Nat) (nb wnb : Bool) (n wn Q : Int) (g wf : Nat → List SV) (m : Nat) (vs : List (Option SV)) (hp : List Hl) : Prop :=
  ∃ (i c : Nat) (I A : Int), vs = [some (.sl (.a nb) (.a n) 2 g), some (.sl (.a wnb) (.a wn) 2 wf), some (.int .i64 (.a A)), some (.int .i64 (.a Q)), some (.int .i64 (.a I))] ∧ hp = [] ∧ OrB l w R q i c I A m
structure OrX (l : List Item) (w R : List Wt) : Prop where
  hR : R = l.map lawW
  hl : w.length = l.length
  h50 : l.length ≤ 50
  par : ∀ x ∈ l, x.2.length ≤ 20 ∧ ∀ p ∈ x.2, p.2.length ≤ 500
structure Qn (Q : Int) (q : Nat) : Prop where
  h : Q = (q : Int)
  le : q ≤ 1000
def spLaw7 : FSpec := fun _ xs ls K => ∃ (s : List UInt8), xs = [.str s] ∧ ls = [] ∧ s.length ≤ 9223372036854775807 ∧ ∀ r : Bool, r = true → K (.bool (.a r)) []
theorem tokensOrder_ok : FnOk Tryz.prog gl 7 spLaw7 := by
  refine fnOk (gh := []) mixed cxOk (tabCons items_ok (tabCons weights_ok (tabCons qualI_ok (tabCons awake_ok tabNil)))) Tryz.func7 (by kernel_rfl) (by kernel_rfl) ?_
  intro xs ls K h
  unfold spLaw7 at h
  obtain ⟨s, rfl, rfl, hl, h⟩ := h
  refine ⟨_, _, h true rfl, fun D hD => ?_⟩
  clear h
  cbv
  refine br hD (fun h => ?_) (fun h => ?_) <;> cbv
  · intro r hr
    cbv
    exact finBool hD hr
  clear h
  have hil := itemsF_len s
  have hN : (itemsF s).1.length < 51 := by omega
  have hgood := itemsF_good s
  have htw := itemsF_twice s
  refine ⟨s, rfl, rfl, hl, fun l e n nb g he hn hnb hg => ?_⟩
  rw [← he] at hil hgood htw
  simp only at hil hgood htw
  have R1 : RowIT g n l := ⟨hn, fun _ => by rw [hg]; rfl, by omega, fun x hx => by have := (hgood x hx).1; omega⟩
  clear hn hnb hg
  cbv
  refine ⟨s, rfl, rfl, hl, hN, fun w we wn wnb wf hw hwn hwnb hwf => ?_⟩
  have hlaw := weights_law he hw
  have hds : e = 0 → we = 0 → w = desc 1001 (l.map lawW) ∧ w.length = l.length ∧ ∀ x ∈ l, 0 ≤ lawQ x.2 ∧ lawQ x.2 ≤ 1000 := fun h1 h2 => by
    subst h1 h2; exact weights_desc htw he hw
  have R2 : RowW wf wn w := ⟨hwn, fun _ _ => by rw [hwf]; rfl, by
    have : w.length ≤ 50 := by
      by_cases h1 : e = 0
      · by_cases h2 : we = 0
        · have := (hds h1 h2).2.1; omega
        · rw [hlaw.2 h1 h2]; simp
      · rw [(hlaw.1 h1).1]; simp
    omega⟩
  have R3 : ∀ i, wf i = wtSV (w.getD i ([], 0)) := fun i => by rw [hwf]; rfl
  clear hwn hwnb hwf hw he hN
  cbv
  refine br hD (fun h => ?_) (fun h => ?_) <;> cbv
  · have h : (e != 0 || we != 0) = true := h
    have hw0 : w = [] ∧ (e = 0 ∨ we = e) := by
      by_cases h1 : e = 0
      · have h2 : we ≠ 0 := by rw [h1] at h; simpa using h
        exact ⟨hlaw.2 h1 h2, .inl h1⟩
      · exact ⟨(hlaw.1 h1).1, .inr (hlaw.1 h1).2⟩
    have hn0 : wn = 0 := by rw [R2.n, hw0.1]; rfl
    have hee := hw0.2
    clear h hlaw hds R1 R2 R3 hw0
    intro r hr
    cbv
    refine finBool hD ?_
    have hr : r = true := hr
    show (wn == 0 && (e == 0 || we == e) && r) = true
    rw [hr, hn0]
    rcases hee with h | h
    · rw [h]; simp
    · rw [h]; simp
  have h : (e != 0 || we != 0) = false := h
  simp only [Bool.or_eq_false_iff, bne_eq_false_iff_eq] at h
  obtain ⟨hw1, hw2, hw3⟩ := hds h.1 h.2
  clear h hds hlaw
  obtain ⟨R, hR⟩ : ∃ R, R = l.map lawW := ⟨_, rfl⟩
  rw [← hR] at hw1
  have X : OrX l w R := ⟨hR, hw2, hil, hgood⟩
  clear hR hw2 hil hgood hw3 htw
  refine br hD (fun h => ?_) (fun h => ?_) <;> cbv
  · have h : (wn != n) = true := h
    have h2 : wn ≠ n := by simpa using h
    exact absurd (by rw [R2.n, R1.n, X.hl]) h2
  clear h
  obtain ⟨J, hJ⟩ : ∃ J, J = orJ1 w R nb wnb n wn g wf := ⟨_, rfl⟩
  refine ⟨[3, 5, 7, 8], J, ⟨rfl, 1001, ?_⟩, ?_⟩
  · rw [hJ]
    subst hD
    exact ⟨1001, 0, _, _, rfl, rfl, ⟨rfl, Nat.le_refl _, rfl, Nat.zero_le _, rfl, hw1⟩⟩
  clear hw1
  intro m vs hp' hv
  rw [hJ] at hv
  unfold orJ1 at hv
  obtain ⟨qn, c, A, Q, rfl, rfl, V⟩ := hv
  cbv
  refine br hD (fun h => ?_) (fun h => ?_) <;> cbv
  · have h : decide (0 ≤ Q) = true := h
    obtain ⟨q, rfl⟩ : ∃ q, qn = q + 1 := ⟨qn - 1, by have := of_decide_eq_true h; have := V.hQ; omega⟩
    clear h
    have hQ : Qn Q q := ⟨by have := V.hQ; omega, by have := V.hq; omega⟩
    obtain ⟨J2, hJ2⟩ : ∃ J, J = orJ2 l w R q nb wnb n wn Q g wf := ⟨_, rfl⟩
    refine ⟨[3, 5, 7, 8, 9], J2, ⟨rfl, l.length, ?_⟩, ?_⟩
    · rw [hJ2]
      subst hD
      exact ⟨0, c, _, _, rfl, rfl, ⟨AtR.zero R1.len, V.hA, V.hc, V.dr⟩⟩
    have hm : q < m := by have := V.ms; omega
    clear V
    intro m2 vs2 hp2 hv2
    rw [hJ2] at hv2
    unfold orJ2 at hv2
    obtain ⟨i, c, I, A, rfl, rfl, V⟩ := hv2
    cbv
    refine br hD (fun h => ?_) (fun h => ?_) <;> cbv
    · have hlt := V.at_.lt R1.n (of_decide_eq_true (p := I < n) h)
      clear h
      have hin := V.at_.inB hD R1.n hlt
      have e1 := R1.f i
      obtain ⟨x, hx⟩ : ∃ x, x = l.getD i ([], []) := ⟨_, rfl⟩
      have hmem : x ∈ l := by rw [hx]; exact getD_memI hlt
      have hxp := X.par x hmem
      rw [← hx] at e1
      have hRi : R.drop i = lawW x :: R.drop (i + 1) := by
        rw [X.hR, ← List.map_drop, ← List.map_drop, dropR (d := ([], [])) hlt, ← hx]; rfl
      obtain ⟨xv, xp⟩ := x
      have RP : RowP (parRow xp) (xp.length : Int) xp := ⟨rfl, fun _ _ => rfl, by have := hxp.1; simp only at this; omega⟩
      have hps : ∀ p ∈ xp, p.2.length ≤ 100000 := fun p hp => Nat.le_trans (hxp.2 p hp) (by decide)
      rw [itemSV] at e1
      obtain ⟨pn, hpn⟩ : ∃ pn : Int, pn = (xp.length : Int) := ⟨_, rfl⟩
      obtain ⟨pnl, hpnl⟩ : ∃ pnl : Bool, pnl = xp.isEmpty := ⟨_, rfl⟩
      obtain ⟨pf, hpf⟩ : ∃ pf, pf = parRow xp := ⟨_, rfl⟩
      simp only at e1
      rw [← hpn, ← hpnl, ← hpf] at e1
      rw [← hpn, ← hpf] at RP
      obtain ⟨lq, hlq⟩ : ∃ lq, lq = lawQ xp := ⟨_, rfl⟩
      have hlw : lawW (xv, xp) = (xv, lq) := by rw [hlq]; rfl
      rw [hlw] at hRi
      clear hpn hpnl hpf hmem hxp hx hlw
      refine ⟨hin, fun j hj => ?_⟩
      obtain rfl := V.at_.j hD hj
      cbv
      rw [e1]
      cbv
      refine ⟨xv, xp, _, _, _, rfl, rfl, by subst hD; exact RP, hps, fun r hr => ?_⟩
      obtain rfl : r = lq := hr.trans hlq.symm
      clear hr hlq
      cbv
      refine br hD (fun h => ?_) (fun h => ?_) <;> cbv
      · have h : (r != Q) = true := h
        have hne : r ≠ Q := by simpa using h
        have hdr := V.dr
        rw [hRi, List.filter_cons_of_neg (by have := hQ.h; simp only [beq_iff_eq]; omega)] at hdr
        have W : OrB l w R q (j + 1) c (dn.i (.bin .add .i64 (.a I) (.l 1))) A (l.length - (j + 1)) := ⟨(V.at_.step rfl hlt).2, V.hA, V.hc, hdr⟩
        have hst := (V.at_.step hD hlt).1
        clear h hdr V
        refine ⟨l.length - (j + 1), hst, ?_⟩
        rw [hJ2]
        subst hD
        exact ⟨j + 1, c, _, _, rfl, rfl, W⟩
      · have h : (r != Q) = false := h
        have heq : r = Q := by simpa using h
        clear h
        have hdr := V.dr
        rw [hRi, List.filter_cons_of_pos (by have := hQ.h; simp only [beq_iff_eq]; omega), List.cons_append] at hdr
        obtain ⟨d1, d2, d3⟩ := drop_atW hdr
        have hcin : Sx.InB (D.i (.a A)) (D.i (.a wn)) := by have := V.hA; have := R2.n; subst hD; exact ⟨by show 0 ≤ A; omega, by show A < wn; omega⟩
        have ejc : ∀ j2, IsJ j2 (D.i (.a A)) → j2 = c := fun j2 h2 => by
          have := V.hA
          subst hD
          have h2 : (j2 : Int) = A := h2.h
          omega
        have ew : wf c = [.str xv, .int .i64 (.a r)] := by rw [R3 c, d2]; rfl
        have hAw : (A == wn) = false := by have := V.hA; have := R2.n; simp only [beq_eq_false_iff_ne]; omega
        have W : OrB l w R q (j + 1) (c + 1) (dn.i (.bin .add .i64 (.a I) (.l 1))) (dn.i (.bin .add .i64 (.a A) (.l 1))) (l.length - (j + 1)) := by
          refine ⟨(V.at_.step rfl hlt).2, ?_, d1, d3⟩
          have := V.hA; have := X.h50; have := X.hl
          show IntKind.i64.wrap (A + 1) = _
          rw [wrap64 (by omega) (by omega)]; omega
        have hst := (V.at_.step hD hlt).1
        have hVj := fun j2 (h2 : IsJ j2 (D.i (.a I))) => V.at_.j hD h2
        clear hdr d1 d2 d3 V
        refine ⟨fun _ => hcin, fun j2 hj2 => ?_⟩
        have f2 : wf j2 = [.str xv, .int .i64 (.a r)] := by rw [ejc j2 (hj2 (by subst hD; show (!(A == wn)) = true; rw [hAw]; rfl))]; exact ew
        clear hj2
        cbv
        rw [f2]
        cbv
        refine ⟨fun _ => hin, fun j3 hj3 => ?_⟩
        have f3 : g j3 = [.str xv, .sl (.a pnl) (.a pn) 2 pf] := by rw [hVj j3 (hj3 (by subst hD; show (!(A == wn)) = true; rw [hAw]; rfl))]; exact e1
        clear hj3
        cbv
        rw [f3]
        cbv
        refine ⟨fun _ => hcin, fun j4 hj4 => ?_⟩
        have f4 : wf j4 = [.str xv, .int .i64 (.a r)] := by rw [ejc j4 (hj4 (by subst hD; show (!((A == wn) || !(xv == xv))) = true; rw [hAw]; simp))]; exact ew
        clear hj4
        cbv
        rw [f4]
        cbv
        refine br hD (fun h => ?_) (fun h => ?_) <;> cbv
        · have h : ((A == wn || !(xv == xv)) || r != Q) = true := h
          rw [hAw, heq] at h
          simp at h
        · refine ⟨l.length - (j + 1), hst, ?_⟩
          rw [hJ2]
          subst hD
          exact ⟨j + 1, c + 1, _, _, rfl, rfl, W⟩
    · have hi := V.at_.eq R1.n (of_decide_eq_false (p := I < n) h)
      clear h
      have hdr := V.dr
      rw [X.hR, ← List.map_drop, hi, List.drop_length] at hdr
      have W : OrA w R q c A (dn.i (.bin .sub .i64 (.a Q) (.l 1))) q := by
        have h1 := hQ.h; have h2 := hQ.le
        refine ⟨?_, by omega, V.hA, V.hc, rfl, by rw [hdr, X.hR]; rfl⟩
        show IntKind.i64.wrap (Q - 1) = _
        rw [wrap64 (by omega) (by omega)]; omega
      clear hdr V
      refine ⟨q, hm, ?_⟩
      rw [hJ]
      subst hD
      exact ⟨q, c, _, _, rfl, rfl, W⟩
  · have h : decide (0 ≤ Q) = false := h
    have hq0 : qn = 0 := by have := of_decide_eq_false h; have := V.hQ; omega
    subst hq0
    have hd := V.dr
    have hcl : A = wn := by
      have h1 := V.hA; have h2 := R2.n; have h3 := V.hc
      have h4 := congrArg List.length hd
      simp only [List.length_drop, desc, List.length_nil] at h4
      omega
    clear h hd V R2 R1 R3 X hJ
    intro r hr
    cbv
    refine finBool hD ?_
    have hr : r = true := hr
    show (A == wn && r) = true
    rw [hr, hcl]; simp
end Go.Proofs.YtfchfhjpldppjaaGreatDoor
namespace Go.Proofs.YtfchfhjpldppjaaGreatDoor
open Go Go.Sx Go.ChangeShapes Go.WideShapes Go.RowKit
set_option maxRecDepth 100000
/-! TokensOrder: from the function's contract to the card. -/
theorem tokensOrder_lifted (os : Os) (started : os.Started) (H : Type) (enc : TypeId × Value → H) :
    ReturnsInHanded {} Tryz.checked os 7 .any (fun w args => (Rows.tokensOrderSpec.pre enc Tryz.prog Tryz.f7 [] false w args ∧ laidMetH Tryz.prog laidV w) ∧ sizedMet enc Tryz.prog Tryz.f7 (OpenSpec.ofChange Rows.tokensOrderSpec) false w args)
      (Rows.tokensOrderSpec.post enc Tryz.prog Tryz.f7 false true false false) := by
  refine returnsInHanded_of_change_and (C := Tryz.checked) (X := fun w _ => laidMetH Tryz.prog laidV w) (fun _ _ _ hh h => h.of_heap hh) kOwn started (by kernel_rfl) Tryz.func7
    (ChangeSpec.witness_shaped (enc := enc) (C := Tryz.checked) (os := os) (X := fun w _ => laidMetH Tryz.prog laidV w) false (World.laidAll Tryz.prog os laidV) #[.string ⟨#[]⟩] 8 (World.laidAll_os _ _ _) (World.shaped_of_ZipB (by kernel_rfl) (by kernel_rfl)) (by kernel_rfl) (by kernel_rfl) (by kernel_rfl) (door_met os _)) ?_
  intro W base args ds gs before hval0 hW _ _ hL _
  have hval : ∀ (j : Nat) t v, Tryz.f7.params[j]? = some t → args[j]? = some v → Value.okWide Tryz.prog W .any base t v := hval0
  obtain ⟨p, q, hA, hV, _⟩ := id hW
  have hA' : DataW.TrodAll enc Tryz.prog W 0 (fun _ => true) true Tryz.f7.params.toList args.toList ds p := hA
  rw [Tryz.params7] at hA' hval
  obtain ⟨v0, d0, rfl, rfl, h0⟩ := trodAll_one hA'
  obtain ⟨fuel0, h0⟩ := h0
  obtain ⟨x0, hx0⟩ := open9 H enc W _ _ _ _ _ h0
  have r0 := arg_string Tryz.underlying9 (hval 0 9 v0 rfl rfl) hx0
  obtain ⟨r, ls', hK, hcalls⟩ := tokensOrder_ok.2 [.str x0.1] [] (fun r ls => r = .bool (.a true) ∧ ls = []) ⟨x0.1, rfl, rfl, str_fit x0, fun r hr => ⟨by rw [hr], rfl⟩⟩
  obtain ⟨rfl, rfl⟩ := hK
  have hrun := law_run (W := W) (args := [v0]) hcalls gl_of rfl (ro1 r0)
  refine hrun.mono fun e W' hq => ⟨_, hq.1, law_post kLaidOut (tb := 4) ?_ rfl (by kernel_rfl) Tryz.underlying4 hW ?_ hq.2⟩
  · rw [Tryz.params7]
    intro t ht
    have hall : ([9].all fun t => Tryz.prog.readableRec t && decide (t < Tryz.prog.types.size)) = true := by kernel_rfl
    have := List.all_eq_true.1 hall t (by simpa using ht)
    simpa using this
  · have hg : gs = [] := (trodVars_none hV).1
    subst hg
    rfl
theorem tokensOrder_said : Rows.TokensOrderSaid :=
  OpenClaim.holds_of_wide 7 Tryz.f7 rfl rfl rfl rfl rfl rfl rfl ⟨rfl, rfl, rfl, rfl, rfl⟩ rfl rfl rfl rfl rfl (by kernel_rfl) Tryz.func7 (by kernel_rfl)
    (of_decide_eq_true (by kernel_rfl)) (by unfold Func.isWrapper; first | (rw [if_pos (by decide +kernel)]; kernel_rfl) | (rw [if_neg (by decide +kernel)]; exact ⟨rfl, rfl⟩))
    (fun os started H enc _ => tokensOrder_lifted os started H enc)
theorem tokensOrder_holds : Rows.TokensOrderCardSaid :=
  Claim7.holds_tied_plain_at .later [] [.data, .data, .data, .data, .sentinel, .sentinel, .pinned] true (true, "949d5a32386bb23fb42fe4a0dca874791432354f7fa039f85fcf54673b706a44") true
    tokensOrder_said (fun _ h => by cases h) (by kernel_rfl) (fun _ h => by cases h) tokensOrder_row_tie rfl ⟨rfl, rfl⟩ (by kernel_rfl) rfl
    (fun f fn hf hfn => by
      obtain rfl : f = 7 := Option.some.inj ((show Tryz.prog.funcNamed "spillway/spillwaylaw05.TokensOrder" = some 7 by kernel_rfl).symm.trans hf) |>.symm
      obtain rfl : fn = Tryz.f7 := (Option.some.inj (Tryz.func7.symm.trans hfn)).symm
      exact ⟨by kernel_rfl, fun j t ht => by
        rw [Tryz.params7] at ht
        have hm : t ∈ [9] := by simpa using Array.mem_of_getElem? ht
        have hall : ([9].all fun u => !Tryz.prog.wantsStandIn u) = true := by kernel_rfl
        exact (show Tryz.prog.wantsStandIn t = false by simpa using List.all_eq_true.1 hall t hm)⟩)
    (by kernel_rfl)
end Go.Proofs.YtfchfhjpldppjaaGreatDoor
