/- Part of the proofs of the statements about the breaker (layer 17): contracts of functions; it has no conditions of its own. -/
import Derived.Test.YtkhbbppkghcbeaaDoorBd
set_option linter.unusedVariables false
set_option linter.unusedSimpArgs false
namespace Go.Proofs.YtkhbbppkghcbeaaDoor
open Go.Sx
set_option maxRecDepth 10000
set_option maxHeartbeats 2000000
theorem fnOk_le {f : Nat} {sp sp' : FSpec} (h : FnOk Tryd.prog gl f sp) (hs : ∀ (xs : List SV) (ls : List Hl) (K : SV → List Hl → Prop), sp' dn xs ls K → sp dn xs ls fun r ls' => ∃ r', LeV r r' ∧ K r' ls') : FnOk Tryd.prog gl f sp' := by
  refine ⟨h.1, fun xs ls K hk => ?_⟩
  obtain ⟨r, ls', ⟨r', hle, hk'⟩, hc⟩ := h.2 xs ls _ (hs xs ls K hk)
  refine ⟨r', ls', hk', fun B E w vals h1 h2 h3 h4 h5 h6 h7 => (hc B E w vals h1 h2 h3 h4 h5 h6 h7).mono fun e w' hq => ?_⟩
  obtain ⟨v, E', e1, e2, e3, e4⟩ := hq
  exact ⟨v, E', e1, e2, e3, hle E' w' v e4⟩
/-- A run that is let begin. -/
def spRun0 : FSpec := fun D xs ls K => spRun D xs ls K ∨ ∃ (s : BS) (n : Int) (f : Nat → List SV) (l : List BE) (nl : Bool) (m : Int) (g : Nat → List SV), xs = [.agg (stC s n f), .sl (.a nl) (.a m) 4 g] ∧ ls = [] ∧ Rows encB s.outs n f ∧ s.outs.length ≤ 1000000 ∧ Rows evC l m g ∧ checkF s = 0 ∧ l.length ≤ 500 ∧
  ∀ (a : List RS) (s' : BS) (an : Int) (af : Nat → List SV) (n' : Int) (f' : Nat → List SV), a = (manyF (ownF s) l).2 → s' = (manyF (ownF s) l).1 → Rows rsC a an af → Rows encB s'.outs n' f' →
    K (.tup [.sl (.a a.isEmpty) (.a an) 4 af, .agg (stC s' n' f'), .int .i64 (.l 0)]) []
theorem run0_ok : FnOk Tryd.prog gl 12 spRun0 := by
  refine fnOk_le run_ok fun xs ls K h => ?_
  rcases h with h | ⟨s, n, f, l, nl, m, g, rfl, rfl, R, hl, RL, hc, h5, h⟩
  · obtain ⟨s, n, f, l, nl, m, g, h1, h2, R, hl, RL, h⟩ := h
    exact ⟨s, n, f, l, nl, m, g, h1, h2, R, hl, RL, fun a s' r an af n' f' ha hs hr RA RS => ⟨_, LeV.refl _, h a s' r an af n' f' ha hs hr RA RS⟩⟩
  · refine ⟨s, n, f, l, nl, m, g, rfl, rfl, R, hl, RL, fun a s' r an af n' f' ha hs hr RA RS => ?_⟩
    have hE : runF s l = ((manyF (ownF s) l).2, (manyF (ownF s) l).1, 0) := by
      rw [runF, if_neg (by simpa using hc), if_neg (by omega)]
    rw [hE] at ha hs hr
    refine ⟨_, .tup (.cons (LeV.refl _) (.cons (LeV.refl _) (.cons (leInt ?_) .nil))), h a s' an af n' f' ha hs RA RS⟩
    exact hr
theorem many_app : ∀ (l m : List BE) (s : BS), manyF s (l ++ m) = ((manyF (manyF s l).1 m).1, (manyF s l).2 ++ (manyF (manyF s l).1 m).2)
  | [], m, s => rfl
  | e :: l, m, s => by simp [manyF, many_app l m]
theorem many_eqv : ∀ (l : List BE) (s t : BS), Eqv s t → (manyF s l).2 = (manyF t l).2 ∧ Eqv (manyF s l).1 (manyF t l).1
  | [], _, _, h => ⟨rfl, h⟩
  | e :: l, s, t, h => by
    obtain ⟨a1, a2⟩ := applyF_eqv h e
    have h1 : (oneF s e).2 = (oneF t e).2 ∧ Eqv (oneF s e).1 (oneF t e).1 := by
      unfold oneF
      rw [← a2]
      by_cases hz : (applyF s e).2.2 ≠ 0
      · rw [if_pos hz, if_pos hz]
        obtain ⟨b, rfl⟩ := h.out
        exact ⟨rfl, h⟩
      · rw [if_neg hz, if_neg hz]
        obtain ⟨b, hb⟩ := a1.out
        exact ⟨by rw [hb], a1⟩
    obtain ⟨k1, k2⟩ := many_eqv l _ _ h1.2
    exact ⟨by simp only [manyF, h1.1, k1], k2⟩
theorem rows_app {α : Type} {enc : α → List SV} {l l2 : List α} {n n' m : Int} {F F' G : Nat → List SV} (R : Rows enc l n F) (R2 : Rows enc l2 m G) (h : MoreRow F' n' n m F G) : Rows enc (l ++ l2) n' F' := by
  have hn := R.n
  have hm := R2.n
  have hl := h.len
  refine ⟨by simp; omega, fun i y hy => ?_⟩
  rw [List.getElem?_append] at hy
  split at hy
  · rename_i hi
    rw [h.lo i (by omega)]
    exact R.f i y hy
  · have hi := (List.getElem?_eq_some_iff.1 hy).1
    rw [h.hi i (i - l.length) (by omega) (by omega)]
    exact R2.f _ y hy
def spLawSplit : FSpec := fun _ xs ls K => ∃ (s : BS) (n : Int) (f : Nat → List SV) (l : List BE) (nl : Bool) (m : Int) (g : Nat → List SV) (l2 : List BE) (nl2 : Bool) (m2 : Int) (g2 : Nat → List SV), xs = [.agg (stC s n f), .sl (.a nl) (.a m) 4 g, .sl (.a nl2) (.a m2) 4 g2] ∧ ls = [] ∧ Rows encB s.outs n f ∧ Rows evC l m g ∧ Rows evC l2 m2 g2 ∧ K (.bool (.a true)) []
theorem split_ok : FnOk Tryd.prog gl 4 spLawSplit := by
  refine fnOk (gh := []) mixed cxOk (tabCons shown_ok (tabCons run0_ok (tabCons steps_ok (tabCons same_ok tabNil)))) Tryd.func4 (by kernel_rfl) (by kernel_rfl) ?_
  intro xs ls K h
  unfold spLawSplit at h
  obtain ⟨⟨w, fl, op, pr, st, si, nw, ep, nl, outs, good, probe⟩, n, f, l, nlb, m, g, l2, nl2b, m2, g2, rfl, rfl, R, RL, RL2, h⟩ := h
  refine ⟨_, _, h, fun D hD => ?_⟩
  clear h
  cbv
  refine br hD (fun h => ?_) (fun h => ?_) <;> cbv
  · exact finBool hD rfl
  have hl : outs.length ≤ 100 ∧ l.length ≤ 100 ∧ l2.length ≤ 100 := by simp at h; have hn := R.n; have hm := RL.n; have hm2 := RL2.n; simp at hn; omega
  have hl2 : outs.length ≤ 1000000 := by omega
  clear h
  by_cases hck : checkF ⟨w, fl, op, pr, st, si, nw, ep, nl, outs, good, probe⟩ = 0
  · refine .inr ⟨⟨_, _, _, _, _, _, _, _, _, outs, _, _⟩, _, _, l, _, _, _, rfl, rfl, by subst hD; exact R, hl2, by subst hD; exact RL, by subst hD; exact hck, by omega, fun a s1 an af n1 f1 ha hs1 RA R1 => ?_⟩
    have ha : a = (manyF (ownF ⟨w, fl, op, pr, st, si, nw, ep, nl, outs, good, probe⟩) l).2 := by subst hD; exact ha
    have hs1 : s1 = (manyF (ownF ⟨w, fl, op, pr, st, si, nw, ep, nl, outs, good, probe⟩) l).1 := by subst hD; exact hs1
    have hg1 : checkF s1 = 0 := by rw [hs1]; exact (good_iff _).2 (many_same l _ _ rfl ((good_iff (ownF ⟨w, fl, op, pr, st, si, nw, ep, nl, outs, good, probe⟩)).1 hck)).2.2
    have hlen1 : s1.outs.length ≤ 200 := by have := (manyF_keeps l (ownF ⟨w, fl, op, pr, st, si, nw, ep, nl, outs, good, probe⟩)).2; rw [hs1]; have : (ownF ⟨w, fl, op, pr, st, si, nw, ep, nl, outs, good, probe⟩).outs.length = outs.length := rfl; omega
    have hla : a.length = l.length := by rw [ha]; exact manyF_len _ _
    have happ := many_app l l2 (ownF ⟨w, fl, op, pr, st, si, nw, ep, nl, outs, good, probe⟩)
    rw [← ha, ← hs1] at happ
    clear ha hs1
    generalize hae : a.isEmpty = ae
    clear hae
    obtain ⟨w1, fl1, op1, pr1, st1, si1, nw1, ep1, nl1, outs1, good1, probe1⟩ := s1
    cbv
    refine .inr ⟨⟨_, _, _, _, _, _, _, _, _, outs1, _, _⟩, _, _, l2, _, _, _, rfl, rfl, by subst hD; exact R1, by show outs1.length ≤ 1000000; have : outs1.length ≤ 200 := hlen1; omega, by subst hD; exact RL2, by subst hD; exact hg1, by omega, fun b s2 bn bf n2 f2 hb hs2 RB R2 => ?_⟩
    have hb : b = (manyF (ownF ⟨w1, fl1, op1, pr1, st1, si1, nw1, ep1, nl1, outs1, good1, probe1⟩) l2).2 := by subst hD; exact hb
    have hs2 : s2 = (manyF (ownF ⟨w1, fl1, op1, pr1, st1, si1, nw1, ep1, nl1, outs1, good1, probe1⟩) l2).1 := by subst hD; exact hs2
    have hlen2 : s2.outs.length ≤ 1000000 := by have := (manyF_keeps l2 (ownF ⟨w1, fl1, op1, pr1, st1, si1, nw1, ep1, nl1, outs1, good1, probe1⟩)).2; rw [hs2]; have h3 : (ownF ⟨w1, fl1, op1, pr1, st1, si1, nw1, ep1, nl1, outs1, good1, probe1⟩).outs.length = outs1.length := rfl; have : outs1.length ≤ 200 := hlen1; omega
    have hlb : b.length = l2.length := by rw [hb]; exact manyF_len _ _
    obtain ⟨q1, q2⟩ := many_eqv l2 _ _ (eqv_own ⟨w1, fl1, op1, pr1, st1, si1, nw1, ep1, nl1, outs1, good1, probe1⟩).symm
    rw [← hb] at q1
    rw [← hs2] at q2
    clear hb hs2
    generalize hbe : b.isEmpty = be
    clear hbe
    cbv
    intro f3 hb3
    cbv
    refine ⟨?_, fun f4 n4 h4 => ?_⟩
    · have hm := RL.n; subst hD; exact ⟨by simp [dn], by simp [dn]; omega, by simp [dn]; omega⟩
    have R4 : Rows evC l n4 f4 := by
      subst hD
      refine ⟨by have hn := RL.n; have := h4.len; simp [dn] at this; omega, fun i x hx => ?_⟩
      have hlt : i < l.length := (List.getElem?_eq_some_iff.1 hx).1
      have hn := RL.n
      rw [h4.hi i i (by simp [dn]) (by show (i : Int) < m; omega)]
      exact RL.f i x hx
    clear hb3 h4
    cbv
    refine ⟨?_, fun f5 n5 h5 => ?_⟩
    · have hm := RL2.n; have hm1 := R4.n; subst hD; exact ⟨by simp [dn], by simp [dn]; omega, by simp [dn]; omega⟩
    have R5 : Rows evC (l ++ l2) n5 f5 := by
      subst hD
      exact rows_app R4 RL2 h5
    clear h5
    cbv
    refine .inr ⟨⟨_, _, _, _, _, _, _, _, _, outs, _, _⟩, _, _, l ++ l2, _, _, _, rfl, rfl, by subst hD; exact R, hl2, by subst hD; exact R5, by subst hD; exact hck, by simp; omega, fun c s3 cn cf n6 f6 hc hs3 RC R6 => ?_⟩
    have hc : c = a ++ b := by subst hD; rw [q1]; exact hc.trans (congrArg Prod.snd happ)
    have hq3 : Eqv s2 s3 := by subst hD; rw [hs3]; refine q2.trans ?_; exact (congrArg (fun x => openF x.1) happ).symm
    clear happ q1 q2
    generalize hce : c.isEmpty = ce
    clear hce
    subst hc
    obtain ⟨w2, fl2, op2, pr2, st2, si2, nw2, ep2, nl2, outs2, good2, probe2⟩ := s2
    obtain ⟨w3, fl3, op3, pr3, st3, si3, nw3, ep3, nl3, outs3, good3, probe3⟩ := s3
    cbv
    intro f7 hb7
    cbv
    refine ⟨?_, fun f8 n8 h8 => ?_⟩
    · have hm := RA.n; subst hD; exact ⟨by simp [dn], by simp [dn]; omega, by simp [dn]; omega⟩
    have R8 : Rows rsC a n8 f8 := by
      subst hD
      refine ⟨by have hn := RA.n; have := h8.len; simp [dn] at this; omega, fun i x hx => ?_⟩
      have hlt : i < a.length := (List.getElem?_eq_some_iff.1 hx).1
      have hn := RA.n
      rw [h8.hi i i (by simp [dn]) (by show (i : Int) < an; omega)]
      exact RA.f i x hx
    clear hb7 h8
    cbv
    refine ⟨?_, fun f9 n9 h9 => ?_⟩
    · have hm := RB.n; have hm1 := R8.n; subst hD; exact ⟨by simp [dn], by simp [dn]; omega, by simp [dn]; omega⟩
    have R9 : Rows rsC (a ++ b) n9 f9 := by
      subst hD
      exact rows_app R8 RB h9
    clear h9
    cbv
    refine ⟨a ++ b, _, _, _, _, _, _, rfl, rfl, by subst hD; exact R9, by subst hD; exact RC, by simp; omega, ?_⟩
    cbv
    refine ⟨⟨_, _, _, _, _, _, _, _, _, outs2, _, _⟩, ⟨_, _, _, _, _, _, _, _, _, outs3, _, _⟩, _, _, _, _, rfl, rfl, by subst hD; exact R2, by subst hD; exact R6, hlen2, by subst hD; exact hq3, ?_⟩
    cbv
    refine finBool hD ?_
    simp [BT.den, cmpDen]
  · refine .inl ⟨⟨_, _, _, _, _, _, _, _, _, outs, _, _⟩, _, _, l, _, _, _, rfl, rfl, by subst hD; exact R, hl2, by subst hD; exact RL, fun a s1 r1 an af n1 f1 ha hs1 hr1 RA R1 => ?_⟩
    have hE : ∀ k : List BE, runF ⟨w, fl, op, pr, st, si, nw, ep, nl, outs, good, probe⟩ k = ([], zeroBS, checkF ⟨w, fl, op, pr, st, si, nw, ep, nl, outs, good, probe⟩) := fun k => by rw [runF, if_pos hck]
    have ha : a = [] := by subst hD; exact ha.trans (congrArg Prod.fst (hE l))
    have hrc : r1 = checkF ⟨w, fl, op, pr, st, si, nw, ep, nl, outs, good, probe⟩ := by subst hD; exact hr1.trans (congrArg (fun x => x.2.2) (hE l))
    have hs1 : s1 = zeroBS := by subst hD; exact hs1.trans (congrArg (fun x => x.2.1) (hE l))
    subst hs1 ha
    have hn0 : an = 0 := RA.n
    subst hn0
    cbv
    refine .inl ⟨⟨_, _, _, _, _, _, _, _, _, [], _, _⟩, _, _, l2, _, _, _, rfl, rfl, by subst hD; exact R1, by simp, by subst hD; exact RL2, fun b s2 r2 bn bf n2 f2 _ _ _ RB R2 => ?_⟩
    obtain ⟨w2, fl2, op2, pr2, st2, si2, nw2, ep2, nl2, outs2, good2, probe2⟩ := s2
    generalize b.isEmpty = be
    cbv
    intro f3 hb3
    cbv
    refine ⟨?_, fun f4 n4 h4 => ?_⟩
    · have hm := RL.n; subst hD; exact ⟨by simp [dn], by simp [dn]; omega, by simp [dn]; omega⟩
    have R4 : Rows evC l n4 f4 := by
      subst hD
      refine ⟨by have hn := RL.n; have := h4.len; simp [dn] at this; omega, fun i x hx => ?_⟩
      have hlt : i < l.length := (List.getElem?_eq_some_iff.1 hx).1
      have hn := RL.n
      rw [h4.hi i i (by simp [dn]) (by show (i : Int) < m; omega)]
      exact RL.f i x hx
    clear hb3 h4
    cbv
    refine ⟨?_, fun f5 n5 h5 => ?_⟩
    · have hm := RL2.n; have hm1 := R4.n; subst hD; exact ⟨by simp [dn], by simp [dn]; omega, by simp [dn]; omega⟩
    have R5 : Rows evC (l ++ l2) n5 f5 := by
      subst hD
      exact rows_app R4 RL2 h5
    clear h5
    cbv
    refine .inl ⟨⟨_, _, _, _, _, _, _, _, _, outs, _, _⟩, _, _, l ++ l2, _, _, _, rfl, rfl, by subst hD; exact R, hl2, by subst hD; exact R5, fun c s3 r3 cn cf n6 f6 hc hs3 hr3 RC R6 => ?_⟩
    have hc : c = [] := by subst hD; exact hc.trans (congrArg Prod.fst (hE (l ++ l2)))
    have hr3 : r3 = r1 := by subst hD; exact (hr3.trans (congrArg (fun x => x.2.2) (hE (l ++ l2)))).trans hrc.symm
    subst hc hr3
    have hn0 : cn = 0 := RC.n
    subst hn0
    have hr0 : r3 ≠ 0 := by rw [hrc]; exact hck
    clear hs3
    obtain ⟨w3, fl3, op3, pr3, st3, si3, nw3, ep3, nl3, outs3, good3, probe3⟩ := s3
    cbv
    refine br hD (fun h => ?_) (fun h => ?_)
    · cbv
      refine finBool hD ?_
      simp [BT.den, cmpDen]
    · exfalso
      simp at h
      exact hr0 h
end Go.Proofs.YtkhbbppkghcbeaaDoor
