/- Part of the proofs of the statements about tokens (layer 5): the laws; it has no conditions of its own. -/
import Derived.Test.YtfchfhjpldppjaaGreatDoorTb
import Derived.Test.YtfchfhjpldppjaaGreatDoorTf
namespace Go.Proofs.YtfchfhjpldppjaaGreatDoor
open Go.Sx
set_option maxRecDepth 100000
set_option maxHeartbeats 2000000
/-! Quote and Unquote. -/
theorem escF_c (c : UInt8) (r : List UInt8) : escF (c :: r) = escB c ++ escF r := rfl
theorem plains_c {c : UInt8} {r : List UInt8} (h : plainsF (c :: r) = true) : plainI (c.toNat : Int) = true ∧ plainsF r = true := by
  unfold plainsF at h
  rw [List.all_cons, Bool.and_eq_true] at h
  exact h
theorem qd_esc : ∀ (s : List UInt8), plainsF s = true → qdF plainI (escF s ++ [34]) = some ((escF s).length + 1, s)
  | [], _ => by
    show qdF plainI [34] = _
    rw [qdF_cons]; rfl
  | c :: r, h => by
    obtain ⟨h1, h2⟩ := plains_c h
    have ih := qd_esc r h2
    rw [escF_c, List.append_assoc]
    by_cases he : (c.toNat : Int) = 34 ∨ (c.toNat : Int) = 92
    · have e : escB c = [92, c] := if_pos he
      rw [e]
      show qdF plainI (92 :: (c :: (escF r ++ [34]))) = _
      rw [qdF_cons]
      have p92 : plainI (((92 : UInt8).toNat : Nat) : Int) = true := by decide
      rw [p92]
      have n34 : ¬ (((92 : UInt8).toNat : Nat) : Int) = 34 := by decide
      have y92 : (((92 : UInt8).toNat : Nat) : Int) = 92 := by decide
      simp only [Bool.not_true, Bool.false_eq_true, if_false, if_neg n34, if_pos y92, h1]
      rw [ih]
      simp
    · have e : escB c = [c] := if_neg he
      rw [e]
      show qdF plainI (c :: (escF r ++ [34])) = _
      rw [qdF_cons, h1]
      have n34 : ¬ (c.toNat : Int) = 34 := fun h => he (.inl h)
      have n92 : ¬ (c.toNat : Int) = 92 := fun h => he (.inr h)
      simp only [Bool.not_true, Bool.false_eq_true, if_false, if_neg n34, if_neg n92]
      rw [ih]
      simp
theorem qd_back : ∀ (n : Nat) (r : List UInt8) (x : Nat × List UInt8), r.length ≤ n → qdF plainI r = some x → plainsF x.2 = true ∧ (escF x.2).length + 1 ≤ x.1 ∧ x.2.length + 1 ≤ x.1
  | n, [], x, _, h => by simp [qdF] at h
  | 0, c :: r, x, hl, h => by simp at hl
  | n + 1, c :: r, x, hl, h => by
    simp only [List.length_cons] at hl
    rw [qdF_cons] at h
    split at h
    · cases h
    rename_i hp
    have hp : plainI (c.toNat : Int) = true := by simpa using hp
    split at h
    · cases h; exact ⟨rfl, by simp [escF], by simp⟩
    rename_i h34
    split at h
    · cases r with
      | nil => cases h
      | cons d r' =>
        simp only at h
        split at h
        · cases h
        · rename_i hd
          obtain ⟨z, hz, rfl⟩ := Option.map_eq_some_iff.1 h
          obtain ⟨q1, q2, q3⟩ := qd_back n r' z (by simp at hl; omega) hz
          refine ⟨?_, ?_, by simp; omega⟩
          · unfold plainsF at q1 ⊢
            rw [List.all_cons, q1, Bool.and_true]; simpa using hd
          · rw [escF_c, List.length_append]
            have : (escB d).length ≤ 2 := by unfold escB; split <;> simp
            simp only; omega
    · rename_i h92
      obtain ⟨z, hz, rfl⟩ := Option.map_eq_some_iff.1 h
      obtain ⟨q1, q2, q3⟩ := qd_back n r z (by omega) hz
      refine ⟨?_, ?_, by simp; omega⟩
      · unfold plainsF at q1 ⊢
        rw [List.all_cons, q1, Bool.and_true]; exact hp
      · rw [escF_c, List.length_append]
        have : escB c = [c] := if_neg (fun h => h.elim h34 h92)
        rw [this]
        simp; omega
theorem letter_plain (c : UInt8) (h : letterI (c.toNat : Int) = true) : plainI (c.toNat : Int) = true := by
  have : ∀ n : Fin 256, letterI (n.1 : Int) = true → plainI (n.1 : Int) = true := by decide
  exact this ⟨c.toNat, c.toNat_lt⟩ h
theorem token_plain {s : List UInt8} (h : refTokenF s = true) : plainsF s = true ∧ s.length ≤ 64 ∧ 1 ≤ s.length := by
  unfold refTokenF allI at h
  simp only [Bool.and_eq_true, Bool.not_eq_true', Bool.or_eq_false_iff, decide_eq_false_iff_not, List.all_eq_true] at h
  refine ⟨?_, by omega, by omega⟩
  unfold plainsF
  rw [List.all_eq_true]
  intro c hc
  exact letter_plain c (h.2 c hc)
theorem token_not34 {r : List UInt8} : refTokenF (34 :: r) = false := by
  unfold refTokenF allI
  rw [List.all_cons]
  have : letterI (((34 : UInt8).toNat : Nat) : Int) = false := by decide
  rw [this, Bool.false_and, Bool.and_false]
/-- Unquote of Quote is the text. -/
theorem unq_quote {s a : List UInt8} (h : refQuoteF s = (a, 0)) : refUnquoteF a = (s, 0) := by
  unfold refQuoteF at h
  split at h
  · cases h
  rename_i h5
  split at h
  · cases h
  rename_i hp
  have hp : plainsF s = true := by simpa using hp
  split at h
  · rename_i ht
    cases h
    rw [refUnquoteF, if_pos ht]
  · rename_i ht
    simp only [Prod.mk.injEq, and_true] at h
    subst h
    show refUnquoteF (34 :: (escF s ++ [34])) = _
    have hq : refQuotedF (34 :: (escF s ++ [34])) 0 = ((((34 :: (escF s ++ [34])).length : Nat) : Int), s, true) := by
      rw [refQuotedF, qRes]
      show (match qdF plainI (escF s ++ [34]) with | none => _ | some x => _) = _
      rw [qd_esc s hp]
      simp
      omega
    rw [refUnquoteF, token_not34, if_neg (by simp), if_neg (by simp [charI]), hq]
    rw [if_neg (by simp), if_neg (by omega)]
/-- Quote of what Unquote has read fits, and is not longer. -/
theorem quote_unq {s c : List UInt8} (h : refUnquoteF s = (c, 0)) : (refQuoteF c).2 = 0 ∧ (refQuoteF c).1.length ≤ s.length := by
  unfold refUnquoteF at h
  split at h
  · rename_i ht
    cases h
    obtain ⟨h1, h2, h3⟩ := token_plain ht
    rw [refQuoteF, if_neg (by omega), h1, if_neg (by simp), if_pos ht]
    exact ⟨rfl, Nat.le_refl _⟩
  split at h
  · cases h
  rename_i h0
  split at h
  · cases h
  rename_i hq
  split at h
  · cases h
  rename_i h5
  simp only [Prod.mk.injEq, and_true] at h
  have h0' : 0 < s.length := by omega
  rw [refQuotedF, qRes] at hq h5 h
  cases hx : qdF plainI (s.drop (0 + 1)) with
  | none => rw [hx] at hq; simp at hq
  | some x =>
    rw [hx] at hq h5 h
    simp only [List.nil_append] at hq h5 h
    have hlen : (0 + 1 + x.1 : Nat) = s.length := by
      by_cases e : ((0 + 1 + x.1 : Nat) : Int) = (s.length : Int)
      · omega
      · exact absurd (.inr e) hq
    obtain ⟨q1, q2, q3⟩ := qd_back _ _ x (Nat.le_refl _) hx
    subst h
    rw [refQuoteF, if_neg (by omega), q1, if_neg (by simp)]
    split
    · exact ⟨rfl, by show x.2.length ≤ _; omega⟩
    · refine ⟨rfl, ?_⟩
      show ([34] ++ escF x.2 ++ [34]).length ≤ _
      simp; omega
end Go.Proofs.YtfchfhjpldppjaaGreatDoor
namespace Go.Proofs.YtfchfhjpldppjaaGreatDoor
open Go.Sx
set_option maxRecDepth 10000
set_option maxHeartbeats 4000000
/-! The law TokensBytes. -/
def spLawB : FSpec := fun _ xs ls K => ∃ (s : List UInt8), xs = [.str s] ∧ ls = [] ∧ s.length ≤ 9223372036854775807 ∧ ∀ r : Bool, r = true → K (.bool (.a r)) []
theorem quote_len {s a : List UInt8} {e : Int} (h : (a, e) = refQuoteF s) (hl : s.length ≤ 1100) : a.length ≤ 100000 := by
  unfold refQuoteF at h
  split at h
  · cases h; simp
  · split at h
    · cases h; simp
    · split at h
      · cases h; omega
      · cases h
        have : ∀ l : List UInt8, (escF l).length ≤ 2 * l.length := by
          intro l
          induction l with
          | nil => simp [escF]
          | cons c r ih =>
            rw [escF_c, List.length_append]
            have : (escB c).length ≤ 2 := by unfold escB; split <;> simp
            simp; omega
        have := this s
        simp; omega
theorem unq_len2 {s a : List UInt8} {e : Int} (h : (a, e) = refUnquoteF s) : a.length ≤ 500 := by
  have := unq_len s
  rw [← h] at this
  exact this
theorem tokensBytes_ok : FnOk Tryz.prog gl 3 spLawB := by
  refine fnOk (gh := []) mixed cxOk (tabCons quote_ok (tabCons refQuote_ok (tabCons unquote_ok (tabCons refUnquote_ok (tabCons token_ok (tabCons refToken_ok (tabCons fold_ok (tabCons refFold_ok (tabCons awake_ok tabNil))))))))) Tryz.func3 (by kernel_rfl) (by kernel_rfl) ?_
  intro xs ls K h
  unfold spLawB at h
  obtain ⟨s, rfl, rfl, hl, h⟩ := h
  refine ⟨_, _, h true rfl, fun D hD => ?_⟩
  clear h
  cbv
  refine br hD (fun h => ?_) (fun h => ?_) <;> cbv
  · intro r hr
    cbv
    exact finBool hD hr
  have hs : s.length ≤ 1100 := by have h := of_decide_eq_false (p := 1100 < (s.length : Int)) h; omega
  clear h
  refine ⟨s, rfl, rfl, hl, fun a e ha => ?_⟩
  have hal := quote_len ha hs
  have hback := fun he : e = 0 => unq_quote (s := s) (a := a) (by rw [← ha, he])
  cbv
  refine ⟨s, rfl, rfl, hl, fun b f hb => ?_⟩
  obtain ⟨rfl, rfl⟩ : b = a ∧ f = e := by have := hb.trans ha.symm; cases this; exact ⟨rfl, rfl⟩
  clear hb
  cbv
  refine ⟨s, rfl, rfl, by omega, fun c g hc => ?_⟩
  have hcl := unq_len2 hc
  have hforth := fun he : g = 0 => quote_unq (s := s) (c := c) (by rw [← hc, he])
  cbv
  refine ⟨s, rfl, rfl, hl, fun d g2 hd => ?_⟩
  obtain ⟨rfl, rfl⟩ : d = c ∧ g2 = g := by have := hd.trans hc.symm; cases this; exact ⟨rfl, rfl⟩
  clear hd
  cbv
  refine ⟨s, rfl, rfl, hl, fun t1 ht1 => ?_⟩
  cbv
  refine ⟨s, rfl, rfl, hl, fun t2 ht2 => ?_⟩
  obtain rfl : t2 = t1 := by rw [ht1, ht2, token_eq]
  clear ht1 ht2
  cbv
  refine ⟨s, rfl, rfl, hl, fun f1 hf1 => ?_⟩
  cbv
  refine ⟨s, rfl, rfl, hl, fun f2 hf2 => ?_⟩
  obtain rfl : f2 = f1 := by rw [hf1, hf2]
  clear hf1 hf2
  cbv
  refine br hD (fun h => ?_) (fun h => ?_) <;> cbv
  · simp [BT.den, ST.den, cmpDen] at h
  clear h
  refine br hD (fun h => ?_) (fun h => ?_) <;> cbv
  · have h : (f == 0) = true := h
    have hb := hback (by simpa using h)
    clear h
    refine ⟨b, rfl, rfl, hal, fun t i ht => ?_⟩
    obtain ⟨rfl, rfl⟩ : t = s ∧ i = 0 := by have := ht.trans hb; cases this; exact ⟨rfl, rfl⟩
    clear ht hb
    cbv
    refine br hD (fun h => ?_) (fun h => ?_) <;> cbv
    · simp [BT.den, ST.den, cmpDen] at h
    clear h
    refine br hD (fun h => ?_) (fun h => ?_) <;> cbv
    · have h : (g2 == 0) = true := h
      obtain ⟨q1, q2⟩ := hforth (by simpa using h)
      refine ⟨d, rfl, rfl, by omega, fun v1 v2 hv => ?_⟩
      rw [← hv] at q1 q2
      simp only at q1 q2
      clear h hv
      cbv
      refine br hD (fun h => ?_) (fun h => ?_) <;> cbv
      · have h : (v2 != 0 || decide ((t.length : Int) < (v1.length : Int))) = true := h
        rw [q1] at h
        have h2 : ¬ ((t.length : Int) < (v1.length : Int)) := by omega
        rw [decide_eq_false h2] at h
        cases h
      · intro r hr
        cbv
        exact finBool hD hr
    · intro r hr
      cbv
      exact finBool hD hr
  · refine br hD (fun h => ?_) (fun h => ?_) <;> cbv
    · have h : (g2 == 0) = true := h
      obtain ⟨q1, q2⟩ := hforth (by simpa using h)
      refine ⟨d, rfl, rfl, by omega, fun v1 v2 hv => ?_⟩
      rw [← hv] at q1 q2
      simp only at q1 q2
      clear h hv
      cbv
      refine br hD (fun h => ?_) (fun h => ?_) <;> cbv
      · have h : (v2 != 0 || decide ((s.length : Int) < (v1.length : Int))) = true := h
        rw [q1] at h
        have h2 : ¬ ((s.length : Int) < (v1.length : Int)) := by omega
        rw [decide_eq_false h2] at h
        cases h
      · intro r hr
        cbv
        exact finBool hD hr
    · intro r hr
      cbv
      exact finBool hD hr
end Go.Proofs.YtfchfhjpldppjaaGreatDoor
namespace Go.Proofs.YtfchfhjpldppjaaGreatDoor
open Go Go.Sx Go.ChangeShapes Go.WideShapes Go.RowKit
set_option maxRecDepth 100000
/-! TokensBytes: from the function's contract to the card. -/
theorem tokensBytes_lifted (os : Os) (started : os.Started) (H : Type) (enc : TypeId × Value → H) :
    ReturnsInHanded {} Tryz.checked os 3 .any (fun w args => (Rows.tokensBytesSpec.pre enc Tryz.prog Tryz.f3 [] false w args ∧ laidMetH Tryz.prog laidV w) ∧ sizedMet enc Tryz.prog Tryz.f3 (OpenSpec.ofChange Rows.tokensBytesSpec) false w args)
      (Rows.tokensBytesSpec.post enc Tryz.prog Tryz.f3 false true false false) := by
  refine returnsInHanded_of_change_and (C := Tryz.checked) (X := fun w _ => laidMetH Tryz.prog laidV w) (fun _ _ _ hh h => h.of_heap hh) kOwn started (by kernel_rfl) Tryz.func3
    (ChangeSpec.witness_shaped (enc := enc) (C := Tryz.checked) (os := os) (X := fun w _ => laidMetH Tryz.prog laidV w) false (World.laidAll Tryz.prog os laidV) #[.string ⟨#[]⟩] 8 (World.laidAll_os _ _ _) (World.shaped_of_ZipB (by kernel_rfl) (by kernel_rfl)) (by kernel_rfl) (by kernel_rfl) (by kernel_rfl) (door_met os _)) ?_
  intro W base args ds gs before hval0 hW _ _ hL _
  have hval : ∀ (j : Nat) t v, Tryz.f3.params[j]? = some t → args[j]? = some v → Value.okWide Tryz.prog W .any base t v := hval0
  obtain ⟨p, q, hA, hV, _⟩ := id hW
  have hA' : DataW.TrodAll enc Tryz.prog W 0 (fun _ => true) true Tryz.f3.params.toList args.toList ds p := hA
  rw [Tryz.params3] at hA' hval
  obtain ⟨v0, d0, rfl, rfl, h0⟩ := trodAll_one hA'
  obtain ⟨fuel0, h0⟩ := h0
  obtain ⟨x0, hx0⟩ := open9 H enc W _ _ _ _ _ h0
  have r0 := arg_string Tryz.underlying9 (hval 0 9 v0 rfl rfl) hx0
  obtain ⟨r, ls', hK, hcalls⟩ := tokensBytes_ok.2 [.str x0.1] [] (fun r ls => r = .bool (.a true) ∧ ls = []) ⟨x0.1, rfl, rfl, str_fit x0, fun r hr => ⟨by rw [hr], rfl⟩⟩
  obtain ⟨rfl, rfl⟩ := hK
  have hrun := law_run (W := W) (args := [v0]) hcalls gl_of rfl (ro1 r0)
  refine hrun.mono fun e W' hq => ⟨_, hq.1, law_post kLaidOut (tb := 4) ?_ rfl (by kernel_rfl) Tryz.underlying4 hW ?_ hq.2⟩
  · rw [Tryz.params3]
    intro t ht
    have hall : ([9].all fun t => Tryz.prog.readableRec t && decide (t < Tryz.prog.types.size)) = true := by kernel_rfl
    have := List.all_eq_true.1 hall t (by simpa using ht)
    simpa using this
  · have hg : gs = [] := (trodVars_none hV).1
    subst hg
    rfl
theorem tokensBytes_said : Rows.TokensBytesSaid :=
  OpenClaim.holds_of_wide 3 Tryz.f3 rfl rfl rfl rfl rfl rfl rfl ⟨rfl, rfl, rfl, rfl, rfl⟩ rfl rfl rfl rfl rfl (by kernel_rfl) Tryz.func3 (by kernel_rfl)
    (of_decide_eq_true (by kernel_rfl)) (by unfold Func.isWrapper; first | (rw [if_pos (by decide +kernel)]; kernel_rfl) | (rw [if_neg (by decide +kernel)]; exact ⟨rfl, rfl⟩))
    (fun os started H enc _ => tokensBytes_lifted os started H enc)
theorem tokensBytes_holds : Rows.TokensBytesCardSaid :=
  Claim7.holds_tied_plain_at .later [] [.data, .data, .data, .data, .sentinel, .sentinel, .pinned] true (true, "949d5a32386bb23fb42fe4a0dca874791432354f7fa039f85fcf54673b706a44") true
    tokensBytes_said (fun _ h => by cases h) (by kernel_rfl) (fun _ h => by cases h) tokensBytes_row_tie rfl ⟨rfl, rfl⟩ (by kernel_rfl) rfl
    (fun f fn hf hfn => by
      obtain rfl : f = 3 := Option.some.inj ((show Tryz.prog.funcNamed "spillway/spillwaylaw05.TokensBytes" = some 3 by kernel_rfl).symm.trans hf) |>.symm
      obtain rfl : fn = Tryz.f3 := (Option.some.inj (Tryz.func3.symm.trans hfn)).symm
      exact ⟨by kernel_rfl, fun j t ht => by
        rw [Tryz.params3] at ht
        have hm : t ∈ [9] := by simpa using Array.mem_of_getElem? ht
        have hall : ([9].all fun u => !Tryz.prog.wantsStandIn u) = true := by kernel_rfl
        exact (show Tryz.prog.wantsStandIn t = false by simpa using List.all_eq_true.1 hall t hm)⟩)
    (by kernel_rfl)
end Go.Proofs.YtfchfhjpldppjaaGreatDoor
