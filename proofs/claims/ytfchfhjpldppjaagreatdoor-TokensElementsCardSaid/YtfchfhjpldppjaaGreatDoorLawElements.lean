/- Part of the proofs of the statements about tokens (layer 5): the laws; it has no conditions of its own. -/
import Derived.Test.YtfchfhjpldppjaaGreatDoorTf
namespace Go.Proofs.YtfchfhjpldppjaaGreatDoor
open Go.Sx
set_option maxRecDepth 10000
set_option maxHeartbeats 4000000
/-! Has of the document; the law TokensElements. -/
theorem refElementsF_err {s : List UInt8} (h : (refElementsF s).1 ≠ []) : (refElementsF s).2 = 0 := by
  unfold refElementsF at h ⊢
  split
  · rename_i h2; rw [if_pos h2] at h; exact absurd rfl h
  · rename_i h2
    rw [if_neg h2] at h
    cases hp : partsF 44 s with
    | none => rw [hp] at h; exact absurd rfl h
    | some l => rfl
def rhJ (t : List UInt8) (k : Bool × Int) (l : List (List UInt8)) (e : Int) (nb : Bool) (n : Int) (g : Nat → List SV) (m : Nat) (vs : List (Option SV)) (hp : List Hl) : Prop :=
  ∃ (i : Nat) (I : Int), vs = [some (.str t), some (.sl (.a nb) (.a n) 1 g), some (.int .i64 (.a e)), some (.int .i64 (.a I))] ∧ hp = [] ∧ AtR l i I m ∧ k = ((l.drop i).any (foldEq t), e)
theorem any_at {l : List (List UInt8)} {p : List UInt8 → Bool} {i : Nat} (h : i < l.length) : (l.drop i).any p = (p (l.getD i []) || (l.drop (i + 1)).any p) := by
  rw [dropR (d := []) h, List.any_cons]
theorem refHas_ok : FnOk Tryz.prog gl 23 spHas := by
  refine fnOk (gh := []) mixed cxOk (tabCons refToken_ok (tabCons refElements_ok (tabCons refFold_ok tabNil))) Tryz.func23 (by kernel_rfl) (by kernel_rfl) ?_
  intro xs ls K h
  unfold spHas at h
  obtain ⟨v, t, rfl, rfl, hv, ht, h⟩ := h
  obtain ⟨k, hk⟩ : ∃ k, k = hasF v t := ⟨_, rfl⟩
  obtain ⟨kb, ke⟩ := k
  refine ⟨_, _, h kb ke hk, fun D hD => ?_⟩
  clear h
  rw [hasF] at hk
  cbv
  refine ⟨_, rfl, rfl, ht, fun q hq => ?_⟩
  have hq2 : q = refTokenF t := by subst hD; exact hq
  clear hq
  rw [← hq2] at hk
  cbv
  refine br hD (fun h => ?_) (fun h => ?_) <;> cbv
  · have h : (!q) = true := h
    rw [if_pos h] at hk
    exact finHas hD hk
  have h : (!q) = false := h
  rw [if_neg (by rw [h]; simp)] at hk
  clear h hq2
  have hel := refElementsF_len v
  have her := refElementsF_err (s := v)
  refine ⟨v, rfl, rfl, hv, fun l e n nb he hn hnb => ?_⟩
  rw [← he] at hk hel her
  simp only at hk hel her
  have RL : RowS (strRow l) n l := by rw [hn]; exact RowS.row (by omega)
  obtain ⟨g, hg⟩ : ∃ g, g = strRow l := ⟨_, rfl⟩
  rw [← hg] at RL ⊢
  clear hg hn hnb
  cbv
  obtain ⟨J, hJ⟩ : ∃ J, J = rhJ t (kb, ke) l e nb n g := ⟨_, rfl⟩
  refine ⟨[1, 6, 7, 8], J, ⟨rfl, l.length, ?_⟩, ?_⟩
  · rw [hJ]
    subst hD
    exact ⟨0, 0, rfl, rfl, AtR.zero (by omega), hk⟩
  clear hk
  intro m vs hp' hv'
  rw [hJ] at hv'
  unfold rhJ at hv'
  obtain ⟨i, I, rfl, rfl, V, hk⟩ := hv'
  cbv
  refine br hD (fun h => ?_) (fun h => ?_) <;> cbv
  · have hlt := V.lt RL.n (of_decide_eq_true (p := I < n) h)
    clear h
    refine ⟨V.inB hD RL.n hlt, fun j hj => ?_⟩
    obtain rfl := V.j hD hj
    clear hj
    have e1 := RL.f j hlt
    have he0 : e = 0 := her (fun h => by rw [h] at hlt; simp at hlt)
    rw [any_at hlt] at hk
    have hxl := hel.2 (l.getD j []) (by rw [List.getD_eq_getElem?_getD, List.getElem?_eq_getElem hlt]; exact List.getElem_mem hlt)
    obtain ⟨x, hx⟩ : ∃ x, x = l.getD j [] := ⟨_, rfl⟩
    rw [← hx] at e1 hxl hk
    cbv
    rw [e1]
    cbv
    refine ⟨x, rfl, rfl, by omega, fun a ha => ?_⟩
    cbv
    refine ⟨t, rfl, rfl, ht, fun b hb => ?_⟩
    have hfe : foldEq t x = (a == b) := by rw [foldEq, ha, hb]
    rw [hfe] at hk
    cbv
    refine br hD (fun h => ?_) (fun h => ?_) <;> cbv
    · have h : (a == b) = true := h
      rw [h] at hk
      exact finHas (x := .l true) (y := .l 0) hD (by rw [hk, he0]; rfl)
    · have h : (a == b) = false := h
      rw [h, Bool.false_or] at hk
      refine ⟨l.length - (j + 1), (V.step hD hlt).1, ?_⟩
      rw [hJ]
      subst hD
      exact ⟨j + 1, _, rfl, rfl, (V.step rfl hlt).2, hk⟩
  · have hi := V.eq RL.n (of_decide_eq_false (p := I < n) h)
    rw [hi, List.drop_length] at hk
    exact finHas (x := .l false) (y := .a e) hD hk
def spLawS2 : FSpec := fun _ xs ls K => ∃ (s t : List UInt8), xs = [.str s, .str t] ∧ ls = [] ∧ s.length ≤ 9223372036854775807 ∧ t.length ≤ 9223372036854775807 ∧ ∀ r : Bool, r = true → K (.bool (.a r)) []
theorem tokensElements_ok : FnOk Tryz.prog gl 4 spLawS2 := by
  refine fnOk (gh := []) mixed cxOk (tabCons elements_ok (tabCons refElements_ok (tabCons has_ok (tabCons refHas_ok (tabCons strings_ok (tabCons awake_ok tabNil)))))) Tryz.func4 (by kernel_rfl) (by kernel_rfl) ?_
  intro xs ls K h
  unfold spLawS2 at h
  obtain ⟨s, t, rfl, rfl, hl, ht, h⟩ := h
  refine ⟨_, _, h true rfl, fun D hD => ?_⟩
  clear h
  cbv
  refine br hD (fun h => ?_) (fun h => ?_) <;> cbv
  · intro r hr
    cbv
    exact finBool hD hr
  clear h
  have hel := refElementsF_len s
  refine ⟨s, rfl, rfl, hl, fun l e n nb he hn hnb => ?_⟩
  rw [← he] at hel
  simp only at hel
  have R1 : RowS (strRow l) n l := by rw [hn]; exact RowS.row (by omega)
  obtain ⟨g, hg⟩ : ∃ g, g = strRow l := ⟨_, rfl⟩
  rw [← hg] at R1 ⊢
  clear hg hn hnb
  cbv
  refine ⟨s, rfl, rfl, hl, fun l2 e2 n2 nb2 he2 hn2 hnb2 => ?_⟩
  obtain ⟨rfl, rfl⟩ : l2 = l ∧ e2 = e := by have := he2.trans he.symm; cases this; exact ⟨rfl, rfl⟩
  have R2 : RowS (strRow l2) n2 l2 := by rw [hn2]; exact RowS.row (by omega)
  obtain ⟨g2, hg2⟩ : ∃ g, g = strRow l2 := ⟨_, rfl⟩
  rw [← hg2] at R2 ⊢
  clear hg2 hn2 hnb2 he he2
  cbv
  refine ⟨s, t, rfl, rfl, hl, ht, fun b f hb => ?_⟩
  cbv
  refine ⟨s, t, rfl, rfl, hl, ht, fun c f2 hc => ?_⟩
  obtain ⟨rfl, rfl⟩ : c = b ∧ f2 = f := by have := hc.trans hb.symm; cases this; exact ⟨rfl, rfl⟩
  clear hb hc
  cbv
  refine ⟨l2, l2, _, _, _, _, _, _, rfl, rfl, by subst hD; exact R1, by subst hD; exact R2, fun r hr => ?_⟩
  have hr2 : r = true := by rw [hr]; simp
  clear hr
  cbv
  intro w hw
  cbv
  refine finBool hD ?_
  subst hr2
  have hw : w = true := hw
  simp only [BT.den, ST.den, cmpDen]
  simp [hw]
end Go.Proofs.YtfchfhjpldppjaaGreatDoor
namespace Go.Proofs.YtfchfhjpldppjaaGreatDoor
open Go Go.Sx Go.ChangeShapes Go.WideShapes Go.RowKit
set_option maxRecDepth 100000
/-! TokensElements: from the function's contract to the card. -/
theorem tokensElements_lifted (os : Os) (started : os.Started) (H : Type) (enc : TypeId × Value → H) :
    ReturnsInHanded {} Tryz.checked os 4 .any (fun w args => (Rows.tokensElementsSpec.pre enc Tryz.prog Tryz.f4 [] false w args ∧ laidMetH Tryz.prog laidV w) ∧ sizedMet enc Tryz.prog Tryz.f4 (OpenSpec.ofChange Rows.tokensElementsSpec) false w args)
      (Rows.tokensElementsSpec.post enc Tryz.prog Tryz.f4 false true false false) := by
  refine returnsInHanded_of_change_and (C := Tryz.checked) (X := fun w _ => laidMetH Tryz.prog laidV w) (fun _ _ _ hh h => h.of_heap hh) kOwn started (by kernel_rfl) Tryz.func4
    (ChangeSpec.witness_shaped (enc := enc) (C := Tryz.checked) (os := os) (X := fun w _ => laidMetH Tryz.prog laidV w) false (World.laidAll Tryz.prog os laidV) #[.string ⟨#[]⟩, .string ⟨#[]⟩] 8 (World.laidAll_os _ _ _) (World.shaped_of_ZipB (by kernel_rfl) (by kernel_rfl)) (by kernel_rfl) (by kernel_rfl) (by kernel_rfl) (door_met os _)) ?_
  intro W base args ds gs before hval0 hW _ _ hL _
  have hval : ∀ (j : Nat) t v, Tryz.f4.params[j]? = some t → args[j]? = some v → Value.okWide Tryz.prog W .any base t v := hval0
  obtain ⟨p, q, hA, hV, _⟩ := id hW
  have hA' : DataW.TrodAll enc Tryz.prog W 0 (fun _ => true) true Tryz.f4.params.toList args.toList ds p := hA
  rw [Tryz.params4] at hA' hval
  obtain ⟨v0, v1, d0, d1, p0, p1, rfl, rfl, _, h0, h1⟩ := trodAll_two hA'
  obtain ⟨fuel0, h0⟩ := h0
  obtain ⟨x0, hx0⟩ := open9 H enc W _ _ _ _ _ h0
  have r0 := arg_string Tryz.underlying9 (hval 0 9 v0 rfl rfl) hx0
  obtain ⟨fuel1, h1⟩ := h1
  obtain ⟨x1, hx1⟩ := open9 H enc W _ _ _ _ _ h1
  have r1 := arg_string Tryz.underlying9 (hval 1 9 v1 rfl rfl) hx1
  obtain ⟨r, ls', hK, hcalls⟩ := tokensElements_ok.2 [.str x0.1, .str x1.1] [] (fun r ls => r = .bool (.a true) ∧ ls = []) ⟨x0.1, x1.1, rfl, rfl, str_fit x0, str_fit x1, fun r hr => ⟨by rw [hr], rfl⟩⟩
  obtain ⟨rfl, rfl⟩ := hK
  have hrun := law_run (W := W) (args := [v0, v1]) hcalls gl_of rfl (ro2 r0 r1)
  refine hrun.mono fun e W' hq => ⟨_, hq.1, law_post kLaidOut (tb := 4) ?_ rfl (by kernel_rfl) Tryz.underlying4 hW ?_ hq.2⟩
  · rw [Tryz.params4]
    intro t ht
    have hall : ([9, 9].all fun t => Tryz.prog.readableRec t && decide (t < Tryz.prog.types.size)) = true := by kernel_rfl
    have := List.all_eq_true.1 hall t (by simpa using ht)
    simpa using this
  · have hg : gs = [] := (trodVars_none hV).1
    subst hg
    rfl
theorem tokensElements_said : Rows.TokensElementsSaid :=
  OpenClaim.holds_of_wide 4 Tryz.f4 rfl rfl rfl rfl rfl rfl rfl ⟨rfl, rfl, rfl, rfl, rfl⟩ rfl rfl rfl rfl rfl (by kernel_rfl) Tryz.func4 (by kernel_rfl)
    (of_decide_eq_true (by kernel_rfl)) (by unfold Func.isWrapper; first | (rw [if_pos (by decide +kernel)]; kernel_rfl) | (rw [if_neg (by decide +kernel)]; exact ⟨rfl, rfl⟩))
    (fun os started H enc _ => tokensElements_lifted os started H enc)
theorem tokensElements_holds : Rows.TokensElementsCardSaid :=
  Claim7.holds_tied_plain_at .later [] [.data, .data, .data, .data, .sentinel, .sentinel, .pinned] true (true, "949d5a32386bb23fb42fe4a0dca874791432354f7fa039f85fcf54673b706a44") true
    tokensElements_said (fun _ h => by cases h) (by kernel_rfl) (fun _ h => by cases h) tokensElements_row_tie rfl ⟨rfl, rfl⟩ (by kernel_rfl) rfl
    (fun f fn hf hfn => by
      obtain rfl : f = 4 := Option.some.inj ((show Tryz.prog.funcNamed "spillway/spillwaylaw05.TokensElements" = some 4 by kernel_rfl).symm.trans hf) |>.symm
      obtain rfl : fn = Tryz.f4 := (Option.some.inj (Tryz.func4.symm.trans hfn)).symm
      exact ⟨by kernel_rfl, fun j t ht => by
        rw [Tryz.params4] at ht
        have hm : t ∈ [9, 9] := by simpa using Array.mem_of_getElem? ht
        have hall : ([9, 9].all fun u => !Tryz.prog.wantsStandIn u) = true := by kernel_rfl
        exact (show Tryz.prog.wantsStandIn t = false by simpa using List.all_eq_true.1 hall t hm)⟩)
    (by kernel_rfl)
end Go.Proofs.YtfchfhjpldppjaaGreatDoor
