/- Part of the proofs of the statements about the breaker (layer 17): the laws; it has no conditions of its own. -/
import Derived.Test.YtkhbbppkghcbeaaDoorBh
set_option linter.unusedVariables false
set_option linter.unusedSimpArgs false
namespace Go.Proofs.YtkhbbppkghcbeaaDoor
open Go Go.Sx Go.ChangeShapes Go.WideShapes Go.RowKit
set_option maxRecDepth 100000
theorem breakerProbe_lifted (os : Os) (started : os.Started) (H : Type) (enc : TypeId × Value → H) :
    ReturnsInHanded {} Tryd.checked os 6 .any (fun w args => (Rows.breakerProbeSpec.pre enc Tryd.prog Tryd.f6 [] false w args ∧ laidMetH Tryd.prog laidV w) ∧ sizedMet enc Tryd.prog Tryd.f6 (OpenSpec.ofChange Rows.breakerProbeSpec) false w args)
      (Rows.breakerProbeSpec.post enc Tryd.prog Tryd.f6 false true false false) := by
  refine returnsInHanded_of_change_and (C := Tryd.checked) (X := fun w _ => laidMetH Tryd.prog laidV w) (fun _ _ _ hh h => h.of_heap hh) kOwn started (by kernel_rfl) Tryd.func6
    (ChangeSpec.witness_shaped (enc := enc) (C := Tryd.checked) (os := os) (X := fun w _ => laidMetH Tryd.prog laidV w) false (World.doorLaid Tryd.prog 400 os) #[.agg #[.int .i64 0, .int .i64 0, .int .i64 0, .int .i64 0], .slice none 0 0] 8 rfl (World.shaped_of_RefB (by kernel_rfl) (by kernel_rfl)) (by kernel_rfl) (by kernel_rfl) (by kernel_rfl) (door_met os _)) ?_
  intro W base args ds gs before hval0 hW _ _ hL _
  have hval : ∀ (j : Nat) t v, Tryd.f6.params[j]? = some t → args[j]? = some v → Value.okWide Tryd.prog W .any base t v := hval0
  obtain ⟨p, q, hA, hV, _⟩ := id hW
  have hA' : DataW.TrodAll enc Tryd.prog W 0 (fun _ => true) true Tryd.f6.params.toList args.toList ds p := hA
  rw [Tryd.params6] at hA' hval
  obtain ⟨v0, v1, d0, d1, p0, p1, rfl, rfl, _, h0, h1⟩ := trodAll_two hA'
  obtain ⟨fuel0, h0⟩ := h0
  obtain ⟨x0, hx0⟩ := open23 H enc W _ _ _ _ _ h0
  have r0 := arg_struct Tryd.underlying23 (hval 0 23 v0 rfl rfl) hx0
  obtain ⟨fuel1, h1⟩ := h1
  obtain ⟨x1, hx1⟩ := open42 H enc W _ _ _ _ _ h1
  have r1 := arg_slice Tryd.underlying42 (hval 1 42 v1 rfl rfl) hx1
  obtain ⟨r, ls', hK, hcalls⟩ := probe_ok.2 [.agg [.int .i64 (.a x0.1), .int .i64 (.a x0.2.1), .int .i64 (.a x0.2.2.1), .int .i64 (.a x0.2.2.2.1)], (slC 3 tuC x1.1).headD .nilp] [] (fun r ls => r = .bool (.a true) ∧ ls = []) ⟨_, _, _, _, _, _, _, _, rfl, rfl, rowOfL_ok _ _, rfl, rfl⟩
  obtain ⟨rfl, rfl⟩ := hK
  have hrun := law_run (W := W) (args := [v0, v1]) hcalls (gl_of_laid hL) rfl (ro2 r0 r1)
  refine hrun.mono fun e W' hq => ⟨_, hq.1, law_post kLaidOut (tb := 4) ?_ rfl (by kernel_rfl) Tryd.underlying4 hW ?_ hq.2⟩
  · rw [Tryd.params6]
    intro t ht
    have hall : ([23, 42].all fun t => Tryd.prog.readableRec t && decide (t < Tryd.prog.types.size)) = true := by kernel_rfl
    have := List.all_eq_true.1 hall t (by simpa using ht)
    simpa using this
  · have hg : gs = [] := (trodVars_none hV).1
    subst hg
    rfl
theorem breakerProbe_said : Rows.BreakerProbeSaid :=
  OpenClaim.holds_of_wide 6 Tryd.f6 rfl rfl rfl rfl rfl rfl rfl ⟨rfl, rfl, rfl, rfl, rfl⟩ rfl rfl rfl rfl rfl (by kernel_rfl) Tryd.func6 (by kernel_rfl)
    (of_decide_eq_true (by kernel_rfl)) (by unfold Func.isWrapper; first | (rw [if_pos (by decide +kernel)]; kernel_rfl) | (rw [if_neg (by decide +kernel)]; exact ⟨rfl, rfl⟩))
    (fun os started H enc _ => breakerProbe_lifted os started H enc)
theorem breakerProbe_holds : Rows.BreakerProbeCardSaid :=
  Claim7.holds_tied_plain_at .later [] [.data] true (true, "86ebbb8016269c3cf4eef124f2c15a3a6f8cbb57a9d5337eb680859893419ff5") false
    breakerProbe_said (fun _ h => by cases h) (by kernel_rfl) (fun _ h => by cases h) breakerProbe_row_tie rfl ⟨rfl, rfl⟩ (by kernel_rfl) rfl
    (fun f fn hf hfn => by
      obtain rfl : f = 6 := Option.some.inj ((show Tryd.prog.funcNamed "spillway/spillwaylaw17.BreakerProbe" = some 6 by kernel_rfl).symm.trans hf) |>.symm
      obtain rfl : fn = Tryd.f6 := (Option.some.inj (Tryd.func6.symm.trans hfn)).symm
      exact ⟨by kernel_rfl, fun j t ht => by
        rw [Tryd.params6] at ht
        have hm : t ∈ [23, 42] := by simpa using Array.mem_of_getElem? ht
        have hall : ([23, 42].all fun u => !Tryd.prog.wantsStandIn u) = true := by kernel_rfl
        exact (show Tryd.prog.wantsStandIn t = false by simpa using List.all_eq_true.1 hall t hm)⟩)
    (by kernel_rfl)
end Go.Proofs.YtkhbbppkghcbeaaDoor
