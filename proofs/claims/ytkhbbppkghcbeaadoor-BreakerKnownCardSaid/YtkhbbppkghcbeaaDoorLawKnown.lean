/- Part of the proofs of the statements about the breaker (layer 17): the laws; it has no conditions of its own. -/
import Derived.Test.YtkhbbppkghcbeaaDoorBc
namespace Go.Proofs.YtkhbbppkghcbeaaDoor
open Go Go.Sx Go.ChangeShapes Go.WideShapes Go.RowKit
set_option maxRecDepth 100000
theorem breakerKnown_lifted (os : Os) (started : os.Started) (H : Type) (enc : TypeId × Value → H) :
    ReturnsInHanded {} Tryd.checked os 10 .any (fun w args => (Rows.breakerKnownSpec.pre enc Tryd.prog Tryd.f10 [] false w args ∧ laidMetH Tryd.prog laidV w) ∧ sizedMet enc Tryd.prog Tryd.f10 (OpenSpec.ofChange Rows.breakerKnownSpec) false w args)
      (Rows.breakerKnownSpec.post enc Tryd.prog Tryd.f10 false true false false) := by
  refine returnsInHanded_of_change_and (C := Tryd.checked) (X := fun w _ => laidMetH Tryd.prog laidV w) (fun _ _ _ hh h => h.of_heap hh) kOwn started (by kernel_rfl) Tryd.func10
    (ChangeSpec.witness_shaped (enc := enc) (C := Tryd.checked) (os := os) (X := fun w _ => laidMetH Tryd.prog laidV w) false (World.doorLaid Tryd.prog 400 os) #[] 8 rfl (World.shaped_of_RefB (by kernel_rfl) (by kernel_rfl)) (by kernel_rfl) (by kernel_rfl) (by kernel_rfl) (door_met os _)) ?_
  intro W base args ds gs before hval hW _ _ hL _
  obtain ⟨p, q, hA, hV, _⟩ := id hW
  have hargs := open_args hA
  rw [Tryd.params10] at hargs hval
  have ha : args.toList = [] := List.eq_nil_of_length_eq_zero (by simpa using hargs.1.symm)
  have hd : ds = [] := by
    rw [Tryd.params10, ha] at hA
    cases ds with
    | nil => rfl
    | cons d ds => exact hA.elim
  obtain ⟨r, ls', hK, hcalls⟩ := known_ok.2 [] [] (fun r ls => r = .bool (.a true) ∧ ls = []) ⟨rfl, rfl, rfl, rfl⟩
  obtain ⟨rfl, rfl⟩ := hK
  have hrun := law_run (W := W) (args := []) hcalls (gl_of_laid hL) rfl (by simp)
  have hae : args = #[] := by rw [← Array.toList_inj]; exact ha
  subst hae
  refine hrun.mono fun e W' hq => ⟨_, hq.1, law_post kLaidOut (tb := 4) ?_ rfl (by kernel_rfl) Tryd.underlying4 hW ?_ hq.2⟩
  · rw [Tryd.params10]; simp
  · subst hd
    have hg : gs = [] := (trodVars_none hV).1
    subst hg
    rfl
theorem breakerKnown_said : Rows.BreakerKnownSaid :=
  OpenClaim.holds_of_wide 10 Tryd.f10 rfl rfl rfl rfl rfl rfl rfl ⟨rfl, rfl, rfl, rfl, rfl⟩ rfl rfl rfl rfl rfl (by kernel_rfl) Tryd.func10 (by kernel_rfl)
    (of_decide_eq_true (by kernel_rfl)) (by unfold Func.isWrapper; first | (rw [if_pos (by decide +kernel)]; kernel_rfl) | (rw [if_neg (by decide +kernel)]; exact ⟨rfl, rfl⟩))
    (fun os started H enc _ => breakerKnown_lifted os started H enc)
theorem breakerKnown_holds : Rows.BreakerKnownCardSaid :=
  Claim7.holds_tied_plain_at .later [] [.data] true (true, "86ebbb8016269c3cf4eef124f2c15a3a6f8cbb57a9d5337eb680859893419ff5") false
    breakerKnown_said (fun _ h => by cases h) (by kernel_rfl) (fun _ h => by cases h) breakerKnown_row_tie rfl ⟨rfl, rfl⟩ (by kernel_rfl) rfl
    (fun f fn hf hfn => by
      obtain rfl : f = 10 := Option.some.inj ((show Tryd.prog.funcNamed "spillway/spillwaylaw17.BreakerKnown" = some 10 by kernel_rfl).symm.trans hf) |>.symm
      obtain rfl : fn = Tryd.f10 := (Option.some.inj (Tryd.func10.symm.trans hfn)).symm
      exact ⟨by kernel_rfl, fun j t ht => by
        rw [Tryd.params10] at ht
        simp at ht⟩)
    (by kernel_rfl)
end Go.Proofs.YtkhbbppkghcbeaaDoor
