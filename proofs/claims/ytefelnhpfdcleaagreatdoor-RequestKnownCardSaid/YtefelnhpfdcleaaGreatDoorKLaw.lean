/- The statement requestKnown_holds of the seat holds: the law returns true for every input and never panics, under the conditions that the given statement itself names. -/
import Derived.Test.YtefelnhpfdcleaaGreatDoorKPe
import Derived.Test.YtefelnhpfdcleaaGreatDoorKPf
namespace Go.Proofs.YtefelnhpfdcleaaGreatDoor
open Go Go.Sx Go.ChangeShapes Go.WideShapes Go.RowKit
set_option maxRecDepth 100000
theorem requestKnown_lifted (os : Os) (started : os.Started) (H : Type) (enc : TypeId × Value → H) :
    ReturnsInHanded {} Tryz.checked os 9 .any (fun w args => (Rows.requestKnownSpec.pre enc Tryz.prog Tryz.f9 [] false w args ∧ laidMetH Tryz.prog laidV w) ∧ sizedMet enc Tryz.prog Tryz.f9 (OpenSpec.ofChange Rows.requestKnownSpec) false w args)
      (Rows.requestKnownSpec.post enc Tryz.prog Tryz.f9 false true false false) := by
  refine returnsInHanded_of_change_and (C := Tryz.checked) (X := fun w _ => laidMetH Tryz.prog laidV w) (fun _ _ _ hh h => h.of_heap hh) kOwn started (by kernel_rfl) Tryz.func9
    (ChangeSpec.witness_shaped (enc := enc) (C := Tryz.checked) (os := os) (X := fun w _ => laidMetH Tryz.prog laidV w) false (World.laidAll Tryz.prog os laidV) #[] 8 (World.laidAll_os _ _ _) (World.shaped_of_ZipB (by kernel_rfl) (by kernel_rfl)) (by kernel_rfl) (by kernel_rfl) (by kernel_rfl) (door_met os _)) ?_
  intro W base args ds gs before hval0 hW _ _ hL _
  have hval : ∀ (j : Nat) t v, Tryz.f9.params[j]? = some t → args[j]? = some v → Value.okWide Tryz.prog W .any base t v := hval0
  obtain ⟨p, q, hA, hV, _⟩ := id hW
  have hargs := open_args hA
  rw [Tryz.params9] at hargs hval
  have ha : args.toList = [] := List.eq_nil_of_length_eq_zero (by simpa using hargs.1.symm)
  have hd : ds = [] := by
    rw [Tryz.params9, ha] at hA
    cases ds with
    | nil => rfl
    | cons d ds => exact hA.elim
  obtain ⟨r, ls', hK, hcalls⟩ := known_ok.2 [] [] (fun r ls => r = .bool (.a true) ∧ ls = []) ⟨rfl, rfl, rfl, rfl⟩
  obtain ⟨rfl, rfl⟩ := hK
  have hrun := law_run (W := W) (args := []) hcalls (gl_of hL) rfl (by simp)
  have hae : args = #[] := by rw [← Array.toList_inj]; exact ha
  subst hae
  refine hrun.mono fun e W' hq => ⟨_, hq.1, law_post kLaidOut (tb := 4) ?_ rfl (by kernel_rfl) Tryz.underlying4 hW ?_ hq.2⟩
  · rw [Tryz.params9]; simp
  · subst hd
    have hg : gs = [] := (trodVars_none hV).1
    subst hg
    rfl
theorem requestKnown_said : Rows.RequestKnownSaid :=
  OpenClaim.holds_of_wide 9 Tryz.f9 rfl rfl rfl rfl rfl rfl rfl ⟨rfl, rfl, rfl, rfl, rfl⟩ rfl rfl rfl rfl rfl (by kernel_rfl) Tryz.func9 (by kernel_rfl)
    (of_decide_eq_true (by kernel_rfl)) (by unfold Func.isWrapper; first | (rw [if_pos (by decide +kernel)]; kernel_rfl) | (rw [if_neg (by decide +kernel)]; exact ⟨rfl, rfl⟩))
    (fun os started H enc _ => requestKnown_lifted os started H enc)
theorem requestKnown_holds : Rows.RequestKnownCardSaid :=
  Claim7.holds_tied_plain_at .later [] [.data, .data, .data, .data, .sentinel, .sentinel, .data, .pinned] true (true, "f0e496859ce80748332f4c74aa563a30ade1ab77a8cdf2e91bda25251613a70a") true
    requestKnown_said (fun _ h => by cases h) (by kernel_rfl) (fun _ h => by cases h) requestKnown_row_tie rfl ⟨rfl, rfl⟩ (by kernel_rfl) rfl
    (fun f fn hf hfn => by
      obtain rfl : f = 9 := Option.some.inj ((show Tryz.prog.funcNamed "spillway/spillwaylaw07.RequestKnown" = some 9 by kernel_rfl).symm.trans hf) |>.symm
      obtain rfl : fn = Tryz.f9 := (Option.some.inj (Tryz.func9.symm.trans hfn)).symm
      exact ⟨by kernel_rfl, fun j t ht => by
        rw [Tryz.params9] at ht
        simp at ht⟩)
    (by kernel_rfl)
end Go.Proofs.YtefelnhpfdcleaaGreatDoor
