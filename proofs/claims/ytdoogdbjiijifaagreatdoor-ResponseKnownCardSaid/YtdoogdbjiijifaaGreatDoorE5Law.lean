/- The statement responseKnown_holds of the seat holds: the law returns true for every input and never panics, under the conditions that the given statement itself names. -/
import Derived.Test.YtdoogdbjiijifaaGreatDoorSzPay
import Derived.Test.YtdoogdbjiijifaaGreatDoorE5Paa
import Derived.Test.YtdoogdbjiijifaaGreatDoorE5Pab
namespace Go.Proofs.YtdoogdbjiijifaaGreatDoor
open Go Go.Sx Go.ChangeShapes Go.WideShapes Go.RowKit
set_option maxRecDepth 100000
theorem responseKnown_kg : false = Rows.responseKnownRow.goesBy Tryz.pinned.checked.prog:=by kernel_rfl
theorem responseKnown_kl : true = Tryz.pinned.checked.prog.looks []:=by kernel_rfl
theorem responseKnown_kw : Rows.responseKnownRow.wfByText (OpenSpec.ofChange Rows.responseKnownSpec) = true:=by kernel_rfl
theorem responseKnown_lifted (os : Os) (started : os.Started) (H : Type) (enc : TypeId×Value→H) :
  ReturnsInHanded {} Tryz.checked os 5 .any (fun w args=>(Rows.responseKnownSpec.pre enc Tryz.prog Tryz.f5 [] false w args∧laidMetH Tryz.prog Lk w)∧sizedMet enc Tryz.prog Tryz.f5 (OpenSpec.ofChange Rows.responseKnownSpec) false w args)
   (Rows.responseKnownSpec.post enc Tryz.prog Tryz.f5 false true false false):=by
 refine returnsInHanded_of_change_and (C:=Tryz.checked) (X:=fun w _=>laidMetH Tryz.prog Lk w) (fun _ _ _ hh h=>h.of_heap hh) kOwn started (by kernel_rfl) Tryz.func5
  (ChangeSpec.witness_shaped (enc:=enc) (C:=Tryz.checked) (os:=os) (X:=fun w _=>laidMetH Tryz.prog Lk w) false (World.laidAll Tryz.prog os Lk) #[] 8 (World.laidAll_os _ _ _) (World.shaped_of_ZipB (by kernel_rfl) (by kernel_rfl)) (by kernel_rfl) (by kernel_rfl) (by kernel_rfl) (Ajh os _)) ?_
 intro W base args ds gs before hval0 hW _ _ hL _
 have hval : ∀ (j : Nat) t v,Tryz.f5.params[j]? = some t→args[j]? = some v→Value.okWide Tryz.prog W .any base t v:=hval0
 obtain ⟨p,q,hA,hV,_⟩:=id hW
 have hargs:=Afc hA
 rw [Tryz.params5] at hargs hval
 have ha : args.toList = []:=List.eq_nil_of_length_eq_zero (by simpa using hargs.1.symm)
 have hd : ds = []:=by
  rw [Tryz.params5,ha] at hA
  cases ds with
  | nil=>rfl
  | cons d ds=>exact hA.elim
 obtain ⟨r,ls',hK,hcalls⟩:=Aft.2 [] [] (fun r ls=>r = .bool (.a true)∧ls = []) ⟨rfl,rfl,rfl,rfl⟩
 obtain ⟨rfl,rfl⟩:=hK
 have hrun:=law_run (W:=W) (args:=[]) hcalls (gl_of hL) rfl (by simp)
 have hae : args = #[]:=by rw [←Array.toList_inj]; exact ha
 subst hae
 refine hrun.mono fun e W' hq=>⟨_,hq.1,Ail Aio (tb:=4) ?_ rfl (by kernel_rfl) Tryz.underlying4 hW ?_ hq.2⟩
 ·rw [Tryz.params5]; simp
 ·subst hd
  have hg : gs = []:=(trodVars_none hV).1
  subst hg
  rfl
theorem responseKnown_said : Rows.ResponseKnownSaid :=
 OpenClaim.holds_of_wide 5 Tryz.f5 rfl rfl rfl rfl rfl rfl rfl ⟨rfl,rfl,rfl,rfl,rfl⟩ rfl rfl rfl rfl rfl (by kernel_rfl) Tryz.func5 responseKnown_joined
  (of_decide_eq_true (by kernel_rfl)) (by unfold Func.isWrapper; first | (rw [if_pos (by decide +kernel)]; kernel_rfl) | (rw [if_neg (by decide +kernel)]; exact ⟨rfl,rfl⟩))
  (fun os started H enc _=>responseKnown_lifted os started H enc)
theorem responseKnown_holds : Rows.ResponseKnownCardSaid :=
 Claim7.holds_tied_plain_at .later [] [.data,.data,.data,.data,.sentinel,.sentinel,.pinned,.pinned] true (true,"5dda840d985cf5c73580e4df633989ba33cce686e575f2248b0f7aad07944638") true
  responseKnown_said (fun _ h=>by cases h) responseKnown_kw (fun _ h=>by cases h) responseKnown_row_tie rfl ⟨rfl,rfl⟩ (by kernel_rfl) rfl
  (fun f fn hf hfn=>by
   obtain rfl : f = 5:=Option.some.inj ((show Tryz.prog.funcNamed "spillway/spillwaylaw09.ResponseKnown" = some 5 by kernel_rfl).symm.trans hf) |>.symm
   obtain rfl : fn = Tryz.f5:=(Option.some.inj (Tryz.func5.symm.trans hfn)).symm
   exact ⟨responseKnown_kl,fun j t ht=>by
    rw [Tryz.params5] at ht
    simp at ht⟩)
  responseKnown_kg
end Go.Proofs.YtdoogdbjiijifaaGreatDoor
