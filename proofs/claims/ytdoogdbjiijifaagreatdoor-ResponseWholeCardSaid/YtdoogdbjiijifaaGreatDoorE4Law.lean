/- The statement responseWhole_holds of the seat holds: the law returns true for every input and never panics, under the conditions that the given statement itself names. -/
import Derived.Test.YtdoogdbjiijifaaGreatDoorE4Paz
import Derived.Test.YtdoogdbjiijifaaGreatDoorE4Sh2
import Derived.Test.YtdoogdbjiijifaaGreatDoorE4ShK4
namespace Go.Proofs.YtdoogdbjiijifaaGreatDoor
open Go Go.Sx Go.ChangeShapes Go.WideShapes Go.RowKit
set_option maxRecDepth 100000
theorem responseWhole_kg : false = Rows.responseWholeRow.goesBy Tryz.pinned.checked.prog:=by kernel_rfl
theorem responseWhole_kl : true = Tryz.pinned.checked.prog.looks []:=by kernel_rfl
theorem responseWhole_kw : Rows.responseWholeRow.wfByText (OpenSpec.ofChange Rows.responseWholeSpec) = true:=by kernel_rfl
theorem responseWhole_lifted (os : Os) (started : os.Started) (H : Type) (enc : TypeId×Value->H) :
  ReturnsInHanded {} Tryz.checked os 4 .any (fun w args=>(Rows.responseWholeSpec.pre enc Tryz.prog Tryz.f4 [] false w args/\laidMetH Tryz.prog Lq w)/\sizedMet enc Tryz.prog Tryz.f4 (OpenSpec.ofChange Rows.responseWholeSpec) false w args)
   (Rows.responseWholeSpec.post enc Tryz.prog Tryz.f4 false true false false):=by
 refine returnsInHanded_of_change_and (C:=Tryz.checked) (X:=fun w _=>laidMetH Tryz.prog Lq w) (fun _ _ _ hh h=>h.of_heap hh) kOwn started (by kernel_rfl) Tryz.func4
  (ChangeSpec.witness_shaped (enc:=enc) (C:=Tryz.checked) (os:=os) (X:=fun w _=>laidMetH Tryz.prog Lq w) false (World.laidAll Tryz.prog os Lq) #[.string ⟨#[]⟩,.slice none 0 0] 8 (World.laidAll_os _ _ _) (World.shaped_of_ZipB (by kernel_rfl) (by kernel_rfl)) (by kernel_rfl) (by kernel_rfl) (by kernel_rfl) (Akg os _)) ?_
 intro W base args ds gs before hval0 hW _ _ hL _
 have hval : ∀ (j : Nat) t v,Tryz.f4.params[j]? = some t->args[j]? = some v->Value.okWide Tryz.prog W .any base t v:=hval0
 obtain ⟨p,q,hA,hV,_⟩:=id hW
 have hA' : DataW.TrodAll enc Tryz.prog W 0 (fun _=>true) true Tryz.f4.params.toList args.toList ds p:=hA
 rw [Tryz.params4] at hA' hval
 obtain ⟨v0,v1,d0,d1,p0,p1,rfl,rfl,_,h0,h1⟩:=trodAll_two hA'
 obtain ⟨fuel0,h0⟩:=h0
 obtain ⟨x0,hx0⟩:=open9 H enc W _ _ _ _ _ h0
 have r0:=Adb Tryz.underlying9 (hval 0 9 v0 rfl rfl) hx0
 obtain ⟨fuel1,h1⟩:=h1
 obtain ⟨x1,hx1⟩:=open22 H enc W _ _ _ _ _ h1
 have r1:=Ahi Tryz.underlying22 (hval 1 22 v1 rfl rfl) hx1
 obtain ⟨r,ls',hK,hcalls⟩:=Aff.2 [.str x0.1,sl22 x1] [] (fun r ls=>r = .bool (.a true)/\ls = []) ⟨x0.1,Ky x1,_,_,_,rfl,rfl,rowU_of x1,Ahd x1,str_fit x0,Ahc x1,rfl,rfl⟩
 obtain ⟨rfl,rfl⟩:=hK
 have hrun:=law_run (W:=W) (args:=[v0,v1]) hcalls (gl_of hL) rfl (ro2 r0 r1)
 refine hrun.mono fun e W' hq=>⟨_,hq.1,Ajj Ajm (tb:=4) ?_ rfl (by kernel_rfl) Tryz.underlying4 hW ?_ hq.2⟩
 ·rw [Tryz.params4]
  intro t ht
  have hall : ([9,22].all fun t=>Tryz.prog.readableRec t && decide (t < Tryz.prog.types.size)) = true:=by kernel_rfl
  have:=List.all_eq_true.1 hall t (by simpa using ht)
  simpa using this
 ·have hg : gs = []:=(trodVars_none hV).1
  subst hg
  rfl
theorem responseWhole_said : Rows.ResponseWholeSaid :=
 OpenClaim.holds_of_wide 4 Tryz.f4 rfl rfl rfl rfl rfl rfl rfl ⟨rfl,rfl,rfl,rfl,rfl⟩ rfl rfl rfl rfl rfl (by kernel_rfl) Tryz.func4 responseWhole_joined
  (of_decide_eq_true (by kernel_rfl)) (by unfold Func.isWrapper; first | (rw [if_pos (by decide +kernel)]; kernel_rfl) | (rw [if_neg (by decide +kernel)]; exact ⟨rfl,rfl⟩))
  (fun os started H enc _=>responseWhole_lifted os started H enc)
theorem responseWhole_holds : Rows.ResponseWholeCardSaid :=
 Claim7.holds_tied_plain_at .later [] [.data,.data,.data,.data,.sentinel,.sentinel,.pinned,.pinned] true (true,"5dda840d985cf5c73580e4df633989ba33cce686e575f2248b0f7aad07944638") true
  responseWhole_said (fun _ h=>by cases h) responseWhole_kw (fun _ h=>by cases h) responseWhole_row_tie rfl ⟨rfl,rfl⟩ (by kernel_rfl) rfl
  (fun f fn hf hfn=>by
   obtain rfl : f = 4:=Option.some.inj ((show Tryz.prog.funcNamed "spillway/spillwaylaw09.ResponseWhole" = some 4 by kernel_rfl).symm.trans hf) |>.symm
   obtain rfl : fn = Tryz.f4:=(Option.some.inj (Tryz.func4.symm.trans hfn)).symm
   exact ⟨responseWhole_kl,fun j t ht=>by
    rw [Tryz.params4] at ht
    have hm : t∈[9,22]:=by simpa using Array.mem_of_getElem? ht
    have hall : ([9,22].all fun u=>!Tryz.prog.wantsStandIn u) = true:=by kernel_rfl
    exact (show Tryz.prog.wantsStandIn t = false by simpa using List.all_eq_true.1 hall t hm)⟩)
  responseWhole_kg
end Go.Proofs.YtdoogdbjiijifaaGreatDoor
