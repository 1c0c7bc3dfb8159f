/- The statement requestCleans_holds of the seat holds: the law returns true for every input and never panics, under the conditions that the given statement itself names. -/
import Derived.Test.YtefelnhpfdcleaaGreatDoorE7Pe
import Derived.Test.YtefelnhpfdcleaaGreatDoorE7Pg
namespace Go.Proofs.YtefelnhpfdcleaaGreatDoor
open Go Go.Sx Go.ChangeShapes Go.WideShapes Go.RowKit
set_option maxRecDepth 100000
theorem requestCleans_lifted (os : Os) (started : os.Started) (H : Type) (enc : TypeId×Value→H) :
  ReturnsInHanded {} Tryz.checked os 7 .any (fun w args=>(Rows.requestCleansSpec.pre enc Tryz.prog Tryz.f7 [] false w args∧laidMetH Tryz.prog laidV w)∧sizedMet enc Tryz.prog Tryz.f7 (OpenSpec.ofChange Rows.requestCleansSpec) false w args)
   (Rows.requestCleansSpec.post enc Tryz.prog Tryz.f7 false true false false):=by
 refine returnsInHanded_of_change_and (C:=Tryz.checked) (X:=fun w _=>laidMetH Tryz.prog laidV w) (fun _ _ _ hh h=>h.of_heap hh) kOwn started (by kernel_rfl) Tryz.func7
  (ChangeSpec.witness_shaped (enc:=enc) (C:=Tryz.checked) (os:=os) (X:=fun w _=>laidMetH Tryz.prog laidV w) false (World.laidAll Tryz.prog os laidV) #[.string ⟨#[]⟩] 8 (World.laidAll_os _ _ _) (World.shaped_of_ZipB (by kernel_rfl) (by kernel_rfl)) (by kernel_rfl) (by kernel_rfl) (by kernel_rfl) (door_met os _)) ?_
 intro W base args ds gs before hval0 hW _ _ hL _
 have hval : ∀ (j : Nat) t v,Tryz.f7.params[j]? = some t→args[j]? = some v→Value.okWide Tryz.prog W .any base t v:=hval0
 obtain ⟨p,q,hA,hV,_⟩:=id hW
 have hA' : DataW.TrodAll enc Tryz.prog W 0 (fun _=>true) true Tryz.f7.params.toList args.toList ds p:=hA
 rw [Tryz.params7] at hA' hval
 obtain ⟨v0,d0,rfl,rfl,h0⟩:=trodAll_one hA'
 obtain ⟨fuel0,h0⟩:=h0
 obtain ⟨x0,hx0⟩:=open9 H enc W _ _ _ _ _ h0
 have r0:=arg_string Tryz.underlying9 (hval 0 9 v0 rfl rfl) hx0
 obtain ⟨r,ls',hK,hcalls⟩:=cleans_ok.2 [.str x0.1] [] (fun r ls=>r = .bool (.a true)∧ls = []) ⟨x0.1,rfl,rfl,str_fit x0,rfl,rfl⟩
 obtain ⟨rfl,rfl⟩:=hK
 have hrun:=law_run (W:=W) (args:=[v0]) hcalls (gl_of hL) rfl (ro1 r0)
 refine hrun.mono fun e W' hq=>⟨_,hq.1,law_post kLaidOut (tb:=4) ?_ rfl (by kernel_rfl) Tryz.underlying4 hW ?_ hq.2⟩
 ·rw [Tryz.params7]
  intro t ht
  have hall : ([9].all fun t=>Tryz.prog.readableRec t && decide (t < Tryz.prog.types.size)) = true:=by kernel_rfl
  have:=List.all_eq_true.1 hall t (by simpa using ht)
  simpa using this
 ·have hg : gs = []:=(trodVars_none hV).1
  subst hg
  rfl
theorem requestCleans_said : Rows.RequestCleansSaid :=
 OpenClaim.holds_of_wide 7 Tryz.f7 rfl rfl rfl rfl rfl rfl rfl ⟨rfl,rfl,rfl,rfl,rfl⟩ rfl rfl rfl rfl rfl (by kernel_rfl) Tryz.func7 (by kernel_rfl)
  (of_decide_eq_true (by kernel_rfl)) (by unfold Func.isWrapper; first | (rw [if_pos (by decide +kernel)]; kernel_rfl) | (rw [if_neg (by decide +kernel)]; exact ⟨rfl,rfl⟩))
  (fun os started H enc _=>requestCleans_lifted os started H enc)
theorem requestCleans_holds : Rows.RequestCleansCardSaid :=
 Claim7.holds_tied_plain_at .later [] [.data,.data,.data,.data,.sentinel,.sentinel,.data,.pinned] true (true,"f0e496859ce80748332f4c74aa563a30ade1ab77a8cdf2e91bda25251613a70a") true
  requestCleans_said (fun _ h=>by cases h) (by kernel_rfl) (fun _ h=>by cases h) requestCleans_row_tie rfl ⟨rfl,rfl⟩ (by kernel_rfl) rfl
  (fun f fn hf hfn=>by
   obtain rfl : f = 7:=Option.some.inj ((show Tryz.prog.funcNamed "spillway/spillwaylaw07.RequestCleans" = some 7 by kernel_rfl).symm.trans hf) |>.symm
   obtain rfl : fn = Tryz.f7:=(Option.some.inj (Tryz.func7.symm.trans hfn)).symm
   exact ⟨by kernel_rfl,fun j t ht=>by
    rw [Tryz.params7] at ht
    have hm : t∈[9]:=by simpa using Array.mem_of_getElem? ht
    have hall : ([9].all fun u=>!Tryz.prog.wantsStandIn u) = true:=by kernel_rfl
    exact (show Tryz.prog.wantsStandIn t = false by simpa using List.all_eq_true.1 hall t hm)⟩)
  (by kernel_rfl)
end Go.Proofs.YtefelnhpfdcleaaGreatDoor
