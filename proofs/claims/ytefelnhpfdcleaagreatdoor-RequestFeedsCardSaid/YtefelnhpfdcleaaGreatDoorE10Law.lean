/- The statement requestFeeds_holds of the seat holds: the law returns true for every input and never panics, under the conditions that the given statement itself names. -/
import Derived.Test.YtefelnhpfdcleaaGreatDoorE10Paa
namespace Go.Proofs.YtefelnhpfdcleaaGreatDoor
open Go Go.Sx Go.ChangeShapes Go.WideShapes Go.RowKit
set_option maxRecDepth 100000
theorem requestFeeds_lifted (os : Os) (started : os.Started) (H : Type) (enc : TypeId×Value→H) :
  ReturnsInHanded {} Tryz.checked os 10 .any (fun w args=>(Rows.requestFeedsSpec.pre enc Tryz.prog Tryz.f10 [] false w args∧laidMetH Tryz.prog En w)∧sizedMet enc Tryz.prog Tryz.f10 (OpenSpec.ofChange Rows.requestFeedsSpec) false w args)
   (Rows.requestFeedsSpec.post enc Tryz.prog Tryz.f10 false true false false):=by
 refine returnsInHanded_of_change_and (C:=Tryz.checked) (X:=fun w _=>laidMetH Tryz.prog En w) (fun _ _ _ hh h=>h.of_heap hh) kOwn started (by kernel_rfl) Tryz.func10
  (ChangeSpec.witness_shaped (enc:=enc) (C:=Tryz.checked) (os:=os) (X:=fun w _=>laidMetH Tryz.prog En w) false (World.laidAll Tryz.prog os En) #[.slice none 0 0,.slice none 0 0] 8 (World.laidAll_os _ _ _) (World.shaped_of_ZipB (by kernel_rfl) (by kernel_rfl)) (by kernel_rfl) (by kernel_rfl) (by kernel_rfl) (Qw os _)) ?_
 intro W base args ds gs before hval0 hW _ _ hL _
 have hval : ∀ (j : Nat) t v,Tryz.f10.params[j]? = some t→args[j]? = some v→Value.okWide Tryz.prog W .any base t v:=hval0
 obtain ⟨p,q,hA,hV,_⟩:=id hW
 have hA' : DataW.TrodAll enc Tryz.prog W 0 (fun _=>true) true Tryz.f10.params.toList args.toList ds p:=hA
 rw [Tryz.params10] at hA' hval
 obtain ⟨v0,v1,d0,d1,p0,p1,rfl,rfl,_,h0,h1⟩:=trodAll_two hA'
 obtain ⟨fuel0,h0⟩:=h0
 obtain ⟨x0,hx0⟩:=Rh H enc W _ _ _ _ _ h0
 have r0:=Ic Tryz.underlying36 (hval 0 36 v0 rfl rfl) hx0
 obtain ⟨fuel1,h1⟩:=h1
 obtain ⟨x1,hx1⟩:=Rh H enc W _ _ _ _ _ h1
 have r1:=Ic Tryz.underlying36 (hval 1 36 v1 rfl rfl) hx1
 obtain ⟨r,ls',hK,hcalls⟩:=Amh.2 [Aij x0,Aij x1] [] (fun r ls=>r = .bool (.a true)∧ls = []) ⟨Ff x0,Ff x1,_,_,_,_,_,_,rfl,rfl,Nj x0,Nj x1,rfl,rfl⟩
 obtain ⟨rfl,rfl⟩:=hK
 have hrun:=Uk (W:=W) (args:=[v0,v1]) hcalls (Ahp hL) rfl (ro2 r0 r1)
 refine hrun.mono fun e W' hq=>⟨_,hq.1,Qd Qf (tb:=4) ?_ rfl (by kernel_rfl) Tryz.underlying4 hW ?_ hq.2⟩
 ·rw [Tryz.params10]
  intro t ht
  have hall : ([36,36].all fun t=>Tryz.prog.readableRec t && decide (t < Tryz.prog.types.size)) = true:=by kernel_rfl
  have:=List.all_eq_true.1 hall t (by simpa using ht)
  simpa using this
 ·have hg : gs = []:=(trodVars_none hV).1
  subst hg
  rfl
theorem requestFeeds_said : Rows.RequestFeedsSaid :=
 OpenClaim.holds_of_wide 10 Tryz.f10 rfl rfl rfl rfl rfl rfl rfl ⟨rfl,rfl,rfl,rfl,rfl⟩ rfl rfl rfl rfl rfl (by kernel_rfl) Tryz.func10 (by kernel_rfl)
  (of_decide_eq_true (by kernel_rfl)) (by unfold Func.isWrapper; first | (rw [if_pos (by decide +kernel)]; kernel_rfl) | (rw [if_neg (by decide +kernel)]; exact ⟨rfl,rfl⟩))
  (fun os started H enc _=>requestFeeds_lifted os started H enc)
theorem requestFeeds_holds : Rows.RequestFeedsCardSaid :=
 Claim7.holds_tied_plain_at .later [] [.data,.data,.data,.data,.sentinel,.sentinel,.data,.pinned] true (true,"f0e496859ce80748332f4c74aa563a30ade1ab77a8cdf2e91bda25251613a70a") true
  requestFeeds_said (fun _ h=>by cases h) (by kernel_rfl) (fun _ h=>by cases h) requestFeeds_row_tie rfl ⟨rfl,rfl⟩ (by kernel_rfl) rfl
  (fun f fn hf hfn=>by
   obtain rfl : f = 10:=Option.some.inj ((show Tryz.prog.funcNamed "spillway/spillwaylaw07.RequestFeeds" = some 10 by kernel_rfl).symm.trans hf) |>.symm
   obtain rfl : fn = Tryz.f10:=(Option.some.inj (Tryz.func10.symm.trans hfn)).symm
   exact ⟨by kernel_rfl,fun j t ht=>by
    rw [Tryz.params10] at ht
    have hm : t∈[36,36]:=by simpa using Array.mem_of_getElem? ht
    have hall : ([36,36].all fun u=>!Tryz.prog.wantsStandIn u) = true:=by kernel_rfl
    exact (show Tryz.prog.wantsStandIn t = false by simpa using List.all_eq_true.1 hall t hm)⟩)
  (by kernel_rfl)
end Go.Proofs.YtefelnhpfdcleaaGreatDoor
