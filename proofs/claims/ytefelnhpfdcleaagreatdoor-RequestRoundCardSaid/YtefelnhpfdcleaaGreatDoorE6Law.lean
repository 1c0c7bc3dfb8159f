/- The statement requestRound_holds of the seat holds: the law returns true for every input and never panics, under the conditions that the given statement itself names. -/
import Derived.Test.YtefelnhpfdcleaaGreatDoorE6Pab
namespace Go.Proofs.YtefelnhpfdcleaaGreatDoor
open Go Go.Sx Go.ChangeShapes Go.WideShapes Go.RowKit
set_option maxRecDepth 100000
theorem requestRound_lifted (os : Os) (started : os.Started) (H : Type) (enc : TypeId×Value→H) :
  ReturnsInHanded {} Tryz.checked os 6 .any (fun w args=>(Rows.requestRoundSpec.pre enc Tryz.prog Tryz.f6 [] false w args∧laidMetH Tryz.prog En w)∧sizedMet enc Tryz.prog Tryz.f6 (OpenSpec.ofChange Rows.requestRoundSpec) false w args)
   (Rows.requestRoundSpec.post enc Tryz.prog Tryz.f6 false true false false):=by
 refine returnsInHanded_of_change_and (C:=Tryz.checked) (X:=fun w _=>laidMetH Tryz.prog En w) (fun _ _ _ hh h=>h.of_heap hh) kOwn started (by kernel_rfl) Tryz.func6
  (ChangeSpec.witness_shaped (enc:=enc) (C:=Tryz.checked) (os:=os) (X:=fun w _=>laidMetH Tryz.prog En w) false (World.laidAll Tryz.prog os En) #[.agg #[.int .i64 0,.string ⟨#[]⟩,.string ⟨#[]⟩,.string ⟨#[]⟩,.slice none 0 0,.string ⟨#[]⟩],.slice none 0 0,.int .u16 0] 8 (World.laidAll_os _ _ _) (World.shaped_of_ZipB (by kernel_rfl) (by kernel_rfl)) (by kernel_rfl) (by kernel_rfl) (by kernel_rfl) (Qw os _)) ?_
 intro W base args ds gs before hval0 hW _ _ hL _
 have hval : ∀ (j : Nat) t v,Tryz.f6.params[j]? = some t→args[j]? = some v→Value.okWide Tryz.prog W .any base t v:=hval0
 obtain ⟨p,q,hA,hV,_⟩:=id hW
 have hA' : DataW.TrodAll enc Tryz.prog W 0 (fun _=>true) true Tryz.f6.params.toList args.toList ds p:=hA
 rw [Tryz.params6] at hA' hval
 obtain ⟨v0,v1,v2,d0,d1,d2,p0,p1,p2,rfl,rfl,_,h0,h1,h2⟩:=trodAll_three hA'
 obtain ⟨fuel0,h0⟩:=h0
 obtain ⟨x0,hx0⟩:=Afn H enc W _ _ _ _ _ h0
 have r0:=Agk Tryz.underlying31 (hval 0 31 v0 rfl rfl) hx0
 obtain ⟨fuel1,h1⟩:=h1
 obtain ⟨x1,hx1⟩:=Rh H enc W _ _ _ _ _ h1
 have r1:=Ic Tryz.underlying36 (hval 1 36 v1 rfl rfl) hx1
 obtain ⟨fuel2,h2⟩:=h2
 obtain ⟨x2,hx2⟩:=Afm H enc W _ _ _ _ _ h2
 have r2:=arg_int Tryz.underlying41 (hval 2 41 v2 rfl rfl) hx2
 obtain ⟨r,ls',hK,hcalls⟩:=Aiq.2 [rq31 x0,Aij x1,.int .u16 (.a x2.1)] [] (fun r ls=>r = .bool (.a true)∧ls = []) ⟨Aip x0,_,_,rqF x0,Ff x1,_,_,_,x2.1,rfl,rfl,Aap x0,Nj x1,(Ue x2).1,(Ue x2).2,rfl,rfl⟩
 obtain ⟨rfl,rfl⟩:=hK
 have hrun:=Uk (W:=W) (args:=[v0,v1,v2]) hcalls (Ahp hL) rfl (ro3 r0 r1 r2)
 refine hrun.mono fun e W' hq=>⟨_,hq.1,Qd Qf (tb:=4) ?_ rfl (by kernel_rfl) Tryz.underlying4 hW ?_ hq.2⟩
 ·rw [Tryz.params6]
  intro t ht
  have hall : ([31,36,41].all fun t=>Tryz.prog.readableRec t && decide (t < Tryz.prog.types.size)) = true:=by kernel_rfl
  have:=List.all_eq_true.1 hall t (by simpa using ht)
  simpa using this
 ·have hg : gs = []:=(trodVars_none hV).1
  subst hg
  rfl
theorem requestRound_said : Rows.RequestRoundSaid :=
 OpenClaim.holds_of_wide 6 Tryz.f6 rfl rfl rfl rfl rfl rfl rfl ⟨rfl,rfl,rfl,rfl,rfl⟩ rfl rfl rfl rfl rfl (by kernel_rfl) Tryz.func6 (by kernel_rfl)
  (of_decide_eq_true (by kernel_rfl)) (by unfold Func.isWrapper; first | (rw [if_pos (by decide +kernel)]; kernel_rfl) | (rw [if_neg (by decide +kernel)]; exact ⟨rfl,rfl⟩))
  (fun os started H enc _=>requestRound_lifted os started H enc)
theorem requestRound_holds : Rows.RequestRoundCardSaid :=
 Claim7.holds_tied_plain_at .later [] [.data,.data,.data,.data,.sentinel,.sentinel,.data,.pinned] true (true,"f0e496859ce80748332f4c74aa563a30ade1ab77a8cdf2e91bda25251613a70a") true
  requestRound_said (fun _ h=>by cases h) (by kernel_rfl) (fun _ h=>by cases h) requestRound_row_tie rfl ⟨rfl,rfl⟩ (by kernel_rfl) rfl
  (fun f fn hf hfn=>by
   obtain rfl : f = 6:=Option.some.inj ((show Tryz.prog.funcNamed "spillway/spillwaylaw07.RequestRound" = some 6 by kernel_rfl).symm.trans hf) |>.symm
   obtain rfl : fn = Tryz.f6:=(Option.some.inj (Tryz.func6.symm.trans hfn)).symm
   exact ⟨by kernel_rfl,fun j t ht=>by
    rw [Tryz.params6] at ht
    have hm : t∈[31,36,41]:=by simpa using Array.mem_of_getElem? ht
    have hall : ([31,36,41].all fun u=>!Tryz.prog.wantsStandIn u) = true:=by kernel_rfl
    exact (show Tryz.prog.wantsStandIn t = false by simpa using List.all_eq_true.1 hall t hm)⟩)
  (by kernel_rfl)
end Go.Proofs.YtefelnhpfdcleaaGreatDoor
