/- The statement requestEncodes_holds of the seat holds: the law returns true for every input and never panics, under the conditions that the given statement itself names. -/
import Derived.Test.YtefelnhpfdcleaaGreatDoorE4Pf
import Derived.Test.YtefelnhpfdcleaaGreatDoorE4Pg
namespace Go.Proofs.YtefelnhpfdcleaaGreatDoor
open Go Go.Sx Go.ChangeShapes Go.WideShapes Go.RowKit
set_option maxRecDepth 100000
theorem requestEncodes_lifted (os : Os) (started : os.Started) (H : Type) (enc : TypeId×Value→H) :
  ReturnsInHanded {} Tryz.checked os 4 .any (fun w args=>(Rows.requestEncodesSpec.pre enc Tryz.prog Tryz.f4 [] false w args∧laidMetH Tryz.prog laidV w)∧sizedMet enc Tryz.prog Tryz.f4 (OpenSpec.ofChange Rows.requestEncodesSpec) false w args)
   (Rows.requestEncodesSpec.post enc Tryz.prog Tryz.f4 false true false false):=by
 refine returnsInHanded_of_change_and (C:=Tryz.checked) (X:=fun w _=>laidMetH Tryz.prog laidV w) (fun _ _ _ hh h=>h.of_heap hh) kOwn started (by kernel_rfl) Tryz.func4
  (ChangeSpec.witness_shaped (enc:=enc) (C:=Tryz.checked) (os:=os) (X:=fun w _=>laidMetH Tryz.prog laidV w) false (World.laidAll Tryz.prog os laidV) #[.agg #[.int .i64 0,.string ⟨#[]⟩,.string ⟨#[]⟩,.string ⟨#[]⟩,.slice none 0 0,.string ⟨#[]⟩],.int .i64 0,.string ⟨#[]⟩] 8 (World.laidAll_os _ _ _) (World.shaped_of_ZipB (by kernel_rfl) (by kernel_rfl)) (by kernel_rfl) (by kernel_rfl) (by kernel_rfl) (door_met os _)) ?_
 intro W base args ds gs before hval0 hW _ _ hL _
 have hval : ∀ (j : Nat) t v,Tryz.f4.params[j]? = some t→args[j]? = some v→Value.okWide Tryz.prog W .any base t v:=hval0
 obtain ⟨p,q,hA,hV,_⟩:=id hW
 have hA' : DataW.TrodAll enc Tryz.prog W 0 (fun _=>true) true Tryz.f4.params.toList args.toList ds p:=hA
 rw [Tryz.params4] at hA' hval
 obtain ⟨v0,v1,v2,d0,d1,d2,p0,p1,p2,rfl,rfl,_,h0,h1,h2⟩:=trodAll_three hA'
 obtain ⟨fuel0,h0⟩:=h0
 obtain ⟨x0,hx0⟩:=open31 H enc W _ _ _ _ _ h0
 have r0:=arg_struct Tryz.underlying31 (hval 0 31 v0 rfl rfl) hx0
 obtain ⟨fuel1,h1⟩:=h1
 obtain ⟨x1,hx1⟩:=open3 H enc W _ _ _ _ _ h1
 have r1:=arg_int Tryz.underlying3 (hval 1 3 v1 rfl rfl) hx1
 obtain ⟨fuel2,h2⟩:=h2
 obtain ⟨x2,hx2⟩:=open9 H enc W _ _ _ _ _ h2
 have r2:=arg_string Tryz.underlying9 (hval 2 9 v2 rfl rfl) hx2
 obtain ⟨r,ls',hK,hcalls⟩:=encodes_okD.2 [rq31 x0,.int .i64 (.a x1),.str x2.1] [] (fun r ls=>r = .bool (.a true)∧ls = []) ⟨rqOf x0,_,_,rqF x0,x1,x2.1,rfl,rfl,rqOk_of x0,str_fit x2,rfl,rfl⟩
 obtain ⟨rfl,rfl⟩:=hK
 have hrun:=law_run (W:=W) (args:=[v0,v1,v2]) hcalls (gl_of hL) rfl (ro3 r0 r1 r2)
 refine hrun.mono fun e W' hq=>⟨_,hq.1,law_post kLaidOut (tb:=4) ?_ rfl (by kernel_rfl) Tryz.underlying4 hW ?_ hq.2⟩
 ·rw [Tryz.params4]
  intro t ht
  have hall : ([31,3,9].all fun t=>Tryz.prog.readableRec t && decide (t < Tryz.prog.types.size)) = true:=by kernel_rfl
  have:=List.all_eq_true.1 hall t (by simpa using ht)
  simpa using this
 ·have hg : gs = []:=(trodVars_none hV).1
  subst hg
  rfl
theorem requestEncodes_said : Rows.RequestEncodesSaid :=
 OpenClaim.holds_of_wide 4 Tryz.f4 rfl rfl rfl rfl rfl rfl rfl ⟨rfl,rfl,rfl,rfl,rfl⟩ rfl rfl rfl rfl rfl (by kernel_rfl) Tryz.func4 (by kernel_rfl)
  (of_decide_eq_true (by kernel_rfl)) (by unfold Func.isWrapper; first | (rw [if_pos (by decide +kernel)]; kernel_rfl) | (rw [if_neg (by decide +kernel)]; exact ⟨rfl,rfl⟩))
  (fun os started H enc _=>requestEncodes_lifted os started H enc)
theorem requestEncodes_holds : Rows.RequestEncodesCardSaid :=
 Claim7.holds_tied_plain_at .later [] [.data,.data,.data,.data,.sentinel,.sentinel,.data,.pinned] true (true,"f0e496859ce80748332f4c74aa563a30ade1ab77a8cdf2e91bda25251613a70a") true
  requestEncodes_said (fun _ h=>by cases h) (by kernel_rfl) (fun _ h=>by cases h) requestEncodes_row_tie rfl ⟨rfl,rfl⟩ (by kernel_rfl) rfl
  (fun f fn hf hfn=>by
   obtain rfl : f = 4:=Option.some.inj ((show Tryz.prog.funcNamed "spillway/spillwaylaw07.RequestEncodes" = some 4 by kernel_rfl).symm.trans hf) |>.symm
   obtain rfl : fn = Tryz.f4:=(Option.some.inj (Tryz.func4.symm.trans hfn)).symm
   exact ⟨by kernel_rfl,fun j t ht=>by
    rw [Tryz.params4] at ht
    have hm : t∈[31,3,9]:=by simpa using Array.mem_of_getElem? ht
    have hall : ([31,3,9].all fun u=>!Tryz.prog.wantsStandIn u) = true:=by kernel_rfl
    exact (show Tryz.prog.wantsStandIn t = false by simpa using List.all_eq_true.1 hall t hm)⟩)
  (by kernel_rfl)
end Go.Proofs.YtefelnhpfdcleaaGreatDoor
