/- The statement responseHeads_holds of the seat holds: the law returns true for every input and never panics, under the conditions that the given statement itself names. -/
import Derived.Test.YtdoogdbjiijifaaGreatDoorE3Pbn
import Derived.Test.YtdoogdbjiijifaaGreatDoorE3ThA
import Derived.Test.YtdoogdbjiijifaaGreatDoorE3ShK3
namespace Go.Proofs.YtdoogdbjiijifaaGreatDoor
open Go Go.Sx Go.ChangeShapes Go.WideShapes Go.RowKit
set_option maxRecDepth 100000
theorem responseHeads_kg:false=Rows.responseHeadsRow.goesBy Tryz.pinned.checked.prog:=by kernel_rfl
theorem responseHeads_kl:true=Tryz.pinned.checked.prog.looks []:=by kernel_rfl
theorem responseHeads_kw:Rows.responseHeadsRow.wfByText (OpenSpec.ofChange Rows.responseHeadsSpec)=true:=by kernel_rfl
theorem responseHeads_lifted(os:Os)(started:os.Started)(H:Type)(enc:TypeId×Value->H):
  ReturnsInHanded {} Tryz.checked os 3 .any (λw args=>(Rows.responseHeadsSpec.pre enc Tryz.prog Tryz.f3 [] false w args/\laidMetH Tryz.prog Ml w)/\sizedMet enc Tryz.prog Tryz.f3 (OpenSpec.ofChange Rows.responseHeadsSpec) false w args)
   (Rows.responseHeadsSpec.post enc Tryz.prog Tryz.f3 false true false false):=by
 refine returnsInHanded_of_change_and (C:=Tryz.checked) (X:=λw _=>laidMetH Tryz.prog Ml w) (λ_ _ _ hh h=>h.of_heap hh) kOwn started (by kernel_rfl) Tryz.func3
  (ChangeSpec.witness_shaped (enc:=enc) (C:=Tryz.checked) (os:=os) (X:=λw _=>laidMetH Tryz.prog Ml w) false (World.laidAll Tryz.prog os Ml) #[.slice none 0 0,.string ⟨#[]⟩,.agg #[.int .i64 0,.int .i64 0,.string ⟨#[]⟩,.slice none 0 0]] 8 (World.laidAll_os _ _ _) (World.shaped_of_ZipB (by kernel_rfl) (by kernel_rfl)) (by kernel_rfl) (by kernel_rfl) (by kernel_rfl) (Amm os _)) ?_
 intro W base args ds gs before hval0 hW _ _ hL _;have hval:∀(j:Nat) t v,Tryz.f3.params[j]?=some t->args[j]?=some v->Value.okWide Tryz.prog W .any base t v:=hval0;obtain⟨p,q,hA,hV,_⟩:=id hW;have hA':DataW.TrodAll enc Tryz.prog W 0 (λ_=>true) true Tryz.f3.params.toList args.toList ds p:=hA;rw[Tryz.params3]at hA' hval;obtain⟨v0,v1,v2,d0,d1,d2,p0,p1,p2,rfl,rfl,_,h0,h1,h2⟩:=trodAll_three hA';obtain⟨fuel0,h0⟩:=h0;obtain⟨x0,hx0⟩:=open22 H enc W _ _ _ _ _ h0;have r0:=Ajd Tryz.underlying22 (hval 0 22 v0 rfl rfl) hx0;obtain⟨fuel1,h1⟩:=h1;obtain⟨x1,hx1⟩:=Afz H enc W _ _ _ _ _ h1;have r1:=Aet Tryz.underlying9 (hval 1 9 v1 rfl rfl) hx1;obtain⟨fuel2,h2⟩:=h2;obtain⟨x2,hx2⟩:=open25 H enc W _ _ _ _ _ h2;have r2:=Aes Tryz.underlying25 (hval 2 25 v2 rfl rfl) hx2;obtain⟨r,ls',hK,hcalls⟩:=Ad8.2 [sl22 x0,.str x1.1,rs25 x2] [] (λr ls=>r=.bool (.a true)/\ls=[]) ⟨Zd x0,_,_,_,x1.1,rsOf x2,_,_,_,_,_,_,rfl,rfl,rowU_of x0,str_fit x1,rsV_of x2,rfl,rfl⟩;obtain⟨rfl,rfl⟩:=hK;have hrun:=law_run (W:=W) (args:=[v0,v1,v2]) hcalls (gl_of hL) rfl (ro3 r0 r1 r2);refine hrun.mono λe W' hq=>⟨_,hq.1,All Aln (tb:=4) ?_ rfl (by kernel_rfl) Tryz.underlying4 hW ?_ hq.2⟩
 ·rw[Tryz.params3]
  intro t ht;have hall:([22,9,25].all λt=>Tryz.prog.readableRec t&&decide (t<Tryz.prog.types.size))=true:=by kernel_rfl
  have:=List.all_eq_true.1 hall t (by simpa using ht);simpa using this
 ·have hg:gs=[]:=(trodVars_none hV).1
  subst hg;rfl
theorem responseHeads_said:Rows.ResponseHeadsSaid :=
 OpenClaim.holds_of_wide 3 Tryz.f3 rfl rfl rfl rfl rfl rfl rfl ⟨rfl,rfl,rfl,rfl,rfl⟩ rfl rfl rfl rfl rfl (by kernel_rfl) Tryz.func3 responseHeads_joined
  (of_decide_eq_true (by kernel_rfl)) (by unfold Func.isWrapper;first|(rw[if_pos (by decide +kernel)];kernel_rfl)|(rw[if_neg (by decide +kernel)];exact⟨rfl,rfl⟩))
  (λos started H enc _=>responseHeads_lifted os started H enc)
theorem responseHeads_holds:Rows.ResponseHeadsCardSaid :=
 Claim7.holds_tied_plain_at .later [] [.data,.data,.data,.data,.sentinel,.sentinel,.pinned,.pinned] true (true,"5dda840d985cf5c73580e4df633989ba33cce686e575f2248b0f7aad07944638") true
  responseHeads_said (λ_ h=>by cases h) responseHeads_kw (λ_ h=>by cases h) responseHeads_row_tie rfl ⟨rfl,rfl⟩ (by kernel_rfl) rfl
  (λf fn hf hfn=>by
   obtain rfl:f=3:=Option.some.inj ((show Tryz.prog.funcNamed "spillway/spillwaylaw09.ResponseHeads"=some 3 by kernel_rfl).symm.trans hf) |>.symm
   obtain rfl:fn=Tryz.f3:=(Option.some.inj (Tryz.func3.symm.trans hfn)).symm;exact⟨responseHeads_kl,λj t ht=>by
    rw[Tryz.params3]at ht;have hm:t∈[22,9,25]:=by simpa using Array.mem_of_getElem? ht
    have hall:([22,9,25].all λu=>!Tryz.prog.wantsStandIn u)=true:=by kernel_rfl
    exact (show Tryz.prog.wantsStandIn t=false by simpa using List.all_eq_true.1 hall t hm)⟩)
  responseHeads_kg
end Go.Proofs.YtdoogdbjiijifaaGreatDoor
