/- The statement messageBegins_holds of the seat holds: the law returns true for every input and never panics, under the conditions that the given statement itself names. -/
import Derived.Test.YtdoogdbjiijifaaGreatDoorE7MaT
import Derived.Test.YtdoogdbjiijifaaGreatDoorE7Pba
import Derived.Test.YtdoogdbjiijifaaGreatDoorE7Pbc
import Derived.Test.YtdoogdbjiijifaaGreatDoorE7Mbk
namespace Go.Proofs.YtdoogdbjiijifaaGreatDoor
open Go Go.Sx Go.ChangeShapes Go.WideShapes Go.RowKit
set_option maxRecDepth 100000
theorem messageBegins_kg:false=Rows.messageBeginsRow.goesBy Tryz.pinned.checked.prog:=by kernel_rfl
theorem messageBegins_kl:true=Tryz.pinned.checked.prog.looks []:=by kernel_rfl
theorem messageBegins_kw:Rows.messageBeginsRow.wfByText (OpenSpec.ofChange Rows.messageBeginsSpec)=true:=by kernel_rfl
theorem messageBegins_lifted(os:Os)(started:os.Started)(H:Type)(enc:TypeId×Value->H):
  ReturnsInHanded {} Tryz.checked os 7 .any (λw args=>(Rows.messageBeginsSpec.pre enc Tryz.prog Tryz.f7 [] false w args/\laidMetH Tryz.prog Lb w)/\sizedMet enc Tryz.prog Tryz.f7 (OpenSpec.ofChange Rows.messageBeginsSpec) false w args)
   (Rows.messageBeginsSpec.post enc Tryz.prog Tryz.f7 false true false false):=by
 refine returnsInHanded_of_change_and (C:=Tryz.checked) (X:=λw _=>laidMetH Tryz.prog Lb w) (λ_ _ _ hh h=>h.of_heap hh) TE started (by kernel_rfl) Tryz.func7
  (ChangeSpec.witness_shaped (enc:=enc) (C:=Tryz.checked) (os:=os) (X:=λw _=>laidMetH Tryz.prog Lb w) false (World.laidAll Tryz.prog os Lb) #[.agg #[.int .i64 0,.string ⟨#[]⟩,.string ⟨#[]⟩,.string ⟨#[]⟩,.slice none 0 0,.string ⟨#[]⟩],.int .i64 0,.int .i64 0] 8 (World.laidAll_os _ _ _) (World.shaped_of_ZipB (by kernel_rfl) (by kernel_rfl)) (by kernel_rfl) (by kernel_rfl) (by kernel_rfl) (Aox os _)) ?_
 intro W base args ds gs before GN hW _ _ hL _;have nV:∀(j:Nat) t v,Tryz.f7.params[j]?=some t->args[j]?=some v->Value.okWide Tryz.prog W .any base t v:=GN;obtain⟨p,q,hA,hV,_⟩:=id hW;have hA':DataW.TrodAll enc Tryz.prog W 0 (λ_=>true) true Tryz.f7.params.toList args.toList ds p:=hA;rw[Tryz.params7]at hA' nV;obtain⟨v0,v1,v2,d0,d1,d2,p0,p1,p2,rfl,rfl,_,h0,h1,h2⟩:=trodAll_three hA';obtain⟨as7,h0⟩:=h0;obtain⟨x0,hx0⟩:=uj H enc W _ _ _ _ _ h0;have r0:=Ahc Tryz.underlying55 (nV 0 55 v0 rfl rfl) hx0;obtain⟨as6,h1⟩:=h1;obtain⟨x1,BG⟩:=oa H enc W _ _ _ _ _ h1;have r1:=Ai8 Tryz.underlying3 (nV 1 3 v1 rfl rfl) BG;obtain⟨as5,h2⟩:=h2;obtain⟨x2,sH⟩:=oa H enc W _ _ _ _ _ h2;have r2:=Ai8 Tryz.underlying3 (nV 2 3 v2 rfl rfl) sH;obtain⟨r,aI,hK,pK⟩:=dh.2 [SK x0,.int .i64 (.a x1),.int .i64 (.a x2)] [] (λr ls=>r=.bool (.a true)/\ls=[]) ⟨FB x0,_,_,rqF x0,x1,x2,rfl,rfl,bl x0,rfl,rfl⟩;obtain⟨rfl,rfl⟩:=hK;have aG:=dc (W:=W) (args:=[v0,v1,v2]) pK (JP hL) rfl (ro3 r0 r1 r2);refine aG.mono λe W' hq=>⟨_,hq.1,Anm Anq (tb:=4) ?_ rfl (by kernel_rfl) Tryz.underlying4 hW ?_ hq.2⟩
 .rw[Tryz.params7]
  intro t ht;have jP:([55,3,3].all λt=>Tryz.prog.readableRec t&&decide (t<Tryz.prog.types.size))=true:=by kernel_rfl
  have:=List.all_eq_true.1 jP t (by simpa using ht);simpa using this
 .have hg:gs=[]:=(trodVars_none hV).1
  subst hg;rfl
theorem messageBegins_said:Rows.MessageBeginsSaid :=
 OpenClaim.holds_of_wide 7 Tryz.f7 rfl rfl rfl rfl rfl rfl rfl ⟨rfl,rfl,rfl,rfl,rfl⟩ rfl rfl rfl rfl rfl (by kernel_rfl) Tryz.func7 messageBegins_joined
  (QS (by kernel_rfl)) (by unfold Func.isWrapper;first|(rw[QE (by decide +kernel)];kernel_rfl)|(rw[QD (by decide +kernel)];exact⟨rfl,rfl⟩))
  (λos started H enc _=>messageBegins_lifted os started H enc)
theorem messageBegins_holds:Rows.MessageBeginsCardSaid :=
 Claim7.holds_tied_plain_at .later [] [.data,.data,.data,.data,.sentinel,.sentinel,.data,.pinned,.pinned] true (true,"5dda840d985cf5c73580e4df633989ba33cce686e575f2248b0f7aad07944638") true
  messageBegins_said (λ_ h=>by cases h) messageBegins_kw (λ_ h=>by cases h) messageBegins_row_tie rfl ⟨rfl,rfl⟩ (by kernel_rfl) rfl
  (λf fn hf oO=>by
   obtain rfl:f=7:=Option.some.inj ((show Tryz.prog.funcNamed "spillway/spillwaylaw10.MessageBegins"=some 7 by kernel_rfl).symm.trans hf) |>.symm
   obtain rfl:fn=Tryz.f7:=(Option.some.inj (Tryz.func7.symm.trans oO)).symm;exact⟨messageBegins_kl,λj t ht=>by
    rw[Tryz.params7]at ht;have hm:t∈[55,3,3]:=by simpa using YT ht
    have jP:([55,3,3].all λu=>!Tryz.prog.wantsStandIn u)=true:=by kernel_rfl
    exact (show Tryz.prog.wantsStandIn t=false by simpa using List.all_eq_true.1 jP t hm)⟩)
  messageBegins_kg
end Go.Proofs.YtdoogdbjiijifaaGreatDoor
