/- The statement messageReuse_holds of the seat holds: the law returns true for every input and never panics, under the conditions that the given statement itself names. -/
import Derived.Test.YtdoogdbjiijifaaGreatDoorE8Pbd
import Derived.Test.YtdoogdbjiijifaaGreatDoorE8MuT
import Derived.Test.YtdoogdbjiijifaaGreatDoorE8Muk
namespace Go.Proofs.YtdoogdbjiijifaaGreatDoor
open Go Go.Sx Go.ChangeShapes Go.WideShapes Go.RowKit
set_option maxRecDepth 100000
theorem messageReuse_kg:false=Rows.messageReuseRow.goesBy Tryz.pinned.checked.prog:=by kernel_rfl
theorem messageReuse_kl:true=Tryz.pinned.checked.prog.looks []:=by kernel_rfl
theorem messageReuse_kw:Rows.messageReuseRow.wfByText (OpenSpec.ofChange Rows.messageReuseSpec)=true:=by kernel_rfl
theorem messageReuse_lifted(os:Os)(started:os.Started)(H:Type)(enc:TypeId×Value->H):
  ReturnsInHanded {} Tryz.checked os 13 .any (λw args=>(Rows.messageReuseSpec.pre enc Tryz.prog Tryz.f13 [] false w args/\laidMetH Tryz.prog K1 w)/\sizedMet enc Tryz.prog Tryz.f13 (OpenSpec.ofChange Rows.messageReuseSpec) false w args)
   (Rows.messageReuseSpec.post enc Tryz.prog Tryz.f13 false true false false):=by
 refine returnsInHanded_of_change_and (C:=Tryz.checked) (X:=λw _=>laidMetH Tryz.prog K1 w) (λ_ _ _ hh h=>h.of_heap hh) RC started (by kernel_rfl) Tryz.func13
  (ChangeSpec.witness_shaped (enc:=enc) (C:=Tryz.checked) (os:=os) (X:=λw _=>laidMetH Tryz.prog K1 w) false (World.laidAll Tryz.prog os K1) #[.agg #[.int .i64 0,.string ⟨#[]⟩,.string ⟨#[]⟩,.string ⟨#[]⟩,.slice none 0 0,.string ⟨#[]⟩],.slice none 0 0] 8 (World.laidAll_os _ _ _) (World.shaped_of_ZipB (by kernel_rfl) (by kernel_rfl)) (by kernel_rfl) (by kernel_rfl) (by kernel_rfl) (Amr os _)) ?_
 intro W base args ds gs before FW hW _ _ hL _;have nJ:∀(j:Nat) t v,Tryz.f13.params[j]?=some t->args[j]?=some v->Value.okWide Tryz.prog W .any base t v:=FW;obtain⟨p,q,hA,hV,_⟩:=id hW;have hA':DataW.TrodAll enc Tryz.prog W 0 (λ_=>true) true Tryz.f13.params.toList args.toList ds p:=hA;rw[Tryz.params13]at hA' nJ;obtain⟨v0,v1,d0,d1,p0,p1,rfl,rfl,_,h0,h1⟩:=trodAll_two hA';obtain⟨ar8,h0⟩:=h0;obtain⟨x0,pZ⟩:=vk H enc W _ _ _ _ _ h0;have r0:=Afn Tryz.underlying55 (nJ 0 55 v0 rfl rfl) pZ;obtain⟨ar7,h1⟩:=h1;obtain⟨x1,jw⟩:=vh H enc W _ _ _ _ _ h1;have r1:=Aju Tryz.underlying74 (nJ 1 74 v1 rfl rfl) jw;obtain⟨r,aK,hK,yg⟩:=Aiv.2 [PI x0,.sl (.a x1.1.1) (.a (x1.1.2.length:Int)) 4 (Iv JJ x1.1.2)] [] (λr ls=>r=.bool (.a true)/\ls=[]) ⟨EC x0,_,_,rqF x0,x1.1.2.map JI,x1.1.1,_,Iv JJ x1.1.2,rfl,rfl,ia x0,ic _ x1.2.1,rfl,rfl⟩;obtain⟨rfl,rfl⟩:=hK;have aV:=jm (W:=W) (args:=[v0,v1]) yg (JB hL) rfl (ro2 r0 r1);refine aV.mono λe W' hq=>⟨_,hq.1,Alz Al3 (tb:=4) ?_ rfl (by kernel_rfl) Tryz.underlying4 hW ?_ hq.2⟩
 .rw[Tryz.params13]
  intro t ht;have jM:([55,74].all λt=>Tryz.prog.readableRec t&&decide (t<Tryz.prog.types.size))=true:=by kernel_rfl
  have:=List.all_eq_true.1 jM t (by simpa using ht);simpa using this
 .have hg:gs=[]:=(trodVars_none hV).1
  subst hg;rfl
theorem messageReuse_said:Rows.MessageReuseSaid :=
 OpenClaim.holds_of_wide 13 Tryz.f13 rfl rfl rfl rfl rfl rfl rfl ⟨rfl,rfl,rfl,rfl,rfl⟩ rfl rfl rfl rfl rfl (by kernel_rfl) Tryz.func13 messageReuse_joined
  (QT (by kernel_rfl)) (by unfold Func.isWrapper;first|(rw[QB (by decide +kernel)];kernel_rfl)|(rw[QA (by decide +kernel)];exact⟨rfl,rfl⟩))
  (λos started H enc _=>messageReuse_lifted os started H enc)
theorem messageReuse_holds:Rows.MessageReuseCardSaid :=
 Claim7.holds_tied_plain_at .later [] [.data,.data,.data,.data,.sentinel,.sentinel,.data,.pinned,.pinned] true (true,"5dda840d985cf5c73580e4df633989ba33cce686e575f2248b0f7aad07944638") true
  messageReuse_said (λ_ h=>by cases h) messageReuse_kw (λ_ h=>by cases h) messageReuse_row_tie rfl ⟨rfl,rfl⟩ (by kernel_rfl) rfl
  (λf fn hf uE=>by
   obtain rfl:f=13:=Option.some.inj ((show Tryz.prog.funcNamed "spillway/spillwaylaw10.MessageReuse"=some 13 by kernel_rfl).symm.trans hf) |>.symm
   obtain rfl:fn=Tryz.f13:=(Option.some.inj (Tryz.func13.symm.trans uE)).symm;exact⟨messageReuse_kl,λj t ht=>by
    rw[Tryz.params13]at ht;have hm:t∈[55,74]:=by simpa using YJ ht
    have jM:([55,74].all λu=>!Tryz.prog.wantsStandIn u)=true:=by kernel_rfl
    exact (show Tryz.prog.wantsStandIn t=false by simpa using List.all_eq_true.1 jM t hm)⟩)
  messageReuse_kg
end Go.Proofs.YtdoogdbjiijifaaGreatDoor
