/- The statement messagePieces_holds of the seat holds: the law returns true for every input and never panics, under the conditions that the given statement itself names. -/
import Derived.Test.YtdoogdbjiijifaaGreatDoorE9Pbe
import Derived.Test.YtdoogdbjiijifaaGreatDoorE9Mvk
namespace Go.Proofs.YtdoogdbjiijifaaGreatDoor
open Go Go.Sx Go.ChangeShapes Go.WideShapes Go.RowKit
set_option maxRecDepth 100000
theorem messagePieces_kg:false=Rows.messagePiecesRow.goesBy Tryz.pinned.checked.prog:=by kernel_rfl
theorem messagePieces_kl:true=Tryz.pinned.checked.prog.looks []:=by kernel_rfl
theorem messagePieces_kw:Rows.messagePiecesRow.wfByText (OpenSpec.ofChange Rows.messagePiecesSpec)=true:=by kernel_rfl
theorem messagePieces_lifted(os:Os)(started:os.Started)(H:Type)(enc:TypeId×Value->H):
  ReturnsInHanded {} Tryz.checked os 12 .any (λw args=>(Rows.messagePiecesSpec.pre enc Tryz.prog Tryz.f12 [] false w args/\laidMetH Tryz.prog K9 w)/\sizedMet enc Tryz.prog Tryz.f12 (OpenSpec.ofChange Rows.messagePiecesSpec) false w args)
   (Rows.messagePiecesSpec.post enc Tryz.prog Tryz.f12 false true false false):=by
 refine returnsInHanded_of_change_and (C:=Tryz.checked) (X:=λw _=>laidMetH Tryz.prog K9 w) (λ_ _ _ hh h=>h.of_heap hh) TN started (by kernel_rfl) Tryz.func12
  (ChangeSpec.witness_shaped (enc:=enc) (C:=Tryz.checked) (os:=os) (X:=λw _=>laidMetH Tryz.prog K9 w) false (World.laidAll Tryz.prog os K9) #[.agg #[.int .i64 0,.string ⟨#[]⟩,.string ⟨#[]⟩,.string ⟨#[]⟩,.slice none 0 0,.string ⟨#[]⟩,.string ⟨#[]⟩,.int .i64 0,.string ⟨#[]⟩,.int .i64 0,.int .i64 0,.string ⟨#[]⟩,.int .i64 0,.int .i64 0,.string ⟨#[]⟩,.slice none 0 0,.int .i64 0,.string ⟨#[]⟩,.int .i64 0,.int .i64 0,.string ⟨#[]⟩,.string ⟨#[]⟩,.int .i64 0,.slice none 0 0,.int .i64 0,.int .i64 0,.int .i64 0,.bool false,.int .i64 0],.string ⟨#[]⟩,.slice none 0 0] 8 (World.laidAll_os _ _ _) (World.shaped_of_ZipB (by kernel_rfl) (by kernel_rfl)) (by kernel_rfl) (by kernel_rfl) (by kernel_rfl) (An2 os _)) ?_
 intro W base args ds gs before HX hW _ _ hL _;have mR:∀(j:Nat) t v,Tryz.f12.params[j]?=some t->args[j]?=some v->Value.okWide Tryz.prog W .any base t v:=HX;obtain⟨p,q,hA,hV,_⟩:=id hW;have hA':DataW.TrodAll enc Tryz.prog W 0 (λ_=>true) true Tryz.f12.params.toList args.toList ds p:=hA;rw[Tryz.params12]at hA' mR;obtain⟨v0,v1,v2,d0,d1,d2,p0,p1,p2,rfl,rfl,_,h0,h1,h2⟩:=trodAll_three hA';obtain⟨az6,h0⟩:=h0;obtain⟨x0,oQ⟩:=xa H enc W _ _ _ _ _ h0;have r0:=Agj Tryz.underlying59 (mR 0 59 v0 rfl rfl) oQ;obtain⟨az5,h1⟩:=h1;obtain⟨x1,mg⟩:=Iq H enc W _ _ _ _ _ h1;have r1:=Agk Tryz.underlying9 (mR 1 9 v1 rfl rfl) mg;obtain⟨az4,h2⟩:=h2;obtain⟨x2,xX⟩:=w7 H enc W _ _ _ _ _ h2;have r2:=Aky Tryz.underlying88 (mR 2 88 v2 rfl rfl) xX;obtain⟨r,aK,hK,zm⟩:=Am5.2 [.agg (bm x0),.str x1.1,.sl (.a x2.1.1) (.a (x2.1.2.length:Int)) 1 (Hd xP x2.1.2)] [] (λr ls=>r=.bool (.a true)/\ls=[]) ⟨TG x0,_,_,OG x0.1,SO x0.2.2.2.1,x1.1,x2.1.2.map λn=>n.1.toNat,x2.1.1,_,Hd xP x2.1.2,by rw[ld],rfl,vq x0,jt _ x2.2.1,rfl,rfl⟩;obtain⟨rfl,rfl⟩:=hK;have aW:=lu (W:=W) (args:=[v0,v1,v2]) zm (KG hL) rfl (ro3 r0 r1 r2);refine aW.mono λe W' hq=>⟨_,hq.1,Am4 Am9 (tb:=4) ?_ rfl (by kernel_rfl) Tryz.underlying4 hW ?_ hq.2⟩
 .rw[Tryz.params12]
  intro t ht;have kB:([59,9,88].all λt=>Tryz.prog.readableRec t&&decide (t<Tryz.prog.types.size))=true:=by kernel_rfl
  have:=List.all_eq_true.1 kB t (by simpa using ht);simpa using this
 .have hg:gs=[]:=(trodVars_none hV).1
  subst hg;rfl
theorem messagePieces_said:Rows.MessagePiecesSaid :=
 OpenClaim.holds_of_wide 12 Tryz.f12 rfl rfl rfl rfl rfl rfl rfl ⟨rfl,rfl,rfl,rfl,rfl⟩ rfl rfl rfl rfl rfl (by kernel_rfl) Tryz.func12 messagePieces_joined
  (QT (by kernel_rfl)) (by unfold Func.isWrapper;first|(rw[QC (by decide +kernel)];kernel_rfl)|(rw[QA (by decide +kernel)];exact⟨rfl,rfl⟩))
  (λos started H enc _=>messagePieces_lifted os started H enc)
theorem messagePieces_holds:Rows.MessagePiecesCardSaid :=
 Claim7.holds_tied_plain_at .later [] [.data,.data,.data,.data,.sentinel,.sentinel,.data,.pinned,.pinned] true (true,"5dda840d985cf5c73580e4df633989ba33cce686e575f2248b0f7aad07944638") true
  messagePieces_said (λ_ h=>by cases h) messagePieces_kw (λ_ h=>by cases h) messagePieces_row_tie rfl ⟨rfl,rfl⟩ (by kernel_rfl) rfl
  (λf fn hf uT=>by
   obtain rfl:f=12:=Option.some.inj ((show Tryz.prog.funcNamed "spillway/spillwaylaw10.MessagePieces"=some 12 by kernel_rfl).symm.trans hf) |>.symm
   obtain rfl:fn=Tryz.f12:=(Option.some.inj (Tryz.func12.symm.trans uT)).symm;exact⟨messagePieces_kl,λj t ht=>by
    rw[Tryz.params12]at ht;have hm:t∈[59,9,88]:=by simpa using YL ht
    have kB:([59,9,88].all λu=>!Tryz.prog.wantsStandIn u)=true:=by kernel_rfl
    exact (show Tryz.prog.wantsStandIn t=false by simpa using List.all_eq_true.1 kB t hm)⟩)
  messagePieces_kg
end Go.Proofs.YtdoogdbjiijifaaGreatDoor
