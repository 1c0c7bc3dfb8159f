/- The statement of the seat holds: the law returns true for every input and never panics, under the conditions that the given statement itself names. -/
import Derived.Test.YtljlcljlnhaniaaGreatDoorMsr
import Derived.Test.YtljlcljlnhaniaaGreatDoorMsk
set_option linter.unusedVariables false
set_option linter.unusedSimpArgs false
namespace Go.Proofs.YtljlcljlnhaniaaGreatDoor
open Go Go.Cv Go.ChangeShapes Go.WideShapes Go.RowKit
set_option maxRecDepth 100000
/-! MessageKnown: from its run to the card. -/
theorem kOwn : ownKnob Tryz.prog.godebug = none := by kernel_rfl
theorem kLaidOut : laidOutB Tryz.prog = true := by kernel_rfl
abbrev laidV : List (String × DataW Unit) := [("math/bits.deBruijn32tab", Rows.laid_math_bits_deBruijn32tab), ("math/bits.deBruijn64tab", Rows.laid_math_bits_deBruijn64tab), ("internal/strconv.uint64pow10", Rows.laid_internal_strconv_uint64pow10), ("unicode/utf8.acceptRanges", Rows.laid_unicode_utf8_acceptRanges), ("strconv.ErrRange", Rows.laid_strconv_ErrRange), ("strconv.ErrSyntax", Rows.laid_strconv_ErrSyntax), ("spillway/request.methods", Rows.laid_spillway_request_methods), ("unicode.CaseRanges", Rows.laid_unicode_CaseRanges), ("unicode/utf8.first", Rows.laid_unicode_utf8_first)]
theorem door_fits (os : Os) : (World.holding Tryz.prog os ⟨#[], #[], []⟩).layFits Tryz.prog laidV [] = true := by kernel_rfl
theorem door_ifaces (os : Os) : (World.holding Tryz.prog os ⟨#[], #[], []⟩).layIfaces Tryz.prog laidV (World.laidAll Tryz.prog os laidV) = true := by kernel_rfl
theorem door_met (os : Os) (args : Array Value) : laidMetH Tryz.prog laidV ((World.laidAll Tryz.prog os laidV).forCall (fun _ _ => 0) ⟨#[], args, []⟩).memory := by
  rw [MakeChecks.laidMetH_plain _ _ _ (by kernel_rfl)]
  exact laidMet_laidAll _ (door_fits os) (door_ifaces os)
theorem messageKnown_kg : false = Rows.messageKnownRow.goesBy Tryz.pinned.checked.prog := by kernel_rfl
theorem messageKnown_kl : true = Tryz.pinned.checked.prog.looks [] := by kernel_rfl
theorem messageKnown_kw : Rows.messageKnownRow.wfByText (OpenSpec.ofChange Rows.messageKnownSpec) = true := by kernel_rfl
theorem messageKnown_calls {W : World} (hL : laidMetH Tryz.prog laidV W) : Calls Tryz.prog 3 #[] W fun e W' => e = .returned (.bool true) ∧ Below W.heap.size W W' := by
  have hl := hL
  rw [MakeChecks.laidMetH_plain _ _ _ (by kernel_rfl)] at hl
  have l0 := laid_has (W := W) (t := 368) (cs := cl0) (hl.tail.tail) (show Tryz.prog.globalNamed "internal/strconv.uint64pow10" = some 4 by kernel_rfl) (by kernel_rfl) (by kernel_rfl)
  have l1 := laid_has (W := W) (t := 228) (cs := cl1) (hl.tail.tail.tail.tail.tail.tail) (show Tryz.prog.globalNamed "spillway/request.methods" = some 2 by kernel_rfl) (by kernel_rfl) (by kernel_rfl)
  exact law_fact (messageKnown_fact (tyAt W) (ghas_cons l0.2 (ghas_cons l1.2 ghas_nil)) (lt_cons l0.1 (lt_cons l1.1 lt_nil)))
theorem messageKnown_lifted (os : Os) (started : os.Started) (H : Type) (enc : TypeId × Value → H) :
    ReturnsInHanded {} Tryz.checked os 3 .any (fun w args => (Rows.messageKnownSpec.pre enc Tryz.prog Tryz.f3 [] false w args ∧ laidMetH Tryz.prog laidV w) ∧ sizedMet enc Tryz.prog Tryz.f3 (OpenSpec.ofChange Rows.messageKnownSpec) false w args)
      (Rows.messageKnownSpec.post enc Tryz.prog Tryz.f3 false true false false) := by
  refine returnsInHanded_of_change_and (C := Tryz.checked) (X := fun w _ => laidMetH Tryz.prog laidV w) (fun _ _ _ hh h => h.of_heap hh) kOwn started (by kernel_rfl) Tryz.func3
    (ChangeSpec.witness_shaped (enc := enc) (C := Tryz.checked) (os := os) (X := fun w _ => laidMetH Tryz.prog laidV w) false (World.laidAll Tryz.prog os laidV) #[] 8 (World.laidAll_os _ _ _) (World.shaped_of_ZipB (by kernel_rfl) (by kernel_rfl)) (by kernel_rfl) (by kernel_rfl) (by kernel_rfl) (door_met os _)) ?_
  intro W base args ds gs before hval0 hW _ _ hL _
  obtain ⟨p, q, hA, hV, _⟩ := id hW
  have hA' : DataW.TrodAll enc Tryz.prog W 0 (fun _ => true) true Tryz.f3.params.toList args.toList ds p := hA
  rw [Tryz.params3] at hA'
  have ha : args.toList = [] ∧ ds = [] := by
    generalize args.toList = vs at hA'
    cases vs <;> cases ds <;> first | exact ⟨rfl, rfl⟩ | exact hA'.elim
  have hae : args = #[] := by rw [← Array.toList_inj]; exact ha.1
  have hd := ha.2
  subst hae
  refine (messageKnown_calls hL).mono fun e W' hq => ⟨_, hq.1, law_post kLaidOut (tb := 4) ?_ rfl (by kernel_rfl) Tryz.underlying4 hW ?_ hq.2⟩
  · rw [Tryz.params3]; simp
  · subst hd
    have hg : gs = [] := (trodVars_none hV).1
    subst hg
    rfl
theorem messageKnown_said : Rows.MessageKnownSaid :=
  OpenClaim.holds_of_wide 3 Tryz.f3 rfl rfl rfl rfl rfl rfl rfl ⟨rfl, rfl, rfl, rfl, rfl⟩ rfl rfl rfl rfl rfl (by kernel_rfl) Tryz.func3 messageKnown_joined
    (of_decide_eq_true (by kernel_rfl)) (by unfold Func.isWrapper; first | (rw [if_pos (by decide +kernel)]; kernel_rfl) | (rw [if_neg (by decide +kernel)]; exact ⟨rfl, rfl⟩))
    (fun os started H enc _ => messageKnown_lifted os started H enc)
theorem messageKnown_holds : Rows.MessageKnownCardSaid :=
  Claim7.holds_tied_plain_at .later [] [.data, .data, .data, .data, .sentinel, .sentinel, .data, .pinned, .pinned] true (true, "ebd56a2668bca5a78c87a5b442713ca5795c5b0eb31f92446b6b4e73dd8ac880") true
    messageKnown_said (fun _ h => by cases h) messageKnown_kw (fun _ h => by cases h) messageKnown_row_tie rfl ⟨rfl, rfl⟩ (by kernel_rfl) rfl
    (fun f fn hf hfn => by
      obtain rfl : f = 3 := Option.some.inj ((show Tryz.prog.funcNamed "spillway/spillwaylaw10.MessageKnown" = some 3 by kernel_rfl).symm.trans hf) |>.symm
      obtain rfl : fn = Tryz.f3 := (Option.some.inj (Tryz.func3.symm.trans hfn)).symm
      exact ⟨messageKnown_kl, fun j t ht => by
        rw [Tryz.params3] at ht
        simp at ht⟩)
    messageKnown_kg
end Go.Proofs.YtljlcljlnhaniaaGreatDoor
