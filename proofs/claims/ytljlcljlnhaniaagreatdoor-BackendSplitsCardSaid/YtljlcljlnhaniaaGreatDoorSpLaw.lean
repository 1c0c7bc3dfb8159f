/- The statement of the seat holds: the law returns true for every input and never panics, under the conditions that the given statement itself names. -/
import Derived.Test.YtljlcljlnhaniaaGreatDoorSpSpr
import Derived.Test.YtljlcljlnhaniaaGreatDoorSpSpk
import Derived.Test.YtljlcljlnhaniaaGreatDoorSpBs3
import Derived.Test.YtljlcljlnhaniaaGreatDoorSpSxCv
import Derived.Test.YtljlcljlnhaniaaGreatDoorSpSxDs
set_option linter.unusedVariables false
set_option linter.unusedSimpArgs false
namespace Go.Proofs.YtljlcljlnhaniaaGreatDoor
open Go Go.Sx Go.ChangeShapes Go.WideShapes Go.RowKit
set_option maxRecDepth 100000
/-! BackendSplits: from its run to the card. -/
theorem kOwn : ownKnob Tryz.prog.godebug = none := by kernel_rfl
theorem kLaidOut : laidOutB Tryz.prog = true := by kernel_rfl
abbrev laidV : List (String × DataW Unit) := [("math/bits.deBruijn32tab", Rows.laid_math_bits_deBruijn32tab), ("math/bits.deBruijn64tab", Rows.laid_math_bits_deBruijn64tab), ("internal/strconv.uint64pow10", Rows.laid_internal_strconv_uint64pow10), ("unicode/utf8.acceptRanges", Rows.laid_unicode_utf8_acceptRanges), ("strconv.ErrRange", Rows.laid_strconv_ErrRange), ("strconv.ErrSyntax", Rows.laid_strconv_ErrSyntax), ("spillway/request.methods", Rows.laid_spillway_request_methods), ("unicode.CaseRanges", Rows.laid_unicode_CaseRanges), ("unicode/utf8.first", Rows.laid_unicode_utf8_first)]
theorem door_fits (os : Os) : (World.holding Tryz.prog os ⟨#[], #[], []⟩).layFits Tryz.prog laidV [] = true := by kernel_rfl
theorem door_ifaces (os : Os) : (World.holding Tryz.prog os ⟨#[], #[], []⟩).layIfaces Tryz.prog laidV (World.laidAll Tryz.prog os laidV) = true := by kernel_rfl
theorem door_met (os : Os) (args : Array Value) : laidMetH Tryz.prog laidV ((World.laidAll Tryz.prog os laidV).forCall (fun _ _ => 0) ⟨#[], args, []⟩).memory := by
  rw [MakeChecks.laidMetH_plain _ _ _ (by kernel_rfl)]
  exact laidMet_laidAll _ (door_fits os) (door_ifaces os)
theorem backendSplits_kg : false = Rows.backendSplitsRow.goesBy Tryz.pinned.checked.prog := by kernel_rfl
theorem backendSplits_kl : true = Tryz.pinned.checked.prog.looks [] := by kernel_rfl
theorem backendSplits_kw : Rows.backendSplitsRow.wfByText (OpenSpec.ofChange Rows.backendSplitsSpec) = true := by kernel_rfl
/-! The variables that are laid, as the executor has them. -/
noncomputable def mv : List Value := (Cv.flatC Tryz.prog 10 228 Rows.laid_spillway_request_methods).getD []
noncomputable def pv : List Value := (Cv.flatC Tryz.prog 10 368 Rows.laid_internal_strconv_uint64pow10).getD []
theorem mv_eq : Cv.flatC Tryz.prog 10 228 Rows.laid_spillway_request_methods = some mv := by kernel_rfl
theorem pv_eq : Cv.flatC Tryz.prog 10 368 Rows.laid_internal_strconv_uint64pow10 = some pv := by kernel_rfl
theorem mv_cl : Cv.cellsB cl1 mv = true := by kernel_rfl
theorem pv_cl : Cv.cellsB cl0 pv = true := by kernel_rfl
noncomputable def sgl : List (Nat × SV) := [(2, rawRow mv), (4, rawRow pv)]
theorem sgl_of {W : World} (hL : laidMetH Tryz.prog laidV W) : ∀ g s, Sx.look g sgl = some s → RO (oldI W) W s (.pointer (some ⟨g, 0, none⟩)) ∧ g < W.heap.size ∧ glBlk W g s := by
  rw [MakeChecks.laidMetH_plain _ _ _ (by kernel_rfl)] at hL
  have l0 := raw_of_laid (W := W) (t := 228) (hL.tail.tail.tail.tail.tail.tail) (show Tryz.prog.globalNamed "spillway/request.methods" = some 2 by kernel_rfl) (by kernel_rfl) mv_eq (by kernel_rfl)
  have l1 := raw_of_laid (W := W) (t := 368) (hL.tail.tail) (show Tryz.prog.globalNamed "internal/strconv.uint64pow10" = some 4 by kernel_rfl) (by kernel_rfl) pv_eq (by kernel_rfl)
  intro g s hs
  simp only [Sx.look, sgl] at hs
  split at hs
  · rename_i e
    have e : 2 = g := by simpa using e
    subst e
    cases hs
    exact l0
  split at hs
  · rename_i e
    have e : 4 = g := by simpa using e
    subst e
    cases hs
    exact l1
  · cases hs
theorem sh_ok : FnOk Tryz.prog sgl 13 spT := fnOk_fact (fun D xs ls K h => h) ⟨Tryz.f13, Tryz.f13.body.getD .skip, Tryz.func13, by kernel_rfl, by kernel_rfl⟩ fun B hB =>
  have l0 := ghas_of_gl (g := 2) hB rfl mv_cl
  have l1 := ghas_of_gl (g := 4) hB rfl pv_cl
  backendSplits_fact (Cv.tyAt B.w0) (Cv.ghas_cons l1.2 (Cv.ghas_cons l0.2 Cv.ghas_nil)) (Cv.lt_cons l1.1 (Cv.lt_cons l0.1 Cv.lt_nil))
theorem open3 : OpenT Tryz.prog 3 (fun n : Int => [.int .i64 (.a n)]) := .int Tryz.underlying3
theorem open9 : OpenT Tryz.prog 9 (fun s : {s : List UInt8 // s.length ≤ maxLen} => [.str s.1]) := .str Tryz.underlying9
theorem ro2 {I : Nat → Nat → Prop} {W : World} {s t : SV} {v u : Value} (h : RO I W s v) (k : RO I W t u) : ∀ (i : Nat) (s' : SV) (v' : Value), [s, t][i]? = some s' → [v, u][i]? = some v' → RO I W s' v'
  | 0, _, _, a, b => by simp at a b; subst a b; exact h
  | 1, _, _, a, b => by simp at a b; subst a b; exact k
  | _ + 2, _, _, a, _ => by simp at a
theorem str_fit (x : {s : List UInt8 // s.length ≤ maxLen}) : x.1.length ≤ 9223372036854775807 := Nat.le_trans x.2 (by decide)
theorem backendSplits_lifted (os : Os) (started : os.Started) (H : Type) (enc : TypeId × Value → H) :
    ReturnsInHanded {} Tryz.checked os 5 .any (fun w args => (Rows.backendSplitsSpec.pre enc Tryz.prog Tryz.f5 [] false w args ∧ laidMetH Tryz.prog laidV w) ∧ sizedMet enc Tryz.prog Tryz.f5 (OpenSpec.ofChange Rows.backendSplitsSpec) false w args)
      (Rows.backendSplitsSpec.post enc Tryz.prog Tryz.f5 false true false false) := by
  refine returnsInHanded_of_change_and (C := Tryz.checked) (X := fun w _ => laidMetH Tryz.prog laidV w) (fun _ _ _ hh h => h.of_heap hh) kOwn started (by kernel_rfl) Tryz.func5
    (ChangeSpec.witness_shaped (enc := enc) (C := Tryz.checked) (os := os) (X := fun w _ => laidMetH Tryz.prog laidV w) false (World.laidAll Tryz.prog os laidV) #[.string ⟨#[]⟩, .int .i64 0] 8 (World.laidAll_os _ _ _) (World.shaped_of_ZipB (by kernel_rfl) (by kernel_rfl)) (by kernel_rfl) (by kernel_rfl) (by kernel_rfl) (door_met os _)) ?_
  intro W base args ds gs before hval0 hW _ _ hL _
  have hval : ∀ (j : Nat) t v, Tryz.f5.params[j]? = some t → args[j]? = some v → Value.okWide Tryz.prog W .any base t v := hval0
  obtain ⟨p, q, hA, hV, _⟩ := id hW
  have hA' : DataW.TrodAll enc Tryz.prog W 0 (fun _ => true) true Tryz.f5.params.toList args.toList ds p := hA
  rw [Tryz.params5] at hA' hval
  obtain ⟨v0, v1, d0, d1, p0, p1, rfl, rfl, _, h0, h1⟩ := trodAll_two hA'
  obtain ⟨fuel0, h0⟩ := h0
  obtain ⟨x0, hx0⟩ := open9 H enc W _ _ _ _ _ h0
  have r0 := arg_string Tryz.underlying9 (hval 0 9 v0 rfl rfl) hx0
  obtain ⟨fuel1, h1⟩ := h1
  obtain ⟨x1, hx1⟩ := open3 H enc W _ _ _ _ _ h1
  have r1 := arg_int Tryz.underlying3 (hval 1 3 v1 rfl rfl) hx1
  obtain ⟨r, ls', hK, hcalls⟩ := (law_ok sh_ok).2 [.str x0.1, .int .i64 (.a x1)] [] (fun r ls => r = .bool (.a true) ∧ ls = []) ⟨x0.1, x1, rfl, rfl, str_fit x0, rfl, rfl⟩
  obtain ⟨rfl, rfl⟩ := hK
  have hrun := law_run (W := W) (args := [v0, v1]) hcalls (sgl_of hL) rfl (ro2 r0 r1)
  refine hrun.mono fun e W' hq => ⟨_, hq.1, law_post kLaidOut (tb := 4) ?_ rfl (by kernel_rfl) Tryz.underlying4 hW ?_ hq.2⟩
  · rw [Tryz.params5]
    intro t ht
    have hall : ([9, 3].all fun t => Tryz.prog.readableRec t && decide (t < Tryz.prog.types.size)) = true := by kernel_rfl
    have := List.all_eq_true.1 hall t (by simpa using ht)
    simpa using this
  · have hg : gs = [] := (trodVars_none hV).1
    subst hg
    rfl
theorem backendSplits_said : Rows.BackendSplitsSaid :=
  OpenClaim.holds_of_wide 5 Tryz.f5 rfl rfl rfl rfl rfl rfl rfl ⟨rfl, rfl, rfl, rfl, rfl⟩ rfl rfl rfl rfl rfl (by kernel_rfl) Tryz.func5 backendSplits_joined
    (of_decide_eq_true (by kernel_rfl)) (by unfold Func.isWrapper; first | (rw [if_pos (by decide +kernel)]; kernel_rfl) | (rw [if_neg (by decide +kernel)]; exact ⟨rfl, rfl⟩))
    (fun os started H enc _ => backendSplits_lifted os started H enc)
theorem backendSplits_holds : Rows.BackendSplitsCardSaid :=
  Claim7.holds_tied_plain_at .later [] [.data, .data, .data, .data, .sentinel, .sentinel, .data, .pinned, .pinned] true (true, "ebd56a2668bca5a78c87a5b442713ca5795c5b0eb31f92446b6b4e73dd8ac880") true
    backendSplits_said (fun _ h => by cases h) backendSplits_kw (fun _ h => by cases h) backendSplits_row_tie rfl ⟨rfl, rfl⟩ (by kernel_rfl) rfl
    (fun f fn hf hfn => by
      obtain rfl : f = 5 := Option.some.inj ((show Tryz.prog.funcNamed "spillway/spillwaylaw13.BackendSplits" = some 5 by kernel_rfl).symm.trans hf) |>.symm
      obtain rfl : fn = Tryz.f5 := (Option.some.inj (Tryz.func5.symm.trans hfn)).symm
      exact ⟨backendSplits_kl, fun j t ht => by
        rw [Tryz.params5] at ht
        have hm : t ∈ [9, 3] := by simpa using Array.mem_of_getElem? ht
        have hall : ([9, 3].all fun u => !Tryz.prog.wantsStandIn u) = true := by kernel_rfl
        exact (show Tryz.prog.wantsStandIn t = false by simpa using List.all_eq_true.1 hall t hm)⟩)
    backendSplits_kg
end Go.Proofs.YtljlcljlnhaniaaGreatDoor
