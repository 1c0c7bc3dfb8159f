/-
  NARROWER THAN 'FOR EVERY INPUT', by the rows' own cells (each row's printed sentence says how): BreakerRuns: laid · BreakerSplit: laid · BreakerSteps: laid · BreakerProbe: laid · BreakerBack: laid · BreakerChecks: laid · BreakerOpens: laid · BreakerKnown: laid.
  DERIVED. THE GIVEN ROWS OF THIS SEAT. 8 by the template 'for every input the law returns true; each argument reads behind the call as it read before'; 0 by the template 'total and deterministic' (their statements: YtkhbbppkghcbeaaDoorTotals.lean).
  GIVEN WITH THE SEED: the statements are not yours to turn. If you find one false, say at which input.
  Laid BY PROGRAM, IN A SANDBOX (cutbox-rows.mjs): the forced cells as the released guide's own fill.sh prints them over the translation 2d9f79150e723bb8… (all of the seat's roots in one cut). By AI agents, Wed Nov 11 2026. No macro, syntax, notation, axiom, sorry.
-/
import Derived.Test.YtkhbbppkghcbeaaDoorChecked
import GoSem.Claim
import GoSem.ClaimJoined
import GoSem.ClaimMapViews
import Derived.JoinedTies
import Derived.KernelRfl
namespace Go.Proofs.YtkhbbppkghcbeaaDoor
/- THE CELL 'sum', in the pinned program and in every row, IS THE sha256 OF THE DUMP (.gsa) THAT YtkhbbppkghcbeaaDoorProg.lean LOADS. Nothing in Lean hashes anything: it is a label: what it is worth is what the hold of that sum in a sandbox is worth. -/
noncomputable def Tryd.pinned : Pinned := { name := "ytkhbbppkghcbeaadoor", sum := "2d9f79150e723bb8fc547e9afdb43a79867841276728bdfdd0657f322debbb5b", checked := Tryd.checked }
namespace Rows
def none {H : Type} : Left H := { results := [], args := [] }

/- WHAT THE LISTED PACKAGE-LEVEL VARIABLES READ AS WHEN THE CALL BEGINS. Each datum BY PROGRAM (the guide's laid-datum.mjs) off the statement by which the dump's own 'gosem.cut.vars' lays the variable. In a bare row this is a premise. The card (YtkhbbppkghcbeaaDoorCards.lean) ties it to the program's text. -/
def laid_spillway_breaker_uses {H : Type} : DataW H := .agg [.agg [.lit (.bool false), .lit (.bool false)], .agg [.lit (.bool true), .lit (.bool false)], .agg [.lit (.bool true), .lit (.bool true)], .agg [.lit (.bool true), .lit (.bool true)], .agg [.lit (.bool true), .lit (.bool true)], .agg [.lit (.bool false), .lit (.bool false)]]

/-- 'spillwaylaw17.BreakerRuns': WHATEVER THE INPUT: true; the input reads as it did. -/
def breakerRunsSpec : ChangeSpec := { name := "breakerRuns", fn := fun _ => fun
  | [d1, d2] => { results := [.lit (.bool true)], args := [d1, d2] }
  | _ => none }
def breakerRunsRow : OpenClaim := { program := "ytkhbbppkghcbeaadoor", sum := "2d9f79150e723bb8fc547e9afdb43a79867841276728bdfdd0657f322debbb5b", func := "spillway/spillwaylaw17.BreakerRuns", spec := "breakerRuns", named := ["spillway/breaker.uses"], apart := false, laid := [("spillway/breaker.uses", laid_spillway_breaker_uses)] }
def BreakerRunsSaid : Prop := breakerRunsRow.holds Tryd.pinned (OpenSpec.ofChange breakerRunsSpec)

/-- ITS FALSE NEIGHBOUR: 'it returns false'. Refute it at one input. -/
def breakerRunsWrong : ChangeSpec := { name := "breakerRuns", fn := fun _ => fun
  | [d1, d2] => { results := [.lit (.bool false)], args := [d1, d2] }
  | _ => none }
def BreakerRunsWrongFalsely : Prop := breakerRunsRow.holds Tryd.pinned (OpenSpec.ofChange breakerRunsWrong)

/-- 'spillwaylaw17.BreakerSplit': WHATEVER THE INPUT: true; the input reads as it did. -/
def breakerSplitSpec : ChangeSpec := { name := "breakerSplit", fn := fun _ => fun
  | [d1, d2, d3] => { results := [.lit (.bool true)], args := [d1, d2, d3] }
  | _ => none }
def breakerSplitRow : OpenClaim := { program := "ytkhbbppkghcbeaadoor", sum := "2d9f79150e723bb8fc547e9afdb43a79867841276728bdfdd0657f322debbb5b", func := "spillway/spillwaylaw17.BreakerSplit", spec := "breakerSplit", named := ["spillway/breaker.uses"], apart := false, laid := [("spillway/breaker.uses", laid_spillway_breaker_uses)] }
def BreakerSplitSaid : Prop := breakerSplitRow.holds Tryd.pinned (OpenSpec.ofChange breakerSplitSpec)

/-- ITS FALSE NEIGHBOUR: 'it returns false'. Refute it at one input. -/
def breakerSplitWrong : ChangeSpec := { name := "breakerSplit", fn := fun _ => fun
  | [d1, d2, d3] => { results := [.lit (.bool false)], args := [d1, d2, d3] }
  | _ => none }
def BreakerSplitWrongFalsely : Prop := breakerSplitRow.holds Tryd.pinned (OpenSpec.ofChange breakerSplitWrong)

/-- 'spillwaylaw17.BreakerSteps': WHATEVER THE INPUT: true; the input reads as it did. -/
def breakerStepsSpec : ChangeSpec := { name := "breakerSteps", fn := fun _ => fun
  | [d1, d2] => { results := [.lit (.bool true)], args := [d1, d2] }
  | _ => none }
def breakerStepsRow : OpenClaim := { program := "ytkhbbppkghcbeaadoor", sum := "2d9f79150e723bb8fc547e9afdb43a79867841276728bdfdd0657f322debbb5b", func := "spillway/spillwaylaw17.BreakerSteps", spec := "breakerSteps", named := ["spillway/breaker.uses"], apart := false, laid := [("spillway/breaker.uses", laid_spillway_breaker_uses)] }
def BreakerStepsSaid : Prop := breakerStepsRow.holds Tryd.pinned (OpenSpec.ofChange breakerStepsSpec)

/-- ITS FALSE NEIGHBOUR: 'it returns false'. Refute it at one input. -/
def breakerStepsWrong : ChangeSpec := { name := "breakerSteps", fn := fun _ => fun
  | [d1, d2] => { results := [.lit (.bool false)], args := [d1, d2] }
  | _ => none }
def BreakerStepsWrongFalsely : Prop := breakerStepsRow.holds Tryd.pinned (OpenSpec.ofChange breakerStepsWrong)

/-- 'spillwaylaw17.BreakerProbe': WHATEVER THE INPUT: true; the input reads as it did. -/
def breakerProbeSpec : ChangeSpec := { name := "breakerProbe", fn := fun _ => fun
  | [d1, d2] => { results := [.lit (.bool true)], args := [d1, d2] }
  | _ => none }
def breakerProbeRow : OpenClaim := { program := "ytkhbbppkghcbeaadoor", sum := "2d9f79150e723bb8fc547e9afdb43a79867841276728bdfdd0657f322debbb5b", func := "spillway/spillwaylaw17.BreakerProbe", spec := "breakerProbe", named := ["spillway/breaker.uses"], apart := false, laid := [("spillway/breaker.uses", laid_spillway_breaker_uses)] }
def BreakerProbeSaid : Prop := breakerProbeRow.holds Tryd.pinned (OpenSpec.ofChange breakerProbeSpec)

/-- ITS FALSE NEIGHBOUR: 'it returns false'. Refute it at one input. -/
def breakerProbeWrong : ChangeSpec := { name := "breakerProbe", fn := fun _ => fun
  | [d1, d2] => { results := [.lit (.bool false)], args := [d1, d2] }
  | _ => none }
def BreakerProbeWrongFalsely : Prop := breakerProbeRow.holds Tryd.pinned (OpenSpec.ofChange breakerProbeWrong)

/-- 'spillwaylaw17.BreakerBack': WHATEVER THE INPUT: true; the input reads as it did. -/
def breakerBackSpec : ChangeSpec := { name := "breakerBack", fn := fun _ => fun
  | [d1, d2, d3] => { results := [.lit (.bool true)], args := [d1, d2, d3] }
  | _ => none }
def breakerBackRow : OpenClaim := { program := "ytkhbbppkghcbeaadoor", sum := "2d9f79150e723bb8fc547e9afdb43a79867841276728bdfdd0657f322debbb5b", func := "spillway/spillwaylaw17.BreakerBack", spec := "breakerBack", named := ["spillway/breaker.uses"], apart := false, laid := [("spillway/breaker.uses", laid_spillway_breaker_uses)] }
def BreakerBackSaid : Prop := breakerBackRow.holds Tryd.pinned (OpenSpec.ofChange breakerBackSpec)

/-- ITS FALSE NEIGHBOUR: 'it returns false'. Refute it at one input. -/
def breakerBackWrong : ChangeSpec := { name := "breakerBack", fn := fun _ => fun
  | [d1, d2, d3] => { results := [.lit (.bool false)], args := [d1, d2, d3] }
  | _ => none }
def BreakerBackWrongFalsely : Prop := breakerBackRow.holds Tryd.pinned (OpenSpec.ofChange breakerBackWrong)

/-- 'spillwaylaw17.BreakerChecks': WHATEVER THE INPUT: true; the input reads as it did. -/
def breakerChecksSpec : ChangeSpec := { name := "breakerChecks", fn := fun _ => fun
  | [d] => { results := [.lit (.bool true)], args := [d] }
  | _ => none }
def breakerChecksRow : OpenClaim := { program := "ytkhbbppkghcbeaadoor", sum := "2d9f79150e723bb8fc547e9afdb43a79867841276728bdfdd0657f322debbb5b", func := "spillway/spillwaylaw17.BreakerChecks", spec := "breakerChecks", named := ["spillway/breaker.uses"], apart := false, laid := [("spillway/breaker.uses", laid_spillway_breaker_uses)] }
def BreakerChecksSaid : Prop := breakerChecksRow.holds Tryd.pinned (OpenSpec.ofChange breakerChecksSpec)

/-- ITS FALSE NEIGHBOUR: 'it returns false'. Refute it at one input. -/
def breakerChecksWrong : ChangeSpec := { name := "breakerChecks", fn := fun _ => fun
  | [d] => { results := [.lit (.bool false)], args := [d] }
  | _ => none }
def BreakerChecksWrongFalsely : Prop := breakerChecksRow.holds Tryd.pinned (OpenSpec.ofChange breakerChecksWrong)

/-- 'spillwaylaw17.BreakerOpens': WHATEVER THE INPUT: true; the input reads as it did. -/
def breakerOpensSpec : ChangeSpec := { name := "breakerOpens", fn := fun _ => fun
  | [d1, d2, d3] => { results := [.lit (.bool true)], args := [d1, d2, d3] }
  | _ => none }
def breakerOpensRow : OpenClaim := { program := "ytkhbbppkghcbeaadoor", sum := "2d9f79150e723bb8fc547e9afdb43a79867841276728bdfdd0657f322debbb5b", func := "spillway/spillwaylaw17.BreakerOpens", spec := "breakerOpens", named := ["spillway/breaker.uses"], apart := false, laid := [("spillway/breaker.uses", laid_spillway_breaker_uses)] }
def BreakerOpensSaid : Prop := breakerOpensRow.holds Tryd.pinned (OpenSpec.ofChange breakerOpensSpec)

/-- ITS FALSE NEIGHBOUR: 'it returns false'. Refute it at one input. -/
def breakerOpensWrong : ChangeSpec := { name := "breakerOpens", fn := fun _ => fun
  | [d1, d2, d3] => { results := [.lit (.bool false)], args := [d1, d2, d3] }
  | _ => none }
def BreakerOpensWrongFalsely : Prop := breakerOpensRow.holds Tryd.pinned (OpenSpec.ofChange breakerOpensWrong)

/-- 'spillwaylaw17.BreakerKnown': WHATEVER THE INPUT: true; the input reads as it did. -/
def breakerKnownSpec : ChangeSpec := { name := "breakerKnown", fn := fun _ => fun
  | [] => { results := [.lit (.bool true)], args := [] }
  | _ => none }
def breakerKnownRow : OpenClaim := { program := "ytkhbbppkghcbeaadoor", sum := "2d9f79150e723bb8fc547e9afdb43a79867841276728bdfdd0657f322debbb5b", func := "spillway/spillwaylaw17.BreakerKnown", spec := "breakerKnown", named := ["spillway/breaker.uses"], apart := false, laid := [("spillway/breaker.uses", laid_spillway_breaker_uses)] }
def BreakerKnownSaid : Prop := breakerKnownRow.holds Tryd.pinned (OpenSpec.ofChange breakerKnownSpec)

/-- ITS FALSE NEIGHBOUR: 'it returns false'. Refute it at one input. -/
def breakerKnownWrong : ChangeSpec := { name := "breakerKnown", fn := fun _ => fun
  | [] => { results := [.lit (.bool false)], args := [] }
  | _ => none }
def BreakerKnownWrongFalsely : Prop := breakerKnownRow.holds Tryd.pinned (OpenSpec.ofChange breakerKnownWrong)

/- THE SECOND FORM. 'bulk': how many values and letters a reading holds, each counted each time it is reached (what is shared counts as often as it is met; a slice's spare places count too). A statement '..UptoSaid' is the law's where the arguments, and the package variables that the reading takes, are together of bulk at most 1048576: NARROWER than '..Said'. Prove '..Said' where nothing that the law and all that it calls make is longer than what came in: it says more and counts as full. Else prove '..UptoSaid'. A law counts once. -/
mutual
def uptoBulk {H : Type} : DataW H → Nat
  | .lit (.string bytes) => bytes.length + 1
  | .lit _ => 1
  | .nil => 1
  | .ptr d => uptoBulk d + 1
  | .slice elems spare => uptoBulkAll elems + uptoBulkAll spare + 1
  | .agg parts => uptoBulkAll parts + 1
  | .iface _ d => uptoBulk d + 1
  | .map entries => uptoBulkEntries entries + 1
  | .held _ => 1
def uptoBulkAll {H : Type} : List (DataW H) → Nat
  | [] => 0
  | d :: r => uptoBulk d + uptoBulkAll r
def uptoBulkEntries {H : Type} : List (Lit × DataW H) → Nat
  | [] => 0
  | x :: r => uptoBulkEntry x + uptoBulkEntries r
def uptoBulkEntry {H : Type} : Lit × DataW H → Nat
  | (.string bytes, d) => bytes.length + uptoBulk d + 1
  | (_, d) => uptoBulk d + 1
 end
def uptoSmall : (H : Type) → List (DataW H) → Bool := fun _ ds => decide (uptoBulkAll ds ≤ 1048576)
def OpenSpec.upto (s : _root_.Go.ChangeSpec) : _root_.Go.OpenSpec := { _root_.Go.OpenSpec.ofChange s with cond := some uptoSmall }

/-- 'spillwaylaw17.BreakerRuns', WHERE WHAT IT READS IS OF BULK AT MOST 1048576: true; the input reads as it did. -/
def breakerRunsUptoRow : OpenClaim := { program := "ytkhbbppkghcbeaadoor", sum := "2d9f79150e723bb8fc547e9afdb43a79867841276728bdfdd0657f322debbb5b", func := "spillway/spillwaylaw17.BreakerRuns", spec := "breakerRuns", named := ["spillway/breaker.uses"], apart := false, laid := [("spillway/breaker.uses", laid_spillway_breaker_uses)], narrowed := true }
def BreakerRunsUptoSaid : Prop := breakerRunsUptoRow.holds Tryd.pinned (OpenSpec.upto breakerRunsSpec)

/-- 'spillwaylaw17.BreakerSplit', WHERE WHAT IT READS IS OF BULK AT MOST 1048576: true; the input reads as it did. -/
def breakerSplitUptoRow : OpenClaim := { program := "ytkhbbppkghcbeaadoor", sum := "2d9f79150e723bb8fc547e9afdb43a79867841276728bdfdd0657f322debbb5b", func := "spillway/spillwaylaw17.BreakerSplit", spec := "breakerSplit", named := ["spillway/breaker.uses"], apart := false, laid := [("spillway/breaker.uses", laid_spillway_breaker_uses)], narrowed := true }
def BreakerSplitUptoSaid : Prop := breakerSplitUptoRow.holds Tryd.pinned (OpenSpec.upto breakerSplitSpec)

/-- 'spillwaylaw17.BreakerSteps', WHERE WHAT IT READS IS OF BULK AT MOST 1048576: true; the input reads as it did. -/
def breakerStepsUptoRow : OpenClaim := { program := "ytkhbbppkghcbeaadoor", sum := "2d9f79150e723bb8fc547e9afdb43a79867841276728bdfdd0657f322debbb5b", func := "spillway/spillwaylaw17.BreakerSteps", spec := "breakerSteps", named := ["spillway/breaker.uses"], apart := false, laid := [("spillway/breaker.uses", laid_spillway_breaker_uses)], narrowed := true }
def BreakerStepsUptoSaid : Prop := breakerStepsUptoRow.holds Tryd.pinned (OpenSpec.upto breakerStepsSpec)

/-- 'spillwaylaw17.BreakerProbe', WHERE WHAT IT READS IS OF BULK AT MOST 1048576: true; the input reads as it did. -/
def breakerProbeUptoRow : OpenClaim := { program := "ytkhbbppkghcbeaadoor", sum := "2d9f79150e723bb8fc547e9afdb43a79867841276728bdfdd0657f322debbb5b", func := "spillway/spillwaylaw17.BreakerProbe", spec := "breakerProbe", named := ["spillway/breaker.uses"], apart := false, laid := [("spillway/breaker.uses", laid_spillway_breaker_uses)], narrowed := true }
def BreakerProbeUptoSaid : Prop := breakerProbeUptoRow.holds Tryd.pinned (OpenSpec.upto breakerProbeSpec)

/-- 'spillwaylaw17.BreakerBack', WHERE WHAT IT READS IS OF BULK AT MOST 1048576: true; the input reads as it did. -/
def breakerBackUptoRow : OpenClaim := { program := "ytkhbbppkghcbeaadoor", sum := "2d9f79150e723bb8fc547e9afdb43a79867841276728bdfdd0657f322debbb5b", func := "spillway/spillwaylaw17.BreakerBack", spec := "breakerBack", named := ["spillway/breaker.uses"], apart := false, laid := [("spillway/breaker.uses", laid_spillway_breaker_uses)], narrowed := true }
def BreakerBackUptoSaid : Prop := breakerBackUptoRow.holds Tryd.pinned (OpenSpec.upto breakerBackSpec)

/-- 'spillwaylaw17.BreakerChecks', WHERE WHAT IT READS IS OF BULK AT MOST 1048576: true; the input reads as it did. -/
def breakerChecksUptoRow : OpenClaim := { program := "ytkhbbppkghcbeaadoor", sum := "2d9f79150e723bb8fc547e9afdb43a79867841276728bdfdd0657f322debbb5b", func := "spillway/spillwaylaw17.BreakerChecks", spec := "breakerChecks", named := ["spillway/breaker.uses"], apart := false, laid := [("spillway/breaker.uses", laid_spillway_breaker_uses)], narrowed := true }
def BreakerChecksUptoSaid : Prop := breakerChecksUptoRow.holds Tryd.pinned (OpenSpec.upto breakerChecksSpec)

/-- 'spillwaylaw17.BreakerOpens', WHERE WHAT IT READS IS OF BULK AT MOST 1048576: true; the input reads as it did. -/
def breakerOpensUptoRow : OpenClaim := { program := "ytkhbbppkghcbeaadoor", sum := "2d9f79150e723bb8fc547e9afdb43a79867841276728bdfdd0657f322debbb5b", func := "spillway/spillwaylaw17.BreakerOpens", spec := "breakerOpens", named := ["spillway/breaker.uses"], apart := false, laid := [("spillway/breaker.uses", laid_spillway_breaker_uses)], narrowed := true }
def BreakerOpensUptoSaid : Prop := breakerOpensUptoRow.holds Tryd.pinned (OpenSpec.upto breakerOpensSpec)

/-- 'spillwaylaw17.BreakerKnown', WHERE WHAT IT READS IS OF BULK AT MOST 1048576: true; the input reads as it did. -/
def breakerKnownUptoRow : OpenClaim := { program := "ytkhbbppkghcbeaadoor", sum := "2d9f79150e723bb8fc547e9afdb43a79867841276728bdfdd0657f322debbb5b", func := "spillway/spillwaylaw17.BreakerKnown", spec := "breakerKnown", named := ["spillway/breaker.uses"], apart := false, laid := [("spillway/breaker.uses", laid_spillway_breaker_uses)], narrowed := true }
def BreakerKnownUptoSaid : Prop := breakerKnownUptoRow.holds Tryd.pinned (OpenSpec.upto breakerKnownSpec)

end Rows
end Go.Proofs.YtkhbbppkghcbeaaDoor
