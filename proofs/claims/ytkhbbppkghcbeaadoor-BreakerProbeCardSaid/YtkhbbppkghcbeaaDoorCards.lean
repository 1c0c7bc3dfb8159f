/-
  DERIVED. GIVEN WITH THE SEED: THE CARDS: each row of YtkhbbppkghcbeaaDoorRows.lean that lists a variable, with what it lists TIED to the program's text (the seventh form; the later family's looks); each row that meets fmt, with fmt's text TOLD by the authors' own Lean function (tested against real Go, not proved from fmt's source: count such statements apart). THE CARD IS WHAT COUNTS. Prove the row's statement (the work); the ties are given (YtkhbbppkghcbeaaDoorTie.lean); close each card by the builder's one call (the guide's Derived/Test/ToyasCard.lean, 'card_holds'). Laid BY PROGRAM, IN A SANDBOX (cutbox-door.mjs). By AI agents, Wed Nov 11 2026. No macro, syntax, notation, axiom, sorry.
-/
import Derived.Test.YtkhbbppkghcbeaaDoorRows
import GoSem.ClaimSeven
namespace Go.Proofs.YtkhbbppkghcbeaaDoor
namespace Rows

/-- THE TIED CARD OF 'spillwaylaw17.BreakerRuns'. -/
def breakerRunsCard : Claim7 := { stood := { row := breakerRunsRow, standIns := [], harness := (true, "86ebbb8016269c3cf4eef124f2c15a3a6f8cbb57a9d5337eb680859893419ff5"), looks := false }, kinds := [], alts := [], laidByText := true, laidKinds := [.data], laidTests := true, laidLooks := .later }
def BreakerRunsCardSaid : Prop := Claim7.holds Tryd.pinned (.plain (OpenSpec.ofChange breakerRunsSpec)) breakerRunsCard

/-- THE TIED CARD OF 'spillwaylaw17.BreakerSplit'. -/
def breakerSplitCard : Claim7 := { stood := { row := breakerSplitRow, standIns := [], harness := (true, "86ebbb8016269c3cf4eef124f2c15a3a6f8cbb57a9d5337eb680859893419ff5"), looks := false }, kinds := [], alts := [], laidByText := true, laidKinds := [.data], laidTests := true, laidLooks := .later }
def BreakerSplitCardSaid : Prop := Claim7.holds Tryd.pinned (.plain (OpenSpec.ofChange breakerSplitSpec)) breakerSplitCard

/-- THE TIED CARD OF 'spillwaylaw17.BreakerSteps'. -/
def breakerStepsCard : Claim7 := { stood := { row := breakerStepsRow, standIns := [], harness := (true, "86ebbb8016269c3cf4eef124f2c15a3a6f8cbb57a9d5337eb680859893419ff5"), looks := false }, kinds := [], alts := [], laidByText := true, laidKinds := [.data], laidTests := true, laidLooks := .later }
def BreakerStepsCardSaid : Prop := Claim7.holds Tryd.pinned (.plain (OpenSpec.ofChange breakerStepsSpec)) breakerStepsCard

/-- THE TIED CARD OF 'spillwaylaw17.BreakerProbe'. -/
def breakerProbeCard : Claim7 := { stood := { row := breakerProbeRow, standIns := [], harness := (true, "86ebbb8016269c3cf4eef124f2c15a3a6f8cbb57a9d5337eb680859893419ff5"), looks := false }, kinds := [], alts := [], laidByText := true, laidKinds := [.data], laidTests := true, laidLooks := .later }
def BreakerProbeCardSaid : Prop := Claim7.holds Tryd.pinned (.plain (OpenSpec.ofChange breakerProbeSpec)) breakerProbeCard

/-- THE TIED CARD OF 'spillwaylaw17.BreakerBack'. -/
def breakerBackCard : Claim7 := { stood := { row := breakerBackRow, standIns := [], harness := (true, "86ebbb8016269c3cf4eef124f2c15a3a6f8cbb57a9d5337eb680859893419ff5"), looks := false }, kinds := [], alts := [], laidByText := true, laidKinds := [.data], laidTests := true, laidLooks := .later }
def BreakerBackCardSaid : Prop := Claim7.holds Tryd.pinned (.plain (OpenSpec.ofChange breakerBackSpec)) breakerBackCard

/-- THE TIED CARD OF 'spillwaylaw17.BreakerChecks'. -/
def breakerChecksCard : Claim7 := { stood := { row := breakerChecksRow, standIns := [], harness := (true, "86ebbb8016269c3cf4eef124f2c15a3a6f8cbb57a9d5337eb680859893419ff5"), looks := false }, kinds := [], alts := [], laidByText := true, laidKinds := [.data], laidTests := true, laidLooks := .later }
def BreakerChecksCardSaid : Prop := Claim7.holds Tryd.pinned (.plain (OpenSpec.ofChange breakerChecksSpec)) breakerChecksCard

/-- THE TIED CARD OF 'spillwaylaw17.BreakerOpens'. -/
def breakerOpensCard : Claim7 := { stood := { row := breakerOpensRow, standIns := [], harness := (true, "86ebbb8016269c3cf4eef124f2c15a3a6f8cbb57a9d5337eb680859893419ff5"), looks := false }, kinds := [], alts := [], laidByText := true, laidKinds := [.data], laidTests := true, laidLooks := .later }
def BreakerOpensCardSaid : Prop := Claim7.holds Tryd.pinned (.plain (OpenSpec.ofChange breakerOpensSpec)) breakerOpensCard

/-- THE TIED CARD OF 'spillwaylaw17.BreakerKnown'. -/
def breakerKnownCard : Claim7 := { stood := { row := breakerKnownRow, standIns := [], harness := (true, "86ebbb8016269c3cf4eef124f2c15a3a6f8cbb57a9d5337eb680859893419ff5"), looks := false }, kinds := [], alts := [], laidByText := true, laidKinds := [.data], laidTests := true, laidLooks := .later }
def BreakerKnownCardSaid : Prop := Claim7.holds Tryd.pinned (.plain (OpenSpec.ofChange breakerKnownSpec)) breakerKnownCard

/-- THE SECOND FORM's CARD OF 'spillwaylaw17.BreakerRuns'. -/
def breakerRunsUptoCard : Claim7 := { stood := { row := breakerRunsUptoRow, standIns := [], harness := (true, "86ebbb8016269c3cf4eef124f2c15a3a6f8cbb57a9d5337eb680859893419ff5"), looks := false }, kinds := [], alts := [], laidByText := true, laidKinds := [.data], laidTests := true, laidLooks := .later }
def BreakerRunsUptoCardSaid : Prop := Claim7.holds Tryd.pinned (.plain (OpenSpec.upto breakerRunsSpec)) breakerRunsUptoCard

/-- THE SECOND FORM's CARD OF 'spillwaylaw17.BreakerSplit'. -/
def breakerSplitUptoCard : Claim7 := { stood := { row := breakerSplitUptoRow, standIns := [], harness := (true, "86ebbb8016269c3cf4eef124f2c15a3a6f8cbb57a9d5337eb680859893419ff5"), looks := false }, kinds := [], alts := [], laidByText := true, laidKinds := [.data], laidTests := true, laidLooks := .later }
def BreakerSplitUptoCardSaid : Prop := Claim7.holds Tryd.pinned (.plain (OpenSpec.upto breakerSplitSpec)) breakerSplitUptoCard

/-- THE SECOND FORM's CARD OF 'spillwaylaw17.BreakerSteps'. -/
def breakerStepsUptoCard : Claim7 := { stood := { row := breakerStepsUptoRow, standIns := [], harness := (true, "86ebbb8016269c3cf4eef124f2c15a3a6f8cbb57a9d5337eb680859893419ff5"), looks := false }, kinds := [], alts := [], laidByText := true, laidKinds := [.data], laidTests := true, laidLooks := .later }
def BreakerStepsUptoCardSaid : Prop := Claim7.holds Tryd.pinned (.plain (OpenSpec.upto breakerStepsSpec)) breakerStepsUptoCard

/-- THE SECOND FORM's CARD OF 'spillwaylaw17.BreakerProbe'. -/
def breakerProbeUptoCard : Claim7 := { stood := { row := breakerProbeUptoRow, standIns := [], harness := (true, "86ebbb8016269c3cf4eef124f2c15a3a6f8cbb57a9d5337eb680859893419ff5"), looks := false }, kinds := [], alts := [], laidByText := true, laidKinds := [.data], laidTests := true, laidLooks := .later }
def BreakerProbeUptoCardSaid : Prop := Claim7.holds Tryd.pinned (.plain (OpenSpec.upto breakerProbeSpec)) breakerProbeUptoCard

/-- THE SECOND FORM's CARD OF 'spillwaylaw17.BreakerBack'. -/
def breakerBackUptoCard : Claim7 := { stood := { row := breakerBackUptoRow, standIns := [], harness := (true, "86ebbb8016269c3cf4eef124f2c15a3a6f8cbb57a9d5337eb680859893419ff5"), looks := false }, kinds := [], alts := [], laidByText := true, laidKinds := [.data], laidTests := true, laidLooks := .later }
def BreakerBackUptoCardSaid : Prop := Claim7.holds Tryd.pinned (.plain (OpenSpec.upto breakerBackSpec)) breakerBackUptoCard

/-- THE SECOND FORM's CARD OF 'spillwaylaw17.BreakerChecks'. -/
def breakerChecksUptoCard : Claim7 := { stood := { row := breakerChecksUptoRow, standIns := [], harness := (true, "86ebbb8016269c3cf4eef124f2c15a3a6f8cbb57a9d5337eb680859893419ff5"), looks := false }, kinds := [], alts := [], laidByText := true, laidKinds := [.data], laidTests := true, laidLooks := .later }
def BreakerChecksUptoCardSaid : Prop := Claim7.holds Tryd.pinned (.plain (OpenSpec.upto breakerChecksSpec)) breakerChecksUptoCard

/-- THE SECOND FORM's CARD OF 'spillwaylaw17.BreakerOpens'. -/
def breakerOpensUptoCard : Claim7 := { stood := { row := breakerOpensUptoRow, standIns := [], harness := (true, "86ebbb8016269c3cf4eef124f2c15a3a6f8cbb57a9d5337eb680859893419ff5"), looks := false }, kinds := [], alts := [], laidByText := true, laidKinds := [.data], laidTests := true, laidLooks := .later }
def BreakerOpensUptoCardSaid : Prop := Claim7.holds Tryd.pinned (.plain (OpenSpec.upto breakerOpensSpec)) breakerOpensUptoCard

/-- THE SECOND FORM's CARD OF 'spillwaylaw17.BreakerKnown'. -/
def breakerKnownUptoCard : Claim7 := { stood := { row := breakerKnownUptoRow, standIns := [], harness := (true, "86ebbb8016269c3cf4eef124f2c15a3a6f8cbb57a9d5337eb680859893419ff5"), looks := false }, kinds := [], alts := [], laidByText := true, laidKinds := [.data], laidTests := true, laidLooks := .later }
def BreakerKnownUptoCardSaid : Prop := Claim7.holds Tryd.pinned (.plain (OpenSpec.upto breakerKnownSpec)) breakerKnownUptoCard
end Rows
end Go.Proofs.YtkhbbppkghcbeaaDoor
