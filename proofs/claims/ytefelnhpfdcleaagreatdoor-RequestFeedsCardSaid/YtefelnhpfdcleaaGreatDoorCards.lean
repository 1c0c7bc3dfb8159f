/-
  DERIVED. GIVEN WITH THE SEED: THE CARDS: each row of YtefelnhpfdcleaaGreatDoorRows.lean that lists a variable, with what it lists TIED to the program's text (the seventh form; the later family's looks); each row that meets fmt, with fmt's text TOLD by the authors' own Lean function (tested against real Go, not proved from fmt's source: count such statements apart). THE CARD IS WHAT COUNTS. Prove the row's statement (the work); the ties are given (YtefelnhpfdcleaaGreatDoorTie.lean); close each card by the builder's one call (the guide's Derived/Test/ToyasCard.lean, 'card_holds'). Laid BY PROGRAM, IN A SANDBOX (cutbox-door.mjs). By AI agents, Wed Nov 11 2026. No macro, syntax, notation, axiom, sorry.
-/
import Derived.Test.YtefelnhpfdcleaaGreatDoorRows
import GoSem.ClaimSeven
namespace Go.Proofs.YtefelnhpfdcleaaGreatDoor
namespace Rows

/-- THE TIED CARD OF 'spillwaylaw07.RequestTargets'. -/
def requestTargetsCard : Claim7 := { stood := { row := requestTargetsRow, standIns := [], harness := (true, "f0e496859ce80748332f4c74aa563a30ade1ab77a8cdf2e91bda25251613a70a"), looks := true }, kinds := [], alts := [], laidByText := true, laidKinds := [.data, .data, .data, .data, .sentinel, .sentinel, .data, .pinned], laidTests := true, laidLooks := .later }
def RequestTargetsCardSaid : Prop := Claim7.holds Tryz.pinned (.plain (OpenSpec.ofChange requestTargetsSpec)) requestTargetsCard

/-- THE TIED CARD OF 'spillwaylaw07.RequestEncodes'. -/
def requestEncodesCard : Claim7 := { stood := { row := requestEncodesRow, standIns := [], harness := (true, "f0e496859ce80748332f4c74aa563a30ade1ab77a8cdf2e91bda25251613a70a"), looks := true }, kinds := [], alts := [], laidByText := true, laidKinds := [.data, .data, .data, .data, .sentinel, .sentinel, .data, .pinned], laidTests := true, laidLooks := .later }
def RequestEncodesCardSaid : Prop := Claim7.holds Tryz.pinned (.plain (OpenSpec.ofChange requestEncodesSpec)) requestEncodesCard

/-- THE TIED CARD OF 'spillwaylaw07.RequestParses'. -/
def requestParsesCard : Claim7 := { stood := { row := requestParsesRow, standIns := [], harness := (true, "f0e496859ce80748332f4c74aa563a30ade1ab77a8cdf2e91bda25251613a70a"), looks := true }, kinds := [], alts := [], laidByText := true, laidKinds := [.data, .data, .data, .data, .sentinel, .sentinel, .data, .pinned], laidTests := true, laidLooks := .later }
def RequestParsesCardSaid : Prop := Claim7.holds Tryz.pinned (.plain (OpenSpec.ofChange requestParsesSpec)) requestParsesCard

/-- THE TIED CARD OF 'spillwaylaw07.RequestRound'. -/
def requestRoundCard : Claim7 := { stood := { row := requestRoundRow, standIns := [], harness := (true, "f0e496859ce80748332f4c74aa563a30ade1ab77a8cdf2e91bda25251613a70a"), looks := true }, kinds := [], alts := [], laidByText := true, laidKinds := [.data, .data, .data, .data, .sentinel, .sentinel, .data, .pinned], laidTests := true, laidLooks := .later }
def RequestRoundCardSaid : Prop := Claim7.holds Tryz.pinned (.plain (OpenSpec.ofChange requestRoundSpec)) requestRoundCard

/-- THE TIED CARD OF 'spillwaylaw07.RequestCleans'. -/
def requestCleansCard : Claim7 := { stood := { row := requestCleansRow, standIns := [], harness := (true, "f0e496859ce80748332f4c74aa563a30ade1ab77a8cdf2e91bda25251613a70a"), looks := true }, kinds := [], alts := [], laidByText := true, laidKinds := [.data, .data, .data, .data, .sentinel, .sentinel, .data, .pinned], laidTests := true, laidLooks := .later }
def RequestCleansCardSaid : Prop := Claim7.holds Tryz.pinned (.plain (OpenSpec.ofChange requestCleansSpec)) requestCleansCard

/-- THE TIED CARD OF 'spillwaylaw07.RequestChecks'. -/
def requestChecksCard : Claim7 := { stood := { row := requestChecksRow, standIns := [], harness := (true, "f0e496859ce80748332f4c74aa563a30ade1ab77a8cdf2e91bda25251613a70a"), looks := true }, kinds := [], alts := [], laidByText := true, laidKinds := [.data, .data, .data, .data, .sentinel, .sentinel, .data, .pinned], laidTests := true, laidLooks := .later }
def RequestChecksCardSaid : Prop := Claim7.holds Tryz.pinned (.plain (OpenSpec.ofChange requestChecksSpec)) requestChecksCard

/-- THE TIED CARD OF 'spillwaylaw07.RequestKnown'. -/
def requestKnownCard : Claim7 := { stood := { row := requestKnownRow, standIns := [], harness := (true, "f0e496859ce80748332f4c74aa563a30ade1ab77a8cdf2e91bda25251613a70a"), looks := true }, kinds := [], alts := [], laidByText := true, laidKinds := [.data, .data, .data, .data, .sentinel, .sentinel, .data, .pinned], laidTests := true, laidLooks := .later }
def RequestKnownCardSaid : Prop := Claim7.holds Tryz.pinned (.plain (OpenSpec.ofChange requestKnownSpec)) requestKnownCard

/-- THE TIED CARD OF 'spillwaylaw07.RequestFeeds'. -/
def requestFeedsCard : Claim7 := { stood := { row := requestFeedsRow, standIns := [], harness := (true, "f0e496859ce80748332f4c74aa563a30ade1ab77a8cdf2e91bda25251613a70a"), looks := true }, kinds := [], alts := [], laidByText := true, laidKinds := [.data, .data, .data, .data, .sentinel, .sentinel, .data, .pinned], laidTests := true, laidLooks := .later }
def RequestFeedsCardSaid : Prop := Claim7.holds Tryz.pinned (.plain (OpenSpec.ofChange requestFeedsSpec)) requestFeedsCard

/-- THE TIED CARD OF 'spillwaylaw07.RequestPieces'. -/
def requestPiecesCard : Claim7 := { stood := { row := requestPiecesRow, standIns := [], harness := (true, "f0e496859ce80748332f4c74aa563a30ade1ab77a8cdf2e91bda25251613a70a"), looks := true }, kinds := [], alts := [], laidByText := true, laidKinds := [.data, .data, .data, .data, .sentinel, .sentinel, .data, .pinned], laidTests := true, laidLooks := .later }
def RequestPiecesCardSaid : Prop := Claim7.holds Tryz.pinned (.plain (OpenSpec.ofChange requestPiecesSpec)) requestPiecesCard

/-- THE SECOND FORM's CARD OF 'spillwaylaw07.RequestTargets'. -/
def requestTargetsUptoCard : Claim7 := { stood := { row := requestTargetsUptoRow, standIns := [], harness := (true, "f0e496859ce80748332f4c74aa563a30ade1ab77a8cdf2e91bda25251613a70a"), looks := true }, kinds := [], alts := [], laidByText := true, laidKinds := [.data, .data, .data, .data, .sentinel, .sentinel, .data, .pinned], laidTests := true, laidLooks := .later }
def RequestTargetsUptoCardSaid : Prop := Claim7.holds Tryz.pinned (.plain (OpenSpec.upto requestTargetsSpec)) requestTargetsUptoCard

/-- THE SECOND FORM's CARD OF 'spillwaylaw07.RequestEncodes'. -/
def requestEncodesUptoCard : Claim7 := { stood := { row := requestEncodesUptoRow, standIns := [], harness := (true, "f0e496859ce80748332f4c74aa563a30ade1ab77a8cdf2e91bda25251613a70a"), looks := true }, kinds := [], alts := [], laidByText := true, laidKinds := [.data, .data, .data, .data, .sentinel, .sentinel, .data, .pinned], laidTests := true, laidLooks := .later }
def RequestEncodesUptoCardSaid : Prop := Claim7.holds Tryz.pinned (.plain (OpenSpec.upto requestEncodesSpec)) requestEncodesUptoCard

/-- THE SECOND FORM's CARD OF 'spillwaylaw07.RequestParses'. -/
def requestParsesUptoCard : Claim7 := { stood := { row := requestParsesUptoRow, standIns := [], harness := (true, "f0e496859ce80748332f4c74aa563a30ade1ab77a8cdf2e91bda25251613a70a"), looks := true }, kinds := [], alts := [], laidByText := true, laidKinds := [.data, .data, .data, .data, .sentinel, .sentinel, .data, .pinned], laidTests := true, laidLooks := .later }
def RequestParsesUptoCardSaid : Prop := Claim7.holds Tryz.pinned (.plain (OpenSpec.upto requestParsesSpec)) requestParsesUptoCard

/-- THE SECOND FORM's CARD OF 'spillwaylaw07.RequestRound'. -/
def requestRoundUptoCard : Claim7 := { stood := { row := requestRoundUptoRow, standIns := [], harness := (true, "f0e496859ce80748332f4c74aa563a30ade1ab77a8cdf2e91bda25251613a70a"), looks := true }, kinds := [], alts := [], laidByText := true, laidKinds := [.data, .data, .data, .data, .sentinel, .sentinel, .data, .pinned], laidTests := true, laidLooks := .later }
def RequestRoundUptoCardSaid : Prop := Claim7.holds Tryz.pinned (.plain (OpenSpec.upto requestRoundSpec)) requestRoundUptoCard

/-- THE SECOND FORM's CARD OF 'spillwaylaw07.RequestCleans'. -/
def requestCleansUptoCard : Claim7 := { stood := { row := requestCleansUptoRow, standIns := [], harness := (true, "f0e496859ce80748332f4c74aa563a30ade1ab77a8cdf2e91bda25251613a70a"), looks := true }, kinds := [], alts := [], laidByText := true, laidKinds := [.data, .data, .data, .data, .sentinel, .sentinel, .data, .pinned], laidTests := true, laidLooks := .later }
def RequestCleansUptoCardSaid : Prop := Claim7.holds Tryz.pinned (.plain (OpenSpec.upto requestCleansSpec)) requestCleansUptoCard

/-- THE SECOND FORM's CARD OF 'spillwaylaw07.RequestChecks'. -/
def requestChecksUptoCard : Claim7 := { stood := { row := requestChecksUptoRow, standIns := [], harness := (true, "f0e496859ce80748332f4c74aa563a30ade1ab77a8cdf2e91bda25251613a70a"), looks := true }, kinds := [], alts := [], laidByText := true, laidKinds := [.data, .data, .data, .data, .sentinel, .sentinel, .data, .pinned], laidTests := true, laidLooks := .later }
def RequestChecksUptoCardSaid : Prop := Claim7.holds Tryz.pinned (.plain (OpenSpec.upto requestChecksSpec)) requestChecksUptoCard

/-- THE SECOND FORM's CARD OF 'spillwaylaw07.RequestKnown'. -/
def requestKnownUptoCard : Claim7 := { stood := { row := requestKnownUptoRow, standIns := [], harness := (true, "f0e496859ce80748332f4c74aa563a30ade1ab77a8cdf2e91bda25251613a70a"), looks := true }, kinds := [], alts := [], laidByText := true, laidKinds := [.data, .data, .data, .data, .sentinel, .sentinel, .data, .pinned], laidTests := true, laidLooks := .later }
def RequestKnownUptoCardSaid : Prop := Claim7.holds Tryz.pinned (.plain (OpenSpec.upto requestKnownSpec)) requestKnownUptoCard

/-- THE SECOND FORM's CARD OF 'spillwaylaw07.RequestFeeds'. -/
def requestFeedsUptoCard : Claim7 := { stood := { row := requestFeedsUptoRow, standIns := [], harness := (true, "f0e496859ce80748332f4c74aa563a30ade1ab77a8cdf2e91bda25251613a70a"), looks := true }, kinds := [], alts := [], laidByText := true, laidKinds := [.data, .data, .data, .data, .sentinel, .sentinel, .data, .pinned], laidTests := true, laidLooks := .later }
def RequestFeedsUptoCardSaid : Prop := Claim7.holds Tryz.pinned (.plain (OpenSpec.upto requestFeedsSpec)) requestFeedsUptoCard

/-- THE SECOND FORM's CARD OF 'spillwaylaw07.RequestPieces'. -/
def requestPiecesUptoCard : Claim7 := { stood := { row := requestPiecesUptoRow, standIns := [], harness := (true, "f0e496859ce80748332f4c74aa563a30ade1ab77a8cdf2e91bda25251613a70a"), looks := true }, kinds := [], alts := [], laidByText := true, laidKinds := [.data, .data, .data, .data, .sentinel, .sentinel, .data, .pinned], laidTests := true, laidLooks := .later }
def RequestPiecesUptoCardSaid : Prop := Claim7.holds Tryz.pinned (.plain (OpenSpec.upto requestPiecesSpec)) requestPiecesUptoCard
end Rows
end Go.Proofs.YtefelnhpfdcleaaGreatDoor
