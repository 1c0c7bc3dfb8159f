/-
  DERIVED. GIVEN WITH THE SEED: THE CARDS: each row of YtdoogdbjiijifaaGreatDoorRows.lean that lists a variable, with what it lists TIED to the program's text (the seventh form; the later family's looks); each row that meets fmt, with fmt's text TOLD by the authors' own Lean function (tested against real Go, not proved from fmt's source: count such statements apart). THE CARD IS WHAT COUNTS. Prove the row's statement (the work); the ties are given (YtdoogdbjiijifaaGreatDoorTie.lean); close each card by the builder's one call (the guide's Derived/Test/ToyasCard.lean, 'card_holds'). Laid BY PROGRAM, IN A SANDBOX (cutbox-door.mjs). By AI agents, Wed Nov 11 2026. No macro, syntax, notation, axiom, sorry.
-/
import Derived.Test.YtdoogdbjiijifaaGreatDoorRows
import GoSem.ClaimSeven
namespace Go.Proofs.YtdoogdbjiijifaaGreatDoor
namespace Rows

/-- THE TIED CARD OF 'spillwaylaw09.ResponseHeads'. -/
def responseHeadsCard : Claim7 := { stood := { row := responseHeadsRow, standIns := [], harness := (true, "5dda840d985cf5c73580e4df633989ba33cce686e575f2248b0f7aad07944638"), looks := true }, kinds := [], alts := [], laidByText := true, laidKinds := [.data, .data, .data, .data, .sentinel, .sentinel, .pinned, .pinned], laidTests := true, laidLooks := .later }
def ResponseHeadsCardSaid : Prop := Claim7.holds Tryz.pinned (.plain (OpenSpec.ofChange responseHeadsSpec)) responseHeadsCard

/-- THE TIED CARD OF 'spillwaylaw09.ResponseWhole'. -/
def responseWholeCard : Claim7 := { stood := { row := responseWholeRow, standIns := [], harness := (true, "5dda840d985cf5c73580e4df633989ba33cce686e575f2248b0f7aad07944638"), looks := true }, kinds := [], alts := [], laidByText := true, laidKinds := [.data, .data, .data, .data, .sentinel, .sentinel, .pinned, .pinned], laidTests := true, laidLooks := .later }
def ResponseWholeCardSaid : Prop := Claim7.holds Tryz.pinned (.plain (OpenSpec.ofChange responseWholeSpec)) responseWholeCard

/-- THE TIED CARD OF 'spillwaylaw09.ResponseKnown'. -/
def responseKnownCard : Claim7 := { stood := { row := responseKnownRow, standIns := [], harness := (true, "5dda840d985cf5c73580e4df633989ba33cce686e575f2248b0f7aad07944638"), looks := true }, kinds := [], alts := [], laidByText := true, laidKinds := [.data, .data, .data, .data, .sentinel, .sentinel, .pinned, .pinned], laidTests := true, laidLooks := .later }
def ResponseKnownCardSaid : Prop := Claim7.holds Tryz.pinned (.plain (OpenSpec.ofChange responseKnownSpec)) responseKnownCard

/-- THE TIED CARD OF 'spillwaylaw09.ResponseBack'. -/
def responseBackCard : Claim7 := { stood := { row := responseBackRow, standIns := [], harness := (true, "5dda840d985cf5c73580e4df633989ba33cce686e575f2248b0f7aad07944638"), looks := true }, kinds := [], alts := [], laidByText := true, laidKinds := [.data, .data, .data, .data, .sentinel, .sentinel, .pinned, .pinned], laidTests := true, laidLooks := .later }
def ResponseBackCardSaid : Prop := Claim7.holds Tryz.pinned (.plain (OpenSpec.ofChange responseBackSpec)) responseBackCard

/-- THE TIED CARD OF 'spillwaylaw10.MessageBegins'. -/
def messageBeginsCard : Claim7 := { stood := { row := messageBeginsRow, standIns := [], harness := (true, "5dda840d985cf5c73580e4df633989ba33cce686e575f2248b0f7aad07944638"), looks := true }, kinds := [], alts := [], laidByText := true, laidKinds := [.data, .data, .data, .data, .sentinel, .sentinel, .data, .pinned, .pinned], laidTests := true, laidLooks := .later }
def MessageBeginsCardSaid : Prop := Claim7.holds Tryz.pinned (.plain (OpenSpec.ofChange messageBeginsSpec)) messageBeginsCard

/-- THE TIED CARD OF 'spillwaylaw10.MessageChecks'. -/
def messageChecksCard : Claim7 := { stood := { row := messageChecksRow, standIns := [], harness := (true, "5dda840d985cf5c73580e4df633989ba33cce686e575f2248b0f7aad07944638"), looks := true }, kinds := [], alts := [], laidByText := true, laidKinds := [.data, .data, .data, .data, .sentinel, .sentinel, .data, .pinned, .pinned], laidTests := true, laidLooks := .later }
def MessageChecksCardSaid : Prop := Claim7.holds Tryz.pinned (.plain (OpenSpec.ofChange messageChecksSpec)) messageChecksCard

/-- THE TIED CARD OF 'spillwaylaw10.MessagePlays'. -/
def messagePlaysCard : Claim7 := { stood := { row := messagePlaysRow, standIns := [], harness := (true, "5dda840d985cf5c73580e4df633989ba33cce686e575f2248b0f7aad07944638"), looks := true }, kinds := [], alts := [], laidByText := true, laidKinds := [.data, .data, .data, .data, .sentinel, .sentinel, .data, .pinned, .pinned], laidTests := true, laidLooks := .later }
def MessagePlaysCardSaid : Prop := Claim7.holds Tryz.pinned (.plain (OpenSpec.ofChange messagePlaysSpec)) messagePlaysCard

/-- THE TIED CARD OF 'spillwaylaw10.MessageKnown'. -/
def messageKnownCard : Claim7 := { stood := { row := messageKnownRow, standIns := [], harness := (true, "5dda840d985cf5c73580e4df633989ba33cce686e575f2248b0f7aad07944638"), looks := true }, kinds := [], alts := [], laidByText := true, laidKinds := [.data, .data, .data, .data, .sentinel, .sentinel, .data, .pinned, .pinned], laidTests := true, laidLooks := .later }
def MessageKnownCardSaid : Prop := Claim7.holds Tryz.pinned (.plain (OpenSpec.ofChange messageKnownSpec)) messageKnownCard

/-- THE TIED CARD OF 'spillwaylaw10.MessageSteps'. -/
def messageStepsCard : Claim7 := { stood := { row := messageStepsRow, standIns := [], harness := (true, "5dda840d985cf5c73580e4df633989ba33cce686e575f2248b0f7aad07944638"), looks := true }, kinds := [], alts := [], laidByText := true, laidKinds := [.data, .data, .data, .data, .sentinel, .sentinel, .data, .pinned, .pinned], laidTests := true, laidLooks := .later }
def MessageStepsCardSaid : Prop := Claim7.holds Tryz.pinned (.plain (OpenSpec.ofChange messageStepsSpec)) messageStepsCard

/-- THE TIED CARD OF 'spillwaylaw10.MessagePieces'. -/
def messagePiecesCard : Claim7 := { stood := { row := messagePiecesRow, standIns := [], harness := (true, "5dda840d985cf5c73580e4df633989ba33cce686e575f2248b0f7aad07944638"), looks := true }, kinds := [], alts := [], laidByText := true, laidKinds := [.data, .data, .data, .data, .sentinel, .sentinel, .data, .pinned, .pinned], laidTests := true, laidLooks := .later }
def MessagePiecesCardSaid : Prop := Claim7.holds Tryz.pinned (.plain (OpenSpec.ofChange messagePiecesSpec)) messagePiecesCard

/-- THE TIED CARD OF 'spillwaylaw10.MessageReuse'. -/
def messageReuseCard : Claim7 := { stood := { row := messageReuseRow, standIns := [], harness := (true, "5dda840d985cf5c73580e4df633989ba33cce686e575f2248b0f7aad07944638"), looks := true }, kinds := [], alts := [], laidByText := true, laidKinds := [.data, .data, .data, .data, .sentinel, .sentinel, .data, .pinned, .pinned], laidTests := true, laidLooks := .later }
def MessageReuseCardSaid : Prop := Claim7.holds Tryz.pinned (.plain (OpenSpec.ofChange messageReuseSpec)) messageReuseCard

/-- THE TIED CARD OF 'spillwaylaw10.MessageOne'. -/
def messageOneCard : Claim7 := { stood := { row := messageOneRow, standIns := [], harness := (true, "5dda840d985cf5c73580e4df633989ba33cce686e575f2248b0f7aad07944638"), looks := true }, kinds := [], alts := [], laidByText := true, laidKinds := [.data, .data, .data, .data, .sentinel, .sentinel, .data, .pinned, .pinned], laidTests := true, laidLooks := .later }
def MessageOneCardSaid : Prop := Claim7.holds Tryz.pinned (.plain (OpenSpec.ofChange messageOneSpec)) messageOneCard

/-- THE SECOND FORM's CARD OF 'spillwaylaw09.ResponseHeads'. -/
def responseHeadsUptoCard : Claim7 := { stood := { row := responseHeadsUptoRow, standIns := [], harness := (true, "5dda840d985cf5c73580e4df633989ba33cce686e575f2248b0f7aad07944638"), looks := true }, kinds := [], alts := [], laidByText := true, laidKinds := [.data, .data, .data, .data, .sentinel, .sentinel, .pinned, .pinned], laidTests := true, laidLooks := .later }
def ResponseHeadsUptoCardSaid : Prop := Claim7.holds Tryz.pinned (.plain (OpenSpec.upto responseHeadsSpec)) responseHeadsUptoCard

/-- THE SECOND FORM's CARD OF 'spillwaylaw09.ResponseWhole'. -/
def responseWholeUptoCard : Claim7 := { stood := { row := responseWholeUptoRow, standIns := [], harness := (true, "5dda840d985cf5c73580e4df633989ba33cce686e575f2248b0f7aad07944638"), looks := true }, kinds := [], alts := [], laidByText := true, laidKinds := [.data, .data, .data, .data, .sentinel, .sentinel, .pinned, .pinned], laidTests := true, laidLooks := .later }
def ResponseWholeUptoCardSaid : Prop := Claim7.holds Tryz.pinned (.plain (OpenSpec.upto responseWholeSpec)) responseWholeUptoCard

/-- THE SECOND FORM's CARD OF 'spillwaylaw09.ResponseKnown'. -/
def responseKnownUptoCard : Claim7 := { stood := { row := responseKnownUptoRow, standIns := [], harness := (true, "5dda840d985cf5c73580e4df633989ba33cce686e575f2248b0f7aad07944638"), looks := true }, kinds := [], alts := [], laidByText := true, laidKinds := [.data, .data, .data, .data, .sentinel, .sentinel, .pinned, .pinned], laidTests := true, laidLooks := .later }
def ResponseKnownUptoCardSaid : Prop := Claim7.holds Tryz.pinned (.plain (OpenSpec.upto responseKnownSpec)) responseKnownUptoCard

/-- THE SECOND FORM's CARD OF 'spillwaylaw09.ResponseBack'. -/
def responseBackUptoCard : Claim7 := { stood := { row := responseBackUptoRow, standIns := [], harness := (true, "5dda840d985cf5c73580e4df633989ba33cce686e575f2248b0f7aad07944638"), looks := true }, kinds := [], alts := [], laidByText := true, laidKinds := [.data, .data, .data, .data, .sentinel, .sentinel, .pinned, .pinned], laidTests := true, laidLooks := .later }
def ResponseBackUptoCardSaid : Prop := Claim7.holds Tryz.pinned (.plain (OpenSpec.upto responseBackSpec)) responseBackUptoCard

/-- THE SECOND FORM's CARD OF 'spillwaylaw10.MessageBegins'. -/
def messageBeginsUptoCard : Claim7 := { stood := { row := messageBeginsUptoRow, standIns := [], harness := (true, "5dda840d985cf5c73580e4df633989ba33cce686e575f2248b0f7aad07944638"), looks := true }, kinds := [], alts := [], laidByText := true, laidKinds := [.data, .data, .data, .data, .sentinel, .sentinel, .data, .pinned, .pinned], laidTests := true, laidLooks := .later }
def MessageBeginsUptoCardSaid : Prop := Claim7.holds Tryz.pinned (.plain (OpenSpec.upto messageBeginsSpec)) messageBeginsUptoCard

/-- THE SECOND FORM's CARD OF 'spillwaylaw10.MessageChecks'. -/
def messageChecksUptoCard : Claim7 := { stood := { row := messageChecksUptoRow, standIns := [], harness := (true, "5dda840d985cf5c73580e4df633989ba33cce686e575f2248b0f7aad07944638"), looks := true }, kinds := [], alts := [], laidByText := true, laidKinds := [.data, .data, .data, .data, .sentinel, .sentinel, .data, .pinned, .pinned], laidTests := true, laidLooks := .later }
def MessageChecksUptoCardSaid : Prop := Claim7.holds Tryz.pinned (.plain (OpenSpec.upto messageChecksSpec)) messageChecksUptoCard

/-- THE SECOND FORM's CARD OF 'spillwaylaw10.MessagePlays'. -/
def messagePlaysUptoCard : Claim7 := { stood := { row := messagePlaysUptoRow, standIns := [], harness := (true, "5dda840d985cf5c73580e4df633989ba33cce686e575f2248b0f7aad07944638"), looks := true }, kinds := [], alts := [], laidByText := true, laidKinds := [.data, .data, .data, .data, .sentinel, .sentinel, .data, .pinned, .pinned], laidTests := true, laidLooks := .later }
def MessagePlaysUptoCardSaid : Prop := Claim7.holds Tryz.pinned (.plain (OpenSpec.upto messagePlaysSpec)) messagePlaysUptoCard

/-- THE SECOND FORM's CARD OF 'spillwaylaw10.MessageKnown'. -/
def messageKnownUptoCard : Claim7 := { stood := { row := messageKnownUptoRow, standIns := [], harness := (true, "5dda840d985cf5c73580e4df633989ba33cce686e575f2248b0f7aad07944638"), looks := true }, kinds := [], alts := [], laidByText := true, laidKinds := [.data, .data, .data, .data, .sentinel, .sentinel, .data, .pinned, .pinned], laidTests := true, laidLooks := .later }
def MessageKnownUptoCardSaid : Prop := Claim7.holds Tryz.pinned (.plain (OpenSpec.upto messageKnownSpec)) messageKnownUptoCard

/-- THE SECOND FORM's CARD OF 'spillwaylaw10.MessageSteps'. -/
def messageStepsUptoCard : Claim7 := { stood := { row := messageStepsUptoRow, standIns := [], harness := (true, "5dda840d985cf5c73580e4df633989ba33cce686e575f2248b0f7aad07944638"), looks := true }, kinds := [], alts := [], laidByText := true, laidKinds := [.data, .data, .data, .data, .sentinel, .sentinel, .data, .pinned, .pinned], laidTests := true, laidLooks := .later }
def MessageStepsUptoCardSaid : Prop := Claim7.holds Tryz.pinned (.plain (OpenSpec.upto messageStepsSpec)) messageStepsUptoCard

/-- THE SECOND FORM's CARD OF 'spillwaylaw10.MessagePieces'. -/
def messagePiecesUptoCard : Claim7 := { stood := { row := messagePiecesUptoRow, standIns := [], harness := (true, "5dda840d985cf5c73580e4df633989ba33cce686e575f2248b0f7aad07944638"), looks := true }, kinds := [], alts := [], laidByText := true, laidKinds := [.data, .data, .data, .data, .sentinel, .sentinel, .data, .pinned, .pinned], laidTests := true, laidLooks := .later }
def MessagePiecesUptoCardSaid : Prop := Claim7.holds Tryz.pinned (.plain (OpenSpec.upto messagePiecesSpec)) messagePiecesUptoCard

/-- THE SECOND FORM's CARD OF 'spillwaylaw10.MessageReuse'. -/
def messageReuseUptoCard : Claim7 := { stood := { row := messageReuseUptoRow, standIns := [], harness := (true, "5dda840d985cf5c73580e4df633989ba33cce686e575f2248b0f7aad07944638"), looks := true }, kinds := [], alts := [], laidByText := true, laidKinds := [.data, .data, .data, .data, .sentinel, .sentinel, .data, .pinned, .pinned], laidTests := true, laidLooks := .later }
def MessageReuseUptoCardSaid : Prop := Claim7.holds Tryz.pinned (.plain (OpenSpec.upto messageReuseSpec)) messageReuseUptoCard

/-- THE SECOND FORM's CARD OF 'spillwaylaw10.MessageOne'. -/
def messageOneUptoCard : Claim7 := { stood := { row := messageOneUptoRow, standIns := [], harness := (true, "5dda840d985cf5c73580e4df633989ba33cce686e575f2248b0f7aad07944638"), looks := true }, kinds := [], alts := [], laidByText := true, laidKinds := [.data, .data, .data, .data, .sentinel, .sentinel, .data, .pinned, .pinned], laidTests := true, laidLooks := .later }
def MessageOneUptoCardSaid : Prop := Claim7.holds Tryz.pinned (.plain (OpenSpec.upto messageOneSpec)) messageOneUptoCard
end Rows
end Go.Proofs.YtdoogdbjiijifaaGreatDoor
