/-
  DERIVED. GIVEN WITH THE SEED: THE CARDS: each row of YtljlcljlnhaniaaGreatDoorRows.lean that lists a variable, with what it lists TIED to the program's text (the seventh form; the later family's looks); each row that meets fmt, with fmt's text TOLD by the authors' own Lean function (tested against real Go, not proved from fmt's source: count such statements apart). THE CARD IS WHAT COUNTS. Prove the row's statement (the work); the ties are given (YtljlcljlnhaniaaGreatDoorTie.lean); close each card by the builder's one call (the guide's Derived/Test/ToyasCard.lean, 'card_holds'). Laid BY PROGRAM, IN A SANDBOX (cutbox-door.mjs). By AI agents, Wed Nov 11 2026. No macro, syntax, notation, axiom, sorry.
-/
import Derived.Test.YtljlcljlnhaniaaGreatDoorRows
import GoSem.ClaimSeven
namespace Go.Proofs.YtljlcljlnhaniaaGreatDoor
namespace Rows

/-- THE TIED CARD OF 'spillwaylaw10.MessageKnown'. -/
def messageKnownCard : Claim7 := { stood := { row := messageKnownRow, standIns := [], harness := (true, "ebd56a2668bca5a78c87a5b442713ca5795c5b0eb31f92446b6b4e73dd8ac880"), looks := true }, kinds := [], alts := [], laidByText := true, laidKinds := [.data, .data, .data, .data, .sentinel, .sentinel, .data, .pinned, .pinned], laidTests := true, laidLooks := .later }
def MessageKnownCardSaid : Prop := Claim7.holds Tryz.pinned (.plain (OpenSpec.ofChange messageKnownSpec)) messageKnownCard

/-- THE TIED CARD OF 'spillwaylaw24.AttemptKnown'. -/
def attemptKnownCard : Claim7 := { stood := { row := attemptKnownRow, standIns := [], harness := (true, "ebd56a2668bca5a78c87a5b442713ca5795c5b0eb31f92446b6b4e73dd8ac880"), looks := true }, kinds := [], alts := [], laidByText := true, laidKinds := [.data, .data, .data, .data, .sentinel, .sentinel, .data, .pinned, .pinned], laidTests := true, laidLooks := .later }
def AttemptKnownCardSaid : Prop := Claim7.holds Tryz.pinned (.plain (OpenSpec.ofChange attemptKnownSpec)) attemptKnownCard

/-- THE TIED CARD OF 'spillwaylaw13.BackendSplits'. -/
def backendSplitsCard : Claim7 := { stood := { row := backendSplitsRow, standIns := [], harness := (true, "ebd56a2668bca5a78c87a5b442713ca5795c5b0eb31f92446b6b4e73dd8ac880"), looks := true }, kinds := [], alts := [], laidByText := true, laidKinds := [.data, .data, .data, .data, .sentinel, .sentinel, .data, .pinned, .pinned], laidTests := true, laidLooks := .later }
def BackendSplitsCardSaid : Prop := Claim7.holds Tryz.pinned (.plain (OpenSpec.ofChange backendSplitsSpec)) backendSplitsCard

/-- THE TIED CARD OF 'spillwaylaw13.BackendKnown'. -/
def backendKnownCard : Claim7 := { stood := { row := backendKnownRow, standIns := [], harness := (true, "ebd56a2668bca5a78c87a5b442713ca5795c5b0eb31f92446b6b4e73dd8ac880"), looks := true }, kinds := [], alts := [], laidByText := true, laidKinds := [.data, .data, .data, .data, .sentinel, .sentinel, .data, .data, .widerDeep, .widerDeep, .pinned, .pinned], laidTests := true, laidLooks := .later }
def BackendKnownCardSaid : Prop := Claim7.holds Tryz.pinned (.plain (OpenSpec.ofChange backendKnownSpec)) backendKnownCard

/-- THE SECOND FORM's CARD OF 'spillwaylaw10.MessageKnown'. -/
def messageKnownUptoCard : Claim7 := { stood := { row := messageKnownUptoRow, standIns := [], harness := (true, "ebd56a2668bca5a78c87a5b442713ca5795c5b0eb31f92446b6b4e73dd8ac880"), looks := true }, kinds := [], alts := [], laidByText := true, laidKinds := [.data, .data, .data, .data, .sentinel, .sentinel, .data, .pinned, .pinned], laidTests := true, laidLooks := .later }
def MessageKnownUptoCardSaid : Prop := Claim7.holds Tryz.pinned (.plain (OpenSpec.upto messageKnownSpec)) messageKnownUptoCard

/-- THE SECOND FORM's CARD OF 'spillwaylaw24.AttemptKnown'. -/
def attemptKnownUptoCard : Claim7 := { stood := { row := attemptKnownUptoRow, standIns := [], harness := (true, "ebd56a2668bca5a78c87a5b442713ca5795c5b0eb31f92446b6b4e73dd8ac880"), looks := true }, kinds := [], alts := [], laidByText := true, laidKinds := [.data, .data, .data, .data, .sentinel, .sentinel, .data, .pinned, .pinned], laidTests := true, laidLooks := .later }
def AttemptKnownUptoCardSaid : Prop := Claim7.holds Tryz.pinned (.plain (OpenSpec.upto attemptKnownSpec)) attemptKnownUptoCard

/-- THE SECOND FORM's CARD OF 'spillwaylaw13.BackendSplits'. -/
def backendSplitsUptoCard : Claim7 := { stood := { row := backendSplitsUptoRow, standIns := [], harness := (true, "ebd56a2668bca5a78c87a5b442713ca5795c5b0eb31f92446b6b4e73dd8ac880"), looks := true }, kinds := [], alts := [], laidByText := true, laidKinds := [.data, .data, .data, .data, .sentinel, .sentinel, .data, .pinned, .pinned], laidTests := true, laidLooks := .later }
def BackendSplitsUptoCardSaid : Prop := Claim7.holds Tryz.pinned (.plain (OpenSpec.upto backendSplitsSpec)) backendSplitsUptoCard

/-- THE SECOND FORM's CARD OF 'spillwaylaw13.BackendKnown'. -/
def backendKnownUptoCard : Claim7 := { stood := { row := backendKnownUptoRow, standIns := [], harness := (true, "ebd56a2668bca5a78c87a5b442713ca5795c5b0eb31f92446b6b4e73dd8ac880"), looks := true }, kinds := [], alts := [], laidByText := true, laidKinds := [.data, .data, .data, .data, .sentinel, .sentinel, .data, .data, .widerDeep, .widerDeep, .pinned, .pinned], laidTests := true, laidLooks := .later }
def BackendKnownUptoCardSaid : Prop := Claim7.holds Tryz.pinned (.plain (OpenSpec.upto backendKnownSpec)) backendKnownUptoCard
end Rows
end Go.Proofs.YtljlcljlnhaniaaGreatDoor
