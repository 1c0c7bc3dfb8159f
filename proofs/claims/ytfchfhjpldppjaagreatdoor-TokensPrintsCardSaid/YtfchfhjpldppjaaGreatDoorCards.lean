/-
  DERIVED. GIVEN WITH THE SEED: THE CARDS: each row of YtfchfhjpldppjaaGreatDoorRows.lean that lists a variable, with what it lists TIED to the program's text (the seventh form; the later family's looks); each row that meets fmt, with fmt's text TOLD by the authors' own Lean function (tested against real Go, not proved from fmt's source: count such statements apart). THE CARD IS WHAT COUNTS. Prove the row's statement (the work); the ties are given (YtfchfhjpldppjaaGreatDoorTie.lean); close each card by the builder's one call (the guide's Derived/Test/ToyasCard.lean, 'card_holds'). Laid BY PROGRAM, IN A SANDBOX (cutbox-door.mjs). By AI agents, Wed Nov 11 2026. No macro, syntax, notation, axiom, sorry.
-/
import Derived.Test.YtfchfhjpldppjaaGreatDoorRows
import GoSem.ClaimSeven
namespace Go.Proofs.YtfchfhjpldppjaaGreatDoor
namespace Rows

/-- THE TIED CARD OF 'spillwaylaw05.TokensBytes'. -/
def tokensBytesCard : Claim7 := { stood := { row := tokensBytesRow, standIns := [], harness := (true, "949d5a32386bb23fb42fe4a0dca874791432354f7fa039f85fcf54673b706a44"), looks := true }, kinds := [], alts := [], laidByText := true, laidKinds := [.data, .data, .data, .data, .sentinel, .sentinel, .pinned], laidTests := true, laidLooks := .later }
def TokensBytesCardSaid : Prop := Claim7.holds Tryz.pinned (.plain (OpenSpec.ofChange tokensBytesSpec)) tokensBytesCard

/-- THE TIED CARD OF 'spillwaylaw05.TokensElements'. -/
def tokensElementsCard : Claim7 := { stood := { row := tokensElementsRow, standIns := [], harness := (true, "949d5a32386bb23fb42fe4a0dca874791432354f7fa039f85fcf54673b706a44"), looks := true }, kinds := [], alts := [], laidByText := true, laidKinds := [.data, .data, .data, .data, .sentinel, .sentinel, .pinned], laidTests := true, laidLooks := .later }
def TokensElementsCardSaid : Prop := Claim7.holds Tryz.pinned (.plain (OpenSpec.ofChange tokensElementsSpec)) tokensElementsCard

/-- THE TIED CARD OF 'spillwaylaw05.TokensItems'. -/
def tokensItemsCard : Claim7 := { stood := { row := tokensItemsRow, standIns := [], harness := (true, "949d5a32386bb23fb42fe4a0dca874791432354f7fa039f85fcf54673b706a44"), looks := true }, kinds := [], alts := [], laidByText := true, laidKinds := [.data, .data, .data, .data, .sentinel, .sentinel, .pinned], laidTests := true, laidLooks := .later }
def TokensItemsCardSaid : Prop := Claim7.holds Tryz.pinned (.plain (OpenSpec.ofChange tokensItemsSpec)) tokensItemsCard

/-- THE TIED CARD OF 'spillwaylaw05.TokensJoined'. -/
def tokensJoinedCard : Claim7 := { stood := { row := tokensJoinedRow, standIns := [], harness := (true, "949d5a32386bb23fb42fe4a0dca874791432354f7fa039f85fcf54673b706a44"), looks := true }, kinds := [], alts := [], laidByText := true, laidKinds := [.data, .data, .data, .data, .sentinel, .sentinel, .pinned], laidTests := true, laidLooks := .later }
def TokensJoinedCardSaid : Prop := Claim7.holds Tryz.pinned (.plain (OpenSpec.ofChange tokensJoinedSpec)) tokensJoinedCard

/-- THE TIED CARD OF 'spillwaylaw05.TokensOrder'. -/
def tokensOrderCard : Claim7 := { stood := { row := tokensOrderRow, standIns := [], harness := (true, "949d5a32386bb23fb42fe4a0dca874791432354f7fa039f85fcf54673b706a44"), looks := true }, kinds := [], alts := [], laidByText := true, laidKinds := [.data, .data, .data, .data, .sentinel, .sentinel, .pinned], laidTests := true, laidLooks := .later }
def TokensOrderCardSaid : Prop := Claim7.holds Tryz.pinned (.plain (OpenSpec.ofChange tokensOrderSpec)) tokensOrderCard

/-- THE TIED CARD OF 'spillwaylaw05.TokensCase'. -/
def tokensCaseCard : Claim7 := { stood := { row := tokensCaseRow, standIns := [], harness := (true, "949d5a32386bb23fb42fe4a0dca874791432354f7fa039f85fcf54673b706a44"), looks := true }, kinds := [], alts := [], laidByText := true, laidKinds := [.data, .data, .data, .data, .sentinel, .sentinel, .pinned], laidTests := true, laidLooks := .later }
def TokensCaseCardSaid : Prop := Claim7.holds Tryz.pinned (.plain (OpenSpec.ofChange tokensCaseSpec)) tokensCaseCard

/-- THE TIED CARD OF 'spillwaylaw05.TokensQualities'. -/
def tokensQualitiesCard : Claim7 := { stood := { row := tokensQualitiesRow, standIns := [], harness := (true, "949d5a32386bb23fb42fe4a0dca874791432354f7fa039f85fcf54673b706a44"), looks := true }, kinds := [], alts := [], laidByText := true, laidKinds := [.data, .data, .data, .data, .sentinel, .sentinel, .pinned], laidTests := true, laidLooks := .later }
def TokensQualitiesCardSaid : Prop := Claim7.holds Tryz.pinned (.plain (OpenSpec.ofChange tokensQualitiesSpec)) tokensQualitiesCard

/-- THE TIED CARD OF 'spillwaylaw05.TokensPrints'. -/
def tokensPrintsCard : Claim7 := { stood := { row := tokensPrintsRow, standIns := [], harness := (true, "949d5a32386bb23fb42fe4a0dca874791432354f7fa039f85fcf54673b706a44"), looks := true }, kinds := [], alts := [], laidByText := true, laidKinds := [.data, .data, .data, .data, .sentinel, .sentinel, .pinned], laidTests := true, laidLooks := .later }
def TokensPrintsCardSaid : Prop := Claim7.holds Tryz.pinned (.plain (OpenSpec.ofChange tokensPrintsSpec)) tokensPrintsCard

/-- THE SECOND FORM's CARD OF 'spillwaylaw05.TokensBytes'. -/
def tokensBytesUptoCard : Claim7 := { stood := { row := tokensBytesUptoRow, standIns := [], harness := (true, "949d5a32386bb23fb42fe4a0dca874791432354f7fa039f85fcf54673b706a44"), looks := true }, kinds := [], alts := [], laidByText := true, laidKinds := [.data, .data, .data, .data, .sentinel, .sentinel, .pinned], laidTests := true, laidLooks := .later }
def TokensBytesUptoCardSaid : Prop := Claim7.holds Tryz.pinned (.plain (OpenSpec.upto tokensBytesSpec)) tokensBytesUptoCard

/-- THE SECOND FORM's CARD OF 'spillwaylaw05.TokensElements'. -/
def tokensElementsUptoCard : Claim7 := { stood := { row := tokensElementsUptoRow, standIns := [], harness := (true, "949d5a32386bb23fb42fe4a0dca874791432354f7fa039f85fcf54673b706a44"), looks := true }, kinds := [], alts := [], laidByText := true, laidKinds := [.data, .data, .data, .data, .sentinel, .sentinel, .pinned], laidTests := true, laidLooks := .later }
def TokensElementsUptoCardSaid : Prop := Claim7.holds Tryz.pinned (.plain (OpenSpec.upto tokensElementsSpec)) tokensElementsUptoCard

/-- THE SECOND FORM's CARD OF 'spillwaylaw05.TokensItems'. -/
def tokensItemsUptoCard : Claim7 := { stood := { row := tokensItemsUptoRow, standIns := [], harness := (true, "949d5a32386bb23fb42fe4a0dca874791432354f7fa039f85fcf54673b706a44"), looks := true }, kinds := [], alts := [], laidByText := true, laidKinds := [.data, .data, .data, .data, .sentinel, .sentinel, .pinned], laidTests := true, laidLooks := .later }
def TokensItemsUptoCardSaid : Prop := Claim7.holds Tryz.pinned (.plain (OpenSpec.upto tokensItemsSpec)) tokensItemsUptoCard

/-- THE SECOND FORM's CARD OF 'spillwaylaw05.TokensJoined'. -/
def tokensJoinedUptoCard : Claim7 := { stood := { row := tokensJoinedUptoRow, standIns := [], harness := (true, "949d5a32386bb23fb42fe4a0dca874791432354f7fa039f85fcf54673b706a44"), looks := true }, kinds := [], alts := [], laidByText := true, laidKinds := [.data, .data, .data, .data, .sentinel, .sentinel, .pinned], laidTests := true, laidLooks := .later }
def TokensJoinedUptoCardSaid : Prop := Claim7.holds Tryz.pinned (.plain (OpenSpec.upto tokensJoinedSpec)) tokensJoinedUptoCard

/-- THE SECOND FORM's CARD OF 'spillwaylaw05.TokensOrder'. -/
def tokensOrderUptoCard : Claim7 := { stood := { row := tokensOrderUptoRow, standIns := [], harness := (true, "949d5a32386bb23fb42fe4a0dca874791432354f7fa039f85fcf54673b706a44"), looks := true }, kinds := [], alts := [], laidByText := true, laidKinds := [.data, .data, .data, .data, .sentinel, .sentinel, .pinned], laidTests := true, laidLooks := .later }
def TokensOrderUptoCardSaid : Prop := Claim7.holds Tryz.pinned (.plain (OpenSpec.upto tokensOrderSpec)) tokensOrderUptoCard

/-- THE SECOND FORM's CARD OF 'spillwaylaw05.TokensCase'. -/
def tokensCaseUptoCard : Claim7 := { stood := { row := tokensCaseUptoRow, standIns := [], harness := (true, "949d5a32386bb23fb42fe4a0dca874791432354f7fa039f85fcf54673b706a44"), looks := true }, kinds := [], alts := [], laidByText := true, laidKinds := [.data, .data, .data, .data, .sentinel, .sentinel, .pinned], laidTests := true, laidLooks := .later }
def TokensCaseUptoCardSaid : Prop := Claim7.holds Tryz.pinned (.plain (OpenSpec.upto tokensCaseSpec)) tokensCaseUptoCard

/-- THE SECOND FORM's CARD OF 'spillwaylaw05.TokensQualities'. -/
def tokensQualitiesUptoCard : Claim7 := { stood := { row := tokensQualitiesUptoRow, standIns := [], harness := (true, "949d5a32386bb23fb42fe4a0dca874791432354f7fa039f85fcf54673b706a44"), looks := true }, kinds := [], alts := [], laidByText := true, laidKinds := [.data, .data, .data, .data, .sentinel, .sentinel, .pinned], laidTests := true, laidLooks := .later }
def TokensQualitiesUptoCardSaid : Prop := Claim7.holds Tryz.pinned (.plain (OpenSpec.upto tokensQualitiesSpec)) tokensQualitiesUptoCard

/-- THE SECOND FORM's CARD OF 'spillwaylaw05.TokensPrints'. -/
def tokensPrintsUptoCard : Claim7 := { stood := { row := tokensPrintsUptoRow, standIns := [], harness := (true, "949d5a32386bb23fb42fe4a0dca874791432354f7fa039f85fcf54673b706a44"), looks := true }, kinds := [], alts := [], laidByText := true, laidKinds := [.data, .data, .data, .data, .sentinel, .sentinel, .pinned], laidTests := true, laidLooks := .later }
def TokensPrintsUptoCardSaid : Prop := Claim7.holds Tryz.pinned (.plain (OpenSpec.upto tokensPrintsSpec)) tokensPrintsUptoCard
end Rows
end Go.Proofs.YtfchfhjpldppjaaGreatDoor
