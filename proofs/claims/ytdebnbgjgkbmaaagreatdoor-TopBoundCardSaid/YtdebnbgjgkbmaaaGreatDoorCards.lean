/-
  DERIVED. GIVEN WITH THE SEED: THE CARDS: each row of YtdebnbgjgkbmaaaGreatDoorRows.lean that lists a variable, with what it lists TIED to the program's text (the seventh form; the later family's looks); each row that meets fmt, with fmt's text TOLD by the authors' own Lean function (tested against real Go, not proved from fmt's source: count such statements apart). THE CARD IS WHAT COUNTS. Prove the row's statement (the work); the ties are given (YtdebnbgjgkbmaaaGreatDoorTie.lean); close each card by the builder's one call (the guide's Derived/Test/ToyasCard.lean, 'card_holds'). Laid BY PROGRAM, IN A SANDBOX (cutbox-door.mjs). By AI agents, Wed Nov 11 2026. No macro, syntax, notation, axiom, sorry.
-/
import Derived.Test.YtdebnbgjgkbmaaaGreatDoorRows
import GoSem.ClaimSeven
namespace Go.Proofs.YtdebnbgjgkbmaaaGreatDoor
namespace Rows

/-- THE TIED CARD OF 'remittertop.TopBound'. -/
def topBoundCard : Claim7 := { stood := { row := topBoundRow, standIns := [], harness := (true, "927dd5b78344d6d088a9ef089c888101d6475b421d5a681247296362c98d8a81"), looks := true }, kinds := [], alts := [], laidByText := true, laidKinds := [.data, .data, .data, .data, .data, .data], laidTests := true, laidLooks := .later }
def TopBoundCardSaid : Prop := Claim7.holds Tryz.pinned (.plain (OpenSpec.ofChange topBoundSpec)) topBoundCard

/-- THE TIED CARD OF 'remittertop.TopOrder'. -/
def topOrderCard : Claim7 := { stood := { row := topOrderRow, standIns := [], harness := (true, "927dd5b78344d6d088a9ef089c888101d6475b421d5a681247296362c98d8a81"), looks := true }, kinds := [], alts := [], laidByText := true, laidKinds := [.data, .data, .data, .data, .data, .data], laidTests := true, laidLooks := .later }
def TopOrderCardSaid : Prop := Claim7.holds Tryz.pinned (.plain (OpenSpec.ofChange topOrderSpec)) topOrderCard

/-- THE TIED CARD OF 'remittertop.TopHashes'. -/
def topHashesCard : Claim7 := { stood := { row := topHashesRow, standIns := [], harness := (true, "927dd5b78344d6d088a9ef089c888101d6475b421d5a681247296362c98d8a81"), looks := true }, kinds := [], alts := [], laidByText := true, laidKinds := [.data, .data, .data, .data, .data, .data], laidTests := true, laidLooks := .later }
def TopHashesCardSaid : Prop := Claim7.holds Tryz.pinned (.plain (OpenSpec.ofChange topHashesSpec)) topHashesCard

/-- THE TIED CARD OF 'remittertop.TopWire'. -/
def topWireCard : Claim7 := { stood := { row := topWireRow, standIns := [], harness := (true, "927dd5b78344d6d088a9ef089c888101d6475b421d5a681247296362c98d8a81"), looks := true }, kinds := [], alts := [], laidByText := true, laidKinds := [.data, .data, .data, .data, .data, .data], laidTests := true, laidLooks := .later }
def TopWireCardSaid : Prop := Claim7.holds Tryz.pinned (.plain (OpenSpec.ofChange topWireSpec)) topWireCard

/-- THE TIED CARD OF 'remittertop.TopTags'. -/
def topTagsCard : Claim7 := { stood := { row := topTagsRow, standIns := [], harness := (true, "927dd5b78344d6d088a9ef089c888101d6475b421d5a681247296362c98d8a81"), looks := true }, kinds := [], alts := [], laidByText := true, laidKinds := [.data, .data, .data, .data, .data, .data], laidTests := true, laidLooks := .later }
def TopTagsCardSaid : Prop := Claim7.holds Tryz.pinned (.plain (OpenSpec.ofChange topTagsSpec)) topTagsCard

/-- THE TIED CARD OF 'remittertop.TopSeed'. -/
def topSeedCard : Claim7 := { stood := { row := topSeedRow, standIns := [], harness := (true, "927dd5b78344d6d088a9ef089c888101d6475b421d5a681247296362c98d8a81"), looks := true }, kinds := [], alts := [], laidByText := true, laidKinds := [.data, .data, .data, .data, .data, .data], laidTests := true, laidLooks := .later }
def TopSeedCardSaid : Prop := Claim7.holds Tryz.pinned (.plain (OpenSpec.ofChange topSeedSpec)) topSeedCard

/-- THE TIED CARD OF 'remittertop.TopFees'. -/
def topFeesCard : Claim7 := { stood := { row := topFeesRow, standIns := [], harness := (true, "927dd5b78344d6d088a9ef089c888101d6475b421d5a681247296362c98d8a81"), looks := true }, kinds := [], alts := [], laidByText := true, laidKinds := [.data, .data, .data, .data, .data, .data], laidTests := true, laidLooks := .later }
def TopFeesCardSaid : Prop := Claim7.holds Tryz.pinned (.plain (OpenSpec.ofChange topFeesSpec)) topFeesCard

/-- THE TIED CARD OF 'remittertop.TopAmounts'. -/
def topAmountsCard : Claim7 := { stood := { row := topAmountsRow, standIns := [], harness := (true, "927dd5b78344d6d088a9ef089c888101d6475b421d5a681247296362c98d8a81"), looks := true }, kinds := [], alts := [], laidByText := true, laidKinds := [.data, .data, .data, .data, .data, .data], laidTests := true, laidLooks := .later }
def TopAmountsCardSaid : Prop := Claim7.holds Tryz.pinned (.plain (OpenSpec.ofChange topAmountsSpec)) topAmountsCard

/-- THE TIED CARD OF 'remittertop.TopLinks'. -/
def topLinksCard : Claim7 := { stood := { row := topLinksRow, standIns := [], harness := (true, "927dd5b78344d6d088a9ef089c888101d6475b421d5a681247296362c98d8a81"), looks := true }, kinds := [], alts := [], laidByText := true, laidKinds := [.data, .data, .data, .data, .data, .data], laidTests := true, laidLooks := .later }
def TopLinksCardSaid : Prop := Claim7.holds Tryz.pinned (.plain (OpenSpec.ofChange topLinksSpec)) topLinksCard

/-- THE TIED CARD OF 'remittertop.TopBoxes'. -/
def topBoxesCard : Claim7 := { stood := { row := topBoxesRow, standIns := [], harness := (true, "927dd5b78344d6d088a9ef089c888101d6475b421d5a681247296362c98d8a81"), looks := true }, kinds := [], alts := [], laidByText := true, laidKinds := [.data, .data, .data, .data, .data, .data], laidTests := true, laidLooks := .later }
def TopBoxesCardSaid : Prop := Claim7.holds Tryz.pinned (.plain (OpenSpec.ofChange topBoxesSpec)) topBoxesCard

/-- THE TIED CARD OF 'remittertop.TopSecrets'. -/
def topSecretsCard : Claim7 := { stood := { row := topSecretsRow, standIns := [], harness := (true, "927dd5b78344d6d088a9ef089c888101d6475b421d5a681247296362c98d8a81"), looks := true }, kinds := [], alts := [], laidByText := true, laidKinds := [.data, .data, .data, .data, .data, .data], laidTests := true, laidLooks := .later }
def TopSecretsCardSaid : Prop := Claim7.holds Tryz.pinned (.plain (OpenSpec.ofChange topSecretsSpec)) topSecretsCard

/-- THE TIED CARD OF 'remittertop.TopJournal'. -/
def topJournalCard : Claim7 := { stood := { row := topJournalRow, standIns := [], harness := (true, "927dd5b78344d6d088a9ef089c888101d6475b421d5a681247296362c98d8a81"), looks := true }, kinds := [], alts := [], laidByText := true, laidKinds := [.data, .data, .data, .data, .data, .data], laidTests := true, laidLooks := .later }
def TopJournalCardSaid : Prop := Claim7.holds Tryz.pinned (.plain (OpenSpec.ofChange topJournalSpec)) topJournalCard

/-- THE TIED CARD OF 'remittertop.TopCommitted'. -/
def topCommittedCard : Claim7 := { stood := { row := topCommittedRow, standIns := [], harness := (true, "927dd5b78344d6d088a9ef089c888101d6475b421d5a681247296362c98d8a81"), looks := true }, kinds := [], alts := [], laidByText := true, laidKinds := [.data, .data, .data, .data, .data, .data], laidTests := true, laidLooks := .later }
def TopCommittedCardSaid : Prop := Claim7.holds Tryz.pinned (.plain (OpenSpec.ofChange topCommittedSpec)) topCommittedCard

/-- THE SECOND FORM's CARD OF 'remittertop.TopBound'. -/
def topBoundUptoCard : Claim7 := { stood := { row := topBoundUptoRow, standIns := [], harness := (true, "927dd5b78344d6d088a9ef089c888101d6475b421d5a681247296362c98d8a81"), looks := true }, kinds := [], alts := [], laidByText := true, laidKinds := [.data, .data, .data, .data, .data, .data], laidTests := true, laidLooks := .later }
def TopBoundUptoCardSaid : Prop := Claim7.holds Tryz.pinned (.plain (OpenSpec.upto topBoundSpec)) topBoundUptoCard

/-- THE SECOND FORM's CARD OF 'remittertop.TopOrder'. -/
def topOrderUptoCard : Claim7 := { stood := { row := topOrderUptoRow, standIns := [], harness := (true, "927dd5b78344d6d088a9ef089c888101d6475b421d5a681247296362c98d8a81"), looks := true }, kinds := [], alts := [], laidByText := true, laidKinds := [.data, .data, .data, .data, .data, .data], laidTests := true, laidLooks := .later }
def TopOrderUptoCardSaid : Prop := Claim7.holds Tryz.pinned (.plain (OpenSpec.upto topOrderSpec)) topOrderUptoCard

/-- THE SECOND FORM's CARD OF 'remittertop.TopHashes'. -/
def topHashesUptoCard : Claim7 := { stood := { row := topHashesUptoRow, standIns := [], harness := (true, "927dd5b78344d6d088a9ef089c888101d6475b421d5a681247296362c98d8a81"), looks := true }, kinds := [], alts := [], laidByText := true, laidKinds := [.data, .data, .data, .data, .data, .data], laidTests := true, laidLooks := .later }
def TopHashesUptoCardSaid : Prop := Claim7.holds Tryz.pinned (.plain (OpenSpec.upto topHashesSpec)) topHashesUptoCard

/-- THE SECOND FORM's CARD OF 'remittertop.TopWire'. -/
def topWireUptoCard : Claim7 := { stood := { row := topWireUptoRow, standIns := [], harness := (true, "927dd5b78344d6d088a9ef089c888101d6475b421d5a681247296362c98d8a81"), looks := true }, kinds := [], alts := [], laidByText := true, laidKinds := [.data, .data, .data, .data, .data, .data], laidTests := true, laidLooks := .later }
def TopWireUptoCardSaid : Prop := Claim7.holds Tryz.pinned (.plain (OpenSpec.upto topWireSpec)) topWireUptoCard

/-- THE SECOND FORM's CARD OF 'remittertop.TopTags'. -/
def topTagsUptoCard : Claim7 := { stood := { row := topTagsUptoRow, standIns := [], harness := (true, "927dd5b78344d6d088a9ef089c888101d6475b421d5a681247296362c98d8a81"), looks := true }, kinds := [], alts := [], laidByText := true, laidKinds := [.data, .data, .data, .data, .data, .data], laidTests := true, laidLooks := .later }
def TopTagsUptoCardSaid : Prop := Claim7.holds Tryz.pinned (.plain (OpenSpec.upto topTagsSpec)) topTagsUptoCard

/-- THE SECOND FORM's CARD OF 'remittertop.TopSeed'. -/
def topSeedUptoCard : Claim7 := { stood := { row := topSeedUptoRow, standIns := [], harness := (true, "927dd5b78344d6d088a9ef089c888101d6475b421d5a681247296362c98d8a81"), looks := true }, kinds := [], alts := [], laidByText := true, laidKinds := [.data, .data, .data, .data, .data, .data], laidTests := true, laidLooks := .later }
def TopSeedUptoCardSaid : Prop := Claim7.holds Tryz.pinned (.plain (OpenSpec.upto topSeedSpec)) topSeedUptoCard

/-- THE SECOND FORM's CARD OF 'remittertop.TopFees'. -/
def topFeesUptoCard : Claim7 := { stood := { row := topFeesUptoRow, standIns := [], harness := (true, "927dd5b78344d6d088a9ef089c888101d6475b421d5a681247296362c98d8a81"), looks := true }, kinds := [], alts := [], laidByText := true, laidKinds := [.data, .data, .data, .data, .data, .data], laidTests := true, laidLooks := .later }
def TopFeesUptoCardSaid : Prop := Claim7.holds Tryz.pinned (.plain (OpenSpec.upto topFeesSpec)) topFeesUptoCard

/-- THE SECOND FORM's CARD OF 'remittertop.TopAmounts'. -/
def topAmountsUptoCard : Claim7 := { stood := { row := topAmountsUptoRow, standIns := [], harness := (true, "927dd5b78344d6d088a9ef089c888101d6475b421d5a681247296362c98d8a81"), looks := true }, kinds := [], alts := [], laidByText := true, laidKinds := [.data, .data, .data, .data, .data, .data], laidTests := true, laidLooks := .later }
def TopAmountsUptoCardSaid : Prop := Claim7.holds Tryz.pinned (.plain (OpenSpec.upto topAmountsSpec)) topAmountsUptoCard

/-- THE SECOND FORM's CARD OF 'remittertop.TopLinks'. -/
def topLinksUptoCard : Claim7 := { stood := { row := topLinksUptoRow, standIns := [], harness := (true, "927dd5b78344d6d088a9ef089c888101d6475b421d5a681247296362c98d8a81"), looks := true }, kinds := [], alts := [], laidByText := true, laidKinds := [.data, .data, .data, .data, .data, .data], laidTests := true, laidLooks := .later }
def TopLinksUptoCardSaid : Prop := Claim7.holds Tryz.pinned (.plain (OpenSpec.upto topLinksSpec)) topLinksUptoCard

/-- THE SECOND FORM's CARD OF 'remittertop.TopBoxes'. -/
def topBoxesUptoCard : Claim7 := { stood := { row := topBoxesUptoRow, standIns := [], harness := (true, "927dd5b78344d6d088a9ef089c888101d6475b421d5a681247296362c98d8a81"), looks := true }, kinds := [], alts := [], laidByText := true, laidKinds := [.data, .data, .data, .data, .data, .data], laidTests := true, laidLooks := .later }
def TopBoxesUptoCardSaid : Prop := Claim7.holds Tryz.pinned (.plain (OpenSpec.upto topBoxesSpec)) topBoxesUptoCard

/-- THE SECOND FORM's CARD OF 'remittertop.TopSecrets'. -/
def topSecretsUptoCard : Claim7 := { stood := { row := topSecretsUptoRow, standIns := [], harness := (true, "927dd5b78344d6d088a9ef089c888101d6475b421d5a681247296362c98d8a81"), looks := true }, kinds := [], alts := [], laidByText := true, laidKinds := [.data, .data, .data, .data, .data, .data], laidTests := true, laidLooks := .later }
def TopSecretsUptoCardSaid : Prop := Claim7.holds Tryz.pinned (.plain (OpenSpec.upto topSecretsSpec)) topSecretsUptoCard

/-- THE SECOND FORM's CARD OF 'remittertop.TopJournal'. -/
def topJournalUptoCard : Claim7 := { stood := { row := topJournalUptoRow, standIns := [], harness := (true, "927dd5b78344d6d088a9ef089c888101d6475b421d5a681247296362c98d8a81"), looks := true }, kinds := [], alts := [], laidByText := true, laidKinds := [.data, .data, .data, .data, .data, .data], laidTests := true, laidLooks := .later }
def TopJournalUptoCardSaid : Prop := Claim7.holds Tryz.pinned (.plain (OpenSpec.upto topJournalSpec)) topJournalUptoCard

/-- THE SECOND FORM's CARD OF 'remittertop.TopCommitted'. -/
def topCommittedUptoCard : Claim7 := { stood := { row := topCommittedUptoRow, standIns := [], harness := (true, "927dd5b78344d6d088a9ef089c888101d6475b421d5a681247296362c98d8a81"), looks := true }, kinds := [], alts := [], laidByText := true, laidKinds := [.data, .data, .data, .data, .data, .data], laidTests := true, laidLooks := .later }
def TopCommittedUptoCardSaid : Prop := Claim7.holds Tryz.pinned (.plain (OpenSpec.upto topCommittedSpec)) topCommittedUptoCard
end Rows
end Go.Proofs.YtdebnbgjgkbmaaaGreatDoor
