/-
  DERIVED. GIVEN WITH THE SEED: THE CARDS: each row of YtpfcalamchdciaaDoorRows.lean that lists a variable, with what it lists TIED to the program's text (the seventh form; the later family's looks); each row that meets fmt, with fmt's text TOLD by the authors' own Lean function (tested against real Go, not proved from fmt's source: count such statements apart). THE CARD IS WHAT COUNTS. Prove the row's statement (the work); the ties are given (YtpfcalamchdciaaDoorTie.lean); close each card by the builder's one call (the guide's Derived/Test/ToyasCard.lean, 'card_holds'). Laid BY PROGRAM, IN A SANDBOX (cutbox-door.mjs). By AI agents, Wed Nov 11 2026. No macro, syntax, notation, axiom, sorry.
-/
import Derived.Test.YtpfcalamchdciaaDoorRows
import GoSem.ClaimSeven
namespace Go.Proofs.YtpfcalamchdciaaDoor
namespace Rows

/-- THE TIED CARD OF 'remitterlaw04.SecretCan'. -/
def secretCanCard : Claim7 := { stood := { row := secretCanRow, standIns := [], harness := (true, "6d2ae5ab0e0dacf38aed4af850fd826f588bc01682c3368dca9489f8999ed47f"), looks := false }, kinds := [], alts := [], laidByText := true, laidKinds := [.data, .data], laidTests := true, laidLooks := .later }
def SecretCanCardSaid : Prop := Claim7.holds Tryd.pinned (.plain (OpenSpec.ofChange secretCanSpec)) secretCanCard

/-- THE TIED CARD OF 'remitterlaw02.DigestSums'. -/
def digestSumsCard : Claim7 := { stood := { row := digestSumsRow, standIns := [], harness := (true, "6d2ae5ab0e0dacf38aed4af850fd826f588bc01682c3368dca9489f8999ed47f"), looks := false }, kinds := [], alts := [], laidByText := true, laidKinds := [.data, .data], laidTests := true, laidLooks := .later }
def DigestSumsCardSaid : Prop := Claim7.holds Tryd.pinned (.plain (OpenSpec.ofChange digestSumsSpec)) digestSumsCard

/-- THE TIED CARD OF 'remitterlaw02.DigestBlocks'. -/
def digestBlocksCard : Claim7 := { stood := { row := digestBlocksRow, standIns := [], harness := (true, "6d2ae5ab0e0dacf38aed4af850fd826f588bc01682c3368dca9489f8999ed47f"), looks := false }, kinds := [], alts := [], laidByText := true, laidKinds := [.data, .data], laidTests := true, laidLooks := .later }
def DigestBlocksCardSaid : Prop := Claim7.holds Tryd.pinned (.plain (OpenSpec.ofChange digestBlocksSpec)) digestBlocksCard

/-- THE TIED CARD OF 'remitterlaw02.DigestPads'. -/
def digestPadsCard : Claim7 := { stood := { row := digestPadsRow, standIns := [], harness := (true, "6d2ae5ab0e0dacf38aed4af850fd826f588bc01682c3368dca9489f8999ed47f"), looks := false }, kinds := [], alts := [], laidByText := true, laidKinds := [.data, .data], laidTests := true, laidLooks := .later }
def DigestPadsCardSaid : Prop := Claim7.holds Tryd.pinned (.plain (OpenSpec.ofChange digestPadsSpec)) digestPadsCard

/-- THE TIED CARD OF 'remitterlaw02.DigestFolds'. -/
def digestFoldsCard : Claim7 := { stood := { row := digestFoldsRow, standIns := [], harness := (true, "6d2ae5ab0e0dacf38aed4af850fd826f588bc01682c3368dca9489f8999ed47f"), looks := false }, kinds := [], alts := [], laidByText := true, laidKinds := [.data, .data], laidTests := true, laidLooks := .later }
def DigestFoldsCardSaid : Prop := Claim7.holds Tryd.pinned (.plain (OpenSpec.ofChange digestFoldsSpec)) digestFoldsCard

/-- THE TIED CARD OF 'remitterlaw02.DigestParts'. -/
def digestPartsCard : Claim7 := { stood := { row := digestPartsRow, standIns := [], harness := (true, "6d2ae5ab0e0dacf38aed4af850fd826f588bc01682c3368dca9489f8999ed47f"), looks := false }, kinds := [], alts := [], laidByText := true, laidKinds := [.data, .data], laidTests := true, laidLooks := .later }
def DigestPartsCardSaid : Prop := Claim7.holds Tryd.pinned (.plain (OpenSpec.ofChange digestPartsSpec)) digestPartsCard

/-- THE TIED CARD OF 'remitterlaw03.SealLong'. -/
def sealLongCard : Claim7 := { stood := { row := sealLongRow, standIns := [], harness := (true, "6d2ae5ab0e0dacf38aed4af850fd826f588bc01682c3368dca9489f8999ed47f"), looks := false }, kinds := [], alts := [], laidByText := true, laidKinds := [.data, .data], laidTests := true, laidLooks := .later }
def SealLongCardSaid : Prop := Claim7.holds Tryd.pinned (.plain (OpenSpec.ofChange sealLongSpec)) sealLongCard

/-- THE TIED CARD OF 'remitterlaw03.SealMixes'. -/
def sealMixesCard : Claim7 := { stood := { row := sealMixesRow, standIns := [], harness := (true, "6d2ae5ab0e0dacf38aed4af850fd826f588bc01682c3368dca9489f8999ed47f"), looks := false }, kinds := [], alts := [], laidByText := true, laidKinds := [.data, .data], laidTests := true, laidLooks := .later }
def SealMixesCardSaid : Prop := Claim7.holds Tryd.pinned (.plain (OpenSpec.ofChange sealMixesSpec)) sealMixesCard

/-- THE TIED CARD OF 'remitterlaw03.SealTags'. -/
def sealTagsCard : Claim7 := { stood := { row := sealTagsRow, standIns := [], harness := (true, "6d2ae5ab0e0dacf38aed4af850fd826f588bc01682c3368dca9489f8999ed47f"), looks := false }, kinds := [], alts := [], laidByText := true, laidKinds := [.data, .data], laidTests := true, laidLooks := .later }
def SealTagsCardSaid : Prop := Claim7.holds Tryd.pinned (.plain (OpenSpec.ofChange sealTagsSpec)) sealTagsCard

/-- THE TIED CARD OF 'remitterlaw03.SealTurned'. -/
def sealTurnedCard : Claim7 := { stood := { row := sealTurnedRow, standIns := [], harness := (true, "6d2ae5ab0e0dacf38aed4af850fd826f588bc01682c3368dca9489f8999ed47f"), looks := false }, kinds := [], alts := [], laidByText := true, laidKinds := [.data, .data], laidTests := true, laidLooks := .later }
def SealTurnedCardSaid : Prop := Claim7.holds Tryd.pinned (.plain (OpenSpec.ofChange sealTurnedSpec)) sealTurnedCard

/-- THE TIED CARD OF 'remitterlaw04.SecretSteps'. -/
def secretStepsCard : Claim7 := { stood := { row := secretStepsRow, standIns := [], harness := (true, "6d2ae5ab0e0dacf38aed4af850fd826f588bc01682c3368dca9489f8999ed47f"), looks := false }, kinds := [], alts := [], laidByText := true, laidKinds := [.data, .data, .data, .data], laidTests := true, laidLooks := .later }
def SecretStepsCardSaid : Prop := Claim7.holds Tryd.pinned (.plain (OpenSpec.ofChange secretStepsSpec)) secretStepsCard

/-- THE TIED CARD OF 'remitterlaw04.SecretFar'. -/
def secretFarCard : Claim7 := { stood := { row := secretFarRow, standIns := [], harness := (true, "6d2ae5ab0e0dacf38aed4af850fd826f588bc01682c3368dca9489f8999ed47f"), looks := false }, kinds := [], alts := [], laidByText := true, laidKinds := [.data, .data, .data, .data], laidTests := true, laidLooks := .later }
def SecretFarCardSaid : Prop := Claim7.holds Tryd.pinned (.plain (OpenSpec.ofChange secretFarSpec)) secretFarCard

/-- THE TIED CARD OF 'remitterlaw04.SecretTells'. -/
def secretTellsCard : Claim7 := { stood := { row := secretTellsRow, standIns := [], harness := (true, "6d2ae5ab0e0dacf38aed4af850fd826f588bc01682c3368dca9489f8999ed47f"), looks := false }, kinds := [], alts := [], laidByText := true, laidKinds := [.data, .data, .data, .data], laidTests := true, laidLooks := .later }
def SecretTellsCardSaid : Prop := Claim7.holds Tryd.pinned (.plain (OpenSpec.ofChange secretTellsSpec)) secretTellsCard

/-- THE TIED CARD OF 'remitterlaw04.SecretDerives'. -/
def secretDerivesCard : Claim7 := { stood := { row := secretDerivesRow, standIns := [], harness := (true, "6d2ae5ab0e0dacf38aed4af850fd826f588bc01682c3368dca9489f8999ed47f"), looks := false }, kinds := [], alts := [], laidByText := true, laidKinds := [.data, .data, .data, .data], laidTests := true, laidLooks := .later }
def SecretDerivesCardSaid : Prop := Claim7.holds Tryd.pinned (.plain (OpenSpec.ofChange secretDerivesSpec)) secretDerivesCard

/-- THE TIED CARD OF 'remitterlaw05.ShelfTwice'. -/
def shelfTwiceCard : Claim7 := { stood := { row := shelfTwiceRow, standIns := [], harness := (true, "6d2ae5ab0e0dacf38aed4af850fd826f588bc01682c3368dca9489f8999ed47f"), looks := false }, kinds := [], alts := [], laidByText := true, laidKinds := [.data, .data, .data, .data], laidTests := true, laidLooks := .later }
def ShelfTwiceCardSaid : Prop := Claim7.holds Tryd.pinned (.plain (OpenSpec.ofChange shelfTwiceSpec)) shelfTwiceCard

/-- THE TIED CARD OF 'remitterlaw05.ShelfOther'. -/
def shelfOtherCard : Claim7 := { stood := { row := shelfOtherRow, standIns := [], harness := (true, "6d2ae5ab0e0dacf38aed4af850fd826f588bc01682c3368dca9489f8999ed47f"), looks := false }, kinds := [], alts := [], laidByText := true, laidKinds := [.data, .data, .data, .data], laidTests := true, laidLooks := .later }
def ShelfOtherCardSaid : Prop := Claim7.holds Tryd.pinned (.plain (OpenSpec.ofChange shelfOtherSpec)) shelfOtherCard

/-- THE TIED CARD OF 'remitterlaw05.ShelfAny'. -/
def shelfAnyCard : Claim7 := { stood := { row := shelfAnyRow, standIns := [], harness := (true, "6d2ae5ab0e0dacf38aed4af850fd826f588bc01682c3368dca9489f8999ed47f"), looks := false }, kinds := [], alts := [], laidByText := true, laidKinds := [.data, .data, .data, .data], laidTests := true, laidLooks := .later }
def ShelfAnyCardSaid : Prop := Claim7.holds Tryd.pinned (.plain (OpenSpec.ofChange shelfAnySpec)) shelfAnyCard

/-- THE TIED CARD OF 'remitterlaw05.ShelfAll'. -/
def shelfAllCard : Claim7 := { stood := { row := shelfAllRow, standIns := [], harness := (true, "6d2ae5ab0e0dacf38aed4af850fd826f588bc01682c3368dca9489f8999ed47f"), looks := false }, kinds := [], alts := [], laidByText := true, laidKinds := [.data, .data, .data, .data], laidTests := true, laidLooks := .later }
def ShelfAllCardSaid : Prop := Claim7.holds Tryd.pinned (.plain (OpenSpec.ofChange shelfAllSpec)) shelfAllCard

/-- THE SECOND FORM's CARD OF 'remitterlaw04.SecretCan'. -/
def secretCanUptoCard : Claim7 := { stood := { row := secretCanUptoRow, standIns := [], harness := (true, "6d2ae5ab0e0dacf38aed4af850fd826f588bc01682c3368dca9489f8999ed47f"), looks := false }, kinds := [], alts := [], laidByText := true, laidKinds := [.data, .data], laidTests := true, laidLooks := .later }
def SecretCanUptoCardSaid : Prop := Claim7.holds Tryd.pinned (.plain (OpenSpec.upto secretCanSpec)) secretCanUptoCard

/-- THE SECOND FORM's CARD OF 'remitterlaw02.DigestSums'. -/
def digestSumsUptoCard : Claim7 := { stood := { row := digestSumsUptoRow, standIns := [], harness := (true, "6d2ae5ab0e0dacf38aed4af850fd826f588bc01682c3368dca9489f8999ed47f"), looks := false }, kinds := [], alts := [], laidByText := true, laidKinds := [.data, .data], laidTests := true, laidLooks := .later }
def DigestSumsUptoCardSaid : Prop := Claim7.holds Tryd.pinned (.plain (OpenSpec.upto digestSumsSpec)) digestSumsUptoCard

/-- THE SECOND FORM's CARD OF 'remitterlaw02.DigestBlocks'. -/
def digestBlocksUptoCard : Claim7 := { stood := { row := digestBlocksUptoRow, standIns := [], harness := (true, "6d2ae5ab0e0dacf38aed4af850fd826f588bc01682c3368dca9489f8999ed47f"), looks := false }, kinds := [], alts := [], laidByText := true, laidKinds := [.data, .data], laidTests := true, laidLooks := .later }
def DigestBlocksUptoCardSaid : Prop := Claim7.holds Tryd.pinned (.plain (OpenSpec.upto digestBlocksSpec)) digestBlocksUptoCard

/-- THE SECOND FORM's CARD OF 'remitterlaw02.DigestPads'. -/
def digestPadsUptoCard : Claim7 := { stood := { row := digestPadsUptoRow, standIns := [], harness := (true, "6d2ae5ab0e0dacf38aed4af850fd826f588bc01682c3368dca9489f8999ed47f"), looks := false }, kinds := [], alts := [], laidByText := true, laidKinds := [.data, .data], laidTests := true, laidLooks := .later }
def DigestPadsUptoCardSaid : Prop := Claim7.holds Tryd.pinned (.plain (OpenSpec.upto digestPadsSpec)) digestPadsUptoCard

/-- THE SECOND FORM's CARD OF 'remitterlaw02.DigestFolds'. -/
def digestFoldsUptoCard : Claim7 := { stood := { row := digestFoldsUptoRow, standIns := [], harness := (true, "6d2ae5ab0e0dacf38aed4af850fd826f588bc01682c3368dca9489f8999ed47f"), looks := false }, kinds := [], alts := [], laidByText := true, laidKinds := [.data, .data], laidTests := true, laidLooks := .later }
def DigestFoldsUptoCardSaid : Prop := Claim7.holds Tryd.pinned (.plain (OpenSpec.upto digestFoldsSpec)) digestFoldsUptoCard

/-- THE SECOND FORM's CARD OF 'remitterlaw02.DigestParts'. -/
def digestPartsUptoCard : Claim7 := { stood := { row := digestPartsUptoRow, standIns := [], harness := (true, "6d2ae5ab0e0dacf38aed4af850fd826f588bc01682c3368dca9489f8999ed47f"), looks := false }, kinds := [], alts := [], laidByText := true, laidKinds := [.data, .data], laidTests := true, laidLooks := .later }
def DigestPartsUptoCardSaid : Prop := Claim7.holds Tryd.pinned (.plain (OpenSpec.upto digestPartsSpec)) digestPartsUptoCard

/-- THE SECOND FORM's CARD OF 'remitterlaw03.SealLong'. -/
def sealLongUptoCard : Claim7 := { stood := { row := sealLongUptoRow, standIns := [], harness := (true, "6d2ae5ab0e0dacf38aed4af850fd826f588bc01682c3368dca9489f8999ed47f"), looks := false }, kinds := [], alts := [], laidByText := true, laidKinds := [.data, .data], laidTests := true, laidLooks := .later }
def SealLongUptoCardSaid : Prop := Claim7.holds Tryd.pinned (.plain (OpenSpec.upto sealLongSpec)) sealLongUptoCard

/-- THE SECOND FORM's CARD OF 'remitterlaw03.SealMixes'. -/
def sealMixesUptoCard : Claim7 := { stood := { row := sealMixesUptoRow, standIns := [], harness := (true, "6d2ae5ab0e0dacf38aed4af850fd826f588bc01682c3368dca9489f8999ed47f"), looks := false }, kinds := [], alts := [], laidByText := true, laidKinds := [.data, .data], laidTests := true, laidLooks := .later }
def SealMixesUptoCardSaid : Prop := Claim7.holds Tryd.pinned (.plain (OpenSpec.upto sealMixesSpec)) sealMixesUptoCard

/-- THE SECOND FORM's CARD OF 'remitterlaw03.SealTags'. -/
def sealTagsUptoCard : Claim7 := { stood := { row := sealTagsUptoRow, standIns := [], harness := (true, "6d2ae5ab0e0dacf38aed4af850fd826f588bc01682c3368dca9489f8999ed47f"), looks := false }, kinds := [], alts := [], laidByText := true, laidKinds := [.data, .data], laidTests := true, laidLooks := .later }
def SealTagsUptoCardSaid : Prop := Claim7.holds Tryd.pinned (.plain (OpenSpec.upto sealTagsSpec)) sealTagsUptoCard

/-- THE SECOND FORM's CARD OF 'remitterlaw03.SealTurned'. -/
def sealTurnedUptoCard : Claim7 := { stood := { row := sealTurnedUptoRow, standIns := [], harness := (true, "6d2ae5ab0e0dacf38aed4af850fd826f588bc01682c3368dca9489f8999ed47f"), looks := false }, kinds := [], alts := [], laidByText := true, laidKinds := [.data, .data], laidTests := true, laidLooks := .later }
def SealTurnedUptoCardSaid : Prop := Claim7.holds Tryd.pinned (.plain (OpenSpec.upto sealTurnedSpec)) sealTurnedUptoCard

/-- THE SECOND FORM's CARD OF 'remitterlaw04.SecretSteps'. -/
def secretStepsUptoCard : Claim7 := { stood := { row := secretStepsUptoRow, standIns := [], harness := (true, "6d2ae5ab0e0dacf38aed4af850fd826f588bc01682c3368dca9489f8999ed47f"), looks := false }, kinds := [], alts := [], laidByText := true, laidKinds := [.data, .data, .data, .data], laidTests := true, laidLooks := .later }
def SecretStepsUptoCardSaid : Prop := Claim7.holds Tryd.pinned (.plain (OpenSpec.upto secretStepsSpec)) secretStepsUptoCard

/-- THE SECOND FORM's CARD OF 'remitterlaw04.SecretFar'. -/
def secretFarUptoCard : Claim7 := { stood := { row := secretFarUptoRow, standIns := [], harness := (true, "6d2ae5ab0e0dacf38aed4af850fd826f588bc01682c3368dca9489f8999ed47f"), looks := false }, kinds := [], alts := [], laidByText := true, laidKinds := [.data, .data, .data, .data], laidTests := true, laidLooks := .later }
def SecretFarUptoCardSaid : Prop := Claim7.holds Tryd.pinned (.plain (OpenSpec.upto secretFarSpec)) secretFarUptoCard

/-- THE SECOND FORM's CARD OF 'remitterlaw04.SecretTells'. -/
def secretTellsUptoCard : Claim7 := { stood := { row := secretTellsUptoRow, standIns := [], harness := (true, "6d2ae5ab0e0dacf38aed4af850fd826f588bc01682c3368dca9489f8999ed47f"), looks := false }, kinds := [], alts := [], laidByText := true, laidKinds := [.data, .data, .data, .data], laidTests := true, laidLooks := .later }
def SecretTellsUptoCardSaid : Prop := Claim7.holds Tryd.pinned (.plain (OpenSpec.upto secretTellsSpec)) secretTellsUptoCard

/-- THE SECOND FORM's CARD OF 'remitterlaw04.SecretDerives'. -/
def secretDerivesUptoCard : Claim7 := { stood := { row := secretDerivesUptoRow, standIns := [], harness := (true, "6d2ae5ab0e0dacf38aed4af850fd826f588bc01682c3368dca9489f8999ed47f"), looks := false }, kinds := [], alts := [], laidByText := true, laidKinds := [.data, .data, .data, .data], laidTests := true, laidLooks := .later }
def SecretDerivesUptoCardSaid : Prop := Claim7.holds Tryd.pinned (.plain (OpenSpec.upto secretDerivesSpec)) secretDerivesUptoCard

/-- THE SECOND FORM's CARD OF 'remitterlaw05.ShelfTwice'. -/
def shelfTwiceUptoCard : Claim7 := { stood := { row := shelfTwiceUptoRow, standIns := [], harness := (true, "6d2ae5ab0e0dacf38aed4af850fd826f588bc01682c3368dca9489f8999ed47f"), looks := false }, kinds := [], alts := [], laidByText := true, laidKinds := [.data, .data, .data, .data], laidTests := true, laidLooks := .later }
def ShelfTwiceUptoCardSaid : Prop := Claim7.holds Tryd.pinned (.plain (OpenSpec.upto shelfTwiceSpec)) shelfTwiceUptoCard

/-- THE SECOND FORM's CARD OF 'remitterlaw05.ShelfOther'. -/
def shelfOtherUptoCard : Claim7 := { stood := { row := shelfOtherUptoRow, standIns := [], harness := (true, "6d2ae5ab0e0dacf38aed4af850fd826f588bc01682c3368dca9489f8999ed47f"), looks := false }, kinds := [], alts := [], laidByText := true, laidKinds := [.data, .data, .data, .data], laidTests := true, laidLooks := .later }
def ShelfOtherUptoCardSaid : Prop := Claim7.holds Tryd.pinned (.plain (OpenSpec.upto shelfOtherSpec)) shelfOtherUptoCard

/-- THE SECOND FORM's CARD OF 'remitterlaw05.ShelfAny'. -/
def shelfAnyUptoCard : Claim7 := { stood := { row := shelfAnyUptoRow, standIns := [], harness := (true, "6d2ae5ab0e0dacf38aed4af850fd826f588bc01682c3368dca9489f8999ed47f"), looks := false }, kinds := [], alts := [], laidByText := true, laidKinds := [.data, .data, .data, .data], laidTests := true, laidLooks := .later }
def ShelfAnyUptoCardSaid : Prop := Claim7.holds Tryd.pinned (.plain (OpenSpec.upto shelfAnySpec)) shelfAnyUptoCard

/-- THE SECOND FORM's CARD OF 'remitterlaw05.ShelfAll'. -/
def shelfAllUptoCard : Claim7 := { stood := { row := shelfAllUptoRow, standIns := [], harness := (true, "6d2ae5ab0e0dacf38aed4af850fd826f588bc01682c3368dca9489f8999ed47f"), looks := false }, kinds := [], alts := [], laidByText := true, laidKinds := [.data, .data, .data, .data], laidTests := true, laidLooks := .later }
def ShelfAllUptoCardSaid : Prop := Claim7.holds Tryd.pinned (.plain (OpenSpec.upto shelfAllSpec)) shelfAllUptoCard
end Rows
end Go.Proofs.YtpfcalamchdciaaDoor
