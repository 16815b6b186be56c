/-
  DERIVED. GIVEN WITH THE SEED: THE CARDS: each row of YtpgghhdieekncaaDoorRows.lean that lists a variable, with what it lists TIED to the program's text (the seventh form; the later family's looks); each row that meets fmt, with fmt's text TOLD by the authors' own Lean function (tested against real Go, not proved from fmt's source: count such statements apart). THE CARD IS WHAT COUNTS. Prove the row's statement (the work); the ties are given (YtpgghhdieekncaaDoorTie.lean); close each card by the builder's one call (the guide's Derived/Test/ToyasCard.lean, 'card_holds'). Laid BY PROGRAM, IN A SANDBOX (cutbox-door.mjs). By AI agents, Wed Nov 11 2026. No macro, syntax, notation, axiom, sorry.
-/
import Derived.Test.YtpgghhdieekncaaDoorRows
import GoSem.ClaimSeven
namespace Go.Proofs.YtpgghhdieekncaaDoor
namespace Rows

/-- THE TIED CARD OF 'remitterlaw11.HtlcEvents'. -/
def htlcEventsCard : Claim7 := { stood := { row := htlcEventsRow, standIns := [], harness := (true, "8eddb88e84a1b6a61b3b1f9f8edc3ede5c7fceb6b5bde0bcde6e0106b55586d9"), looks := false }, kinds := [], alts := [], laidByText := true, laidKinds := [.data], laidTests := true, laidLooks := .later }
def HtlcEventsCardSaid : Prop := Claim7.holds Tryd.pinned (.plain (OpenSpec.ofChange htlcEventsSpec)) htlcEventsCard

/-- THE TIED CARD OF 'remitterlaw11.HtlcOnce'. -/
def htlcOnceCard : Claim7 := { stood := { row := htlcOnceRow, standIns := [], harness := (true, "8eddb88e84a1b6a61b3b1f9f8edc3ede5c7fceb6b5bde0bcde6e0106b55586d9"), looks := false }, kinds := [], alts := [], laidByText := true, laidKinds := [.data, .data], laidTests := true, laidLooks := .later }
def HtlcOnceCardSaid : Prop := Claim7.holds Tryd.pinned (.plain (OpenSpec.ofChange htlcOnceSpec)) htlcOnceCard

/-- THE TIED CARD OF 'remitterlaw11.HtlcTells'. -/
def htlcTellsCard : Claim7 := { stood := { row := htlcTellsRow, standIns := [], harness := (true, "8eddb88e84a1b6a61b3b1f9f8edc3ede5c7fceb6b5bde0bcde6e0106b55586d9"), looks := false }, kinds := [], alts := [], laidByText := true, laidKinds := [.data, .data], laidTests := true, laidLooks := .later }
def HtlcTellsCardSaid : Prop := Claim7.holds Tryd.pinned (.plain (OpenSpec.ofChange htlcTellsSpec)) htlcTellsCard

/-- THE TIED CARD OF 'remitterlaw11.HtlcMirror'. -/
def htlcMirrorCard : Claim7 := { stood := { row := htlcMirrorRow, standIns := [], harness := (true, "8eddb88e84a1b6a61b3b1f9f8edc3ede5c7fceb6b5bde0bcde6e0106b55586d9"), looks := false }, kinds := [], alts := [], laidByText := true, laidKinds := [.data, .data], laidTests := true, laidLooks := .later }
def HtlcMirrorCardSaid : Prop := Claim7.holds Tryd.pinned (.plain (OpenSpec.ofChange htlcMirrorSpec)) htlcMirrorCard

/-- THE TIED CARD OF 'remitterlaw11.HtlcGoes'. -/
def htlcGoesCard : Claim7 := { stood := { row := htlcGoesRow, standIns := [], harness := (true, "8eddb88e84a1b6a61b3b1f9f8edc3ede5c7fceb6b5bde0bcde6e0106b55586d9"), looks := false }, kinds := [], alts := [], laidByText := true, laidKinds := [.data, .data], laidTests := true, laidLooks := .later }
def HtlcGoesCardSaid : Prop := Claim7.holds Tryd.pinned (.plain (OpenSpec.ofChange htlcGoesSpec)) htlcGoesCard

/-- THE TIED CARD OF 'remitterlaw11.HtlcOut'. -/
def htlcOutCard : Claim7 := { stood := { row := htlcOutRow, standIns := [], harness := (true, "8eddb88e84a1b6a61b3b1f9f8edc3ede5c7fceb6b5bde0bcde6e0106b55586d9"), looks := false }, kinds := [], alts := [], laidByText := true, laidKinds := [.data, .data], laidTests := true, laidLooks := .later }
def HtlcOutCardSaid : Prop := Claim7.holds Tryd.pinned (.plain (OpenSpec.ofChange htlcOutSpec)) htlcOutCard

/-- THE SECOND FORM's CARD OF 'remitterlaw11.HtlcEvents'. -/
def htlcEventsUptoCard : Claim7 := { stood := { row := htlcEventsUptoRow, standIns := [], harness := (true, "8eddb88e84a1b6a61b3b1f9f8edc3ede5c7fceb6b5bde0bcde6e0106b55586d9"), looks := false }, kinds := [], alts := [], laidByText := true, laidKinds := [.data], laidTests := true, laidLooks := .later }
def HtlcEventsUptoCardSaid : Prop := Claim7.holds Tryd.pinned (.plain (OpenSpec.upto htlcEventsSpec)) htlcEventsUptoCard

/-- THE SECOND FORM's CARD OF 'remitterlaw11.HtlcOnce'. -/
def htlcOnceUptoCard : Claim7 := { stood := { row := htlcOnceUptoRow, standIns := [], harness := (true, "8eddb88e84a1b6a61b3b1f9f8edc3ede5c7fceb6b5bde0bcde6e0106b55586d9"), looks := false }, kinds := [], alts := [], laidByText := true, laidKinds := [.data, .data], laidTests := true, laidLooks := .later }
def HtlcOnceUptoCardSaid : Prop := Claim7.holds Tryd.pinned (.plain (OpenSpec.upto htlcOnceSpec)) htlcOnceUptoCard

/-- THE SECOND FORM's CARD OF 'remitterlaw11.HtlcTells'. -/
def htlcTellsUptoCard : Claim7 := { stood := { row := htlcTellsUptoRow, standIns := [], harness := (true, "8eddb88e84a1b6a61b3b1f9f8edc3ede5c7fceb6b5bde0bcde6e0106b55586d9"), looks := false }, kinds := [], alts := [], laidByText := true, laidKinds := [.data, .data], laidTests := true, laidLooks := .later }
def HtlcTellsUptoCardSaid : Prop := Claim7.holds Tryd.pinned (.plain (OpenSpec.upto htlcTellsSpec)) htlcTellsUptoCard

/-- THE SECOND FORM's CARD OF 'remitterlaw11.HtlcMirror'. -/
def htlcMirrorUptoCard : Claim7 := { stood := { row := htlcMirrorUptoRow, standIns := [], harness := (true, "8eddb88e84a1b6a61b3b1f9f8edc3ede5c7fceb6b5bde0bcde6e0106b55586d9"), looks := false }, kinds := [], alts := [], laidByText := true, laidKinds := [.data, .data], laidTests := true, laidLooks := .later }
def HtlcMirrorUptoCardSaid : Prop := Claim7.holds Tryd.pinned (.plain (OpenSpec.upto htlcMirrorSpec)) htlcMirrorUptoCard

/-- THE SECOND FORM's CARD OF 'remitterlaw11.HtlcGoes'. -/
def htlcGoesUptoCard : Claim7 := { stood := { row := htlcGoesUptoRow, standIns := [], harness := (true, "8eddb88e84a1b6a61b3b1f9f8edc3ede5c7fceb6b5bde0bcde6e0106b55586d9"), looks := false }, kinds := [], alts := [], laidByText := true, laidKinds := [.data, .data], laidTests := true, laidLooks := .later }
def HtlcGoesUptoCardSaid : Prop := Claim7.holds Tryd.pinned (.plain (OpenSpec.upto htlcGoesSpec)) htlcGoesUptoCard

/-- THE SECOND FORM's CARD OF 'remitterlaw11.HtlcOut'. -/
def htlcOutUptoCard : Claim7 := { stood := { row := htlcOutUptoRow, standIns := [], harness := (true, "8eddb88e84a1b6a61b3b1f9f8edc3ede5c7fceb6b5bde0bcde6e0106b55586d9"), looks := false }, kinds := [], alts := [], laidByText := true, laidKinds := [.data, .data], laidTests := true, laidLooks := .later }
def HtlcOutUptoCardSaid : Prop := Claim7.holds Tryd.pinned (.plain (OpenSpec.upto htlcOutSpec)) htlcOutUptoCard
end Rows
end Go.Proofs.YtpgghhdieekncaaDoor
