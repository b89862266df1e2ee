/-
  DERIVED. GIVEN WITH THE SEED: THE CARDS: each row of YtbpfabhlngfciaaGreatDoorRows.lean that lists a variable, with what it lists TIED to the program's text (the seventh form; the later family's looks); each row that meets fmt, with fmt's text TOLD by the authors' own Lean function (tested against real Go, not proved from fmt's source: count such statements apart). THE CARD IS WHAT COUNTS. Prove the row's statement (the work); the ties are given (YtbpfabhlngfciaaGreatDoorTie.lean); close each card by the builder's one call (the guide's Derived/Test/ToyasCard.lean, 'card_holds'). Laid BY PROGRAM, IN A SANDBOX (cutbox-door.mjs). By AI agents, Wed Nov 11 2026. No macro, syntax, notation, axiom, sorry.
-/
import Derived.Test.YtbpfabhlngfciaaGreatDoorRows
import GoSem.ClaimSeven
namespace Go.Proofs.YtbpfabhlngfciaaGreatDoor
namespace Rows

/-- THE TIED CARD OF 'suffraganlaw08.CanonPrints'. -/
def canonPrintsCard : Claim7 := { stood := { row := canonPrintsRow, standIns := [], harness := (true, "2107ea42f051bfe2a4cd4541588b047d199115041f896d60fd154b4b4f912641"), looks := true }, kinds := [], alts := [], laidByText := true, laidKinds := [.data, .data, .data, .widerDeep, .data, .data], laidTests := true, laidLooks := .later }
def CanonPrintsCardSaid : Prop := Claim7.holds Tryz.pinned (.plain (OpenSpec.ofChange canonPrintsSpec)) canonPrintsCard

/-- THE TIED CARD OF 'suffraganlaw08.CanonBlanks'. -/
def canonBlanksCard : Claim7 := { stood := { row := canonBlanksRow, standIns := [], harness := (true, "2107ea42f051bfe2a4cd4541588b047d199115041f896d60fd154b4b4f912641"), looks := true }, kinds := [], alts := [], laidByText := true, laidKinds := [.data, .data, .data, .widerDeep, .data, .data], laidTests := true, laidLooks := .later }
def CanonBlanksCardSaid : Prop := Claim7.holds Tryz.pinned (.plain (OpenSpec.ofChange canonBlanksSpec)) canonBlanksCard

/-- THE TIED CARD OF 'suffraganlaw08.CanonApart'. -/
def canonApartCard : Claim7 := { stood := { row := canonApartRow, standIns := [], harness := (true, "2107ea42f051bfe2a4cd4541588b047d199115041f896d60fd154b4b4f912641"), looks := true }, kinds := [], alts := [], laidByText := true, laidKinds := [.data, .data, .data, .widerDeep, .data, .data], laidTests := true, laidLooks := .later }
def CanonApartCardSaid : Prop := Claim7.holds Tryz.pinned (.plain (OpenSpec.ofChange canonApartSpec)) canonApartCard

/-- THE TIED CARD OF 'suffraganlaw08.CanonTexts'. -/
def canonTextsCard : Claim7 := { stood := { row := canonTextsRow, standIns := [], harness := (true, "2107ea42f051bfe2a4cd4541588b047d199115041f896d60fd154b4b4f912641"), looks := true }, kinds := [], alts := [], laidByText := true, laidKinds := [.data, .data, .data, .widerDeep, .data, .data], laidTests := true, laidLooks := .later }
def CanonTextsCardSaid : Prop := Claim7.holds Tryz.pinned (.plain (OpenSpec.ofChange canonTextsSpec)) canonTextsCard

/-- THE TIED CARD OF 'suffraganlaw08.CanonLogs'. -/
def canonLogsCard : Claim7 := { stood := { row := canonLogsRow, standIns := [], harness := (true, "2107ea42f051bfe2a4cd4541588b047d199115041f896d60fd154b4b4f912641"), looks := true }, kinds := [], alts := [], laidByText := true, laidKinds := [.data, .data, .data, .widerDeep, .data, .data], laidTests := true, laidLooks := .later }
def CanonLogsCardSaid : Prop := Claim7.holds Tryz.pinned (.plain (OpenSpec.ofChange canonLogsSpec)) canonLogsCard

/-- THE TIED CARD OF 'suffraganlaw17.ChainPuts'. -/
def chainPutsCard : Claim7 := { stood := { row := chainPutsRow, standIns := [], harness := (true, "2107ea42f051bfe2a4cd4541588b047d199115041f896d60fd154b4b4f912641"), looks := true }, kinds := [], alts := [], laidByText := true, laidKinds := [.data, .data, .data, .widerDeep], laidTests := true, laidLooks := .later }
def ChainPutsCardSaid : Prop := Claim7.holds Tryz.pinned (.plain (OpenSpec.ofChange chainPutsSpec)) chainPutsCard

/-- THE TIED CARD OF 'suffraganlaw17.ChainTakes'. -/
def chainTakesCard : Claim7 := { stood := { row := chainTakesRow, standIns := [], harness := (true, "2107ea42f051bfe2a4cd4541588b047d199115041f896d60fd154b4b4f912641"), looks := true }, kinds := [], alts := [], laidByText := true, laidKinds := [.data, .data, .data, .widerDeep], laidTests := true, laidLooks := .later }
def ChainTakesCardSaid : Prop := Claim7.holds Tryz.pinned (.plain (OpenSpec.ofChange chainTakesSpec)) chainTakesCard

/-- THE TIED CARD OF 'suffraganlaw17.ChainDigests'. -/
def chainDigestsCard : Claim7 := { stood := { row := chainDigestsRow, standIns := [], harness := (true, "2107ea42f051bfe2a4cd4541588b047d199115041f896d60fd154b4b4f912641"), looks := true }, kinds := [], alts := [], laidByText := true, laidKinds := [.data, .data, .data, .widerDeep, .data, .data], laidTests := true, laidLooks := .later }
def ChainDigestsCardSaid : Prop := Claim7.holds Tryz.pinned (.plain (OpenSpec.ofChange chainDigestsSpec)) chainDigestsCard

/-- THE SECOND FORM's CARD OF 'suffraganlaw08.CanonPrints'. -/
def canonPrintsUptoCard : Claim7 := { stood := { row := canonPrintsUptoRow, standIns := [], harness := (true, "2107ea42f051bfe2a4cd4541588b047d199115041f896d60fd154b4b4f912641"), looks := true }, kinds := [], alts := [], laidByText := true, laidKinds := [.data, .data, .data, .widerDeep, .data, .data], laidTests := true, laidLooks := .later }
def CanonPrintsUptoCardSaid : Prop := Claim7.holds Tryz.pinned (.plain (OpenSpec.upto canonPrintsSpec)) canonPrintsUptoCard

/-- THE SECOND FORM's CARD OF 'suffraganlaw08.CanonBlanks'. -/
def canonBlanksUptoCard : Claim7 := { stood := { row := canonBlanksUptoRow, standIns := [], harness := (true, "2107ea42f051bfe2a4cd4541588b047d199115041f896d60fd154b4b4f912641"), looks := true }, kinds := [], alts := [], laidByText := true, laidKinds := [.data, .data, .data, .widerDeep, .data, .data], laidTests := true, laidLooks := .later }
def CanonBlanksUptoCardSaid : Prop := Claim7.holds Tryz.pinned (.plain (OpenSpec.upto canonBlanksSpec)) canonBlanksUptoCard

/-- THE SECOND FORM's CARD OF 'suffraganlaw08.CanonApart'. -/
def canonApartUptoCard : Claim7 := { stood := { row := canonApartUptoRow, standIns := [], harness := (true, "2107ea42f051bfe2a4cd4541588b047d199115041f896d60fd154b4b4f912641"), looks := true }, kinds := [], alts := [], laidByText := true, laidKinds := [.data, .data, .data, .widerDeep, .data, .data], laidTests := true, laidLooks := .later }
def CanonApartUptoCardSaid : Prop := Claim7.holds Tryz.pinned (.plain (OpenSpec.upto canonApartSpec)) canonApartUptoCard

/-- THE SECOND FORM's CARD OF 'suffraganlaw08.CanonTexts'. -/
def canonTextsUptoCard : Claim7 := { stood := { row := canonTextsUptoRow, standIns := [], harness := (true, "2107ea42f051bfe2a4cd4541588b047d199115041f896d60fd154b4b4f912641"), looks := true }, kinds := [], alts := [], laidByText := true, laidKinds := [.data, .data, .data, .widerDeep, .data, .data], laidTests := true, laidLooks := .later }
def CanonTextsUptoCardSaid : Prop := Claim7.holds Tryz.pinned (.plain (OpenSpec.upto canonTextsSpec)) canonTextsUptoCard

/-- THE SECOND FORM's CARD OF 'suffraganlaw08.CanonLogs'. -/
def canonLogsUptoCard : Claim7 := { stood := { row := canonLogsUptoRow, standIns := [], harness := (true, "2107ea42f051bfe2a4cd4541588b047d199115041f896d60fd154b4b4f912641"), looks := true }, kinds := [], alts := [], laidByText := true, laidKinds := [.data, .data, .data, .widerDeep, .data, .data], laidTests := true, laidLooks := .later }
def CanonLogsUptoCardSaid : Prop := Claim7.holds Tryz.pinned (.plain (OpenSpec.upto canonLogsSpec)) canonLogsUptoCard

/-- THE SECOND FORM's CARD OF 'suffraganlaw17.ChainPuts'. -/
def chainPutsUptoCard : Claim7 := { stood := { row := chainPutsUptoRow, standIns := [], harness := (true, "2107ea42f051bfe2a4cd4541588b047d199115041f896d60fd154b4b4f912641"), looks := true }, kinds := [], alts := [], laidByText := true, laidKinds := [.data, .data, .data, .widerDeep], laidTests := true, laidLooks := .later }
def ChainPutsUptoCardSaid : Prop := Claim7.holds Tryz.pinned (.plain (OpenSpec.upto chainPutsSpec)) chainPutsUptoCard

/-- THE SECOND FORM's CARD OF 'suffraganlaw17.ChainTakes'. -/
def chainTakesUptoCard : Claim7 := { stood := { row := chainTakesUptoRow, standIns := [], harness := (true, "2107ea42f051bfe2a4cd4541588b047d199115041f896d60fd154b4b4f912641"), looks := true }, kinds := [], alts := [], laidByText := true, laidKinds := [.data, .data, .data, .widerDeep], laidTests := true, laidLooks := .later }
def ChainTakesUptoCardSaid : Prop := Claim7.holds Tryz.pinned (.plain (OpenSpec.upto chainTakesSpec)) chainTakesUptoCard

/-- THE SECOND FORM's CARD OF 'suffraganlaw17.ChainDigests'. -/
def chainDigestsUptoCard : Claim7 := { stood := { row := chainDigestsUptoRow, standIns := [], harness := (true, "2107ea42f051bfe2a4cd4541588b047d199115041f896d60fd154b4b4f912641"), looks := true }, kinds := [], alts := [], laidByText := true, laidKinds := [.data, .data, .data, .widerDeep, .data, .data], laidTests := true, laidLooks := .later }
def ChainDigestsUptoCardSaid : Prop := Claim7.holds Tryz.pinned (.plain (OpenSpec.upto chainDigestsSpec)) chainDigestsUptoCard
end Rows
end Go.Proofs.YtbpfabhlngfciaaGreatDoor
