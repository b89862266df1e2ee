/-
  DERIVED. GIVEN WITH THE SEED: THE CARDS: each row of YtejcacbbhijdcaaGreatDoorRows.lean that lists a variable, with what it lists TIED to the program's text (the seventh form; the later family's looks); each row that meets fmt, with fmt's text TOLD by the authors' own Lean function (tested against real Go, not proved from fmt's source: count such statements apart). THE CARD IS WHAT COUNTS. Prove the row's statement (the work); the ties are given (YtejcacbbhijdcaaGreatDoorTie.lean); close each card by the builder's one call (the guide's Derived/Test/ToyasCard.lean, 'card_holds'). Laid BY PROGRAM, IN A SANDBOX (cutbox-door.mjs). By AI agents, Wed Nov 11 2026. No macro, syntax, notation, axiom, sorry.
-/
import Derived.Test.YtejcacbbhijdcaaGreatDoorRows
import GoSem.ClaimSeven
namespace Go.Proofs.YtejcacbbhijdcaaGreatDoor
namespace Rows

/-- THE TIED CARD OF 'suffraganlaw07.ParseShows'. -/
def parseShowsCard : Claim7 := { stood := { row := parseShowsRow, standIns := [], harness := (true, "6c4d7b81ab5a2f9c704c4a530b9a62cae4a40a5ae1dff0b26ed3fd032077fee1"), looks := true }, kinds := [], alts := [], laidByText := true, laidKinds := [.data, .data, .data, .widerDeep], laidTests := true, laidLooks := .later }
def ParseShowsCardSaid : Prop := Claim7.holds Tryz.pinned (.plain (OpenSpec.ofChange parseShowsSpec)) parseShowsCard

/-- THE SECOND FORM's CARD OF 'suffraganlaw07.ParseShows'. -/
def parseShowsUptoCard : Claim7 := { stood := { row := parseShowsUptoRow, standIns := [], harness := (true, "6c4d7b81ab5a2f9c704c4a530b9a62cae4a40a5ae1dff0b26ed3fd032077fee1"), looks := true }, kinds := [], alts := [], laidByText := true, laidKinds := [.data, .data, .data, .widerDeep], laidTests := true, laidLooks := .later }
def ParseShowsUptoCardSaid : Prop := Claim7.holds Tryz.pinned (.plain (OpenSpec.upto parseShowsSpec)) parseShowsUptoCard
end Rows
end Go.Proofs.YtejcacbbhijdcaaGreatDoor
