/-
  DERIVED. GIVEN WITH THE SEED: THE CARDS: each row of YtbpfabhlngfciaaDoorRows.lean that lists a variable, with what it lists TIED to the program's text (the seventh form; the later family's looks); each row that meets fmt, with fmt's text TOLD by the authors' own Lean function (tested against real Go, not proved from fmt's source: count such statements apart). THE CARD IS WHAT COUNTS. Prove the row's statement (the work); the ties are given (YtbpfabhlngfciaaDoorTie.lean); close each card by the builder's one call (the guide's Derived/Test/ToyasCard.lean, 'card_holds'). Laid BY PROGRAM, IN A SANDBOX (cutbox-door.mjs). By AI agents, Wed Nov 11 2026. No macro, syntax, notation, axiom, sorry.
-/
import Derived.Test.YtbpfabhlngfciaaDoorRows
import GoSem.ClaimSeven
namespace Go.Proofs.YtbpfabhlngfciaaDoor
namespace Rows

/-- THE TIED CARD OF 'suffraganlaw17.ChainBegins'. -/
def chainBeginsCard : Claim7 := { stood := { row := chainBeginsRow, standIns := [], harness := (true, "4e5ecafbee74a387045c044c005f02e97cfea104999bfd514ca7d885da450dc1"), looks := true }, kinds := [], alts := [], laidByText := true, laidKinds := [.data, .data, .data, .widerDeep], laidTests := true, laidLooks := .later }
def ChainBeginsCardSaid : Prop := Claim7.holds Tryd.pinned (.plain (OpenSpec.ofChange chainBeginsSpec)) chainBeginsCard

/-- THE TIED CARD OF 'suffraganlaw17.ChainBack'. -/
def chainBackCard : Claim7 := { stood := { row := chainBackRow, standIns := [], harness := (true, "4e5ecafbee74a387045c044c005f02e97cfea104999bfd514ca7d885da450dc1"), looks := true }, kinds := [], alts := [], laidByText := true, laidKinds := [.data, .data, .data, .widerDeep], laidTests := true, laidLooks := .later }
def ChainBackCardSaid : Prop := Claim7.holds Tryd.pinned (.plain (OpenSpec.ofChange chainBackSpec)) chainBackCard

/-- THE TIED CARD OF 'suffraganlaw17.ChainCuts'. -/
def chainCutsCard : Claim7 := { stood := { row := chainCutsRow, standIns := [], harness := (true, "4e5ecafbee74a387045c044c005f02e97cfea104999bfd514ca7d885da450dc1"), looks := true }, kinds := [], alts := [], laidByText := true, laidKinds := [.data, .data, .data, .widerDeep], laidTests := true, laidLooks := .later }
def ChainCutsCardSaid : Prop := Claim7.holds Tryd.pinned (.plain (OpenSpec.ofChange chainCutsSpec)) chainCutsCard

/-- THE SECOND FORM's CARD OF 'suffraganlaw17.ChainBegins'. -/
def chainBeginsUptoCard : Claim7 := { stood := { row := chainBeginsUptoRow, standIns := [], harness := (true, "4e5ecafbee74a387045c044c005f02e97cfea104999bfd514ca7d885da450dc1"), looks := true }, kinds := [], alts := [], laidByText := true, laidKinds := [.data, .data, .data, .widerDeep], laidTests := true, laidLooks := .later }
def ChainBeginsUptoCardSaid : Prop := Claim7.holds Tryd.pinned (.plain (OpenSpec.upto chainBeginsSpec)) chainBeginsUptoCard

/-- THE SECOND FORM's CARD OF 'suffraganlaw17.ChainBack'. -/
def chainBackUptoCard : Claim7 := { stood := { row := chainBackUptoRow, standIns := [], harness := (true, "4e5ecafbee74a387045c044c005f02e97cfea104999bfd514ca7d885da450dc1"), looks := true }, kinds := [], alts := [], laidByText := true, laidKinds := [.data, .data, .data, .widerDeep], laidTests := true, laidLooks := .later }
def ChainBackUptoCardSaid : Prop := Claim7.holds Tryd.pinned (.plain (OpenSpec.upto chainBackSpec)) chainBackUptoCard

/-- THE SECOND FORM's CARD OF 'suffraganlaw17.ChainCuts'. -/
def chainCutsUptoCard : Claim7 := { stood := { row := chainCutsUptoRow, standIns := [], harness := (true, "4e5ecafbee74a387045c044c005f02e97cfea104999bfd514ca7d885da450dc1"), looks := true }, kinds := [], alts := [], laidByText := true, laidKinds := [.data, .data, .data, .widerDeep], laidTests := true, laidLooks := .later }
def ChainCutsUptoCardSaid : Prop := Claim7.holds Tryd.pinned (.plain (OpenSpec.upto chainCutsSpec)) chainCutsUptoCard
end Rows
end Go.Proofs.YtbpfabhlngfciaaDoor
