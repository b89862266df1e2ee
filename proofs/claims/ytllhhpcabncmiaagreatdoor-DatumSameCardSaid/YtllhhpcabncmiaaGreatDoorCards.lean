/-
  DERIVED. GIVEN WITH THE SEED: THE CARDS: each row of YtllhhpcabncmiaaGreatDoorRows.lean that lists a variable, with what it lists TIED to the program's text (the seventh form; the later family's looks); each row that meets fmt, with fmt's text TOLD by the authors' own Lean function (tested against real Go, not proved from fmt's source: count such statements apart). THE CARD IS WHAT COUNTS. Prove the row's statement (the work); the ties are given (YtllhhpcabncmiaaGreatDoorTie.lean); close each card by the builder's one call (the guide's Derived/Test/ToyasCard.lean, 'card_holds'). Laid BY PROGRAM, IN A SANDBOX (cutbox-door.mjs). By AI agents, Wed Nov 11 2026. No macro, syntax, notation, axiom, sorry.
-/
import Derived.Test.YtllhhpcabncmiaaGreatDoorRows
import GoSem.ClaimSeven
namespace Go.Proofs.YtllhhpcabncmiaaGreatDoor
namespace Rows

/-- THE TIED CARD OF 'suffraganlaw09.DatumPuts'. -/
def datumPutsCard : Claim7 := { stood := { row := datumPutsRow, standIns := [], harness := (true, "9d5bd06b498dae29b7f178a3723232b489af2ebeb7bf335aeeea76910f8dcad9"), looks := true }, kinds := [], alts := [], laidByText := true, laidKinds := [.data, .data, .data, .widerDeep], laidTests := true, laidLooks := .later }
def DatumPutsCardSaid : Prop := Claim7.holds Tryz.pinned (.plain (OpenSpec.ofChange datumPutsSpec)) datumPutsCard

/-- THE TIED CARD OF 'suffraganlaw09.DatumBack'. -/
def datumBackCard : Claim7 := { stood := { row := datumBackRow, standIns := [], harness := (true, "9d5bd06b498dae29b7f178a3723232b489af2ebeb7bf335aeeea76910f8dcad9"), looks := true }, kinds := [], alts := [], laidByText := true, laidKinds := [.data, .data, .data, .widerDeep], laidTests := true, laidLooks := .later }
def DatumBackCardSaid : Prop := Claim7.holds Tryz.pinned (.plain (OpenSpec.ofChange datumBackSpec)) datumBackCard

/-- THE TIED CARD OF 'suffraganlaw09.DatumSame'. -/
def datumSameCard : Claim7 := { stood := { row := datumSameRow, standIns := [], harness := (true, "9d5bd06b498dae29b7f178a3723232b489af2ebeb7bf335aeeea76910f8dcad9"), looks := true }, kinds := [], alts := [], laidByText := true, laidKinds := [.data, .data, .data, .widerDeep], laidTests := true, laidLooks := .later }
def DatumSameCardSaid : Prop := Claim7.holds Tryz.pinned (.plain (OpenSpec.ofChange datumSameSpec)) datumSameCard

/-- THE TIED CARD OF 'suffraganlaw09.DatumFits'. -/
def datumFitsCard : Claim7 := { stood := { row := datumFitsRow, standIns := [], harness := (true, "9d5bd06b498dae29b7f178a3723232b489af2ebeb7bf335aeeea76910f8dcad9"), looks := true }, kinds := [], alts := [], laidByText := true, laidKinds := [.data, .data, .data, .widerDeep], laidTests := true, laidLooks := .later }
def DatumFitsCardSaid : Prop := Claim7.holds Tryz.pinned (.plain (OpenSpec.ofChange datumFitsSpec)) datumFitsCard

/-- THE SECOND FORM's CARD OF 'suffraganlaw09.DatumPuts'. -/
def datumPutsUptoCard : Claim7 := { stood := { row := datumPutsUptoRow, standIns := [], harness := (true, "9d5bd06b498dae29b7f178a3723232b489af2ebeb7bf335aeeea76910f8dcad9"), looks := true }, kinds := [], alts := [], laidByText := true, laidKinds := [.data, .data, .data, .widerDeep], laidTests := true, laidLooks := .later }
def DatumPutsUptoCardSaid : Prop := Claim7.holds Tryz.pinned (.plain (OpenSpec.upto datumPutsSpec)) datumPutsUptoCard

/-- THE SECOND FORM's CARD OF 'suffraganlaw09.DatumBack'. -/
def datumBackUptoCard : Claim7 := { stood := { row := datumBackUptoRow, standIns := [], harness := (true, "9d5bd06b498dae29b7f178a3723232b489af2ebeb7bf335aeeea76910f8dcad9"), looks := true }, kinds := [], alts := [], laidByText := true, laidKinds := [.data, .data, .data, .widerDeep], laidTests := true, laidLooks := .later }
def DatumBackUptoCardSaid : Prop := Claim7.holds Tryz.pinned (.plain (OpenSpec.upto datumBackSpec)) datumBackUptoCard

/-- THE SECOND FORM's CARD OF 'suffraganlaw09.DatumSame'. -/
def datumSameUptoCard : Claim7 := { stood := { row := datumSameUptoRow, standIns := [], harness := (true, "9d5bd06b498dae29b7f178a3723232b489af2ebeb7bf335aeeea76910f8dcad9"), looks := true }, kinds := [], alts := [], laidByText := true, laidKinds := [.data, .data, .data, .widerDeep], laidTests := true, laidLooks := .later }
def DatumSameUptoCardSaid : Prop := Claim7.holds Tryz.pinned (.plain (OpenSpec.upto datumSameSpec)) datumSameUptoCard

/-- THE SECOND FORM's CARD OF 'suffraganlaw09.DatumFits'. -/
def datumFitsUptoCard : Claim7 := { stood := { row := datumFitsUptoRow, standIns := [], harness := (true, "9d5bd06b498dae29b7f178a3723232b489af2ebeb7bf335aeeea76910f8dcad9"), looks := true }, kinds := [], alts := [], laidByText := true, laidKinds := [.data, .data, .data, .widerDeep], laidTests := true, laidLooks := .later }
def DatumFitsUptoCardSaid : Prop := Claim7.holds Tryz.pinned (.plain (OpenSpec.upto datumFitsSpec)) datumFitsUptoCard
end Rows
end Go.Proofs.YtllhhpcabncmiaaGreatDoor
