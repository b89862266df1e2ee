/-
  DERIVED. GIVEN WITH THE SEED: THE CARDS: each row of YtfdillopdfihfaaDoorRows.lean that lists a variable, with what it lists TIED to the program's text (the seventh form; the later family's looks); each row that meets fmt, with fmt's text TOLD by the authors' own Lean function (tested against real Go, not proved from fmt's source: count such statements apart). THE CARD IS WHAT COUNTS. Prove the row's statement (the work); the ties are given (YtfdillopdfihfaaDoorTie.lean); close each card by the builder's one call (the guide's Derived/Test/ToyasCard.lean, 'card_holds'). Laid BY PROGRAM, IN A SANDBOX (cutbox-door.mjs). By AI agents, Wed Nov 11 2026. No macro, syntax, notation, axiom, sorry.
-/
import Derived.Test.YtfdillopdfihfaaDoorRows
import GoSem.ClaimSeven
namespace Go.Proofs.YtfdillopdfihfaaDoor
namespace Rows

/-- THE TIED CARD OF 'suffraganlaw04.FaultFinds'. -/
def faultFindsCard : Claim7 := { stood := { row := faultFindsRow, standIns := [], harness := (true, "7130062541575be14d4c1756246e41a20d5ca8b70dd13bac37a26df0d7b30b42"), looks := true }, kinds := [], alts := [], laidByText := true, laidKinds := [.handle], laidTests := true, laidLooks := .later }
def FaultFindsCardSaid : Prop := Claim7.holds Tryd.pinned (.plain (OpenSpec.ofChange faultFindsSpec)) faultFindsCard

/-- THE TIED CARD OF 'suffraganlaw04.FaultRoots'. -/
def faultRootsCard : Claim7 := { stood := { row := faultRootsRow, standIns := [], harness := (true, "7130062541575be14d4c1756246e41a20d5ca8b70dd13bac37a26df0d7b30b42"), looks := true }, kinds := [], alts := [], laidByText := true, laidKinds := [.handle], laidTests := true, laidLooks := .later }
def FaultRootsCardSaid : Prop := Claim7.holds Tryd.pinned (.plain (OpenSpec.ofChange faultRootsSpec)) faultRootsCard

/-- THE TIED CARD OF 'suffraganlaw04.FaultWorse'. -/
def faultWorseCard : Claim7 := { stood := { row := faultWorseRow, standIns := [], harness := (true, "7130062541575be14d4c1756246e41a20d5ca8b70dd13bac37a26df0d7b30b42"), looks := true }, kinds := [], alts := [], laidByText := true, laidKinds := [.handle], laidTests := true, laidLooks := .later }
def FaultWorseCardSaid : Prop := Claim7.holds Tryd.pinned (.plain (OpenSpec.ofChange faultWorseSpec)) faultWorseCard

/-- THE TIED CARD OF 'suffraganlaw04.FaultMax'. -/
def faultMaxCard : Claim7 := { stood := { row := faultMaxRow, standIns := [], harness := (true, "7130062541575be14d4c1756246e41a20d5ca8b70dd13bac37a26df0d7b30b42"), looks := true }, kinds := [], alts := [], laidByText := true, laidKinds := [.handle], laidTests := true, laidLooks := .later }
def FaultMaxCardSaid : Prop := Claim7.holds Tryd.pinned (.plain (OpenSpec.ofChange faultMaxSpec)) faultMaxCard

/-- THE TIED CARD OF 'suffraganlaw04.FaultWraps'. -/
def faultWrapsCard : Claim7 := { stood := { row := faultWrapsRow, standIns := [], harness := (true, "7130062541575be14d4c1756246e41a20d5ca8b70dd13bac37a26df0d7b30b42"), looks := true }, kinds := [], alts := [], laidByText := true, laidKinds := [.handle], laidTests := true, laidLooks := .later }
def FaultWrapsCardSaid : Prop := Claim7.holds Tryd.pinned (.plain (OpenSpec.ofChange faultWrapsSpec)) faultWrapsCard

/-- THE TIED CARD OF 'suffraganlaw04.FaultOthers'. -/
def faultOthersCard : Claim7 := { stood := { row := faultOthersRow, standIns := [], harness := (true, "7130062541575be14d4c1756246e41a20d5ca8b70dd13bac37a26df0d7b30b42"), looks := true }, kinds := [], alts := [], laidByText := true, laidKinds := [.handle], laidTests := true, laidLooks := .later }
def FaultOthersCardSaid : Prop := Claim7.holds Tryd.pinned (.plain (OpenSpec.ofChange faultOthersSpec)) faultOthersCard

/-- THE SECOND FORM's CARD OF 'suffraganlaw04.FaultFinds'. -/
def faultFindsUptoCard : Claim7 := { stood := { row := faultFindsUptoRow, standIns := [], harness := (true, "7130062541575be14d4c1756246e41a20d5ca8b70dd13bac37a26df0d7b30b42"), looks := true }, kinds := [], alts := [], laidByText := true, laidKinds := [.handle], laidTests := true, laidLooks := .later }
def FaultFindsUptoCardSaid : Prop := Claim7.holds Tryd.pinned (.plain (OpenSpec.upto faultFindsSpec)) faultFindsUptoCard

/-- THE SECOND FORM's CARD OF 'suffraganlaw04.FaultRoots'. -/
def faultRootsUptoCard : Claim7 := { stood := { row := faultRootsUptoRow, standIns := [], harness := (true, "7130062541575be14d4c1756246e41a20d5ca8b70dd13bac37a26df0d7b30b42"), looks := true }, kinds := [], alts := [], laidByText := true, laidKinds := [.handle], laidTests := true, laidLooks := .later }
def FaultRootsUptoCardSaid : Prop := Claim7.holds Tryd.pinned (.plain (OpenSpec.upto faultRootsSpec)) faultRootsUptoCard

/-- THE SECOND FORM's CARD OF 'suffraganlaw04.FaultWorse'. -/
def faultWorseUptoCard : Claim7 := { stood := { row := faultWorseUptoRow, standIns := [], harness := (true, "7130062541575be14d4c1756246e41a20d5ca8b70dd13bac37a26df0d7b30b42"), looks := true }, kinds := [], alts := [], laidByText := true, laidKinds := [.handle], laidTests := true, laidLooks := .later }
def FaultWorseUptoCardSaid : Prop := Claim7.holds Tryd.pinned (.plain (OpenSpec.upto faultWorseSpec)) faultWorseUptoCard

/-- THE SECOND FORM's CARD OF 'suffraganlaw04.FaultMax'. -/
def faultMaxUptoCard : Claim7 := { stood := { row := faultMaxUptoRow, standIns := [], harness := (true, "7130062541575be14d4c1756246e41a20d5ca8b70dd13bac37a26df0d7b30b42"), looks := true }, kinds := [], alts := [], laidByText := true, laidKinds := [.handle], laidTests := true, laidLooks := .later }
def FaultMaxUptoCardSaid : Prop := Claim7.holds Tryd.pinned (.plain (OpenSpec.upto faultMaxSpec)) faultMaxUptoCard

/-- THE SECOND FORM's CARD OF 'suffraganlaw04.FaultWraps'. -/
def faultWrapsUptoCard : Claim7 := { stood := { row := faultWrapsUptoRow, standIns := [], harness := (true, "7130062541575be14d4c1756246e41a20d5ca8b70dd13bac37a26df0d7b30b42"), looks := true }, kinds := [], alts := [], laidByText := true, laidKinds := [.handle], laidTests := true, laidLooks := .later }
def FaultWrapsUptoCardSaid : Prop := Claim7.holds Tryd.pinned (.plain (OpenSpec.upto faultWrapsSpec)) faultWrapsUptoCard

/-- THE SECOND FORM's CARD OF 'suffraganlaw04.FaultOthers'. -/
def faultOthersUptoCard : Claim7 := { stood := { row := faultOthersUptoRow, standIns := [], harness := (true, "7130062541575be14d4c1756246e41a20d5ca8b70dd13bac37a26df0d7b30b42"), looks := true }, kinds := [], alts := [], laidByText := true, laidKinds := [.handle], laidTests := true, laidLooks := .later }
def FaultOthersUptoCardSaid : Prop := Claim7.holds Tryd.pinned (.plain (OpenSpec.upto faultOthersSpec)) faultOthersUptoCard
end Rows
end Go.Proofs.YtfdillopdfihfaaDoor
