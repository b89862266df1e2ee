/-
  DERIVED. GIVEN WITH THE SEED: THE CARDS: each row of YtmaoochjbpohdaaGreatDoorRows.lean that lists a variable, with what it lists TIED to the program's text (the seventh form; the later family's looks); each row that meets fmt, with fmt's text TOLD by the authors' own Lean function (tested against real Go, not proved from fmt's source: count such statements apart). THE CARD IS WHAT COUNTS. Prove the row's statement (the work); the ties are given (YtmaoochjbpohdaaGreatDoorTie.lean); close each card by the builder's one call (the guide's Derived/Test/ToyasCard.lean, 'card_holds'). Laid BY PROGRAM, IN A SANDBOX (cutbox-door.mjs). By AI agents, Wed Nov 11 2026. No macro, syntax, notation, axiom, sorry.
-/
import Derived.Test.YtmaoochjbpohdaaGreatDoorRows
import GoSem.ClaimSeven
namespace Go.Proofs.YtmaoochjbpohdaaGreatDoor
namespace Rows

/-- THE TIED CARD OF 'suffraganlaw10.ResolveSelf'. -/
def resolveSelfCard : Claim7 := { stood := { row := resolveSelfRow, standIns := [], harness := (true, "8910f673a40055942abfcaaa7a9c697d46cb044c78ca090949c2e934031b4e23"), looks := true }, kinds := [], alts := [], laidByText := true, laidKinds := [.data, .data, .data, .widerDeep], laidTests := true, laidLooks := .later }
def ResolveSelfCardSaid : Prop := Claim7.holds Tryz.pinned (.plain (OpenSpec.ofChange resolveSelfSpec)) resolveSelfCard

/-- THE TIED CARD OF 'suffraganlaw10.ResolveMore'. -/
def resolveMoreCard : Claim7 := { stood := { row := resolveMoreRow, standIns := [], harness := (true, "8910f673a40055942abfcaaa7a9c697d46cb044c78ca090949c2e934031b4e23"), looks := true }, kinds := [], alts := [], laidByText := true, laidKinds := [.data, .data, .data, .widerDeep], laidTests := true, laidLooks := .later }
def ResolveMoreCardSaid : Prop := Claim7.holds Tryz.pinned (.plain (OpenSpec.ofChange resolveMoreSpec)) resolveMoreCard

/-- THE TIED CARD OF 'suffraganlaw10.ResolveCan'. -/
def resolveCanCard : Claim7 := { stood := { row := resolveCanRow, standIns := [], harness := (true, "8910f673a40055942abfcaaa7a9c697d46cb044c78ca090949c2e934031b4e23"), looks := true }, kinds := [], alts := [], laidByText := true, laidKinds := [.data, .data, .data, .widerDeep], laidTests := true, laidLooks := .later }
def ResolveCanCardSaid : Prop := Claim7.holds Tryz.pinned (.plain (OpenSpec.ofChange resolveCanSpec)) resolveCanCard

/-- THE TIED CARD OF 'suffraganlaw10.ResolvePairs'. -/
def resolvePairsCard : Claim7 := { stood := { row := resolvePairsRow, standIns := [], harness := (true, "8910f673a40055942abfcaaa7a9c697d46cb044c78ca090949c2e934031b4e23"), looks := true }, kinds := [], alts := [], laidByText := true, laidKinds := [.data, .data, .data, .widerDeep], laidTests := true, laidLooks := .later }
def ResolvePairsCardSaid : Prop := Claim7.holds Tryz.pinned (.plain (OpenSpec.ofChange resolvePairsSpec)) resolvePairsCard

/-- THE TIED CARD OF 'suffraganlaw10.ResolveTypes'. -/
def resolveTypesCard : Claim7 := { stood := { row := resolveTypesRow, standIns := [], harness := (true, "8910f673a40055942abfcaaa7a9c697d46cb044c78ca090949c2e934031b4e23"), looks := true }, kinds := [], alts := [], laidByText := true, laidKinds := [.data, .data, .data, .widerDeep], laidTests := true, laidLooks := .later }
def ResolveTypesCardSaid : Prop := Claim7.holds Tryz.pinned (.plain (OpenSpec.ofChange resolveTypesSpec)) resolveTypesCard

/-- THE TIED CARD OF 'suffraganlaw12.PolicyNone'. -/
def policyNoneCard : Claim7 := { stood := { row := policyNoneRow, standIns := [], harness := (true, "8910f673a40055942abfcaaa7a9c697d46cb044c78ca090949c2e934031b4e23"), looks := true }, kinds := [], alts := [], laidByText := true, laidKinds := [.data, .data, .data, .widerDeep, .data], laidTests := true, laidLooks := .later }
def PolicyNoneCardSaid : Prop := Claim7.holds Tryz.pinned (.plain (OpenSpec.ofChange policyNoneSpec)) policyNoneCard

/-- THE TIED CARD OF 'suffraganlaw12.PolicyHolds'. -/
def policyHoldsCard : Claim7 := { stood := { row := policyHoldsRow, standIns := [], harness := (true, "8910f673a40055942abfcaaa7a9c697d46cb044c78ca090949c2e934031b4e23"), looks := true }, kinds := [], alts := [], laidByText := true, laidKinds := [.data, .data, .data, .widerDeep, .data], laidTests := true, laidLooks := .later }
def PolicyHoldsCardSaid : Prop := Claim7.holds Tryz.pinned (.plain (OpenSpec.ofChange policyHoldsSpec)) policyHoldsCard

/-- THE TIED CARD OF 'suffraganlaw12.PolicySteps'. -/
def policyStepsCard : Claim7 := { stood := { row := policyStepsRow, standIns := [], harness := (true, "8910f673a40055942abfcaaa7a9c697d46cb044c78ca090949c2e934031b4e23"), looks := true }, kinds := [], alts := [], laidByText := true, laidKinds := [.data, .data, .data, .widerDeep, .data], laidTests := true, laidLooks := .later }
def PolicyStepsCardSaid : Prop := Claim7.holds Tryz.pinned (.plain (OpenSpec.ofChange policyStepsSpec)) policyStepsCard

/-- THE TIED CARD OF 'suffraganlaw12.PolicyImplies'. -/
def policyImpliesCard : Claim7 := { stood := { row := policyImpliesRow, standIns := [], harness := (true, "8910f673a40055942abfcaaa7a9c697d46cb044c78ca090949c2e934031b4e23"), looks := true }, kinds := [], alts := [], laidByText := true, laidKinds := [.data, .data, .data, .widerDeep, .data], laidTests := true, laidLooks := .later }
def PolicyImpliesCardSaid : Prop := Claim7.holds Tryz.pinned (.plain (OpenSpec.ofChange policyImpliesSpec)) policyImpliesCard

/-- THE TIED CARD OF 'suffraganlaw12.PolicyTexts'. -/
def policyTextsCard : Claim7 := { stood := { row := policyTextsRow, standIns := [], harness := (true, "8910f673a40055942abfcaaa7a9c697d46cb044c78ca090949c2e934031b4e23"), looks := true }, kinds := [], alts := [], laidByText := true, laidKinds := [.data, .data, .data, .widerDeep, .data], laidTests := true, laidLooks := .later }
def PolicyTextsCardSaid : Prop := Claim7.holds Tryz.pinned (.plain (OpenSpec.ofChange policyTextsSpec)) policyTextsCard

/-- THE TIED CARD OF 'suffraganlaw12.PolicyAdmits'. -/
def policyAdmitsCard : Claim7 := { stood := { row := policyAdmitsRow, standIns := [], harness := (true, "8910f673a40055942abfcaaa7a9c697d46cb044c78ca090949c2e934031b4e23"), looks := true }, kinds := [], alts := [], laidByText := true, laidKinds := [.data, .data, .data, .widerDeep, .data], laidTests := true, laidLooks := .later }
def PolicyAdmitsCardSaid : Prop := Claim7.holds Tryz.pinned (.plain (OpenSpec.ofChange policyAdmitsSpec)) policyAdmitsCard

/-- THE TIED CARD OF 'suffraganlaw12.PolicySound'. -/
def policySoundCard : Claim7 := { stood := { row := policySoundRow, standIns := [], harness := (true, "8910f673a40055942abfcaaa7a9c697d46cb044c78ca090949c2e934031b4e23"), looks := true }, kinds := [], alts := [], laidByText := true, laidKinds := [.data, .data, .data, .widerDeep, .data], laidTests := true, laidLooks := .later }
def PolicySoundCardSaid : Prop := Claim7.holds Tryz.pinned (.plain (OpenSpec.ofChange policySoundSpec)) policySoundCard

/-- THE TIED CARD OF 'suffraganlaw12.PolicyBegins'. -/
def policyBeginsCard : Claim7 := { stood := { row := policyBeginsRow, standIns := [], harness := (true, "8910f673a40055942abfcaaa7a9c697d46cb044c78ca090949c2e934031b4e23"), looks := true }, kinds := [], alts := [], laidByText := true, laidKinds := [.data, .data, .data, .widerDeep, .data], laidTests := true, laidLooks := .later }
def PolicyBeginsCardSaid : Prop := Claim7.holds Tryz.pinned (.plain (OpenSpec.ofChange policyBeginsSpec)) policyBeginsCard

/-- THE SECOND FORM's CARD OF 'suffraganlaw10.ResolveSelf'. -/
def resolveSelfUptoCard : Claim7 := { stood := { row := resolveSelfUptoRow, standIns := [], harness := (true, "8910f673a40055942abfcaaa7a9c697d46cb044c78ca090949c2e934031b4e23"), looks := true }, kinds := [], alts := [], laidByText := true, laidKinds := [.data, .data, .data, .widerDeep], laidTests := true, laidLooks := .later }
def ResolveSelfUptoCardSaid : Prop := Claim7.holds Tryz.pinned (.plain (OpenSpec.upto resolveSelfSpec)) resolveSelfUptoCard

/-- THE SECOND FORM's CARD OF 'suffraganlaw10.ResolveMore'. -/
def resolveMoreUptoCard : Claim7 := { stood := { row := resolveMoreUptoRow, standIns := [], harness := (true, "8910f673a40055942abfcaaa7a9c697d46cb044c78ca090949c2e934031b4e23"), looks := true }, kinds := [], alts := [], laidByText := true, laidKinds := [.data, .data, .data, .widerDeep], laidTests := true, laidLooks := .later }
def ResolveMoreUptoCardSaid : Prop := Claim7.holds Tryz.pinned (.plain (OpenSpec.upto resolveMoreSpec)) resolveMoreUptoCard

/-- THE SECOND FORM's CARD OF 'suffraganlaw10.ResolveCan'. -/
def resolveCanUptoCard : Claim7 := { stood := { row := resolveCanUptoRow, standIns := [], harness := (true, "8910f673a40055942abfcaaa7a9c697d46cb044c78ca090949c2e934031b4e23"), looks := true }, kinds := [], alts := [], laidByText := true, laidKinds := [.data, .data, .data, .widerDeep], laidTests := true, laidLooks := .later }
def ResolveCanUptoCardSaid : Prop := Claim7.holds Tryz.pinned (.plain (OpenSpec.upto resolveCanSpec)) resolveCanUptoCard

/-- THE SECOND FORM's CARD OF 'suffraganlaw10.ResolvePairs'. -/
def resolvePairsUptoCard : Claim7 := { stood := { row := resolvePairsUptoRow, standIns := [], harness := (true, "8910f673a40055942abfcaaa7a9c697d46cb044c78ca090949c2e934031b4e23"), looks := true }, kinds := [], alts := [], laidByText := true, laidKinds := [.data, .data, .data, .widerDeep], laidTests := true, laidLooks := .later }
def ResolvePairsUptoCardSaid : Prop := Claim7.holds Tryz.pinned (.plain (OpenSpec.upto resolvePairsSpec)) resolvePairsUptoCard

/-- THE SECOND FORM's CARD OF 'suffraganlaw10.ResolveTypes'. -/
def resolveTypesUptoCard : Claim7 := { stood := { row := resolveTypesUptoRow, standIns := [], harness := (true, "8910f673a40055942abfcaaa7a9c697d46cb044c78ca090949c2e934031b4e23"), looks := true }, kinds := [], alts := [], laidByText := true, laidKinds := [.data, .data, .data, .widerDeep], laidTests := true, laidLooks := .later }
def ResolveTypesUptoCardSaid : Prop := Claim7.holds Tryz.pinned (.plain (OpenSpec.upto resolveTypesSpec)) resolveTypesUptoCard

/-- THE SECOND FORM's CARD OF 'suffraganlaw12.PolicyNone'. -/
def policyNoneUptoCard : Claim7 := { stood := { row := policyNoneUptoRow, standIns := [], harness := (true, "8910f673a40055942abfcaaa7a9c697d46cb044c78ca090949c2e934031b4e23"), looks := true }, kinds := [], alts := [], laidByText := true, laidKinds := [.data, .data, .data, .widerDeep, .data], laidTests := true, laidLooks := .later }
def PolicyNoneUptoCardSaid : Prop := Claim7.holds Tryz.pinned (.plain (OpenSpec.upto policyNoneSpec)) policyNoneUptoCard

/-- THE SECOND FORM's CARD OF 'suffraganlaw12.PolicyHolds'. -/
def policyHoldsUptoCard : Claim7 := { stood := { row := policyHoldsUptoRow, standIns := [], harness := (true, "8910f673a40055942abfcaaa7a9c697d46cb044c78ca090949c2e934031b4e23"), looks := true }, kinds := [], alts := [], laidByText := true, laidKinds := [.data, .data, .data, .widerDeep, .data], laidTests := true, laidLooks := .later }
def PolicyHoldsUptoCardSaid : Prop := Claim7.holds Tryz.pinned (.plain (OpenSpec.upto policyHoldsSpec)) policyHoldsUptoCard

/-- THE SECOND FORM's CARD OF 'suffraganlaw12.PolicySteps'. -/
def policyStepsUptoCard : Claim7 := { stood := { row := policyStepsUptoRow, standIns := [], harness := (true, "8910f673a40055942abfcaaa7a9c697d46cb044c78ca090949c2e934031b4e23"), looks := true }, kinds := [], alts := [], laidByText := true, laidKinds := [.data, .data, .data, .widerDeep, .data], laidTests := true, laidLooks := .later }
def PolicyStepsUptoCardSaid : Prop := Claim7.holds Tryz.pinned (.plain (OpenSpec.upto policyStepsSpec)) policyStepsUptoCard

/-- THE SECOND FORM's CARD OF 'suffraganlaw12.PolicyImplies'. -/
def policyImpliesUptoCard : Claim7 := { stood := { row := policyImpliesUptoRow, standIns := [], harness := (true, "8910f673a40055942abfcaaa7a9c697d46cb044c78ca090949c2e934031b4e23"), looks := true }, kinds := [], alts := [], laidByText := true, laidKinds := [.data, .data, .data, .widerDeep, .data], laidTests := true, laidLooks := .later }
def PolicyImpliesUptoCardSaid : Prop := Claim7.holds Tryz.pinned (.plain (OpenSpec.upto policyImpliesSpec)) policyImpliesUptoCard

/-- THE SECOND FORM's CARD OF 'suffraganlaw12.PolicyTexts'. -/
def policyTextsUptoCard : Claim7 := { stood := { row := policyTextsUptoRow, standIns := [], harness := (true, "8910f673a40055942abfcaaa7a9c697d46cb044c78ca090949c2e934031b4e23"), looks := true }, kinds := [], alts := [], laidByText := true, laidKinds := [.data, .data, .data, .widerDeep, .data], laidTests := true, laidLooks := .later }
def PolicyTextsUptoCardSaid : Prop := Claim7.holds Tryz.pinned (.plain (OpenSpec.upto policyTextsSpec)) policyTextsUptoCard

/-- THE SECOND FORM's CARD OF 'suffraganlaw12.PolicyAdmits'. -/
def policyAdmitsUptoCard : Claim7 := { stood := { row := policyAdmitsUptoRow, standIns := [], harness := (true, "8910f673a40055942abfcaaa7a9c697d46cb044c78ca090949c2e934031b4e23"), looks := true }, kinds := [], alts := [], laidByText := true, laidKinds := [.data, .data, .data, .widerDeep, .data], laidTests := true, laidLooks := .later }
def PolicyAdmitsUptoCardSaid : Prop := Claim7.holds Tryz.pinned (.plain (OpenSpec.upto policyAdmitsSpec)) policyAdmitsUptoCard

/-- THE SECOND FORM's CARD OF 'suffraganlaw12.PolicySound'. -/
def policySoundUptoCard : Claim7 := { stood := { row := policySoundUptoRow, standIns := [], harness := (true, "8910f673a40055942abfcaaa7a9c697d46cb044c78ca090949c2e934031b4e23"), looks := true }, kinds := [], alts := [], laidByText := true, laidKinds := [.data, .data, .data, .widerDeep, .data], laidTests := true, laidLooks := .later }
def PolicySoundUptoCardSaid : Prop := Claim7.holds Tryz.pinned (.plain (OpenSpec.upto policySoundSpec)) policySoundUptoCard

/-- THE SECOND FORM's CARD OF 'suffraganlaw12.PolicyBegins'. -/
def policyBeginsUptoCard : Claim7 := { stood := { row := policyBeginsUptoRow, standIns := [], harness := (true, "8910f673a40055942abfcaaa7a9c697d46cb044c78ca090949c2e934031b4e23"), looks := true }, kinds := [], alts := [], laidByText := true, laidKinds := [.data, .data, .data, .widerDeep, .data], laidTests := true, laidLooks := .later }
def PolicyBeginsUptoCardSaid : Prop := Claim7.holds Tryz.pinned (.plain (OpenSpec.upto policyBeginsSpec)) policyBeginsUptoCard
end Rows
end Go.Proofs.YtmaoochjbpohdaaGreatDoor
