/-
  DERIVED. GIVEN WITH THE SEED: THE CARDS: each row of YtlbjnkopbabcnaaGreatDoorRows.lean that lists a variable, with what it lists TIED to the program's text (the seventh form; the later family's looks); each row that meets fmt, with fmt's text TOLD by the authors' own Lean function (tested against real Go, not proved from fmt's source: count such statements apart). THE CARD IS WHAT COUNTS. Prove the row's statement (the work); the ties are given (YtlbjnkopbabcnaaGreatDoorTie.lean); close each card by the builder's one call (the guide's Derived/Test/ToyasCard.lean, 'card_holds'). Laid BY PROGRAM, IN A SANDBOX (cutbox-door.mjs). By AI agents, Wed Nov 11 2026. No macro, syntax, notation, axiom, sorry.
-/
import Derived.Test.YtlbjnkopbabcnaaGreatDoorRows
import GoSem.ClaimSeven
namespace Go.Proofs.YtlbjnkopbabcnaaGreatDoor
namespace Rows

/-- THE TIED CARD OF 'lampblacktop.TopSeenPlaces'. -/
def topSeenPlacesCard : Claim7 := { stood := { row := topSeenPlacesRow, standIns := [], harness := (true, "a15c6410cd22c25795956fe4721f1c61676a153d93fdd0939546498ce7d8b611"), looks := false }, kinds := [], alts := [], laidByText := true, laidKinds := [.data, .data], laidTests := true, laidLooks := .later }
def TopSeenPlacesCardSaid : Prop := Claim7.holds Tryz.pinned (.plain (OpenSpec.ofChange topSeenPlacesSpec)) topSeenPlacesCard

/-- THE TIED CARD OF 'lampblacktop.TopCurveFlux'. -/
def topCurveFluxCard : Claim7 := { stood := { row := topCurveFluxRow, standIns := [], harness := (true, "a15c6410cd22c25795956fe4721f1c61676a153d93fdd0939546498ce7d8b611"), looks := false }, kinds := [], alts := [], laidByText := true, laidKinds := [.data, .data], laidTests := true, laidLooks := .later }
def TopCurveFluxCardSaid : Prop := Claim7.holds Tryz.pinned (.plain (OpenSpec.ofChange topCurveFluxSpec)) topCurveFluxCard

/-- THE TIED CARD OF 'lampblacktop.TopScaledPalette'. -/
def topScaledPaletteCard : Claim7 := { stood := { row := topScaledPaletteRow, standIns := [], harness := (true, "a15c6410cd22c25795956fe4721f1c61676a153d93fdd0939546498ce7d8b611"), looks := false }, kinds := [], alts := [], laidByText := true, laidKinds := [.data, .data], laidTests := true, laidLooks := .later }
def TopScaledPaletteCardSaid : Prop := Claim7.holds Tryz.pinned (.plain (OpenSpec.ofChange topScaledPaletteSpec)) topScaledPaletteCard

/-- THE TIED CARD OF 'lampblacktop.TopMatchedRow'. -/
def topMatchedRowCard : Claim7 := { stood := { row := topMatchedRowRow, standIns := [], harness := (true, "a15c6410cd22c25795956fe4721f1c61676a153d93fdd0939546498ce7d8b611"), looks := false }, kinds := [], alts := [], laidByText := true, laidKinds := [.data, .data], laidTests := true, laidLooks := .later }
def TopMatchedRowCardSaid : Prop := Claim7.holds Tryz.pinned (.plain (OpenSpec.ofChange topMatchedRowSpec)) topMatchedRowCard

/-- THE TIED CARD OF 'lampblacktop.TopWeighedLights'. -/
def topWeighedLightsCard : Claim7 := { stood := { row := topWeighedLightsRow, standIns := [], harness := (true, "a15c6410cd22c25795956fe4721f1c61676a153d93fdd0939546498ce7d8b611"), looks := false }, kinds := [], alts := [], laidByText := true, laidKinds := [.data, .data], laidTests := true, laidLooks := .later }
def TopWeighedLightsCardSaid : Prop := Claim7.holds Tryz.pinned (.plain (OpenSpec.ofChange topWeighedLightsSpec)) topWeighedLightsCard

/-- THE TIED CARD OF 'lampblacktop.TopSeenByEye'. -/
def topSeenByEyeCard : Claim7 := { stood := { row := topSeenByEyeRow, standIns := [], harness := (true, "a15c6410cd22c25795956fe4721f1c61676a153d93fdd0939546498ce7d8b611"), looks := false }, kinds := [], alts := [], laidByText := true, laidKinds := [.data, .data], laidTests := true, laidLooks := .later }
def TopSeenByEyeCardSaid : Prop := Claim7.holds Tryz.pinned (.plain (OpenSpec.ofChange topSeenByEyeSpec)) topSeenByEyeCard

/-- THE TIED CARD OF 'lampblacktop.TopMixedSignals'. -/
def topMixedSignalsCard : Claim7 := { stood := { row := topMixedSignalsRow, standIns := [], harness := (true, "a15c6410cd22c25795956fe4721f1c61676a153d93fdd0939546498ce7d8b611"), looks := false }, kinds := [], alts := [], laidByText := true, laidKinds := [.data, .data], laidTests := true, laidLooks := .later }
def TopMixedSignalsCardSaid : Prop := Claim7.holds Tryz.pinned (.plain (OpenSpec.ofChange topMixedSignalsSpec)) topMixedSignalsCard

/-- THE TIED CARD OF 'lampblacktop.TopScaledGap'. -/
def topScaledGapCard : Claim7 := { stood := { row := topScaledGapRow, standIns := [], harness := (true, "a15c6410cd22c25795956fe4721f1c61676a153d93fdd0939546498ce7d8b611"), looks := false }, kinds := [], alts := [], laidByText := true, laidKinds := [.data, .data], laidTests := true, laidLooks := .later }
def TopScaledGapCardSaid : Prop := Claim7.holds Tryz.pinned (.plain (OpenSpec.ofChange topScaledGapSpec)) topScaledGapCard

/-- THE SECOND FORM's CARD OF 'lampblacktop.TopSeenPlaces'. -/
def topSeenPlacesUptoCard : Claim7 := { stood := { row := topSeenPlacesUptoRow, standIns := [], harness := (true, "a15c6410cd22c25795956fe4721f1c61676a153d93fdd0939546498ce7d8b611"), looks := false }, kinds := [], alts := [], laidByText := true, laidKinds := [.data, .data], laidTests := true, laidLooks := .later }
def TopSeenPlacesUptoCardSaid : Prop := Claim7.holds Tryz.pinned (.plain (OpenSpec.upto topSeenPlacesSpec)) topSeenPlacesUptoCard

/-- THE SECOND FORM's CARD OF 'lampblacktop.TopCurveFlux'. -/
def topCurveFluxUptoCard : Claim7 := { stood := { row := topCurveFluxUptoRow, standIns := [], harness := (true, "a15c6410cd22c25795956fe4721f1c61676a153d93fdd0939546498ce7d8b611"), looks := false }, kinds := [], alts := [], laidByText := true, laidKinds := [.data, .data], laidTests := true, laidLooks := .later }
def TopCurveFluxUptoCardSaid : Prop := Claim7.holds Tryz.pinned (.plain (OpenSpec.upto topCurveFluxSpec)) topCurveFluxUptoCard

/-- THE SECOND FORM's CARD OF 'lampblacktop.TopScaledPalette'. -/
def topScaledPaletteUptoCard : Claim7 := { stood := { row := topScaledPaletteUptoRow, standIns := [], harness := (true, "a15c6410cd22c25795956fe4721f1c61676a153d93fdd0939546498ce7d8b611"), looks := false }, kinds := [], alts := [], laidByText := true, laidKinds := [.data, .data], laidTests := true, laidLooks := .later }
def TopScaledPaletteUptoCardSaid : Prop := Claim7.holds Tryz.pinned (.plain (OpenSpec.upto topScaledPaletteSpec)) topScaledPaletteUptoCard

/-- THE SECOND FORM's CARD OF 'lampblacktop.TopMatchedRow'. -/
def topMatchedRowUptoCard : Claim7 := { stood := { row := topMatchedRowUptoRow, standIns := [], harness := (true, "a15c6410cd22c25795956fe4721f1c61676a153d93fdd0939546498ce7d8b611"), looks := false }, kinds := [], alts := [], laidByText := true, laidKinds := [.data, .data], laidTests := true, laidLooks := .later }
def TopMatchedRowUptoCardSaid : Prop := Claim7.holds Tryz.pinned (.plain (OpenSpec.upto topMatchedRowSpec)) topMatchedRowUptoCard

/-- THE SECOND FORM's CARD OF 'lampblacktop.TopWeighedLights'. -/
def topWeighedLightsUptoCard : Claim7 := { stood := { row := topWeighedLightsUptoRow, standIns := [], harness := (true, "a15c6410cd22c25795956fe4721f1c61676a153d93fdd0939546498ce7d8b611"), looks := false }, kinds := [], alts := [], laidByText := true, laidKinds := [.data, .data], laidTests := true, laidLooks := .later }
def TopWeighedLightsUptoCardSaid : Prop := Claim7.holds Tryz.pinned (.plain (OpenSpec.upto topWeighedLightsSpec)) topWeighedLightsUptoCard

/-- THE SECOND FORM's CARD OF 'lampblacktop.TopSeenByEye'. -/
def topSeenByEyeUptoCard : Claim7 := { stood := { row := topSeenByEyeUptoRow, standIns := [], harness := (true, "a15c6410cd22c25795956fe4721f1c61676a153d93fdd0939546498ce7d8b611"), looks := false }, kinds := [], alts := [], laidByText := true, laidKinds := [.data, .data], laidTests := true, laidLooks := .later }
def TopSeenByEyeUptoCardSaid : Prop := Claim7.holds Tryz.pinned (.plain (OpenSpec.upto topSeenByEyeSpec)) topSeenByEyeUptoCard

/-- THE SECOND FORM's CARD OF 'lampblacktop.TopMixedSignals'. -/
def topMixedSignalsUptoCard : Claim7 := { stood := { row := topMixedSignalsUptoRow, standIns := [], harness := (true, "a15c6410cd22c25795956fe4721f1c61676a153d93fdd0939546498ce7d8b611"), looks := false }, kinds := [], alts := [], laidByText := true, laidKinds := [.data, .data], laidTests := true, laidLooks := .later }
def TopMixedSignalsUptoCardSaid : Prop := Claim7.holds Tryz.pinned (.plain (OpenSpec.upto topMixedSignalsSpec)) topMixedSignalsUptoCard

/-- THE SECOND FORM's CARD OF 'lampblacktop.TopScaledGap'. -/
def topScaledGapUptoCard : Claim7 := { stood := { row := topScaledGapUptoRow, standIns := [], harness := (true, "a15c6410cd22c25795956fe4721f1c61676a153d93fdd0939546498ce7d8b611"), looks := false }, kinds := [], alts := [], laidByText := true, laidKinds := [.data, .data], laidTests := true, laidLooks := .later }
def TopScaledGapUptoCardSaid : Prop := Claim7.holds Tryz.pinned (.plain (OpenSpec.upto topScaledGapSpec)) topScaledGapUptoCard
end Rows
end Go.Proofs.YtlbjnkopbabcnaaGreatDoor
