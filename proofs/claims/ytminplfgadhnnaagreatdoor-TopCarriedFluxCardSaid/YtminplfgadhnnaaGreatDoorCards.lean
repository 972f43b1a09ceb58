/-
  DERIVED. GIVEN WITH THE SEED: THE CARDS: each row of YtminplfgadhnnaaGreatDoorRows.lean that lists a variable, with what it lists TIED to the program's text (the seventh form; the later family's looks); each row that meets fmt, with fmt's text TOLD by the authors' own Lean function (tested against real Go, not proved from fmt's source: count such statements apart). THE CARD IS WHAT COUNTS. Prove the row's statement (the work); the ties are given (YtminplfgadhnnaaGreatDoorTie.lean); close each card by the builder's one call (the guide's Derived/Test/ToyasCard.lean, 'card_holds'). Laid BY PROGRAM, IN A SANDBOX (cutbox-door.mjs). By AI agents, Wed Nov 11 2026. No macro, syntax, notation, axiom, sorry.
-/
import Derived.Test.YtminplfgadhnnaaGreatDoorRows
import GoSem.ClaimSeven
namespace Go.Proofs.YtminplfgadhnnaaGreatDoor
namespace Rows

/-- THE TIED CARD OF 'lampblacktop.TopCarriedFlux'. -/
def topCarriedFluxCard : Claim7 := { stood := { row := topCarriedFluxRow, standIns := [], harness := (true, "1ff557746e5cc68913b9495a356ac7cd7a108f659711d45e90de76ec664112f7"), looks := false }, kinds := [], alts := [], laidByText := true, laidKinds := [.data, .data], laidTests := true, laidLooks := .later }
def TopCarriedFluxCardSaid : Prop := Claim7.holds Tryz.pinned (.plain (OpenSpec.ofChange topCarriedFluxSpec)) topCarriedFluxCard

/-- THE TIED CARD OF 'lampblacktop.TopSortedLamp'. -/
def topSortedLampCard : Claim7 := { stood := { row := topSortedLampRow, standIns := [], harness := (true, "1ff557746e5cc68913b9495a356ac7cd7a108f659711d45e90de76ec664112f7"), looks := false }, kinds := [], alts := [], laidByText := true, laidKinds := [.data, .data], laidTests := true, laidLooks := .later }
def TopSortedLampCardSaid : Prop := Claim7.holds Tryz.pinned (.plain (OpenSpec.ofChange topSortedLampSpec)) topSortedLampCard

/-- THE TIED CARD OF 'lampblacktop.TopSimplestPower'. -/
def topSimplestPowerCard : Claim7 := { stood := { row := topSimplestPowerRow, standIns := [], harness := (true, "1ff557746e5cc68913b9495a356ac7cd7a108f659711d45e90de76ec664112f7"), looks := false }, kinds := [], alts := [], laidByText := true, laidKinds := [.data, .data], laidTests := true, laidLooks := .later }
def TopSimplestPowerCardSaid : Prop := Claim7.holds Tryz.pinned (.plain (OpenSpec.ofChange topSimplestPowerSpec)) topSimplestPowerCard

/-- THE SECOND FORM's CARD OF 'lampblacktop.TopCarriedFlux'. -/
def topCarriedFluxUptoCard : Claim7 := { stood := { row := topCarriedFluxUptoRow, standIns := [], harness := (true, "1ff557746e5cc68913b9495a356ac7cd7a108f659711d45e90de76ec664112f7"), looks := false }, kinds := [], alts := [], laidByText := true, laidKinds := [.data, .data], laidTests := true, laidLooks := .later }
def TopCarriedFluxUptoCardSaid : Prop := Claim7.holds Tryz.pinned (.plain (OpenSpec.upto topCarriedFluxSpec)) topCarriedFluxUptoCard

/-- THE SECOND FORM's CARD OF 'lampblacktop.TopSortedLamp'. -/
def topSortedLampUptoCard : Claim7 := { stood := { row := topSortedLampUptoRow, standIns := [], harness := (true, "1ff557746e5cc68913b9495a356ac7cd7a108f659711d45e90de76ec664112f7"), looks := false }, kinds := [], alts := [], laidByText := true, laidKinds := [.data, .data], laidTests := true, laidLooks := .later }
def TopSortedLampUptoCardSaid : Prop := Claim7.holds Tryz.pinned (.plain (OpenSpec.upto topSortedLampSpec)) topSortedLampUptoCard

/-- THE SECOND FORM's CARD OF 'lampblacktop.TopSimplestPower'. -/
def topSimplestPowerUptoCard : Claim7 := { stood := { row := topSimplestPowerUptoRow, standIns := [], harness := (true, "1ff557746e5cc68913b9495a356ac7cd7a108f659711d45e90de76ec664112f7"), looks := false }, kinds := [], alts := [], laidByText := true, laidKinds := [.data, .data], laidTests := true, laidLooks := .later }
def TopSimplestPowerUptoCardSaid : Prop := Claim7.holds Tryz.pinned (.plain (OpenSpec.upto topSimplestPowerSpec)) topSimplestPowerUptoCard
end Rows
end Go.Proofs.YtminplfgadhnnaaGreatDoor
