/-
  DERIVED. GIVEN WITH THE SEED: THE CARDS: each row of YtkjoamindolonaaDoorRows.lean that lists a variable, with what it lists TIED to the program's text (the seventh form; the later family's looks); each row that meets fmt, with fmt's text TOLD by the authors' own Lean function (tested against real Go, not proved from fmt's source: count such statements apart). THE CARD IS WHAT COUNTS. Prove the row's statement (the work); the ties are given (YtkjoamindolonaaDoorTie.lean); close each card by the builder's one call (the guide's Derived/Test/ToyasCard.lean, 'card_holds'). Laid BY PROGRAM, IN A SANDBOX (cutbox-door.mjs). By AI agents, Wed Nov 11 2026. No macro, syntax, notation, axiom, sorry.
-/
import Derived.Test.YtkjoamindolonaaDoorRows
import GoSem.ClaimSeven
namespace Go.Proofs.YtkjoamindolonaaDoor
namespace Rows

/-- THE TIED CARD OF 'lampblacklaw01.UnitCarries'. -/
def unitCarriesCard : Claim7 := { stood := { row := unitCarriesRow, standIns := [], harness := (true, "f8c557c3828464f50bf7777be9acb24d936d4f4d609753442c4368e2a2cc0908"), looks := false }, kinds := [], alts := [], laidByText := true, laidKinds := [.data], laidTests := true, laidLooks := .later }
def UnitCarriesCardSaid : Prop := Claim7.holds Tryd.pinned (.plain (OpenSpec.ofChange unitCarriesSpec)) unitCarriesCard

/-- THE TIED CARD OF 'lampblacklaw01.UnitSimple'. -/
def unitSimpleCard : Claim7 := { stood := { row := unitSimpleRow, standIns := [], harness := (true, "f8c557c3828464f50bf7777be9acb24d936d4f4d609753442c4368e2a2cc0908"), looks := false }, kinds := [], alts := [], laidByText := true, laidKinds := [.data], laidTests := true, laidLooks := .later }
def UnitSimpleCardSaid : Prop := Claim7.holds Tryd.pinned (.plain (OpenSpec.ofChange unitSimpleSpec)) unitSimpleCard

/-- THE TIED CARD OF 'lampblacklaw01.UnitPaths'. -/
def unitPathsCard : Claim7 := { stood := { row := unitPathsRow, standIns := [], harness := (true, "f8c557c3828464f50bf7777be9acb24d936d4f4d609753442c4368e2a2cc0908"), looks := false }, kinds := [], alts := [], laidByText := true, laidKinds := [.data], laidTests := true, laidLooks := .later }
def UnitPathsCardSaid : Prop := Claim7.holds Tryd.pinned (.plain (OpenSpec.ofChange unitPathsSpec)) unitPathsCard

/-- THE TIED CARD OF 'lampblacklaw01.UnitNexts'. -/
def unitNextsCard : Claim7 := { stood := { row := unitNextsRow, standIns := [], harness := (true, "f8c557c3828464f50bf7777be9acb24d936d4f4d609753442c4368e2a2cc0908"), looks := false }, kinds := [], alts := [], laidByText := true, laidKinds := [.data], laidTests := true, laidLooks := .later }
def UnitNextsCardSaid : Prop := Claim7.holds Tryd.pinned (.plain (OpenSpec.ofChange unitNextsSpec)) unitNextsCard

/-- THE TIED CARD OF 'lampblacklaw01.UnitCarried'. -/
def unitCarriedCard : Claim7 := { stood := { row := unitCarriedRow, standIns := [], harness := (true, "f8c557c3828464f50bf7777be9acb24d936d4f4d609753442c4368e2a2cc0908"), looks := false }, kinds := [], alts := [], laidByText := true, laidKinds := [.data], laidTests := true, laidLooks := .later }
def UnitCarriedCardSaid : Prop := Claim7.holds Tryd.pinned (.plain (OpenSpec.ofChange unitCarriedSpec)) unitCarriedCard

/-- THE TIED CARD OF 'lampblacklaw01.UnitTurned'. -/
def unitTurnedCard : Claim7 := { stood := { row := unitTurnedRow, standIns := [], harness := (true, "f8c557c3828464f50bf7777be9acb24d936d4f4d609753442c4368e2a2cc0908"), looks := false }, kinds := [], alts := [], laidByText := true, laidKinds := [.data], laidTests := true, laidLooks := .later }
def UnitTurnedCardSaid : Prop := Claim7.holds Tryd.pinned (.plain (OpenSpec.ofChange unitTurnedSpec)) unitTurnedCard

/-- THE TIED CARD OF 'lampblacklaw01.UnitNarrower'. -/
def unitNarrowerCard : Claim7 := { stood := { row := unitNarrowerRow, standIns := [], harness := (true, "f8c557c3828464f50bf7777be9acb24d936d4f4d609753442c4368e2a2cc0908"), looks := false }, kinds := [], alts := [], laidByText := true, laidKinds := [.data], laidTests := true, laidLooks := .later }
def UnitNarrowerCardSaid : Prop := Claim7.holds Tryd.pinned (.plain (OpenSpec.ofChange unitNarrowerSpec)) unitNarrowerCard

/-- THE TIED CARD OF 'lampblacklaw01.UnitPath'. -/
def unitPathCard : Claim7 := { stood := { row := unitPathRow, standIns := [], harness := (true, "f8c557c3828464f50bf7777be9acb24d936d4f4d609753442c4368e2a2cc0908"), looks := false }, kinds := [], alts := [], laidByText := true, laidKinds := [.data], laidTests := true, laidLooks := .later }
def UnitPathCardSaid : Prop := Claim7.holds Tryd.pinned (.plain (OpenSpec.ofChange unitPathSpec)) unitPathCard

/-- THE TIED CARD OF 'lampblacklaw01.UnitNeighbours'. -/
def unitNeighboursCard : Claim7 := { stood := { row := unitNeighboursRow, standIns := [], harness := (true, "f8c557c3828464f50bf7777be9acb24d936d4f4d609753442c4368e2a2cc0908"), looks := false }, kinds := [], alts := [], laidByText := true, laidKinds := [.data], laidTests := true, laidLooks := .later }
def UnitNeighboursCardSaid : Prop := Claim7.holds Tryd.pinned (.plain (OpenSpec.ofChange unitNeighboursSpec)) unitNeighboursCard

/-- THE TIED CARD OF 'lampblacklaw01.UnitKnown'. -/
def unitKnownCard : Claim7 := { stood := { row := unitKnownRow, standIns := [], harness := (true, "f8c557c3828464f50bf7777be9acb24d936d4f4d609753442c4368e2a2cc0908"), looks := false }, kinds := [], alts := [], laidByText := true, laidKinds := [.data], laidTests := true, laidLooks := .later }
def UnitKnownCardSaid : Prop := Claim7.holds Tryd.pinned (.plain (OpenSpec.ofChange unitKnownSpec)) unitKnownCard

/-- THE TIED CARD OF 'lampblacklaw01.UnitProofs'. -/
def unitProofsCard : Claim7 := { stood := { row := unitProofsRow, standIns := [], harness := (true, "f8c557c3828464f50bf7777be9acb24d936d4f4d609753442c4368e2a2cc0908"), looks := false }, kinds := [], alts := [], laidByText := true, laidKinds := [.data], laidTests := true, laidLooks := .later }
def UnitProofsCardSaid : Prop := Claim7.holds Tryd.pinned (.plain (OpenSpec.ofChange unitProofsSpec)) unitProofsCard

/-- THE TIED CARD OF 'lampblacklaw01.UnitProved'. -/
def unitProvedCard : Claim7 := { stood := { row := unitProvedRow, standIns := [], harness := (true, "f8c557c3828464f50bf7777be9acb24d936d4f4d609753442c4368e2a2cc0908"), looks := false }, kinds := [], alts := [], laidByText := true, laidKinds := [.data], laidTests := true, laidLooks := .later }
def UnitProvedCardSaid : Prop := Claim7.holds Tryd.pinned (.plain (OpenSpec.ofChange unitProvedSpec)) unitProvedCard

/-- THE SECOND FORM's CARD OF 'lampblacklaw01.UnitCarries'. -/
def unitCarriesUptoCard : Claim7 := { stood := { row := unitCarriesUptoRow, standIns := [], harness := (true, "f8c557c3828464f50bf7777be9acb24d936d4f4d609753442c4368e2a2cc0908"), looks := false }, kinds := [], alts := [], laidByText := true, laidKinds := [.data], laidTests := true, laidLooks := .later }
def UnitCarriesUptoCardSaid : Prop := Claim7.holds Tryd.pinned (.plain (OpenSpec.upto unitCarriesSpec)) unitCarriesUptoCard

/-- THE SECOND FORM's CARD OF 'lampblacklaw01.UnitSimple'. -/
def unitSimpleUptoCard : Claim7 := { stood := { row := unitSimpleUptoRow, standIns := [], harness := (true, "f8c557c3828464f50bf7777be9acb24d936d4f4d609753442c4368e2a2cc0908"), looks := false }, kinds := [], alts := [], laidByText := true, laidKinds := [.data], laidTests := true, laidLooks := .later }
def UnitSimpleUptoCardSaid : Prop := Claim7.holds Tryd.pinned (.plain (OpenSpec.upto unitSimpleSpec)) unitSimpleUptoCard

/-- THE SECOND FORM's CARD OF 'lampblacklaw01.UnitPaths'. -/
def unitPathsUptoCard : Claim7 := { stood := { row := unitPathsUptoRow, standIns := [], harness := (true, "f8c557c3828464f50bf7777be9acb24d936d4f4d609753442c4368e2a2cc0908"), looks := false }, kinds := [], alts := [], laidByText := true, laidKinds := [.data], laidTests := true, laidLooks := .later }
def UnitPathsUptoCardSaid : Prop := Claim7.holds Tryd.pinned (.plain (OpenSpec.upto unitPathsSpec)) unitPathsUptoCard

/-- THE SECOND FORM's CARD OF 'lampblacklaw01.UnitNexts'. -/
def unitNextsUptoCard : Claim7 := { stood := { row := unitNextsUptoRow, standIns := [], harness := (true, "f8c557c3828464f50bf7777be9acb24d936d4f4d609753442c4368e2a2cc0908"), looks := false }, kinds := [], alts := [], laidByText := true, laidKinds := [.data], laidTests := true, laidLooks := .later }
def UnitNextsUptoCardSaid : Prop := Claim7.holds Tryd.pinned (.plain (OpenSpec.upto unitNextsSpec)) unitNextsUptoCard

/-- THE SECOND FORM's CARD OF 'lampblacklaw01.UnitCarried'. -/
def unitCarriedUptoCard : Claim7 := { stood := { row := unitCarriedUptoRow, standIns := [], harness := (true, "f8c557c3828464f50bf7777be9acb24d936d4f4d609753442c4368e2a2cc0908"), looks := false }, kinds := [], alts := [], laidByText := true, laidKinds := [.data], laidTests := true, laidLooks := .later }
def UnitCarriedUptoCardSaid : Prop := Claim7.holds Tryd.pinned (.plain (OpenSpec.upto unitCarriedSpec)) unitCarriedUptoCard

/-- THE SECOND FORM's CARD OF 'lampblacklaw01.UnitTurned'. -/
def unitTurnedUptoCard : Claim7 := { stood := { row := unitTurnedUptoRow, standIns := [], harness := (true, "f8c557c3828464f50bf7777be9acb24d936d4f4d609753442c4368e2a2cc0908"), looks := false }, kinds := [], alts := [], laidByText := true, laidKinds := [.data], laidTests := true, laidLooks := .later }
def UnitTurnedUptoCardSaid : Prop := Claim7.holds Tryd.pinned (.plain (OpenSpec.upto unitTurnedSpec)) unitTurnedUptoCard

/-- THE SECOND FORM's CARD OF 'lampblacklaw01.UnitNarrower'. -/
def unitNarrowerUptoCard : Claim7 := { stood := { row := unitNarrowerUptoRow, standIns := [], harness := (true, "f8c557c3828464f50bf7777be9acb24d936d4f4d609753442c4368e2a2cc0908"), looks := false }, kinds := [], alts := [], laidByText := true, laidKinds := [.data], laidTests := true, laidLooks := .later }
def UnitNarrowerUptoCardSaid : Prop := Claim7.holds Tryd.pinned (.plain (OpenSpec.upto unitNarrowerSpec)) unitNarrowerUptoCard

/-- THE SECOND FORM's CARD OF 'lampblacklaw01.UnitPath'. -/
def unitPathUptoCard : Claim7 := { stood := { row := unitPathUptoRow, standIns := [], harness := (true, "f8c557c3828464f50bf7777be9acb24d936d4f4d609753442c4368e2a2cc0908"), looks := false }, kinds := [], alts := [], laidByText := true, laidKinds := [.data], laidTests := true, laidLooks := .later }
def UnitPathUptoCardSaid : Prop := Claim7.holds Tryd.pinned (.plain (OpenSpec.upto unitPathSpec)) unitPathUptoCard

/-- THE SECOND FORM's CARD OF 'lampblacklaw01.UnitNeighbours'. -/
def unitNeighboursUptoCard : Claim7 := { stood := { row := unitNeighboursUptoRow, standIns := [], harness := (true, "f8c557c3828464f50bf7777be9acb24d936d4f4d609753442c4368e2a2cc0908"), looks := false }, kinds := [], alts := [], laidByText := true, laidKinds := [.data], laidTests := true, laidLooks := .later }
def UnitNeighboursUptoCardSaid : Prop := Claim7.holds Tryd.pinned (.plain (OpenSpec.upto unitNeighboursSpec)) unitNeighboursUptoCard

/-- THE SECOND FORM's CARD OF 'lampblacklaw01.UnitKnown'. -/
def unitKnownUptoCard : Claim7 := { stood := { row := unitKnownUptoRow, standIns := [], harness := (true, "f8c557c3828464f50bf7777be9acb24d936d4f4d609753442c4368e2a2cc0908"), looks := false }, kinds := [], alts := [], laidByText := true, laidKinds := [.data], laidTests := true, laidLooks := .later }
def UnitKnownUptoCardSaid : Prop := Claim7.holds Tryd.pinned (.plain (OpenSpec.upto unitKnownSpec)) unitKnownUptoCard

/-- THE SECOND FORM's CARD OF 'lampblacklaw01.UnitProofs'. -/
def unitProofsUptoCard : Claim7 := { stood := { row := unitProofsUptoRow, standIns := [], harness := (true, "f8c557c3828464f50bf7777be9acb24d936d4f4d609753442c4368e2a2cc0908"), looks := false }, kinds := [], alts := [], laidByText := true, laidKinds := [.data], laidTests := true, laidLooks := .later }
def UnitProofsUptoCardSaid : Prop := Claim7.holds Tryd.pinned (.plain (OpenSpec.upto unitProofsSpec)) unitProofsUptoCard

/-- THE SECOND FORM's CARD OF 'lampblacklaw01.UnitProved'. -/
def unitProvedUptoCard : Claim7 := { stood := { row := unitProvedUptoRow, standIns := [], harness := (true, "f8c557c3828464f50bf7777be9acb24d936d4f4d609753442c4368e2a2cc0908"), looks := false }, kinds := [], alts := [], laidByText := true, laidKinds := [.data], laidTests := true, laidLooks := .later }
def UnitProvedUptoCardSaid : Prop := Claim7.holds Tryd.pinned (.plain (OpenSpec.upto unitProvedSpec)) unitProvedUptoCard
end Rows
end Go.Proofs.YtkjoamindolonaaDoor
