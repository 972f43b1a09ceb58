/-
  DERIVED. GIVEN WITH THE SEED: THE CARDS: each row of YtmddpjlpbmfbgaaDoorRows.lean that lists a variable, with what it lists TIED to the program's text (the seventh form; the later family's looks); each row that meets fmt, with fmt's text TOLD by the authors' own Lean function (tested against real Go, not proved from fmt's source: count such statements apart). THE CARD IS WHAT COUNTS. Prove the row's statement (the work); the ties are given (YtmddpjlpbmfbgaaDoorTie.lean); close each card by the builder's one call (the guide's Derived/Test/ToyasCard.lean, 'card_holds'). Laid BY PROGRAM, IN A SANDBOX (cutbox-door.mjs). By AI agents, Wed Nov 11 2026. No macro, syntax, notation, axiom, sorry.
-/
import Derived.Test.YtmddpjlpbmfbgaaDoorRows
import GoSem.ClaimSeven
namespace Go.Proofs.YtmddpjlpbmfbgaaDoor
namespace Rows

/-- THE TIED CARD OF 'lampblacklaw02.BenchRuns'. -/
def benchRunsCard : Claim7 := { stood := { row := benchRunsRow, standIns := [], harness := (true, "102a9690c46b2177043e5ae6defd46a157f2eaec0f0bdf13a2d1f00601512b0d"), looks := false }, kinds := [], alts := [], laidByText := true, laidKinds := [.data], laidTests := true, laidLooks := .later }
def BenchRunsCardSaid : Prop := Claim7.holds Tryd.pinned (.plain (OpenSpec.ofChange benchRunsSpec)) benchRunsCard

/-- THE TIED CARD OF 'lampblacklaw02.BenchTests'. -/
def benchTestsCard : Claim7 := { stood := { row := benchTestsRow, standIns := [], harness := (true, "102a9690c46b2177043e5ae6defd46a157f2eaec0f0bdf13a2d1f00601512b0d"), looks := false }, kinds := [], alts := [], laidByText := true, laidKinds := [.data], laidTests := true, laidLooks := .later }
def BenchTestsCardSaid : Prop := Claim7.holds Tryd.pinned (.plain (OpenSpec.ofChange benchTestsSpec)) benchTestsCard

/-- THE TIED CARD OF 'lampblacklaw02.BenchZeroOne'. -/
def benchZeroOneCard : Claim7 := { stood := { row := benchZeroOneRow, standIns := [], harness := (true, "102a9690c46b2177043e5ae6defd46a157f2eaec0f0bdf13a2d1f00601512b0d"), looks := false }, kinds := [], alts := [], laidByText := true, laidKinds := [.data], laidTests := true, laidLooks := .later }
def BenchZeroOneCardSaid : Prop := Claim7.holds Tryd.pinned (.plain (OpenSpec.ofChange benchZeroOneSpec)) benchZeroOneCard

/-- THE TIED CARD OF 'lampblacklaw02.BenchMerged'. -/
def benchMergedCard : Claim7 := { stood := { row := benchMergedRow, standIns := [], harness := (true, "102a9690c46b2177043e5ae6defd46a157f2eaec0f0bdf13a2d1f00601512b0d"), looks := false }, kinds := [], alts := [], laidByText := true, laidKinds := [.data], laidTests := true, laidLooks := .later }
def BenchMergedCardSaid : Prop := Claim7.holds Tryd.pinned (.plain (OpenSpec.ofChange benchMergedSpec)) benchMergedCard

/-- THE TIED CARD OF 'lampblacklaw02.BenchRelabelled'. -/
def benchRelabelledCard : Claim7 := { stood := { row := benchRelabelledRow, standIns := [], harness := (true, "102a9690c46b2177043e5ae6defd46a157f2eaec0f0bdf13a2d1f00601512b0d"), looks := false }, kinds := [], alts := [], laidByText := true, laidKinds := [.data], laidTests := true, laidLooks := .later }
def BenchRelabelledCardSaid : Prop := Claim7.holds Tryd.pinned (.plain (OpenSpec.ofChange benchRelabelledSpec)) benchRelabelledCard

/-- THE TIED CARD OF 'lampblacklaw02.BenchBuilt'. -/
def benchBuiltCard : Claim7 := { stood := { row := benchBuiltRow, standIns := [], harness := (true, "102a9690c46b2177043e5ae6defd46a157f2eaec0f0bdf13a2d1f00601512b0d"), looks := false }, kinds := [], alts := [], laidByText := true, laidKinds := [.data], laidTests := true, laidLooks := .later }
def BenchBuiltCardSaid : Prop := Claim7.holds Tryd.pinned (.plain (OpenSpec.ofChange benchBuiltSpec)) benchBuiltCard

/-- THE TIED CARD OF 'lampblacklaw02.BenchPlaced'. -/
def benchPlacedCard : Claim7 := { stood := { row := benchPlacedRow, standIns := [], harness := (true, "102a9690c46b2177043e5ae6defd46a157f2eaec0f0bdf13a2d1f00601512b0d"), looks := false }, kinds := [], alts := [], laidByText := true, laidKinds := [.data], laidTests := true, laidLooks := .later }
def BenchPlacedCardSaid : Prop := Claim7.holds Tryd.pinned (.plain (OpenSpec.ofChange benchPlacedSpec)) benchPlacedCard

/-- THE TIED CARD OF 'lampblacklaw02.BenchKnown'. -/
def benchKnownCard : Claim7 := { stood := { row := benchKnownRow, standIns := [], harness := (true, "102a9690c46b2177043e5ae6defd46a157f2eaec0f0bdf13a2d1f00601512b0d"), looks := false }, kinds := [], alts := [], laidByText := true, laidKinds := [.data], laidTests := true, laidLooks := .later }
def BenchKnownCardSaid : Prop := Claim7.holds Tryd.pinned (.plain (OpenSpec.ofChange benchKnownSpec)) benchKnownCard

/-- THE TIED CARD OF 'lampblacklaw02.BenchBars'. -/
def benchBarsCard : Claim7 := { stood := { row := benchBarsRow, standIns := [], harness := (true, "102a9690c46b2177043e5ae6defd46a157f2eaec0f0bdf13a2d1f00601512b0d"), looks := false }, kinds := [], alts := [], laidByText := true, laidKinds := [.data], laidTests := true, laidLooks := .later }
def BenchBarsCardSaid : Prop := Claim7.holds Tryd.pinned (.plain (OpenSpec.ofChange benchBarsSpec)) benchBarsCard

/-- THE TIED CARD OF 'lampblacklaw02.BenchSquared'. -/
def benchSquaredCard : Claim7 := { stood := { row := benchSquaredRow, standIns := [], harness := (true, "102a9690c46b2177043e5ae6defd46a157f2eaec0f0bdf13a2d1f00601512b0d"), looks := false }, kinds := [], alts := [], laidByText := true, laidKinds := [.data], laidTests := true, laidLooks := .later }
def BenchSquaredCardSaid : Prop := Claim7.holds Tryd.pinned (.plain (OpenSpec.ofChange benchSquaredSpec)) benchSquaredCard

/-- THE TIED CARD OF 'lampblacklaw02.BenchTrims'. -/
def benchTrimsCard : Claim7 := { stood := { row := benchTrimsRow, standIns := [], harness := (true, "102a9690c46b2177043e5ae6defd46a157f2eaec0f0bdf13a2d1f00601512b0d"), looks := false }, kinds := [], alts := [], laidByText := true, laidKinds := [.data], laidTests := true, laidLooks := .later }
def BenchTrimsCardSaid : Prop := Claim7.holds Tryd.pinned (.plain (OpenSpec.ofChange benchTrimsSpec)) benchTrimsCard

/-- THE TIED CARD OF 'lampblacklaw02.BenchTrimmed'. -/
def benchTrimmedCard : Claim7 := { stood := { row := benchTrimmedRow, standIns := [], harness := (true, "102a9690c46b2177043e5ae6defd46a157f2eaec0f0bdf13a2d1f00601512b0d"), looks := false }, kinds := [], alts := [], laidByText := true, laidKinds := [.data], laidTests := true, laidLooks := .later }
def BenchTrimmedCardSaid : Prop := Claim7.holds Tryd.pinned (.plain (OpenSpec.ofChange benchTrimmedSpec)) benchTrimmedCard

/-- THE SECOND FORM's CARD OF 'lampblacklaw02.BenchRuns'. -/
def benchRunsUptoCard : Claim7 := { stood := { row := benchRunsUptoRow, standIns := [], harness := (true, "102a9690c46b2177043e5ae6defd46a157f2eaec0f0bdf13a2d1f00601512b0d"), looks := false }, kinds := [], alts := [], laidByText := true, laidKinds := [.data], laidTests := true, laidLooks := .later }
def BenchRunsUptoCardSaid : Prop := Claim7.holds Tryd.pinned (.plain (OpenSpec.upto benchRunsSpec)) benchRunsUptoCard

/-- THE SECOND FORM's CARD OF 'lampblacklaw02.BenchTests'. -/
def benchTestsUptoCard : Claim7 := { stood := { row := benchTestsUptoRow, standIns := [], harness := (true, "102a9690c46b2177043e5ae6defd46a157f2eaec0f0bdf13a2d1f00601512b0d"), looks := false }, kinds := [], alts := [], laidByText := true, laidKinds := [.data], laidTests := true, laidLooks := .later }
def BenchTestsUptoCardSaid : Prop := Claim7.holds Tryd.pinned (.plain (OpenSpec.upto benchTestsSpec)) benchTestsUptoCard

/-- THE SECOND FORM's CARD OF 'lampblacklaw02.BenchZeroOne'. -/
def benchZeroOneUptoCard : Claim7 := { stood := { row := benchZeroOneUptoRow, standIns := [], harness := (true, "102a9690c46b2177043e5ae6defd46a157f2eaec0f0bdf13a2d1f00601512b0d"), looks := false }, kinds := [], alts := [], laidByText := true, laidKinds := [.data], laidTests := true, laidLooks := .later }
def BenchZeroOneUptoCardSaid : Prop := Claim7.holds Tryd.pinned (.plain (OpenSpec.upto benchZeroOneSpec)) benchZeroOneUptoCard

/-- THE SECOND FORM's CARD OF 'lampblacklaw02.BenchMerged'. -/
def benchMergedUptoCard : Claim7 := { stood := { row := benchMergedUptoRow, standIns := [], harness := (true, "102a9690c46b2177043e5ae6defd46a157f2eaec0f0bdf13a2d1f00601512b0d"), looks := false }, kinds := [], alts := [], laidByText := true, laidKinds := [.data], laidTests := true, laidLooks := .later }
def BenchMergedUptoCardSaid : Prop := Claim7.holds Tryd.pinned (.plain (OpenSpec.upto benchMergedSpec)) benchMergedUptoCard

/-- THE SECOND FORM's CARD OF 'lampblacklaw02.BenchRelabelled'. -/
def benchRelabelledUptoCard : Claim7 := { stood := { row := benchRelabelledUptoRow, standIns := [], harness := (true, "102a9690c46b2177043e5ae6defd46a157f2eaec0f0bdf13a2d1f00601512b0d"), looks := false }, kinds := [], alts := [], laidByText := true, laidKinds := [.data], laidTests := true, laidLooks := .later }
def BenchRelabelledUptoCardSaid : Prop := Claim7.holds Tryd.pinned (.plain (OpenSpec.upto benchRelabelledSpec)) benchRelabelledUptoCard

/-- THE SECOND FORM's CARD OF 'lampblacklaw02.BenchBuilt'. -/
def benchBuiltUptoCard : Claim7 := { stood := { row := benchBuiltUptoRow, standIns := [], harness := (true, "102a9690c46b2177043e5ae6defd46a157f2eaec0f0bdf13a2d1f00601512b0d"), looks := false }, kinds := [], alts := [], laidByText := true, laidKinds := [.data], laidTests := true, laidLooks := .later }
def BenchBuiltUptoCardSaid : Prop := Claim7.holds Tryd.pinned (.plain (OpenSpec.upto benchBuiltSpec)) benchBuiltUptoCard

/-- THE SECOND FORM's CARD OF 'lampblacklaw02.BenchPlaced'. -/
def benchPlacedUptoCard : Claim7 := { stood := { row := benchPlacedUptoRow, standIns := [], harness := (true, "102a9690c46b2177043e5ae6defd46a157f2eaec0f0bdf13a2d1f00601512b0d"), looks := false }, kinds := [], alts := [], laidByText := true, laidKinds := [.data], laidTests := true, laidLooks := .later }
def BenchPlacedUptoCardSaid : Prop := Claim7.holds Tryd.pinned (.plain (OpenSpec.upto benchPlacedSpec)) benchPlacedUptoCard

/-- THE SECOND FORM's CARD OF 'lampblacklaw02.BenchKnown'. -/
def benchKnownUptoCard : Claim7 := { stood := { row := benchKnownUptoRow, standIns := [], harness := (true, "102a9690c46b2177043e5ae6defd46a157f2eaec0f0bdf13a2d1f00601512b0d"), looks := false }, kinds := [], alts := [], laidByText := true, laidKinds := [.data], laidTests := true, laidLooks := .later }
def BenchKnownUptoCardSaid : Prop := Claim7.holds Tryd.pinned (.plain (OpenSpec.upto benchKnownSpec)) benchKnownUptoCard

/-- THE SECOND FORM's CARD OF 'lampblacklaw02.BenchBars'. -/
def benchBarsUptoCard : Claim7 := { stood := { row := benchBarsUptoRow, standIns := [], harness := (true, "102a9690c46b2177043e5ae6defd46a157f2eaec0f0bdf13a2d1f00601512b0d"), looks := false }, kinds := [], alts := [], laidByText := true, laidKinds := [.data], laidTests := true, laidLooks := .later }
def BenchBarsUptoCardSaid : Prop := Claim7.holds Tryd.pinned (.plain (OpenSpec.upto benchBarsSpec)) benchBarsUptoCard

/-- THE SECOND FORM's CARD OF 'lampblacklaw02.BenchSquared'. -/
def benchSquaredUptoCard : Claim7 := { stood := { row := benchSquaredUptoRow, standIns := [], harness := (true, "102a9690c46b2177043e5ae6defd46a157f2eaec0f0bdf13a2d1f00601512b0d"), looks := false }, kinds := [], alts := [], laidByText := true, laidKinds := [.data], laidTests := true, laidLooks := .later }
def BenchSquaredUptoCardSaid : Prop := Claim7.holds Tryd.pinned (.plain (OpenSpec.upto benchSquaredSpec)) benchSquaredUptoCard

/-- THE SECOND FORM's CARD OF 'lampblacklaw02.BenchTrims'. -/
def benchTrimsUptoCard : Claim7 := { stood := { row := benchTrimsUptoRow, standIns := [], harness := (true, "102a9690c46b2177043e5ae6defd46a157f2eaec0f0bdf13a2d1f00601512b0d"), looks := false }, kinds := [], alts := [], laidByText := true, laidKinds := [.data], laidTests := true, laidLooks := .later }
def BenchTrimsUptoCardSaid : Prop := Claim7.holds Tryd.pinned (.plain (OpenSpec.upto benchTrimsSpec)) benchTrimsUptoCard

/-- THE SECOND FORM's CARD OF 'lampblacklaw02.BenchTrimmed'. -/
def benchTrimmedUptoCard : Claim7 := { stood := { row := benchTrimmedUptoRow, standIns := [], harness := (true, "102a9690c46b2177043e5ae6defd46a157f2eaec0f0bdf13a2d1f00601512b0d"), looks := false }, kinds := [], alts := [], laidByText := true, laidKinds := [.data], laidTests := true, laidLooks := .later }
def BenchTrimmedUptoCardSaid : Prop := Claim7.holds Tryd.pinned (.plain (OpenSpec.upto benchTrimmedSpec)) benchTrimmedUptoCard
end Rows
end Go.Proofs.YtmddpjlpbmfbgaaDoor
