/-
  NARROWER THAN 'FOR EVERY INPUT', by the rows' own cells (each row's printed sentence says how): TopSeenPlaces: laid · TopCurveFlux: laid · TopScaledPalette: laid · TopMatchedRow: laid · TopWeighedLights: laid · TopSeenByEye: laid · TopMixedSignals: laid · TopScaledGap: laid.
  DERIVED. THE GIVEN ROWS OF THIS SEAT. 8 by the template 'for every input the law returns true; each argument reads behind the call as it read before'; 0 by the template 'total and deterministic' (their statements: YtlbjnkopbabcnaaGreatDoorTotals.lean).
  GIVEN WITH THE SEED: the statements are not yours to turn. If you find one false, say at which input.
  Laid BY PROGRAM, IN A SANDBOX (cutbox-rows.mjs): the forced cells as the released guide's own fill.sh prints them over the translation 73906a964d9316b2… (all of the seat's roots in one cut). By AI agents, Wed Nov 11 2026. No macro, syntax, notation, axiom, sorry.
-/
import Derived.Test.YtlbjnkopbabcnaaGreatDoorChecked
import GoSem.Claim
import GoSem.ClaimJoined
import GoSem.ClaimMapViews
import Derived.JoinedTies
import Derived.KernelRfl
namespace Go.Proofs.YtlbjnkopbabcnaaGreatDoor
/- THE CELL 'sum', in the pinned program and in every row, IS THE sha256 OF THE DUMP (.gsa) THAT YtlbjnkopbabcnaaGreatDoorProg.lean LOADS. Nothing in Lean hashes anything: it is a label: what it is worth is what the hold of that sum in a sandbox is worth. -/
noncomputable def Tryz.pinned : Pinned := { name := "ytlbjnkopbabcnaagreatdoor", sum := "73906a964d9316b25fa4f5df2ddfce6190eaa905339b0d3974add1872863c6bf", checked := Tryz.checked }
namespace Rows
def none {H : Type} : Left H := { results := [], args := [] }

/- WHAT THE LISTED PACKAGE-LEVEL VARIABLES READ AS WHEN THE CALL BEGINS. Each datum BY PROGRAM (the guide's laid-datum.mjs) off the statement by which the dump's own 'gosem.cut.vars' lays the variable. In a bare row this is a premise. The card (YtlbjnkopbabcnaaGreatDoorCards.lean) ties it to the program's text. -/
def laid_math_bits_deBruijn64tab {H : Type} : DataW H := .agg [.lit (.int .u8 0), .lit (.int .u8 1), .lit (.int .u8 56), .lit (.int .u8 2), .lit (.int .u8 57), .lit (.int .u8 49), .lit (.int .u8 28), .lit (.int .u8 3), .lit (.int .u8 61), .lit (.int .u8 58), .lit (.int .u8 42), .lit (.int .u8 50), .lit (.int .u8 38), .lit (.int .u8 29), .lit (.int .u8 17), .lit (.int .u8 4), .lit (.int .u8 62), .lit (.int .u8 47), .lit (.int .u8 59), .lit (.int .u8 36), .lit (.int .u8 45), .lit (.int .u8 43), .lit (.int .u8 51), .lit (.int .u8 22), .lit (.int .u8 53), .lit (.int .u8 39), .lit (.int .u8 33), .lit (.int .u8 30), .lit (.int .u8 24), .lit (.int .u8 18), .lit (.int .u8 12), .lit (.int .u8 5), .lit (.int .u8 63), .lit (.int .u8 55), .lit (.int .u8 48), .lit (.int .u8 27), .lit (.int .u8 60), .lit (.int .u8 41), .lit (.int .u8 37), .lit (.int .u8 16), .lit (.int .u8 46), .lit (.int .u8 35), .lit (.int .u8 44), .lit (.int .u8 21), .lit (.int .u8 52), .lit (.int .u8 32), .lit (.int .u8 23), .lit (.int .u8 11), .lit (.int .u8 54), .lit (.int .u8 26), .lit (.int .u8 40), .lit (.int .u8 15), .lit (.int .u8 34), .lit (.int .u8 20), .lit (.int .u8 31), .lit (.int .u8 10), .lit (.int .u8 25), .lit (.int .u8 14), .lit (.int .u8 19), .lit (.int .u8 9), .lit (.int .u8 13), .lit (.int .u8 8), .lit (.int .u8 7), .lit (.int .u8 6)]
def laid_lampblack_unit_first {H : Type} : DataW H := .agg [.lit (.int .i64 1), .lit (.int .i64 0), .lit (.int .i64 0), .lit (.int .i64 1)]

/-- 'lampblacktop.TopSeenPlaces': WHATEVER THE INPUT: true; the input reads as it did. -/
def topSeenPlacesSpec : ChangeSpec := { name := "topSeenPlaces", fn := fun _ => fun
  | [d1, d2, d3, d4, d5] => { results := [.lit (.bool true)], args := [d1, d2, d3, d4, d5] }
  | _ => none }
def topSeenPlacesRow : OpenClaim := { program := "ytlbjnkopbabcnaagreatdoor", sum := "73906a964d9316b25fa4f5df2ddfce6190eaa905339b0d3974add1872863c6bf", func := "lampblack/lampblacktop.TopSeenPlaces", spec := "topSeenPlaces", unfollowed := true, recurses := true, named := ["lampblack/unit.first", "math/bits.deBruijn64tab"], plainKeys := false, apart := false, laid := [("math/bits.deBruijn64tab", laid_math_bits_deBruijn64tab), ("lampblack/unit.first", laid_lampblack_unit_first)] }
def TopSeenPlacesSaid : Prop := topSeenPlacesRow.holds Tryz.pinned (OpenSpec.ofChange topSeenPlacesSpec)

/-- ITS FALSE NEIGHBOUR: 'it returns false'. Refute it at one input. -/
def topSeenPlacesWrong : ChangeSpec := { name := "topSeenPlaces", fn := fun _ => fun
  | [d1, d2, d3, d4, d5] => { results := [.lit (.bool false)], args := [d1, d2, d3, d4, d5] }
  | _ => none }
def TopSeenPlacesWrongFalsely : Prop := topSeenPlacesRow.holds Tryz.pinned (OpenSpec.ofChange topSeenPlacesWrong)

/-- 'lampblacktop.TopCurveFlux': WHATEVER THE INPUT: true; the input reads as it did. -/
def topCurveFluxSpec : ChangeSpec := { name := "topCurveFlux", fn := fun _ => fun
  | [d1, d2, d3] => { results := [.lit (.bool true)], args := [d1, d2, d3] }
  | _ => none }
def topCurveFluxRow : OpenClaim := { program := "ytlbjnkopbabcnaagreatdoor", sum := "73906a964d9316b25fa4f5df2ddfce6190eaa905339b0d3974add1872863c6bf", func := "lampblack/lampblacktop.TopCurveFlux", spec := "topCurveFlux", unfollowed := true, recurses := true, named := ["lampblack/unit.first", "math/bits.deBruijn64tab"], plainKeys := false, apart := false, laid := [("math/bits.deBruijn64tab", laid_math_bits_deBruijn64tab), ("lampblack/unit.first", laid_lampblack_unit_first)] }
def TopCurveFluxSaid : Prop := topCurveFluxRow.holds Tryz.pinned (OpenSpec.ofChange topCurveFluxSpec)

/-- ITS FALSE NEIGHBOUR: 'it returns false'. Refute it at one input. -/
def topCurveFluxWrong : ChangeSpec := { name := "topCurveFlux", fn := fun _ => fun
  | [d1, d2, d3] => { results := [.lit (.bool false)], args := [d1, d2, d3] }
  | _ => none }
def TopCurveFluxWrongFalsely : Prop := topCurveFluxRow.holds Tryz.pinned (OpenSpec.ofChange topCurveFluxWrong)

/-- 'lampblacktop.TopScaledPalette': WHATEVER THE INPUT: true; the input reads as it did. -/
def topScaledPaletteSpec : ChangeSpec := { name := "topScaledPalette", fn := fun _ => fun
  | [d1, d2, d3, d4] => { results := [.lit (.bool true)], args := [d1, d2, d3, d4] }
  | _ => none }
def topScaledPaletteRow : OpenClaim := { program := "ytlbjnkopbabcnaagreatdoor", sum := "73906a964d9316b25fa4f5df2ddfce6190eaa905339b0d3974add1872863c6bf", func := "lampblack/lampblacktop.TopScaledPalette", spec := "topScaledPalette", unfollowed := true, recurses := true, named := ["lampblack/unit.first", "math/bits.deBruijn64tab"], plainKeys := false, apart := false, laid := [("math/bits.deBruijn64tab", laid_math_bits_deBruijn64tab), ("lampblack/unit.first", laid_lampblack_unit_first)] }
def TopScaledPaletteSaid : Prop := topScaledPaletteRow.holds Tryz.pinned (OpenSpec.ofChange topScaledPaletteSpec)

/-- ITS FALSE NEIGHBOUR: 'it returns false'. Refute it at one input. -/
def topScaledPaletteWrong : ChangeSpec := { name := "topScaledPalette", fn := fun _ => fun
  | [d1, d2, d3, d4] => { results := [.lit (.bool false)], args := [d1, d2, d3, d4] }
  | _ => none }
def TopScaledPaletteWrongFalsely : Prop := topScaledPaletteRow.holds Tryz.pinned (OpenSpec.ofChange topScaledPaletteWrong)

/-- 'lampblacktop.TopMatchedRow': WHATEVER THE INPUT: true; the input reads as it did. -/
def topMatchedRowSpec : ChangeSpec := { name := "topMatchedRow", fn := fun _ => fun
  | [d1, d2, d3, d4] => { results := [.lit (.bool true)], args := [d1, d2, d3, d4] }
  | _ => none }
def topMatchedRowRow : OpenClaim := { program := "ytlbjnkopbabcnaagreatdoor", sum := "73906a964d9316b25fa4f5df2ddfce6190eaa905339b0d3974add1872863c6bf", func := "lampblack/lampblacktop.TopMatchedRow", spec := "topMatchedRow", unfollowed := true, recurses := true, named := ["lampblack/unit.first", "math/bits.deBruijn64tab"], plainKeys := false, apart := false, laid := [("math/bits.deBruijn64tab", laid_math_bits_deBruijn64tab), ("lampblack/unit.first", laid_lampblack_unit_first)] }
def TopMatchedRowSaid : Prop := topMatchedRowRow.holds Tryz.pinned (OpenSpec.ofChange topMatchedRowSpec)

/-- ITS FALSE NEIGHBOUR: 'it returns false'. Refute it at one input. -/
def topMatchedRowWrong : ChangeSpec := { name := "topMatchedRow", fn := fun _ => fun
  | [d1, d2, d3, d4] => { results := [.lit (.bool false)], args := [d1, d2, d3, d4] }
  | _ => none }
def TopMatchedRowWrongFalsely : Prop := topMatchedRowRow.holds Tryz.pinned (OpenSpec.ofChange topMatchedRowWrong)

/-- 'lampblacktop.TopWeighedLights': WHATEVER THE INPUT: true; the input reads as it did. -/
def topWeighedLightsSpec : ChangeSpec := { name := "topWeighedLights", fn := fun _ => fun
  | [d1, d2, d3, d4] => { results := [.lit (.bool true)], args := [d1, d2, d3, d4] }
  | _ => none }
def topWeighedLightsRow : OpenClaim := { program := "ytlbjnkopbabcnaagreatdoor", sum := "73906a964d9316b25fa4f5df2ddfce6190eaa905339b0d3974add1872863c6bf", func := "lampblack/lampblacktop.TopWeighedLights", spec := "topWeighedLights", unfollowed := true, recurses := true, named := ["lampblack/unit.first", "math/bits.deBruijn64tab"], plainKeys := false, apart := false, laid := [("math/bits.deBruijn64tab", laid_math_bits_deBruijn64tab), ("lampblack/unit.first", laid_lampblack_unit_first)] }
def TopWeighedLightsSaid : Prop := topWeighedLightsRow.holds Tryz.pinned (OpenSpec.ofChange topWeighedLightsSpec)

/-- ITS FALSE NEIGHBOUR: 'it returns false'. Refute it at one input. -/
def topWeighedLightsWrong : ChangeSpec := { name := "topWeighedLights", fn := fun _ => fun
  | [d1, d2, d3, d4] => { results := [.lit (.bool false)], args := [d1, d2, d3, d4] }
  | _ => none }
def TopWeighedLightsWrongFalsely : Prop := topWeighedLightsRow.holds Tryz.pinned (OpenSpec.ofChange topWeighedLightsWrong)

/-- 'lampblacktop.TopSeenByEye': WHATEVER THE INPUT: true; the input reads as it did. -/
def topSeenByEyeSpec : ChangeSpec := { name := "topSeenByEye", fn := fun _ => fun
  | [d1, d2, d3, d4, d5] => { results := [.lit (.bool true)], args := [d1, d2, d3, d4, d5] }
  | _ => none }
def topSeenByEyeRow : OpenClaim := { program := "ytlbjnkopbabcnaagreatdoor", sum := "73906a964d9316b25fa4f5df2ddfce6190eaa905339b0d3974add1872863c6bf", func := "lampblack/lampblacktop.TopSeenByEye", spec := "topSeenByEye", unfollowed := true, recurses := true, named := ["lampblack/unit.first", "math/bits.deBruijn64tab"], plainKeys := false, apart := false, laid := [("math/bits.deBruijn64tab", laid_math_bits_deBruijn64tab), ("lampblack/unit.first", laid_lampblack_unit_first)] }
def TopSeenByEyeSaid : Prop := topSeenByEyeRow.holds Tryz.pinned (OpenSpec.ofChange topSeenByEyeSpec)

/-- ITS FALSE NEIGHBOUR: 'it returns false'. Refute it at one input. -/
def topSeenByEyeWrong : ChangeSpec := { name := "topSeenByEye", fn := fun _ => fun
  | [d1, d2, d3, d4, d5] => { results := [.lit (.bool false)], args := [d1, d2, d3, d4, d5] }
  | _ => none }
def TopSeenByEyeWrongFalsely : Prop := topSeenByEyeRow.holds Tryz.pinned (OpenSpec.ofChange topSeenByEyeWrong)

/-- 'lampblacktop.TopMixedSignals': WHATEVER THE INPUT: true; the input reads as it did. -/
def topMixedSignalsSpec : ChangeSpec := { name := "topMixedSignals", fn := fun _ => fun
  | [d1, d2, d3, d4] => { results := [.lit (.bool true)], args := [d1, d2, d3, d4] }
  | _ => none }
def topMixedSignalsRow : OpenClaim := { program := "ytlbjnkopbabcnaagreatdoor", sum := "73906a964d9316b25fa4f5df2ddfce6190eaa905339b0d3974add1872863c6bf", func := "lampblack/lampblacktop.TopMixedSignals", spec := "topMixedSignals", unfollowed := true, recurses := true, named := ["lampblack/unit.first", "math/bits.deBruijn64tab"], plainKeys := false, apart := false, laid := [("math/bits.deBruijn64tab", laid_math_bits_deBruijn64tab), ("lampblack/unit.first", laid_lampblack_unit_first)] }
def TopMixedSignalsSaid : Prop := topMixedSignalsRow.holds Tryz.pinned (OpenSpec.ofChange topMixedSignalsSpec)

/-- ITS FALSE NEIGHBOUR: 'it returns false'. Refute it at one input. -/
def topMixedSignalsWrong : ChangeSpec := { name := "topMixedSignals", fn := fun _ => fun
  | [d1, d2, d3, d4] => { results := [.lit (.bool false)], args := [d1, d2, d3, d4] }
  | _ => none }
def TopMixedSignalsWrongFalsely : Prop := topMixedSignalsRow.holds Tryz.pinned (OpenSpec.ofChange topMixedSignalsWrong)

/-- 'lampblacktop.TopScaledGap': WHATEVER THE INPUT: true; the input reads as it did. -/
def topScaledGapSpec : ChangeSpec := { name := "topScaledGap", fn := fun _ => fun
  | [d1, d2, d3] => { results := [.lit (.bool true)], args := [d1, d2, d3] }
  | _ => none }
def topScaledGapRow : OpenClaim := { program := "ytlbjnkopbabcnaagreatdoor", sum := "73906a964d9316b25fa4f5df2ddfce6190eaa905339b0d3974add1872863c6bf", func := "lampblack/lampblacktop.TopScaledGap", spec := "topScaledGap", unfollowed := true, recurses := true, named := ["lampblack/unit.first", "math/bits.deBruijn64tab"], plainKeys := false, apart := false, laid := [("math/bits.deBruijn64tab", laid_math_bits_deBruijn64tab), ("lampblack/unit.first", laid_lampblack_unit_first)] }
def TopScaledGapSaid : Prop := topScaledGapRow.holds Tryz.pinned (OpenSpec.ofChange topScaledGapSpec)

/-- ITS FALSE NEIGHBOUR: 'it returns false'. Refute it at one input. -/
def topScaledGapWrong : ChangeSpec := { name := "topScaledGap", fn := fun _ => fun
  | [d1, d2, d3] => { results := [.lit (.bool false)], args := [d1, d2, d3] }
  | _ => none }
def TopScaledGapWrongFalsely : Prop := topScaledGapRow.holds Tryz.pinned (OpenSpec.ofChange topScaledGapWrong)

/- THE SECOND FORM. 'bulk': how many values and letters a reading holds, each counted each time it is reached (what is shared counts as often as it is met; a slice's spare places count too). A statement '..UptoSaid' is the law's where the arguments, and the package variables that the reading takes, are together of bulk at most 1048576: NARROWER than '..Said'. Prove '..Said' where nothing that the law and all that it calls make is longer than what came in: it says more and counts as full. Else prove '..UptoSaid'. A law counts once. -/
mutual
def uptoBulk {H : Type} : DataW H → Nat
  | .lit (.string bytes) => bytes.length + 1
  | .lit _ => 1
  | .nil => 1
  | .ptr d => uptoBulk d + 1
  | .slice elems spare => uptoBulkAll elems + uptoBulkAll spare + 1
  | .agg parts => uptoBulkAll parts + 1
  | .iface _ d => uptoBulk d + 1
  | .map entries => uptoBulkEntries entries + 1
  | .held _ => 1
def uptoBulkAll {H : Type} : List (DataW H) → Nat
  | [] => 0
  | d :: r => uptoBulk d + uptoBulkAll r
def uptoBulkEntries {H : Type} : List (Lit × DataW H) → Nat
  | [] => 0
  | x :: r => uptoBulkEntry x + uptoBulkEntries r
def uptoBulkEntry {H : Type} : Lit × DataW H → Nat
  | (.string bytes, d) => bytes.length + uptoBulk d + 1
  | (_, d) => uptoBulk d + 1
 end
def uptoSmall : (H : Type) → List (DataW H) → Bool := fun _ ds => decide (uptoBulkAll ds ≤ 1048576)
def OpenSpec.upto (s : _root_.Go.ChangeSpec) : _root_.Go.OpenSpec := { _root_.Go.OpenSpec.ofChange s with cond := some uptoSmall }

/-- 'lampblacktop.TopSeenPlaces', WHERE WHAT IT READS IS OF BULK AT MOST 1048576: true; the input reads as it did. -/
def topSeenPlacesUptoRow : OpenClaim := { program := "ytlbjnkopbabcnaagreatdoor", sum := "73906a964d9316b25fa4f5df2ddfce6190eaa905339b0d3974add1872863c6bf", func := "lampblack/lampblacktop.TopSeenPlaces", spec := "topSeenPlaces", unfollowed := true, recurses := true, named := ["lampblack/unit.first", "math/bits.deBruijn64tab"], plainKeys := false, apart := false, laid := [("math/bits.deBruijn64tab", laid_math_bits_deBruijn64tab), ("lampblack/unit.first", laid_lampblack_unit_first)], narrowed := true }
def TopSeenPlacesUptoSaid : Prop := topSeenPlacesUptoRow.holds Tryz.pinned (OpenSpec.upto topSeenPlacesSpec)

/-- 'lampblacktop.TopCurveFlux', WHERE WHAT IT READS IS OF BULK AT MOST 1048576: true; the input reads as it did. -/
def topCurveFluxUptoRow : OpenClaim := { program := "ytlbjnkopbabcnaagreatdoor", sum := "73906a964d9316b25fa4f5df2ddfce6190eaa905339b0d3974add1872863c6bf", func := "lampblack/lampblacktop.TopCurveFlux", spec := "topCurveFlux", unfollowed := true, recurses := true, named := ["lampblack/unit.first", "math/bits.deBruijn64tab"], plainKeys := false, apart := false, laid := [("math/bits.deBruijn64tab", laid_math_bits_deBruijn64tab), ("lampblack/unit.first", laid_lampblack_unit_first)], narrowed := true }
def TopCurveFluxUptoSaid : Prop := topCurveFluxUptoRow.holds Tryz.pinned (OpenSpec.upto topCurveFluxSpec)

/-- 'lampblacktop.TopScaledPalette', WHERE WHAT IT READS IS OF BULK AT MOST 1048576: true; the input reads as it did. -/
def topScaledPaletteUptoRow : OpenClaim := { program := "ytlbjnkopbabcnaagreatdoor", sum := "73906a964d9316b25fa4f5df2ddfce6190eaa905339b0d3974add1872863c6bf", func := "lampblack/lampblacktop.TopScaledPalette", spec := "topScaledPalette", unfollowed := true, recurses := true, named := ["lampblack/unit.first", "math/bits.deBruijn64tab"], plainKeys := false, apart := false, laid := [("math/bits.deBruijn64tab", laid_math_bits_deBruijn64tab), ("lampblack/unit.first", laid_lampblack_unit_first)], narrowed := true }
def TopScaledPaletteUptoSaid : Prop := topScaledPaletteUptoRow.holds Tryz.pinned (OpenSpec.upto topScaledPaletteSpec)

/-- 'lampblacktop.TopMatchedRow', WHERE WHAT IT READS IS OF BULK AT MOST 1048576: true; the input reads as it did. -/
def topMatchedRowUptoRow : OpenClaim := { program := "ytlbjnkopbabcnaagreatdoor", sum := "73906a964d9316b25fa4f5df2ddfce6190eaa905339b0d3974add1872863c6bf", func := "lampblack/lampblacktop.TopMatchedRow", spec := "topMatchedRow", unfollowed := true, recurses := true, named := ["lampblack/unit.first", "math/bits.deBruijn64tab"], plainKeys := false, apart := false, laid := [("math/bits.deBruijn64tab", laid_math_bits_deBruijn64tab), ("lampblack/unit.first", laid_lampblack_unit_first)], narrowed := true }
def TopMatchedRowUptoSaid : Prop := topMatchedRowUptoRow.holds Tryz.pinned (OpenSpec.upto topMatchedRowSpec)

/-- 'lampblacktop.TopWeighedLights', WHERE WHAT IT READS IS OF BULK AT MOST 1048576: true; the input reads as it did. -/
def topWeighedLightsUptoRow : OpenClaim := { program := "ytlbjnkopbabcnaagreatdoor", sum := "73906a964d9316b25fa4f5df2ddfce6190eaa905339b0d3974add1872863c6bf", func := "lampblack/lampblacktop.TopWeighedLights", spec := "topWeighedLights", unfollowed := true, recurses := true, named := ["lampblack/unit.first", "math/bits.deBruijn64tab"], plainKeys := false, apart := false, laid := [("math/bits.deBruijn64tab", laid_math_bits_deBruijn64tab), ("lampblack/unit.first", laid_lampblack_unit_first)], narrowed := true }
def TopWeighedLightsUptoSaid : Prop := topWeighedLightsUptoRow.holds Tryz.pinned (OpenSpec.upto topWeighedLightsSpec)

/-- 'lampblacktop.TopSeenByEye', WHERE WHAT IT READS IS OF BULK AT MOST 1048576: true; the input reads as it did. -/
def topSeenByEyeUptoRow : OpenClaim := { program := "ytlbjnkopbabcnaagreatdoor", sum := "73906a964d9316b25fa4f5df2ddfce6190eaa905339b0d3974add1872863c6bf", func := "lampblack/lampblacktop.TopSeenByEye", spec := "topSeenByEye", unfollowed := true, recurses := true, named := ["lampblack/unit.first", "math/bits.deBruijn64tab"], plainKeys := false, apart := false, laid := [("math/bits.deBruijn64tab", laid_math_bits_deBruijn64tab), ("lampblack/unit.first", laid_lampblack_unit_first)], narrowed := true }
def TopSeenByEyeUptoSaid : Prop := topSeenByEyeUptoRow.holds Tryz.pinned (OpenSpec.upto topSeenByEyeSpec)

/-- 'lampblacktop.TopMixedSignals', WHERE WHAT IT READS IS OF BULK AT MOST 1048576: true; the input reads as it did. -/
def topMixedSignalsUptoRow : OpenClaim := { program := "ytlbjnkopbabcnaagreatdoor", sum := "73906a964d9316b25fa4f5df2ddfce6190eaa905339b0d3974add1872863c6bf", func := "lampblack/lampblacktop.TopMixedSignals", spec := "topMixedSignals", unfollowed := true, recurses := true, named := ["lampblack/unit.first", "math/bits.deBruijn64tab"], plainKeys := false, apart := false, laid := [("math/bits.deBruijn64tab", laid_math_bits_deBruijn64tab), ("lampblack/unit.first", laid_lampblack_unit_first)], narrowed := true }
def TopMixedSignalsUptoSaid : Prop := topMixedSignalsUptoRow.holds Tryz.pinned (OpenSpec.upto topMixedSignalsSpec)

/-- 'lampblacktop.TopScaledGap', WHERE WHAT IT READS IS OF BULK AT MOST 1048576: true; the input reads as it did. -/
def topScaledGapUptoRow : OpenClaim := { program := "ytlbjnkopbabcnaagreatdoor", sum := "73906a964d9316b25fa4f5df2ddfce6190eaa905339b0d3974add1872863c6bf", func := "lampblack/lampblacktop.TopScaledGap", spec := "topScaledGap", unfollowed := true, recurses := true, named := ["lampblack/unit.first", "math/bits.deBruijn64tab"], plainKeys := false, apart := false, laid := [("math/bits.deBruijn64tab", laid_math_bits_deBruijn64tab), ("lampblack/unit.first", laid_lampblack_unit_first)], narrowed := true }
def TopScaledGapUptoSaid : Prop := topScaledGapUptoRow.holds Tryz.pinned (OpenSpec.upto topScaledGapSpec)

end Rows
end Go.Proofs.YtlbjnkopbabcnaaGreatDoor
