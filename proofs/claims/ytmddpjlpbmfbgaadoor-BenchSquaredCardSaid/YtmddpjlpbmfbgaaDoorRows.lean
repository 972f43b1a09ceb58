/-
  NARROWER THAN 'FOR EVERY INPUT', by the rows' own cells (each row's printed sentence says how): BenchRuns: laid · BenchTests: laid · BenchZeroOne: laid · BenchMerged: laid · BenchRelabelled: laid · BenchBuilt: laid · BenchPlaced: laid · BenchKnown: laid · BenchBars: laid · BenchSquared: laid · BenchTrims: laid · BenchTrimmed: laid.
  DERIVED. THE GIVEN ROWS OF THIS SEAT. 12 by the template 'for every input the law returns true; each argument reads behind the call as it read before'; 0 by the template 'total and deterministic' (their statements: YtmddpjlpbmfbgaaDoorTotals.lean).
  GIVEN WITH THE SEED: the statements are not yours to turn. If you find one false, say at which input.
  Laid BY PROGRAM, IN A SANDBOX (cutbox-rows.mjs): the forced cells as the released guide's own fill.sh prints them over the translation f32564cc287470cf… (all of the seat's roots in one cut). By AI agents, Wed Nov 11 2026. No macro, syntax, notation, axiom, sorry.
-/
import Derived.Test.YtmddpjlpbmfbgaaDoorChecked
import GoSem.Claim
import GoSem.ClaimJoined
import GoSem.ClaimMapViews
import Derived.JoinedTies
import Derived.KernelRfl
namespace Go.Proofs.YtmddpjlpbmfbgaaDoor
/- THE CELL 'sum', in the pinned program and in every row, IS THE sha256 OF THE DUMP (.gsa) THAT YtmddpjlpbmfbgaaDoorProg.lean LOADS. Nothing in Lean hashes anything: it is a label: what it is worth is what the hold of that sum in a sandbox is worth. -/
noncomputable def Tryd.pinned : Pinned := { name := "ytmddpjlpbmfbgaadoor", sum := "f32564cc287470cf9b7c528b016894a6d33db6d28e732a7e12c95782c2944201", checked := Tryd.checked }
namespace Rows
def none {H : Type} : Left H := { results := [], args := [] }

/- WHAT THE LISTED PACKAGE-LEVEL VARIABLES READ AS WHEN THE CALL BEGINS. Each datum BY PROGRAM (the guide's laid-datum.mjs) off the statement by which the dump's own 'gosem.cut.vars' lays the variable. In a bare row this is a premise. The card (YtmddpjlpbmfbgaaDoorCards.lean) ties it to the program's text. -/
def laid_math_bits_deBruijn64tab {H : Type} : DataW H := .agg [.lit (.int .u8 0), .lit (.int .u8 1), .lit (.int .u8 56), .lit (.int .u8 2), .lit (.int .u8 57), .lit (.int .u8 49), .lit (.int .u8 28), .lit (.int .u8 3), .lit (.int .u8 61), .lit (.int .u8 58), .lit (.int .u8 42), .lit (.int .u8 50), .lit (.int .u8 38), .lit (.int .u8 29), .lit (.int .u8 17), .lit (.int .u8 4), .lit (.int .u8 62), .lit (.int .u8 47), .lit (.int .u8 59), .lit (.int .u8 36), .lit (.int .u8 45), .lit (.int .u8 43), .lit (.int .u8 51), .lit (.int .u8 22), .lit (.int .u8 53), .lit (.int .u8 39), .lit (.int .u8 33), .lit (.int .u8 30), .lit (.int .u8 24), .lit (.int .u8 18), .lit (.int .u8 12), .lit (.int .u8 5), .lit (.int .u8 63), .lit (.int .u8 55), .lit (.int .u8 48), .lit (.int .u8 27), .lit (.int .u8 60), .lit (.int .u8 41), .lit (.int .u8 37), .lit (.int .u8 16), .lit (.int .u8 46), .lit (.int .u8 35), .lit (.int .u8 44), .lit (.int .u8 21), .lit (.int .u8 52), .lit (.int .u8 32), .lit (.int .u8 23), .lit (.int .u8 11), .lit (.int .u8 54), .lit (.int .u8 26), .lit (.int .u8 40), .lit (.int .u8 15), .lit (.int .u8 34), .lit (.int .u8 20), .lit (.int .u8 31), .lit (.int .u8 10), .lit (.int .u8 25), .lit (.int .u8 14), .lit (.int .u8 19), .lit (.int .u8 9), .lit (.int .u8 13), .lit (.int .u8 8), .lit (.int .u8 7), .lit (.int .u8 6)]

/-- 'lampblacklaw02.BenchRuns': WHATEVER THE INPUT: true; the input reads as it did. -/
def benchRunsSpec : ChangeSpec := { name := "benchRuns", fn := fun _ => fun
  | [d1, d2, d3] => { results := [.lit (.bool true)], args := [d1, d2, d3] }
  | _ => none }
def benchRunsRow : OpenClaim := { program := "ytmddpjlpbmfbgaadoor", sum := "f32564cc287470cf9b7c528b016894a6d33db6d28e732a7e12c95782c2944201", func := "lampblack/lampblacklaw02.BenchRuns", spec := "benchRuns", unfollowed := true, recurses := true, named := ["math/bits.deBruijn64tab"], apart := false, laid := [("math/bits.deBruijn64tab", laid_math_bits_deBruijn64tab)] }
def BenchRunsSaid : Prop := benchRunsRow.holds Tryd.pinned (OpenSpec.ofChange benchRunsSpec)

/-- ITS FALSE NEIGHBOUR: 'it returns false'. Refute it at one input. -/
def benchRunsWrong : ChangeSpec := { name := "benchRuns", fn := fun _ => fun
  | [d1, d2, d3] => { results := [.lit (.bool false)], args := [d1, d2, d3] }
  | _ => none }
def BenchRunsWrongFalsely : Prop := benchRunsRow.holds Tryd.pinned (OpenSpec.ofChange benchRunsWrong)

/-- 'lampblacklaw02.BenchTests': WHATEVER THE INPUT: true; the input reads as it did. -/
def benchTestsSpec : ChangeSpec := { name := "benchTests", fn := fun _ => fun
  | [d1, d2, d3, d4] => { results := [.lit (.bool true)], args := [d1, d2, d3, d4] }
  | _ => none }
def benchTestsRow : OpenClaim := { program := "ytmddpjlpbmfbgaadoor", sum := "f32564cc287470cf9b7c528b016894a6d33db6d28e732a7e12c95782c2944201", func := "lampblack/lampblacklaw02.BenchTests", spec := "benchTests", unfollowed := true, recurses := true, named := ["math/bits.deBruijn64tab"], apart := false, laid := [("math/bits.deBruijn64tab", laid_math_bits_deBruijn64tab)] }
def BenchTestsSaid : Prop := benchTestsRow.holds Tryd.pinned (OpenSpec.ofChange benchTestsSpec)

/-- ITS FALSE NEIGHBOUR: 'it returns false'. Refute it at one input. -/
def benchTestsWrong : ChangeSpec := { name := "benchTests", fn := fun _ => fun
  | [d1, d2, d3, d4] => { results := [.lit (.bool false)], args := [d1, d2, d3, d4] }
  | _ => none }
def BenchTestsWrongFalsely : Prop := benchTestsRow.holds Tryd.pinned (OpenSpec.ofChange benchTestsWrong)

/-- 'lampblacklaw02.BenchZeroOne': WHATEVER THE INPUT: true; the input reads as it did. -/
def benchZeroOneSpec : ChangeSpec := { name := "benchZeroOne", fn := fun _ => fun
  | [d1, d2, d3, d4, d5] => { results := [.lit (.bool true)], args := [d1, d2, d3, d4, d5] }
  | _ => none }
def benchZeroOneRow : OpenClaim := { program := "ytmddpjlpbmfbgaadoor", sum := "f32564cc287470cf9b7c528b016894a6d33db6d28e732a7e12c95782c2944201", func := "lampblack/lampblacklaw02.BenchZeroOne", spec := "benchZeroOne", unfollowed := true, recurses := true, named := ["math/bits.deBruijn64tab"], apart := false, laid := [("math/bits.deBruijn64tab", laid_math_bits_deBruijn64tab)] }
def BenchZeroOneSaid : Prop := benchZeroOneRow.holds Tryd.pinned (OpenSpec.ofChange benchZeroOneSpec)

/-- ITS FALSE NEIGHBOUR: 'it returns false'. Refute it at one input. -/
def benchZeroOneWrong : ChangeSpec := { name := "benchZeroOne", fn := fun _ => fun
  | [d1, d2, d3, d4, d5] => { results := [.lit (.bool false)], args := [d1, d2, d3, d4, d5] }
  | _ => none }
def BenchZeroOneWrongFalsely : Prop := benchZeroOneRow.holds Tryd.pinned (OpenSpec.ofChange benchZeroOneWrong)

/-- 'lampblacklaw02.BenchMerged': WHATEVER THE INPUT: true; the input reads as it did. -/
def benchMergedSpec : ChangeSpec := { name := "benchMerged", fn := fun _ => fun
  | [d1, d2, d3, d4] => { results := [.lit (.bool true)], args := [d1, d2, d3, d4] }
  | _ => none }
def benchMergedRow : OpenClaim := { program := "ytmddpjlpbmfbgaadoor", sum := "f32564cc287470cf9b7c528b016894a6d33db6d28e732a7e12c95782c2944201", func := "lampblack/lampblacklaw02.BenchMerged", spec := "benchMerged", unfollowed := true, recurses := true, named := ["math/bits.deBruijn64tab"], apart := false, laid := [("math/bits.deBruijn64tab", laid_math_bits_deBruijn64tab)] }
def BenchMergedSaid : Prop := benchMergedRow.holds Tryd.pinned (OpenSpec.ofChange benchMergedSpec)

/-- ITS FALSE NEIGHBOUR: 'it returns false'. Refute it at one input. -/
def benchMergedWrong : ChangeSpec := { name := "benchMerged", fn := fun _ => fun
  | [d1, d2, d3, d4] => { results := [.lit (.bool false)], args := [d1, d2, d3, d4] }
  | _ => none }
def BenchMergedWrongFalsely : Prop := benchMergedRow.holds Tryd.pinned (OpenSpec.ofChange benchMergedWrong)

/-- 'lampblacklaw02.BenchRelabelled': WHATEVER THE INPUT: true; the input reads as it did. -/
def benchRelabelledSpec : ChangeSpec := { name := "benchRelabelled", fn := fun _ => fun
  | [d1, d2, d3, d4] => { results := [.lit (.bool true)], args := [d1, d2, d3, d4] }
  | _ => none }
def benchRelabelledRow : OpenClaim := { program := "ytmddpjlpbmfbgaadoor", sum := "f32564cc287470cf9b7c528b016894a6d33db6d28e732a7e12c95782c2944201", func := "lampblack/lampblacklaw02.BenchRelabelled", spec := "benchRelabelled", unfollowed := true, recurses := true, named := ["math/bits.deBruijn64tab"], apart := false, laid := [("math/bits.deBruijn64tab", laid_math_bits_deBruijn64tab)] }
def BenchRelabelledSaid : Prop := benchRelabelledRow.holds Tryd.pinned (OpenSpec.ofChange benchRelabelledSpec)

/-- ITS FALSE NEIGHBOUR: 'it returns false'. Refute it at one input. -/
def benchRelabelledWrong : ChangeSpec := { name := "benchRelabelled", fn := fun _ => fun
  | [d1, d2, d3, d4] => { results := [.lit (.bool false)], args := [d1, d2, d3, d4] }
  | _ => none }
def BenchRelabelledWrongFalsely : Prop := benchRelabelledRow.holds Tryd.pinned (OpenSpec.ofChange benchRelabelledWrong)

/-- 'lampblacklaw02.BenchBuilt': WHATEVER THE INPUT: true; the input reads as it did. -/
def benchBuiltSpec : ChangeSpec := { name := "benchBuilt", fn := fun _ => fun
  | [d1, d2, d3] => { results := [.lit (.bool true)], args := [d1, d2, d3] }
  | _ => none }
def benchBuiltRow : OpenClaim := { program := "ytmddpjlpbmfbgaadoor", sum := "f32564cc287470cf9b7c528b016894a6d33db6d28e732a7e12c95782c2944201", func := "lampblack/lampblacklaw02.BenchBuilt", spec := "benchBuilt", unfollowed := true, recurses := true, named := ["math/bits.deBruijn64tab"], apart := false, laid := [("math/bits.deBruijn64tab", laid_math_bits_deBruijn64tab)] }
def BenchBuiltSaid : Prop := benchBuiltRow.holds Tryd.pinned (OpenSpec.ofChange benchBuiltSpec)

/-- ITS FALSE NEIGHBOUR: 'it returns false'. Refute it at one input. -/
def benchBuiltWrong : ChangeSpec := { name := "benchBuilt", fn := fun _ => fun
  | [d1, d2, d3] => { results := [.lit (.bool false)], args := [d1, d2, d3] }
  | _ => none }
def BenchBuiltWrongFalsely : Prop := benchBuiltRow.holds Tryd.pinned (OpenSpec.ofChange benchBuiltWrong)

/-- 'lampblacklaw02.BenchPlaced': WHATEVER THE INPUT: true; the input reads as it did. -/
def benchPlacedSpec : ChangeSpec := { name := "benchPlaced", fn := fun _ => fun
  | [d1, d2, d3] => { results := [.lit (.bool true)], args := [d1, d2, d3] }
  | _ => none }
def benchPlacedRow : OpenClaim := { program := "ytmddpjlpbmfbgaadoor", sum := "f32564cc287470cf9b7c528b016894a6d33db6d28e732a7e12c95782c2944201", func := "lampblack/lampblacklaw02.BenchPlaced", spec := "benchPlaced", unfollowed := true, recurses := true, named := ["math/bits.deBruijn64tab"], apart := false, laid := [("math/bits.deBruijn64tab", laid_math_bits_deBruijn64tab)] }
def BenchPlacedSaid : Prop := benchPlacedRow.holds Tryd.pinned (OpenSpec.ofChange benchPlacedSpec)

/-- ITS FALSE NEIGHBOUR: 'it returns false'. Refute it at one input. -/
def benchPlacedWrong : ChangeSpec := { name := "benchPlaced", fn := fun _ => fun
  | [d1, d2, d3] => { results := [.lit (.bool false)], args := [d1, d2, d3] }
  | _ => none }
def BenchPlacedWrongFalsely : Prop := benchPlacedRow.holds Tryd.pinned (OpenSpec.ofChange benchPlacedWrong)

/-- 'lampblacklaw02.BenchKnown': WHATEVER THE INPUT: true; the input reads as it did. -/
def benchKnownSpec : ChangeSpec := { name := "benchKnown", fn := fun _ => fun
  | [] => { results := [.lit (.bool true)], args := [] }
  | _ => none }
def benchKnownRow : OpenClaim := { program := "ytmddpjlpbmfbgaadoor", sum := "f32564cc287470cf9b7c528b016894a6d33db6d28e732a7e12c95782c2944201", func := "lampblack/lampblacklaw02.BenchKnown", spec := "benchKnown", unfollowed := true, recurses := true, named := ["math/bits.deBruijn64tab"], apart := false, laid := [("math/bits.deBruijn64tab", laid_math_bits_deBruijn64tab)] }
def BenchKnownSaid : Prop := benchKnownRow.holds Tryd.pinned (OpenSpec.ofChange benchKnownSpec)

/-- ITS FALSE NEIGHBOUR: 'it returns false'. Refute it at one input. -/
def benchKnownWrong : ChangeSpec := { name := "benchKnown", fn := fun _ => fun
  | [] => { results := [.lit (.bool false)], args := [] }
  | _ => none }
def BenchKnownWrongFalsely : Prop := benchKnownRow.holds Tryd.pinned (OpenSpec.ofChange benchKnownWrong)

/-- 'lampblacklaw02.BenchBars': WHATEVER THE INPUT: true; the input reads as it did. -/
def benchBarsSpec : ChangeSpec := { name := "benchBars", fn := fun _ => fun
  | [d1, d2, d3] => { results := [.lit (.bool true)], args := [d1, d2, d3] }
  | _ => none }
def benchBarsRow : OpenClaim := { program := "ytmddpjlpbmfbgaadoor", sum := "f32564cc287470cf9b7c528b016894a6d33db6d28e732a7e12c95782c2944201", func := "lampblack/lampblacklaw02.BenchBars", spec := "benchBars", unfollowed := true, recurses := true, named := ["math/bits.deBruijn64tab"], apart := false, laid := [("math/bits.deBruijn64tab", laid_math_bits_deBruijn64tab)] }
def BenchBarsSaid : Prop := benchBarsRow.holds Tryd.pinned (OpenSpec.ofChange benchBarsSpec)

/-- ITS FALSE NEIGHBOUR: 'it returns false'. Refute it at one input. -/
def benchBarsWrong : ChangeSpec := { name := "benchBars", fn := fun _ => fun
  | [d1, d2, d3] => { results := [.lit (.bool false)], args := [d1, d2, d3] }
  | _ => none }
def BenchBarsWrongFalsely : Prop := benchBarsRow.holds Tryd.pinned (OpenSpec.ofChange benchBarsWrong)

/-- 'lampblacklaw02.BenchSquared': WHATEVER THE INPUT: true; the input reads as it did. -/
def benchSquaredSpec : ChangeSpec := { name := "benchSquared", fn := fun _ => fun
  | [d1, d2, d3] => { results := [.lit (.bool true)], args := [d1, d2, d3] }
  | _ => none }
def benchSquaredRow : OpenClaim := { program := "ytmddpjlpbmfbgaadoor", sum := "f32564cc287470cf9b7c528b016894a6d33db6d28e732a7e12c95782c2944201", func := "lampblack/lampblacklaw02.BenchSquared", spec := "benchSquared", unfollowed := true, recurses := true, named := ["math/bits.deBruijn64tab"], apart := false, laid := [("math/bits.deBruijn64tab", laid_math_bits_deBruijn64tab)] }
def BenchSquaredSaid : Prop := benchSquaredRow.holds Tryd.pinned (OpenSpec.ofChange benchSquaredSpec)

/-- ITS FALSE NEIGHBOUR: 'it returns false'. Refute it at one input. -/
def benchSquaredWrong : ChangeSpec := { name := "benchSquared", fn := fun _ => fun
  | [d1, d2, d3] => { results := [.lit (.bool false)], args := [d1, d2, d3] }
  | _ => none }
def BenchSquaredWrongFalsely : Prop := benchSquaredRow.holds Tryd.pinned (OpenSpec.ofChange benchSquaredWrong)

/-- 'lampblacklaw02.BenchTrims': WHATEVER THE INPUT: true; the input reads as it did. -/
def benchTrimsSpec : ChangeSpec := { name := "benchTrims", fn := fun _ => fun
  | [d1, d2] => { results := [.lit (.bool true)], args := [d1, d2] }
  | _ => none }
def benchTrimsRow : OpenClaim := { program := "ytmddpjlpbmfbgaadoor", sum := "f32564cc287470cf9b7c528b016894a6d33db6d28e732a7e12c95782c2944201", func := "lampblack/lampblacklaw02.BenchTrims", spec := "benchTrims", unfollowed := true, recurses := true, named := ["math/bits.deBruijn64tab"], apart := false, laid := [("math/bits.deBruijn64tab", laid_math_bits_deBruijn64tab)] }
def BenchTrimsSaid : Prop := benchTrimsRow.holds Tryd.pinned (OpenSpec.ofChange benchTrimsSpec)

/-- ITS FALSE NEIGHBOUR: 'it returns false'. Refute it at one input. -/
def benchTrimsWrong : ChangeSpec := { name := "benchTrims", fn := fun _ => fun
  | [d1, d2] => { results := [.lit (.bool false)], args := [d1, d2] }
  | _ => none }
def BenchTrimsWrongFalsely : Prop := benchTrimsRow.holds Tryd.pinned (OpenSpec.ofChange benchTrimsWrong)

/-- 'lampblacklaw02.BenchTrimmed': WHATEVER THE INPUT: true; the input reads as it did. -/
def benchTrimmedSpec : ChangeSpec := { name := "benchTrimmed", fn := fun _ => fun
  | [d1, d2, d3, d4] => { results := [.lit (.bool true)], args := [d1, d2, d3, d4] }
  | _ => none }
def benchTrimmedRow : OpenClaim := { program := "ytmddpjlpbmfbgaadoor", sum := "f32564cc287470cf9b7c528b016894a6d33db6d28e732a7e12c95782c2944201", func := "lampblack/lampblacklaw02.BenchTrimmed", spec := "benchTrimmed", unfollowed := true, recurses := true, named := ["math/bits.deBruijn64tab"], apart := false, laid := [("math/bits.deBruijn64tab", laid_math_bits_deBruijn64tab)] }
def BenchTrimmedSaid : Prop := benchTrimmedRow.holds Tryd.pinned (OpenSpec.ofChange benchTrimmedSpec)

/-- ITS FALSE NEIGHBOUR: 'it returns false'. Refute it at one input. -/
def benchTrimmedWrong : ChangeSpec := { name := "benchTrimmed", fn := fun _ => fun
  | [d1, d2, d3, d4] => { results := [.lit (.bool false)], args := [d1, d2, d3, d4] }
  | _ => none }
def BenchTrimmedWrongFalsely : Prop := benchTrimmedRow.holds Tryd.pinned (OpenSpec.ofChange benchTrimmedWrong)

/- THE SECOND FORM. 'bulk': how many values and letters a reading holds, each counted each time it is reached (what is shared counts as often as it is met; a slice's spare places count too). A statement '..UptoSaid' is the law's where the arguments, and the package variables that the reading takes, are together of bulk at most 1048576: NARROWER than '..Said'. Prove '..Said' where nothing that the law and all that it calls make is longer than what came in: it says more and counts as full. Else prove '..UptoSaid'. A law counts once. -/
mutual
def uptoBulk {H : Type} : DataW H → Nat
  | .lit (.string bytes) => bytes.length + 1
  | .lit _ => 1
  | .nil => 1
  | .ptr d => uptoBulk d + 1
  | .slice elems spare => uptoBulkAll elems + uptoBulkAll spare + 1
  | .agg parts => uptoBulkAll parts + 1
  | .iface _ d => uptoBulk d + 1
  | .map entries => uptoBulkEntries entries + 1
  | .held _ => 1
def uptoBulkAll {H : Type} : List (DataW H) → Nat
  | [] => 0
  | d :: r => uptoBulk d + uptoBulkAll r
def uptoBulkEntries {H : Type} : List (Lit × DataW H) → Nat
  | [] => 0
  | x :: r => uptoBulkEntry x + uptoBulkEntries r
def uptoBulkEntry {H : Type} : Lit × DataW H → Nat
  | (.string bytes, d) => bytes.length + uptoBulk d + 1
  | (_, d) => uptoBulk d + 1
 end
def uptoSmall : (H : Type) → List (DataW H) → Bool := fun _ ds => decide (uptoBulkAll ds ≤ 1048576)
def OpenSpec.upto (s : _root_.Go.ChangeSpec) : _root_.Go.OpenSpec := { _root_.Go.OpenSpec.ofChange s with cond := some uptoSmall }

/-- 'lampblacklaw02.BenchRuns', WHERE WHAT IT READS IS OF BULK AT MOST 1048576: true; the input reads as it did. -/
def benchRunsUptoRow : OpenClaim := { program := "ytmddpjlpbmfbgaadoor", sum := "f32564cc287470cf9b7c528b016894a6d33db6d28e732a7e12c95782c2944201", func := "lampblack/lampblacklaw02.BenchRuns", spec := "benchRuns", unfollowed := true, recurses := true, named := ["math/bits.deBruijn64tab"], apart := false, laid := [("math/bits.deBruijn64tab", laid_math_bits_deBruijn64tab)], narrowed := true }
def BenchRunsUptoSaid : Prop := benchRunsUptoRow.holds Tryd.pinned (OpenSpec.upto benchRunsSpec)

/-- 'lampblacklaw02.BenchTests', WHERE WHAT IT READS IS OF BULK AT MOST 1048576: true; the input reads as it did. -/
def benchTestsUptoRow : OpenClaim := { program := "ytmddpjlpbmfbgaadoor", sum := "f32564cc287470cf9b7c528b016894a6d33db6d28e732a7e12c95782c2944201", func := "lampblack/lampblacklaw02.BenchTests", spec := "benchTests", unfollowed := true, recurses := true, named := ["math/bits.deBruijn64tab"], apart := false, laid := [("math/bits.deBruijn64tab", laid_math_bits_deBruijn64tab)], narrowed := true }
def BenchTestsUptoSaid : Prop := benchTestsUptoRow.holds Tryd.pinned (OpenSpec.upto benchTestsSpec)

/-- 'lampblacklaw02.BenchZeroOne', WHERE WHAT IT READS IS OF BULK AT MOST 1048576: true; the input reads as it did. -/
def benchZeroOneUptoRow : OpenClaim := { program := "ytmddpjlpbmfbgaadoor", sum := "f32564cc287470cf9b7c528b016894a6d33db6d28e732a7e12c95782c2944201", func := "lampblack/lampblacklaw02.BenchZeroOne", spec := "benchZeroOne", unfollowed := true, recurses := true, named := ["math/bits.deBruijn64tab"], apart := false, laid := [("math/bits.deBruijn64tab", laid_math_bits_deBruijn64tab)], narrowed := true }
def BenchZeroOneUptoSaid : Prop := benchZeroOneUptoRow.holds Tryd.pinned (OpenSpec.upto benchZeroOneSpec)

/-- 'lampblacklaw02.BenchMerged', WHERE WHAT IT READS IS OF BULK AT MOST 1048576: true; the input reads as it did. -/
def benchMergedUptoRow : OpenClaim := { program := "ytmddpjlpbmfbgaadoor", sum := "f32564cc287470cf9b7c528b016894a6d33db6d28e732a7e12c95782c2944201", func := "lampblack/lampblacklaw02.BenchMerged", spec := "benchMerged", unfollowed := true, recurses := true, named := ["math/bits.deBruijn64tab"], apart := false, laid := [("math/bits.deBruijn64tab", laid_math_bits_deBruijn64tab)], narrowed := true }
def BenchMergedUptoSaid : Prop := benchMergedUptoRow.holds Tryd.pinned (OpenSpec.upto benchMergedSpec)

/-- 'lampblacklaw02.BenchRelabelled', WHERE WHAT IT READS IS OF BULK AT MOST 1048576: true; the input reads as it did. -/
def benchRelabelledUptoRow : OpenClaim := { program := "ytmddpjlpbmfbgaadoor", sum := "f32564cc287470cf9b7c528b016894a6d33db6d28e732a7e12c95782c2944201", func := "lampblack/lampblacklaw02.BenchRelabelled", spec := "benchRelabelled", unfollowed := true, recurses := true, named := ["math/bits.deBruijn64tab"], apart := false, laid := [("math/bits.deBruijn64tab", laid_math_bits_deBruijn64tab)], narrowed := true }
def BenchRelabelledUptoSaid : Prop := benchRelabelledUptoRow.holds Tryd.pinned (OpenSpec.upto benchRelabelledSpec)

/-- 'lampblacklaw02.BenchBuilt', WHERE WHAT IT READS IS OF BULK AT MOST 1048576: true; the input reads as it did. -/
def benchBuiltUptoRow : OpenClaim := { program := "ytmddpjlpbmfbgaadoor", sum := "f32564cc287470cf9b7c528b016894a6d33db6d28e732a7e12c95782c2944201", func := "lampblack/lampblacklaw02.BenchBuilt", spec := "benchBuilt", unfollowed := true, recurses := true, named := ["math/bits.deBruijn64tab"], apart := false, laid := [("math/bits.deBruijn64tab", laid_math_bits_deBruijn64tab)], narrowed := true }
def BenchBuiltUptoSaid : Prop := benchBuiltUptoRow.holds Tryd.pinned (OpenSpec.upto benchBuiltSpec)

/-- 'lampblacklaw02.BenchPlaced', WHERE WHAT IT READS IS OF BULK AT MOST 1048576: true; the input reads as it did. -/
def benchPlacedUptoRow : OpenClaim := { program := "ytmddpjlpbmfbgaadoor", sum := "f32564cc287470cf9b7c528b016894a6d33db6d28e732a7e12c95782c2944201", func := "lampblack/lampblacklaw02.BenchPlaced", spec := "benchPlaced", unfollowed := true, recurses := true, named := ["math/bits.deBruijn64tab"], apart := false, laid := [("math/bits.deBruijn64tab", laid_math_bits_deBruijn64tab)], narrowed := true }
def BenchPlacedUptoSaid : Prop := benchPlacedUptoRow.holds Tryd.pinned (OpenSpec.upto benchPlacedSpec)

/-- 'lampblacklaw02.BenchKnown', WHERE WHAT IT READS IS OF BULK AT MOST 1048576: true; the input reads as it did. -/
def benchKnownUptoRow : OpenClaim := { program := "ytmddpjlpbmfbgaadoor", sum := "f32564cc287470cf9b7c528b016894a6d33db6d28e732a7e12c95782c2944201", func := "lampblack/lampblacklaw02.BenchKnown", spec := "benchKnown", unfollowed := true, recurses := true, named := ["math/bits.deBruijn64tab"], apart := false, laid := [("math/bits.deBruijn64tab", laid_math_bits_deBruijn64tab)], narrowed := true }
def BenchKnownUptoSaid : Prop := benchKnownUptoRow.holds Tryd.pinned (OpenSpec.upto benchKnownSpec)

/-- 'lampblacklaw02.BenchBars', WHERE WHAT IT READS IS OF BULK AT MOST 1048576: true; the input reads as it did. -/
def benchBarsUptoRow : OpenClaim := { program := "ytmddpjlpbmfbgaadoor", sum := "f32564cc287470cf9b7c528b016894a6d33db6d28e732a7e12c95782c2944201", func := "lampblack/lampblacklaw02.BenchBars", spec := "benchBars", unfollowed := true, recurses := true, named := ["math/bits.deBruijn64tab"], apart := false, laid := [("math/bits.deBruijn64tab", laid_math_bits_deBruijn64tab)], narrowed := true }
def BenchBarsUptoSaid : Prop := benchBarsUptoRow.holds Tryd.pinned (OpenSpec.upto benchBarsSpec)

/-- 'lampblacklaw02.BenchSquared', WHERE WHAT IT READS IS OF BULK AT MOST 1048576: true; the input reads as it did. -/
def benchSquaredUptoRow : OpenClaim := { program := "ytmddpjlpbmfbgaadoor", sum := "f32564cc287470cf9b7c528b016894a6d33db6d28e732a7e12c95782c2944201", func := "lampblack/lampblacklaw02.BenchSquared", spec := "benchSquared", unfollowed := true, recurses := true, named := ["math/bits.deBruijn64tab"], apart := false, laid := [("math/bits.deBruijn64tab", laid_math_bits_deBruijn64tab)], narrowed := true }
def BenchSquaredUptoSaid : Prop := benchSquaredUptoRow.holds Tryd.pinned (OpenSpec.upto benchSquaredSpec)

/-- 'lampblacklaw02.BenchTrims', WHERE WHAT IT READS IS OF BULK AT MOST 1048576: true; the input reads as it did. -/
def benchTrimsUptoRow : OpenClaim := { program := "ytmddpjlpbmfbgaadoor", sum := "f32564cc287470cf9b7c528b016894a6d33db6d28e732a7e12c95782c2944201", func := "lampblack/lampblacklaw02.BenchTrims", spec := "benchTrims", unfollowed := true, recurses := true, named := ["math/bits.deBruijn64tab"], apart := false, laid := [("math/bits.deBruijn64tab", laid_math_bits_deBruijn64tab)], narrowed := true }
def BenchTrimsUptoSaid : Prop := benchTrimsUptoRow.holds Tryd.pinned (OpenSpec.upto benchTrimsSpec)

/-- 'lampblacklaw02.BenchTrimmed', WHERE WHAT IT READS IS OF BULK AT MOST 1048576: true; the input reads as it did. -/
def benchTrimmedUptoRow : OpenClaim := { program := "ytmddpjlpbmfbgaadoor", sum := "f32564cc287470cf9b7c528b016894a6d33db6d28e732a7e12c95782c2944201", func := "lampblack/lampblacklaw02.BenchTrimmed", spec := "benchTrimmed", unfollowed := true, recurses := true, named := ["math/bits.deBruijn64tab"], apart := false, laid := [("math/bits.deBruijn64tab", laid_math_bits_deBruijn64tab)], narrowed := true }
def BenchTrimmedUptoSaid : Prop := benchTrimmedUptoRow.holds Tryd.pinned (OpenSpec.upto benchTrimmedSpec)

end Rows
end Go.Proofs.YtmddpjlpbmfbgaaDoor
