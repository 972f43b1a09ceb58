/-
  NARROWER THAN 'FOR EVERY INPUT', by the rows' own cells (each row's printed sentence says how): UnitCarries: laid · UnitSimple: laid · UnitPaths: laid · UnitNexts: laid · UnitCarried: laid · UnitTurned: laid · UnitNarrower: laid · UnitPath: laid · UnitNeighbours: laid · UnitKnown: laid · UnitProofs: laid · UnitProved: laid.
  DERIVED. THE GIVEN ROWS OF THIS SEAT. 12 by the template 'for every input the law returns true; each argument reads behind the call as it read before'; 0 by the template 'total and deterministic' (their statements: YtkjoamindolonaaDoorTotals.lean).
  GIVEN WITH THE SEED: the statements are not yours to turn. If you find one false, say at which input.
  Laid BY PROGRAM, IN A SANDBOX (cutbox-rows.mjs): the forced cells as the released guide's own fill.sh prints them over the translation c0831d9ea6888173… (all of the seat's roots in one cut). By AI agents, Wed Nov 11 2026. No macro, syntax, notation, axiom, sorry.
-/
import Derived.Test.YtkjoamindolonaaDoorChecked
import GoSem.Claim
import GoSem.ClaimJoined
import GoSem.ClaimMapViews
import Derived.JoinedTies
import Derived.KernelRfl
namespace Go.Proofs.YtkjoamindolonaaDoor
/- THE CELL 'sum', in the pinned program and in every row, IS THE sha256 OF THE DUMP (.gsa) THAT YtkjoamindolonaaDoorProg.lean LOADS. Nothing in Lean hashes anything: it is a label: what it is worth is what the hold of that sum in a sandbox is worth. -/
noncomputable def Tryd.pinned : Pinned := { name := "ytkjoamindolonaadoor", sum := "c0831d9ea6888173b1f8e7e0c61c1c639fe91a25e6623738ab3b25faaa79ccc7", checked := Tryd.checked }
namespace Rows
def none {H : Type} : Left H := { results := [], args := [] }

/- WHAT THE LISTED PACKAGE-LEVEL VARIABLES READ AS WHEN THE CALL BEGINS. Each datum BY PROGRAM (the guide's laid-datum.mjs) off the statement by which the dump's own 'gosem.cut.vars' lays the variable. In a bare row this is a premise. The card (YtkjoamindolonaaDoorCards.lean) ties it to the program's text. -/
def laid_lampblack_unit_first {H : Type} : DataW H := .agg [.lit (.int .i64 1), .lit (.int .i64 0), .lit (.int .i64 0), .lit (.int .i64 1)]

/-- 'lampblacklaw01.UnitCarries': WHATEVER THE INPUT: true; the input reads as it did. -/
def unitCarriesSpec : ChangeSpec := { name := "unitCarries", fn := fun _ => fun
  | [d1, d2] => { results := [.lit (.bool true)], args := [d1, d2] }
  | _ => none }
def unitCarriesRow : OpenClaim := { program := "ytkjoamindolonaadoor", sum := "c0831d9ea6888173b1f8e7e0c61c1c639fe91a25e6623738ab3b25faaa79ccc7", func := "lampblack/lampblacklaw01.UnitCarries", spec := "unitCarries", unfollowed := true, recurses := true, named := ["lampblack/unit.first"], apart := false, laid := [("lampblack/unit.first", laid_lampblack_unit_first)] }
def UnitCarriesSaid : Prop := unitCarriesRow.holds Tryd.pinned (OpenSpec.ofChange unitCarriesSpec)

/-- ITS FALSE NEIGHBOUR: 'it returns false'. Refute it at one input. -/
def unitCarriesWrong : ChangeSpec := { name := "unitCarries", fn := fun _ => fun
  | [d1, d2] => { results := [.lit (.bool false)], args := [d1, d2] }
  | _ => none }
def UnitCarriesWrongFalsely : Prop := unitCarriesRow.holds Tryd.pinned (OpenSpec.ofChange unitCarriesWrong)

/-- 'lampblacklaw01.UnitSimple': WHATEVER THE INPUT: true; the input reads as it did. -/
def unitSimpleSpec : ChangeSpec := { name := "unitSimple", fn := fun _ => fun
  | [d] => { results := [.lit (.bool true)], args := [d] }
  | _ => none }
def unitSimpleRow : OpenClaim := { program := "ytkjoamindolonaadoor", sum := "c0831d9ea6888173b1f8e7e0c61c1c639fe91a25e6623738ab3b25faaa79ccc7", func := "lampblack/lampblacklaw01.UnitSimple", spec := "unitSimple", unfollowed := true, recurses := true, named := ["lampblack/unit.first"], apart := false, laid := [("lampblack/unit.first", laid_lampblack_unit_first)] }
def UnitSimpleSaid : Prop := unitSimpleRow.holds Tryd.pinned (OpenSpec.ofChange unitSimpleSpec)

/-- ITS FALSE NEIGHBOUR: 'it returns false'. Refute it at one input. -/
def unitSimpleWrong : ChangeSpec := { name := "unitSimple", fn := fun _ => fun
  | [d] => { results := [.lit (.bool false)], args := [d] }
  | _ => none }
def UnitSimpleWrongFalsely : Prop := unitSimpleRow.holds Tryd.pinned (OpenSpec.ofChange unitSimpleWrong)

/-- 'lampblacklaw01.UnitPaths': WHATEVER THE INPUT: true; the input reads as it did. -/
def unitPathsSpec : ChangeSpec := { name := "unitPaths", fn := fun _ => fun
  | [d1, d2] => { results := [.lit (.bool true)], args := [d1, d2] }
  | _ => none }
def unitPathsRow : OpenClaim := { program := "ytkjoamindolonaadoor", sum := "c0831d9ea6888173b1f8e7e0c61c1c639fe91a25e6623738ab3b25faaa79ccc7", func := "lampblack/lampblacklaw01.UnitPaths", spec := "unitPaths", unfollowed := true, recurses := true, named := ["lampblack/unit.first"], apart := false, laid := [("lampblack/unit.first", laid_lampblack_unit_first)] }
def UnitPathsSaid : Prop := unitPathsRow.holds Tryd.pinned (OpenSpec.ofChange unitPathsSpec)

/-- ITS FALSE NEIGHBOUR: 'it returns false'. Refute it at one input. -/
def unitPathsWrong : ChangeSpec := { name := "unitPaths", fn := fun _ => fun
  | [d1, d2] => { results := [.lit (.bool false)], args := [d1, d2] }
  | _ => none }
def UnitPathsWrongFalsely : Prop := unitPathsRow.holds Tryd.pinned (OpenSpec.ofChange unitPathsWrong)

/-- 'lampblacklaw01.UnitNexts': WHATEVER THE INPUT: true; the input reads as it did. -/
def unitNextsSpec : ChangeSpec := { name := "unitNexts", fn := fun _ => fun
  | [d1, d2] => { results := [.lit (.bool true)], args := [d1, d2] }
  | _ => none }
def unitNextsRow : OpenClaim := { program := "ytkjoamindolonaadoor", sum := "c0831d9ea6888173b1f8e7e0c61c1c639fe91a25e6623738ab3b25faaa79ccc7", func := "lampblack/lampblacklaw01.UnitNexts", spec := "unitNexts", unfollowed := true, recurses := true, named := ["lampblack/unit.first"], apart := false, laid := [("lampblack/unit.first", laid_lampblack_unit_first)] }
def UnitNextsSaid : Prop := unitNextsRow.holds Tryd.pinned (OpenSpec.ofChange unitNextsSpec)

/-- ITS FALSE NEIGHBOUR: 'it returns false'. Refute it at one input. -/
def unitNextsWrong : ChangeSpec := { name := "unitNexts", fn := fun _ => fun
  | [d1, d2] => { results := [.lit (.bool false)], args := [d1, d2] }
  | _ => none }
def UnitNextsWrongFalsely : Prop := unitNextsRow.holds Tryd.pinned (OpenSpec.ofChange unitNextsWrong)

/-- 'lampblacklaw01.UnitCarried': WHATEVER THE INPUT: true; the input reads as it did. -/
def unitCarriedSpec : ChangeSpec := { name := "unitCarried", fn := fun _ => fun
  | [d1, d2, d3] => { results := [.lit (.bool true)], args := [d1, d2, d3] }
  | _ => none }
def unitCarriedRow : OpenClaim := { program := "ytkjoamindolonaadoor", sum := "c0831d9ea6888173b1f8e7e0c61c1c639fe91a25e6623738ab3b25faaa79ccc7", func := "lampblack/lampblacklaw01.UnitCarried", spec := "unitCarried", unfollowed := true, recurses := true, named := ["lampblack/unit.first"], apart := false, laid := [("lampblack/unit.first", laid_lampblack_unit_first)] }
def UnitCarriedSaid : Prop := unitCarriedRow.holds Tryd.pinned (OpenSpec.ofChange unitCarriedSpec)

/-- ITS FALSE NEIGHBOUR: 'it returns false'. Refute it at one input. -/
def unitCarriedWrong : ChangeSpec := { name := "unitCarried", fn := fun _ => fun
  | [d1, d2, d3] => { results := [.lit (.bool false)], args := [d1, d2, d3] }
  | _ => none }
def UnitCarriedWrongFalsely : Prop := unitCarriedRow.holds Tryd.pinned (OpenSpec.ofChange unitCarriedWrong)

/-- 'lampblacklaw01.UnitTurned': WHATEVER THE INPUT: true; the input reads as it did. -/
def unitTurnedSpec : ChangeSpec := { name := "unitTurned", fn := fun _ => fun
  | [d1, d2] => { results := [.lit (.bool true)], args := [d1, d2] }
  | _ => none }
def unitTurnedRow : OpenClaim := { program := "ytkjoamindolonaadoor", sum := "c0831d9ea6888173b1f8e7e0c61c1c639fe91a25e6623738ab3b25faaa79ccc7", func := "lampblack/lampblacklaw01.UnitTurned", spec := "unitTurned", unfollowed := true, recurses := true, named := ["lampblack/unit.first"], apart := false, laid := [("lampblack/unit.first", laid_lampblack_unit_first)] }
def UnitTurnedSaid : Prop := unitTurnedRow.holds Tryd.pinned (OpenSpec.ofChange unitTurnedSpec)

/-- ITS FALSE NEIGHBOUR: 'it returns false'. Refute it at one input. -/
def unitTurnedWrong : ChangeSpec := { name := "unitTurned", fn := fun _ => fun
  | [d1, d2] => { results := [.lit (.bool false)], args := [d1, d2] }
  | _ => none }
def UnitTurnedWrongFalsely : Prop := unitTurnedRow.holds Tryd.pinned (OpenSpec.ofChange unitTurnedWrong)

/-- 'lampblacklaw01.UnitNarrower': WHATEVER THE INPUT: true; the input reads as it did. -/
def unitNarrowerSpec : ChangeSpec := { name := "unitNarrower", fn := fun _ => fun
  | [d1, d2] => { results := [.lit (.bool true)], args := [d1, d2] }
  | _ => none }
def unitNarrowerRow : OpenClaim := { program := "ytkjoamindolonaadoor", sum := "c0831d9ea6888173b1f8e7e0c61c1c639fe91a25e6623738ab3b25faaa79ccc7", func := "lampblack/lampblacklaw01.UnitNarrower", spec := "unitNarrower", unfollowed := true, recurses := true, named := ["lampblack/unit.first"], apart := false, laid := [("lampblack/unit.first", laid_lampblack_unit_first)] }
def UnitNarrowerSaid : Prop := unitNarrowerRow.holds Tryd.pinned (OpenSpec.ofChange unitNarrowerSpec)

/-- ITS FALSE NEIGHBOUR: 'it returns false'. Refute it at one input. -/
def unitNarrowerWrong : ChangeSpec := { name := "unitNarrower", fn := fun _ => fun
  | [d1, d2] => { results := [.lit (.bool false)], args := [d1, d2] }
  | _ => none }
def UnitNarrowerWrongFalsely : Prop := unitNarrowerRow.holds Tryd.pinned (OpenSpec.ofChange unitNarrowerWrong)

/-- 'lampblacklaw01.UnitPath': WHATEVER THE INPUT: true; the input reads as it did. -/
def unitPathSpec : ChangeSpec := { name := "unitPath", fn := fun _ => fun
  | [d1, d2] => { results := [.lit (.bool true)], args := [d1, d2] }
  | _ => none }
def unitPathRow : OpenClaim := { program := "ytkjoamindolonaadoor", sum := "c0831d9ea6888173b1f8e7e0c61c1c639fe91a25e6623738ab3b25faaa79ccc7", func := "lampblack/lampblacklaw01.UnitPath", spec := "unitPath", unfollowed := true, recurses := true, named := ["lampblack/unit.first"], apart := false, laid := [("lampblack/unit.first", laid_lampblack_unit_first)] }
def UnitPathSaid : Prop := unitPathRow.holds Tryd.pinned (OpenSpec.ofChange unitPathSpec)

/-- ITS FALSE NEIGHBOUR: 'it returns false'. Refute it at one input. -/
def unitPathWrong : ChangeSpec := { name := "unitPath", fn := fun _ => fun
  | [d1, d2] => { results := [.lit (.bool false)], args := [d1, d2] }
  | _ => none }
def UnitPathWrongFalsely : Prop := unitPathRow.holds Tryd.pinned (OpenSpec.ofChange unitPathWrong)

/-- 'lampblacklaw01.UnitNeighbours': WHATEVER THE INPUT: true; the input reads as it did. -/
def unitNeighboursSpec : ChangeSpec := { name := "unitNeighbours", fn := fun _ => fun
  | [d1, d2, d3, d4] => { results := [.lit (.bool true)], args := [d1, d2, d3, d4] }
  | _ => none }
def unitNeighboursRow : OpenClaim := { program := "ytkjoamindolonaadoor", sum := "c0831d9ea6888173b1f8e7e0c61c1c639fe91a25e6623738ab3b25faaa79ccc7", func := "lampblack/lampblacklaw01.UnitNeighbours", spec := "unitNeighbours", unfollowed := true, recurses := true, named := ["lampblack/unit.first"], apart := false, laid := [("lampblack/unit.first", laid_lampblack_unit_first)] }
def UnitNeighboursSaid : Prop := unitNeighboursRow.holds Tryd.pinned (OpenSpec.ofChange unitNeighboursSpec)

/-- ITS FALSE NEIGHBOUR: 'it returns false'. Refute it at one input. -/
def unitNeighboursWrong : ChangeSpec := { name := "unitNeighbours", fn := fun _ => fun
  | [d1, d2, d3, d4] => { results := [.lit (.bool false)], args := [d1, d2, d3, d4] }
  | _ => none }
def UnitNeighboursWrongFalsely : Prop := unitNeighboursRow.holds Tryd.pinned (OpenSpec.ofChange unitNeighboursWrong)

/-- 'lampblacklaw01.UnitKnown': WHATEVER THE INPUT: true; the input reads as it did. -/
def unitKnownSpec : ChangeSpec := { name := "unitKnown", fn := fun _ => fun
  | [] => { results := [.lit (.bool true)], args := [] }
  | _ => none }
def unitKnownRow : OpenClaim := { program := "ytkjoamindolonaadoor", sum := "c0831d9ea6888173b1f8e7e0c61c1c639fe91a25e6623738ab3b25faaa79ccc7", func := "lampblack/lampblacklaw01.UnitKnown", spec := "unitKnown", unfollowed := true, recurses := true, named := ["lampblack/unit.first"], apart := false, laid := [("lampblack/unit.first", laid_lampblack_unit_first)] }
def UnitKnownSaid : Prop := unitKnownRow.holds Tryd.pinned (OpenSpec.ofChange unitKnownSpec)

/-- ITS FALSE NEIGHBOUR: 'it returns false'. Refute it at one input. -/
def unitKnownWrong : ChangeSpec := { name := "unitKnown", fn := fun _ => fun
  | [] => { results := [.lit (.bool false)], args := [] }
  | _ => none }
def UnitKnownWrongFalsely : Prop := unitKnownRow.holds Tryd.pinned (OpenSpec.ofChange unitKnownWrong)

/-- 'lampblacklaw01.UnitProofs': WHATEVER THE INPUT: true; the input reads as it did. -/
def unitProofsSpec : ChangeSpec := { name := "unitProofs", fn := fun _ => fun
  | [d1, d2] => { results := [.lit (.bool true)], args := [d1, d2] }
  | _ => none }
def unitProofsRow : OpenClaim := { program := "ytkjoamindolonaadoor", sum := "c0831d9ea6888173b1f8e7e0c61c1c639fe91a25e6623738ab3b25faaa79ccc7", func := "lampblack/lampblacklaw01.UnitProofs", spec := "unitProofs", unfollowed := true, recurses := true, named := ["lampblack/unit.first"], apart := false, laid := [("lampblack/unit.first", laid_lampblack_unit_first)] }
def UnitProofsSaid : Prop := unitProofsRow.holds Tryd.pinned (OpenSpec.ofChange unitProofsSpec)

/-- ITS FALSE NEIGHBOUR: 'it returns false'. Refute it at one input. -/
def unitProofsWrong : ChangeSpec := { name := "unitProofs", fn := fun _ => fun
  | [d1, d2] => { results := [.lit (.bool false)], args := [d1, d2] }
  | _ => none }
def UnitProofsWrongFalsely : Prop := unitProofsRow.holds Tryd.pinned (OpenSpec.ofChange unitProofsWrong)

/-- 'lampblacklaw01.UnitProved': WHATEVER THE INPUT: true; the input reads as it did. -/
def unitProvedSpec : ChangeSpec := { name := "unitProved", fn := fun _ => fun
  | [d1, d2, d3] => { results := [.lit (.bool true)], args := [d1, d2, d3] }
  | _ => none }
def unitProvedRow : OpenClaim := { program := "ytkjoamindolonaadoor", sum := "c0831d9ea6888173b1f8e7e0c61c1c639fe91a25e6623738ab3b25faaa79ccc7", func := "lampblack/lampblacklaw01.UnitProved", spec := "unitProved", unfollowed := true, recurses := true, named := ["lampblack/unit.first"], apart := false, laid := [("lampblack/unit.first", laid_lampblack_unit_first)] }
def UnitProvedSaid : Prop := unitProvedRow.holds Tryd.pinned (OpenSpec.ofChange unitProvedSpec)

/-- ITS FALSE NEIGHBOUR: 'it returns false'. Refute it at one input. -/
def unitProvedWrong : ChangeSpec := { name := "unitProved", fn := fun _ => fun
  | [d1, d2, d3] => { results := [.lit (.bool false)], args := [d1, d2, d3] }
  | _ => none }
def UnitProvedWrongFalsely : Prop := unitProvedRow.holds Tryd.pinned (OpenSpec.ofChange unitProvedWrong)

/- THE SECOND FORM. 'bulk': how many values and letters a reading holds, each counted each time it is reached (what is shared counts as often as it is met; a slice's spare places count too). A statement '..UptoSaid' is the law's where the arguments, and the package variables that the reading takes, are together of bulk at most 1048576: NARROWER than '..Said'. Prove '..Said' where nothing that the law and all that it calls make is longer than what came in: it says more and counts as full. Else prove '..UptoSaid'. A law counts once. -/
mutual
def uptoBulk {H : Type} : DataW H → Nat
  | .lit (.string bytes) => bytes.length + 1
  | .lit _ => 1
  | .nil => 1
  | .ptr d => uptoBulk d + 1
  | .slice elems spare => uptoBulkAll elems + uptoBulkAll spare + 1
  | .agg parts => uptoBulkAll parts + 1
  | .iface _ d => uptoBulk d + 1
  | .map entries => uptoBulkEntries entries + 1
  | .held _ => 1
def uptoBulkAll {H : Type} : List (DataW H) → Nat
  | [] => 0
  | d :: r => uptoBulk d + uptoBulkAll r
def uptoBulkEntries {H : Type} : List (Lit × DataW H) → Nat
  | [] => 0
  | x :: r => uptoBulkEntry x + uptoBulkEntries r
def uptoBulkEntry {H : Type} : Lit × DataW H → Nat
  | (.string bytes, d) => bytes.length + uptoBulk d + 1
  | (_, d) => uptoBulk d + 1
 end
def uptoSmall : (H : Type) → List (DataW H) → Bool := fun _ ds => decide (uptoBulkAll ds ≤ 1048576)
def OpenSpec.upto (s : _root_.Go.ChangeSpec) : _root_.Go.OpenSpec := { _root_.Go.OpenSpec.ofChange s with cond := some uptoSmall }

/-- 'lampblacklaw01.UnitCarries', WHERE WHAT IT READS IS OF BULK AT MOST 1048576: true; the input reads as it did. -/
def unitCarriesUptoRow : OpenClaim := { program := "ytkjoamindolonaadoor", sum := "c0831d9ea6888173b1f8e7e0c61c1c639fe91a25e6623738ab3b25faaa79ccc7", func := "lampblack/lampblacklaw01.UnitCarries", spec := "unitCarries", unfollowed := true, recurses := true, named := ["lampblack/unit.first"], apart := false, laid := [("lampblack/unit.first", laid_lampblack_unit_first)], narrowed := true }
def UnitCarriesUptoSaid : Prop := unitCarriesUptoRow.holds Tryd.pinned (OpenSpec.upto unitCarriesSpec)

/-- 'lampblacklaw01.UnitSimple', WHERE WHAT IT READS IS OF BULK AT MOST 1048576: true; the input reads as it did. -/
def unitSimpleUptoRow : OpenClaim := { program := "ytkjoamindolonaadoor", sum := "c0831d9ea6888173b1f8e7e0c61c1c639fe91a25e6623738ab3b25faaa79ccc7", func := "lampblack/lampblacklaw01.UnitSimple", spec := "unitSimple", unfollowed := true, recurses := true, named := ["lampblack/unit.first"], apart := false, laid := [("lampblack/unit.first", laid_lampblack_unit_first)], narrowed := true }
def UnitSimpleUptoSaid : Prop := unitSimpleUptoRow.holds Tryd.pinned (OpenSpec.upto unitSimpleSpec)

/-- 'lampblacklaw01.UnitPaths', WHERE WHAT IT READS IS OF BULK AT MOST 1048576: true; the input reads as it did. -/
def unitPathsUptoRow : OpenClaim := { program := "ytkjoamindolonaadoor", sum := "c0831d9ea6888173b1f8e7e0c61c1c639fe91a25e6623738ab3b25faaa79ccc7", func := "lampblack/lampblacklaw01.UnitPaths", spec := "unitPaths", unfollowed := true, recurses := true, named := ["lampblack/unit.first"], apart := false, laid := [("lampblack/unit.first", laid_lampblack_unit_first)], narrowed := true }
def UnitPathsUptoSaid : Prop := unitPathsUptoRow.holds Tryd.pinned (OpenSpec.upto unitPathsSpec)

/-- 'lampblacklaw01.UnitNexts', WHERE WHAT IT READS IS OF BULK AT MOST 1048576: true; the input reads as it did. -/
def unitNextsUptoRow : OpenClaim := { program := "ytkjoamindolonaadoor", sum := "c0831d9ea6888173b1f8e7e0c61c1c639fe91a25e6623738ab3b25faaa79ccc7", func := "lampblack/lampblacklaw01.UnitNexts", spec := "unitNexts", unfollowed := true, recurses := true, named := ["lampblack/unit.first"], apart := false, laid := [("lampblack/unit.first", laid_lampblack_unit_first)], narrowed := true }
def UnitNextsUptoSaid : Prop := unitNextsUptoRow.holds Tryd.pinned (OpenSpec.upto unitNextsSpec)

/-- 'lampblacklaw01.UnitCarried', WHERE WHAT IT READS IS OF BULK AT MOST 1048576: true; the input reads as it did. -/
def unitCarriedUptoRow : OpenClaim := { program := "ytkjoamindolonaadoor", sum := "c0831d9ea6888173b1f8e7e0c61c1c639fe91a25e6623738ab3b25faaa79ccc7", func := "lampblack/lampblacklaw01.UnitCarried", spec := "unitCarried", unfollowed := true, recurses := true, named := ["lampblack/unit.first"], apart := false, laid := [("lampblack/unit.first", laid_lampblack_unit_first)], narrowed := true }
def UnitCarriedUptoSaid : Prop := unitCarriedUptoRow.holds Tryd.pinned (OpenSpec.upto unitCarriedSpec)

/-- 'lampblacklaw01.UnitTurned', WHERE WHAT IT READS IS OF BULK AT MOST 1048576: true; the input reads as it did. -/
def unitTurnedUptoRow : OpenClaim := { program := "ytkjoamindolonaadoor", sum := "c0831d9ea6888173b1f8e7e0c61c1c639fe91a25e6623738ab3b25faaa79ccc7", func := "lampblack/lampblacklaw01.UnitTurned", spec := "unitTurned", unfollowed := true, recurses := true, named := ["lampblack/unit.first"], apart := false, laid := [("lampblack/unit.first", laid_lampblack_unit_first)], narrowed := true }
def UnitTurnedUptoSaid : Prop := unitTurnedUptoRow.holds Tryd.pinned (OpenSpec.upto unitTurnedSpec)

/-- 'lampblacklaw01.UnitNarrower', WHERE WHAT IT READS IS OF BULK AT MOST 1048576: true; the input reads as it did. -/
def unitNarrowerUptoRow : OpenClaim := { program := "ytkjoamindolonaadoor", sum := "c0831d9ea6888173b1f8e7e0c61c1c639fe91a25e6623738ab3b25faaa79ccc7", func := "lampblack/lampblacklaw01.UnitNarrower", spec := "unitNarrower", unfollowed := true, recurses := true, named := ["lampblack/unit.first"], apart := false, laid := [("lampblack/unit.first", laid_lampblack_unit_first)], narrowed := true }
def UnitNarrowerUptoSaid : Prop := unitNarrowerUptoRow.holds Tryd.pinned (OpenSpec.upto unitNarrowerSpec)

/-- 'lampblacklaw01.UnitPath', WHERE WHAT IT READS IS OF BULK AT MOST 1048576: true; the input reads as it did. -/
def unitPathUptoRow : OpenClaim := { program := "ytkjoamindolonaadoor", sum := "c0831d9ea6888173b1f8e7e0c61c1c639fe91a25e6623738ab3b25faaa79ccc7", func := "lampblack/lampblacklaw01.UnitPath", spec := "unitPath", unfollowed := true, recurses := true, named := ["lampblack/unit.first"], apart := false, laid := [("lampblack/unit.first", laid_lampblack_unit_first)], narrowed := true }
def UnitPathUptoSaid : Prop := unitPathUptoRow.holds Tryd.pinned (OpenSpec.upto unitPathSpec)

/-- 'lampblacklaw01.UnitNeighbours', WHERE WHAT IT READS IS OF BULK AT MOST 1048576: true; the input reads as it did. -/
def unitNeighboursUptoRow : OpenClaim := { program := "ytkjoamindolonaadoor", sum := "c0831d9ea6888173b1f8e7e0c61c1c639fe91a25e6623738ab3b25faaa79ccc7", func := "lampblack/lampblacklaw01.UnitNeighbours", spec := "unitNeighbours", unfollowed := true, recurses := true, named := ["lampblack/unit.first"], apart := false, laid := [("lampblack/unit.first", laid_lampblack_unit_first)], narrowed := true }
def UnitNeighboursUptoSaid : Prop := unitNeighboursUptoRow.holds Tryd.pinned (OpenSpec.upto unitNeighboursSpec)

/-- 'lampblacklaw01.UnitKnown', WHERE WHAT IT READS IS OF BULK AT MOST 1048576: true; the input reads as it did. -/
def unitKnownUptoRow : OpenClaim := { program := "ytkjoamindolonaadoor", sum := "c0831d9ea6888173b1f8e7e0c61c1c639fe91a25e6623738ab3b25faaa79ccc7", func := "lampblack/lampblacklaw01.UnitKnown", spec := "unitKnown", unfollowed := true, recurses := true, named := ["lampblack/unit.first"], apart := false, laid := [("lampblack/unit.first", laid_lampblack_unit_first)], narrowed := true }
def UnitKnownUptoSaid : Prop := unitKnownUptoRow.holds Tryd.pinned (OpenSpec.upto unitKnownSpec)

/-- 'lampblacklaw01.UnitProofs', WHERE WHAT IT READS IS OF BULK AT MOST 1048576: true; the input reads as it did. -/
def unitProofsUptoRow : OpenClaim := { program := "ytkjoamindolonaadoor", sum := "c0831d9ea6888173b1f8e7e0c61c1c639fe91a25e6623738ab3b25faaa79ccc7", func := "lampblack/lampblacklaw01.UnitProofs", spec := "unitProofs", unfollowed := true, recurses := true, named := ["lampblack/unit.first"], apart := false, laid := [("lampblack/unit.first", laid_lampblack_unit_first)], narrowed := true }
def UnitProofsUptoSaid : Prop := unitProofsUptoRow.holds Tryd.pinned (OpenSpec.upto unitProofsSpec)

/-- 'lampblacklaw01.UnitProved', WHERE WHAT IT READS IS OF BULK AT MOST 1048576: true; the input reads as it did. -/
def unitProvedUptoRow : OpenClaim := { program := "ytkjoamindolonaadoor", sum := "c0831d9ea6888173b1f8e7e0c61c1c639fe91a25e6623738ab3b25faaa79ccc7", func := "lampblack/lampblacklaw01.UnitProved", spec := "unitProved", unfollowed := true, recurses := true, named := ["lampblack/unit.first"], apart := false, laid := [("lampblack/unit.first", laid_lampblack_unit_first)], narrowed := true }
def UnitProvedUptoSaid : Prop := unitProvedUptoRow.holds Tryd.pinned (OpenSpec.upto unitProvedSpec)

end Rows
end Go.Proofs.YtkjoamindolonaaDoor
